/-
  The runs that the law AddressNames makes, computed.
-/
import Derived.Test.YtiameicjjlfimaaN
namespace Go.Proofs.Ytiameicjjlfimaa
open Go.Am
noncomputable section
set_option linter.unusedVariables false
set_option maxRecDepth 100000
def addr (k : Nat) : List CV := [.int .u8 (.ofNat 7), .int .u8 (.ofNat k), .int .u8 (.ofNat 0), .int .u8 (.ofNat 0), .int .u8 (.ofNat 0), .int .u8 (.ofNat 0)]
def rowsFrom : Nat → Nat → List (List CV)
  | _, 0 => []
  | i, k + 1 => addr i :: rowsFrom (i + 1) k
/-- The 256 addresses. -/
def fullR : List (List CV) := rowsFrom 0 256
def oneA : CV := .agg [.int .u8 (.ofNat 1), .int .u8 (.ofNat 0), .int .u8 (.ofNat 0), .int .u8 (.ofNat 0), .int .u8 (.ofNat 0), .int .u8 (.ofNat 0)]
def noMd : FuncId → Bool := fun _ => false
theorem run40 : told (cCall Try.prog (shA Try.prog) xt0 noMd 20 40 [.ro 6 false fullR] 0 .e) (.int .i64 (.ofNat 0)) [] = true := by kernel_rfl
def memo1 : Memo := [(40, [.ro 6 false fullR], .int .i64 (.ofNat 0), [])]
theorem memo1_ok : MemoOk Try.prog memo1 := memo_cons (shA_ok _) xt0_ok follows run40 memo_nil
def xt1 : Cl := memoX memo1 xt0
theorem xt1_ok : ClOk Try.prog xt1 := memoX_ok memo1_ok xt0_ok
theorem run29 : told (cCall Try.prog (shA Try.prog) xt1 noMd 20 29 [.ro 6 false fullR, oneA] 0 .e) (.tup [.ro 0 true [], .int .i64 (.ofNat 22)]) [] = true := by kernel_rfl
theorem run29b : told (cCall Try.prog (shA Try.prog) xt1 noMd 20 29 [.ro 6 false fullR, .agg (addr 9)] 0 .e) (.tup [.sl 0 6 0 256 false, .int .i64 (.ofNat 0)]) [.row 23 6 fullR] = true := by kernel_rfl
theorem run39 : told (cCall Try.prog (shA Try.prog) xt1 noMd 20 39 [.ro 6 false fullR, .ro 6 false fullR] 0 .e) (.bool true) [] = true := by kernel_rfl
def memo2 : Memo := [(39, [.ro 6 false fullR, .ro 6 false fullR], .bool true, []), (29, [.ro 6 false fullR, .agg (addr 9)], .tup [.sl 0 6 0 256 false, .int .i64 (.ofNat 0)], [.row 23 6 fullR]), (29, [.ro 6 false fullR, oneA], .tup [.ro 0 true [], .int .i64 (.ofNat 22)], [])]
theorem memo2_ok : MemoOk Try.prog memo2 := memo_cons (shA_ok _) xt1_ok follows run39 <| memo_cons (shA_ok _) xt1_ok follows run29b <| memo_cons (shA_ok _) xt1_ok follows run29 memo_nil
def xt2 : Cl := memoX memo2 xt1
theorem xt2_ok : ClOk Try.prog xt2 := memoX_ok memo2_ok xt1_ok
theorem run9 : cCall Try.prog (shA Try.prog) xt2 noMd 20 9 [] 0 .e = .p (.bool true) := by kernel_rfl
theorem ok9 : FnOk Try.prog 9 (pureC fun l => match l with | [] => .pure True (.bool true) | _ => .fail) := run_fn (shA_ok _) xt2_ok follows run9
end
end Go.Proofs.Ytiameicjjlfimaa
