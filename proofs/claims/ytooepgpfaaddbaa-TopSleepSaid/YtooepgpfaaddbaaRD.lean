/-
  bitmap.read: a loop over an iterator (the kit's laws).
-/
import Derived.RangeFuncBox
import Derived.RangeFuncWrites
import Derived.RangeFuncLeaves
import Derived.Shelf.Abstract
import Derived.WalkKit
import Derived.OwnWalkIn
import Derived.TacticsInMore
import Derived.LoopNIn
import Derived.LoopIn
import Derived.Maps.AppendAt
import Derived.Test.YtooepgpfaaddbaaProg
namespace Go.Proofs.Ytooepgpfaaddbaa
open Go.RowKit Go.Shelf

attribute [go_sem] Oper.semAt_some

theorem andA : ∀ k : Fin 256, bits BinOp.and IntKind.i64 ((k.1 : Nat) : Int) 7 = ((k.1 % 8 : Nat) : Int) := by decide +kernel
def bitA (m : Array Value) (a : Nat) : Bool := match m[a / 8]? with
  | some (.int .u8 q) => decide (bits BinOp.and IntKind.u8 (q / 2 ^ (a % 8)) 1 = 1)
  | _ => false
def ones (m : Array Value) (k : Nat) : List Int := ((List.range k).filter (bitA m)).map Int.ofNat
theorem ones_succ (m : Array Value) (k : Nat) : ones m (k + 1) = ones m k ++ (if bitA m k then [(k : Int)] else []) := by
  unfold ones
  rw [List.range_succ, List.filter_append, List.map_append]
  congr 1
  cases h : bitA m k <;> simp [h]
theorem ones_prefix (m : Array Value) {k n : Nat} (h : k <= n) : ones m k <+: ones m n := by
  induction n with
  | zero => obtain rfl : k = 0 := by omega
            exact List.prefix_refl _
  | succ n ih =>
    rcases Nat.lt_or_ge k (n + 1) with h' | h'
    · rw [ones_succ]; exact (ih (by omega)).trans (List.prefix_append _ _)
    · obtain rfl : k = n + 1 := by omega
      exact List.prefix_refl _
set_option maxRecDepth 100000 in
set_option maxHeartbeats 1000000 in
theorem aids1_in (F : Fence) (n : Nat) (h6 : F.fn 74) (hro : F.round = none) (hn : 1 <= n) (l Bn : Nat) (m : Array Value) (J Jx : List Int -> World -> Prop)
    (hY : ∀ pre x W, J pre W -> pre.length < (ones m 256).length -> YieldAt F (n - 1) Try.prog l #[.int .i64 x] W fun e W' =>
      (e = .returned (.bool true) /\ J (pre ++ [x]) W' /\ W'.heap[Bn]? = W.heap[Bn]?) ∨ (e = .returned (.bool false) /\ Jx (pre ++ [x]) W'))
    (W : World) (hm : ∀ i, i < 32 -> ∃ q : Nat, q < 256 /\ m[i]? = some (.int .u8 q)) (hBn : W.heap[Bn]? = some (.cells m 121 (0, 0))) (h0 : J [] W) :
    CallsIn F n Try.prog 74 #[.func (.yield l) #[] #[], .pointer (some ⟨Bn, 0, none⟩)] W fun e W' => (∃ v, e = .returned v) /\
      ((∃ ys, ys = ones m 256 /\ J ys W') ∨ (∃ pre, pre <+: ones m 256 /\ Jx pre W')) := by
  refine callsIn_of_wp Try.func74 rfl h6 ?_ hro
  simp only [Try.ntmps74, List.size_toArray, List.length_cons, List.length_nil, Nat.reduceAdd, Nat.reduceSub, Array.replicate_succ, Array.replicate_zero, List.push_toArray, List.append_toArray, List.nil_append, List.cons_append]
  gi_wp2
  gi_loopw [4] (fun c wr => ∃ k : Nat, c = .int .i64 k /\ k <= 256 /\ J (ones m k) wr /\ wr.heap[Bn]? = some (.cells m 121 (0, 0))) (fun c _ => match c with | .int _ k => (256 - k).toNat | _ => 0)
  case atStart => exact ⟨0, rfl, by omega, by simpa [ones] using h0, hBn⟩
  case round =>
    obtain ⟨k, rfl, hk, hJ, hB⟩ := hrel
    by_cases hk' : k < 256
    · obtain ⟨q, hq, hqm⟩ := hm (k / 8) (by omega)
      have hc : wr.cell? ⟨Bn, k / 8, none⟩ = some (.int .u8 q) := by simp [World.cell?, hB, hqm]
      have hA := andA ⟨k, hk'⟩
      have h0' : (0 : Int) <= ((k % 8 : Nat) : Int) := by omega
      have h8' : ((k % 8 : Nat) : Int) <= 8 := by omega
      simp only at hA
      have hbk : bitA m k = decide (bits BinOp.and IntKind.u8 ((q : Int) / 2 ^ (k % 8)) 1 = 1) := by simp [bitA, hqm]
      have hsu := ones_succ m k
      by_cases hbit : bits BinOp.and IntKind.u8 ((q : Int) / 2 ^ (k % 8)) 1 = 1
      · have hb1 : bitA m k = true := by rw [hbk]; simpa using hbit
        rw [hb1] at hsu
        have hpre := (ones_prefix m (show k + 1 <= 256 by omega)).length_le
        obtain ⟨fn, tmps, assign, body, hy, hR⟩ := hY (ones m k) k wr hJ (by rw [hsu] at hpre; simp at hpre; omega)
        clear hbk hpre
        gi_wp2
        refine hR.mono ?_
        rintro e W3 (⟨rfl, hJ3, hk3⟩ | ⟨rfl, hJx3⟩)
        · gi_wp2
          refine ⟨⟨k + 1, by simp, by omega, ?_, hk3.trans hB⟩, by simp only; omega⟩
          rw [hsu]; exact hJ3
        · gi_wp2
          refine bodyPost_ret (results_none rfl _ _ _) rfl ?_
          refine ⟨⟨_, rfl⟩, .inr ⟨ones m k ++ [(k : Int)], ?_, hJx3⟩⟩
          have := ones_prefix m (show k + 1 <= 256 by omega)
          rw [hsu] at this; exact this
      · have hb0 : bitA m k = false := by rw [hbk]; simpa using hbit
        rw [hb0] at hsu
        have hbe : (bits BinOp.and IntKind.u8 ((q : Int) / 2 ^ (k % 8)) 1 == 1) = false := by simpa using hbit
        clear hbk
        gi_wp2
        refine ⟨fun f hf => (by cases hf), ?_⟩
        gi_wp2
        refine ⟨⟨k + 1, by simp, by omega, ?_, hB⟩, by simp only; omega⟩
        rw [hsu]; simpa using hJ
    · obtain rfl : k = 256 := by omega
      gi_wp2
      go_end0
      exact ⟨⟨_, rfl⟩, .inl ⟨_, rfl, hJ⟩⟩
end Go.Proofs.Ytooepgpfaaddbaa
