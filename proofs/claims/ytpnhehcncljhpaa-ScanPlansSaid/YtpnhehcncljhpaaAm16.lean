/-
  The abstract machine, part 16: the walk's own equations, as `simp only` is to use them.
-/
import Derived.Test.YtpnhehcncljhpaaAm15
namespace Go.Am
set_option linter.unusedVariables false
variable (P : Program) (sh : TypeId → Option (List Leaf)) (ct : Ct)
/-- What comes behind, by its text. -/
def kC (b : Code) (K : Kt) : Kt := kSeq (wpC P sh ct b) K
variable {P sh ct} {K : Kt} {t : List AV} {h : List ABlk}
theorem w_skip : wpC P sh ct .skip K t h = K .normal t h := rfl
theorem w_region {id : Nat} {ops : Array Oper} : wpC P sh ct (.region id ops false) K t h = wpO P sh ct ops.toList K ops.toList t h := rfl
theorem w_draw {id : Nat} {ops : Array Oper} : wpC P sh ct (.region id ops true) K t h = Mean P (.region id ops true) K t h := rfl
theorem w_seq {a b : Code} : wpC P sh ct (.seq a b) K t h = wpC P sh ct a (kC P sh ct b K) t h := rfl
theorem w_cond {c : Operand} {x y : Code} : wpC P sh ct (.cond c x y) K t h = cnd (rho t c) (og t c) (wpC P sh ct x K t h) (wpC P sh ct y K t h) := rfl
theorem w_block {id : Nat} {c : Code} : wpC P sh ct (.block id c) K t h = wpC P sh ct c (kBlk id K) t h := rfl
theorem w_exit {id : Nat} : wpC P sh ct (.exit id) K t h = K (.exit id) t h := rfl
theorem w_ret : wpC P sh ct .ret K t h = K .ret t h := rfl
theorem w_loop {c : Code} : wpC P sh ct (.loop c) K t h = Mean P (.loop c) K t h := rfl
theorem w_label {l : Nat} : wpC P sh ct (.label l) K t h = K .normal t h := rfl
theorem w_goto {l : Nat} : wpC P sh ct (.goto l) K t h = K (.goto l) t h := rfl
theorem w_scope {c : Code} : wpC P sh ct (.scope c) K t h = Mean P (.scope c) K t h := rfl
theorem k_goto {b : Code} {l : Nat} : kC P sh ct b K (.goto l) t h = K (.goto l) t h := rfl
theorem b_goto {i l : Nat} : kBlk i K (.goto l) t h = K (.goto l) t h := rfl
theorem k_normal {b : Code} : kC P sh ct b K .normal t h = wpC P sh ct b K t h := rfl
theorem k_exit {b : Code} {id : Nat} : kC P sh ct b K (.exit id) t h = K (.exit id) t h := rfl
theorem k_ret {b : Code} : kC P sh ct b K .ret t h = K .ret t h := rfl
theorem b_normal {i : Nat} : kBlk i K .normal t h = K .normal t h := rfl
theorem b_exit {i j : Nat} : kBlk i K (.exit j) t h = bif j == i then K .normal t h else K (.exit j) t h := by
  simp only [kBlk]; cases (j == i) <;> rfl
theorem b_ret {i : Nat} : kBlk i K .ret t h = K .ret t h := rfl
theorem l_normal {R : List AV → List ABlk → Prop} : kLp R K .normal t h = R t h := rfl
theorem l_exit {R : List AV → List ABlk → Prop} {id : Nat} : kLp R K (.exit id) t h = K (.exit id) t h := rfl
theorem l_goto {R : List AV → List ABlk → Prop} {l : Nat} : kLp R K (.goto l) t h = K (.goto l) t h := rfl
theorem l_ret {R : List AV → List ABlk → Prop} : kLp R K .ret t h = K .ret t h := rfl
theorem r_normal {rs : List ResultVar} {R : AV → List ABlk → Prop} : kRet P rs R .normal t h = retK P rs R t h := rfl
theorem r_ret {rs : List ResultVar} {R : AV → List ABlk → Prop} : kRet P rs R .ret t h = retK P rs R t h := rfl
theorem o_nil {all : List Oper} : wpO P sh ct all K [] t h = K .normal t h := rfl
theorem o_cons {all : List Oper} {o : Oper} {r : List Oper} : wpO P sh ct all K (o :: r) t h = nxt (gval t all o.guard) (evO P sh ct t h o.op) (ogOp t o.op) o.dst t h (wpO P sh ct all K r) := rfl
theorem q_nil {all : List Oper} : wpQ P sh ct all K h [] t = K .normal t h := rfl
theorem q_cons {all : List Oper} {o : Oper} {r : List Oper} : wpQ P sh ct all K h (o :: r) t = nxtQ (gval t all o.guard) (evO P sh ct t h o.op) (ogOp t o.op) o.dst t (wpQ P sh ct all K h r) := rfl
end Go.Am
