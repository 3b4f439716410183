/-
  The abstract machine, part 24: the equations of drawn regions for `simp only`.
-/
import Derived.Test.YtpnhehcncljhpaaAm23
namespace Go.Am
set_option linter.unusedVariables false
variable {P : Program} {sh : TypeId → Option (List Leaf)} {ct : Ct} {K : Kt} {t : List AV} {h : List ABlk} {an : List (List Nat)} {L i s : Nat} {all : List Oper} {log : List LogE}
theorem d_nil : wpD P sh ct an L all K [] i log s t h = (s ≤ L ∧ K .normal t h) := rfl
theorem d_cons {o : Oper} {r : List Oper} : wpD P sh ct an L all K (o :: r) i log s t h = nxtD an i L log s (gval t all o.guard) (evO P sh ct t (mask (refsOp t o.op) h) o.op) (ogOp t o.op) (refsOp t o.op) o.dst t h (wpD P sh ct an L all K r (i + 1)) := rfl
theorem dead0 : List.replicate 0 ABlk.dead = [] := rfl
theorem deadS {n : Nat} : List.replicate (n + 1) ABlk.dead = .dead :: List.replicate n .dead := rfl
theorem nr_litC {n z : Nat} {l : List AV} (hl : nrL n l) (x y : Nat) : nr n (litC z l x y) := by
  unfold litC
  rcases Nat.lt_or_ge (x * z + y) l.length with hi | hi
  · exact nrL_get hl (getL_some hi)
  · rw [getL_none hi]; simp [nr]
theorem nrB_litC {e es m n z : Nat} {l : List AV} (hl : nrL n l) : nrB n (.row e es m (litC z l)) := fun x y _ _ => nr_litC hl x y
end Go.Am
