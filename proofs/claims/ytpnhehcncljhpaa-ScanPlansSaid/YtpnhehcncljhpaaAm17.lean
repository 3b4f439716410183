/-
  The abstract machine, part 17: a law's call, and what its arguments read as behind it.
-/
import Derived.Test.YtpnhehcncljhpaaAm16
import Derived.Carry
import Derived.ProofKit
import Derived.OpenShut
import Derived.ChangeSame
import Derived.Lib.SmallJoins
namespace Go.Am
open Go.RowKit Go.ChangeShapes Go.WideShapes
set_option linter.unusedVariables false
variable {P : Program}

theorem below_of_same {W W' : World} (S : Same W W') : Below W.heap.size W W' := ⟨S.os, S.tape, S.output, S.size, S.old⟩
def top (W : World) : Env := ⟨W, fun _ => none, fun k => k < W.heap.size⟩
theorem top_HR (W : World) : HR (top W) [] := view_HR ⟨W, fun _ => none, fun _ => False⟩
/-- The call of a law that answers true. -/
theorem law_call {f : FuncId} {body : List AV → AR} {l : List AV} {args : Array Value} {W : World} {ob : Prop} (ok : FnOk P f (pureC body)) (F : FR (top W) l args) (hb : pureC body l [] = .pure ob (.bool true)) (hob : ob) :
    Calls P f args W fun e W' => e = .returned (.bool true) ∧ Same W W' := by
  refine (ok.2.2 (top W) [] l args ob _ (top_HR W) F hb hob).mono ?_
  rintro e W' ⟨u, rfl, hu, hS⟩
  simp only [conc, conc1, Option.some.injEq] at hu
  exact ⟨by rw [hu], hS⟩

section
variable {H : Type} {enc : TypeId × Value → H}
theorem all_stays (hl : laidOutB P = true) {W W' : World} {sp : Nat → Bool} (hb : Below W.heap.size W W') : ∀ (ts : List TypeId) (vs : List Value) (ds : List (DataW H)) (ps : List MemPlace), (ts.all fun t => P.readableRec t && decide (t < P.types.size)) = true →
    DataW.TrodAll enc P W 0 (fun _ => true) true ts vs ds ps → (∀ x ∈ ps, x.block < W.heap.size) → (∀ x ∈ ps, sp x.block = true) → DataW.TrodAll enc P W' 0 sp true ts vs ds ps := by
  intro ts
  induction ts with
  | nil =>
    intro vs ds ps _ h _ _
    obtain ⟨rfl, rfl, rfl⟩ := trodAll_nil h
    exact trodAll_mk0
  | cons t ts ih =>
    intro vs ds ps hts h h1 h2
    obtain ⟨v, vs', d, ds', p, q, rfl, rfl, rfl, hd, hr⟩ := trodAll_cons h
    simp only [List.all_cons, Bool.and_eq_true, decide_eq_true_eq] at hts
    refine trodAll_cons_mk (WideElems.Trod_stays hl hts.1.1 hts.1.2 hd (fun x hx => hb.same (h1 x (List.mem_append_left _ hx))) fun x hx => h2 x (List.mem_append_left _ hx)) ?_
    exact ih _ _ _ (by simpa using hts.2) hr (fun x hx => h1 x (List.mem_append_right _ hx)) fun x hx => h2 x (List.mem_append_right _ hx)
end
theorem FR_nil {E : Env} : FR E [] #[] := ⟨rfl, fun i a v h => by simp at h⟩
theorem FR_list {E : Env} {l : List AV} {vs : List Value} (h : l.length = vs.length ∧ ∀ (i : Nat) (a : AV) (v : Value), l[i]? = some a → vs[i]? = some v → VR E a v) : FR E l vs.toArray := ⟨by simpa using h.1, fun i a v ha hv => h.2 i a v ha (by simpa using hv)⟩
theorem fl_nil {E : Env} : ([] : List AV).length = ([] : List Value).length ∧ ∀ (i : Nat) (a : AV) (v : Value), ([] : List AV)[i]? = some a → ([] : List Value)[i]? = some v → VR E a v := ⟨rfl, fun i a v h => by simp at h⟩
theorem fl_cons {E : Env} {a : AV} {v : Value} {l : List AV} {vs : List Value} (hv : VR E a v) (h : l.length = vs.length ∧ ∀ (i : Nat) (a : AV) (v : Value), l[i]? = some a → vs[i]? = some v → VR E a v) :
    (a :: l).length = (v :: vs).length ∧ ∀ (i : Nat) (b : AV) (w : Value), (a :: l)[i]? = some b → (v :: vs)[i]? = some w → VR E b w := by
  refine ⟨by simp [h.1], fun i b w hb hw => ?_⟩
  cases i with
  | zero => simp at hb hw; subst hb hw; exact hv
  | succ i => exact h.2 i b w (by simpa using hb) (by simpa using hw)
end Go.Am
