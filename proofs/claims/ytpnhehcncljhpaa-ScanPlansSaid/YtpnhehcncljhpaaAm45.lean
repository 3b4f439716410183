/-
  The abstract machine, part 45: contracts that change memory, over typed values; two ways told apart.
-/
import Derived.Test.YtpnhehcncljhpaaAm44
namespace Go.Am
set_option linter.unusedVariables false
variable {P : Program} {E : Env} {h : List ABlk}
theorem bif_split {c : Bool} {p : Prop} (h1 : c = true → p) (h2 : c = false → p) : p := by
  cases c
  · exact h2 rfl
  · exact h1 rfl
def ptB : AV → Nat
  | .ptr b _ _ _ => b
  | _ => 0
def slN : AV → Nat
  | .sl b _ _ _ _ => b
  | _ => 0
def litL : ABlk → List AV
  | .lit _ l => l
  | _ => []
def celL (h : List ABlk) (v : AV) : List AV := litL (geth h (ptB v))
def isLit (e z : Nat) : ABlk → Prop
  | .lit e' l => e' = e ∧ l.length = z
  | _ => False
def pK (e z : Nat) (h : List ABlk) : AV → Prop
  | .ptr b es i j => es = 0 ∧ i = 0 ∧ j = 0 ∧ isLit e z (geth h b)
  | _ => False
def isRow (e es n : Nat) : ABlk → Prop
  | .row e' es' N c => e' = e ∧ es' = es ∧ N = n
  | _ => False
/-- A whole own row. -/
def oS (e es : Nat) (h : List ABlk) : AV → Prop
  | .sl b es' i n _ => es' = es ∧ i = 0 ∧ isRow e es n (geth h b)
  | _ => False
theorem isLit_eq {e z : Nat} {x : ABlk} (hx : isLit e z x) : x = .lit e (litL x) ∧ (litL x).length = z := by
  cases x <;> simp only [isLit] at hx
  obtain ⟨rfl, rfl⟩ := hx
  exact ⟨rfl, rfl⟩
theorem pK_eq {e z : Nat} {v : AV} (hk : pK e z h v) : v = .ptr (ptB v) 0 0 0 ∧ geth h (ptB v) = .lit e (celL h v) ∧ (celL h v).length = z := by
  cases v <;> simp only [pK] at hk
  obtain ⟨rfl, rfl, rfl, hl⟩ := hk
  exact ⟨rfl, isLit_eq hl⟩
theorem EV_pK {bs : List Nat} {e z i : Nat} {v : AV} (hk : pK e z h v) (hb : bs[i]? = some (ptB v)) : EV bs (.ptr i 0 0 0) v := by
  rw [(pK_eq hk).1]
  exact EV_ptr hb
theorem EVL_of {bs : List Nat} : ∀ {l m : List AV}, l.length = m.length → (∀ i, i < l.length → EV bs (getL l i) (getL m i)) → EVL bs l m
  | [], [], _, _ => trivial
  | [], _ :: _, hl, _ => by simp at hl
  | _ :: _, [], hl, _ => by simp at hl
  | a :: l, b :: m, hl, hh => ⟨hh 0 (by simp), EVL_of (by simpa using hl) fun i hi => hh (i + 1) (by simpa using hi)⟩
theorem EB_pK {bs : List Nat} {e z i : Nat} {v : AV} {l : List AV} (hk : pK e z h v) (hb : bs[i]? = some (ptB v)) (hl : l.length = z) (hc : ∀ i, i < z → EV bs (getL l i) (getL (celL h v) i)) : EB bs h (.lit e l) i := by
  obtain ⟨_, h2, h3⟩ := pK_eq hk
  exact EB_lit hb h2 (EVL_of (hl.trans h3.symm) fun i hi => hc i (by omega))
theorem roW_id {a : AV} (hn : nref a) : roW h a = a := by
  cases a <;> simp only [nref] at hn <;> rfl
theorem EV_t {bs : List Nat} {a0 a : AV} (hn : nref a) (hw : WkV a0 (roW h a) ∧ nref a0) : EV bs a0 a := by
  rw [roW_id hn] at hw
  exact EV_wk hw
theorem own_row2 {α : Type} [Inhabited α] {f : α → List AV} {g : (Nat → AV) → α} {k : (Nat → AV) → Prop} {bs : List Nat} {i es : Nat} {e : TypeId} {a : AV} (hw : ∀ {r : Nat → AV}, k r → ∀ y, y < es → WkV (getL (f (g r)) y) (r y) ∧ nref (getL (f (g r)) y))
    (hs : oS e es h a) (hk : lK k es (roW h a)) {L : List α} (hL : lA g (roW h a) = L) (hb : bs[i]? = some (slN a)) : EV bs (.sl i es 0 L.length false) a ∧ EB bs h (.row e es L.length (enR f L)) i := by
  cases a <;> simp only [oS] at hs
  rename_i b es' x n nl
  obtain ⟨rfl, rfl, hr⟩ := hs
  have hg : ∃ c, geth h b = .row e es' n c := by
    cases hq : geth h b <;> rw [hq] at hr <;> simp only [isRow] at hr
    obtain ⟨rfl, rfl, rfl⟩ := hr
    exact ⟨_, rfl⟩
  obtain ⟨c, hg⟩ := hg
  simp only [roW, hg, lK, lA] at hk hL
  have hsub : subC 0 c = c := by funext x y; simp [subC]
  rw [hsub] at hk hL
  have hn : L.length = n := by rw [← hL, deR_length]
  exact ⟨by rw [hn]; exact EV_sl hb, EB_row (fun r hr => hw hr) hb hg hk.2 hL⟩
theorem getL_roWL (l : List AV) (i : Nat) : getL (roWL h l) i = roW h (getL l i) := roWL_getL l i
theorem EBs_nil {bs : List Nat} {i : Nat} : EBs bs h [] i := trivial
theorem RetE_mk {n : Nat} {v0 v' : AV} {g0 hf : List ABlk} (fz : List Nat) (ν : Mu) (h1 : fzOb hf fz v') (h2 : fzObH hf fz hf) (h3 : Cv ν v0 (fzV hf fz v')) (h4 : CvH ν (fzH hf fz) g0 ν) (h5 : injM (liveM ν g0) = true) (h6 : idM 0 n ν = true) : RetE n v0 g0 v' hf :=
  ⟨fz, h1, h2, ν, h3, h4, h5, h6⟩
theorem nfBs_nil : nfBs [] := trivial
theorem nfB_en {α : Type} [Inhabited α] {e es n : Nat} {f : α → List AV} {L : List α} (hr : ∀ a, nrefL (f a)) : nfB (.row e es n (enR f L)) := fun x y _ _ => nfR_en hr
/-- A slice that is the beginning of its row. -/
theorem CvB_pre {α : Type} [Inhabited α] {f : α → List AV} {μ : Mu} {e es N m : Nat} {c : Nat → Nat → AV} {L : List α} (hr : ∀ a, nrefL (f a)) (hN : L.length ≤ N) (hc : ∀ x y, x < L.length → y < es → enR f L x y = c x y) :
    CvB μ (.row e es L.length (enR f L)) (some m) (.row e es N c) := by
  simp only [CvB]
  refine ⟨trivial, trivial, hN, fun x y hx hy => ?_⟩
  rw [← hc x y hx hy]
  exact Cv_refl _ (nfR_en hr)
/-! ### Two contracts of one function -/
def orC (c1 c2 : List AV → List ABlk → AR) (l : List AV) (h : List ABlk) : AR := match c1 l h with
  | .fail => c2 l h
  | r => r
end Go.Am
