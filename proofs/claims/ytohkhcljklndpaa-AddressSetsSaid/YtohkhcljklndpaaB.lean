/-
  Go's values as typed values.
-/
import Derived.Test.YtohkhcljklndpaaT
import Derived.Test.YtohkhcljklndpaaBm10
namespace Go.Proofs.Ytohkhcljklndpaa
open Go.Am
set_option linter.unusedVariables false
set_option linter.unusedSimpArgs false
def c_u8 (a : Int) : List AV := [.int .u8 a]
def g_u8 (f : Nat → AV) : Int := iA (f 0)
def k_u8 (f : Nat → AV) : Prop := iK .u8 (f 0)
theorem gc_u8 (a : Int) : g_u8 (getL (c_u8 a)) = a := by
  simp only [g_u8, c_u8, getL, iA, bA, sA, lA]
theorem kc_u8 (a : Int) : k_u8 (getL (c_u8 a)) := by
  simp only [k_u8, c_u8, getL, iK, bK, sK, lK, or_true, true_and, and_true, and_self]
theorem nr_u8 (a : Int) : nrefL (c_u8 a) := by simp only [c_u8, nrefL, nref, and_self]
instance : NOf c_u8 := ⟨fun a => by simp only [c_u8, noroL, noro, and_self]⟩
instance : NRf c_u8 := ⟨nr_u8⟩
instance : KCf k_u8 c_u8 := ⟨kc_u8⟩
theorem w_u8 {f : Nat → AV} (h : k_u8 f) : ∀ y, y < 1 → WkV (getL (c_u8 (g_u8 f)) y) (f y) ∧ nref (getL (c_u8 (g_u8 f)) y) := by
  have h0 := h
  intro y hy
  match y, hy with
  | 0, _ => exact iK_wk h0
  | y + 1, hy => omega
theorem e_u8_0 (l : List Int) (x : Nat) : enR c_u8 l x 0 = .int .u8 (gd l x) := rfl
theorem fit_u8 (n : Nat) (l : List Int) : Fit k_u8 n (enR c_u8 l) = True := eq_true (Fit_enR kc_u8)
theorem de_u8 (l : List Int) : deR g_u8 l.length (enR c_u8 l) = l := deR_enR gc_u8 l
def c_i64 (a : Int) : List AV := [.int .i64 a]
def g_i64 (f : Nat → AV) : Int := iA (f 0)
def k_i64 (f : Nat → AV) : Prop := iK .i64 (f 0)
theorem gc_i64 (a : Int) : g_i64 (getL (c_i64 a)) = a := by
  simp only [g_i64, c_i64, getL, iA, bA, sA, lA]
theorem kc_i64 (a : Int) : k_i64 (getL (c_i64 a)) := by
  simp only [k_i64, c_i64, getL, iK, bK, sK, lK, or_true, true_and, and_true, and_self]
theorem nr_i64 (a : Int) : nrefL (c_i64 a) := by simp only [c_i64, nrefL, nref, and_self]
instance : NOf c_i64 := ⟨fun a => by simp only [c_i64, noroL, noro, and_self]⟩
instance : NRf c_i64 := ⟨nr_i64⟩
instance : KCf k_i64 c_i64 := ⟨kc_i64⟩
theorem w_i64 {f : Nat → AV} (h : k_i64 f) : ∀ y, y < 1 → WkV (getL (c_i64 (g_i64 f)) y) (f y) ∧ nref (getL (c_i64 (g_i64 f)) y) := by
  have h0 := h
  intro y hy
  match y, hy with
  | 0, _ => exact iK_wk h0
  | y + 1, hy => omega
theorem e_i64_0 (l : List Int) (x : Nat) : enR c_i64 l x 0 = .int .i64 (gd l x) := rfl
theorem fit_i64 (n : Nat) (l : List Int) : Fit k_i64 n (enR c_i64 l) = True := eq_true (Fit_enR kc_i64)
theorem de_i64 (l : List Int) : deR g_i64 l.length (enR c_i64 l) = l := deR_enR gc_i64 l
def c_b (a : Bool) : List AV := [.bool a]
def g_b (f : Nat → AV) : Bool := bA (f 0)
def k_b (f : Nat → AV) : Prop := bK (f 0)
theorem gc_b (a : Bool) : g_b (getL (c_b a)) = a := by
  simp only [g_b, c_b, getL, iA, bA, sA, lA]
theorem kc_b (a : Bool) : k_b (getL (c_b a)) := by
  simp only [k_b, c_b, getL, iK, bK, sK, lK, or_true, true_and, and_true, and_self]
theorem nr_b (a : Bool) : nrefL (c_b a) := by simp only [c_b, nrefL, nref, and_self]
instance : NOf c_b := ⟨fun a => by simp only [c_b, noroL, noro, and_self]⟩
instance : NRf c_b := ⟨nr_b⟩
instance : KCf k_b c_b := ⟨kc_b⟩
theorem w_b {f : Nat → AV} (h : k_b f) : ∀ y, y < 1 → WkV (getL (c_b (g_b f)) y) (f y) ∧ nref (getL (c_b (g_b f)) y) := by
  have h0 := h
  intro y hy
  match y, hy with
  | 0, _ => exact bK_wk h0
  | y + 1, hy => omega
theorem e_b_0 (l : List Bool) (x : Nat) : enR c_b l x 0 = .bool (gd l x) := rfl
theorem fit_b (n : Nat) (l : List Bool) : Fit k_b n (enR c_b l) = True := eq_true (Fit_enR kc_b)
theorem de_b (l : List Bool) : deR g_b l.length (enR c_b l) = l := deR_enR gc_b l
structure A6u8 where
  x0 : Int
  x1 : Int
  x2 : Int
  x3 : Int
  x4 : Int
  x5 : Int
  deriving Inhabited
def c_A6u8 (a : A6u8) : List AV := [.int .u8 a.x0, .int .u8 a.x1, .int .u8 a.x2, .int .u8 a.x3, .int .u8 a.x4, .int .u8 a.x5]
def g_A6u8 (f : Nat → AV) : A6u8 := ⟨iA (f 0), iA (f 1), iA (f 2), iA (f 3), iA (f 4), iA (f 5)⟩
def k_A6u8 (f : Nat → AV) : Prop := iK .u8 (f 0) ∧ iK .u8 (f 1) ∧ iK .u8 (f 2) ∧ iK .u8 (f 3) ∧ iK .u8 (f 4) ∧ iK .u8 (f 5)
theorem gc_A6u8 (a : A6u8) : g_A6u8 (getL (c_A6u8 a)) = a := by
  simp only [g_A6u8, c_A6u8, getL, iA, bA, sA, lA]
theorem kc_A6u8 (a : A6u8) : k_A6u8 (getL (c_A6u8 a)) := by
  simp only [k_A6u8, c_A6u8, getL, iK, bK, sK, lK, or_true, true_and, and_true, and_self]
theorem nr_A6u8 (a : A6u8) : nrefL (c_A6u8 a) := by simp only [c_A6u8, nrefL, nref, and_self]
instance : NOf c_A6u8 := ⟨fun a => by simp only [c_A6u8, noroL, noro, and_self]⟩
instance : NRf c_A6u8 := ⟨nr_A6u8⟩
instance : KCf k_A6u8 c_A6u8 := ⟨kc_A6u8⟩
theorem w_A6u8 {f : Nat → AV} (h : k_A6u8 f) : ∀ y, y < 6 → WkV (getL (c_A6u8 (g_A6u8 f)) y) (f y) ∧ nref (getL (c_A6u8 (g_A6u8 f)) y) := by
  obtain ⟨h0, h1, h2, h3, h4, h5⟩ := h
  intro y hy
  match y, hy with
  | 0, _ => exact iK_wk h0
  | 1, _ => exact iK_wk h1
  | 2, _ => exact iK_wk h2
  | 3, _ => exact iK_wk h3
  | 4, _ => exact iK_wk h4
  | 5, _ => exact iK_wk h5
  | y + 6, hy => omega
theorem e_A6u8_0 (l : List A6u8) (x : Nat) : enR c_A6u8 l x 0 = .int .u8 ((gd l x).x0) := rfl
theorem e_A6u8_1 (l : List A6u8) (x : Nat) : enR c_A6u8 l x 1 = .int .u8 ((gd l x).x1) := rfl
theorem e_A6u8_2 (l : List A6u8) (x : Nat) : enR c_A6u8 l x 2 = .int .u8 ((gd l x).x2) := rfl
theorem e_A6u8_3 (l : List A6u8) (x : Nat) : enR c_A6u8 l x 3 = .int .u8 ((gd l x).x3) := rfl
theorem e_A6u8_4 (l : List A6u8) (x : Nat) : enR c_A6u8 l x 4 = .int .u8 ((gd l x).x4) := rfl
theorem e_A6u8_5 (l : List A6u8) (x : Nat) : enR c_A6u8 l x 5 = .int .u8 ((gd l x).x5) := rfl
theorem fit_A6u8 (n : Nat) (l : List A6u8) : Fit k_A6u8 n (enR c_A6u8 l) = True := eq_true (Fit_enR kc_A6u8)
theorem de_A6u8 (l : List A6u8) : deR g_A6u8 l.length (enR c_A6u8 l) = l := deR_enR gc_A6u8 l
theorem eta_A6u8 (a : A6u8) : A6u8.mk a.x0 a.x1 a.x2 a.x3 a.x4 a.x5 = a := rfl
theorem wA_A6u8 {v : AV} (h : aK 6 k_A6u8 v) : WkV (.agg (c_A6u8 (g_A6u8 (aL v)))) v ∧ nref (.agg (c_A6u8 (g_A6u8 (aL v)))) := aK_wk (f := c_A6u8) (g := g_A6u8) (fun r h => w_A6u8 h) rfl (by simp only [c_A6u8, nrefL, nref, and_self]) h
def c_lA6u8 (a : List A6u8) : List AV := [.ro 6 a.length false (enR c_A6u8 a)]
def g_lA6u8 (f : Nat → AV) : List A6u8 := lA g_A6u8 (f 0)
def k_lA6u8 (f : Nat → AV) : Prop := lK k_A6u8 6 (f 0)
theorem gc_lA6u8 (a : List A6u8) : g_lA6u8 (getL (c_lA6u8 a)) = a := by
  simp only [g_lA6u8, c_lA6u8, getL, iA, bA, sA, lA, deR_enR gc_A6u8]
theorem kc_lA6u8 (a : List A6u8) : k_lA6u8 (getL (c_lA6u8 a)) := by
  simp only [k_lA6u8, c_lA6u8, getL, iK, bK, sK, lK, or_true, true_and, and_true, and_self, Fit_enR kc_A6u8]
theorem nr_lA6u8 (a : List A6u8) : nrefL (c_lA6u8 a) := by simp only [c_lA6u8, nrefL, nref, and_self]
instance : NRf c_lA6u8 := ⟨nr_lA6u8⟩
instance : KCf k_lA6u8 c_lA6u8 := ⟨kc_lA6u8⟩
theorem w_lA6u8 {f : Nat → AV} (h : k_lA6u8 f) : ∀ y, y < 1 → WkV (getL (c_lA6u8 (g_lA6u8 f)) y) (f y) ∧ nref (getL (c_lA6u8 (g_lA6u8 f)) y) := by
  have h0 := h
  intro y hy
  match y, hy with
  | 0, _ => exact lK_wk (fun r h => w_A6u8 h) h0
  | y + 1, hy => omega
theorem e_lA6u8_0 (l : List (List A6u8)) (x : Nat) : enR c_lA6u8 l x 0 = .ro 6 (gd l x).length false (enR c_A6u8 (gd l x)) := rfl
theorem fit_lA6u8 (n : Nat) (l : List (List A6u8)) : Fit k_lA6u8 n (enR c_lA6u8 l) = True := eq_true (Fit_enR kc_lA6u8)
theorem de_lA6u8 (l : List (List A6u8)) : deR g_lA6u8 l.length (enR c_lA6u8 l) = l := deR_enR gc_lA6u8 l
def c_llA6u8 (a : List (List A6u8)) : List AV := [.ro 1 a.length false (enR c_lA6u8 a)]
def g_llA6u8 (f : Nat → AV) : List (List A6u8) := lA g_lA6u8 (f 0)
def k_llA6u8 (f : Nat → AV) : Prop := lK k_lA6u8 1 (f 0)
theorem gc_llA6u8 (a : List (List A6u8)) : g_llA6u8 (getL (c_llA6u8 a)) = a := by
  simp only [g_llA6u8, c_llA6u8, getL, iA, bA, sA, lA, deR_enR gc_lA6u8]
theorem kc_llA6u8 (a : List (List A6u8)) : k_llA6u8 (getL (c_llA6u8 a)) := by
  simp only [k_llA6u8, c_llA6u8, getL, iK, bK, sK, lK, or_true, true_and, and_true, and_self, Fit_enR kc_lA6u8]
theorem nr_llA6u8 (a : List (List A6u8)) : nrefL (c_llA6u8 a) := by simp only [c_llA6u8, nrefL, nref, and_self]
instance : NRf c_llA6u8 := ⟨nr_llA6u8⟩
instance : KCf k_llA6u8 c_llA6u8 := ⟨kc_llA6u8⟩
theorem w_llA6u8 {f : Nat → AV} (h : k_llA6u8 f) : ∀ y, y < 1 → WkV (getL (c_llA6u8 (g_llA6u8 f)) y) (f y) ∧ nref (getL (c_llA6u8 (g_llA6u8 f)) y) := by
  have h0 := h
  intro y hy
  match y, hy with
  | 0, _ => exact lK_wk (fun r h => w_lA6u8 h) h0
  | y + 1, hy => omega
theorem e_llA6u8_0 (l : List (List (List A6u8))) (x : Nat) : enR c_llA6u8 l x 0 = .ro 1 (gd l x).length false (enR c_lA6u8 (gd l x)) := rfl
theorem fit_llA6u8 (n : Nat) (l : List (List (List A6u8))) : Fit k_llA6u8 n (enR c_llA6u8 l) = True := eq_true (Fit_enR kc_llA6u8)
theorem de_llA6u8 (l : List (List (List A6u8))) : deR g_llA6u8 l.length (enR c_llA6u8 l) = l := deR_enR gc_llA6u8 l
def c_lu8 (a : List Int) : List AV := [.ro 1 a.length false (enR c_u8 a)]
def g_lu8 (f : Nat → AV) : List Int := lA g_u8 (f 0)
def k_lu8 (f : Nat → AV) : Prop := lK k_u8 1 (f 0)
theorem gc_lu8 (a : List Int) : g_lu8 (getL (c_lu8 a)) = a := by
  simp only [g_lu8, c_lu8, getL, iA, bA, sA, lA, deR_enR gc_u8]
theorem kc_lu8 (a : List Int) : k_lu8 (getL (c_lu8 a)) := by
  simp only [k_lu8, c_lu8, getL, iK, bK, sK, lK, or_true, true_and, and_true, and_self, Fit_enR kc_u8]
theorem nr_lu8 (a : List Int) : nrefL (c_lu8 a) := by simp only [c_lu8, nrefL, nref, and_self]
instance : NRf c_lu8 := ⟨nr_lu8⟩
instance : KCf k_lu8 c_lu8 := ⟨kc_lu8⟩
theorem w_lu8 {f : Nat → AV} (h : k_lu8 f) : ∀ y, y < 1 → WkV (getL (c_lu8 (g_lu8 f)) y) (f y) ∧ nref (getL (c_lu8 (g_lu8 f)) y) := by
  have h0 := h
  intro y hy
  match y, hy with
  | 0, _ => exact lK_wk (fun r h => w_u8 h) h0
  | y + 1, hy => omega
theorem e_lu8_0 (l : List (List Int)) (x : Nat) : enR c_lu8 l x 0 = .ro 1 (gd l x).length false (enR c_u8 (gd l x)) := rfl
theorem fit_lu8 (n : Nat) (l : List (List Int)) : Fit k_lu8 n (enR c_lu8 l) = True := eq_true (Fit_enR kc_lu8)
theorem de_lu8 (l : List (List Int)) : deR g_lu8 l.length (enR c_lu8 l) = l := deR_enR gc_lu8 l
def c_u64 (a : Int) : List AV := [.int .u64 a]
def g_u64 (f : Nat → AV) : Int := iA (f 0)
def k_u64 (f : Nat → AV) : Prop := iK .u64 (f 0)
theorem gc_u64 (a : Int) : g_u64 (getL (c_u64 a)) = a := by
  simp only [g_u64, c_u64, getL, iA, bA, sA, lA]
theorem kc_u64 (a : Int) : k_u64 (getL (c_u64 a)) := by
  simp only [k_u64, c_u64, getL, iK, bK, sK, lK, or_true, true_and, and_true, and_self]
theorem nr_u64 (a : Int) : nrefL (c_u64 a) := by simp only [c_u64, nrefL, nref, and_self]
instance : NOf c_u64 := ⟨fun a => by simp only [c_u64, noroL, noro, and_self]⟩
instance : NRf c_u64 := ⟨nr_u64⟩
instance : KCf k_u64 c_u64 := ⟨kc_u64⟩
theorem w_u64 {f : Nat → AV} (h : k_u64 f) : ∀ y, y < 1 → WkV (getL (c_u64 (g_u64 f)) y) (f y) ∧ nref (getL (c_u64 (g_u64 f)) y) := by
  have h0 := h
  intro y hy
  match y, hy with
  | 0, _ => exact iK_wk h0
  | y + 1, hy => omega
theorem e_u64_0 (l : List Int) (x : Nat) : enR c_u64 l x 0 = .int .u64 (gd l x) := rfl
theorem fit_u64 (n : Nat) (l : List Int) : Fit k_u64 n (enR c_u64 l) = True := eq_true (Fit_enR kc_u64)
theorem de_u64 (l : List Int) : deR g_u64 l.length (enR c_u64 l) = l := deR_enR gc_u64 l
def shT (t : TypeId) : Option (List Leaf) := if t = 24 then some [.i .u8, .i .u8, .i .u8, .i .u8, .i .u8, .i .u8] else none
theorem shT_ok : ShOk Try.prog shT := by
  refine shOk_of fun t l h => ?_
  unfold shT at h
  split at h
  · rename_i ht; subst ht; injection h with h; subst h; exact ⟨by kernel_rfl, by kernel_rfl, by kernel_rfl⟩
  cases h
theorem shT_24 : shT 24 = some [.i .u8, .i .u8, .i .u8, .i .u8, .i .u8, .i .u8] := rfl
theorem Fit_app {k : (Nat → AV) → Prop} {n p : Nat} {c d : Nat → Nat → AV} (h1 : Fit k p c) (h2 : Fit k (n - p) d) : Fit k n (appC p c d) := fun x hx => by
  by_cases h : x < p
  · rw [show appC p c d x = c x from funext fun y => if_pos h]; exact h1 x h
  · rw [show appC p c d x = d (x - p) from funext fun y => if_neg h]; exact h2 _ (by omega)
def ctNo : Ct := tab []
theorem ctNo_ok : CtOk Try.prog ctNo := tab_nil
theorem strE_u8 (s : ByteArray) : strE s = enR c_u8 (bytesL s) := strE_en (fun _ => rfl) s
theorem rg {ct : Ct} (C : CtOk Try.prog ct) {a : Code} {K : Kt} {t : List AV} {h : List ABlk} (hw : wpC Try.prog shT ct a K t h) : Mean Try.prog a K t h := wpC_sound shT_ok C a K t h hw
theorem sq {ct : Ct} (C : CtOk Try.prog ct) {a b : Code} {K : Kt} {t : List AV} {h : List ABlk} (hw : wpC Try.prog shT ct a (kM Try.prog b K) t h) : Mean Try.prog (.seq a b) K t h := seqM (wpC_sound shT_ok C a _ t h hw)
end Go.Proofs.Ytohkhcljklndpaa
