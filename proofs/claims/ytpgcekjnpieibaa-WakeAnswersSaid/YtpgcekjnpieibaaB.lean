/-
  Go's values as typed values.
-/
import Derived.Test.YtpgcekjnpieibaaT
import Derived.Test.YtpgcekjnpieibaaBm10
namespace Go.Proofs.Ytpgcekjnpieibaa
open Go.Am
set_option linter.unusedVariables false
set_option linter.unusedSimpArgs false
def c_u8 (a : Int) : List AV := [.int .u8 a]
def g_u8 (f : Nat → AV) : Int := iA (f 0)
def k_u8 (f : Nat → AV) : Prop := iK .u8 (f 0)
theorem gc_u8 (a : Int) : g_u8 (getL (c_u8 a)) = a := by
  simp only [g_u8, c_u8, getL, iA, bA, sA, lA]
theorem kc_u8 (a : Int) : k_u8 (getL (c_u8 a)) := by
  simp only [k_u8, c_u8, getL, iK, bK, sK, lK, or_true, true_and, and_true, and_self]
theorem nr_u8 (a : Int) : nrefL (c_u8 a) := by simp only [c_u8, nrefL, nref, and_self]
instance : NRf c_u8 := ⟨nr_u8⟩
instance : KCf k_u8 c_u8 := ⟨kc_u8⟩
theorem w_u8 {f : Nat → AV} (h : k_u8 f) : ∀ y, y < 1 → WkV (getL (c_u8 (g_u8 f)) y) (f y) ∧ nref (getL (c_u8 (g_u8 f)) y) := by
  have h0 := h
  intro y hy
  match y, hy with
  | 0, _ => exact iK_wk h0
  | y + 1, hy => omega
theorem e_u8_0 (l : List Int) (x : Nat) : enR c_u8 l x 0 = .int .u8 (gd l x) := rfl
theorem fit_u8 (n : Nat) (l : List Int) : Fit k_u8 n (enR c_u8 l) = True := eq_true (Fit_enR kc_u8)
theorem de_u8 (l : List Int) : deR g_u8 l.length (enR c_u8 l) = l := deR_enR gc_u8 l
def c_i64 (a : Int) : List AV := [.int .i64 a]
def g_i64 (f : Nat → AV) : Int := iA (f 0)
def k_i64 (f : Nat → AV) : Prop := iK .i64 (f 0)
theorem gc_i64 (a : Int) : g_i64 (getL (c_i64 a)) = a := by
  simp only [g_i64, c_i64, getL, iA, bA, sA, lA]
theorem kc_i64 (a : Int) : k_i64 (getL (c_i64 a)) := by
  simp only [k_i64, c_i64, getL, iK, bK, sK, lK, or_true, true_and, and_true, and_self]
theorem nr_i64 (a : Int) : nrefL (c_i64 a) := by simp only [c_i64, nrefL, nref, and_self]
instance : NRf c_i64 := ⟨nr_i64⟩
instance : KCf k_i64 c_i64 := ⟨kc_i64⟩
theorem w_i64 {f : Nat → AV} (h : k_i64 f) : ∀ y, y < 1 → WkV (getL (c_i64 (g_i64 f)) y) (f y) ∧ nref (getL (c_i64 (g_i64 f)) y) := by
  have h0 := h
  intro y hy
  match y, hy with
  | 0, _ => exact iK_wk h0
  | y + 1, hy => omega
theorem e_i64_0 (l : List Int) (x : Nat) : enR c_i64 l x 0 = .int .i64 (gd l x) := rfl
theorem fit_i64 (n : Nat) (l : List Int) : Fit k_i64 n (enR c_i64 l) = True := eq_true (Fit_enR kc_i64)
theorem de_i64 (l : List Int) : deR g_i64 l.length (enR c_i64 l) = l := deR_enR gc_i64 l
def c_b (a : Bool) : List AV := [.bool a]
def g_b (f : Nat → AV) : Bool := bA (f 0)
def k_b (f : Nat → AV) : Prop := bK (f 0)
theorem gc_b (a : Bool) : g_b (getL (c_b a)) = a := by
  simp only [g_b, c_b, getL, iA, bA, sA, lA]
theorem kc_b (a : Bool) : k_b (getL (c_b a)) := by
  simp only [k_b, c_b, getL, iK, bK, sK, lK, or_true, true_and, and_true, and_self]
theorem nr_b (a : Bool) : nrefL (c_b a) := by simp only [c_b, nrefL, nref, and_self]
instance : NRf c_b := ⟨nr_b⟩
instance : KCf k_b c_b := ⟨kc_b⟩
theorem w_b {f : Nat → AV} (h : k_b f) : ∀ y, y < 1 → WkV (getL (c_b (g_b f)) y) (f y) ∧ nref (getL (c_b (g_b f)) y) := by
  have h0 := h
  intro y hy
  match y, hy with
  | 0, _ => exact bK_wk h0
  | y + 1, hy => omega
theorem e_b_0 (l : List Bool) (x : Nat) : enR c_b l x 0 = .bool (gd l x) := rfl
theorem fit_b (n : Nat) (l : List Bool) : Fit k_b n (enR c_b l) = True := eq_true (Fit_enR kc_b)
theorem de_b (l : List Bool) : deR g_b l.length (enR c_b l) = l := deR_enR gc_b l
structure TWakeRule where
  Id : Int
  Start : Int
  Every : Int
  Length : Int
  Group : Int
  deriving Inhabited
def c_TWakeRule (a : TWakeRule) : List AV := [.int .i64 a.Id, .int .i64 a.Start, .int .i64 a.Every, .int .i64 a.Length, .int .i64 a.Group]
def g_TWakeRule (f : Nat → AV) : TWakeRule := ⟨iA (f 0), iA (f 1), iA (f 2), iA (f 3), iA (f 4)⟩
def k_TWakeRule (f : Nat → AV) : Prop := iK .i64 (f 0) ∧ iK .i64 (f 1) ∧ iK .i64 (f 2) ∧ iK .i64 (f 3) ∧ iK .i64 (f 4)
theorem gc_TWakeRule (a : TWakeRule) : g_TWakeRule (getL (c_TWakeRule a)) = a := by
  simp only [g_TWakeRule, c_TWakeRule, getL, iA, bA, sA, lA]
theorem kc_TWakeRule (a : TWakeRule) : k_TWakeRule (getL (c_TWakeRule a)) := by
  simp only [k_TWakeRule, c_TWakeRule, getL, iK, bK, sK, lK, or_true, true_and, and_true, and_self]
theorem nr_TWakeRule (a : TWakeRule) : nrefL (c_TWakeRule a) := by simp only [c_TWakeRule, nrefL, nref, and_self]
instance : NRf c_TWakeRule := ⟨nr_TWakeRule⟩
instance : KCf k_TWakeRule c_TWakeRule := ⟨kc_TWakeRule⟩
theorem w_TWakeRule {f : Nat → AV} (h : k_TWakeRule f) : ∀ y, y < 5 → WkV (getL (c_TWakeRule (g_TWakeRule f)) y) (f y) ∧ nref (getL (c_TWakeRule (g_TWakeRule f)) y) := by
  obtain ⟨h0, h1, h2, h3, h4⟩ := h
  intro y hy
  match y, hy with
  | 0, _ => exact iK_wk h0
  | 1, _ => exact iK_wk h1
  | 2, _ => exact iK_wk h2
  | 3, _ => exact iK_wk h3
  | 4, _ => exact iK_wk h4
  | y + 5, hy => omega
theorem e_TWakeRule_0 (l : List TWakeRule) (x : Nat) : enR c_TWakeRule l x 0 = .int .i64 ((gd l x).Id) := rfl
theorem e_TWakeRule_1 (l : List TWakeRule) (x : Nat) : enR c_TWakeRule l x 1 = .int .i64 ((gd l x).Start) := rfl
theorem e_TWakeRule_2 (l : List TWakeRule) (x : Nat) : enR c_TWakeRule l x 2 = .int .i64 ((gd l x).Every) := rfl
theorem e_TWakeRule_3 (l : List TWakeRule) (x : Nat) : enR c_TWakeRule l x 3 = .int .i64 ((gd l x).Length) := rfl
theorem e_TWakeRule_4 (l : List TWakeRule) (x : Nat) : enR c_TWakeRule l x 4 = .int .i64 ((gd l x).Group) := rfl
theorem fit_TWakeRule (n : Nat) (l : List TWakeRule) : Fit k_TWakeRule n (enR c_TWakeRule l) = True := eq_true (Fit_enR kc_TWakeRule)
theorem de_TWakeRule (l : List TWakeRule) : deR g_TWakeRule l.length (enR c_TWakeRule l) = l := deR_enR gc_TWakeRule l
theorem eta_TWakeRule (a : TWakeRule) : TWakeRule.mk a.Id a.Start a.Every a.Length a.Group = a := rfl
theorem wA_TWakeRule {v : AV} (h : aK 5 k_TWakeRule v) : WkV (.agg (c_TWakeRule (g_TWakeRule (aL v)))) v ∧ nref (.agg (c_TWakeRule (g_TWakeRule (aL v)))) := aK_wk (f := c_TWakeRule) (g := g_TWakeRule) (fun r h => w_TWakeRule h) rfl (by simp only [c_TWakeRule, nrefL, nref, and_self]) h
def c_lTWakeRule (a : List TWakeRule) : List AV := [.ro 5 a.length false (enR c_TWakeRule a)]
def g_lTWakeRule (f : Nat → AV) : List TWakeRule := lA g_TWakeRule (f 0)
def k_lTWakeRule (f : Nat → AV) : Prop := lK k_TWakeRule 5 (f 0)
theorem gc_lTWakeRule (a : List TWakeRule) : g_lTWakeRule (getL (c_lTWakeRule a)) = a := by
  simp only [g_lTWakeRule, c_lTWakeRule, getL, iA, bA, sA, lA, deR_enR gc_TWakeRule]
theorem kc_lTWakeRule (a : List TWakeRule) : k_lTWakeRule (getL (c_lTWakeRule a)) := by
  simp only [k_lTWakeRule, c_lTWakeRule, getL, iK, bK, sK, lK, or_true, true_and, and_true, and_self, Fit_enR kc_TWakeRule]
theorem nr_lTWakeRule (a : List TWakeRule) : nrefL (c_lTWakeRule a) := by simp only [c_lTWakeRule, nrefL, nref, and_self]
instance : NRf c_lTWakeRule := ⟨nr_lTWakeRule⟩
instance : KCf k_lTWakeRule c_lTWakeRule := ⟨kc_lTWakeRule⟩
theorem w_lTWakeRule {f : Nat → AV} (h : k_lTWakeRule f) : ∀ y, y < 1 → WkV (getL (c_lTWakeRule (g_lTWakeRule f)) y) (f y) ∧ nref (getL (c_lTWakeRule (g_lTWakeRule f)) y) := by
  have h0 := h
  intro y hy
  match y, hy with
  | 0, _ => exact lK_wk (fun r h => w_TWakeRule h) h0
  | y + 1, hy => omega
theorem e_lTWakeRule_0 (l : List (List TWakeRule)) (x : Nat) : enR c_lTWakeRule l x 0 = .ro 5 (gd l x).length false (enR c_TWakeRule (gd l x)) := rfl
theorem fit_lTWakeRule (n : Nat) (l : List (List TWakeRule)) : Fit k_lTWakeRule n (enR c_lTWakeRule l) = True := eq_true (Fit_enR kc_lTWakeRule)
theorem de_lTWakeRule (l : List (List TWakeRule)) : deR g_lTWakeRule l.length (enR c_lTWakeRule l) = l := deR_enR gc_lTWakeRule l
structure TWakeTable where
  List : _root_.List TWakeRule
  deriving Inhabited
def c_TWakeTable (a : TWakeTable) : List AV := [.ro 5 a.List.length false (enR c_TWakeRule a.List)]
def g_TWakeTable (f : Nat → AV) : TWakeTable := ⟨lA g_TWakeRule (f 0)⟩
def k_TWakeTable (f : Nat → AV) : Prop := lK k_TWakeRule 5 (f 0)
theorem gc_TWakeTable (a : TWakeTable) : g_TWakeTable (getL (c_TWakeTable a)) = a := by
  simp only [g_TWakeTable, c_TWakeTable, getL, iA, bA, sA, lA, deR_enR gc_TWakeRule]
theorem kc_TWakeTable (a : TWakeTable) : k_TWakeTable (getL (c_TWakeTable a)) := by
  simp only [k_TWakeTable, c_TWakeTable, getL, iK, bK, sK, lK, or_true, true_and, and_true, and_self, Fit_enR kc_TWakeRule]
theorem nr_TWakeTable (a : TWakeTable) : nrefL (c_TWakeTable a) := by simp only [c_TWakeTable, nrefL, nref, and_self]
instance : NRf c_TWakeTable := ⟨nr_TWakeTable⟩
instance : KCf k_TWakeTable c_TWakeTable := ⟨kc_TWakeTable⟩
theorem w_TWakeTable {f : Nat → AV} (h : k_TWakeTable f) : ∀ y, y < 1 → WkV (getL (c_TWakeTable (g_TWakeTable f)) y) (f y) ∧ nref (getL (c_TWakeTable (g_TWakeTable f)) y) := by
  have h0 := h
  intro y hy
  match y, hy with
  | 0, _ => exact lK_wk (fun r h => w_TWakeRule h) h0
  | y + 1, hy => omega
theorem e_TWakeTable_0 (l : List TWakeTable) (x : Nat) : enR c_TWakeTable l x 0 = .ro 5 ((gd l x).List).length false (enR c_TWakeRule ((gd l x).List)) := rfl
theorem fit_TWakeTable (n : Nat) (l : List TWakeTable) : Fit k_TWakeTable n (enR c_TWakeTable l) = True := eq_true (Fit_enR kc_TWakeTable)
theorem de_TWakeTable (l : List TWakeTable) : deR g_TWakeTable l.length (enR c_TWakeTable l) = l := deR_enR gc_TWakeTable l
theorem eta_TWakeTable (a : TWakeTable) : TWakeTable.mk a.List = a := rfl
theorem wA_TWakeTable {v : AV} (h : aK 1 k_TWakeTable v) : WkV (.agg (c_TWakeTable (g_TWakeTable (aL v)))) v ∧ nref (.agg (c_TWakeTable (g_TWakeTable (aL v)))) := aK_wk (f := c_TWakeTable) (g := g_TWakeTable) (fun r h => w_TWakeTable h) rfl (by simp only [c_TWakeTable, nrefL, nref, and_self]) h
def c_li64 (a : List Int) : List AV := [.ro 1 a.length false (enR c_i64 a)]
def g_li64 (f : Nat → AV) : List Int := lA g_i64 (f 0)
def k_li64 (f : Nat → AV) : Prop := lK k_i64 1 (f 0)
theorem gc_li64 (a : List Int) : g_li64 (getL (c_li64 a)) = a := by
  simp only [g_li64, c_li64, getL, iA, bA, sA, lA, deR_enR gc_i64]
theorem kc_li64 (a : List Int) : k_li64 (getL (c_li64 a)) := by
  simp only [k_li64, c_li64, getL, iK, bK, sK, lK, or_true, true_and, and_true, and_self, Fit_enR kc_i64]
theorem nr_li64 (a : List Int) : nrefL (c_li64 a) := by simp only [c_li64, nrefL, nref, and_self]
instance : NRf c_li64 := ⟨nr_li64⟩
instance : KCf k_li64 c_li64 := ⟨kc_li64⟩
theorem w_li64 {f : Nat → AV} (h : k_li64 f) : ∀ y, y < 1 → WkV (getL (c_li64 (g_li64 f)) y) (f y) ∧ nref (getL (c_li64 (g_li64 f)) y) := by
  have h0 := h
  intro y hy
  match y, hy with
  | 0, _ => exact lK_wk (fun r h => w_i64 h) h0
  | y + 1, hy => omega
theorem e_li64_0 (l : List (List Int)) (x : Nat) : enR c_li64 l x 0 = .ro 1 (gd l x).length false (enR c_i64 (gd l x)) := rfl
theorem fit_li64 (n : Nat) (l : List (List Int)) : Fit k_li64 n (enR c_li64 l) = True := eq_true (Fit_enR kc_li64)
theorem de_li64 (l : List (List Int)) : deR g_li64 l.length (enR c_li64 l) = l := deR_enR gc_li64 l
def c_u64 (a : Int) : List AV := [.int .u64 a]
def g_u64 (f : Nat → AV) : Int := iA (f 0)
def k_u64 (f : Nat → AV) : Prop := iK .u64 (f 0)
theorem gc_u64 (a : Int) : g_u64 (getL (c_u64 a)) = a := by
  simp only [g_u64, c_u64, getL, iA, bA, sA, lA]
theorem kc_u64 (a : Int) : k_u64 (getL (c_u64 a)) := by
  simp only [k_u64, c_u64, getL, iK, bK, sK, lK, or_true, true_and, and_true, and_self]
theorem nr_u64 (a : Int) : nrefL (c_u64 a) := by simp only [c_u64, nrefL, nref, and_self]
instance : NRf c_u64 := ⟨nr_u64⟩
instance : KCf k_u64 c_u64 := ⟨kc_u64⟩
theorem w_u64 {f : Nat → AV} (h : k_u64 f) : ∀ y, y < 1 → WkV (getL (c_u64 (g_u64 f)) y) (f y) ∧ nref (getL (c_u64 (g_u64 f)) y) := by
  have h0 := h
  intro y hy
  match y, hy with
  | 0, _ => exact iK_wk h0
  | y + 1, hy => omega
theorem e_u64_0 (l : List Int) (x : Nat) : enR c_u64 l x 0 = .int .u64 (gd l x) := rfl
theorem fit_u64 (n : Nat) (l : List Int) : Fit k_u64 n (enR c_u64 l) = True := eq_true (Fit_enR kc_u64)
theorem de_u64 (l : List Int) : deR g_u64 l.length (enR c_u64 l) = l := deR_enR gc_u64 l
def shT (t : TypeId) : Option (List Leaf) := if t = 23 then some [.i .i64, .i .i64, .i .i64, .i .i64, .i .i64] else none
theorem shT_ok : ShOk Try.prog shT := by
  refine shOk_of fun t l h => ?_
  unfold shT at h
  split at h
  · rename_i ht; subst ht; injection h with h; subst h; exact ⟨by kernel_rfl, by kernel_rfl, by kernel_rfl⟩
  cases h
theorem shT_23 : shT 23 = some [.i .i64, .i .i64, .i .i64, .i .i64, .i .i64] := rfl
def ctNo : Ct := tab []
theorem ctNo_ok : CtOk Try.prog ctNo := tab_nil
theorem strE_u8 (s : ByteArray) : strE s = enR c_u8 (bytesL s) := strE_en (fun _ => rfl) s
theorem rg {ct : Ct} (C : CtOk Try.prog ct) {a : Code} {K : Kt} {t : List AV} {h : List ABlk} (hw : wpC Try.prog shT ct a K t h) : Mean Try.prog a K t h := wpC_sound shT_ok C a K t h hw
theorem sq {ct : Ct} (C : CtOk Try.prog ct) {a b : Code} {K : Kt} {t : List AV} {h : List ABlk} (hw : wpC Try.prog shT ct a (kM Try.prog b K) t h) : Mean Try.prog (.seq a b) K t h := seqM (wpC_sound shT_ok C a _ t h hw)
end Go.Proofs.Ytpgcekjnpieibaa
