/-
  Go's values as typed values.
-/
import Derived.Test.YtpnhehcncljhpaaT
import Derived.Test.YtpnhehcncljhpaaPm10
namespace Go.Proofs.Ytpnhehcncljhpaa
open Go.Am
set_option linter.unusedVariables false
set_option linter.unusedSimpArgs false
def c_u8 (a : Int) : List AV := [.int .u8 a]
def g_u8 (f : Nat -> AV) : Int := iA (f 0)
def k_u8 (f : Nat -> AV) : Prop := iK .u8 (f 0)
theorem gc_u8 (a : Int) : g_u8 (getL (c_u8 a)) = a := by
  simp only [g_u8, c_u8, getL, iA, bA, sA, lA]
theorem kc_u8 (a : Int) : k_u8 (getL (c_u8 a)) := by
  simp only [k_u8, c_u8, getL, iK, bK, sK, lK, or_true, true_and, and_true, and_self]
theorem nr_u8 (a : Int) : nrefL (c_u8 a) := by simp only [c_u8, nrefL, nref, and_self]
instance : NOf c_u8 := ⟨fun a => by simp only [c_u8, noroL, noro, and_self]⟩
instance : NRf c_u8 := ⟨nr_u8⟩
instance : KCf k_u8 c_u8 := ⟨kc_u8⟩
theorem w_u8 {f : Nat -> AV} (h : k_u8 f) : ∀ y, y < 1 -> WkV (getL (c_u8 (g_u8 f)) y) (f y) /\ nref (getL (c_u8 (g_u8 f)) y) := by
  have h0 := h
  intro y hy
  match y, hy with
  | 0, _ => exact iK_wk h0
  | y + 1, hy => omega
theorem e_u8_0 (l : List Int) (x : Nat) : enR c_u8 l x 0 = .int .u8 (gd l x) := rfl
theorem fit_u8 (n : Nat) (l : List Int) : Fit k_u8 n (enR c_u8 l) = True := eq_true (Fit_enR kc_u8)
theorem de_u8 (l : List Int) : deR g_u8 l.length (enR c_u8 l) = l := deR_enR gc_u8 l
def c_i64 (a : Int) : List AV := [.int .i64 a]
def g_i64 (f : Nat -> AV) : Int := iA (f 0)
def k_i64 (f : Nat -> AV) : Prop := iK .i64 (f 0)
theorem gc_i64 (a : Int) : g_i64 (getL (c_i64 a)) = a := by
  simp only [g_i64, c_i64, getL, iA, bA, sA, lA]
theorem kc_i64 (a : Int) : k_i64 (getL (c_i64 a)) := by
  simp only [k_i64, c_i64, getL, iK, bK, sK, lK, or_true, true_and, and_true, and_self]
theorem nr_i64 (a : Int) : nrefL (c_i64 a) := by simp only [c_i64, nrefL, nref, and_self]
instance : NOf c_i64 := ⟨fun a => by simp only [c_i64, noroL, noro, and_self]⟩
instance : NRf c_i64 := ⟨nr_i64⟩
instance : KCf k_i64 c_i64 := ⟨kc_i64⟩
theorem w_i64 {f : Nat -> AV} (h : k_i64 f) : ∀ y, y < 1 -> WkV (getL (c_i64 (g_i64 f)) y) (f y) /\ nref (getL (c_i64 (g_i64 f)) y) := by
  have h0 := h
  intro y hy
  match y, hy with
  | 0, _ => exact iK_wk h0
  | y + 1, hy => omega
theorem e_i64_0 (l : List Int) (x : Nat) : enR c_i64 l x 0 = .int .i64 (gd l x) := rfl
theorem fit_i64 (n : Nat) (l : List Int) : Fit k_i64 n (enR c_i64 l) = True := eq_true (Fit_enR kc_i64)
theorem de_i64 (l : List Int) : deR g_i64 l.length (enR c_i64 l) = l := deR_enR gc_i64 l
def c_b (a : Bool) : List AV := [.bool a]
def g_b (f : Nat -> AV) : Bool := bA (f 0)
def k_b (f : Nat -> AV) : Prop := bK (f 0)
theorem gc_b (a : Bool) : g_b (getL (c_b a)) = a := by
  simp only [g_b, c_b, getL, iA, bA, sA, lA]
theorem kc_b (a : Bool) : k_b (getL (c_b a)) := by
  simp only [k_b, c_b, getL, iK, bK, sK, lK, or_true, true_and, and_true, and_self]
theorem nr_b (a : Bool) : nrefL (c_b a) := by simp only [c_b, nrefL, nref, and_self]
instance : NOf c_b := ⟨fun a => by simp only [c_b, noroL, noro, and_self]⟩
instance : NRf c_b := ⟨nr_b⟩
instance : KCf k_b c_b := ⟨kc_b⟩
theorem w_b {f : Nat -> AV} (h : k_b f) : ∀ y, y < 1 -> WkV (getL (c_b (g_b f)) y) (f y) /\ nref (getL (c_b (g_b f)) y) := by
  have h0 := h
  intro y hy
  match y, hy with
  | 0, _ => exact bK_wk h0
  | y + 1, hy => omega
theorem e_b_0 (l : List Bool) (x : Nat) : enR c_b l x 0 = .bool (gd l x) := rfl
theorem fit_b (n : Nat) (l : List Bool) : Fit k_b n (enR c_b l) = True := eq_true (Fit_enR kc_b)
theorem de_b (l : List Bool) : deR g_b l.length (enR c_b l) = l := deR_enR gc_b l
def c_s (a : ByteArray) : List AV := [.str a]
def g_s (f : Nat -> AV) : ByteArray := sA (f 0)
def k_s (f : Nat -> AV) : Prop := sK (f 0)
theorem gc_s (a : ByteArray) : g_s (getL (c_s a)) = a := by
  simp only [g_s, c_s, getL, iA, bA, sA, lA]
theorem kc_s (a : ByteArray) : k_s (getL (c_s a)) := by
  simp only [k_s, c_s, getL, iK, bK, sK, lK, or_true, true_and, and_true, and_self]
theorem nr_s (a : ByteArray) : nrefL (c_s a) := by simp only [c_s, nrefL, nref, and_self]
instance : NOf c_s := ⟨fun a => by simp only [c_s, noroL, noro, and_self]⟩
instance : NRf c_s := ⟨nr_s⟩
instance : KCf k_s c_s := ⟨kc_s⟩
theorem w_s {f : Nat -> AV} (h : k_s f) : ∀ y, y < 1 -> WkV (getL (c_s (g_s f)) y) (f y) /\ nref (getL (c_s (g_s f)) y) := by
  have h0 := h
  intro y hy
  match y, hy with
  | 0, _ => exact sK_wk h0
  | y + 1, hy => omega
theorem e_s_0 (l : List ByteArray) (x : Nat) : enR c_s l x 0 = .str (gd l x) := rfl
theorem fit_s (n : Nat) (l : List ByteArray) : Fit k_s n (enR c_s l) = True := eq_true (Fit_enR kc_s)
theorem de_s (l : List ByteArray) : deR g_s l.length (enR c_s l) = l := deR_enR gc_s l
def c_li64 (a : List Int) : List AV := [.ro 1 a.length false (enR c_i64 a)]
def g_li64 (f : Nat -> AV) : List Int := lA g_i64 (f 0)
def k_li64 (f : Nat -> AV) : Prop := lK k_i64 1 (f 0)
theorem gc_li64 (a : List Int) : g_li64 (getL (c_li64 a)) = a := by
  simp only [g_li64, c_li64, getL, iA, bA, sA, lA, deR_enR gc_i64]
theorem kc_li64 (a : List Int) : k_li64 (getL (c_li64 a)) := by
  simp only [k_li64, c_li64, getL, iK, bK, sK, lK, or_true, true_and, and_true, and_self, Fit_enR kc_i64]
theorem nr_li64 (a : List Int) : nrefL (c_li64 a) := by simp only [c_li64, nrefL, nref, and_self]
instance : NRf c_li64 := ⟨nr_li64⟩
instance : KCf k_li64 c_li64 := ⟨kc_li64⟩
theorem w_li64 {f : Nat -> AV} (h : k_li64 f) : ∀ y, y < 1 -> WkV (getL (c_li64 (g_li64 f)) y) (f y) /\ nref (getL (c_li64 (g_li64 f)) y) := by
  have h0 := h
  intro y hy
  match y, hy with
  | 0, _ => exact lK_wk (fun r h => w_i64 h) h0
  | y + 1, hy => omega
theorem e_li64_0 (l : List (List Int)) (x : Nat) : enR c_li64 l x 0 = .ro 1 (gd l x).length false (enR c_i64 (gd l x)) := rfl
theorem fit_li64 (n : Nat) (l : List (List Int)) : Fit k_li64 n (enR c_li64 l) = True := eq_true (Fit_enR kc_li64)
theorem de_li64 (l : List (List Int)) : deR g_li64 l.length (enR c_li64 l) = l := deR_enR gc_li64 l
def c_lu8 (a : List Int) : List AV := [.ro 1 a.length false (enR c_u8 a)]
def g_lu8 (f : Nat -> AV) : List Int := lA g_u8 (f 0)
def k_lu8 (f : Nat -> AV) : Prop := lK k_u8 1 (f 0)
theorem gc_lu8 (a : List Int) : g_lu8 (getL (c_lu8 a)) = a := by
  simp only [g_lu8, c_lu8, getL, iA, bA, sA, lA, deR_enR gc_u8]
theorem kc_lu8 (a : List Int) : k_lu8 (getL (c_lu8 a)) := by
  simp only [k_lu8, c_lu8, getL, iK, bK, sK, lK, or_true, true_and, and_true, and_self, Fit_enR kc_u8]
theorem nr_lu8 (a : List Int) : nrefL (c_lu8 a) := by simp only [c_lu8, nrefL, nref, and_self]
instance : NRf c_lu8 := ⟨nr_lu8⟩
instance : KCf k_lu8 c_lu8 := ⟨kc_lu8⟩
theorem w_lu8 {f : Nat -> AV} (h : k_lu8 f) : ∀ y, y < 1 -> WkV (getL (c_lu8 (g_lu8 f)) y) (f y) /\ nref (getL (c_lu8 (g_lu8 f)) y) := by
  have h0 := h
  intro y hy
  match y, hy with
  | 0, _ => exact lK_wk (fun r h => w_u8 h) h0
  | y + 1, hy => omega
theorem e_lu8_0 (l : List (List Int)) (x : Nat) : enR c_lu8 l x 0 = .ro 1 (gd l x).length false (enR c_u8 (gd l x)) := rfl
theorem fit_lu8 (n : Nat) (l : List (List Int)) : Fit k_lu8 n (enR c_lu8 l) = True := eq_true (Fit_enR kc_lu8)
theorem de_lu8 (l : List (List Int)) : deR g_lu8 l.length (enR c_lu8 l) = l := deR_enR gc_lu8 l
def c_U4 (a : Unit) : List AV := [.top, .top, .top, .top]
def g_U4 (f : Nat -> AV) : Unit := ()
def k_U4 (f : Nat -> AV) : Prop := True /\ True /\ True /\ True
theorem gc_U4 (a : Unit) : g_U4 (getL (c_U4 a)) = a := by
  simp only [g_U4, c_U4, getL, iA, bA, sA, lA]
theorem kc_U4 (a : Unit) : k_U4 (getL (c_U4 a)) := by
  simp only [k_U4, c_U4, getL, iK, bK, sK, lK, or_true, true_and, and_true, and_self]
theorem nr_U4 (a : Unit) : nrefL (c_U4 a) := by simp only [c_U4, nrefL, nref, and_self]
instance : NRf c_U4 := ⟨nr_U4⟩
instance : KCf k_U4 c_U4 := ⟨kc_U4⟩
theorem w_U4 {f : Nat -> AV} (h : k_U4 f) : ∀ y, y < 4 -> WkV (getL (c_U4 (g_U4 f)) y) (f y) /\ nref (getL (c_U4 (g_U4 f)) y) := by
  obtain ⟨h0, h1, h2, h3⟩ := h
  intro y hy
  match y, hy with
  | 0, _ => exact ⟨fun _ _ _ => .top _, by simp only [c_U4, getL, nref]⟩
  | 1, _ => exact ⟨fun _ _ _ => .top _, by simp only [c_U4, getL, nref]⟩
  | 2, _ => exact ⟨fun _ _ _ => .top _, by simp only [c_U4, getL, nref]⟩
  | 3, _ => exact ⟨fun _ _ _ => .top _, by simp only [c_U4, getL, nref]⟩
  | y + 4, hy => omega
theorem e_U4_0 (l : List Unit) (x : Nat) : enR c_U4 l x 0 = .top := rfl
theorem e_U4_1 (l : List Unit) (x : Nat) : enR c_U4 l x 1 = .top := rfl
theorem e_U4_2 (l : List Unit) (x : Nat) : enR c_U4 l x 2 = .top := rfl
theorem e_U4_3 (l : List Unit) (x : Nat) : enR c_U4 l x 3 = .top := rfl
theorem fit_U4 (n : Nat) (l : List Unit) : Fit k_U4 n (enR c_U4 l) = True := eq_true (Fit_enR kc_U4)
theorem de_U4 (l : List Unit) : deR g_U4 l.length (enR c_U4 l) = l := deR_enR gc_U4 l
def c_lU4 (a : List Unit) : List AV := [.ro 4 a.length false (enR c_U4 a)]
def g_lU4 (f : Nat -> AV) : List Unit := lA g_U4 (f 0)
def k_lU4 (f : Nat -> AV) : Prop := lK k_U4 4 (f 0)
theorem gc_lU4 (a : List Unit) : g_lU4 (getL (c_lU4 a)) = a := by
  simp only [g_lU4, c_lU4, getL, iA, bA, sA, lA, deR_enR gc_U4]
theorem kc_lU4 (a : List Unit) : k_lU4 (getL (c_lU4 a)) := by
  simp only [k_lU4, c_lU4, getL, iK, bK, sK, lK, or_true, true_and, and_true, and_self, Fit_enR kc_U4]
theorem nr_lU4 (a : List Unit) : nrefL (c_lU4 a) := by simp only [c_lU4, nrefL, nref, and_self]
instance : NRf c_lU4 := ⟨nr_lU4⟩
instance : KCf k_lU4 c_lU4 := ⟨kc_lU4⟩
theorem w_lU4 {f : Nat -> AV} (h : k_lU4 f) : ∀ y, y < 1 -> WkV (getL (c_lU4 (g_lU4 f)) y) (f y) /\ nref (getL (c_lU4 (g_lU4 f)) y) := by
  have h0 := h
  intro y hy
  match y, hy with
  | 0, _ => exact lK_wk (fun r h => w_U4 h) h0
  | y + 1, hy => omega
theorem e_lU4_0 (l : List (List Unit)) (x : Nat) : enR c_lU4 l x 0 = .ro 4 (gd l x).length false (enR c_U4 (gd l x)) := rfl
theorem fit_lU4 (n : Nat) (l : List (List Unit)) : Fit k_lU4 n (enR c_lU4 l) = True := eq_true (Fit_enR kc_lU4)
theorem de_lU4 (l : List (List Unit)) : deR g_lU4 l.length (enR c_lU4 l) = l := deR_enR gc_lU4 l
structure TElement where
  Id : Int
  Ext : Int
  Data : _root_.List Int
  Subs : _root_.List Unit
  deriving Inhabited
def c_TElement (a : TElement) : List AV := [.int .u8 a.Id, .int .u8 a.Ext, .ro 1 a.Data.length false (enR c_u8 a.Data), .ro 4 a.Subs.length false (enR c_U4 a.Subs)]
def g_TElement (f : Nat -> AV) : TElement := ⟨iA (f 0), iA (f 1), lA g_u8 (f 2), lA g_U4 (f 3)⟩
def k_TElement (f : Nat -> AV) : Prop := iK .u8 (f 0) /\ iK .u8 (f 1) /\ lK k_u8 1 (f 2) /\ lK k_U4 4 (f 3)
theorem gc_TElement (a : TElement) : g_TElement (getL (c_TElement a)) = a := by
  simp only [g_TElement, c_TElement, getL, iA, bA, sA, lA, deR_enR gc_U4, deR_enR gc_u8]
theorem kc_TElement (a : TElement) : k_TElement (getL (c_TElement a)) := by
  simp only [k_TElement, c_TElement, getL, iK, bK, sK, lK, or_true, true_and, and_true, and_self, Fit_enR kc_U4, Fit_enR kc_u8]
theorem nr_TElement (a : TElement) : nrefL (c_TElement a) := by simp only [c_TElement, nrefL, nref, and_self]
instance : NRf c_TElement := ⟨nr_TElement⟩
instance : KCf k_TElement c_TElement := ⟨kc_TElement⟩
theorem w_TElement {f : Nat -> AV} (h : k_TElement f) : ∀ y, y < 4 -> WkV (getL (c_TElement (g_TElement f)) y) (f y) /\ nref (getL (c_TElement (g_TElement f)) y) := by
  obtain ⟨h0, h1, h2, h3⟩ := h
  intro y hy
  match y, hy with
  | 0, _ => exact iK_wk h0
  | 1, _ => exact iK_wk h1
  | 2, _ => exact lK_wk (fun r h => w_u8 h) h2
  | 3, _ => exact lK_wk (fun r h => w_U4 h) h3
  | y + 4, hy => omega
theorem e_TElement_0 (l : List TElement) (x : Nat) : enR c_TElement l x 0 = .int .u8 ((gd l x).Id) := rfl
theorem e_TElement_1 (l : List TElement) (x : Nat) : enR c_TElement l x 1 = .int .u8 ((gd l x).Ext) := rfl
theorem e_TElement_2 (l : List TElement) (x : Nat) : enR c_TElement l x 2 = .ro 1 ((gd l x).Data).length false (enR c_u8 ((gd l x).Data)) := rfl
theorem e_TElement_3 (l : List TElement) (x : Nat) : enR c_TElement l x 3 = .ro 4 ((gd l x).Subs).length false (enR c_U4 ((gd l x).Subs)) := rfl
theorem fit_TElement (n : Nat) (l : List TElement) : Fit k_TElement n (enR c_TElement l) = True := eq_true (Fit_enR kc_TElement)
theorem de_TElement (l : List TElement) : deR g_TElement l.length (enR c_TElement l) = l := deR_enR gc_TElement l
theorem eta_TElement (a : TElement) : TElement.mk a.Id a.Ext a.Data a.Subs = a := rfl
theorem wA_TElement {v : AV} (h : aK 4 k_TElement v) : WkV (.agg (c_TElement (g_TElement (aL v)))) v /\ nref (.agg (c_TElement (g_TElement (aL v)))) := aK_wk (f := c_TElement) (g := g_TElement) (fun r h => w_TElement h) rfl (by simp only [c_TElement, nrefL, nref, and_self]) h
def c_lTElement (a : List TElement) : List AV := [.ro 4 a.length false (enR c_TElement a)]
def g_lTElement (f : Nat -> AV) : List TElement := lA g_TElement (f 0)
def k_lTElement (f : Nat -> AV) : Prop := lK k_TElement 4 (f 0)
theorem gc_lTElement (a : List TElement) : g_lTElement (getL (c_lTElement a)) = a := by
  simp only [g_lTElement, c_lTElement, getL, iA, bA, sA, lA, deR_enR gc_TElement]
theorem kc_lTElement (a : List TElement) : k_lTElement (getL (c_lTElement a)) := by
  simp only [k_lTElement, c_lTElement, getL, iK, bK, sK, lK, or_true, true_and, and_true, and_self, Fit_enR kc_TElement]
theorem nr_lTElement (a : List TElement) : nrefL (c_lTElement a) := by simp only [c_lTElement, nrefL, nref, and_self]
instance : NRf c_lTElement := ⟨nr_lTElement⟩
instance : KCf k_lTElement c_lTElement := ⟨kc_lTElement⟩
theorem w_lTElement {f : Nat -> AV} (h : k_lTElement f) : ∀ y, y < 1 -> WkV (getL (c_lTElement (g_lTElement f)) y) (f y) /\ nref (getL (c_lTElement (g_lTElement f)) y) := by
  have h0 := h
  intro y hy
  match y, hy with
  | 0, _ => exact lK_wk (fun r h => w_TElement h) h0
  | y + 1, hy => omega
theorem e_lTElement_0 (l : List (List TElement)) (x : Nat) : enR c_lTElement l x 0 = .ro 4 (gd l x).length false (enR c_TElement (gd l x)) := rfl
theorem fit_lTElement (n : Nat) (l : List (List TElement)) : Fit k_lTElement n (enR c_lTElement l) = True := eq_true (Fit_enR kc_lTElement)
theorem de_lTElement (l : List (List TElement)) : deR g_lTElement l.length (enR c_lTElement l) = l := deR_enR gc_lTElement l
structure TVisit where
  Channel : Int
  From : Int
  To : Int
  Probe : Bool
  deriving Inhabited
def c_TVisit (a : TVisit) : List AV := [.int .i64 a.Channel, .int .i64 a.From, .int .i64 a.To, .bool a.Probe]
def g_TVisit (f : Nat -> AV) : TVisit := ⟨iA (f 0), iA (f 1), iA (f 2), bA (f 3)⟩
def k_TVisit (f : Nat -> AV) : Prop := iK .i64 (f 0) /\ iK .i64 (f 1) /\ iK .i64 (f 2) /\ bK (f 3)
theorem gc_TVisit (a : TVisit) : g_TVisit (getL (c_TVisit a)) = a := by
  simp only [g_TVisit, c_TVisit, getL, iA, bA, sA, lA]
theorem kc_TVisit (a : TVisit) : k_TVisit (getL (c_TVisit a)) := by
  simp only [k_TVisit, c_TVisit, getL, iK, bK, sK, lK, or_true, true_and, and_true, and_self]
theorem nr_TVisit (a : TVisit) : nrefL (c_TVisit a) := by simp only [c_TVisit, nrefL, nref, and_self]
instance : NOf c_TVisit := ⟨fun a => by simp only [c_TVisit, noroL, noro, and_self]⟩
instance : NRf c_TVisit := ⟨nr_TVisit⟩
instance : KCf k_TVisit c_TVisit := ⟨kc_TVisit⟩
theorem w_TVisit {f : Nat -> AV} (h : k_TVisit f) : ∀ y, y < 4 -> WkV (getL (c_TVisit (g_TVisit f)) y) (f y) /\ nref (getL (c_TVisit (g_TVisit f)) y) := by
  obtain ⟨h0, h1, h2, h3⟩ := h
  intro y hy
  match y, hy with
  | 0, _ => exact iK_wk h0
  | 1, _ => exact iK_wk h1
  | 2, _ => exact iK_wk h2
  | 3, _ => exact bK_wk h3
  | y + 4, hy => omega
theorem e_TVisit_0 (l : List TVisit) (x : Nat) : enR c_TVisit l x 0 = .int .i64 ((gd l x).Channel) := rfl
theorem e_TVisit_1 (l : List TVisit) (x : Nat) : enR c_TVisit l x 1 = .int .i64 ((gd l x).From) := rfl
theorem e_TVisit_2 (l : List TVisit) (x : Nat) : enR c_TVisit l x 2 = .int .i64 ((gd l x).To) := rfl
theorem e_TVisit_3 (l : List TVisit) (x : Nat) : enR c_TVisit l x 3 = .bool ((gd l x).Probe) := rfl
theorem fit_TVisit (n : Nat) (l : List TVisit) : Fit k_TVisit n (enR c_TVisit l) = True := eq_true (Fit_enR kc_TVisit)
theorem de_TVisit (l : List TVisit) : deR g_TVisit l.length (enR c_TVisit l) = l := deR_enR gc_TVisit l
theorem eta_TVisit (a : TVisit) : TVisit.mk a.Channel a.From a.To a.Probe = a := rfl
theorem wA_TVisit {v : AV} (h : aK 4 k_TVisit v) : WkV (.agg (c_TVisit (g_TVisit (aL v)))) v /\ nref (.agg (c_TVisit (g_TVisit (aL v)))) := aK_wk (f := c_TVisit) (g := g_TVisit) (fun r h => w_TVisit h) rfl (by simp only [c_TVisit, nrefL, nref, and_self]) h
def c_lTVisit (a : List TVisit) : List AV := [.ro 4 a.length false (enR c_TVisit a)]
def g_lTVisit (f : Nat -> AV) : List TVisit := lA g_TVisit (f 0)
def k_lTVisit (f : Nat -> AV) : Prop := lK k_TVisit 4 (f 0)
theorem gc_lTVisit (a : List TVisit) : g_lTVisit (getL (c_lTVisit a)) = a := by
  simp only [g_lTVisit, c_lTVisit, getL, iA, bA, sA, lA, deR_enR gc_TVisit]
theorem kc_lTVisit (a : List TVisit) : k_lTVisit (getL (c_lTVisit a)) := by
  simp only [k_lTVisit, c_lTVisit, getL, iK, bK, sK, lK, or_true, true_and, and_true, and_self, Fit_enR kc_TVisit]
theorem nr_lTVisit (a : List TVisit) : nrefL (c_lTVisit a) := by simp only [c_lTVisit, nrefL, nref, and_self]
instance : NRf c_lTVisit := ⟨nr_lTVisit⟩
instance : KCf k_lTVisit c_lTVisit := ⟨kc_lTVisit⟩
theorem w_lTVisit {f : Nat -> AV} (h : k_lTVisit f) : ∀ y, y < 1 -> WkV (getL (c_lTVisit (g_lTVisit f)) y) (f y) /\ nref (getL (c_lTVisit (g_lTVisit f)) y) := by
  have h0 := h
  intro y hy
  match y, hy with
  | 0, _ => exact lK_wk (fun r h => w_TVisit h) h0
  | y + 1, hy => omega
theorem e_lTVisit_0 (l : List (List TVisit)) (x : Nat) : enR c_lTVisit l x 0 = .ro 4 (gd l x).length false (enR c_TVisit (gd l x)) := rfl
theorem fit_lTVisit (n : Nat) (l : List (List TVisit)) : Fit k_lTVisit n (enR c_lTVisit l) = True := eq_true (Fit_enR kc_lTVisit)
theorem de_lTVisit (l : List (List TVisit)) : deR g_lTVisit l.length (enR c_lTVisit l) = l := deR_enR gc_lTVisit l
structure A6u8 where
  x0 : Int
  x1 : Int
  x2 : Int
  x3 : Int
  x4 : Int
  x5 : Int
  deriving Inhabited
def c_A6u8 (a : A6u8) : List AV := [.int .u8 a.x0, .int .u8 a.x1, .int .u8 a.x2, .int .u8 a.x3, .int .u8 a.x4, .int .u8 a.x5]
def g_A6u8 (f : Nat -> AV) : A6u8 := ⟨iA (f 0), iA (f 1), iA (f 2), iA (f 3), iA (f 4), iA (f 5)⟩
def k_A6u8 (f : Nat -> AV) : Prop := iK .u8 (f 0) /\ iK .u8 (f 1) /\ iK .u8 (f 2) /\ iK .u8 (f 3) /\ iK .u8 (f 4) /\ iK .u8 (f 5)
theorem gc_A6u8 (a : A6u8) : g_A6u8 (getL (c_A6u8 a)) = a := by
  simp only [g_A6u8, c_A6u8, getL, iA, bA, sA, lA]
theorem kc_A6u8 (a : A6u8) : k_A6u8 (getL (c_A6u8 a)) := by
  simp only [k_A6u8, c_A6u8, getL, iK, bK, sK, lK, or_true, true_and, and_true, and_self]
theorem nr_A6u8 (a : A6u8) : nrefL (c_A6u8 a) := by simp only [c_A6u8, nrefL, nref, and_self]
instance : NOf c_A6u8 := ⟨fun a => by simp only [c_A6u8, noroL, noro, and_self]⟩
instance : NRf c_A6u8 := ⟨nr_A6u8⟩
instance : KCf k_A6u8 c_A6u8 := ⟨kc_A6u8⟩
theorem w_A6u8 {f : Nat -> AV} (h : k_A6u8 f) : ∀ y, y < 6 -> WkV (getL (c_A6u8 (g_A6u8 f)) y) (f y) /\ nref (getL (c_A6u8 (g_A6u8 f)) y) := by
  obtain ⟨h0, h1, h2, h3, h4, h5⟩ := h
  intro y hy
  match y, hy with
  | 0, _ => exact iK_wk h0
  | 1, _ => exact iK_wk h1
  | 2, _ => exact iK_wk h2
  | 3, _ => exact iK_wk h3
  | 4, _ => exact iK_wk h4
  | 5, _ => exact iK_wk h5
  | y + 6, hy => omega
theorem e_A6u8_0 (l : List A6u8) (x : Nat) : enR c_A6u8 l x 0 = .int .u8 ((gd l x).x0) := rfl
theorem e_A6u8_1 (l : List A6u8) (x : Nat) : enR c_A6u8 l x 1 = .int .u8 ((gd l x).x1) := rfl
theorem e_A6u8_2 (l : List A6u8) (x : Nat) : enR c_A6u8 l x 2 = .int .u8 ((gd l x).x2) := rfl
theorem e_A6u8_3 (l : List A6u8) (x : Nat) : enR c_A6u8 l x 3 = .int .u8 ((gd l x).x3) := rfl
theorem e_A6u8_4 (l : List A6u8) (x : Nat) : enR c_A6u8 l x 4 = .int .u8 ((gd l x).x4) := rfl
theorem e_A6u8_5 (l : List A6u8) (x : Nat) : enR c_A6u8 l x 5 = .int .u8 ((gd l x).x5) := rfl
theorem fit_A6u8 (n : Nat) (l : List A6u8) : Fit k_A6u8 n (enR c_A6u8 l) = True := eq_true (Fit_enR kc_A6u8)
theorem de_A6u8 (l : List A6u8) : deR g_A6u8 l.length (enR c_A6u8 l) = l := deR_enR gc_A6u8 l
theorem eta_A6u8 (a : A6u8) : A6u8.mk a.x0 a.x1 a.x2 a.x3 a.x4 a.x5 = a := rfl
theorem wA_A6u8 {v : AV} (h : aK 6 k_A6u8 v) : WkV (.agg (c_A6u8 (g_A6u8 (aL v)))) v /\ nref (.agg (c_A6u8 (g_A6u8 (aL v)))) := aK_wk (f := c_A6u8) (g := g_A6u8) (fun r h => w_A6u8 h) rfl (by simp only [c_A6u8, nrefL, nref, and_self]) h
structure TCandidate where
  Addr : A6u8
  Channel : Int
  Level : Int
  Load : Int
  Heard : Int
  Interval : Int
  Name : ByteArray
  Secure : Bool
  deriving Inhabited
def c_TCandidate (a : TCandidate) : List AV := [.int .u8 a.Addr.x0, .int .u8 a.Addr.x1, .int .u8 a.Addr.x2, .int .u8 a.Addr.x3, .int .u8 a.Addr.x4, .int .u8 a.Addr.x5, .int .i64 a.Channel, .int .i64 a.Level, .int .i64 a.Load, .int .i64 a.Heard, .int .i64 a.Interval, .str a.Name, .bool a.Secure]
def g_TCandidate (f : Nat -> AV) : TCandidate := ⟨⟨iA (f 0), iA (f 1), iA (f 2), iA (f 3), iA (f 4), iA (f 5)⟩, iA (f 6), iA (f 7), iA (f 8), iA (f 9), iA (f 10), sA (f 11), bA (f 12)⟩
def k_TCandidate (f : Nat -> AV) : Prop := iK .u8 (f 0) /\ iK .u8 (f 1) /\ iK .u8 (f 2) /\ iK .u8 (f 3) /\ iK .u8 (f 4) /\ iK .u8 (f 5) /\ iK .i64 (f 6) /\ iK .i64 (f 7) /\ iK .i64 (f 8) /\ iK .i64 (f 9) /\ iK .i64 (f 10) /\ sK (f 11) /\ bK (f 12)
theorem gc_TCandidate (a : TCandidate) : g_TCandidate (getL (c_TCandidate a)) = a := by
  simp only [g_TCandidate, c_TCandidate, getL, iA, bA, sA, lA]
theorem kc_TCandidate (a : TCandidate) : k_TCandidate (getL (c_TCandidate a)) := by
  simp only [k_TCandidate, c_TCandidate, getL, iK, bK, sK, lK, or_true, true_and, and_true, and_self]
theorem nr_TCandidate (a : TCandidate) : nrefL (c_TCandidate a) := by simp only [c_TCandidate, nrefL, nref, and_self]
instance : NOf c_TCandidate := ⟨fun a => by simp only [c_TCandidate, noroL, noro, and_self]⟩
instance : NRf c_TCandidate := ⟨nr_TCandidate⟩
instance : KCf k_TCandidate c_TCandidate := ⟨kc_TCandidate⟩
theorem w_TCandidate {f : Nat -> AV} (h : k_TCandidate f) : ∀ y, y < 13 -> WkV (getL (c_TCandidate (g_TCandidate f)) y) (f y) /\ nref (getL (c_TCandidate (g_TCandidate f)) y) := by
  obtain ⟨h0, h1, h2, h3, h4, h5, h6, h7, h8, h9, h10, h11, h12⟩ := h
  intro y hy
  match y, hy with
  | 0, _ => exact iK_wk h0
  | 1, _ => exact iK_wk h1
  | 2, _ => exact iK_wk h2
  | 3, _ => exact iK_wk h3
  | 4, _ => exact iK_wk h4
  | 5, _ => exact iK_wk h5
  | 6, _ => exact iK_wk h6
  | 7, _ => exact iK_wk h7
  | 8, _ => exact iK_wk h8
  | 9, _ => exact iK_wk h9
  | 10, _ => exact iK_wk h10
  | 11, _ => exact sK_wk h11
  | 12, _ => exact bK_wk h12
  | y + 13, hy => omega
theorem e_TCandidate_0 (l : List TCandidate) (x : Nat) : enR c_TCandidate l x 0 = .int .u8 (((gd l x).Addr).x0) := rfl
theorem e_TCandidate_1 (l : List TCandidate) (x : Nat) : enR c_TCandidate l x 1 = .int .u8 (((gd l x).Addr).x1) := rfl
theorem e_TCandidate_2 (l : List TCandidate) (x : Nat) : enR c_TCandidate l x 2 = .int .u8 (((gd l x).Addr).x2) := rfl
theorem e_TCandidate_3 (l : List TCandidate) (x : Nat) : enR c_TCandidate l x 3 = .int .u8 (((gd l x).Addr).x3) := rfl
theorem e_TCandidate_4 (l : List TCandidate) (x : Nat) : enR c_TCandidate l x 4 = .int .u8 (((gd l x).Addr).x4) := rfl
theorem e_TCandidate_5 (l : List TCandidate) (x : Nat) : enR c_TCandidate l x 5 = .int .u8 (((gd l x).Addr).x5) := rfl
theorem e_TCandidate_6 (l : List TCandidate) (x : Nat) : enR c_TCandidate l x 6 = .int .i64 ((gd l x).Channel) := rfl
theorem e_TCandidate_7 (l : List TCandidate) (x : Nat) : enR c_TCandidate l x 7 = .int .i64 ((gd l x).Level) := rfl
theorem e_TCandidate_8 (l : List TCandidate) (x : Nat) : enR c_TCandidate l x 8 = .int .i64 ((gd l x).Load) := rfl
theorem e_TCandidate_9 (l : List TCandidate) (x : Nat) : enR c_TCandidate l x 9 = .int .i64 ((gd l x).Heard) := rfl
theorem e_TCandidate_10 (l : List TCandidate) (x : Nat) : enR c_TCandidate l x 10 = .int .i64 ((gd l x).Interval) := rfl
theorem e_TCandidate_11 (l : List TCandidate) (x : Nat) : enR c_TCandidate l x 11 = .str ((gd l x).Name) := rfl
theorem e_TCandidate_12 (l : List TCandidate) (x : Nat) : enR c_TCandidate l x 12 = .bool ((gd l x).Secure) := rfl
theorem fit_TCandidate (n : Nat) (l : List TCandidate) : Fit k_TCandidate n (enR c_TCandidate l) = True := eq_true (Fit_enR kc_TCandidate)
theorem de_TCandidate (l : List TCandidate) : deR g_TCandidate l.length (enR c_TCandidate l) = l := deR_enR gc_TCandidate l
theorem eta_TCandidate (a : TCandidate) : TCandidate.mk a.Addr a.Channel a.Level a.Load a.Heard a.Interval a.Name a.Secure = a := rfl
theorem wA_TCandidate {v : AV} (h : aK 13 k_TCandidate v) : WkV (.agg (c_TCandidate (g_TCandidate (aL v)))) v /\ nref (.agg (c_TCandidate (g_TCandidate (aL v)))) := aK_wk (f := c_TCandidate) (g := g_TCandidate) (fun r h => w_TCandidate h) rfl (by simp only [c_TCandidate, nrefL, nref, and_self]) h
def c_lTCandidate (a : List TCandidate) : List AV := [.ro 13 a.length false (enR c_TCandidate a)]
def g_lTCandidate (f : Nat -> AV) : List TCandidate := lA g_TCandidate (f 0)
def k_lTCandidate (f : Nat -> AV) : Prop := lK k_TCandidate 13 (f 0)
theorem gc_lTCandidate (a : List TCandidate) : g_lTCandidate (getL (c_lTCandidate a)) = a := by
  simp only [g_lTCandidate, c_lTCandidate, getL, iA, bA, sA, lA, deR_enR gc_TCandidate]
theorem kc_lTCandidate (a : List TCandidate) : k_lTCandidate (getL (c_lTCandidate a)) := by
  simp only [k_lTCandidate, c_lTCandidate, getL, iK, bK, sK, lK, or_true, true_and, and_true, and_self, Fit_enR kc_TCandidate]
theorem nr_lTCandidate (a : List TCandidate) : nrefL (c_lTCandidate a) := by simp only [c_lTCandidate, nrefL, nref, and_self]
instance : NRf c_lTCandidate := ⟨nr_lTCandidate⟩
instance : KCf k_lTCandidate c_lTCandidate := ⟨kc_lTCandidate⟩
theorem w_lTCandidate {f : Nat -> AV} (h : k_lTCandidate f) : ∀ y, y < 1 -> WkV (getL (c_lTCandidate (g_lTCandidate f)) y) (f y) /\ nref (getL (c_lTCandidate (g_lTCandidate f)) y) := by
  have h0 := h
  intro y hy
  match y, hy with
  | 0, _ => exact lK_wk (fun r h => w_TCandidate h) h0
  | y + 1, hy => omega
theorem e_lTCandidate_0 (l : List (List TCandidate)) (x : Nat) : enR c_lTCandidate l x 0 = .ro 13 (gd l x).length false (enR c_TCandidate (gd l x)) := rfl
theorem fit_lTCandidate (n : Nat) (l : List (List TCandidate)) : Fit k_lTCandidate n (enR c_lTCandidate l) = True := eq_true (Fit_enR kc_lTCandidate)
theorem de_lTCandidate (l : List (List TCandidate)) : deR g_lTCandidate l.length (enR c_lTCandidate l) = l := deR_enR gc_lTCandidate l
structure TCandidates where
  List : _root_.List TCandidate
  deriving Inhabited
def c_TCandidates (a : TCandidates) : List AV := [.ro 13 a.List.length false (enR c_TCandidate a.List)]
def g_TCandidates (f : Nat -> AV) : TCandidates := ⟨lA g_TCandidate (f 0)⟩
def k_TCandidates (f : Nat -> AV) : Prop := lK k_TCandidate 13 (f 0)
theorem gc_TCandidates (a : TCandidates) : g_TCandidates (getL (c_TCandidates a)) = a := by
  simp only [g_TCandidates, c_TCandidates, getL, iA, bA, sA, lA, deR_enR gc_TCandidate]
theorem kc_TCandidates (a : TCandidates) : k_TCandidates (getL (c_TCandidates a)) := by
  simp only [k_TCandidates, c_TCandidates, getL, iK, bK, sK, lK, or_true, true_and, and_true, and_self, Fit_enR kc_TCandidate]
theorem nr_TCandidates (a : TCandidates) : nrefL (c_TCandidates a) := by simp only [c_TCandidates, nrefL, nref, and_self]
instance : NRf c_TCandidates := ⟨nr_TCandidates⟩
instance : KCf k_TCandidates c_TCandidates := ⟨kc_TCandidates⟩
theorem w_TCandidates {f : Nat -> AV} (h : k_TCandidates f) : ∀ y, y < 1 -> WkV (getL (c_TCandidates (g_TCandidates f)) y) (f y) /\ nref (getL (c_TCandidates (g_TCandidates f)) y) := by
  have h0 := h
  intro y hy
  match y, hy with
  | 0, _ => exact lK_wk (fun r h => w_TCandidate h) h0
  | y + 1, hy => omega
theorem e_TCandidates_0 (l : List TCandidates) (x : Nat) : enR c_TCandidates l x 0 = .ro 13 ((gd l x).List).length false (enR c_TCandidate ((gd l x).List)) := rfl
theorem fit_TCandidates (n : Nat) (l : List TCandidates) : Fit k_TCandidates n (enR c_TCandidates l) = True := eq_true (Fit_enR kc_TCandidates)
theorem de_TCandidates (l : List TCandidates) : deR g_TCandidates l.length (enR c_TCandidates l) = l := deR_enR gc_TCandidates l
theorem eta_TCandidates (a : TCandidates) : TCandidates.mk a.List = a := rfl
theorem wA_TCandidates {v : AV} (h : aK 1 k_TCandidates v) : WkV (.agg (c_TCandidates (g_TCandidates (aL v)))) v /\ nref (.agg (c_TCandidates (g_TCandidates (aL v)))) := aK_wk (f := c_TCandidates) (g := g_TCandidates) (fun r h => w_TCandidates h) rfl (by simp only [c_TCandidates, nrefL, nref, and_self]) h
def c_u64 (a : Int) : List AV := [.int .u64 a]
def g_u64 (f : Nat -> AV) : Int := iA (f 0)
def k_u64 (f : Nat -> AV) : Prop := iK .u64 (f 0)
theorem gc_u64 (a : Int) : g_u64 (getL (c_u64 a)) = a := by
  simp only [g_u64, c_u64, getL, iA, bA, sA, lA]
theorem kc_u64 (a : Int) : k_u64 (getL (c_u64 a)) := by
  simp only [k_u64, c_u64, getL, iK, bK, sK, lK, or_true, true_and, and_true, and_self]
theorem nr_u64 (a : Int) : nrefL (c_u64 a) := by simp only [c_u64, nrefL, nref, and_self]
instance : NOf c_u64 := ⟨fun a => by simp only [c_u64, noroL, noro, and_self]⟩
instance : NRf c_u64 := ⟨nr_u64⟩
instance : KCf k_u64 c_u64 := ⟨kc_u64⟩
theorem w_u64 {f : Nat -> AV} (h : k_u64 f) : ∀ y, y < 1 -> WkV (getL (c_u64 (g_u64 f)) y) (f y) /\ nref (getL (c_u64 (g_u64 f)) y) := by
  have h0 := h
  intro y hy
  match y, hy with
  | 0, _ => exact iK_wk h0
  | y + 1, hy => omega
theorem e_u64_0 (l : List Int) (x : Nat) : enR c_u64 l x 0 = .int .u64 (gd l x) := rfl
theorem fit_u64 (n : Nat) (l : List Int) : Fit k_u64 n (enR c_u64 l) = True := eq_true (Fit_enR kc_u64)
theorem de_u64 (l : List Int) : deR g_u64 l.length (enR c_u64 l) = l := deR_enR gc_u64 l
def c_u16 (a : Int) : List AV := [.int .u16 a]
def g_u16 (f : Nat -> AV) : Int := iA (f 0)
def k_u16 (f : Nat -> AV) : Prop := iK .u16 (f 0)
theorem gc_u16 (a : Int) : g_u16 (getL (c_u16 a)) = a := by
  simp only [g_u16, c_u16, getL, iA, bA, sA, lA]
theorem kc_u16 (a : Int) : k_u16 (getL (c_u16 a)) := by
  simp only [k_u16, c_u16, getL, iK, bK, sK, lK, or_true, true_and, and_true, and_self]
theorem nr_u16 (a : Int) : nrefL (c_u16 a) := by simp only [c_u16, nrefL, nref, and_self]
instance : NOf c_u16 := ⟨fun a => by simp only [c_u16, noroL, noro, and_self]⟩
instance : NRf c_u16 := ⟨nr_u16⟩
instance : KCf k_u16 c_u16 := ⟨kc_u16⟩
theorem w_u16 {f : Nat -> AV} (h : k_u16 f) : ∀ y, y < 1 -> WkV (getL (c_u16 (g_u16 f)) y) (f y) /\ nref (getL (c_u16 (g_u16 f)) y) := by
  have h0 := h
  intro y hy
  match y, hy with
  | 0, _ => exact iK_wk h0
  | y + 1, hy => omega
theorem e_u16_0 (l : List Int) (x : Nat) : enR c_u16 l x 0 = .int .u16 (gd l x) := rfl
theorem fit_u16 (n : Nat) (l : List Int) : Fit k_u16 n (enR c_u16 l) = True := eq_true (Fit_enR kc_u16)
theorem de_u16 (l : List Int) : deR g_u16 l.length (enR c_u16 l) = l := deR_enR gc_u16 l
structure TBeacon where
  Time : Int
  Interval : Int
  Caps : Int
  Elems : _root_.List TElement
  deriving Inhabited
def c_TBeacon (a : TBeacon) : List AV := [.int .u64 a.Time, .int .u16 a.Interval, .int .u16 a.Caps, .ro 4 a.Elems.length false (enR c_TElement a.Elems)]
def g_TBeacon (f : Nat -> AV) : TBeacon := ⟨iA (f 0), iA (f 1), iA (f 2), lA g_TElement (f 3)⟩
def k_TBeacon (f : Nat -> AV) : Prop := iK .u64 (f 0) /\ iK .u16 (f 1) /\ iK .u16 (f 2) /\ lK k_TElement 4 (f 3)
theorem gc_TBeacon (a : TBeacon) : g_TBeacon (getL (c_TBeacon a)) = a := by
  simp only [g_TBeacon, c_TBeacon, getL, iA, bA, sA, lA, deR_enR gc_TElement]
theorem kc_TBeacon (a : TBeacon) : k_TBeacon (getL (c_TBeacon a)) := by
  simp only [k_TBeacon, c_TBeacon, getL, iK, bK, sK, lK, or_true, true_and, and_true, and_self, Fit_enR kc_TElement]
theorem nr_TBeacon (a : TBeacon) : nrefL (c_TBeacon a) := by simp only [c_TBeacon, nrefL, nref, and_self]
instance : NRf c_TBeacon := ⟨nr_TBeacon⟩
instance : KCf k_TBeacon c_TBeacon := ⟨kc_TBeacon⟩
theorem w_TBeacon {f : Nat -> AV} (h : k_TBeacon f) : ∀ y, y < 4 -> WkV (getL (c_TBeacon (g_TBeacon f)) y) (f y) /\ nref (getL (c_TBeacon (g_TBeacon f)) y) := by
  obtain ⟨h0, h1, h2, h3⟩ := h
  intro y hy
  match y, hy with
  | 0, _ => exact iK_wk h0
  | 1, _ => exact iK_wk h1
  | 2, _ => exact iK_wk h2
  | 3, _ => exact lK_wk (fun r h => w_TElement h) h3
  | y + 4, hy => omega
theorem e_TBeacon_0 (l : List TBeacon) (x : Nat) : enR c_TBeacon l x 0 = .int .u64 ((gd l x).Time) := rfl
theorem e_TBeacon_1 (l : List TBeacon) (x : Nat) : enR c_TBeacon l x 1 = .int .u16 ((gd l x).Interval) := rfl
theorem e_TBeacon_2 (l : List TBeacon) (x : Nat) : enR c_TBeacon l x 2 = .int .u16 ((gd l x).Caps) := rfl
theorem e_TBeacon_3 (l : List TBeacon) (x : Nat) : enR c_TBeacon l x 3 = .ro 4 ((gd l x).Elems).length false (enR c_TElement ((gd l x).Elems)) := rfl
theorem fit_TBeacon (n : Nat) (l : List TBeacon) : Fit k_TBeacon n (enR c_TBeacon l) = True := eq_true (Fit_enR kc_TBeacon)
theorem de_TBeacon (l : List TBeacon) : deR g_TBeacon l.length (enR c_TBeacon l) = l := deR_enR gc_TBeacon l
theorem eta_TBeacon (a : TBeacon) : TBeacon.mk a.Time a.Interval a.Caps a.Elems = a := rfl
theorem wA_TBeacon {v : AV} (h : aK 4 k_TBeacon v) : WkV (.agg (c_TBeacon (g_TBeacon (aL v)))) v /\ nref (.agg (c_TBeacon (g_TBeacon (aL v)))) := aK_wk (f := c_TBeacon) (g := g_TBeacon) (fun r h => w_TBeacon h) rfl (by simp only [c_TBeacon, nrefL, nref, and_self]) h
structure TWanted where
  Name : ByteArray
  Secure : Bool
  Floor : Int
  Life : Int
  deriving Inhabited
def c_TWanted (a : TWanted) : List AV := [.str a.Name, .bool a.Secure, .int .i64 a.Floor, .int .i64 a.Life]
def g_TWanted (f : Nat -> AV) : TWanted := ⟨sA (f 0), bA (f 1), iA (f 2), iA (f 3)⟩
def k_TWanted (f : Nat -> AV) : Prop := sK (f 0) /\ bK (f 1) /\ iK .i64 (f 2) /\ iK .i64 (f 3)
theorem gc_TWanted (a : TWanted) : g_TWanted (getL (c_TWanted a)) = a := by
  simp only [g_TWanted, c_TWanted, getL, iA, bA, sA, lA]
theorem kc_TWanted (a : TWanted) : k_TWanted (getL (c_TWanted a)) := by
  simp only [k_TWanted, c_TWanted, getL, iK, bK, sK, lK, or_true, true_and, and_true, and_self]
theorem nr_TWanted (a : TWanted) : nrefL (c_TWanted a) := by simp only [c_TWanted, nrefL, nref, and_self]
instance : NOf c_TWanted := ⟨fun a => by simp only [c_TWanted, noroL, noro, and_self]⟩
instance : NRf c_TWanted := ⟨nr_TWanted⟩
instance : KCf k_TWanted c_TWanted := ⟨kc_TWanted⟩
theorem w_TWanted {f : Nat -> AV} (h : k_TWanted f) : ∀ y, y < 4 -> WkV (getL (c_TWanted (g_TWanted f)) y) (f y) /\ nref (getL (c_TWanted (g_TWanted f)) y) := by
  obtain ⟨h0, h1, h2, h3⟩ := h
  intro y hy
  match y, hy with
  | 0, _ => exact sK_wk h0
  | 1, _ => exact bK_wk h1
  | 2, _ => exact iK_wk h2
  | 3, _ => exact iK_wk h3
  | y + 4, hy => omega
theorem e_TWanted_0 (l : List TWanted) (x : Nat) : enR c_TWanted l x 0 = .str ((gd l x).Name) := rfl
theorem e_TWanted_1 (l : List TWanted) (x : Nat) : enR c_TWanted l x 1 = .bool ((gd l x).Secure) := rfl
theorem e_TWanted_2 (l : List TWanted) (x : Nat) : enR c_TWanted l x 2 = .int .i64 ((gd l x).Floor) := rfl
theorem e_TWanted_3 (l : List TWanted) (x : Nat) : enR c_TWanted l x 3 = .int .i64 ((gd l x).Life) := rfl
theorem fit_TWanted (n : Nat) (l : List TWanted) : Fit k_TWanted n (enR c_TWanted l) = True := eq_true (Fit_enR kc_TWanted)
theorem de_TWanted (l : List TWanted) : deR g_TWanted l.length (enR c_TWanted l) = l := deR_enR gc_TWanted l
theorem eta_TWanted (a : TWanted) : TWanted.mk a.Name a.Secure a.Floor a.Life = a := rfl
theorem wA_TWanted {v : AV} (h : aK 4 k_TWanted v) : WkV (.agg (c_TWanted (g_TWanted (aL v)))) v /\ nref (.agg (c_TWanted (g_TWanted (aL v)))) := aK_wk (f := c_TWanted) (g := g_TWanted) (fun r h => w_TWanted h) rfl (by simp only [c_TWanted, nrefL, nref, and_self]) h
def shT (t : TypeId) : Option (List Leaf) := if t = 43 then some [.i .u8, .i .u8, .i .u8, .i .u8, .i .u8, .i .u8] else if t = 52 then some [.i .u8, .i .u8, .i .u8, .i .u8, .i .u8, .i .u8, .i .i64, .i .i64, .i .i64, .i .i64, .i .i64, .s, .b] else if t = 59 then some [.s, .b, .i .i64, .i .i64] else if t = 65 then some [.i .i64, .i .i64, .i .i64, .b] else none
theorem shT_ok : ShOk Try.prog shT := by
  refine shOk_of fun t l h => ?_
  unfold shT at h
  split at h
  · rename_i ht; subst ht; injection h with h; subst h; exact ⟨by kernel_rfl, by kernel_rfl, by kernel_rfl⟩
  split at h
  · rename_i ht; subst ht; injection h with h; subst h; exact ⟨by kernel_rfl, by kernel_rfl, by kernel_rfl⟩
  split at h
  · rename_i ht; subst ht; injection h with h; subst h; exact ⟨by kernel_rfl, by kernel_rfl, by kernel_rfl⟩
  split at h
  · rename_i ht; subst ht; injection h with h; subst h; exact ⟨by kernel_rfl, by kernel_rfl, by kernel_rfl⟩
  cases h
theorem shT_43 : shT 43 = some [.i .u8, .i .u8, .i .u8, .i .u8, .i .u8, .i .u8] := rfl
theorem shT_52 : shT 52 = some [.i .u8, .i .u8, .i .u8, .i .u8, .i .u8, .i .u8, .i .i64, .i .i64, .i .i64, .i .i64, .i .i64, .s, .b] := rfl
theorem shT_59 : shT 59 = some [.s, .b, .i .i64, .i .i64] := rfl
theorem shT_65 : shT 65 = some [.i .i64, .i .i64, .i .i64, .b] := rfl
theorem Fit_app {k : (Nat -> AV) -> Prop} {n p : Nat} {c d : Nat -> Nat -> AV} (h1 : Fit k p c) (h2 : Fit k (n - p) d) : Fit k n (appC p c d) := fun x hx => by
  by_cases h : x < p
  · rw [show appC p c d x = c x from funext fun y => if_pos h]; exact h1 x h
  · rw [show appC p c d x = d (x - p) from funext fun y => if_neg h]; exact h2 _ (by omega)
def ctNo : Ct := tab []
theorem ctNo_ok : CtOk Try.prog ctNo := tab_nil
theorem strE_u8 (s : ByteArray) : strE s = enR c_u8 (bytesL s) := strE_en (fun _ => rfl) s
theorem rg {ct : Ct} (C : CtOk Try.prog ct) {a : Code} {K : Kt} {t : List AV} {h : List ABlk} (hw : wpC Try.prog shT ct a K t h) : Mean Try.prog a K t h := wpC_sound shT_ok C a K t h hw
theorem sq {ct : Ct} (C : CtOk Try.prog ct) {a b : Code} {K : Kt} {t : List AV} {h : List ABlk} (hw : wpC Try.prog shT ct a (kM Try.prog b K) t h) : Mean Try.prog (.seq a b) K t h := seqM (wpC_sound shT_ok C a _ t h hw)
end Go.Proofs.Ytpnhehcncljhpaa
