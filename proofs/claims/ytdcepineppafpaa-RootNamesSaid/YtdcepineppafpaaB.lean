/-
  Go's values as typed values.
-/
import Derived.Test.YtdcepineppafpaaT
import Derived.Test.YtdcepineppafpaaPm10
namespace Go.Proofs.Ytdcepineppafpaa
open Go.Am
set_option linter.unusedVariables false
set_option linter.unusedSimpArgs false
def c_u8 (a : Int) : List AV := [.int .u8 a]
def g_u8 (f : Nat -> AV) : Int := iA (f 0)
def k_u8 (f : Nat -> AV) : Prop := iK .u8 (f 0)
theorem gc_u8 (a : Int) : g_u8 (getL (c_u8 a)) = a := by
  simp only [g_u8, c_u8, getL, iA, bA, sA, lA]
theorem kc_u8 (a : Int) : k_u8 (getL (c_u8 a)) := by
  simp only [k_u8, c_u8, getL, iK, bK, sK, lK, or_true, true_and, and_true, and_self]
theorem nr_u8 (a : Int) : nrefL (c_u8 a) := by simp only [c_u8, nrefL, nref, and_self]
instance : NOf c_u8 := ⟨fun a => by simp only [c_u8, noroL, noro, and_self]⟩
instance : NRf c_u8 := ⟨nr_u8⟩
instance : KCf k_u8 c_u8 := ⟨kc_u8⟩
theorem w_u8 {f : Nat -> AV} (h : k_u8 f) : ∀ y, y < 1 -> WkV (getL (c_u8 (g_u8 f)) y) (f y) /\ nref (getL (c_u8 (g_u8 f)) y) := by
  have h0 := h
  intro y hy
  match y, hy with
  | 0, _ => exact iK_wk h0
  | y + 1, hy => omega
theorem e_u8_0 (l : List Int) (x : Nat) : enR c_u8 l x 0 = .int .u8 (gd l x) := rfl
theorem fit_u8 (n : Nat) (l : List Int) : Fit k_u8 n (enR c_u8 l) = True := eq_true (Fit_enR kc_u8)
theorem de_u8 (l : List Int) : deR g_u8 l.length (enR c_u8 l) = l := deR_enR gc_u8 l
def c_i64 (a : Int) : List AV := [.int .i64 a]
def g_i64 (f : Nat -> AV) : Int := iA (f 0)
def k_i64 (f : Nat -> AV) : Prop := iK .i64 (f 0)
theorem gc_i64 (a : Int) : g_i64 (getL (c_i64 a)) = a := by
  simp only [g_i64, c_i64, getL, iA, bA, sA, lA]
theorem kc_i64 (a : Int) : k_i64 (getL (c_i64 a)) := by
  simp only [k_i64, c_i64, getL, iK, bK, sK, lK, or_true, true_and, and_true, and_self]
theorem nr_i64 (a : Int) : nrefL (c_i64 a) := by simp only [c_i64, nrefL, nref, and_self]
instance : NOf c_i64 := ⟨fun a => by simp only [c_i64, noroL, noro, and_self]⟩
instance : NRf c_i64 := ⟨nr_i64⟩
instance : KCf k_i64 c_i64 := ⟨kc_i64⟩
theorem w_i64 {f : Nat -> AV} (h : k_i64 f) : ∀ y, y < 1 -> WkV (getL (c_i64 (g_i64 f)) y) (f y) /\ nref (getL (c_i64 (g_i64 f)) y) := by
  have h0 := h
  intro y hy
  match y, hy with
  | 0, _ => exact iK_wk h0
  | y + 1, hy => omega
theorem e_i64_0 (l : List Int) (x : Nat) : enR c_i64 l x 0 = .int .i64 (gd l x) := rfl
theorem fit_i64 (n : Nat) (l : List Int) : Fit k_i64 n (enR c_i64 l) = True := eq_true (Fit_enR kc_i64)
theorem de_i64 (l : List Int) : deR g_i64 l.length (enR c_i64 l) = l := deR_enR gc_i64 l
def c_b (a : Bool) : List AV := [.bool a]
def g_b (f : Nat -> AV) : Bool := bA (f 0)
def k_b (f : Nat -> AV) : Prop := bK (f 0)
theorem gc_b (a : Bool) : g_b (getL (c_b a)) = a := by
  simp only [g_b, c_b, getL, iA, bA, sA, lA]
theorem kc_b (a : Bool) : k_b (getL (c_b a)) := by
  simp only [k_b, c_b, getL, iK, bK, sK, lK, or_true, true_and, and_true, and_self]
theorem nr_b (a : Bool) : nrefL (c_b a) := by simp only [c_b, nrefL, nref, and_self]
instance : NOf c_b := ⟨fun a => by simp only [c_b, noroL, noro, and_self]⟩
instance : NRf c_b := ⟨nr_b⟩
instance : KCf k_b c_b := ⟨kc_b⟩
theorem w_b {f : Nat -> AV} (h : k_b f) : ∀ y, y < 1 -> WkV (getL (c_b (g_b f)) y) (f y) /\ nref (getL (c_b (g_b f)) y) := by
  have h0 := h
  intro y hy
  match y, hy with
  | 0, _ => exact bK_wk h0
  | y + 1, hy => omega
theorem e_b_0 (l : List Bool) (x : Nat) : enR c_b l x 0 = .bool (gd l x) := rfl
theorem fit_b (n : Nat) (l : List Bool) : Fit k_b n (enR c_b l) = True := eq_true (Fit_enR kc_b)
theorem de_b (l : List Bool) : deR g_b l.length (enR c_b l) = l := deR_enR gc_b l
structure A6u8 where
  x0 : Int
  x1 : Int
  x2 : Int
  x3 : Int
  x4 : Int
  x5 : Int
  deriving Inhabited
def c_A6u8 (a : A6u8) : List AV := [.int .u8 a.x0, .int .u8 a.x1, .int .u8 a.x2, .int .u8 a.x3, .int .u8 a.x4, .int .u8 a.x5]
def g_A6u8 (f : Nat -> AV) : A6u8 := ⟨iA (f 0), iA (f 1), iA (f 2), iA (f 3), iA (f 4), iA (f 5)⟩
def k_A6u8 (f : Nat -> AV) : Prop := iK .u8 (f 0) /\ iK .u8 (f 1) /\ iK .u8 (f 2) /\ iK .u8 (f 3) /\ iK .u8 (f 4) /\ iK .u8 (f 5)
theorem gc_A6u8 (a : A6u8) : g_A6u8 (getL (c_A6u8 a)) = a := by
  simp only [g_A6u8, c_A6u8, getL, iA, bA, sA, lA]
theorem kc_A6u8 (a : A6u8) : k_A6u8 (getL (c_A6u8 a)) := by
  simp only [k_A6u8, c_A6u8, getL, iK, bK, sK, lK, or_true, true_and, and_true, and_self]
theorem nr_A6u8 (a : A6u8) : nrefL (c_A6u8 a) := by simp only [c_A6u8, nrefL, nref, and_self]
instance : NOf c_A6u8 := ⟨fun a => by simp only [c_A6u8, noroL, noro, and_self]⟩
instance : NRf c_A6u8 := ⟨nr_A6u8⟩
instance : KCf k_A6u8 c_A6u8 := ⟨kc_A6u8⟩
theorem w_A6u8 {f : Nat -> AV} (h : k_A6u8 f) : ∀ y, y < 6 -> WkV (getL (c_A6u8 (g_A6u8 f)) y) (f y) /\ nref (getL (c_A6u8 (g_A6u8 f)) y) := by
  obtain ⟨h0, h1, h2, h3, h4, h5⟩ := h
  intro y hy
  match y, hy with
  | 0, _ => exact iK_wk h0
  | 1, _ => exact iK_wk h1
  | 2, _ => exact iK_wk h2
  | 3, _ => exact iK_wk h3
  | 4, _ => exact iK_wk h4
  | 5, _ => exact iK_wk h5
  | y + 6, hy => omega
theorem e_A6u8_0 (l : List A6u8) (x : Nat) : enR c_A6u8 l x 0 = .int .u8 ((gd l x).x0) := rfl
theorem e_A6u8_1 (l : List A6u8) (x : Nat) : enR c_A6u8 l x 1 = .int .u8 ((gd l x).x1) := rfl
theorem e_A6u8_2 (l : List A6u8) (x : Nat) : enR c_A6u8 l x 2 = .int .u8 ((gd l x).x2) := rfl
theorem e_A6u8_3 (l : List A6u8) (x : Nat) : enR c_A6u8 l x 3 = .int .u8 ((gd l x).x3) := rfl
theorem e_A6u8_4 (l : List A6u8) (x : Nat) : enR c_A6u8 l x 4 = .int .u8 ((gd l x).x4) := rfl
theorem e_A6u8_5 (l : List A6u8) (x : Nat) : enR c_A6u8 l x 5 = .int .u8 ((gd l x).x5) := rfl
theorem fit_A6u8 (n : Nat) (l : List A6u8) : Fit k_A6u8 n (enR c_A6u8 l) = True := eq_true (Fit_enR kc_A6u8)
theorem de_A6u8 (l : List A6u8) : deR g_A6u8 l.length (enR c_A6u8 l) = l := deR_enR gc_A6u8 l
theorem eta_A6u8 (a : A6u8) : A6u8.mk a.x0 a.x1 a.x2 a.x3 a.x4 a.x5 = a := rfl
theorem wA_A6u8 {v : AV} (h : aK 6 k_A6u8 v) : WkV (.agg (c_A6u8 (g_A6u8 (aL v)))) v /\ nref (.agg (c_A6u8 (g_A6u8 (aL v)))) := aK_wk (f := c_A6u8) (g := g_A6u8) (fun r h => w_A6u8 h) rfl (by simp only [c_A6u8, nrefL, nref, and_self]) h
structure TRootWord where
  Root : A6u8
  Seq : Int
  Hops : Int
  Cost : Int
  Gate : Bool
  deriving Inhabited
def c_TRootWord (a : TRootWord) : List AV := [.int .u8 a.Root.x0, .int .u8 a.Root.x1, .int .u8 a.Root.x2, .int .u8 a.Root.x3, .int .u8 a.Root.x4, .int .u8 a.Root.x5, .int .i64 a.Seq, .int .i64 a.Hops, .int .i64 a.Cost, .bool a.Gate]
def g_TRootWord (f : Nat -> AV) : TRootWord := ⟨⟨iA (f 0), iA (f 1), iA (f 2), iA (f 3), iA (f 4), iA (f 5)⟩, iA (f 6), iA (f 7), iA (f 8), bA (f 9)⟩
def k_TRootWord (f : Nat -> AV) : Prop := iK .u8 (f 0) /\ iK .u8 (f 1) /\ iK .u8 (f 2) /\ iK .u8 (f 3) /\ iK .u8 (f 4) /\ iK .u8 (f 5) /\ iK .i64 (f 6) /\ iK .i64 (f 7) /\ iK .i64 (f 8) /\ bK (f 9)
theorem gc_TRootWord (a : TRootWord) : g_TRootWord (getL (c_TRootWord a)) = a := by
  simp only [g_TRootWord, c_TRootWord, getL, iA, bA, sA, lA]
theorem kc_TRootWord (a : TRootWord) : k_TRootWord (getL (c_TRootWord a)) := by
  simp only [k_TRootWord, c_TRootWord, getL, iK, bK, sK, lK, or_true, true_and, and_true, and_self]
theorem nr_TRootWord (a : TRootWord) : nrefL (c_TRootWord a) := by simp only [c_TRootWord, nrefL, nref, and_self]
instance : NOf c_TRootWord := ⟨fun a => by simp only [c_TRootWord, noroL, noro, and_self]⟩
instance : NRf c_TRootWord := ⟨nr_TRootWord⟩
instance : KCf k_TRootWord c_TRootWord := ⟨kc_TRootWord⟩
theorem w_TRootWord {f : Nat -> AV} (h : k_TRootWord f) : ∀ y, y < 10 -> WkV (getL (c_TRootWord (g_TRootWord f)) y) (f y) /\ nref (getL (c_TRootWord (g_TRootWord f)) y) := by
  obtain ⟨h0, h1, h2, h3, h4, h5, h6, h7, h8, h9⟩ := h
  intro y hy
  match y, hy with
  | 0, _ => exact iK_wk h0
  | 1, _ => exact iK_wk h1
  | 2, _ => exact iK_wk h2
  | 3, _ => exact iK_wk h3
  | 4, _ => exact iK_wk h4
  | 5, _ => exact iK_wk h5
  | 6, _ => exact iK_wk h6
  | 7, _ => exact iK_wk h7
  | 8, _ => exact iK_wk h8
  | 9, _ => exact bK_wk h9
  | y + 10, hy => omega
theorem e_TRootWord_0 (l : List TRootWord) (x : Nat) : enR c_TRootWord l x 0 = .int .u8 (((gd l x).Root).x0) := rfl
theorem e_TRootWord_1 (l : List TRootWord) (x : Nat) : enR c_TRootWord l x 1 = .int .u8 (((gd l x).Root).x1) := rfl
theorem e_TRootWord_2 (l : List TRootWord) (x : Nat) : enR c_TRootWord l x 2 = .int .u8 (((gd l x).Root).x2) := rfl
theorem e_TRootWord_3 (l : List TRootWord) (x : Nat) : enR c_TRootWord l x 3 = .int .u8 (((gd l x).Root).x3) := rfl
theorem e_TRootWord_4 (l : List TRootWord) (x : Nat) : enR c_TRootWord l x 4 = .int .u8 (((gd l x).Root).x4) := rfl
theorem e_TRootWord_5 (l : List TRootWord) (x : Nat) : enR c_TRootWord l x 5 = .int .u8 (((gd l x).Root).x5) := rfl
theorem e_TRootWord_6 (l : List TRootWord) (x : Nat) : enR c_TRootWord l x 6 = .int .i64 ((gd l x).Seq) := rfl
theorem e_TRootWord_7 (l : List TRootWord) (x : Nat) : enR c_TRootWord l x 7 = .int .i64 ((gd l x).Hops) := rfl
theorem e_TRootWord_8 (l : List TRootWord) (x : Nat) : enR c_TRootWord l x 8 = .int .i64 ((gd l x).Cost) := rfl
theorem e_TRootWord_9 (l : List TRootWord) (x : Nat) : enR c_TRootWord l x 9 = .bool ((gd l x).Gate) := rfl
theorem fit_TRootWord (n : Nat) (l : List TRootWord) : Fit k_TRootWord n (enR c_TRootWord l) = True := eq_true (Fit_enR kc_TRootWord)
theorem de_TRootWord (l : List TRootWord) : deR g_TRootWord l.length (enR c_TRootWord l) = l := deR_enR gc_TRootWord l
theorem eta_TRootWord (a : TRootWord) : TRootWord.mk a.Root a.Seq a.Hops a.Cost a.Gate = a := rfl
theorem wA_TRootWord {v : AV} (h : aK 10 k_TRootWord v) : WkV (.agg (c_TRootWord (g_TRootWord (aL v)))) v /\ nref (.agg (c_TRootWord (g_TRootWord (aL v)))) := aK_wk (f := c_TRootWord) (g := g_TRootWord) (fun r h => w_TRootWord h) rfl (by simp only [c_TRootWord, nrefL, nref, and_self]) h
def c_lu8 (a : List Int) : List AV := [.ro 1 a.length false (enR c_u8 a)]
def g_lu8 (f : Nat -> AV) : List Int := lA g_u8 (f 0)
def k_lu8 (f : Nat -> AV) : Prop := lK k_u8 1 (f 0)
theorem gc_lu8 (a : List Int) : g_lu8 (getL (c_lu8 a)) = a := by
  simp only [g_lu8, c_lu8, getL, iA, bA, sA, lA, deR_enR gc_u8]
theorem kc_lu8 (a : List Int) : k_lu8 (getL (c_lu8 a)) := by
  simp only [k_lu8, c_lu8, getL, iK, bK, sK, lK, or_true, true_and, and_true, and_self, Fit_enR kc_u8]
theorem nr_lu8 (a : List Int) : nrefL (c_lu8 a) := by simp only [c_lu8, nrefL, nref, and_self]
instance : NRf c_lu8 := ⟨nr_lu8⟩
instance : KCf k_lu8 c_lu8 := ⟨kc_lu8⟩
theorem w_lu8 {f : Nat -> AV} (h : k_lu8 f) : ∀ y, y < 1 -> WkV (getL (c_lu8 (g_lu8 f)) y) (f y) /\ nref (getL (c_lu8 (g_lu8 f)) y) := by
  have h0 := h
  intro y hy
  match y, hy with
  | 0, _ => exact lK_wk (fun r h => w_u8 h) h0
  | y + 1, hy => omega
theorem e_lu8_0 (l : List (List Int)) (x : Nat) : enR c_lu8 l x 0 = .ro 1 (gd l x).length false (enR c_u8 (gd l x)) := rfl
theorem fit_lu8 (n : Nat) (l : List (List Int)) : Fit k_lu8 n (enR c_lu8 l) = True := eq_true (Fit_enR kc_lu8)
theorem de_lu8 (l : List (List Int)) : deR g_lu8 l.length (enR c_lu8 l) = l := deR_enR gc_lu8 l
structure TTree where
  Root : A6u8
  Parent : A6u8
  Seq : Int
  Hops : Int
  Cost : Int
  Gate : Bool
  Until : Int
  deriving Inhabited
def c_TTree (a : TTree) : List AV := [.int .u8 a.Root.x0, .int .u8 a.Root.x1, .int .u8 a.Root.x2, .int .u8 a.Root.x3, .int .u8 a.Root.x4, .int .u8 a.Root.x5, .int .u8 a.Parent.x0, .int .u8 a.Parent.x1, .int .u8 a.Parent.x2, .int .u8 a.Parent.x3, .int .u8 a.Parent.x4, .int .u8 a.Parent.x5, .int .i64 a.Seq, .int .i64 a.Hops, .int .i64 a.Cost, .bool a.Gate, .int .i64 a.Until]
def g_TTree (f : Nat -> AV) : TTree := ⟨⟨iA (f 0), iA (f 1), iA (f 2), iA (f 3), iA (f 4), iA (f 5)⟩, ⟨iA (f 6), iA (f 7), iA (f 8), iA (f 9), iA (f 10), iA (f 11)⟩, iA (f 12), iA (f 13), iA (f 14), bA (f 15), iA (f 16)⟩
def k_TTree (f : Nat -> AV) : Prop := iK .u8 (f 0) /\ iK .u8 (f 1) /\ iK .u8 (f 2) /\ iK .u8 (f 3) /\ iK .u8 (f 4) /\ iK .u8 (f 5) /\ iK .u8 (f 6) /\ iK .u8 (f 7) /\ iK .u8 (f 8) /\ iK .u8 (f 9) /\ iK .u8 (f 10) /\ iK .u8 (f 11) /\ iK .i64 (f 12) /\ iK .i64 (f 13) /\ iK .i64 (f 14) /\ bK (f 15) /\ iK .i64 (f 16)
theorem gc_TTree (a : TTree) : g_TTree (getL (c_TTree a)) = a := by
  simp only [g_TTree, c_TTree, getL, iA, bA, sA, lA]
theorem kc_TTree (a : TTree) : k_TTree (getL (c_TTree a)) := by
  simp only [k_TTree, c_TTree, getL, iK, bK, sK, lK, or_true, true_and, and_true, and_self]
theorem nr_TTree (a : TTree) : nrefL (c_TTree a) := by simp only [c_TTree, nrefL, nref, and_self]
instance : NOf c_TTree := ⟨fun a => by simp only [c_TTree, noroL, noro, and_self]⟩
instance : NRf c_TTree := ⟨nr_TTree⟩
instance : KCf k_TTree c_TTree := ⟨kc_TTree⟩
theorem w_TTree {f : Nat -> AV} (h : k_TTree f) : ∀ y, y < 17 -> WkV (getL (c_TTree (g_TTree f)) y) (f y) /\ nref (getL (c_TTree (g_TTree f)) y) := by
  obtain ⟨h0, h1, h2, h3, h4, h5, h6, h7, h8, h9, h10, h11, h12, h13, h14, h15, h16⟩ := h
  intro y hy
  match y, hy with
  | 0, _ => exact iK_wk h0
  | 1, _ => exact iK_wk h1
  | 2, _ => exact iK_wk h2
  | 3, _ => exact iK_wk h3
  | 4, _ => exact iK_wk h4
  | 5, _ => exact iK_wk h5
  | 6, _ => exact iK_wk h6
  | 7, _ => exact iK_wk h7
  | 8, _ => exact iK_wk h8
  | 9, _ => exact iK_wk h9
  | 10, _ => exact iK_wk h10
  | 11, _ => exact iK_wk h11
  | 12, _ => exact iK_wk h12
  | 13, _ => exact iK_wk h13
  | 14, _ => exact iK_wk h14
  | 15, _ => exact bK_wk h15
  | 16, _ => exact iK_wk h16
  | y + 17, hy => omega
theorem e_TTree_0 (l : List TTree) (x : Nat) : enR c_TTree l x 0 = .int .u8 (((gd l x).Root).x0) := rfl
theorem e_TTree_1 (l : List TTree) (x : Nat) : enR c_TTree l x 1 = .int .u8 (((gd l x).Root).x1) := rfl
theorem e_TTree_2 (l : List TTree) (x : Nat) : enR c_TTree l x 2 = .int .u8 (((gd l x).Root).x2) := rfl
theorem e_TTree_3 (l : List TTree) (x : Nat) : enR c_TTree l x 3 = .int .u8 (((gd l x).Root).x3) := rfl
theorem e_TTree_4 (l : List TTree) (x : Nat) : enR c_TTree l x 4 = .int .u8 (((gd l x).Root).x4) := rfl
theorem e_TTree_5 (l : List TTree) (x : Nat) : enR c_TTree l x 5 = .int .u8 (((gd l x).Root).x5) := rfl
theorem e_TTree_6 (l : List TTree) (x : Nat) : enR c_TTree l x 6 = .int .u8 (((gd l x).Parent).x0) := rfl
theorem e_TTree_7 (l : List TTree) (x : Nat) : enR c_TTree l x 7 = .int .u8 (((gd l x).Parent).x1) := rfl
theorem e_TTree_8 (l : List TTree) (x : Nat) : enR c_TTree l x 8 = .int .u8 (((gd l x).Parent).x2) := rfl
theorem e_TTree_9 (l : List TTree) (x : Nat) : enR c_TTree l x 9 = .int .u8 (((gd l x).Parent).x3) := rfl
theorem e_TTree_10 (l : List TTree) (x : Nat) : enR c_TTree l x 10 = .int .u8 (((gd l x).Parent).x4) := rfl
theorem e_TTree_11 (l : List TTree) (x : Nat) : enR c_TTree l x 11 = .int .u8 (((gd l x).Parent).x5) := rfl
theorem e_TTree_12 (l : List TTree) (x : Nat) : enR c_TTree l x 12 = .int .i64 ((gd l x).Seq) := rfl
theorem e_TTree_13 (l : List TTree) (x : Nat) : enR c_TTree l x 13 = .int .i64 ((gd l x).Hops) := rfl
theorem e_TTree_14 (l : List TTree) (x : Nat) : enR c_TTree l x 14 = .int .i64 ((gd l x).Cost) := rfl
theorem e_TTree_15 (l : List TTree) (x : Nat) : enR c_TTree l x 15 = .bool ((gd l x).Gate) := rfl
theorem e_TTree_16 (l : List TTree) (x : Nat) : enR c_TTree l x 16 = .int .i64 ((gd l x).Until) := rfl
theorem fit_TTree (n : Nat) (l : List TTree) : Fit k_TTree n (enR c_TTree l) = True := eq_true (Fit_enR kc_TTree)
theorem de_TTree (l : List TTree) : deR g_TTree l.length (enR c_TTree l) = l := deR_enR gc_TTree l
theorem eta_TTree (a : TTree) : TTree.mk a.Root a.Parent a.Seq a.Hops a.Cost a.Gate a.Until = a := rfl
theorem wA_TTree {v : AV} (h : aK 17 k_TTree v) : WkV (.agg (c_TTree (g_TTree (aL v)))) v /\ nref (.agg (c_TTree (g_TTree (aL v)))) := aK_wk (f := c_TTree) (g := g_TTree) (fun r h => w_TTree h) rfl (by simp only [c_TTree, nrefL, nref, and_self]) h
def c_lTTree (a : List TTree) : List AV := [.ro 17 a.length false (enR c_TTree a)]
def g_lTTree (f : Nat -> AV) : List TTree := lA g_TTree (f 0)
def k_lTTree (f : Nat -> AV) : Prop := lK k_TTree 17 (f 0)
theorem gc_lTTree (a : List TTree) : g_lTTree (getL (c_lTTree a)) = a := by
  simp only [g_lTTree, c_lTTree, getL, iA, bA, sA, lA, deR_enR gc_TTree]
theorem kc_lTTree (a : List TTree) : k_lTTree (getL (c_lTTree a)) := by
  simp only [k_lTTree, c_lTTree, getL, iK, bK, sK, lK, or_true, true_and, and_true, and_self, Fit_enR kc_TTree]
theorem nr_lTTree (a : List TTree) : nrefL (c_lTTree a) := by simp only [c_lTTree, nrefL, nref, and_self]
instance : NRf c_lTTree := ⟨nr_lTTree⟩
instance : KCf k_lTTree c_lTTree := ⟨kc_lTTree⟩
theorem w_lTTree {f : Nat -> AV} (h : k_lTTree f) : ∀ y, y < 1 -> WkV (getL (c_lTTree (g_lTTree f)) y) (f y) /\ nref (getL (c_lTTree (g_lTTree f)) y) := by
  have h0 := h
  intro y hy
  match y, hy with
  | 0, _ => exact lK_wk (fun r h => w_TTree h) h0
  | y + 1, hy => omega
theorem e_lTTree_0 (l : List (List TTree)) (x : Nat) : enR c_lTTree l x 0 = .ro 17 (gd l x).length false (enR c_TTree (gd l x)) := rfl
theorem fit_lTTree (n : Nat) (l : List (List TTree)) : Fit k_lTTree n (enR c_lTTree l) = True := eq_true (Fit_enR kc_lTTree)
theorem de_lTTree (l : List (List TTree)) : deR g_lTTree l.length (enR c_lTTree l) = l := deR_enR gc_lTTree l
structure TProxied where
  Out : A6u8
  Via : A6u8
  Until : Int
  deriving Inhabited
def c_TProxied (a : TProxied) : List AV := [.int .u8 a.Out.x0, .int .u8 a.Out.x1, .int .u8 a.Out.x2, .int .u8 a.Out.x3, .int .u8 a.Out.x4, .int .u8 a.Out.x5, .int .u8 a.Via.x0, .int .u8 a.Via.x1, .int .u8 a.Via.x2, .int .u8 a.Via.x3, .int .u8 a.Via.x4, .int .u8 a.Via.x5, .int .i64 a.Until]
def g_TProxied (f : Nat -> AV) : TProxied := ⟨⟨iA (f 0), iA (f 1), iA (f 2), iA (f 3), iA (f 4), iA (f 5)⟩, ⟨iA (f 6), iA (f 7), iA (f 8), iA (f 9), iA (f 10), iA (f 11)⟩, iA (f 12)⟩
def k_TProxied (f : Nat -> AV) : Prop := iK .u8 (f 0) /\ iK .u8 (f 1) /\ iK .u8 (f 2) /\ iK .u8 (f 3) /\ iK .u8 (f 4) /\ iK .u8 (f 5) /\ iK .u8 (f 6) /\ iK .u8 (f 7) /\ iK .u8 (f 8) /\ iK .u8 (f 9) /\ iK .u8 (f 10) /\ iK .u8 (f 11) /\ iK .i64 (f 12)
theorem gc_TProxied (a : TProxied) : g_TProxied (getL (c_TProxied a)) = a := by
  simp only [g_TProxied, c_TProxied, getL, iA, bA, sA, lA]
theorem kc_TProxied (a : TProxied) : k_TProxied (getL (c_TProxied a)) := by
  simp only [k_TProxied, c_TProxied, getL, iK, bK, sK, lK, or_true, true_and, and_true, and_self]
theorem nr_TProxied (a : TProxied) : nrefL (c_TProxied a) := by simp only [c_TProxied, nrefL, nref, and_self]
instance : NOf c_TProxied := ⟨fun a => by simp only [c_TProxied, noroL, noro, and_self]⟩
instance : NRf c_TProxied := ⟨nr_TProxied⟩
instance : KCf k_TProxied c_TProxied := ⟨kc_TProxied⟩
theorem w_TProxied {f : Nat -> AV} (h : k_TProxied f) : ∀ y, y < 13 -> WkV (getL (c_TProxied (g_TProxied f)) y) (f y) /\ nref (getL (c_TProxied (g_TProxied f)) y) := by
  obtain ⟨h0, h1, h2, h3, h4, h5, h6, h7, h8, h9, h10, h11, h12⟩ := h
  intro y hy
  match y, hy with
  | 0, _ => exact iK_wk h0
  | 1, _ => exact iK_wk h1
  | 2, _ => exact iK_wk h2
  | 3, _ => exact iK_wk h3
  | 4, _ => exact iK_wk h4
  | 5, _ => exact iK_wk h5
  | 6, _ => exact iK_wk h6
  | 7, _ => exact iK_wk h7
  | 8, _ => exact iK_wk h8
  | 9, _ => exact iK_wk h9
  | 10, _ => exact iK_wk h10
  | 11, _ => exact iK_wk h11
  | 12, _ => exact iK_wk h12
  | y + 13, hy => omega
theorem e_TProxied_0 (l : List TProxied) (x : Nat) : enR c_TProxied l x 0 = .int .u8 (((gd l x).Out).x0) := rfl
theorem e_TProxied_1 (l : List TProxied) (x : Nat) : enR c_TProxied l x 1 = .int .u8 (((gd l x).Out).x1) := rfl
theorem e_TProxied_2 (l : List TProxied) (x : Nat) : enR c_TProxied l x 2 = .int .u8 (((gd l x).Out).x2) := rfl
theorem e_TProxied_3 (l : List TProxied) (x : Nat) : enR c_TProxied l x 3 = .int .u8 (((gd l x).Out).x3) := rfl
theorem e_TProxied_4 (l : List TProxied) (x : Nat) : enR c_TProxied l x 4 = .int .u8 (((gd l x).Out).x4) := rfl
theorem e_TProxied_5 (l : List TProxied) (x : Nat) : enR c_TProxied l x 5 = .int .u8 (((gd l x).Out).x5) := rfl
theorem e_TProxied_6 (l : List TProxied) (x : Nat) : enR c_TProxied l x 6 = .int .u8 (((gd l x).Via).x0) := rfl
theorem e_TProxied_7 (l : List TProxied) (x : Nat) : enR c_TProxied l x 7 = .int .u8 (((gd l x).Via).x1) := rfl
theorem e_TProxied_8 (l : List TProxied) (x : Nat) : enR c_TProxied l x 8 = .int .u8 (((gd l x).Via).x2) := rfl
theorem e_TProxied_9 (l : List TProxied) (x : Nat) : enR c_TProxied l x 9 = .int .u8 (((gd l x).Via).x3) := rfl
theorem e_TProxied_10 (l : List TProxied) (x : Nat) : enR c_TProxied l x 10 = .int .u8 (((gd l x).Via).x4) := rfl
theorem e_TProxied_11 (l : List TProxied) (x : Nat) : enR c_TProxied l x 11 = .int .u8 (((gd l x).Via).x5) := rfl
theorem e_TProxied_12 (l : List TProxied) (x : Nat) : enR c_TProxied l x 12 = .int .i64 ((gd l x).Until) := rfl
theorem fit_TProxied (n : Nat) (l : List TProxied) : Fit k_TProxied n (enR c_TProxied l) = True := eq_true (Fit_enR kc_TProxied)
theorem de_TProxied (l : List TProxied) : deR g_TProxied l.length (enR c_TProxied l) = l := deR_enR gc_TProxied l
theorem eta_TProxied (a : TProxied) : TProxied.mk a.Out a.Via a.Until = a := rfl
theorem wA_TProxied {v : AV} (h : aK 13 k_TProxied v) : WkV (.agg (c_TProxied (g_TProxied (aL v)))) v /\ nref (.agg (c_TProxied (g_TProxied (aL v)))) := aK_wk (f := c_TProxied) (g := g_TProxied) (fun r h => w_TProxied h) rfl (by simp only [c_TProxied, nrefL, nref, and_self]) h
def c_lTProxied (a : List TProxied) : List AV := [.ro 13 a.length false (enR c_TProxied a)]
def g_lTProxied (f : Nat -> AV) : List TProxied := lA g_TProxied (f 0)
def k_lTProxied (f : Nat -> AV) : Prop := lK k_TProxied 13 (f 0)
theorem gc_lTProxied (a : List TProxied) : g_lTProxied (getL (c_lTProxied a)) = a := by
  simp only [g_lTProxied, c_lTProxied, getL, iA, bA, sA, lA, deR_enR gc_TProxied]
theorem kc_lTProxied (a : List TProxied) : k_lTProxied (getL (c_lTProxied a)) := by
  simp only [k_lTProxied, c_lTProxied, getL, iK, bK, sK, lK, or_true, true_and, and_true, and_self, Fit_enR kc_TProxied]
theorem nr_lTProxied (a : List TProxied) : nrefL (c_lTProxied a) := by simp only [c_lTProxied, nrefL, nref, and_self]
instance : NRf c_lTProxied := ⟨nr_lTProxied⟩
instance : KCf k_lTProxied c_lTProxied := ⟨kc_lTProxied⟩
theorem w_lTProxied {f : Nat -> AV} (h : k_lTProxied f) : ∀ y, y < 1 -> WkV (getL (c_lTProxied (g_lTProxied f)) y) (f y) /\ nref (getL (c_lTProxied (g_lTProxied f)) y) := by
  have h0 := h
  intro y hy
  match y, hy with
  | 0, _ => exact lK_wk (fun r h => w_TProxied h) h0
  | y + 1, hy => omega
theorem e_lTProxied_0 (l : List (List TProxied)) (x : Nat) : enR c_lTProxied l x 0 = .ro 13 (gd l x).length false (enR c_TProxied (gd l x)) := rfl
theorem fit_lTProxied (n : Nat) (l : List (List TProxied)) : Fit k_lTProxied n (enR c_lTProxied l) = True := eq_true (Fit_enR kc_lTProxied)
theorem de_lTProxied (l : List (List TProxied)) : deR g_lTProxied l.length (enR c_lTProxied l) = l := deR_enR gc_lTProxied l
structure TRoots where
  Own : A6u8
  Root : Bool
  Gate : Bool
  Seq : Int
  Trees : _root_.List TTree
  Proxies : _root_.List TProxied
  deriving Inhabited
def c_TRoots (a : TRoots) : List AV := [.int .u8 a.Own.x0, .int .u8 a.Own.x1, .int .u8 a.Own.x2, .int .u8 a.Own.x3, .int .u8 a.Own.x4, .int .u8 a.Own.x5, .bool a.Root, .bool a.Gate, .int .i64 a.Seq, .ro 17 a.Trees.length false (enR c_TTree a.Trees), .ro 13 a.Proxies.length false (enR c_TProxied a.Proxies)]
def g_TRoots (f : Nat -> AV) : TRoots := ⟨⟨iA (f 0), iA (f 1), iA (f 2), iA (f 3), iA (f 4), iA (f 5)⟩, bA (f 6), bA (f 7), iA (f 8), lA g_TTree (f 9), lA g_TProxied (f 10)⟩
def k_TRoots (f : Nat -> AV) : Prop := iK .u8 (f 0) /\ iK .u8 (f 1) /\ iK .u8 (f 2) /\ iK .u8 (f 3) /\ iK .u8 (f 4) /\ iK .u8 (f 5) /\ bK (f 6) /\ bK (f 7) /\ iK .i64 (f 8) /\ lK k_TTree 17 (f 9) /\ lK k_TProxied 13 (f 10)
theorem gc_TRoots (a : TRoots) : g_TRoots (getL (c_TRoots a)) = a := by
  simp only [g_TRoots, c_TRoots, getL, iA, bA, sA, lA, deR_enR gc_TProxied, deR_enR gc_TTree]
theorem kc_TRoots (a : TRoots) : k_TRoots (getL (c_TRoots a)) := by
  simp only [k_TRoots, c_TRoots, getL, iK, bK, sK, lK, or_true, true_and, and_true, and_self, Fit_enR kc_TProxied, Fit_enR kc_TTree]
theorem nr_TRoots (a : TRoots) : nrefL (c_TRoots a) := by simp only [c_TRoots, nrefL, nref, and_self]
instance : NRf c_TRoots := ⟨nr_TRoots⟩
instance : KCf k_TRoots c_TRoots := ⟨kc_TRoots⟩
theorem w_TRoots {f : Nat -> AV} (h : k_TRoots f) : ∀ y, y < 11 -> WkV (getL (c_TRoots (g_TRoots f)) y) (f y) /\ nref (getL (c_TRoots (g_TRoots f)) y) := by
  obtain ⟨h0, h1, h2, h3, h4, h5, h6, h7, h8, h9, h10⟩ := h
  intro y hy
  match y, hy with
  | 0, _ => exact iK_wk h0
  | 1, _ => exact iK_wk h1
  | 2, _ => exact iK_wk h2
  | 3, _ => exact iK_wk h3
  | 4, _ => exact iK_wk h4
  | 5, _ => exact iK_wk h5
  | 6, _ => exact bK_wk h6
  | 7, _ => exact bK_wk h7
  | 8, _ => exact iK_wk h8
  | 9, _ => exact lK_wk (fun r h => w_TTree h) h9
  | 10, _ => exact lK_wk (fun r h => w_TProxied h) h10
  | y + 11, hy => omega
theorem e_TRoots_0 (l : List TRoots) (x : Nat) : enR c_TRoots l x 0 = .int .u8 (((gd l x).Own).x0) := rfl
theorem e_TRoots_1 (l : List TRoots) (x : Nat) : enR c_TRoots l x 1 = .int .u8 (((gd l x).Own).x1) := rfl
theorem e_TRoots_2 (l : List TRoots) (x : Nat) : enR c_TRoots l x 2 = .int .u8 (((gd l x).Own).x2) := rfl
theorem e_TRoots_3 (l : List TRoots) (x : Nat) : enR c_TRoots l x 3 = .int .u8 (((gd l x).Own).x3) := rfl
theorem e_TRoots_4 (l : List TRoots) (x : Nat) : enR c_TRoots l x 4 = .int .u8 (((gd l x).Own).x4) := rfl
theorem e_TRoots_5 (l : List TRoots) (x : Nat) : enR c_TRoots l x 5 = .int .u8 (((gd l x).Own).x5) := rfl
theorem e_TRoots_6 (l : List TRoots) (x : Nat) : enR c_TRoots l x 6 = .bool ((gd l x).Root) := rfl
theorem e_TRoots_7 (l : List TRoots) (x : Nat) : enR c_TRoots l x 7 = .bool ((gd l x).Gate) := rfl
theorem e_TRoots_8 (l : List TRoots) (x : Nat) : enR c_TRoots l x 8 = .int .i64 ((gd l x).Seq) := rfl
theorem e_TRoots_9 (l : List TRoots) (x : Nat) : enR c_TRoots l x 9 = .ro 17 ((gd l x).Trees).length false (enR c_TTree ((gd l x).Trees)) := rfl
theorem e_TRoots_10 (l : List TRoots) (x : Nat) : enR c_TRoots l x 10 = .ro 13 ((gd l x).Proxies).length false (enR c_TProxied ((gd l x).Proxies)) := rfl
theorem fit_TRoots (n : Nat) (l : List TRoots) : Fit k_TRoots n (enR c_TRoots l) = True := eq_true (Fit_enR kc_TRoots)
theorem de_TRoots (l : List TRoots) : deR g_TRoots l.length (enR c_TRoots l) = l := deR_enR gc_TRoots l
theorem eta_TRoots (a : TRoots) : TRoots.mk a.Own a.Root a.Gate a.Seq a.Trees a.Proxies = a := rfl
theorem wA_TRoots {v : AV} (h : aK 11 k_TRoots v) : WkV (.agg (c_TRoots (g_TRoots (aL v)))) v /\ nref (.agg (c_TRoots (g_TRoots (aL v)))) := aK_wk (f := c_TRoots) (g := g_TRoots) (fun r h => w_TRoots h) rfl (by simp only [c_TRoots, nrefL, nref, and_self]) h
def c_lTRootWord (a : List TRootWord) : List AV := [.ro 10 a.length false (enR c_TRootWord a)]
def g_lTRootWord (f : Nat -> AV) : List TRootWord := lA g_TRootWord (f 0)
def k_lTRootWord (f : Nat -> AV) : Prop := lK k_TRootWord 10 (f 0)
theorem gc_lTRootWord (a : List TRootWord) : g_lTRootWord (getL (c_lTRootWord a)) = a := by
  simp only [g_lTRootWord, c_lTRootWord, getL, iA, bA, sA, lA, deR_enR gc_TRootWord]
theorem kc_lTRootWord (a : List TRootWord) : k_lTRootWord (getL (c_lTRootWord a)) := by
  simp only [k_lTRootWord, c_lTRootWord, getL, iK, bK, sK, lK, or_true, true_and, and_true, and_self, Fit_enR kc_TRootWord]
theorem nr_lTRootWord (a : List TRootWord) : nrefL (c_lTRootWord a) := by simp only [c_lTRootWord, nrefL, nref, and_self]
instance : NRf c_lTRootWord := ⟨nr_lTRootWord⟩
instance : KCf k_lTRootWord c_lTRootWord := ⟨kc_lTRootWord⟩
theorem w_lTRootWord {f : Nat -> AV} (h : k_lTRootWord f) : ∀ y, y < 1 -> WkV (getL (c_lTRootWord (g_lTRootWord f)) y) (f y) /\ nref (getL (c_lTRootWord (g_lTRootWord f)) y) := by
  have h0 := h
  intro y hy
  match y, hy with
  | 0, _ => exact lK_wk (fun r h => w_TRootWord h) h0
  | y + 1, hy => omega
theorem e_lTRootWord_0 (l : List (List TRootWord)) (x : Nat) : enR c_lTRootWord l x 0 = .ro 10 (gd l x).length false (enR c_TRootWord (gd l x)) := rfl
theorem fit_lTRootWord (n : Nat) (l : List (List TRootWord)) : Fit k_lTRootWord n (enR c_lTRootWord l) = True := eq_true (Fit_enR kc_lTRootWord)
theorem de_lTRootWord (l : List (List TRootWord)) : deR g_lTRootWord l.length (enR c_lTRootWord l) = l := deR_enR gc_lTRootWord l
def c_lA6u8 (a : List A6u8) : List AV := [.ro 6 a.length false (enR c_A6u8 a)]
def g_lA6u8 (f : Nat -> AV) : List A6u8 := lA g_A6u8 (f 0)
def k_lA6u8 (f : Nat -> AV) : Prop := lK k_A6u8 6 (f 0)
theorem gc_lA6u8 (a : List A6u8) : g_lA6u8 (getL (c_lA6u8 a)) = a := by
  simp only [g_lA6u8, c_lA6u8, getL, iA, bA, sA, lA, deR_enR gc_A6u8]
theorem kc_lA6u8 (a : List A6u8) : k_lA6u8 (getL (c_lA6u8 a)) := by
  simp only [k_lA6u8, c_lA6u8, getL, iK, bK, sK, lK, or_true, true_and, and_true, and_self, Fit_enR kc_A6u8]
theorem nr_lA6u8 (a : List A6u8) : nrefL (c_lA6u8 a) := by simp only [c_lA6u8, nrefL, nref, and_self]
instance : NRf c_lA6u8 := ⟨nr_lA6u8⟩
instance : KCf k_lA6u8 c_lA6u8 := ⟨kc_lA6u8⟩
theorem w_lA6u8 {f : Nat -> AV} (h : k_lA6u8 f) : ∀ y, y < 1 -> WkV (getL (c_lA6u8 (g_lA6u8 f)) y) (f y) /\ nref (getL (c_lA6u8 (g_lA6u8 f)) y) := by
  have h0 := h
  intro y hy
  match y, hy with
  | 0, _ => exact lK_wk (fun r h => w_A6u8 h) h0
  | y + 1, hy => omega
theorem e_lA6u8_0 (l : List (List A6u8)) (x : Nat) : enR c_lA6u8 l x 0 = .ro 6 (gd l x).length false (enR c_A6u8 (gd l x)) := rfl
theorem fit_lA6u8 (n : Nat) (l : List (List A6u8)) : Fit k_lA6u8 n (enR c_lA6u8 l) = True := eq_true (Fit_enR kc_lA6u8)
theorem de_lA6u8 (l : List (List A6u8)) : deR g_lA6u8 l.length (enR c_lA6u8 l) = l := deR_enR gc_lA6u8 l
structure A8i64 where
  x0 : Int
  x1 : Int
  x2 : Int
  x3 : Int
  x4 : Int
  x5 : Int
  x6 : Int
  x7 : Int
  deriving Inhabited
def c_A8i64 (a : A8i64) : List AV := [.int .i64 a.x0, .int .i64 a.x1, .int .i64 a.x2, .int .i64 a.x3, .int .i64 a.x4, .int .i64 a.x5, .int .i64 a.x6, .int .i64 a.x7]
def g_A8i64 (f : Nat -> AV) : A8i64 := ⟨iA (f 0), iA (f 1), iA (f 2), iA (f 3), iA (f 4), iA (f 5), iA (f 6), iA (f 7)⟩
def k_A8i64 (f : Nat -> AV) : Prop := iK .i64 (f 0) /\ iK .i64 (f 1) /\ iK .i64 (f 2) /\ iK .i64 (f 3) /\ iK .i64 (f 4) /\ iK .i64 (f 5) /\ iK .i64 (f 6) /\ iK .i64 (f 7)
theorem gc_A8i64 (a : A8i64) : g_A8i64 (getL (c_A8i64 a)) = a := by
  simp only [g_A8i64, c_A8i64, getL, iA, bA, sA, lA]
theorem kc_A8i64 (a : A8i64) : k_A8i64 (getL (c_A8i64 a)) := by
  simp only [k_A8i64, c_A8i64, getL, iK, bK, sK, lK, or_true, true_and, and_true, and_self]
theorem nr_A8i64 (a : A8i64) : nrefL (c_A8i64 a) := by simp only [c_A8i64, nrefL, nref, and_self]
instance : NOf c_A8i64 := ⟨fun a => by simp only [c_A8i64, noroL, noro, and_self]⟩
instance : NRf c_A8i64 := ⟨nr_A8i64⟩
instance : KCf k_A8i64 c_A8i64 := ⟨kc_A8i64⟩
theorem w_A8i64 {f : Nat -> AV} (h : k_A8i64 f) : ∀ y, y < 8 -> WkV (getL (c_A8i64 (g_A8i64 f)) y) (f y) /\ nref (getL (c_A8i64 (g_A8i64 f)) y) := by
  obtain ⟨h0, h1, h2, h3, h4, h5, h6, h7⟩ := h
  intro y hy
  match y, hy with
  | 0, _ => exact iK_wk h0
  | 1, _ => exact iK_wk h1
  | 2, _ => exact iK_wk h2
  | 3, _ => exact iK_wk h3
  | 4, _ => exact iK_wk h4
  | 5, _ => exact iK_wk h5
  | 6, _ => exact iK_wk h6
  | 7, _ => exact iK_wk h7
  | y + 8, hy => omega
theorem e_A8i64_0 (l : List A8i64) (x : Nat) : enR c_A8i64 l x 0 = .int .i64 ((gd l x).x0) := rfl
theorem e_A8i64_1 (l : List A8i64) (x : Nat) : enR c_A8i64 l x 1 = .int .i64 ((gd l x).x1) := rfl
theorem e_A8i64_2 (l : List A8i64) (x : Nat) : enR c_A8i64 l x 2 = .int .i64 ((gd l x).x2) := rfl
theorem e_A8i64_3 (l : List A8i64) (x : Nat) : enR c_A8i64 l x 3 = .int .i64 ((gd l x).x3) := rfl
theorem e_A8i64_4 (l : List A8i64) (x : Nat) : enR c_A8i64 l x 4 = .int .i64 ((gd l x).x4) := rfl
theorem e_A8i64_5 (l : List A8i64) (x : Nat) : enR c_A8i64 l x 5 = .int .i64 ((gd l x).x5) := rfl
theorem e_A8i64_6 (l : List A8i64) (x : Nat) : enR c_A8i64 l x 6 = .int .i64 ((gd l x).x6) := rfl
theorem e_A8i64_7 (l : List A8i64) (x : Nat) : enR c_A8i64 l x 7 = .int .i64 ((gd l x).x7) := rfl
theorem fit_A8i64 (n : Nat) (l : List A8i64) : Fit k_A8i64 n (enR c_A8i64 l) = True := eq_true (Fit_enR kc_A8i64)
theorem de_A8i64 (l : List A8i64) : deR g_A8i64 l.length (enR c_A8i64 l) = l := deR_enR gc_A8i64 l
theorem eta_A8i64 (a : A8i64) : A8i64.mk a.x0 a.x1 a.x2 a.x3 a.x4 a.x5 a.x6 a.x7 = a := rfl
theorem wA_A8i64 {v : AV} (h : aK 8 k_A8i64 v) : WkV (.agg (c_A8i64 (g_A8i64 (aL v)))) v /\ nref (.agg (c_A8i64 (g_A8i64 (aL v)))) := aK_wk (f := c_A8i64) (g := g_A8i64) (fun r h => w_A8i64 h) rfl (by simp only [c_A8i64, nrefL, nref, and_self]) h
structure A8A8i64 where
  x0 : A8i64
  x1 : A8i64
  x2 : A8i64
  x3 : A8i64
  x4 : A8i64
  x5 : A8i64
  x6 : A8i64
  x7 : A8i64
  deriving Inhabited
def c_A8A8i64 (a : A8A8i64) : List AV := (.int .i64 a.x0.x0 :: .int .i64 a.x0.x1 :: .int .i64 a.x0.x2 :: .int .i64 a.x0.x3 :: .int .i64 a.x0.x4 :: .int .i64 a.x0.x5 :: .int .i64 a.x0.x6 :: .int .i64 a.x0.x7 :: .int .i64 a.x1.x0 :: .int .i64 a.x1.x1 :: .int .i64 a.x1.x2 :: .int .i64 a.x1.x3 :: .int .i64 a.x1.x4 :: .int .i64 a.x1.x5 :: .int .i64 a.x1.x6 :: .int .i64 a.x1.x7 :: .int .i64 a.x2.x0 :: .int .i64 a.x2.x1 :: .int .i64 a.x2.x2 :: .int .i64 a.x2.x3 :: .int .i64 a.x2.x4 :: .int .i64 a.x2.x5 :: .int .i64 a.x2.x6 :: .int .i64 a.x2.x7 :: .int .i64 a.x3.x0 :: .int .i64 a.x3.x1 :: .int .i64 a.x3.x2 :: .int .i64 a.x3.x3 :: .int .i64 a.x3.x4 :: .int .i64 a.x3.x5 :: .int .i64 a.x3.x6 :: .int .i64 a.x3.x7 :: .int .i64 a.x4.x0 :: .int .i64 a.x4.x1 :: .int .i64 a.x4.x2 :: .int .i64 a.x4.x3 :: .int .i64 a.x4.x4 :: .int .i64 a.x4.x5 :: .int .i64 a.x4.x6 :: .int .i64 a.x4.x7 :: .int .i64 a.x5.x0 :: .int .i64 a.x5.x1 :: .int .i64 a.x5.x2 :: .int .i64 a.x5.x3 :: .int .i64 a.x5.x4 :: .int .i64 a.x5.x5 :: .int .i64 a.x5.x6 :: .int .i64 a.x5.x7 :: .int .i64 a.x6.x0 :: .int .i64 a.x6.x1 :: .int .i64 a.x6.x2 :: .int .i64 a.x6.x3 :: .int .i64 a.x6.x4 :: .int .i64 a.x6.x5 :: .int .i64 a.x6.x6 :: .int .i64 a.x6.x7 :: .int .i64 a.x7.x0 :: .int .i64 a.x7.x1 :: .int .i64 a.x7.x2 :: .int .i64 a.x7.x3 :: .int .i64 a.x7.x4 :: .int .i64 a.x7.x5 :: .int .i64 a.x7.x6 :: .int .i64 a.x7.x7 :: [])
def g_A8A8i64 (f : Nat -> AV) : A8A8i64 := ⟨⟨iA (f 0), iA (f 1), iA (f 2), iA (f 3), iA (f 4), iA (f 5), iA (f 6), iA (f 7)⟩, ⟨iA (f 8), iA (f 9), iA (f 10), iA (f 11), iA (f 12), iA (f 13), iA (f 14), iA (f 15)⟩, ⟨iA (f 16), iA (f 17), iA (f 18), iA (f 19), iA (f 20), iA (f 21), iA (f 22), iA (f 23)⟩, ⟨iA (f 24), iA (f 25), iA (f 26), iA (f 27), iA (f 28), iA (f 29), iA (f 30), iA (f 31)⟩, ⟨iA (f 32), iA (f 33), iA (f 34), iA (f 35), iA (f 36), iA (f 37), iA (f 38), iA (f 39)⟩, ⟨iA (f 40), iA (f 41), iA (f 42), iA (f 43), iA (f 44), iA (f 45), iA (f 46), iA (f 47)⟩, ⟨iA (f 48), iA (f 49), iA (f 50), iA (f 51), iA (f 52), iA (f 53), iA (f 54), iA (f 55)⟩, ⟨iA (f 56), iA (f 57), iA (f 58), iA (f 59), iA (f 60), iA (f 61), iA (f 62), iA (f 63)⟩⟩
def k_A8A8i64 (f : Nat -> AV) : Prop := iK .i64 (f 0) /\ iK .i64 (f 1) /\ iK .i64 (f 2) /\ iK .i64 (f 3) /\ iK .i64 (f 4) /\ iK .i64 (f 5) /\ iK .i64 (f 6) /\ iK .i64 (f 7) /\ iK .i64 (f 8) /\ iK .i64 (f 9) /\ iK .i64 (f 10) /\ iK .i64 (f 11) /\ iK .i64 (f 12) /\ iK .i64 (f 13) /\ iK .i64 (f 14) /\ iK .i64 (f 15) /\ iK .i64 (f 16) /\ iK .i64 (f 17) /\ iK .i64 (f 18) /\ iK .i64 (f 19) /\ iK .i64 (f 20) /\ iK .i64 (f 21) /\ iK .i64 (f 22) /\ iK .i64 (f 23) /\ iK .i64 (f 24) /\ iK .i64 (f 25) /\ iK .i64 (f 26) /\ iK .i64 (f 27) /\ iK .i64 (f 28) /\ iK .i64 (f 29) /\ iK .i64 (f 30) /\ iK .i64 (f 31) /\ iK .i64 (f 32) /\ iK .i64 (f 33) /\ iK .i64 (f 34) /\ iK .i64 (f 35) /\ iK .i64 (f 36) /\ iK .i64 (f 37) /\ iK .i64 (f 38) /\ iK .i64 (f 39) /\ iK .i64 (f 40) /\ iK .i64 (f 41) /\ iK .i64 (f 42) /\ iK .i64 (f 43) /\ iK .i64 (f 44) /\ iK .i64 (f 45) /\ iK .i64 (f 46) /\ iK .i64 (f 47) /\ iK .i64 (f 48) /\ iK .i64 (f 49) /\ iK .i64 (f 50) /\ iK .i64 (f 51) /\ iK .i64 (f 52) /\ iK .i64 (f 53) /\ iK .i64 (f 54) /\ iK .i64 (f 55) /\ iK .i64 (f 56) /\ iK .i64 (f 57) /\ iK .i64 (f 58) /\ iK .i64 (f 59) /\ iK .i64 (f 60) /\ iK .i64 (f 61) /\ iK .i64 (f 62) /\ iK .i64 (f 63)
theorem gc_A8A8i64 (a : A8A8i64) : g_A8A8i64 (getL (c_A8A8i64 a)) = a := by
  simp only [g_A8A8i64, c_A8A8i64, getL, iA, bA, sA, lA]
theorem kc_A8A8i64 (a : A8A8i64) : k_A8A8i64 (getL (c_A8A8i64 a)) := by
  simp only [k_A8A8i64, c_A8A8i64, getL, iK, bK, sK, lK, or_true, true_and, and_true, and_self]
theorem nr_A8A8i64 (a : A8A8i64) : nrefL (c_A8A8i64 a) := by simp only [c_A8A8i64, nrefL, nref, and_self]
instance : NOf c_A8A8i64 := ⟨fun a => by simp only [c_A8A8i64, noroL, noro, and_self]⟩
instance : NRf c_A8A8i64 := ⟨nr_A8A8i64⟩
instance : KCf k_A8A8i64 c_A8A8i64 := ⟨kc_A8A8i64⟩
theorem w_A8A8i64 {f : Nat -> AV} (h : k_A8A8i64 f) : ∀ y, y < 64 -> WkV (getL (c_A8A8i64 (g_A8A8i64 f)) y) (f y) /\ nref (getL (c_A8A8i64 (g_A8A8i64 f)) y) := by
  obtain ⟨h0, h1, h2, h3, h4, h5, h6, h7, h8, h9, h10, h11, h12, h13, h14, h15, h16, h17, h18, h19, h20, h21, h22, h23, h24, h25, h26, h27, h28, h29, h30, h31, h32, h33, h34, h35, h36, h37, h38, h39, h40, h41, h42, h43, h44, h45, h46, h47, h48, h49, h50, h51, h52, h53, h54, h55, h56, h57, h58, h59, h60, h61, h62, h63⟩ := h
  intro y hy
  match y, hy with
  | 0, _ => exact iK_wk h0
  | 1, _ => exact iK_wk h1
  | 2, _ => exact iK_wk h2
  | 3, _ => exact iK_wk h3
  | 4, _ => exact iK_wk h4
  | 5, _ => exact iK_wk h5
  | 6, _ => exact iK_wk h6
  | 7, _ => exact iK_wk h7
  | 8, _ => exact iK_wk h8
  | 9, _ => exact iK_wk h9
  | 10, _ => exact iK_wk h10
  | 11, _ => exact iK_wk h11
  | 12, _ => exact iK_wk h12
  | 13, _ => exact iK_wk h13
  | 14, _ => exact iK_wk h14
  | 15, _ => exact iK_wk h15
  | 16, _ => exact iK_wk h16
  | 17, _ => exact iK_wk h17
  | 18, _ => exact iK_wk h18
  | 19, _ => exact iK_wk h19
  | 20, _ => exact iK_wk h20
  | 21, _ => exact iK_wk h21
  | 22, _ => exact iK_wk h22
  | 23, _ => exact iK_wk h23
  | 24, _ => exact iK_wk h24
  | 25, _ => exact iK_wk h25
  | 26, _ => exact iK_wk h26
  | 27, _ => exact iK_wk h27
  | 28, _ => exact iK_wk h28
  | 29, _ => exact iK_wk h29
  | 30, _ => exact iK_wk h30
  | 31, _ => exact iK_wk h31
  | 32, _ => exact iK_wk h32
  | 33, _ => exact iK_wk h33
  | 34, _ => exact iK_wk h34
  | 35, _ => exact iK_wk h35
  | 36, _ => exact iK_wk h36
  | 37, _ => exact iK_wk h37
  | 38, _ => exact iK_wk h38
  | 39, _ => exact iK_wk h39
  | 40, _ => exact iK_wk h40
  | 41, _ => exact iK_wk h41
  | 42, _ => exact iK_wk h42
  | 43, _ => exact iK_wk h43
  | 44, _ => exact iK_wk h44
  | 45, _ => exact iK_wk h45
  | 46, _ => exact iK_wk h46
  | 47, _ => exact iK_wk h47
  | 48, _ => exact iK_wk h48
  | 49, _ => exact iK_wk h49
  | 50, _ => exact iK_wk h50
  | 51, _ => exact iK_wk h51
  | 52, _ => exact iK_wk h52
  | 53, _ => exact iK_wk h53
  | 54, _ => exact iK_wk h54
  | 55, _ => exact iK_wk h55
  | 56, _ => exact iK_wk h56
  | 57, _ => exact iK_wk h57
  | 58, _ => exact iK_wk h58
  | 59, _ => exact iK_wk h59
  | 60, _ => exact iK_wk h60
  | 61, _ => exact iK_wk h61
  | 62, _ => exact iK_wk h62
  | 63, _ => exact iK_wk h63
  | y + 64, hy => omega
theorem e_A8A8i64_0 (l : List A8A8i64) (x : Nat) : enR c_A8A8i64 l x 0 = .int .i64 (((gd l x).x0).x0) := rfl
theorem e_A8A8i64_1 (l : List A8A8i64) (x : Nat) : enR c_A8A8i64 l x 1 = .int .i64 (((gd l x).x0).x1) := rfl
theorem e_A8A8i64_2 (l : List A8A8i64) (x : Nat) : enR c_A8A8i64 l x 2 = .int .i64 (((gd l x).x0).x2) := rfl
theorem e_A8A8i64_3 (l : List A8A8i64) (x : Nat) : enR c_A8A8i64 l x 3 = .int .i64 (((gd l x).x0).x3) := rfl
theorem e_A8A8i64_4 (l : List A8A8i64) (x : Nat) : enR c_A8A8i64 l x 4 = .int .i64 (((gd l x).x0).x4) := rfl
theorem e_A8A8i64_5 (l : List A8A8i64) (x : Nat) : enR c_A8A8i64 l x 5 = .int .i64 (((gd l x).x0).x5) := rfl
theorem e_A8A8i64_6 (l : List A8A8i64) (x : Nat) : enR c_A8A8i64 l x 6 = .int .i64 (((gd l x).x0).x6) := rfl
theorem e_A8A8i64_7 (l : List A8A8i64) (x : Nat) : enR c_A8A8i64 l x 7 = .int .i64 (((gd l x).x0).x7) := rfl
theorem e_A8A8i64_8 (l : List A8A8i64) (x : Nat) : enR c_A8A8i64 l x 8 = .int .i64 (((gd l x).x1).x0) := rfl
theorem e_A8A8i64_9 (l : List A8A8i64) (x : Nat) : enR c_A8A8i64 l x 9 = .int .i64 (((gd l x).x1).x1) := rfl
theorem e_A8A8i64_10 (l : List A8A8i64) (x : Nat) : enR c_A8A8i64 l x 10 = .int .i64 (((gd l x).x1).x2) := rfl
theorem e_A8A8i64_11 (l : List A8A8i64) (x : Nat) : enR c_A8A8i64 l x 11 = .int .i64 (((gd l x).x1).x3) := rfl
theorem e_A8A8i64_12 (l : List A8A8i64) (x : Nat) : enR c_A8A8i64 l x 12 = .int .i64 (((gd l x).x1).x4) := rfl
theorem e_A8A8i64_13 (l : List A8A8i64) (x : Nat) : enR c_A8A8i64 l x 13 = .int .i64 (((gd l x).x1).x5) := rfl
theorem e_A8A8i64_14 (l : List A8A8i64) (x : Nat) : enR c_A8A8i64 l x 14 = .int .i64 (((gd l x).x1).x6) := rfl
theorem e_A8A8i64_15 (l : List A8A8i64) (x : Nat) : enR c_A8A8i64 l x 15 = .int .i64 (((gd l x).x1).x7) := rfl
theorem e_A8A8i64_16 (l : List A8A8i64) (x : Nat) : enR c_A8A8i64 l x 16 = .int .i64 (((gd l x).x2).x0) := rfl
theorem e_A8A8i64_17 (l : List A8A8i64) (x : Nat) : enR c_A8A8i64 l x 17 = .int .i64 (((gd l x).x2).x1) := rfl
theorem e_A8A8i64_18 (l : List A8A8i64) (x : Nat) : enR c_A8A8i64 l x 18 = .int .i64 (((gd l x).x2).x2) := rfl
theorem e_A8A8i64_19 (l : List A8A8i64) (x : Nat) : enR c_A8A8i64 l x 19 = .int .i64 (((gd l x).x2).x3) := rfl
theorem e_A8A8i64_20 (l : List A8A8i64) (x : Nat) : enR c_A8A8i64 l x 20 = .int .i64 (((gd l x).x2).x4) := rfl
theorem e_A8A8i64_21 (l : List A8A8i64) (x : Nat) : enR c_A8A8i64 l x 21 = .int .i64 (((gd l x).x2).x5) := rfl
theorem e_A8A8i64_22 (l : List A8A8i64) (x : Nat) : enR c_A8A8i64 l x 22 = .int .i64 (((gd l x).x2).x6) := rfl
theorem e_A8A8i64_23 (l : List A8A8i64) (x : Nat) : enR c_A8A8i64 l x 23 = .int .i64 (((gd l x).x2).x7) := rfl
theorem e_A8A8i64_24 (l : List A8A8i64) (x : Nat) : enR c_A8A8i64 l x 24 = .int .i64 (((gd l x).x3).x0) := rfl
theorem e_A8A8i64_25 (l : List A8A8i64) (x : Nat) : enR c_A8A8i64 l x 25 = .int .i64 (((gd l x).x3).x1) := rfl
theorem e_A8A8i64_26 (l : List A8A8i64) (x : Nat) : enR c_A8A8i64 l x 26 = .int .i64 (((gd l x).x3).x2) := rfl
theorem e_A8A8i64_27 (l : List A8A8i64) (x : Nat) : enR c_A8A8i64 l x 27 = .int .i64 (((gd l x).x3).x3) := rfl
theorem e_A8A8i64_28 (l : List A8A8i64) (x : Nat) : enR c_A8A8i64 l x 28 = .int .i64 (((gd l x).x3).x4) := rfl
theorem e_A8A8i64_29 (l : List A8A8i64) (x : Nat) : enR c_A8A8i64 l x 29 = .int .i64 (((gd l x).x3).x5) := rfl
theorem e_A8A8i64_30 (l : List A8A8i64) (x : Nat) : enR c_A8A8i64 l x 30 = .int .i64 (((gd l x).x3).x6) := rfl
theorem e_A8A8i64_31 (l : List A8A8i64) (x : Nat) : enR c_A8A8i64 l x 31 = .int .i64 (((gd l x).x3).x7) := rfl
theorem e_A8A8i64_32 (l : List A8A8i64) (x : Nat) : enR c_A8A8i64 l x 32 = .int .i64 (((gd l x).x4).x0) := rfl
theorem e_A8A8i64_33 (l : List A8A8i64) (x : Nat) : enR c_A8A8i64 l x 33 = .int .i64 (((gd l x).x4).x1) := rfl
theorem e_A8A8i64_34 (l : List A8A8i64) (x : Nat) : enR c_A8A8i64 l x 34 = .int .i64 (((gd l x).x4).x2) := rfl
theorem e_A8A8i64_35 (l : List A8A8i64) (x : Nat) : enR c_A8A8i64 l x 35 = .int .i64 (((gd l x).x4).x3) := rfl
theorem e_A8A8i64_36 (l : List A8A8i64) (x : Nat) : enR c_A8A8i64 l x 36 = .int .i64 (((gd l x).x4).x4) := rfl
theorem e_A8A8i64_37 (l : List A8A8i64) (x : Nat) : enR c_A8A8i64 l x 37 = .int .i64 (((gd l x).x4).x5) := rfl
theorem e_A8A8i64_38 (l : List A8A8i64) (x : Nat) : enR c_A8A8i64 l x 38 = .int .i64 (((gd l x).x4).x6) := rfl
theorem e_A8A8i64_39 (l : List A8A8i64) (x : Nat) : enR c_A8A8i64 l x 39 = .int .i64 (((gd l x).x4).x7) := rfl
theorem e_A8A8i64_40 (l : List A8A8i64) (x : Nat) : enR c_A8A8i64 l x 40 = .int .i64 (((gd l x).x5).x0) := rfl
theorem e_A8A8i64_41 (l : List A8A8i64) (x : Nat) : enR c_A8A8i64 l x 41 = .int .i64 (((gd l x).x5).x1) := rfl
theorem e_A8A8i64_42 (l : List A8A8i64) (x : Nat) : enR c_A8A8i64 l x 42 = .int .i64 (((gd l x).x5).x2) := rfl
theorem e_A8A8i64_43 (l : List A8A8i64) (x : Nat) : enR c_A8A8i64 l x 43 = .int .i64 (((gd l x).x5).x3) := rfl
theorem e_A8A8i64_44 (l : List A8A8i64) (x : Nat) : enR c_A8A8i64 l x 44 = .int .i64 (((gd l x).x5).x4) := rfl
theorem e_A8A8i64_45 (l : List A8A8i64) (x : Nat) : enR c_A8A8i64 l x 45 = .int .i64 (((gd l x).x5).x5) := rfl
theorem e_A8A8i64_46 (l : List A8A8i64) (x : Nat) : enR c_A8A8i64 l x 46 = .int .i64 (((gd l x).x5).x6) := rfl
theorem e_A8A8i64_47 (l : List A8A8i64) (x : Nat) : enR c_A8A8i64 l x 47 = .int .i64 (((gd l x).x5).x7) := rfl
theorem e_A8A8i64_48 (l : List A8A8i64) (x : Nat) : enR c_A8A8i64 l x 48 = .int .i64 (((gd l x).x6).x0) := rfl
theorem e_A8A8i64_49 (l : List A8A8i64) (x : Nat) : enR c_A8A8i64 l x 49 = .int .i64 (((gd l x).x6).x1) := rfl
theorem e_A8A8i64_50 (l : List A8A8i64) (x : Nat) : enR c_A8A8i64 l x 50 = .int .i64 (((gd l x).x6).x2) := rfl
theorem e_A8A8i64_51 (l : List A8A8i64) (x : Nat) : enR c_A8A8i64 l x 51 = .int .i64 (((gd l x).x6).x3) := rfl
theorem e_A8A8i64_52 (l : List A8A8i64) (x : Nat) : enR c_A8A8i64 l x 52 = .int .i64 (((gd l x).x6).x4) := rfl
theorem e_A8A8i64_53 (l : List A8A8i64) (x : Nat) : enR c_A8A8i64 l x 53 = .int .i64 (((gd l x).x6).x5) := rfl
theorem e_A8A8i64_54 (l : List A8A8i64) (x : Nat) : enR c_A8A8i64 l x 54 = .int .i64 (((gd l x).x6).x6) := rfl
theorem e_A8A8i64_55 (l : List A8A8i64) (x : Nat) : enR c_A8A8i64 l x 55 = .int .i64 (((gd l x).x6).x7) := rfl
theorem e_A8A8i64_56 (l : List A8A8i64) (x : Nat) : enR c_A8A8i64 l x 56 = .int .i64 (((gd l x).x7).x0) := rfl
theorem e_A8A8i64_57 (l : List A8A8i64) (x : Nat) : enR c_A8A8i64 l x 57 = .int .i64 (((gd l x).x7).x1) := rfl
theorem e_A8A8i64_58 (l : List A8A8i64) (x : Nat) : enR c_A8A8i64 l x 58 = .int .i64 (((gd l x).x7).x2) := rfl
theorem e_A8A8i64_59 (l : List A8A8i64) (x : Nat) : enR c_A8A8i64 l x 59 = .int .i64 (((gd l x).x7).x3) := rfl
theorem e_A8A8i64_60 (l : List A8A8i64) (x : Nat) : enR c_A8A8i64 l x 60 = .int .i64 (((gd l x).x7).x4) := rfl
theorem e_A8A8i64_61 (l : List A8A8i64) (x : Nat) : enR c_A8A8i64 l x 61 = .int .i64 (((gd l x).x7).x5) := rfl
theorem e_A8A8i64_62 (l : List A8A8i64) (x : Nat) : enR c_A8A8i64 l x 62 = .int .i64 (((gd l x).x7).x6) := rfl
theorem e_A8A8i64_63 (l : List A8A8i64) (x : Nat) : enR c_A8A8i64 l x 63 = .int .i64 (((gd l x).x7).x7) := rfl
theorem fit_A8A8i64 (n : Nat) (l : List A8A8i64) : Fit k_A8A8i64 n (enR c_A8A8i64 l) = True := eq_true (Fit_enR kc_A8A8i64)
theorem de_A8A8i64 (l : List A8A8i64) : deR g_A8A8i64 l.length (enR c_A8A8i64 l) = l := deR_enR gc_A8A8i64 l
theorem eta_A8A8i64 (a : A8A8i64) : A8A8i64.mk a.x0 a.x1 a.x2 a.x3 a.x4 a.x5 a.x6 a.x7 = a := rfl
theorem wA_A8A8i64 {v : AV} (h : aK 64 k_A8A8i64 v) : WkV (.agg (c_A8A8i64 (g_A8A8i64 (aL v)))) v /\ nref (.agg (c_A8A8i64 (g_A8A8i64 (aL v)))) := aK_wk (f := c_A8A8i64) (g := g_A8A8i64) (fun r h => w_A8A8i64 h) rfl (by simp only [c_A8A8i64, nrefL, nref, and_self]) h
def c_li64 (a : List Int) : List AV := [.ro 1 a.length false (enR c_i64 a)]
def g_li64 (f : Nat -> AV) : List Int := lA g_i64 (f 0)
def k_li64 (f : Nat -> AV) : Prop := lK k_i64 1 (f 0)
theorem gc_li64 (a : List Int) : g_li64 (getL (c_li64 a)) = a := by
  simp only [g_li64, c_li64, getL, iA, bA, sA, lA, deR_enR gc_i64]
theorem kc_li64 (a : List Int) : k_li64 (getL (c_li64 a)) := by
  simp only [k_li64, c_li64, getL, iK, bK, sK, lK, or_true, true_and, and_true, and_self, Fit_enR kc_i64]
theorem nr_li64 (a : List Int) : nrefL (c_li64 a) := by simp only [c_li64, nrefL, nref, and_self]
instance : NRf c_li64 := ⟨nr_li64⟩
instance : KCf k_li64 c_li64 := ⟨kc_li64⟩
theorem w_li64 {f : Nat -> AV} (h : k_li64 f) : ∀ y, y < 1 -> WkV (getL (c_li64 (g_li64 f)) y) (f y) /\ nref (getL (c_li64 (g_li64 f)) y) := by
  have h0 := h
  intro y hy
  match y, hy with
  | 0, _ => exact lK_wk (fun r h => w_i64 h) h0
  | y + 1, hy => omega
theorem e_li64_0 (l : List (List Int)) (x : Nat) : enR c_li64 l x 0 = .ro 1 (gd l x).length false (enR c_i64 (gd l x)) := rfl
theorem fit_li64 (n : Nat) (l : List (List Int)) : Fit k_li64 n (enR c_li64 l) = True := eq_true (Fit_enR kc_li64)
theorem de_li64 (l : List (List Int)) : deR g_li64 l.length (enR c_li64 l) = l := deR_enR gc_li64 l
def c_u32 (a : Int) : List AV := [.int .u32 a]
def g_u32 (f : Nat -> AV) : Int := iA (f 0)
def k_u32 (f : Nat -> AV) : Prop := iK .u32 (f 0)
theorem gc_u32 (a : Int) : g_u32 (getL (c_u32 a)) = a := by
  simp only [g_u32, c_u32, getL, iA, bA, sA, lA]
theorem kc_u32 (a : Int) : k_u32 (getL (c_u32 a)) := by
  simp only [k_u32, c_u32, getL, iK, bK, sK, lK, or_true, true_and, and_true, and_self]
theorem nr_u32 (a : Int) : nrefL (c_u32 a) := by simp only [c_u32, nrefL, nref, and_self]
instance : NOf c_u32 := ⟨fun a => by simp only [c_u32, noroL, noro, and_self]⟩
instance : NRf c_u32 := ⟨nr_u32⟩
instance : KCf k_u32 c_u32 := ⟨kc_u32⟩
theorem w_u32 {f : Nat -> AV} (h : k_u32 f) : ∀ y, y < 1 -> WkV (getL (c_u32 (g_u32 f)) y) (f y) /\ nref (getL (c_u32 (g_u32 f)) y) := by
  have h0 := h
  intro y hy
  match y, hy with
  | 0, _ => exact iK_wk h0
  | y + 1, hy => omega
theorem e_u32_0 (l : List Int) (x : Nat) : enR c_u32 l x 0 = .int .u32 (gd l x) := rfl
theorem fit_u32 (n : Nat) (l : List Int) : Fit k_u32 n (enR c_u32 l) = True := eq_true (Fit_enR kc_u32)
theorem de_u32 (l : List Int) : deR g_u32 l.length (enR c_u32 l) = l := deR_enR gc_u32 l
def c_u64 (a : Int) : List AV := [.int .u64 a]
def g_u64 (f : Nat -> AV) : Int := iA (f 0)
def k_u64 (f : Nat -> AV) : Prop := iK .u64 (f 0)
theorem gc_u64 (a : Int) : g_u64 (getL (c_u64 a)) = a := by
  simp only [g_u64, c_u64, getL, iA, bA, sA, lA]
theorem kc_u64 (a : Int) : k_u64 (getL (c_u64 a)) := by
  simp only [k_u64, c_u64, getL, iK, bK, sK, lK, or_true, true_and, and_true, and_self]
theorem nr_u64 (a : Int) : nrefL (c_u64 a) := by simp only [c_u64, nrefL, nref, and_self]
instance : NOf c_u64 := ⟨fun a => by simp only [c_u64, noroL, noro, and_self]⟩
instance : NRf c_u64 := ⟨nr_u64⟩
instance : KCf k_u64 c_u64 := ⟨kc_u64⟩
theorem w_u64 {f : Nat -> AV} (h : k_u64 f) : ∀ y, y < 1 -> WkV (getL (c_u64 (g_u64 f)) y) (f y) /\ nref (getL (c_u64 (g_u64 f)) y) := by
  have h0 := h
  intro y hy
  match y, hy with
  | 0, _ => exact iK_wk h0
  | y + 1, hy => omega
theorem e_u64_0 (l : List Int) (x : Nat) : enR c_u64 l x 0 = .int .u64 (gd l x) := rfl
theorem fit_u64 (n : Nat) (l : List Int) : Fit k_u64 n (enR c_u64 l) = True := eq_true (Fit_enR kc_u64)
theorem de_u64 (l : List Int) : deR g_u64 l.length (enR c_u64 l) = l := deR_enR gc_u64 l
structure TReader where
  Data : _root_.List Int
  At : Int
  deriving Inhabited
def c_TReader (a : TReader) : List AV := [.ro 1 a.Data.length false (enR c_u8 a.Data), .int .i64 a.At]
def g_TReader (f : Nat -> AV) : TReader := ⟨lA g_u8 (f 0), iA (f 1)⟩
def k_TReader (f : Nat -> AV) : Prop := lK k_u8 1 (f 0) /\ iK .i64 (f 1)
theorem gc_TReader (a : TReader) : g_TReader (getL (c_TReader a)) = a := by
  simp only [g_TReader, c_TReader, getL, iA, bA, sA, lA, deR_enR gc_u8]
theorem kc_TReader (a : TReader) : k_TReader (getL (c_TReader a)) := by
  simp only [k_TReader, c_TReader, getL, iK, bK, sK, lK, or_true, true_and, and_true, and_self, Fit_enR kc_u8]
theorem nr_TReader (a : TReader) : nrefL (c_TReader a) := by simp only [c_TReader, nrefL, nref, and_self]
instance : NRf c_TReader := ⟨nr_TReader⟩
instance : KCf k_TReader c_TReader := ⟨kc_TReader⟩
theorem w_TReader {f : Nat -> AV} (h : k_TReader f) : ∀ y, y < 2 -> WkV (getL (c_TReader (g_TReader f)) y) (f y) /\ nref (getL (c_TReader (g_TReader f)) y) := by
  obtain ⟨h0, h1⟩ := h
  intro y hy
  match y, hy with
  | 0, _ => exact lK_wk (fun r h => w_u8 h) h0
  | 1, _ => exact iK_wk h1
  | y + 2, hy => omega
theorem e_TReader_0 (l : List TReader) (x : Nat) : enR c_TReader l x 0 = .ro 1 ((gd l x).Data).length false (enR c_u8 ((gd l x).Data)) := rfl
theorem e_TReader_1 (l : List TReader) (x : Nat) : enR c_TReader l x 1 = .int .i64 ((gd l x).At) := rfl
theorem fit_TReader (n : Nat) (l : List TReader) : Fit k_TReader n (enR c_TReader l) = True := eq_true (Fit_enR kc_TReader)
theorem de_TReader (l : List TReader) : deR g_TReader l.length (enR c_TReader l) = l := deR_enR gc_TReader l
theorem eta_TReader (a : TReader) : TReader.mk a.Data a.At = a := rfl
theorem wA_TReader {v : AV} (h : aK 2 k_TReader v) : WkV (.agg (c_TReader (g_TReader (aL v)))) v /\ nref (.agg (c_TReader (g_TReader (aL v)))) := aK_wk (f := c_TReader) (g := g_TReader) (fun r h => w_TReader h) rfl (by simp only [c_TReader, nrefL, nref, and_self]) h
structure Tmessage where
  to_ : Int
  from_ : Int
  w : TRootWord
  deriving Inhabited
def c_Tmessage (a : Tmessage) : List AV := [.int .i64 a.to_, .int .i64 a.from_, .int .u8 a.w.Root.x0, .int .u8 a.w.Root.x1, .int .u8 a.w.Root.x2, .int .u8 a.w.Root.x3, .int .u8 a.w.Root.x4, .int .u8 a.w.Root.x5, .int .i64 a.w.Seq, .int .i64 a.w.Hops, .int .i64 a.w.Cost, .bool a.w.Gate]
def g_Tmessage (f : Nat -> AV) : Tmessage := ⟨iA (f 0), iA (f 1), ⟨⟨iA (f 2), iA (f 3), iA (f 4), iA (f 5), iA (f 6), iA (f 7)⟩, iA (f 8), iA (f 9), iA (f 10), bA (f 11)⟩⟩
def k_Tmessage (f : Nat -> AV) : Prop := iK .i64 (f 0) /\ iK .i64 (f 1) /\ iK .u8 (f 2) /\ iK .u8 (f 3) /\ iK .u8 (f 4) /\ iK .u8 (f 5) /\ iK .u8 (f 6) /\ iK .u8 (f 7) /\ iK .i64 (f 8) /\ iK .i64 (f 9) /\ iK .i64 (f 10) /\ bK (f 11)
theorem gc_Tmessage (a : Tmessage) : g_Tmessage (getL (c_Tmessage a)) = a := by
  simp only [g_Tmessage, c_Tmessage, getL, iA, bA, sA, lA]
theorem kc_Tmessage (a : Tmessage) : k_Tmessage (getL (c_Tmessage a)) := by
  simp only [k_Tmessage, c_Tmessage, getL, iK, bK, sK, lK, or_true, true_and, and_true, and_self]
theorem nr_Tmessage (a : Tmessage) : nrefL (c_Tmessage a) := by simp only [c_Tmessage, nrefL, nref, and_self]
instance : NOf c_Tmessage := ⟨fun a => by simp only [c_Tmessage, noroL, noro, and_self]⟩
instance : NRf c_Tmessage := ⟨nr_Tmessage⟩
instance : KCf k_Tmessage c_Tmessage := ⟨kc_Tmessage⟩
theorem w_Tmessage {f : Nat -> AV} (h : k_Tmessage f) : ∀ y, y < 12 -> WkV (getL (c_Tmessage (g_Tmessage f)) y) (f y) /\ nref (getL (c_Tmessage (g_Tmessage f)) y) := by
  obtain ⟨h0, h1, h2, h3, h4, h5, h6, h7, h8, h9, h10, h11⟩ := h
  intro y hy
  match y, hy with
  | 0, _ => exact iK_wk h0
  | 1, _ => exact iK_wk h1
  | 2, _ => exact iK_wk h2
  | 3, _ => exact iK_wk h3
  | 4, _ => exact iK_wk h4
  | 5, _ => exact iK_wk h5
  | 6, _ => exact iK_wk h6
  | 7, _ => exact iK_wk h7
  | 8, _ => exact iK_wk h8
  | 9, _ => exact iK_wk h9
  | 10, _ => exact iK_wk h10
  | 11, _ => exact bK_wk h11
  | y + 12, hy => omega
theorem e_Tmessage_0 (l : List Tmessage) (x : Nat) : enR c_Tmessage l x 0 = .int .i64 ((gd l x).to_) := rfl
theorem e_Tmessage_1 (l : List Tmessage) (x : Nat) : enR c_Tmessage l x 1 = .int .i64 ((gd l x).from_) := rfl
theorem e_Tmessage_2 (l : List Tmessage) (x : Nat) : enR c_Tmessage l x 2 = .int .u8 ((((gd l x).w).Root).x0) := rfl
theorem e_Tmessage_3 (l : List Tmessage) (x : Nat) : enR c_Tmessage l x 3 = .int .u8 ((((gd l x).w).Root).x1) := rfl
theorem e_Tmessage_4 (l : List Tmessage) (x : Nat) : enR c_Tmessage l x 4 = .int .u8 ((((gd l x).w).Root).x2) := rfl
theorem e_Tmessage_5 (l : List Tmessage) (x : Nat) : enR c_Tmessage l x 5 = .int .u8 ((((gd l x).w).Root).x3) := rfl
theorem e_Tmessage_6 (l : List Tmessage) (x : Nat) : enR c_Tmessage l x 6 = .int .u8 ((((gd l x).w).Root).x4) := rfl
theorem e_Tmessage_7 (l : List Tmessage) (x : Nat) : enR c_Tmessage l x 7 = .int .u8 ((((gd l x).w).Root).x5) := rfl
theorem e_Tmessage_8 (l : List Tmessage) (x : Nat) : enR c_Tmessage l x 8 = .int .i64 (((gd l x).w).Seq) := rfl
theorem e_Tmessage_9 (l : List Tmessage) (x : Nat) : enR c_Tmessage l x 9 = .int .i64 (((gd l x).w).Hops) := rfl
theorem e_Tmessage_10 (l : List Tmessage) (x : Nat) : enR c_Tmessage l x 10 = .int .i64 (((gd l x).w).Cost) := rfl
theorem e_Tmessage_11 (l : List Tmessage) (x : Nat) : enR c_Tmessage l x 11 = .bool (((gd l x).w).Gate) := rfl
theorem fit_Tmessage (n : Nat) (l : List Tmessage) : Fit k_Tmessage n (enR c_Tmessage l) = True := eq_true (Fit_enR kc_Tmessage)
theorem de_Tmessage (l : List Tmessage) : deR g_Tmessage l.length (enR c_Tmessage l) = l := deR_enR gc_Tmessage l
theorem eta_Tmessage (a : Tmessage) : Tmessage.mk a.to_ a.from_ a.w = a := rfl
theorem wA_Tmessage {v : AV} (h : aK 12 k_Tmessage v) : WkV (.agg (c_Tmessage (g_Tmessage (aL v)))) v /\ nref (.agg (c_Tmessage (g_Tmessage (aL v)))) := aK_wk (f := c_Tmessage) (g := g_Tmessage) (fun r h => w_Tmessage h) rfl (by simp only [c_Tmessage, nrefL, nref, and_self]) h
def c_lTmessage (a : List Tmessage) : List AV := [.ro 12 a.length false (enR c_Tmessage a)]
def g_lTmessage (f : Nat -> AV) : List Tmessage := lA g_Tmessage (f 0)
def k_lTmessage (f : Nat -> AV) : Prop := lK k_Tmessage 12 (f 0)
theorem gc_lTmessage (a : List Tmessage) : g_lTmessage (getL (c_lTmessage a)) = a := by
  simp only [g_lTmessage, c_lTmessage, getL, iA, bA, sA, lA, deR_enR gc_Tmessage]
theorem kc_lTmessage (a : List Tmessage) : k_lTmessage (getL (c_lTmessage a)) := by
  simp only [k_lTmessage, c_lTmessage, getL, iK, bK, sK, lK, or_true, true_and, and_true, and_self, Fit_enR kc_Tmessage]
theorem nr_lTmessage (a : List Tmessage) : nrefL (c_lTmessage a) := by simp only [c_lTmessage, nrefL, nref, and_self]
instance : NRf c_lTmessage := ⟨nr_lTmessage⟩
instance : KCf k_lTmessage c_lTmessage := ⟨kc_lTmessage⟩
theorem w_lTmessage {f : Nat -> AV} (h : k_lTmessage f) : ∀ y, y < 1 -> WkV (getL (c_lTmessage (g_lTmessage f)) y) (f y) /\ nref (getL (c_lTmessage (g_lTmessage f)) y) := by
  have h0 := h
  intro y hy
  match y, hy with
  | 0, _ => exact lK_wk (fun r h => w_Tmessage h) h0
  | y + 1, hy => omega
theorem e_lTmessage_0 (l : List (List Tmessage)) (x : Nat) : enR c_lTmessage l x 0 = .ro 12 (gd l x).length false (enR c_Tmessage (gd l x)) := rfl
theorem fit_lTmessage (n : Nat) (l : List (List Tmessage)) : Fit k_lTmessage n (enR c_lTmessage l) = True := eq_true (Fit_enR kc_lTmessage)
theorem de_lTmessage (l : List (List Tmessage)) : deR g_lTmessage l.length (enR c_lTmessage l) = l := deR_enR gc_lTmessage l
def shT (t : TypeId) : Option (List Leaf) := if t = 23 then some [.i .u8, .i .u8, .i .u8, .i .u8, .i .u8, .i .u8] else if t = 25 then some [.i .u8, .i .u8, .i .u8, .i .u8, .i .u8, .i .u8, .i .i64, .i .i64, .i .i64, .b] else if t = 62 then some [.i .u8, .i .u8, .i .u8, .i .u8, .i .u8, .i .u8, .i .u8, .i .u8, .i .u8, .i .u8, .i .u8, .i .u8, .i .i64, .i .i64, .i .i64, .b, .i .i64] else if t = 64 then some [.i .u8, .i .u8, .i .u8, .i .u8, .i .u8, .i .u8, .i .u8, .i .u8, .i .u8, .i .u8, .i .u8, .i .u8, .i .i64] else if t = 80 then some [.i .i64, .i .i64, .i .i64, .i .i64, .i .i64, .i .i64, .i .i64, .i .i64] else if t = 130 then some [.i .i64, .i .i64, .i .u8, .i .u8, .i .u8, .i .u8, .i .u8, .i .u8, .i .i64, .i .i64, .i .i64, .b] else none
theorem shT_ok : ShOk Try.prog shT := by
  refine shOk_of fun t l h => ?_
  unfold shT at h
  split at h
  · rename_i ht; subst ht; injection h with h; subst h; exact ⟨by kernel_rfl, by kernel_rfl, by kernel_rfl⟩
  split at h
  · rename_i ht; subst ht; injection h with h; subst h; exact ⟨by kernel_rfl, by kernel_rfl, by kernel_rfl⟩
  split at h
  · rename_i ht; subst ht; injection h with h; subst h; exact ⟨by kernel_rfl, by kernel_rfl, by kernel_rfl⟩
  split at h
  · rename_i ht; subst ht; injection h with h; subst h; exact ⟨by kernel_rfl, by kernel_rfl, by kernel_rfl⟩
  split at h
  · rename_i ht; subst ht; injection h with h; subst h; exact ⟨by kernel_rfl, by kernel_rfl, by kernel_rfl⟩
  split at h
  · rename_i ht; subst ht; injection h with h; subst h; exact ⟨by kernel_rfl, by kernel_rfl, by kernel_rfl⟩
  cases h
theorem shT_23 : shT 23 = some [.i .u8, .i .u8, .i .u8, .i .u8, .i .u8, .i .u8] := rfl
theorem shT_25 : shT 25 = some [.i .u8, .i .u8, .i .u8, .i .u8, .i .u8, .i .u8, .i .i64, .i .i64, .i .i64, .b] := rfl
theorem shT_62 : shT 62 = some [.i .u8, .i .u8, .i .u8, .i .u8, .i .u8, .i .u8, .i .u8, .i .u8, .i .u8, .i .u8, .i .u8, .i .u8, .i .i64, .i .i64, .i .i64, .b, .i .i64] := rfl
theorem shT_64 : shT 64 = some [.i .u8, .i .u8, .i .u8, .i .u8, .i .u8, .i .u8, .i .u8, .i .u8, .i .u8, .i .u8, .i .u8, .i .u8, .i .i64] := rfl
theorem shT_80 : shT 80 = some [.i .i64, .i .i64, .i .i64, .i .i64, .i .i64, .i .i64, .i .i64, .i .i64] := rfl
theorem shT_130 : shT 130 = some [.i .i64, .i .i64, .i .u8, .i .u8, .i .u8, .i .u8, .i .u8, .i .u8, .i .i64, .i .i64, .i .i64, .b] := rfl
theorem Fit_app {k : (Nat -> AV) -> Prop} {n p : Nat} {c d : Nat -> Nat -> AV} (h1 : Fit k p c) (h2 : Fit k (n - p) d) : Fit k n (appC p c d) := fun x hx => by
  by_cases h : x < p
  · rw [show appC p c d x = c x from funext fun y => if_pos h]; exact h1 x h
  · rw [show appC p c d x = d (x - p) from funext fun y => if_neg h]; exact h2 _ (by omega)
def ctNo : Ct := tab []
theorem ctNo_ok : CtOk Try.prog ctNo := tab_nil
theorem strE_u8 (s : ByteArray) : strE s = enR c_u8 (bytesL s) := strE_en (fun _ => rfl) s
theorem rg {ct : Ct} (C : CtOk Try.prog ct) {a : Code} {K : Kt} {t : List AV} {h : List ABlk} (hw : wpC Try.prog shT ct a K t h) : Mean Try.prog a K t h := wpC_sound shT_ok C a K t h hw
theorem sq {ct : Ct} (C : CtOk Try.prog ct) {a b : Code} {K : Kt} {t : List AV} {h : List ABlk} (hw : wpC Try.prog shT ct a (kM Try.prog b K) t h) : Mean Try.prog (.seq a b) K t h := seqM (wpC_sound shT_ok C a _ t h hw)
end Go.Proofs.Ytdcepineppafpaa
