/-
  Go's values as typed values.
-/
import Derived.Test.YtjhkehdbjnhplaaT
import Derived.Test.YtjhkehdbjnhplaaPm10
namespace Go.Proofs.Ytjhkehdbjnhplaa
open Go.Am
set_option linter.unusedVariables false
set_option linter.unusedSimpArgs false
def c_u8 (a : Int) : List AV := [.int .u8 a]
def g_u8 (f : Nat -> AV) : Int := iA (f 0)
def k_u8 (f : Nat -> AV) : Prop := iK .u8 (f 0)
theorem gc_u8 (a : Int) : g_u8 (getL (c_u8 a)) = a := by
  simp only [g_u8, c_u8, getL, iA, bA, sA, lA]
theorem kc_u8 (a : Int) : k_u8 (getL (c_u8 a)) := by
  simp only [k_u8, c_u8, getL, iK, bK, sK, lK, or_true, true_and, and_true, and_self]
theorem nr_u8 (a : Int) : nrefL (c_u8 a) := by simp only [c_u8, nrefL, nref, and_self]
instance : NOf c_u8 := ⟨fun a => by simp only [c_u8, noroL, noro, and_self]⟩
instance : NRf c_u8 := ⟨nr_u8⟩
instance : KCf k_u8 c_u8 := ⟨kc_u8⟩
theorem e_u8_0 (l : List Int) (x : Nat) : enR c_u8 l x 0 = .int .u8 (gd l x) := rfl
theorem fit_u8 (n : Nat) (l : List Int) : Fit k_u8 n (enR c_u8 l) = True := eq_true (Fit_enR kc_u8)
theorem de_u8 (l : List Int) : deR g_u8 l.length (enR c_u8 l) = l := deR_enR gc_u8 l
def c_i64 (a : Int) : List AV := [.int .i64 a]
def g_i64 (f : Nat -> AV) : Int := iA (f 0)
def k_i64 (f : Nat -> AV) : Prop := iK .i64 (f 0)
theorem gc_i64 (a : Int) : g_i64 (getL (c_i64 a)) = a := by
  simp only [g_i64, c_i64, getL, iA, bA, sA, lA]
theorem kc_i64 (a : Int) : k_i64 (getL (c_i64 a)) := by
  simp only [k_i64, c_i64, getL, iK, bK, sK, lK, or_true, true_and, and_true, and_self]
theorem nr_i64 (a : Int) : nrefL (c_i64 a) := by simp only [c_i64, nrefL, nref, and_self]
instance : NOf c_i64 := ⟨fun a => by simp only [c_i64, noroL, noro, and_self]⟩
instance : NRf c_i64 := ⟨nr_i64⟩
instance : KCf k_i64 c_i64 := ⟨kc_i64⟩
theorem w_i64 {f : Nat -> AV} (h : k_i64 f) : ∀ y, y < 1 -> WkV (getL (c_i64 (g_i64 f)) y) (f y) /\ nref (getL (c_i64 (g_i64 f)) y) := by
  have h0 := h
  intro y hy
  match y, hy with
  | 0, _ => exact iK_wk h0
  | y + 1, hy => omega
theorem e_i64_0 (l : List Int) (x : Nat) : enR c_i64 l x 0 = .int .i64 (gd l x) := rfl
theorem fit_i64 (n : Nat) (l : List Int) : Fit k_i64 n (enR c_i64 l) = True := eq_true (Fit_enR kc_i64)
theorem de_i64 (l : List Int) : deR g_i64 l.length (enR c_i64 l) = l := deR_enR gc_i64 l
def c_b (a : Bool) : List AV := [.bool a]
def g_b (f : Nat -> AV) : Bool := bA (f 0)
def k_b (f : Nat -> AV) : Prop := bK (f 0)
theorem gc_b (a : Bool) : g_b (getL (c_b a)) = a := by
  simp only [g_b, c_b, getL, iA, bA, sA, lA]
theorem kc_b (a : Bool) : k_b (getL (c_b a)) := by
  simp only [k_b, c_b, getL, iK, bK, sK, lK, or_true, true_and, and_true, and_self]
theorem nr_b (a : Bool) : nrefL (c_b a) := by simp only [c_b, nrefL, nref, and_self]
instance : NOf c_b := ⟨fun a => by simp only [c_b, noroL, noro, and_self]⟩
instance : NRf c_b := ⟨nr_b⟩
instance : KCf k_b c_b := ⟨kc_b⟩
theorem e_b_0 (l : List Bool) (x : Nat) : enR c_b l x 0 = .bool (gd l x) := rfl
theorem fit_b (n : Nat) (l : List Bool) : Fit k_b n (enR c_b l) = True := eq_true (Fit_enR kc_b)
theorem de_b (l : List Bool) : deR g_b l.length (enR c_b l) = l := deR_enR gc_b l
def c_s (a : ByteArray) : List AV := [.str a]
def g_s (f : Nat -> AV) : ByteArray := sA (f 0)
def k_s (f : Nat -> AV) : Prop := sK (f 0)
theorem gc_s (a : ByteArray) : g_s (getL (c_s a)) = a := by
  simp only [g_s, c_s, getL, iA, bA, sA, lA]
theorem kc_s (a : ByteArray) : k_s (getL (c_s a)) := by
  simp only [k_s, c_s, getL, iK, bK, sK, lK, or_true, true_and, and_true, and_self]
theorem nr_s (a : ByteArray) : nrefL (c_s a) := by simp only [c_s, nrefL, nref, and_self]
instance : NOf c_s := ⟨fun a => by simp only [c_s, noroL, noro, and_self]⟩
instance : NRf c_s := ⟨nr_s⟩
instance : KCf k_s c_s := ⟨kc_s⟩
theorem e_s_0 (l : List ByteArray) (x : Nat) : enR c_s l x 0 = .str (gd l x) := rfl
theorem fit_s (n : Nat) (l : List ByteArray) : Fit k_s n (enR c_s l) = True := eq_true (Fit_enR kc_s)
theorem de_s (l : List ByteArray) : deR g_s l.length (enR c_s l) = l := deR_enR gc_s l
structure TRegulateWord where
  Kind : Int
  Channel : Int
  To : Int
  At : Int
  deriving Inhabited
def c_TRegulateWord (a : TRegulateWord) : List AV := [.int .u8 a.Kind, .int .i64 a.Channel, .int .i64 a.To, .int .i64 a.At]
def g_TRegulateWord (f : Nat -> AV) : TRegulateWord := ⟨iA (f 0), iA (f 1), iA (f 2), iA (f 3)⟩
def k_TRegulateWord (f : Nat -> AV) : Prop := iK .u8 (f 0) /\ iK .i64 (f 1) /\ iK .i64 (f 2) /\ iK .i64 (f 3)
theorem gc_TRegulateWord (a : TRegulateWord) : g_TRegulateWord (getL (c_TRegulateWord a)) = a := by
  simp only [g_TRegulateWord, c_TRegulateWord, getL, iA, bA, sA, lA]
theorem kc_TRegulateWord (a : TRegulateWord) : k_TRegulateWord (getL (c_TRegulateWord a)) := by
  simp only [k_TRegulateWord, c_TRegulateWord, getL, iK, bK, sK, lK, or_true, true_and, and_true, and_self]
theorem nr_TRegulateWord (a : TRegulateWord) : nrefL (c_TRegulateWord a) := by simp only [c_TRegulateWord, nrefL, nref, and_self]
instance : NOf c_TRegulateWord := ⟨fun a => by simp only [c_TRegulateWord, noroL, noro, and_self]⟩
instance : NRf c_TRegulateWord := ⟨nr_TRegulateWord⟩
instance : KCf k_TRegulateWord c_TRegulateWord := ⟨kc_TRegulateWord⟩
theorem w_TRegulateWord {f : Nat -> AV} (h : k_TRegulateWord f) : ∀ y, y < 4 -> WkV (getL (c_TRegulateWord (g_TRegulateWord f)) y) (f y) /\ nref (getL (c_TRegulateWord (g_TRegulateWord f)) y) := by
  obtain ⟨h0, h1, h2, h3⟩ := h
  intro y hy
  match y, hy with
  | 0, _ => exact iK_wk h0
  | 1, _ => exact iK_wk h1
  | 2, _ => exact iK_wk h2
  | 3, _ => exact iK_wk h3
  | y + 4, hy => omega
theorem e_TRegulateWord_0 (l : List TRegulateWord) (x : Nat) : enR c_TRegulateWord l x 0 = .int .u8 ((gd l x).Kind) := rfl
theorem e_TRegulateWord_1 (l : List TRegulateWord) (x : Nat) : enR c_TRegulateWord l x 1 = .int .i64 ((gd l x).Channel) := rfl
theorem e_TRegulateWord_2 (l : List TRegulateWord) (x : Nat) : enR c_TRegulateWord l x 2 = .int .i64 ((gd l x).To) := rfl
theorem e_TRegulateWord_3 (l : List TRegulateWord) (x : Nat) : enR c_TRegulateWord l x 3 = .int .i64 ((gd l x).At) := rfl
theorem fit_TRegulateWord (n : Nat) (l : List TRegulateWord) : Fit k_TRegulateWord n (enR c_TRegulateWord l) = True := eq_true (Fit_enR kc_TRegulateWord)
theorem de_TRegulateWord (l : List TRegulateWord) : deR g_TRegulateWord l.length (enR c_TRegulateWord l) = l := deR_enR gc_TRegulateWord l
theorem eta_TRegulateWord (a : TRegulateWord) : TRegulateWord.mk a.Kind a.Channel a.To a.At = a := rfl
theorem wA_TRegulateWord {v : AV} (h : aK 4 k_TRegulateWord v) : WkV (.agg (c_TRegulateWord (g_TRegulateWord (aL v)))) v /\ nref (.agg (c_TRegulateWord (g_TRegulateWord (aL v)))) := aK_wk (f := c_TRegulateWord) (g := g_TRegulateWord) (fun r h => w_TRegulateWord h) rfl (by simp only [c_TRegulateWord, nrefL, nref, and_self]) h
def c_lu8 (a : List Int) : List AV := [.ro 1 a.length false (enR c_u8 a)]
def g_lu8 (f : Nat -> AV) : List Int := lA g_u8 (f 0)
def k_lu8 (f : Nat -> AV) : Prop := lK k_u8 1 (f 0)
theorem gc_lu8 (a : List Int) : g_lu8 (getL (c_lu8 a)) = a := by
  simp only [g_lu8, c_lu8, getL, iA, bA, sA, lA, deR_enR gc_u8]
theorem kc_lu8 (a : List Int) : k_lu8 (getL (c_lu8 a)) := by
  simp only [k_lu8, c_lu8, getL, iK, bK, sK, lK, or_true, true_and, and_true, and_self, Fit_enR kc_u8]
theorem nr_lu8 (a : List Int) : nrefL (c_lu8 a) := by simp only [c_lu8, nrefL, nref, and_self]
instance : NRf c_lu8 := ⟨nr_lu8⟩
instance : KCf k_lu8 c_lu8 := ⟨kc_lu8⟩
theorem e_lu8_0 (l : List (List Int)) (x : Nat) : enR c_lu8 l x 0 = .ro 1 (gd l x).length false (enR c_u8 (gd l x)) := rfl
theorem fit_lu8 (n : Nat) (l : List (List Int)) : Fit k_lu8 n (enR c_lu8 l) = True := eq_true (Fit_enR kc_lu8)
theorem de_lu8 (l : List (List Int)) : deR g_lu8 l.length (enR c_lu8 l) = l := deR_enR gc_lu8 l
structure TRegulateChannel where
  Number : Int
  Max : Int
  Radar : Bool
  deriving Inhabited
def c_TRegulateChannel (a : TRegulateChannel) : List AV := [.int .i64 a.Number, .int .i64 a.Max, .bool a.Radar]
def g_TRegulateChannel (f : Nat -> AV) : TRegulateChannel := ⟨iA (f 0), iA (f 1), bA (f 2)⟩
def k_TRegulateChannel (f : Nat -> AV) : Prop := iK .i64 (f 0) /\ iK .i64 (f 1) /\ bK (f 2)
theorem gc_TRegulateChannel (a : TRegulateChannel) : g_TRegulateChannel (getL (c_TRegulateChannel a)) = a := by
  simp only [g_TRegulateChannel, c_TRegulateChannel, getL, iA, bA, sA, lA]
theorem kc_TRegulateChannel (a : TRegulateChannel) : k_TRegulateChannel (getL (c_TRegulateChannel a)) := by
  simp only [k_TRegulateChannel, c_TRegulateChannel, getL, iK, bK, sK, lK, or_true, true_and, and_true, and_self]
theorem nr_TRegulateChannel (a : TRegulateChannel) : nrefL (c_TRegulateChannel a) := by simp only [c_TRegulateChannel, nrefL, nref, and_self]
instance : NOf c_TRegulateChannel := ⟨fun a => by simp only [c_TRegulateChannel, noroL, noro, and_self]⟩
instance : NRf c_TRegulateChannel := ⟨nr_TRegulateChannel⟩
instance : KCf k_TRegulateChannel c_TRegulateChannel := ⟨kc_TRegulateChannel⟩
theorem w_TRegulateChannel {f : Nat -> AV} (h : k_TRegulateChannel f) : ∀ y, y < 3 -> WkV (getL (c_TRegulateChannel (g_TRegulateChannel f)) y) (f y) /\ nref (getL (c_TRegulateChannel (g_TRegulateChannel f)) y) := by
  obtain ⟨h0, h1, h2⟩ := h
  intro y hy
  match y, hy with
  | 0, _ => exact iK_wk h0
  | 1, _ => exact iK_wk h1
  | 2, _ => exact bK_wk h2
  | y + 3, hy => omega
theorem e_TRegulateChannel_0 (l : List TRegulateChannel) (x : Nat) : enR c_TRegulateChannel l x 0 = .int .i64 ((gd l x).Number) := rfl
theorem e_TRegulateChannel_1 (l : List TRegulateChannel) (x : Nat) : enR c_TRegulateChannel l x 1 = .int .i64 ((gd l x).Max) := rfl
theorem e_TRegulateChannel_2 (l : List TRegulateChannel) (x : Nat) : enR c_TRegulateChannel l x 2 = .bool ((gd l x).Radar) := rfl
theorem fit_TRegulateChannel (n : Nat) (l : List TRegulateChannel) : Fit k_TRegulateChannel n (enR c_TRegulateChannel l) = True := eq_true (Fit_enR kc_TRegulateChannel)
theorem de_TRegulateChannel (l : List TRegulateChannel) : deR g_TRegulateChannel l.length (enR c_TRegulateChannel l) = l := deR_enR gc_TRegulateChannel l
theorem eta_TRegulateChannel (a : TRegulateChannel) : TRegulateChannel.mk a.Number a.Max a.Radar = a := rfl
theorem wA_TRegulateChannel {v : AV} (h : aK 3 k_TRegulateChannel v) : WkV (.agg (c_TRegulateChannel (g_TRegulateChannel (aL v)))) v /\ nref (.agg (c_TRegulateChannel (g_TRegulateChannel (aL v)))) := aK_wk (f := c_TRegulateChannel) (g := g_TRegulateChannel) (fun r h => w_TRegulateChannel h) rfl (by simp only [c_TRegulateChannel, nrefL, nref, and_self]) h
def c_lTRegulateChannel (a : List TRegulateChannel) : List AV := [.ro 3 a.length false (enR c_TRegulateChannel a)]
def g_lTRegulateChannel (f : Nat -> AV) : List TRegulateChannel := lA g_TRegulateChannel (f 0)
def k_lTRegulateChannel (f : Nat -> AV) : Prop := lK k_TRegulateChannel 3 (f 0)
theorem gc_lTRegulateChannel (a : List TRegulateChannel) : g_lTRegulateChannel (getL (c_lTRegulateChannel a)) = a := by
  simp only [g_lTRegulateChannel, c_lTRegulateChannel, getL, iA, bA, sA, lA, deR_enR gc_TRegulateChannel]
theorem kc_lTRegulateChannel (a : List TRegulateChannel) : k_lTRegulateChannel (getL (c_lTRegulateChannel a)) := by
  simp only [k_lTRegulateChannel, c_lTRegulateChannel, getL, iK, bK, sK, lK, or_true, true_and, and_true, and_self, Fit_enR kc_TRegulateChannel]
theorem nr_lTRegulateChannel (a : List TRegulateChannel) : nrefL (c_lTRegulateChannel a) := by simp only [c_lTRegulateChannel, nrefL, nref, and_self]
instance : NRf c_lTRegulateChannel := ⟨nr_lTRegulateChannel⟩
instance : KCf k_lTRegulateChannel c_lTRegulateChannel := ⟨kc_lTRegulateChannel⟩
theorem e_lTRegulateChannel_0 (l : List (List TRegulateChannel)) (x : Nat) : enR c_lTRegulateChannel l x 0 = .ro 3 (gd l x).length false (enR c_TRegulateChannel (gd l x)) := rfl
theorem fit_lTRegulateChannel (n : Nat) (l : List (List TRegulateChannel)) : Fit k_lTRegulateChannel n (enR c_lTRegulateChannel l) = True := eq_true (Fit_enR kc_lTRegulateChannel)
theorem de_lTRegulateChannel (l : List (List TRegulateChannel)) : deR g_lTRegulateChannel l.length (enR c_lTRegulateChannel l) = l := deR_enR gc_lTRegulateChannel l
structure TRegulateBlock where
  Channel : Int
  Until : Int
  deriving Inhabited
def c_TRegulateBlock (a : TRegulateBlock) : List AV := [.int .i64 a.Channel, .int .i64 a.Until]
def g_TRegulateBlock (f : Nat -> AV) : TRegulateBlock := ⟨iA (f 0), iA (f 1)⟩
def k_TRegulateBlock (f : Nat -> AV) : Prop := iK .i64 (f 0) /\ iK .i64 (f 1)
theorem gc_TRegulateBlock (a : TRegulateBlock) : g_TRegulateBlock (getL (c_TRegulateBlock a)) = a := by
  simp only [g_TRegulateBlock, c_TRegulateBlock, getL, iA, bA, sA, lA]
theorem kc_TRegulateBlock (a : TRegulateBlock) : k_TRegulateBlock (getL (c_TRegulateBlock a)) := by
  simp only [k_TRegulateBlock, c_TRegulateBlock, getL, iK, bK, sK, lK, or_true, true_and, and_true, and_self]
theorem nr_TRegulateBlock (a : TRegulateBlock) : nrefL (c_TRegulateBlock a) := by simp only [c_TRegulateBlock, nrefL, nref, and_self]
instance : NOf c_TRegulateBlock := ⟨fun a => by simp only [c_TRegulateBlock, noroL, noro, and_self]⟩
instance : NRf c_TRegulateBlock := ⟨nr_TRegulateBlock⟩
instance : KCf k_TRegulateBlock c_TRegulateBlock := ⟨kc_TRegulateBlock⟩
theorem w_TRegulateBlock {f : Nat -> AV} (h : k_TRegulateBlock f) : ∀ y, y < 2 -> WkV (getL (c_TRegulateBlock (g_TRegulateBlock f)) y) (f y) /\ nref (getL (c_TRegulateBlock (g_TRegulateBlock f)) y) := by
  obtain ⟨h0, h1⟩ := h
  intro y hy
  match y, hy with
  | 0, _ => exact iK_wk h0
  | 1, _ => exact iK_wk h1
  | y + 2, hy => omega
theorem e_TRegulateBlock_0 (l : List TRegulateBlock) (x : Nat) : enR c_TRegulateBlock l x 0 = .int .i64 ((gd l x).Channel) := rfl
theorem e_TRegulateBlock_1 (l : List TRegulateBlock) (x : Nat) : enR c_TRegulateBlock l x 1 = .int .i64 ((gd l x).Until) := rfl
theorem fit_TRegulateBlock (n : Nat) (l : List TRegulateBlock) : Fit k_TRegulateBlock n (enR c_TRegulateBlock l) = True := eq_true (Fit_enR kc_TRegulateBlock)
theorem de_TRegulateBlock (l : List TRegulateBlock) : deR g_TRegulateBlock l.length (enR c_TRegulateBlock l) = l := deR_enR gc_TRegulateBlock l
theorem eta_TRegulateBlock (a : TRegulateBlock) : TRegulateBlock.mk a.Channel a.Until = a := rfl
theorem wA_TRegulateBlock {v : AV} (h : aK 2 k_TRegulateBlock v) : WkV (.agg (c_TRegulateBlock (g_TRegulateBlock (aL v)))) v /\ nref (.agg (c_TRegulateBlock (g_TRegulateBlock (aL v)))) := aK_wk (f := c_TRegulateBlock) (g := g_TRegulateBlock) (fun r h => w_TRegulateBlock h) rfl (by simp only [c_TRegulateBlock, nrefL, nref, and_self]) h
def c_lTRegulateBlock (a : List TRegulateBlock) : List AV := [.ro 2 a.length false (enR c_TRegulateBlock a)]
def g_lTRegulateBlock (f : Nat -> AV) : List TRegulateBlock := lA g_TRegulateBlock (f 0)
def k_lTRegulateBlock (f : Nat -> AV) : Prop := lK k_TRegulateBlock 2 (f 0)
theorem gc_lTRegulateBlock (a : List TRegulateBlock) : g_lTRegulateBlock (getL (c_lTRegulateBlock a)) = a := by
  simp only [g_lTRegulateBlock, c_lTRegulateBlock, getL, iA, bA, sA, lA, deR_enR gc_TRegulateBlock]
theorem kc_lTRegulateBlock (a : List TRegulateBlock) : k_lTRegulateBlock (getL (c_lTRegulateBlock a)) := by
  simp only [k_lTRegulateBlock, c_lTRegulateBlock, getL, iK, bK, sK, lK, or_true, true_and, and_true, and_self, Fit_enR kc_TRegulateBlock]
theorem nr_lTRegulateBlock (a : List TRegulateBlock) : nrefL (c_lTRegulateBlock a) := by simp only [c_lTRegulateBlock, nrefL, nref, and_self]
instance : NRf c_lTRegulateBlock := ⟨nr_lTRegulateBlock⟩
instance : KCf k_lTRegulateBlock c_lTRegulateBlock := ⟨kc_lTRegulateBlock⟩
theorem e_lTRegulateBlock_0 (l : List (List TRegulateBlock)) (x : Nat) : enR c_lTRegulateBlock l x 0 = .ro 2 (gd l x).length false (enR c_TRegulateBlock (gd l x)) := rfl
theorem fit_lTRegulateBlock (n : Nat) (l : List (List TRegulateBlock)) : Fit k_lTRegulateBlock n (enR c_lTRegulateBlock l) = True := eq_true (Fit_enR kc_lTRegulateBlock)
theorem de_lTRegulateBlock (l : List (List TRegulateBlock)) : deR g_lTRegulateBlock l.length (enR c_lTRegulateBlock l) = l := deR_enR gc_lTRegulateBlock l
def c_li64 (a : List Int) : List AV := [.ro 1 a.length false (enR c_i64 a)]
def g_li64 (f : Nat -> AV) : List Int := lA g_i64 (f 0)
def k_li64 (f : Nat -> AV) : Prop := lK k_i64 1 (f 0)
theorem gc_li64 (a : List Int) : g_li64 (getL (c_li64 a)) = a := by
  simp only [g_li64, c_li64, getL, iA, bA, sA, lA, deR_enR gc_i64]
theorem kc_li64 (a : List Int) : k_li64 (getL (c_li64 a)) := by
  simp only [k_li64, c_li64, getL, iK, bK, sK, lK, or_true, true_and, and_true, and_self, Fit_enR kc_i64]
theorem nr_li64 (a : List Int) : nrefL (c_li64 a) := by simp only [c_li64, nrefL, nref, and_self]
instance : NRf c_li64 := ⟨nr_li64⟩
instance : KCf k_li64 c_li64 := ⟨kc_li64⟩
theorem e_li64_0 (l : List (List Int)) (x : Nat) : enR c_li64 l x 0 = .ro 1 (gd l x).length false (enR c_i64 (gd l x)) := rfl
theorem fit_li64 (n : Nat) (l : List (List Int)) : Fit k_li64 n (enR c_li64 l) = True := eq_true (Fit_enR kc_li64)
theorem de_li64 (l : List (List Int)) : deR g_li64 l.length (enR c_li64 l) = l := deR_enR gc_li64 l
structure TRegulate where
  Table : _root_.List TRegulateChannel
  Channel : Int
  Lead : Bool
  Heard : Int
  Stopped : Bool
  Moving : Bool
  To : Int
  At : Int
  Blocked : _root_.List TRegulateBlock
  Clear : _root_.List Int
  deriving Inhabited
def c_TRegulate (a : TRegulate) : List AV := [.ro 3 a.Table.length false (enR c_TRegulateChannel a.Table), .int .i64 a.Channel, .bool a.Lead, .int .i64 a.Heard, .bool a.Stopped, .bool a.Moving, .int .i64 a.To, .int .i64 a.At, .ro 2 a.Blocked.length false (enR c_TRegulateBlock a.Blocked), .ro 1 a.Clear.length false (enR c_i64 a.Clear)]
def g_TRegulate (f : Nat -> AV) : TRegulate := ⟨lA g_TRegulateChannel (f 0), iA (f 1), bA (f 2), iA (f 3), bA (f 4), bA (f 5), iA (f 6), iA (f 7), lA g_TRegulateBlock (f 8), lA g_i64 (f 9)⟩
def k_TRegulate (f : Nat -> AV) : Prop := lK k_TRegulateChannel 3 (f 0) /\ iK .i64 (f 1) /\ bK (f 2) /\ iK .i64 (f 3) /\ bK (f 4) /\ bK (f 5) /\ iK .i64 (f 6) /\ iK .i64 (f 7) /\ lK k_TRegulateBlock 2 (f 8) /\ lK k_i64 1 (f 9)
theorem gc_TRegulate (a : TRegulate) : g_TRegulate (getL (c_TRegulate a)) = a := by
  simp only [g_TRegulate, c_TRegulate, getL, iA, bA, sA, lA, deR_enR gc_TRegulateBlock, deR_enR gc_TRegulateChannel, deR_enR gc_i64]
theorem kc_TRegulate (a : TRegulate) : k_TRegulate (getL (c_TRegulate a)) := by
  simp only [k_TRegulate, c_TRegulate, getL, iK, bK, sK, lK, or_true, true_and, and_true, and_self, Fit_enR kc_TRegulateBlock, Fit_enR kc_TRegulateChannel, Fit_enR kc_i64]
theorem nr_TRegulate (a : TRegulate) : nrefL (c_TRegulate a) := by simp only [c_TRegulate, nrefL, nref, and_self]
instance : NRf c_TRegulate := ⟨nr_TRegulate⟩
instance : KCf k_TRegulate c_TRegulate := ⟨kc_TRegulate⟩
theorem w_TRegulate {f : Nat -> AV} (h : k_TRegulate f) : ∀ y, y < 10 -> WkV (getL (c_TRegulate (g_TRegulate f)) y) (f y) /\ nref (getL (c_TRegulate (g_TRegulate f)) y) := by
  obtain ⟨h0, h1, h2, h3, h4, h5, h6, h7, h8, h9⟩ := h
  intro y hy
  match y, hy with
  | 0, _ => exact lK_wk (fun r h => w_TRegulateChannel h) h0
  | 1, _ => exact iK_wk h1
  | 2, _ => exact bK_wk h2
  | 3, _ => exact iK_wk h3
  | 4, _ => exact bK_wk h4
  | 5, _ => exact bK_wk h5
  | 6, _ => exact iK_wk h6
  | 7, _ => exact iK_wk h7
  | 8, _ => exact lK_wk (fun r h => w_TRegulateBlock h) h8
  | 9, _ => exact lK_wk (fun r h => w_i64 h) h9
  | y + 10, hy => omega
theorem e_TRegulate_0 (l : List TRegulate) (x : Nat) : enR c_TRegulate l x 0 = .ro 3 ((gd l x).Table).length false (enR c_TRegulateChannel ((gd l x).Table)) := rfl
theorem e_TRegulate_1 (l : List TRegulate) (x : Nat) : enR c_TRegulate l x 1 = .int .i64 ((gd l x).Channel) := rfl
theorem e_TRegulate_2 (l : List TRegulate) (x : Nat) : enR c_TRegulate l x 2 = .bool ((gd l x).Lead) := rfl
theorem e_TRegulate_3 (l : List TRegulate) (x : Nat) : enR c_TRegulate l x 3 = .int .i64 ((gd l x).Heard) := rfl
theorem e_TRegulate_4 (l : List TRegulate) (x : Nat) : enR c_TRegulate l x 4 = .bool ((gd l x).Stopped) := rfl
theorem e_TRegulate_5 (l : List TRegulate) (x : Nat) : enR c_TRegulate l x 5 = .bool ((gd l x).Moving) := rfl
theorem e_TRegulate_6 (l : List TRegulate) (x : Nat) : enR c_TRegulate l x 6 = .int .i64 ((gd l x).To) := rfl
theorem e_TRegulate_7 (l : List TRegulate) (x : Nat) : enR c_TRegulate l x 7 = .int .i64 ((gd l x).At) := rfl
theorem e_TRegulate_8 (l : List TRegulate) (x : Nat) : enR c_TRegulate l x 8 = .ro 2 ((gd l x).Blocked).length false (enR c_TRegulateBlock ((gd l x).Blocked)) := rfl
theorem e_TRegulate_9 (l : List TRegulate) (x : Nat) : enR c_TRegulate l x 9 = .ro 1 ((gd l x).Clear).length false (enR c_i64 ((gd l x).Clear)) := rfl
theorem fit_TRegulate (n : Nat) (l : List TRegulate) : Fit k_TRegulate n (enR c_TRegulate l) = True := eq_true (Fit_enR kc_TRegulate)
theorem de_TRegulate (l : List TRegulate) : deR g_TRegulate l.length (enR c_TRegulate l) = l := deR_enR gc_TRegulate l
theorem eta_TRegulate (a : TRegulate) : TRegulate.mk a.Table a.Channel a.Lead a.Heard a.Stopped a.Moving a.To a.At a.Blocked a.Clear = a := rfl
theorem wA_TRegulate {v : AV} (h : aK 10 k_TRegulate v) : WkV (.agg (c_TRegulate (g_TRegulate (aL v)))) v /\ nref (.agg (c_TRegulate (g_TRegulate (aL v)))) := aK_wk (f := c_TRegulate) (g := g_TRegulate) (fun r h => w_TRegulate h) rfl (by simp only [c_TRegulate, nrefL, nref, and_self]) h
def c_lTRegulateWord (a : List TRegulateWord) : List AV := [.ro 4 a.length false (enR c_TRegulateWord a)]
def g_lTRegulateWord (f : Nat -> AV) : List TRegulateWord := lA g_TRegulateWord (f 0)
def k_lTRegulateWord (f : Nat -> AV) : Prop := lK k_TRegulateWord 4 (f 0)
theorem gc_lTRegulateWord (a : List TRegulateWord) : g_lTRegulateWord (getL (c_lTRegulateWord a)) = a := by
  simp only [g_lTRegulateWord, c_lTRegulateWord, getL, iA, bA, sA, lA, deR_enR gc_TRegulateWord]
theorem kc_lTRegulateWord (a : List TRegulateWord) : k_lTRegulateWord (getL (c_lTRegulateWord a)) := by
  simp only [k_lTRegulateWord, c_lTRegulateWord, getL, iK, bK, sK, lK, or_true, true_and, and_true, and_self, Fit_enR kc_TRegulateWord]
theorem nr_lTRegulateWord (a : List TRegulateWord) : nrefL (c_lTRegulateWord a) := by simp only [c_lTRegulateWord, nrefL, nref, and_self]
instance : NRf c_lTRegulateWord := ⟨nr_lTRegulateWord⟩
instance : KCf k_lTRegulateWord c_lTRegulateWord := ⟨kc_lTRegulateWord⟩
theorem e_lTRegulateWord_0 (l : List (List TRegulateWord)) (x : Nat) : enR c_lTRegulateWord l x 0 = .ro 4 (gd l x).length false (enR c_TRegulateWord (gd l x)) := rfl
theorem fit_lTRegulateWord (n : Nat) (l : List (List TRegulateWord)) : Fit k_lTRegulateWord n (enR c_lTRegulateWord l) = True := eq_true (Fit_enR kc_lTRegulateWord)
theorem de_lTRegulateWord (l : List (List TRegulateWord)) : deR g_lTRegulateWord l.length (enR c_lTRegulateWord l) = l := deR_enR gc_lTRegulateWord l
structure TEvent where
  Kind : Int
  Wait : Int
  Who : Int
  Pick : Int
  deriving Inhabited
def c_TEvent (a : TEvent) : List AV := [.int .u8 a.Kind, .int .i64 a.Wait, .int .i64 a.Who, .int .i64 a.Pick]
def g_TEvent (f : Nat -> AV) : TEvent := ⟨iA (f 0), iA (f 1), iA (f 2), iA (f 3)⟩
def k_TEvent (f : Nat -> AV) : Prop := iK .u8 (f 0) /\ iK .i64 (f 1) /\ iK .i64 (f 2) /\ iK .i64 (f 3)
theorem gc_TEvent (a : TEvent) : g_TEvent (getL (c_TEvent a)) = a := by
  simp only [g_TEvent, c_TEvent, getL, iA, bA, sA, lA]
theorem kc_TEvent (a : TEvent) : k_TEvent (getL (c_TEvent a)) := by
  simp only [k_TEvent, c_TEvent, getL, iK, bK, sK, lK, or_true, true_and, and_true, and_self]
theorem nr_TEvent (a : TEvent) : nrefL (c_TEvent a) := by simp only [c_TEvent, nrefL, nref, and_self]
instance : NOf c_TEvent := ⟨fun a => by simp only [c_TEvent, noroL, noro, and_self]⟩
instance : NRf c_TEvent := ⟨nr_TEvent⟩
instance : KCf k_TEvent c_TEvent := ⟨kc_TEvent⟩
theorem w_TEvent {f : Nat -> AV} (h : k_TEvent f) : ∀ y, y < 4 -> WkV (getL (c_TEvent (g_TEvent f)) y) (f y) /\ nref (getL (c_TEvent (g_TEvent f)) y) := by
  obtain ⟨h0, h1, h2, h3⟩ := h
  intro y hy
  match y, hy with
  | 0, _ => exact iK_wk h0
  | 1, _ => exact iK_wk h1
  | 2, _ => exact iK_wk h2
  | 3, _ => exact iK_wk h3
  | y + 4, hy => omega
theorem e_TEvent_0 (l : List TEvent) (x : Nat) : enR c_TEvent l x 0 = .int .u8 ((gd l x).Kind) := rfl
theorem e_TEvent_1 (l : List TEvent) (x : Nat) : enR c_TEvent l x 1 = .int .i64 ((gd l x).Wait) := rfl
theorem e_TEvent_2 (l : List TEvent) (x : Nat) : enR c_TEvent l x 2 = .int .i64 ((gd l x).Who) := rfl
theorem e_TEvent_3 (l : List TEvent) (x : Nat) : enR c_TEvent l x 3 = .int .i64 ((gd l x).Pick) := rfl
theorem fit_TEvent (n : Nat) (l : List TEvent) : Fit k_TEvent n (enR c_TEvent l) = True := eq_true (Fit_enR kc_TEvent)
theorem de_TEvent (l : List TEvent) : deR g_TEvent l.length (enR c_TEvent l) = l := deR_enR gc_TEvent l
theorem eta_TEvent (a : TEvent) : TEvent.mk a.Kind a.Wait a.Who a.Pick = a := rfl
def c_lTEvent (a : List TEvent) : List AV := [.ro 4 a.length false (enR c_TEvent a)]
def g_lTEvent (f : Nat -> AV) : List TEvent := lA g_TEvent (f 0)
def k_lTEvent (f : Nat -> AV) : Prop := lK k_TEvent 4 (f 0)
theorem gc_lTEvent (a : List TEvent) : g_lTEvent (getL (c_lTEvent a)) = a := by
  simp only [g_lTEvent, c_lTEvent, getL, iA, bA, sA, lA, deR_enR gc_TEvent]
theorem kc_lTEvent (a : List TEvent) : k_lTEvent (getL (c_lTEvent a)) := by
  simp only [k_lTEvent, c_lTEvent, getL, iK, bK, sK, lK, or_true, true_and, and_true, and_self, Fit_enR kc_TEvent]
theorem nr_lTEvent (a : List TEvent) : nrefL (c_lTEvent a) := by simp only [c_lTEvent, nrefL, nref, and_self]
instance : NRf c_lTEvent := ⟨nr_lTEvent⟩
instance : KCf k_lTEvent c_lTEvent := ⟨kc_lTEvent⟩
theorem e_lTEvent_0 (l : List (List TEvent)) (x : Nat) : enR c_lTEvent l x 0 = .ro 4 (gd l x).length false (enR c_TEvent (gd l x)) := rfl
theorem fit_lTEvent (n : Nat) (l : List (List TEvent)) : Fit k_lTEvent n (enR c_lTEvent l) = True := eq_true (Fit_enR kc_lTEvent)
theorem de_lTEvent (l : List (List TEvent)) : deR g_lTEvent l.length (enR c_lTEvent l) = l := deR_enR gc_lTEvent l
def c_lTRegulate (a : List TRegulate) : List AV := [.ro 10 a.length false (enR c_TRegulate a)]
def g_lTRegulate (f : Nat -> AV) : List TRegulate := lA g_TRegulate (f 0)
def k_lTRegulate (f : Nat -> AV) : Prop := lK k_TRegulate 10 (f 0)
theorem gc_lTRegulate (a : List TRegulate) : g_lTRegulate (getL (c_lTRegulate a)) = a := by
  simp only [g_lTRegulate, c_lTRegulate, getL, iA, bA, sA, lA, deR_enR gc_TRegulate]
theorem kc_lTRegulate (a : List TRegulate) : k_lTRegulate (getL (c_lTRegulate a)) := by
  simp only [k_lTRegulate, c_lTRegulate, getL, iK, bK, sK, lK, or_true, true_and, and_true, and_self, Fit_enR kc_TRegulate]
theorem nr_lTRegulate (a : List TRegulate) : nrefL (c_lTRegulate a) := by simp only [c_lTRegulate, nrefL, nref, and_self]
instance : NRf c_lTRegulate := ⟨nr_lTRegulate⟩
instance : KCf k_lTRegulate c_lTRegulate := ⟨kc_lTRegulate⟩
theorem e_lTRegulate_0 (l : List (List TRegulate)) (x : Nat) : enR c_lTRegulate l x 0 = .ro 10 (gd l x).length false (enR c_TRegulate (gd l x)) := rfl
theorem fit_lTRegulate (n : Nat) (l : List (List TRegulate)) : Fit k_lTRegulate n (enR c_lTRegulate l) = True := eq_true (Fit_enR kc_lTRegulate)
theorem de_lTRegulate (l : List (List TRegulate)) : deR g_lTRegulate l.length (enR c_lTRegulate l) = l := deR_enR gc_lTRegulate l
def c_u64 (a : Int) : List AV := [.int .u64 a]
def g_u64 (f : Nat -> AV) : Int := iA (f 0)
def k_u64 (f : Nat -> AV) : Prop := iK .u64 (f 0)
theorem gc_u64 (a : Int) : g_u64 (getL (c_u64 a)) = a := by
  simp only [g_u64, c_u64, getL, iA, bA, sA, lA]
theorem kc_u64 (a : Int) : k_u64 (getL (c_u64 a)) := by
  simp only [k_u64, c_u64, getL, iK, bK, sK, lK, or_true, true_and, and_true, and_self]
theorem nr_u64 (a : Int) : nrefL (c_u64 a) := by simp only [c_u64, nrefL, nref, and_self]
instance : NOf c_u64 := ⟨fun a => by simp only [c_u64, noroL, noro, and_self]⟩
instance : NRf c_u64 := ⟨nr_u64⟩
instance : KCf k_u64 c_u64 := ⟨kc_u64⟩
theorem e_u64_0 (l : List Int) (x : Nat) : enR c_u64 l x 0 = .int .u64 (gd l x) := rfl
theorem fit_u64 (n : Nat) (l : List Int) : Fit k_u64 n (enR c_u64 l) = True := eq_true (Fit_enR kc_u64)
theorem de_u64 (l : List Int) : deR g_u64 l.length (enR c_u64 l) = l := deR_enR gc_u64 l
structure TReader where
  Data : _root_.List Int
  At : Int
  deriving Inhabited
def c_TReader (a : TReader) : List AV := [.ro 1 a.Data.length false (enR c_u8 a.Data), .int .i64 a.At]
def g_TReader (f : Nat -> AV) : TReader := ⟨lA g_u8 (f 0), iA (f 1)⟩
def k_TReader (f : Nat -> AV) : Prop := lK k_u8 1 (f 0) /\ iK .i64 (f 1)
theorem gc_TReader (a : TReader) : g_TReader (getL (c_TReader a)) = a := by
  simp only [g_TReader, c_TReader, getL, iA, bA, sA, lA, deR_enR gc_u8]
theorem kc_TReader (a : TReader) : k_TReader (getL (c_TReader a)) := by
  simp only [k_TReader, c_TReader, getL, iK, bK, sK, lK, or_true, true_and, and_true, and_self, Fit_enR kc_u8]
theorem nr_TReader (a : TReader) : nrefL (c_TReader a) := by simp only [c_TReader, nrefL, nref, and_self]
instance : NRf c_TReader := ⟨nr_TReader⟩
instance : KCf k_TReader c_TReader := ⟨kc_TReader⟩
theorem e_TReader_0 (l : List TReader) (x : Nat) : enR c_TReader l x 0 = .ro 1 ((gd l x).Data).length false (enR c_u8 ((gd l x).Data)) := rfl
theorem e_TReader_1 (l : List TReader) (x : Nat) : enR c_TReader l x 1 = .int .i64 ((gd l x).At) := rfl
theorem fit_TReader (n : Nat) (l : List TReader) : Fit k_TReader n (enR c_TReader l) = True := eq_true (Fit_enR kc_TReader)
theorem de_TReader (l : List TReader) : deR g_TReader l.length (enR c_TReader l) = l := deR_enR gc_TReader l
theorem eta_TReader (a : TReader) : TReader.mk a.Data a.At = a := rfl
def shT (t : TypeId) : Option (List Leaf) := if t = 23 then some [.i .u8, .i .i64, .i .i64, .i .i64] else if t = 45 then some [.i .i64, .i .i64, .b] else if t = 79 then some [.i .i64, .i .i64] else if t = 139 then some [.i .u8, .i .i64, .i .i64, .i .i64] else none
theorem shT_ok : ShOk Try.prog shT := by
  refine shOk_of fun t l h => ?_
  unfold shT at h
  split at h
  · rename_i ht; subst ht; injection h with h; subst h; exact ⟨by kernel_rfl, by kernel_rfl, by kernel_rfl⟩
  split at h
  · rename_i ht; subst ht; injection h with h; subst h; exact ⟨by kernel_rfl, by kernel_rfl, by kernel_rfl⟩
  split at h
  · rename_i ht; subst ht; injection h with h; subst h; exact ⟨by kernel_rfl, by kernel_rfl, by kernel_rfl⟩
  split at h
  · rename_i ht; subst ht; injection h with h; subst h; exact ⟨by kernel_rfl, by kernel_rfl, by kernel_rfl⟩
  cases h
theorem shT_23 : shT 23 = some [.i .u8, .i .i64, .i .i64, .i .i64] := rfl
theorem shT_45 : shT 45 = some [.i .i64, .i .i64, .b] := rfl
theorem shT_79 : shT 79 = some [.i .i64, .i .i64] := rfl
theorem shT_139 : shT 139 = some [.i .u8, .i .i64, .i .i64, .i .i64] := rfl
theorem Fit_app {k : (Nat -> AV) -> Prop} {n p : Nat} {c d : Nat -> Nat -> AV} (h1 : Fit k p c) (h2 : Fit k (n - p) d) : Fit k n (appC p c d) := fun x hx => by
  by_cases h : x < p
  · rw [show appC p c d x = c x from funext fun y => if_pos h]; exact h1 x h
  · rw [show appC p c d x = d (x - p) from funext fun y => if_neg h]; exact h2 _ (by omega)
def ctNo : Ct := tab []
theorem ctNo_ok : CtOk Try.prog ctNo := tab_nil
theorem strE_u8 (s : ByteArray) : strE s = enR c_u8 (bytesL s) := strE_en (fun _ => rfl) s
theorem rg {ct : Ct} (C : CtOk Try.prog ct) {a : Code} {K : Kt} {t : List AV} {h : List ABlk} (hw : wpC Try.prog shT ct a K t h) : Mean Try.prog a K t h := wpC_sound shT_ok C a K t h hw
theorem sq {ct : Ct} (C : CtOk Try.prog ct) {a b : Code} {K : Kt} {t : List AV} {h : List ABlk} (hw : wpC Try.prog shT ct a (kM Try.prog b K) t h) : Mean Try.prog (.seq a b) K t h := seqM (wpC_sound shT_ok C a _ t h hw)
end Go.Proofs.Ytjhkehdbjnhplaa
