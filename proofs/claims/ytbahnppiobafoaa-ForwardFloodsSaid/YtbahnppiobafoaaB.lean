/-
  Go's values as typed values.
-/
import Derived.Test.YtbahnppiobafoaaT
import Derived.Test.YtbahnppiobafoaaPm10
namespace Go.Proofs.Ytbahnppiobafoaa
open Go.Am
set_option linter.unusedVariables false
set_option linter.unusedSimpArgs false
def c_u8 (a : Int) : List AV := [.int .u8 a]
def g_u8 (f : Nat -> AV) : Int := iA (f 0)
def k_u8 (f : Nat -> AV) : Prop := iK .u8 (f 0)
theorem gc_u8 (a : Int) : g_u8 (getL (c_u8 a)) = a := by
  simp only [g_u8, c_u8, getL, iA, bA, sA, lA]
theorem kc_u8 (a : Int) : k_u8 (getL (c_u8 a)) := by
  simp only [k_u8, c_u8, getL, iK, bK, sK, lK, or_true, true_and, and_true, and_self]
theorem nr_u8 (a : Int) : nrefL (c_u8 a) := by simp only [c_u8, nrefL, nref, and_self]
instance : NOf c_u8 := ⟨fun a => by simp only [c_u8, noroL, noro, and_self]⟩
instance : NRf c_u8 := ⟨nr_u8⟩
instance : KCf k_u8 c_u8 := ⟨kc_u8⟩
theorem w_u8 {f : Nat -> AV} (h : k_u8 f) : ∀ y, y < 1 -> WkV (getL (c_u8 (g_u8 f)) y) (f y) /\ nref (getL (c_u8 (g_u8 f)) y) := by
  have h0 := h
  intro y hy
  match y, hy with
  | 0, _ => exact iK_wk h0
  | y + 1, hy => omega
theorem e_u8_0 (l : List Int) (x : Nat) : enR c_u8 l x 0 = .int .u8 (gd l x) := rfl
theorem fit_u8 (n : Nat) (l : List Int) : Fit k_u8 n (enR c_u8 l) = True := eq_true (Fit_enR kc_u8)
theorem de_u8 (l : List Int) : deR g_u8 l.length (enR c_u8 l) = l := deR_enR gc_u8 l
def c_i64 (a : Int) : List AV := [.int .i64 a]
def g_i64 (f : Nat -> AV) : Int := iA (f 0)
def k_i64 (f : Nat -> AV) : Prop := iK .i64 (f 0)
theorem gc_i64 (a : Int) : g_i64 (getL (c_i64 a)) = a := by
  simp only [g_i64, c_i64, getL, iA, bA, sA, lA]
theorem kc_i64 (a : Int) : k_i64 (getL (c_i64 a)) := by
  simp only [k_i64, c_i64, getL, iK, bK, sK, lK, or_true, true_and, and_true, and_self]
theorem nr_i64 (a : Int) : nrefL (c_i64 a) := by simp only [c_i64, nrefL, nref, and_self]
instance : NOf c_i64 := ⟨fun a => by simp only [c_i64, noroL, noro, and_self]⟩
instance : NRf c_i64 := ⟨nr_i64⟩
instance : KCf k_i64 c_i64 := ⟨kc_i64⟩
theorem w_i64 {f : Nat -> AV} (h : k_i64 f) : ∀ y, y < 1 -> WkV (getL (c_i64 (g_i64 f)) y) (f y) /\ nref (getL (c_i64 (g_i64 f)) y) := by
  have h0 := h
  intro y hy
  match y, hy with
  | 0, _ => exact iK_wk h0
  | y + 1, hy => omega
theorem e_i64_0 (l : List Int) (x : Nat) : enR c_i64 l x 0 = .int .i64 (gd l x) := rfl
theorem fit_i64 (n : Nat) (l : List Int) : Fit k_i64 n (enR c_i64 l) = True := eq_true (Fit_enR kc_i64)
theorem de_i64 (l : List Int) : deR g_i64 l.length (enR c_i64 l) = l := deR_enR gc_i64 l
def c_b (a : Bool) : List AV := [.bool a]
def g_b (f : Nat -> AV) : Bool := bA (f 0)
def k_b (f : Nat -> AV) : Prop := bK (f 0)
theorem gc_b (a : Bool) : g_b (getL (c_b a)) = a := by
  simp only [g_b, c_b, getL, iA, bA, sA, lA]
theorem kc_b (a : Bool) : k_b (getL (c_b a)) := by
  simp only [k_b, c_b, getL, iK, bK, sK, lK, or_true, true_and, and_true, and_self]
theorem nr_b (a : Bool) : nrefL (c_b a) := by simp only [c_b, nrefL, nref, and_self]
instance : NOf c_b := ⟨fun a => by simp only [c_b, noroL, noro, and_self]⟩
instance : NRf c_b := ⟨nr_b⟩
instance : KCf k_b c_b := ⟨kc_b⟩
theorem w_b {f : Nat -> AV} (h : k_b f) : ∀ y, y < 1 -> WkV (getL (c_b (g_b f)) y) (f y) /\ nref (getL (c_b (g_b f)) y) := by
  have h0 := h
  intro y hy
  match y, hy with
  | 0, _ => exact bK_wk h0
  | y + 1, hy => omega
theorem e_b_0 (l : List Bool) (x : Nat) : enR c_b l x 0 = .bool (gd l x) := rfl
theorem fit_b (n : Nat) (l : List Bool) : Fit k_b n (enR c_b l) = True := eq_true (Fit_enR kc_b)
theorem de_b (l : List Bool) : deR g_b l.length (enR c_b l) = l := deR_enR gc_b l
def c_s (a : ByteArray) : List AV := [.str a]
def g_s (f : Nat -> AV) : ByteArray := sA (f 0)
def k_s (f : Nat -> AV) : Prop := sK (f 0)
theorem gc_s (a : ByteArray) : g_s (getL (c_s a)) = a := by
  simp only [g_s, c_s, getL, iA, bA, sA, lA]
theorem kc_s (a : ByteArray) : k_s (getL (c_s a)) := by
  simp only [k_s, c_s, getL, iK, bK, sK, lK, or_true, true_and, and_true, and_self]
theorem nr_s (a : ByteArray) : nrefL (c_s a) := by simp only [c_s, nrefL, nref, and_self]
instance : NOf c_s := ⟨fun a => by simp only [c_s, noroL, noro, and_self]⟩
instance : NRf c_s := ⟨nr_s⟩
instance : KCf k_s c_s := ⟨kc_s⟩
theorem w_s {f : Nat -> AV} (h : k_s f) : ∀ y, y < 1 -> WkV (getL (c_s (g_s f)) y) (f y) /\ nref (getL (c_s (g_s f)) y) := by
  have h0 := h
  intro y hy
  match y, hy with
  | 0, _ => exact sK_wk h0
  | y + 1, hy => omega
theorem e_s_0 (l : List ByteArray) (x : Nat) : enR c_s l x 0 = .str (gd l x) := rfl
theorem fit_s (n : Nat) (l : List ByteArray) : Fit k_s n (enR c_s l) = True := eq_true (Fit_enR kc_s)
theorem de_s (l : List ByteArray) : deR g_s l.length (enR c_s l) = l := deR_enR gc_s l
structure A6u8 where
  x0 : Int
  x1 : Int
  x2 : Int
  x3 : Int
  x4 : Int
  x5 : Int
  deriving Inhabited
def c_A6u8 (a : A6u8) : List AV := [.int .u8 a.x0, .int .u8 a.x1, .int .u8 a.x2, .int .u8 a.x3, .int .u8 a.x4, .int .u8 a.x5]
def g_A6u8 (f : Nat -> AV) : A6u8 := ⟨iA (f 0), iA (f 1), iA (f 2), iA (f 3), iA (f 4), iA (f 5)⟩
def k_A6u8 (f : Nat -> AV) : Prop := iK .u8 (f 0) /\ iK .u8 (f 1) /\ iK .u8 (f 2) /\ iK .u8 (f 3) /\ iK .u8 (f 4) /\ iK .u8 (f 5)
theorem gc_A6u8 (a : A6u8) : g_A6u8 (getL (c_A6u8 a)) = a := by
  simp only [g_A6u8, c_A6u8, getL, iA, bA, sA, lA]
theorem kc_A6u8 (a : A6u8) : k_A6u8 (getL (c_A6u8 a)) := by
  simp only [k_A6u8, c_A6u8, getL, iK, bK, sK, lK, or_true, true_and, and_true, and_self]
theorem nr_A6u8 (a : A6u8) : nrefL (c_A6u8 a) := by simp only [c_A6u8, nrefL, nref, and_self]
instance : NOf c_A6u8 := ⟨fun a => by simp only [c_A6u8, noroL, noro, and_self]⟩
instance : NRf c_A6u8 := ⟨nr_A6u8⟩
instance : KCf k_A6u8 c_A6u8 := ⟨kc_A6u8⟩
theorem w_A6u8 {f : Nat -> AV} (h : k_A6u8 f) : ∀ y, y < 6 -> WkV (getL (c_A6u8 (g_A6u8 f)) y) (f y) /\ nref (getL (c_A6u8 (g_A6u8 f)) y) := by
  obtain ⟨h0, h1, h2, h3, h4, h5⟩ := h
  intro y hy
  match y, hy with
  | 0, _ => exact iK_wk h0
  | 1, _ => exact iK_wk h1
  | 2, _ => exact iK_wk h2
  | 3, _ => exact iK_wk h3
  | 4, _ => exact iK_wk h4
  | 5, _ => exact iK_wk h5
  | y + 6, hy => omega
theorem e_A6u8_0 (l : List A6u8) (x : Nat) : enR c_A6u8 l x 0 = .int .u8 ((gd l x).x0) := rfl
theorem e_A6u8_1 (l : List A6u8) (x : Nat) : enR c_A6u8 l x 1 = .int .u8 ((gd l x).x1) := rfl
theorem e_A6u8_2 (l : List A6u8) (x : Nat) : enR c_A6u8 l x 2 = .int .u8 ((gd l x).x2) := rfl
theorem e_A6u8_3 (l : List A6u8) (x : Nat) : enR c_A6u8 l x 3 = .int .u8 ((gd l x).x3) := rfl
theorem e_A6u8_4 (l : List A6u8) (x : Nat) : enR c_A6u8 l x 4 = .int .u8 ((gd l x).x4) := rfl
theorem e_A6u8_5 (l : List A6u8) (x : Nat) : enR c_A6u8 l x 5 = .int .u8 ((gd l x).x5) := rfl
theorem fit_A6u8 (n : Nat) (l : List A6u8) : Fit k_A6u8 n (enR c_A6u8 l) = True := eq_true (Fit_enR kc_A6u8)
theorem de_A6u8 (l : List A6u8) : deR g_A6u8 l.length (enR c_A6u8 l) = l := deR_enR gc_A6u8 l
theorem eta_A6u8 (a : A6u8) : A6u8.mk a.x0 a.x1 a.x2 a.x3 a.x4 a.x5 = a := rfl
theorem wA_A6u8 {v : AV} (h : aK 6 k_A6u8 v) : WkV (.agg (c_A6u8 (g_A6u8 (aL v)))) v /\ nref (.agg (c_A6u8 (g_A6u8 (aL v)))) := aK_wk (f := c_A6u8) (g := g_A6u8) (fun r h => w_A6u8 h) rfl (by simp only [c_A6u8, nrefL, nref, and_self]) h
def c_lu8 (a : List Int) : List AV := [.ro 1 a.length false (enR c_u8 a)]
def g_lu8 (f : Nat -> AV) : List Int := lA g_u8 (f 0)
def k_lu8 (f : Nat -> AV) : Prop := lK k_u8 1 (f 0)
theorem gc_lu8 (a : List Int) : g_lu8 (getL (c_lu8 a)) = a := by
  simp only [g_lu8, c_lu8, getL, iA, bA, sA, lA, deR_enR gc_u8]
theorem kc_lu8 (a : List Int) : k_lu8 (getL (c_lu8 a)) := by
  simp only [k_lu8, c_lu8, getL, iK, bK, sK, lK, or_true, true_and, and_true, and_self, Fit_enR kc_u8]
theorem nr_lu8 (a : List Int) : nrefL (c_lu8 a) := by simp only [c_lu8, nrefL, nref, and_self]
instance : NRf c_lu8 := ⟨nr_lu8⟩
instance : KCf k_lu8 c_lu8 := ⟨kc_lu8⟩
theorem w_lu8 {f : Nat -> AV} (h : k_lu8 f) : ∀ y, y < 1 -> WkV (getL (c_lu8 (g_lu8 f)) y) (f y) /\ nref (getL (c_lu8 (g_lu8 f)) y) := by
  have h0 := h
  intro y hy
  match y, hy with
  | 0, _ => exact lK_wk (fun r h => w_u8 h) h0
  | y + 1, hy => omega
theorem e_lu8_0 (l : List (List Int)) (x : Nat) : enR c_lu8 l x 0 = .ro 1 (gd l x).length false (enR c_u8 (gd l x)) := rfl
theorem fit_lu8 (n : Nat) (l : List (List Int)) : Fit k_lu8 n (enR c_lu8 l) = True := eq_true (Fit_enR kc_lu8)
theorem de_lu8 (l : List (List Int)) : deR g_lu8 l.length (enR c_lu8 l) = l := deR_enR gc_lu8 l
structure TMeshFrame where
  From : A6u8
  To : A6u8
  Enter : A6u8
  Leave : A6u8
  Source : A6u8
  Target : A6u8
  Seq : Int
  Ttl : Int
  Data : _root_.List Int
  deriving Inhabited
def c_TMeshFrame (a : TMeshFrame) : List AV := (.int .u8 a.From.x0 :: .int .u8 a.From.x1 :: .int .u8 a.From.x2 :: .int .u8 a.From.x3 :: .int .u8 a.From.x4 :: .int .u8 a.From.x5 :: .int .u8 a.To.x0 :: .int .u8 a.To.x1 :: .int .u8 a.To.x2 :: .int .u8 a.To.x3 :: .int .u8 a.To.x4 :: .int .u8 a.To.x5 :: .int .u8 a.Enter.x0 :: .int .u8 a.Enter.x1 :: .int .u8 a.Enter.x2 :: .int .u8 a.Enter.x3 :: .int .u8 a.Enter.x4 :: .int .u8 a.Enter.x5 :: .int .u8 a.Leave.x0 :: .int .u8 a.Leave.x1 :: .int .u8 a.Leave.x2 :: .int .u8 a.Leave.x3 :: .int .u8 a.Leave.x4 :: .int .u8 a.Leave.x5 :: .int .u8 a.Source.x0 :: .int .u8 a.Source.x1 :: .int .u8 a.Source.x2 :: .int .u8 a.Source.x3 :: .int .u8 a.Source.x4 :: .int .u8 a.Source.x5 :: .int .u8 a.Target.x0 :: .int .u8 a.Target.x1 :: .int .u8 a.Target.x2 :: .int .u8 a.Target.x3 :: .int .u8 a.Target.x4 :: .int .u8 a.Target.x5 :: .int .i64 a.Seq :: .int .i64 a.Ttl :: .ro 1 a.Data.length false (enR c_u8 a.Data) :: [])
def g_TMeshFrame (f : Nat -> AV) : TMeshFrame := ⟨⟨iA (f 0), iA (f 1), iA (f 2), iA (f 3), iA (f 4), iA (f 5)⟩, ⟨iA (f 6), iA (f 7), iA (f 8), iA (f 9), iA (f 10), iA (f 11)⟩, ⟨iA (f 12), iA (f 13), iA (f 14), iA (f 15), iA (f 16), iA (f 17)⟩, ⟨iA (f 18), iA (f 19), iA (f 20), iA (f 21), iA (f 22), iA (f 23)⟩, ⟨iA (f 24), iA (f 25), iA (f 26), iA (f 27), iA (f 28), iA (f 29)⟩, ⟨iA (f 30), iA (f 31), iA (f 32), iA (f 33), iA (f 34), iA (f 35)⟩, iA (f 36), iA (f 37), lA g_u8 (f 38)⟩
def k_TMeshFrame (f : Nat -> AV) : Prop := iK .u8 (f 0) /\ iK .u8 (f 1) /\ iK .u8 (f 2) /\ iK .u8 (f 3) /\ iK .u8 (f 4) /\ iK .u8 (f 5) /\ iK .u8 (f 6) /\ iK .u8 (f 7) /\ iK .u8 (f 8) /\ iK .u8 (f 9) /\ iK .u8 (f 10) /\ iK .u8 (f 11) /\ iK .u8 (f 12) /\ iK .u8 (f 13) /\ iK .u8 (f 14) /\ iK .u8 (f 15) /\ iK .u8 (f 16) /\ iK .u8 (f 17) /\ iK .u8 (f 18) /\ iK .u8 (f 19) /\ iK .u8 (f 20) /\ iK .u8 (f 21) /\ iK .u8 (f 22) /\ iK .u8 (f 23) /\ iK .u8 (f 24) /\ iK .u8 (f 25) /\ iK .u8 (f 26) /\ iK .u8 (f 27) /\ iK .u8 (f 28) /\ iK .u8 (f 29) /\ iK .u8 (f 30) /\ iK .u8 (f 31) /\ iK .u8 (f 32) /\ iK .u8 (f 33) /\ iK .u8 (f 34) /\ iK .u8 (f 35) /\ iK .i64 (f 36) /\ iK .i64 (f 37) /\ lK k_u8 1 (f 38)
theorem gc_TMeshFrame (a : TMeshFrame) : g_TMeshFrame (getL (c_TMeshFrame a)) = a := by
  simp only [g_TMeshFrame, c_TMeshFrame, getL, iA, bA, sA, lA, deR_enR gc_u8]
theorem kc_TMeshFrame (a : TMeshFrame) : k_TMeshFrame (getL (c_TMeshFrame a)) := by
  simp only [k_TMeshFrame, c_TMeshFrame, getL, iK, bK, sK, lK, or_true, true_and, and_true, and_self, Fit_enR kc_u8]
theorem nr_TMeshFrame (a : TMeshFrame) : nrefL (c_TMeshFrame a) := by simp only [c_TMeshFrame, nrefL, nref, and_self]
instance : NRf c_TMeshFrame := ⟨nr_TMeshFrame⟩
instance : KCf k_TMeshFrame c_TMeshFrame := ⟨kc_TMeshFrame⟩
theorem w_TMeshFrame {f : Nat -> AV} (h : k_TMeshFrame f) : ∀ y, y < 39 -> WkV (getL (c_TMeshFrame (g_TMeshFrame f)) y) (f y) /\ nref (getL (c_TMeshFrame (g_TMeshFrame f)) y) := by
  obtain ⟨h0, h1, h2, h3, h4, h5, h6, h7, h8, h9, h10, h11, h12, h13, h14, h15, h16, h17, h18, h19, h20, h21, h22, h23, h24, h25, h26, h27, h28, h29, h30, h31, h32, h33, h34, h35, h36, h37, h38⟩ := h
  intro y hy
  match y, hy with
  | 0, _ => exact iK_wk h0
  | 1, _ => exact iK_wk h1
  | 2, _ => exact iK_wk h2
  | 3, _ => exact iK_wk h3
  | 4, _ => exact iK_wk h4
  | 5, _ => exact iK_wk h5
  | 6, _ => exact iK_wk h6
  | 7, _ => exact iK_wk h7
  | 8, _ => exact iK_wk h8
  | 9, _ => exact iK_wk h9
  | 10, _ => exact iK_wk h10
  | 11, _ => exact iK_wk h11
  | 12, _ => exact iK_wk h12
  | 13, _ => exact iK_wk h13
  | 14, _ => exact iK_wk h14
  | 15, _ => exact iK_wk h15
  | 16, _ => exact iK_wk h16
  | 17, _ => exact iK_wk h17
  | 18, _ => exact iK_wk h18
  | 19, _ => exact iK_wk h19
  | 20, _ => exact iK_wk h20
  | 21, _ => exact iK_wk h21
  | 22, _ => exact iK_wk h22
  | 23, _ => exact iK_wk h23
  | 24, _ => exact iK_wk h24
  | 25, _ => exact iK_wk h25
  | 26, _ => exact iK_wk h26
  | 27, _ => exact iK_wk h27
  | 28, _ => exact iK_wk h28
  | 29, _ => exact iK_wk h29
  | 30, _ => exact iK_wk h30
  | 31, _ => exact iK_wk h31
  | 32, _ => exact iK_wk h32
  | 33, _ => exact iK_wk h33
  | 34, _ => exact iK_wk h34
  | 35, _ => exact iK_wk h35
  | 36, _ => exact iK_wk h36
  | 37, _ => exact iK_wk h37
  | 38, _ => exact lK_wk (fun r h => w_u8 h) h38
  | y + 39, hy => omega
theorem e_TMeshFrame_0 (l : List TMeshFrame) (x : Nat) : enR c_TMeshFrame l x 0 = .int .u8 (((gd l x).From).x0) := rfl
theorem e_TMeshFrame_1 (l : List TMeshFrame) (x : Nat) : enR c_TMeshFrame l x 1 = .int .u8 (((gd l x).From).x1) := rfl
theorem e_TMeshFrame_2 (l : List TMeshFrame) (x : Nat) : enR c_TMeshFrame l x 2 = .int .u8 (((gd l x).From).x2) := rfl
theorem e_TMeshFrame_3 (l : List TMeshFrame) (x : Nat) : enR c_TMeshFrame l x 3 = .int .u8 (((gd l x).From).x3) := rfl
theorem e_TMeshFrame_4 (l : List TMeshFrame) (x : Nat) : enR c_TMeshFrame l x 4 = .int .u8 (((gd l x).From).x4) := rfl
theorem e_TMeshFrame_5 (l : List TMeshFrame) (x : Nat) : enR c_TMeshFrame l x 5 = .int .u8 (((gd l x).From).x5) := rfl
theorem e_TMeshFrame_6 (l : List TMeshFrame) (x : Nat) : enR c_TMeshFrame l x 6 = .int .u8 (((gd l x).To).x0) := rfl
theorem e_TMeshFrame_7 (l : List TMeshFrame) (x : Nat) : enR c_TMeshFrame l x 7 = .int .u8 (((gd l x).To).x1) := rfl
theorem e_TMeshFrame_8 (l : List TMeshFrame) (x : Nat) : enR c_TMeshFrame l x 8 = .int .u8 (((gd l x).To).x2) := rfl
theorem e_TMeshFrame_9 (l : List TMeshFrame) (x : Nat) : enR c_TMeshFrame l x 9 = .int .u8 (((gd l x).To).x3) := rfl
theorem e_TMeshFrame_10 (l : List TMeshFrame) (x : Nat) : enR c_TMeshFrame l x 10 = .int .u8 (((gd l x).To).x4) := rfl
theorem e_TMeshFrame_11 (l : List TMeshFrame) (x : Nat) : enR c_TMeshFrame l x 11 = .int .u8 (((gd l x).To).x5) := rfl
theorem e_TMeshFrame_12 (l : List TMeshFrame) (x : Nat) : enR c_TMeshFrame l x 12 = .int .u8 (((gd l x).Enter).x0) := rfl
theorem e_TMeshFrame_13 (l : List TMeshFrame) (x : Nat) : enR c_TMeshFrame l x 13 = .int .u8 (((gd l x).Enter).x1) := rfl
theorem e_TMeshFrame_14 (l : List TMeshFrame) (x : Nat) : enR c_TMeshFrame l x 14 = .int .u8 (((gd l x).Enter).x2) := rfl
theorem e_TMeshFrame_15 (l : List TMeshFrame) (x : Nat) : enR c_TMeshFrame l x 15 = .int .u8 (((gd l x).Enter).x3) := rfl
theorem e_TMeshFrame_16 (l : List TMeshFrame) (x : Nat) : enR c_TMeshFrame l x 16 = .int .u8 (((gd l x).Enter).x4) := rfl
theorem e_TMeshFrame_17 (l : List TMeshFrame) (x : Nat) : enR c_TMeshFrame l x 17 = .int .u8 (((gd l x).Enter).x5) := rfl
theorem e_TMeshFrame_18 (l : List TMeshFrame) (x : Nat) : enR c_TMeshFrame l x 18 = .int .u8 (((gd l x).Leave).x0) := rfl
theorem e_TMeshFrame_19 (l : List TMeshFrame) (x : Nat) : enR c_TMeshFrame l x 19 = .int .u8 (((gd l x).Leave).x1) := rfl
theorem e_TMeshFrame_20 (l : List TMeshFrame) (x : Nat) : enR c_TMeshFrame l x 20 = .int .u8 (((gd l x).Leave).x2) := rfl
theorem e_TMeshFrame_21 (l : List TMeshFrame) (x : Nat) : enR c_TMeshFrame l x 21 = .int .u8 (((gd l x).Leave).x3) := rfl
theorem e_TMeshFrame_22 (l : List TMeshFrame) (x : Nat) : enR c_TMeshFrame l x 22 = .int .u8 (((gd l x).Leave).x4) := rfl
theorem e_TMeshFrame_23 (l : List TMeshFrame) (x : Nat) : enR c_TMeshFrame l x 23 = .int .u8 (((gd l x).Leave).x5) := rfl
theorem e_TMeshFrame_24 (l : List TMeshFrame) (x : Nat) : enR c_TMeshFrame l x 24 = .int .u8 (((gd l x).Source).x0) := rfl
theorem e_TMeshFrame_25 (l : List TMeshFrame) (x : Nat) : enR c_TMeshFrame l x 25 = .int .u8 (((gd l x).Source).x1) := rfl
theorem e_TMeshFrame_26 (l : List TMeshFrame) (x : Nat) : enR c_TMeshFrame l x 26 = .int .u8 (((gd l x).Source).x2) := rfl
theorem e_TMeshFrame_27 (l : List TMeshFrame) (x : Nat) : enR c_TMeshFrame l x 27 = .int .u8 (((gd l x).Source).x3) := rfl
theorem e_TMeshFrame_28 (l : List TMeshFrame) (x : Nat) : enR c_TMeshFrame l x 28 = .int .u8 (((gd l x).Source).x4) := rfl
theorem e_TMeshFrame_29 (l : List TMeshFrame) (x : Nat) : enR c_TMeshFrame l x 29 = .int .u8 (((gd l x).Source).x5) := rfl
theorem e_TMeshFrame_30 (l : List TMeshFrame) (x : Nat) : enR c_TMeshFrame l x 30 = .int .u8 (((gd l x).Target).x0) := rfl
theorem e_TMeshFrame_31 (l : List TMeshFrame) (x : Nat) : enR c_TMeshFrame l x 31 = .int .u8 (((gd l x).Target).x1) := rfl
theorem e_TMeshFrame_32 (l : List TMeshFrame) (x : Nat) : enR c_TMeshFrame l x 32 = .int .u8 (((gd l x).Target).x2) := rfl
theorem e_TMeshFrame_33 (l : List TMeshFrame) (x : Nat) : enR c_TMeshFrame l x 33 = .int .u8 (((gd l x).Target).x3) := rfl
theorem e_TMeshFrame_34 (l : List TMeshFrame) (x : Nat) : enR c_TMeshFrame l x 34 = .int .u8 (((gd l x).Target).x4) := rfl
theorem e_TMeshFrame_35 (l : List TMeshFrame) (x : Nat) : enR c_TMeshFrame l x 35 = .int .u8 (((gd l x).Target).x5) := rfl
theorem e_TMeshFrame_36 (l : List TMeshFrame) (x : Nat) : enR c_TMeshFrame l x 36 = .int .i64 ((gd l x).Seq) := rfl
theorem e_TMeshFrame_37 (l : List TMeshFrame) (x : Nat) : enR c_TMeshFrame l x 37 = .int .i64 ((gd l x).Ttl) := rfl
theorem e_TMeshFrame_38 (l : List TMeshFrame) (x : Nat) : enR c_TMeshFrame l x 38 = .ro 1 ((gd l x).Data).length false (enR c_u8 ((gd l x).Data)) := rfl
theorem fit_TMeshFrame (n : Nat) (l : List TMeshFrame) : Fit k_TMeshFrame n (enR c_TMeshFrame l) = True := eq_true (Fit_enR kc_TMeshFrame)
theorem de_TMeshFrame (l : List TMeshFrame) : deR g_TMeshFrame l.length (enR c_TMeshFrame l) = l := deR_enR gc_TMeshFrame l
theorem eta_TMeshFrame (a : TMeshFrame) : TMeshFrame.mk a.From a.To a.Enter a.Leave a.Source a.Target a.Seq a.Ttl a.Data = a := rfl
theorem wA_TMeshFrame {v : AV} (h : aK 39 k_TMeshFrame v) : WkV (.agg (c_TMeshFrame (g_TMeshFrame (aL v)))) v /\ nref (.agg (c_TMeshFrame (g_TMeshFrame (aL v)))) := aK_wk (f := c_TMeshFrame) (g := g_TMeshFrame) (fun r h => w_TMeshFrame h) rfl (by simp only [c_TMeshFrame, nrefL, nref, and_self]) h
structure TForwardMark where
  Enter : A6u8
  Seq : Int
  deriving Inhabited
def c_TForwardMark (a : TForwardMark) : List AV := [.int .u8 a.Enter.x0, .int .u8 a.Enter.x1, .int .u8 a.Enter.x2, .int .u8 a.Enter.x3, .int .u8 a.Enter.x4, .int .u8 a.Enter.x5, .int .i64 a.Seq]
def g_TForwardMark (f : Nat -> AV) : TForwardMark := ⟨⟨iA (f 0), iA (f 1), iA (f 2), iA (f 3), iA (f 4), iA (f 5)⟩, iA (f 6)⟩
def k_TForwardMark (f : Nat -> AV) : Prop := iK .u8 (f 0) /\ iK .u8 (f 1) /\ iK .u8 (f 2) /\ iK .u8 (f 3) /\ iK .u8 (f 4) /\ iK .u8 (f 5) /\ iK .i64 (f 6)
theorem gc_TForwardMark (a : TForwardMark) : g_TForwardMark (getL (c_TForwardMark a)) = a := by
  simp only [g_TForwardMark, c_TForwardMark, getL, iA, bA, sA, lA]
theorem kc_TForwardMark (a : TForwardMark) : k_TForwardMark (getL (c_TForwardMark a)) := by
  simp only [k_TForwardMark, c_TForwardMark, getL, iK, bK, sK, lK, or_true, true_and, and_true, and_self]
theorem nr_TForwardMark (a : TForwardMark) : nrefL (c_TForwardMark a) := by simp only [c_TForwardMark, nrefL, nref, and_self]
instance : NOf c_TForwardMark := ⟨fun a => by simp only [c_TForwardMark, noroL, noro, and_self]⟩
instance : NRf c_TForwardMark := ⟨nr_TForwardMark⟩
instance : KCf k_TForwardMark c_TForwardMark := ⟨kc_TForwardMark⟩
theorem w_TForwardMark {f : Nat -> AV} (h : k_TForwardMark f) : ∀ y, y < 7 -> WkV (getL (c_TForwardMark (g_TForwardMark f)) y) (f y) /\ nref (getL (c_TForwardMark (g_TForwardMark f)) y) := by
  obtain ⟨h0, h1, h2, h3, h4, h5, h6⟩ := h
  intro y hy
  match y, hy with
  | 0, _ => exact iK_wk h0
  | 1, _ => exact iK_wk h1
  | 2, _ => exact iK_wk h2
  | 3, _ => exact iK_wk h3
  | 4, _ => exact iK_wk h4
  | 5, _ => exact iK_wk h5
  | 6, _ => exact iK_wk h6
  | y + 7, hy => omega
theorem e_TForwardMark_0 (l : List TForwardMark) (x : Nat) : enR c_TForwardMark l x 0 = .int .u8 (((gd l x).Enter).x0) := rfl
theorem e_TForwardMark_1 (l : List TForwardMark) (x : Nat) : enR c_TForwardMark l x 1 = .int .u8 (((gd l x).Enter).x1) := rfl
theorem e_TForwardMark_2 (l : List TForwardMark) (x : Nat) : enR c_TForwardMark l x 2 = .int .u8 (((gd l x).Enter).x2) := rfl
theorem e_TForwardMark_3 (l : List TForwardMark) (x : Nat) : enR c_TForwardMark l x 3 = .int .u8 (((gd l x).Enter).x3) := rfl
theorem e_TForwardMark_4 (l : List TForwardMark) (x : Nat) : enR c_TForwardMark l x 4 = .int .u8 (((gd l x).Enter).x4) := rfl
theorem e_TForwardMark_5 (l : List TForwardMark) (x : Nat) : enR c_TForwardMark l x 5 = .int .u8 (((gd l x).Enter).x5) := rfl
theorem e_TForwardMark_6 (l : List TForwardMark) (x : Nat) : enR c_TForwardMark l x 6 = .int .i64 ((gd l x).Seq) := rfl
theorem fit_TForwardMark (n : Nat) (l : List TForwardMark) : Fit k_TForwardMark n (enR c_TForwardMark l) = True := eq_true (Fit_enR kc_TForwardMark)
theorem de_TForwardMark (l : List TForwardMark) : deR g_TForwardMark l.length (enR c_TForwardMark l) = l := deR_enR gc_TForwardMark l
theorem eta_TForwardMark (a : TForwardMark) : TForwardMark.mk a.Enter a.Seq = a := rfl
theorem wA_TForwardMark {v : AV} (h : aK 7 k_TForwardMark v) : WkV (.agg (c_TForwardMark (g_TForwardMark (aL v)))) v /\ nref (.agg (c_TForwardMark (g_TForwardMark (aL v)))) := aK_wk (f := c_TForwardMark) (g := g_TForwardMark) (fun r h => w_TForwardMark h) rfl (by simp only [c_TForwardMark, nrefL, nref, and_self]) h
def c_lTForwardMark (a : List TForwardMark) : List AV := [.ro 7 a.length false (enR c_TForwardMark a)]
def g_lTForwardMark (f : Nat -> AV) : List TForwardMark := lA g_TForwardMark (f 0)
def k_lTForwardMark (f : Nat -> AV) : Prop := lK k_TForwardMark 7 (f 0)
theorem gc_lTForwardMark (a : List TForwardMark) : g_lTForwardMark (getL (c_lTForwardMark a)) = a := by
  simp only [g_lTForwardMark, c_lTForwardMark, getL, iA, bA, sA, lA, deR_enR gc_TForwardMark]
theorem kc_lTForwardMark (a : List TForwardMark) : k_lTForwardMark (getL (c_lTForwardMark a)) := by
  simp only [k_lTForwardMark, c_lTForwardMark, getL, iK, bK, sK, lK, or_true, true_and, and_true, and_self, Fit_enR kc_TForwardMark]
theorem nr_lTForwardMark (a : List TForwardMark) : nrefL (c_lTForwardMark a) := by simp only [c_lTForwardMark, nrefL, nref, and_self]
instance : NRf c_lTForwardMark := ⟨nr_lTForwardMark⟩
instance : KCf k_lTForwardMark c_lTForwardMark := ⟨kc_lTForwardMark⟩
theorem w_lTForwardMark {f : Nat -> AV} (h : k_lTForwardMark f) : ∀ y, y < 1 -> WkV (getL (c_lTForwardMark (g_lTForwardMark f)) y) (f y) /\ nref (getL (c_lTForwardMark (g_lTForwardMark f)) y) := by
  have h0 := h
  intro y hy
  match y, hy with
  | 0, _ => exact lK_wk (fun r h => w_TForwardMark h) h0
  | y + 1, hy => omega
theorem e_lTForwardMark_0 (l : List (List TForwardMark)) (x : Nat) : enR c_lTForwardMark l x 0 = .ro 7 (gd l x).length false (enR c_TForwardMark (gd l x)) := rfl
theorem fit_lTForwardMark (n : Nat) (l : List (List TForwardMark)) : Fit k_lTForwardMark n (enR c_lTForwardMark l) = True := eq_true (Fit_enR kc_lTForwardMark)
theorem de_lTForwardMark (l : List (List TForwardMark)) : deR g_lTForwardMark l.length (enR c_lTForwardMark l) = l := deR_enR gc_lTForwardMark l
structure TForwardHop where
  Dest : A6u8
  Next : A6u8
  deriving Inhabited
def c_TForwardHop (a : TForwardHop) : List AV := [.int .u8 a.Dest.x0, .int .u8 a.Dest.x1, .int .u8 a.Dest.x2, .int .u8 a.Dest.x3, .int .u8 a.Dest.x4, .int .u8 a.Dest.x5, .int .u8 a.Next.x0, .int .u8 a.Next.x1, .int .u8 a.Next.x2, .int .u8 a.Next.x3, .int .u8 a.Next.x4, .int .u8 a.Next.x5]
def g_TForwardHop (f : Nat -> AV) : TForwardHop := ⟨⟨iA (f 0), iA (f 1), iA (f 2), iA (f 3), iA (f 4), iA (f 5)⟩, ⟨iA (f 6), iA (f 7), iA (f 8), iA (f 9), iA (f 10), iA (f 11)⟩⟩
def k_TForwardHop (f : Nat -> AV) : Prop := iK .u8 (f 0) /\ iK .u8 (f 1) /\ iK .u8 (f 2) /\ iK .u8 (f 3) /\ iK .u8 (f 4) /\ iK .u8 (f 5) /\ iK .u8 (f 6) /\ iK .u8 (f 7) /\ iK .u8 (f 8) /\ iK .u8 (f 9) /\ iK .u8 (f 10) /\ iK .u8 (f 11)
theorem gc_TForwardHop (a : TForwardHop) : g_TForwardHop (getL (c_TForwardHop a)) = a := by
  simp only [g_TForwardHop, c_TForwardHop, getL, iA, bA, sA, lA]
theorem kc_TForwardHop (a : TForwardHop) : k_TForwardHop (getL (c_TForwardHop a)) := by
  simp only [k_TForwardHop, c_TForwardHop, getL, iK, bK, sK, lK, or_true, true_and, and_true, and_self]
theorem nr_TForwardHop (a : TForwardHop) : nrefL (c_TForwardHop a) := by simp only [c_TForwardHop, nrefL, nref, and_self]
instance : NOf c_TForwardHop := ⟨fun a => by simp only [c_TForwardHop, noroL, noro, and_self]⟩
instance : NRf c_TForwardHop := ⟨nr_TForwardHop⟩
instance : KCf k_TForwardHop c_TForwardHop := ⟨kc_TForwardHop⟩
theorem w_TForwardHop {f : Nat -> AV} (h : k_TForwardHop f) : ∀ y, y < 12 -> WkV (getL (c_TForwardHop (g_TForwardHop f)) y) (f y) /\ nref (getL (c_TForwardHop (g_TForwardHop f)) y) := by
  obtain ⟨h0, h1, h2, h3, h4, h5, h6, h7, h8, h9, h10, h11⟩ := h
  intro y hy
  match y, hy with
  | 0, _ => exact iK_wk h0
  | 1, _ => exact iK_wk h1
  | 2, _ => exact iK_wk h2
  | 3, _ => exact iK_wk h3
  | 4, _ => exact iK_wk h4
  | 5, _ => exact iK_wk h5
  | 6, _ => exact iK_wk h6
  | 7, _ => exact iK_wk h7
  | 8, _ => exact iK_wk h8
  | 9, _ => exact iK_wk h9
  | 10, _ => exact iK_wk h10
  | 11, _ => exact iK_wk h11
  | y + 12, hy => omega
theorem e_TForwardHop_0 (l : List TForwardHop) (x : Nat) : enR c_TForwardHop l x 0 = .int .u8 (((gd l x).Dest).x0) := rfl
theorem e_TForwardHop_1 (l : List TForwardHop) (x : Nat) : enR c_TForwardHop l x 1 = .int .u8 (((gd l x).Dest).x1) := rfl
theorem e_TForwardHop_2 (l : List TForwardHop) (x : Nat) : enR c_TForwardHop l x 2 = .int .u8 (((gd l x).Dest).x2) := rfl
theorem e_TForwardHop_3 (l : List TForwardHop) (x : Nat) : enR c_TForwardHop l x 3 = .int .u8 (((gd l x).Dest).x3) := rfl
theorem e_TForwardHop_4 (l : List TForwardHop) (x : Nat) : enR c_TForwardHop l x 4 = .int .u8 (((gd l x).Dest).x4) := rfl
theorem e_TForwardHop_5 (l : List TForwardHop) (x : Nat) : enR c_TForwardHop l x 5 = .int .u8 (((gd l x).Dest).x5) := rfl
theorem e_TForwardHop_6 (l : List TForwardHop) (x : Nat) : enR c_TForwardHop l x 6 = .int .u8 (((gd l x).Next).x0) := rfl
theorem e_TForwardHop_7 (l : List TForwardHop) (x : Nat) : enR c_TForwardHop l x 7 = .int .u8 (((gd l x).Next).x1) := rfl
theorem e_TForwardHop_8 (l : List TForwardHop) (x : Nat) : enR c_TForwardHop l x 8 = .int .u8 (((gd l x).Next).x2) := rfl
theorem e_TForwardHop_9 (l : List TForwardHop) (x : Nat) : enR c_TForwardHop l x 9 = .int .u8 (((gd l x).Next).x3) := rfl
theorem e_TForwardHop_10 (l : List TForwardHop) (x : Nat) : enR c_TForwardHop l x 10 = .int .u8 (((gd l x).Next).x4) := rfl
theorem e_TForwardHop_11 (l : List TForwardHop) (x : Nat) : enR c_TForwardHop l x 11 = .int .u8 (((gd l x).Next).x5) := rfl
theorem fit_TForwardHop (n : Nat) (l : List TForwardHop) : Fit k_TForwardHop n (enR c_TForwardHop l) = True := eq_true (Fit_enR kc_TForwardHop)
theorem de_TForwardHop (l : List TForwardHop) : deR g_TForwardHop l.length (enR c_TForwardHop l) = l := deR_enR gc_TForwardHop l
theorem eta_TForwardHop (a : TForwardHop) : TForwardHop.mk a.Dest a.Next = a := rfl
theorem wA_TForwardHop {v : AV} (h : aK 12 k_TForwardHop v) : WkV (.agg (c_TForwardHop (g_TForwardHop (aL v)))) v /\ nref (.agg (c_TForwardHop (g_TForwardHop (aL v)))) := aK_wk (f := c_TForwardHop) (g := g_TForwardHop) (fun r h => w_TForwardHop h) rfl (by simp only [c_TForwardHop, nrefL, nref, and_self]) h
def c_lTForwardHop (a : List TForwardHop) : List AV := [.ro 12 a.length false (enR c_TForwardHop a)]
def g_lTForwardHop (f : Nat -> AV) : List TForwardHop := lA g_TForwardHop (f 0)
def k_lTForwardHop (f : Nat -> AV) : Prop := lK k_TForwardHop 12 (f 0)
theorem gc_lTForwardHop (a : List TForwardHop) : g_lTForwardHop (getL (c_lTForwardHop a)) = a := by
  simp only [g_lTForwardHop, c_lTForwardHop, getL, iA, bA, sA, lA, deR_enR gc_TForwardHop]
theorem kc_lTForwardHop (a : List TForwardHop) : k_lTForwardHop (getL (c_lTForwardHop a)) := by
  simp only [k_lTForwardHop, c_lTForwardHop, getL, iK, bK, sK, lK, or_true, true_and, and_true, and_self, Fit_enR kc_TForwardHop]
theorem nr_lTForwardHop (a : List TForwardHop) : nrefL (c_lTForwardHop a) := by simp only [c_lTForwardHop, nrefL, nref, and_self]
instance : NRf c_lTForwardHop := ⟨nr_lTForwardHop⟩
instance : KCf k_lTForwardHop c_lTForwardHop := ⟨kc_lTForwardHop⟩
theorem w_lTForwardHop {f : Nat -> AV} (h : k_lTForwardHop f) : ∀ y, y < 1 -> WkV (getL (c_lTForwardHop (g_lTForwardHop f)) y) (f y) /\ nref (getL (c_lTForwardHop (g_lTForwardHop f)) y) := by
  have h0 := h
  intro y hy
  match y, hy with
  | 0, _ => exact lK_wk (fun r h => w_TForwardHop h) h0
  | y + 1, hy => omega
theorem e_lTForwardHop_0 (l : List (List TForwardHop)) (x : Nat) : enR c_lTForwardHop l x 0 = .ro 12 (gd l x).length false (enR c_TForwardHop (gd l x)) := rfl
theorem fit_lTForwardHop (n : Nat) (l : List (List TForwardHop)) : Fit k_lTForwardHop n (enR c_lTForwardHop l) = True := eq_true (Fit_enR kc_lTForwardHop)
theorem de_lTForwardHop (l : List (List TForwardHop)) : deR g_lTForwardHop l.length (enR c_lTForwardHop l) = l := deR_enR gc_lTForwardHop l
structure TForward where
  Own : A6u8
  Seq : Int
  Seen : _root_.List TForwardMark
  Nexts : _root_.List TForwardHop
  deriving Inhabited
def c_TForward (a : TForward) : List AV := [.int .u8 a.Own.x0, .int .u8 a.Own.x1, .int .u8 a.Own.x2, .int .u8 a.Own.x3, .int .u8 a.Own.x4, .int .u8 a.Own.x5, .int .i64 a.Seq, .ro 7 a.Seen.length false (enR c_TForwardMark a.Seen), .ro 12 a.Nexts.length false (enR c_TForwardHop a.Nexts)]
def g_TForward (f : Nat -> AV) : TForward := ⟨⟨iA (f 0), iA (f 1), iA (f 2), iA (f 3), iA (f 4), iA (f 5)⟩, iA (f 6), lA g_TForwardMark (f 7), lA g_TForwardHop (f 8)⟩
def k_TForward (f : Nat -> AV) : Prop := iK .u8 (f 0) /\ iK .u8 (f 1) /\ iK .u8 (f 2) /\ iK .u8 (f 3) /\ iK .u8 (f 4) /\ iK .u8 (f 5) /\ iK .i64 (f 6) /\ lK k_TForwardMark 7 (f 7) /\ lK k_TForwardHop 12 (f 8)
theorem gc_TForward (a : TForward) : g_TForward (getL (c_TForward a)) = a := by
  simp only [g_TForward, c_TForward, getL, iA, bA, sA, lA, deR_enR gc_TForwardHop, deR_enR gc_TForwardMark]
theorem kc_TForward (a : TForward) : k_TForward (getL (c_TForward a)) := by
  simp only [k_TForward, c_TForward, getL, iK, bK, sK, lK, or_true, true_and, and_true, and_self, Fit_enR kc_TForwardHop, Fit_enR kc_TForwardMark]
theorem nr_TForward (a : TForward) : nrefL (c_TForward a) := by simp only [c_TForward, nrefL, nref, and_self]
instance : NRf c_TForward := ⟨nr_TForward⟩
instance : KCf k_TForward c_TForward := ⟨kc_TForward⟩
theorem w_TForward {f : Nat -> AV} (h : k_TForward f) : ∀ y, y < 9 -> WkV (getL (c_TForward (g_TForward f)) y) (f y) /\ nref (getL (c_TForward (g_TForward f)) y) := by
  obtain ⟨h0, h1, h2, h3, h4, h5, h6, h7, h8⟩ := h
  intro y hy
  match y, hy with
  | 0, _ => exact iK_wk h0
  | 1, _ => exact iK_wk h1
  | 2, _ => exact iK_wk h2
  | 3, _ => exact iK_wk h3
  | 4, _ => exact iK_wk h4
  | 5, _ => exact iK_wk h5
  | 6, _ => exact iK_wk h6
  | 7, _ => exact lK_wk (fun r h => w_TForwardMark h) h7
  | 8, _ => exact lK_wk (fun r h => w_TForwardHop h) h8
  | y + 9, hy => omega
theorem e_TForward_0 (l : List TForward) (x : Nat) : enR c_TForward l x 0 = .int .u8 (((gd l x).Own).x0) := rfl
theorem e_TForward_1 (l : List TForward) (x : Nat) : enR c_TForward l x 1 = .int .u8 (((gd l x).Own).x1) := rfl
theorem e_TForward_2 (l : List TForward) (x : Nat) : enR c_TForward l x 2 = .int .u8 (((gd l x).Own).x2) := rfl
theorem e_TForward_3 (l : List TForward) (x : Nat) : enR c_TForward l x 3 = .int .u8 (((gd l x).Own).x3) := rfl
theorem e_TForward_4 (l : List TForward) (x : Nat) : enR c_TForward l x 4 = .int .u8 (((gd l x).Own).x4) := rfl
theorem e_TForward_5 (l : List TForward) (x : Nat) : enR c_TForward l x 5 = .int .u8 (((gd l x).Own).x5) := rfl
theorem e_TForward_6 (l : List TForward) (x : Nat) : enR c_TForward l x 6 = .int .i64 ((gd l x).Seq) := rfl
theorem e_TForward_7 (l : List TForward) (x : Nat) : enR c_TForward l x 7 = .ro 7 ((gd l x).Seen).length false (enR c_TForwardMark ((gd l x).Seen)) := rfl
theorem e_TForward_8 (l : List TForward) (x : Nat) : enR c_TForward l x 8 = .ro 12 ((gd l x).Nexts).length false (enR c_TForwardHop ((gd l x).Nexts)) := rfl
theorem fit_TForward (n : Nat) (l : List TForward) : Fit k_TForward n (enR c_TForward l) = True := eq_true (Fit_enR kc_TForward)
theorem de_TForward (l : List TForward) : deR g_TForward l.length (enR c_TForward l) = l := deR_enR gc_TForward l
theorem eta_TForward (a : TForward) : TForward.mk a.Own a.Seq a.Seen a.Nexts = a := rfl
theorem wA_TForward {v : AV} (h : aK 9 k_TForward v) : WkV (.agg (c_TForward (g_TForward (aL v)))) v /\ nref (.agg (c_TForward (g_TForward (aL v)))) := aK_wk (f := c_TForward) (g := g_TForward) (fun r h => w_TForward h) rfl (by simp only [c_TForward, nrefL, nref, and_self]) h
def c_lTMeshFrame (a : List TMeshFrame) : List AV := [.ro 39 a.length false (enR c_TMeshFrame a)]
def g_lTMeshFrame (f : Nat -> AV) : List TMeshFrame := lA g_TMeshFrame (f 0)
def k_lTMeshFrame (f : Nat -> AV) : Prop := lK k_TMeshFrame 39 (f 0)
theorem gc_lTMeshFrame (a : List TMeshFrame) : g_lTMeshFrame (getL (c_lTMeshFrame a)) = a := by
  simp only [g_lTMeshFrame, c_lTMeshFrame, getL, iA, bA, sA, lA, deR_enR gc_TMeshFrame]
theorem kc_lTMeshFrame (a : List TMeshFrame) : k_lTMeshFrame (getL (c_lTMeshFrame a)) := by
  simp only [k_lTMeshFrame, c_lTMeshFrame, getL, iK, bK, sK, lK, or_true, true_and, and_true, and_self, Fit_enR kc_TMeshFrame]
theorem nr_lTMeshFrame (a : List TMeshFrame) : nrefL (c_lTMeshFrame a) := by simp only [c_lTMeshFrame, nrefL, nref, and_self]
instance : NRf c_lTMeshFrame := ⟨nr_lTMeshFrame⟩
instance : KCf k_lTMeshFrame c_lTMeshFrame := ⟨kc_lTMeshFrame⟩
theorem w_lTMeshFrame {f : Nat -> AV} (h : k_lTMeshFrame f) : ∀ y, y < 1 -> WkV (getL (c_lTMeshFrame (g_lTMeshFrame f)) y) (f y) /\ nref (getL (c_lTMeshFrame (g_lTMeshFrame f)) y) := by
  have h0 := h
  intro y hy
  match y, hy with
  | 0, _ => exact lK_wk (fun r h => w_TMeshFrame h) h0
  | y + 1, hy => omega
theorem e_lTMeshFrame_0 (l : List (List TMeshFrame)) (x : Nat) : enR c_lTMeshFrame l x 0 = .ro 39 (gd l x).length false (enR c_TMeshFrame (gd l x)) := rfl
theorem fit_lTMeshFrame (n : Nat) (l : List (List TMeshFrame)) : Fit k_lTMeshFrame n (enR c_lTMeshFrame l) = True := eq_true (Fit_enR kc_lTMeshFrame)
theorem de_lTMeshFrame (l : List (List TMeshFrame)) : deR g_lTMeshFrame l.length (enR c_lTMeshFrame l) = l := deR_enR gc_lTMeshFrame l
structure A8TForward where
  x0 : TForward
  x1 : TForward
  x2 : TForward
  x3 : TForward
  x4 : TForward
  x5 : TForward
  x6 : TForward
  x7 : TForward
  deriving Inhabited
def c_A8TForward (a : A8TForward) : List AV := (.int .u8 a.x0.Own.x0 :: .int .u8 a.x0.Own.x1 :: .int .u8 a.x0.Own.x2 :: .int .u8 a.x0.Own.x3 :: .int .u8 a.x0.Own.x4 :: .int .u8 a.x0.Own.x5 :: .int .i64 a.x0.Seq :: .ro 7 a.x0.Seen.length false (enR c_TForwardMark a.x0.Seen) :: .ro 12 a.x0.Nexts.length false (enR c_TForwardHop a.x0.Nexts) :: .int .u8 a.x1.Own.x0 :: .int .u8 a.x1.Own.x1 :: .int .u8 a.x1.Own.x2 :: .int .u8 a.x1.Own.x3 :: .int .u8 a.x1.Own.x4 :: .int .u8 a.x1.Own.x5 :: .int .i64 a.x1.Seq :: .ro 7 a.x1.Seen.length false (enR c_TForwardMark a.x1.Seen) :: .ro 12 a.x1.Nexts.length false (enR c_TForwardHop a.x1.Nexts) :: .int .u8 a.x2.Own.x0 :: .int .u8 a.x2.Own.x1 :: .int .u8 a.x2.Own.x2 :: .int .u8 a.x2.Own.x3 :: .int .u8 a.x2.Own.x4 :: .int .u8 a.x2.Own.x5 :: .int .i64 a.x2.Seq :: .ro 7 a.x2.Seen.length false (enR c_TForwardMark a.x2.Seen) :: .ro 12 a.x2.Nexts.length false (enR c_TForwardHop a.x2.Nexts) :: .int .u8 a.x3.Own.x0 :: .int .u8 a.x3.Own.x1 :: .int .u8 a.x3.Own.x2 :: .int .u8 a.x3.Own.x3 :: .int .u8 a.x3.Own.x4 :: .int .u8 a.x3.Own.x5 :: .int .i64 a.x3.Seq :: .ro 7 a.x3.Seen.length false (enR c_TForwardMark a.x3.Seen) :: .ro 12 a.x3.Nexts.length false (enR c_TForwardHop a.x3.Nexts) :: .int .u8 a.x4.Own.x0 :: .int .u8 a.x4.Own.x1 :: .int .u8 a.x4.Own.x2 :: .int .u8 a.x4.Own.x3 :: .int .u8 a.x4.Own.x4 :: .int .u8 a.x4.Own.x5 :: .int .i64 a.x4.Seq :: .ro 7 a.x4.Seen.length false (enR c_TForwardMark a.x4.Seen) :: .ro 12 a.x4.Nexts.length false (enR c_TForwardHop a.x4.Nexts) :: .int .u8 a.x5.Own.x0 :: .int .u8 a.x5.Own.x1 :: .int .u8 a.x5.Own.x2 :: .int .u8 a.x5.Own.x3 :: .int .u8 a.x5.Own.x4 :: .int .u8 a.x5.Own.x5 :: .int .i64 a.x5.Seq :: .ro 7 a.x5.Seen.length false (enR c_TForwardMark a.x5.Seen) :: .ro 12 a.x5.Nexts.length false (enR c_TForwardHop a.x5.Nexts) :: .int .u8 a.x6.Own.x0 :: .int .u8 a.x6.Own.x1 :: .int .u8 a.x6.Own.x2 :: .int .u8 a.x6.Own.x3 :: .int .u8 a.x6.Own.x4 :: .int .u8 a.x6.Own.x5 :: .int .i64 a.x6.Seq :: .ro 7 a.x6.Seen.length false (enR c_TForwardMark a.x6.Seen) :: .ro 12 a.x6.Nexts.length false (enR c_TForwardHop a.x6.Nexts) :: .int .u8 a.x7.Own.x0 :: .int .u8 a.x7.Own.x1 :: .int .u8 a.x7.Own.x2 :: .int .u8 a.x7.Own.x3 :: .int .u8 a.x7.Own.x4 :: .int .u8 a.x7.Own.x5 :: .int .i64 a.x7.Seq :: .ro 7 a.x7.Seen.length false (enR c_TForwardMark a.x7.Seen) :: .ro 12 a.x7.Nexts.length false (enR c_TForwardHop a.x7.Nexts) :: [])
def g_A8TForward (f : Nat -> AV) : A8TForward := ⟨⟨⟨iA (f 0), iA (f 1), iA (f 2), iA (f 3), iA (f 4), iA (f 5)⟩, iA (f 6), lA g_TForwardMark (f 7), lA g_TForwardHop (f 8)⟩, ⟨⟨iA (f 9), iA (f 10), iA (f 11), iA (f 12), iA (f 13), iA (f 14)⟩, iA (f 15), lA g_TForwardMark (f 16), lA g_TForwardHop (f 17)⟩, ⟨⟨iA (f 18), iA (f 19), iA (f 20), iA (f 21), iA (f 22), iA (f 23)⟩, iA (f 24), lA g_TForwardMark (f 25), lA g_TForwardHop (f 26)⟩, ⟨⟨iA (f 27), iA (f 28), iA (f 29), iA (f 30), iA (f 31), iA (f 32)⟩, iA (f 33), lA g_TForwardMark (f 34), lA g_TForwardHop (f 35)⟩, ⟨⟨iA (f 36), iA (f 37), iA (f 38), iA (f 39), iA (f 40), iA (f 41)⟩, iA (f 42), lA g_TForwardMark (f 43), lA g_TForwardHop (f 44)⟩, ⟨⟨iA (f 45), iA (f 46), iA (f 47), iA (f 48), iA (f 49), iA (f 50)⟩, iA (f 51), lA g_TForwardMark (f 52), lA g_TForwardHop (f 53)⟩, ⟨⟨iA (f 54), iA (f 55), iA (f 56), iA (f 57), iA (f 58), iA (f 59)⟩, iA (f 60), lA g_TForwardMark (f 61), lA g_TForwardHop (f 62)⟩, ⟨⟨iA (f 63), iA (f 64), iA (f 65), iA (f 66), iA (f 67), iA (f 68)⟩, iA (f 69), lA g_TForwardMark (f 70), lA g_TForwardHop (f 71)⟩⟩
def k_A8TForward (f : Nat -> AV) : Prop := iK .u8 (f 0) /\ iK .u8 (f 1) /\ iK .u8 (f 2) /\ iK .u8 (f 3) /\ iK .u8 (f 4) /\ iK .u8 (f 5) /\ iK .i64 (f 6) /\ lK k_TForwardMark 7 (f 7) /\ lK k_TForwardHop 12 (f 8) /\ iK .u8 (f 9) /\ iK .u8 (f 10) /\ iK .u8 (f 11) /\ iK .u8 (f 12) /\ iK .u8 (f 13) /\ iK .u8 (f 14) /\ iK .i64 (f 15) /\ lK k_TForwardMark 7 (f 16) /\ lK k_TForwardHop 12 (f 17) /\ iK .u8 (f 18) /\ iK .u8 (f 19) /\ iK .u8 (f 20) /\ iK .u8 (f 21) /\ iK .u8 (f 22) /\ iK .u8 (f 23) /\ iK .i64 (f 24) /\ lK k_TForwardMark 7 (f 25) /\ lK k_TForwardHop 12 (f 26) /\ iK .u8 (f 27) /\ iK .u8 (f 28) /\ iK .u8 (f 29) /\ iK .u8 (f 30) /\ iK .u8 (f 31) /\ iK .u8 (f 32) /\ iK .i64 (f 33) /\ lK k_TForwardMark 7 (f 34) /\ lK k_TForwardHop 12 (f 35) /\ iK .u8 (f 36) /\ iK .u8 (f 37) /\ iK .u8 (f 38) /\ iK .u8 (f 39) /\ iK .u8 (f 40) /\ iK .u8 (f 41) /\ iK .i64 (f 42) /\ lK k_TForwardMark 7 (f 43) /\ lK k_TForwardHop 12 (f 44) /\ iK .u8 (f 45) /\ iK .u8 (f 46) /\ iK .u8 (f 47) /\ iK .u8 (f 48) /\ iK .u8 (f 49) /\ iK .u8 (f 50) /\ iK .i64 (f 51) /\ lK k_TForwardMark 7 (f 52) /\ lK k_TForwardHop 12 (f 53) /\ iK .u8 (f 54) /\ iK .u8 (f 55) /\ iK .u8 (f 56) /\ iK .u8 (f 57) /\ iK .u8 (f 58) /\ iK .u8 (f 59) /\ iK .i64 (f 60) /\ lK k_TForwardMark 7 (f 61) /\ lK k_TForwardHop 12 (f 62) /\ iK .u8 (f 63) /\ iK .u8 (f 64) /\ iK .u8 (f 65) /\ iK .u8 (f 66) /\ iK .u8 (f 67) /\ iK .u8 (f 68) /\ iK .i64 (f 69) /\ lK k_TForwardMark 7 (f 70) /\ lK k_TForwardHop 12 (f 71)
theorem gc_A8TForward (a : A8TForward) : g_A8TForward (getL (c_A8TForward a)) = a := by
  simp only [g_A8TForward, c_A8TForward, getL, iA, bA, sA, lA, deR_enR gc_TForwardHop, deR_enR gc_TForwardMark]
theorem kc_A8TForward (a : A8TForward) : k_A8TForward (getL (c_A8TForward a)) := by
  simp only [k_A8TForward, c_A8TForward, getL, iK, bK, sK, lK, or_true, true_and, and_true, and_self, Fit_enR kc_TForwardHop, Fit_enR kc_TForwardMark]
theorem nr_A8TForward (a : A8TForward) : nrefL (c_A8TForward a) := by simp only [c_A8TForward, nrefL, nref, and_self]
instance : NRf c_A8TForward := ⟨nr_A8TForward⟩
instance : KCf k_A8TForward c_A8TForward := ⟨kc_A8TForward⟩
theorem w_A8TForward {f : Nat -> AV} (h : k_A8TForward f) : ∀ y, y < 72 -> WkV (getL (c_A8TForward (g_A8TForward f)) y) (f y) /\ nref (getL (c_A8TForward (g_A8TForward f)) y) := by
  obtain ⟨h0, h1, h2, h3, h4, h5, h6, h7, h8, h9, h10, h11, h12, h13, h14, h15, h16, h17, h18, h19, h20, h21, h22, h23, h24, h25, h26, h27, h28, h29, h30, h31, h32, h33, h34, h35, h36, h37, h38, h39, h40, h41, h42, h43, h44, h45, h46, h47, h48, h49, h50, h51, h52, h53, h54, h55, h56, h57, h58, h59, h60, h61, h62, h63, h64, h65, h66, h67, h68, h69, h70, h71⟩ := h
  intro y hy
  match y, hy with
  | 0, _ => exact iK_wk h0
  | 1, _ => exact iK_wk h1
  | 2, _ => exact iK_wk h2
  | 3, _ => exact iK_wk h3
  | 4, _ => exact iK_wk h4
  | 5, _ => exact iK_wk h5
  | 6, _ => exact iK_wk h6
  | 7, _ => exact lK_wk (fun r h => w_TForwardMark h) h7
  | 8, _ => exact lK_wk (fun r h => w_TForwardHop h) h8
  | 9, _ => exact iK_wk h9
  | 10, _ => exact iK_wk h10
  | 11, _ => exact iK_wk h11
  | 12, _ => exact iK_wk h12
  | 13, _ => exact iK_wk h13
  | 14, _ => exact iK_wk h14
  | 15, _ => exact iK_wk h15
  | 16, _ => exact lK_wk (fun r h => w_TForwardMark h) h16
  | 17, _ => exact lK_wk (fun r h => w_TForwardHop h) h17
  | 18, _ => exact iK_wk h18
  | 19, _ => exact iK_wk h19
  | 20, _ => exact iK_wk h20
  | 21, _ => exact iK_wk h21
  | 22, _ => exact iK_wk h22
  | 23, _ => exact iK_wk h23
  | 24, _ => exact iK_wk h24
  | 25, _ => exact lK_wk (fun r h => w_TForwardMark h) h25
  | 26, _ => exact lK_wk (fun r h => w_TForwardHop h) h26
  | 27, _ => exact iK_wk h27
  | 28, _ => exact iK_wk h28
  | 29, _ => exact iK_wk h29
  | 30, _ => exact iK_wk h30
  | 31, _ => exact iK_wk h31
  | 32, _ => exact iK_wk h32
  | 33, _ => exact iK_wk h33
  | 34, _ => exact lK_wk (fun r h => w_TForwardMark h) h34
  | 35, _ => exact lK_wk (fun r h => w_TForwardHop h) h35
  | 36, _ => exact iK_wk h36
  | 37, _ => exact iK_wk h37
  | 38, _ => exact iK_wk h38
  | 39, _ => exact iK_wk h39
  | 40, _ => exact iK_wk h40
  | 41, _ => exact iK_wk h41
  | 42, _ => exact iK_wk h42
  | 43, _ => exact lK_wk (fun r h => w_TForwardMark h) h43
  | 44, _ => exact lK_wk (fun r h => w_TForwardHop h) h44
  | 45, _ => exact iK_wk h45
  | 46, _ => exact iK_wk h46
  | 47, _ => exact iK_wk h47
  | 48, _ => exact iK_wk h48
  | 49, _ => exact iK_wk h49
  | 50, _ => exact iK_wk h50
  | 51, _ => exact iK_wk h51
  | 52, _ => exact lK_wk (fun r h => w_TForwardMark h) h52
  | 53, _ => exact lK_wk (fun r h => w_TForwardHop h) h53
  | 54, _ => exact iK_wk h54
  | 55, _ => exact iK_wk h55
  | 56, _ => exact iK_wk h56
  | 57, _ => exact iK_wk h57
  | 58, _ => exact iK_wk h58
  | 59, _ => exact iK_wk h59
  | 60, _ => exact iK_wk h60
  | 61, _ => exact lK_wk (fun r h => w_TForwardMark h) h61
  | 62, _ => exact lK_wk (fun r h => w_TForwardHop h) h62
  | 63, _ => exact iK_wk h63
  | 64, _ => exact iK_wk h64
  | 65, _ => exact iK_wk h65
  | 66, _ => exact iK_wk h66
  | 67, _ => exact iK_wk h67
  | 68, _ => exact iK_wk h68
  | 69, _ => exact iK_wk h69
  | 70, _ => exact lK_wk (fun r h => w_TForwardMark h) h70
  | 71, _ => exact lK_wk (fun r h => w_TForwardHop h) h71
  | y + 72, hy => omega
theorem e_A8TForward_0 (l : List A8TForward) (x : Nat) : enR c_A8TForward l x 0 = .int .u8 ((((gd l x).x0).Own).x0) := rfl
theorem e_A8TForward_1 (l : List A8TForward) (x : Nat) : enR c_A8TForward l x 1 = .int .u8 ((((gd l x).x0).Own).x1) := rfl
theorem e_A8TForward_2 (l : List A8TForward) (x : Nat) : enR c_A8TForward l x 2 = .int .u8 ((((gd l x).x0).Own).x2) := rfl
theorem e_A8TForward_3 (l : List A8TForward) (x : Nat) : enR c_A8TForward l x 3 = .int .u8 ((((gd l x).x0).Own).x3) := rfl
theorem e_A8TForward_4 (l : List A8TForward) (x : Nat) : enR c_A8TForward l x 4 = .int .u8 ((((gd l x).x0).Own).x4) := rfl
theorem e_A8TForward_5 (l : List A8TForward) (x : Nat) : enR c_A8TForward l x 5 = .int .u8 ((((gd l x).x0).Own).x5) := rfl
theorem e_A8TForward_6 (l : List A8TForward) (x : Nat) : enR c_A8TForward l x 6 = .int .i64 (((gd l x).x0).Seq) := rfl
theorem e_A8TForward_7 (l : List A8TForward) (x : Nat) : enR c_A8TForward l x 7 = .ro 7 (((gd l x).x0).Seen).length false (enR c_TForwardMark (((gd l x).x0).Seen)) := rfl
theorem e_A8TForward_8 (l : List A8TForward) (x : Nat) : enR c_A8TForward l x 8 = .ro 12 (((gd l x).x0).Nexts).length false (enR c_TForwardHop (((gd l x).x0).Nexts)) := rfl
theorem e_A8TForward_9 (l : List A8TForward) (x : Nat) : enR c_A8TForward l x 9 = .int .u8 ((((gd l x).x1).Own).x0) := rfl
theorem e_A8TForward_10 (l : List A8TForward) (x : Nat) : enR c_A8TForward l x 10 = .int .u8 ((((gd l x).x1).Own).x1) := rfl
theorem e_A8TForward_11 (l : List A8TForward) (x : Nat) : enR c_A8TForward l x 11 = .int .u8 ((((gd l x).x1).Own).x2) := rfl
theorem e_A8TForward_12 (l : List A8TForward) (x : Nat) : enR c_A8TForward l x 12 = .int .u8 ((((gd l x).x1).Own).x3) := rfl
theorem e_A8TForward_13 (l : List A8TForward) (x : Nat) : enR c_A8TForward l x 13 = .int .u8 ((((gd l x).x1).Own).x4) := rfl
theorem e_A8TForward_14 (l : List A8TForward) (x : Nat) : enR c_A8TForward l x 14 = .int .u8 ((((gd l x).x1).Own).x5) := rfl
theorem e_A8TForward_15 (l : List A8TForward) (x : Nat) : enR c_A8TForward l x 15 = .int .i64 (((gd l x).x1).Seq) := rfl
theorem e_A8TForward_16 (l : List A8TForward) (x : Nat) : enR c_A8TForward l x 16 = .ro 7 (((gd l x).x1).Seen).length false (enR c_TForwardMark (((gd l x).x1).Seen)) := rfl
theorem e_A8TForward_17 (l : List A8TForward) (x : Nat) : enR c_A8TForward l x 17 = .ro 12 (((gd l x).x1).Nexts).length false (enR c_TForwardHop (((gd l x).x1).Nexts)) := rfl
theorem e_A8TForward_18 (l : List A8TForward) (x : Nat) : enR c_A8TForward l x 18 = .int .u8 ((((gd l x).x2).Own).x0) := rfl
theorem e_A8TForward_19 (l : List A8TForward) (x : Nat) : enR c_A8TForward l x 19 = .int .u8 ((((gd l x).x2).Own).x1) := rfl
theorem e_A8TForward_20 (l : List A8TForward) (x : Nat) : enR c_A8TForward l x 20 = .int .u8 ((((gd l x).x2).Own).x2) := rfl
theorem e_A8TForward_21 (l : List A8TForward) (x : Nat) : enR c_A8TForward l x 21 = .int .u8 ((((gd l x).x2).Own).x3) := rfl
theorem e_A8TForward_22 (l : List A8TForward) (x : Nat) : enR c_A8TForward l x 22 = .int .u8 ((((gd l x).x2).Own).x4) := rfl
theorem e_A8TForward_23 (l : List A8TForward) (x : Nat) : enR c_A8TForward l x 23 = .int .u8 ((((gd l x).x2).Own).x5) := rfl
theorem e_A8TForward_24 (l : List A8TForward) (x : Nat) : enR c_A8TForward l x 24 = .int .i64 (((gd l x).x2).Seq) := rfl
theorem e_A8TForward_25 (l : List A8TForward) (x : Nat) : enR c_A8TForward l x 25 = .ro 7 (((gd l x).x2).Seen).length false (enR c_TForwardMark (((gd l x).x2).Seen)) := rfl
theorem e_A8TForward_26 (l : List A8TForward) (x : Nat) : enR c_A8TForward l x 26 = .ro 12 (((gd l x).x2).Nexts).length false (enR c_TForwardHop (((gd l x).x2).Nexts)) := rfl
theorem e_A8TForward_27 (l : List A8TForward) (x : Nat) : enR c_A8TForward l x 27 = .int .u8 ((((gd l x).x3).Own).x0) := rfl
theorem e_A8TForward_28 (l : List A8TForward) (x : Nat) : enR c_A8TForward l x 28 = .int .u8 ((((gd l x).x3).Own).x1) := rfl
theorem e_A8TForward_29 (l : List A8TForward) (x : Nat) : enR c_A8TForward l x 29 = .int .u8 ((((gd l x).x3).Own).x2) := rfl
theorem e_A8TForward_30 (l : List A8TForward) (x : Nat) : enR c_A8TForward l x 30 = .int .u8 ((((gd l x).x3).Own).x3) := rfl
theorem e_A8TForward_31 (l : List A8TForward) (x : Nat) : enR c_A8TForward l x 31 = .int .u8 ((((gd l x).x3).Own).x4) := rfl
theorem e_A8TForward_32 (l : List A8TForward) (x : Nat) : enR c_A8TForward l x 32 = .int .u8 ((((gd l x).x3).Own).x5) := rfl
theorem e_A8TForward_33 (l : List A8TForward) (x : Nat) : enR c_A8TForward l x 33 = .int .i64 (((gd l x).x3).Seq) := rfl
theorem e_A8TForward_34 (l : List A8TForward) (x : Nat) : enR c_A8TForward l x 34 = .ro 7 (((gd l x).x3).Seen).length false (enR c_TForwardMark (((gd l x).x3).Seen)) := rfl
theorem e_A8TForward_35 (l : List A8TForward) (x : Nat) : enR c_A8TForward l x 35 = .ro 12 (((gd l x).x3).Nexts).length false (enR c_TForwardHop (((gd l x).x3).Nexts)) := rfl
theorem e_A8TForward_36 (l : List A8TForward) (x : Nat) : enR c_A8TForward l x 36 = .int .u8 ((((gd l x).x4).Own).x0) := rfl
theorem e_A8TForward_37 (l : List A8TForward) (x : Nat) : enR c_A8TForward l x 37 = .int .u8 ((((gd l x).x4).Own).x1) := rfl
theorem e_A8TForward_38 (l : List A8TForward) (x : Nat) : enR c_A8TForward l x 38 = .int .u8 ((((gd l x).x4).Own).x2) := rfl
theorem e_A8TForward_39 (l : List A8TForward) (x : Nat) : enR c_A8TForward l x 39 = .int .u8 ((((gd l x).x4).Own).x3) := rfl
theorem e_A8TForward_40 (l : List A8TForward) (x : Nat) : enR c_A8TForward l x 40 = .int .u8 ((((gd l x).x4).Own).x4) := rfl
theorem e_A8TForward_41 (l : List A8TForward) (x : Nat) : enR c_A8TForward l x 41 = .int .u8 ((((gd l x).x4).Own).x5) := rfl
theorem e_A8TForward_42 (l : List A8TForward) (x : Nat) : enR c_A8TForward l x 42 = .int .i64 (((gd l x).x4).Seq) := rfl
theorem e_A8TForward_43 (l : List A8TForward) (x : Nat) : enR c_A8TForward l x 43 = .ro 7 (((gd l x).x4).Seen).length false (enR c_TForwardMark (((gd l x).x4).Seen)) := rfl
theorem e_A8TForward_44 (l : List A8TForward) (x : Nat) : enR c_A8TForward l x 44 = .ro 12 (((gd l x).x4).Nexts).length false (enR c_TForwardHop (((gd l x).x4).Nexts)) := rfl
theorem e_A8TForward_45 (l : List A8TForward) (x : Nat) : enR c_A8TForward l x 45 = .int .u8 ((((gd l x).x5).Own).x0) := rfl
theorem e_A8TForward_46 (l : List A8TForward) (x : Nat) : enR c_A8TForward l x 46 = .int .u8 ((((gd l x).x5).Own).x1) := rfl
theorem e_A8TForward_47 (l : List A8TForward) (x : Nat) : enR c_A8TForward l x 47 = .int .u8 ((((gd l x).x5).Own).x2) := rfl
theorem e_A8TForward_48 (l : List A8TForward) (x : Nat) : enR c_A8TForward l x 48 = .int .u8 ((((gd l x).x5).Own).x3) := rfl
theorem e_A8TForward_49 (l : List A8TForward) (x : Nat) : enR c_A8TForward l x 49 = .int .u8 ((((gd l x).x5).Own).x4) := rfl
theorem e_A8TForward_50 (l : List A8TForward) (x : Nat) : enR c_A8TForward l x 50 = .int .u8 ((((gd l x).x5).Own).x5) := rfl
theorem e_A8TForward_51 (l : List A8TForward) (x : Nat) : enR c_A8TForward l x 51 = .int .i64 (((gd l x).x5).Seq) := rfl
theorem e_A8TForward_52 (l : List A8TForward) (x : Nat) : enR c_A8TForward l x 52 = .ro 7 (((gd l x).x5).Seen).length false (enR c_TForwardMark (((gd l x).x5).Seen)) := rfl
theorem e_A8TForward_53 (l : List A8TForward) (x : Nat) : enR c_A8TForward l x 53 = .ro 12 (((gd l x).x5).Nexts).length false (enR c_TForwardHop (((gd l x).x5).Nexts)) := rfl
theorem e_A8TForward_54 (l : List A8TForward) (x : Nat) : enR c_A8TForward l x 54 = .int .u8 ((((gd l x).x6).Own).x0) := rfl
theorem e_A8TForward_55 (l : List A8TForward) (x : Nat) : enR c_A8TForward l x 55 = .int .u8 ((((gd l x).x6).Own).x1) := rfl
theorem e_A8TForward_56 (l : List A8TForward) (x : Nat) : enR c_A8TForward l x 56 = .int .u8 ((((gd l x).x6).Own).x2) := rfl
theorem e_A8TForward_57 (l : List A8TForward) (x : Nat) : enR c_A8TForward l x 57 = .int .u8 ((((gd l x).x6).Own).x3) := rfl
theorem e_A8TForward_58 (l : List A8TForward) (x : Nat) : enR c_A8TForward l x 58 = .int .u8 ((((gd l x).x6).Own).x4) := rfl
theorem e_A8TForward_59 (l : List A8TForward) (x : Nat) : enR c_A8TForward l x 59 = .int .u8 ((((gd l x).x6).Own).x5) := rfl
theorem e_A8TForward_60 (l : List A8TForward) (x : Nat) : enR c_A8TForward l x 60 = .int .i64 (((gd l x).x6).Seq) := rfl
theorem e_A8TForward_61 (l : List A8TForward) (x : Nat) : enR c_A8TForward l x 61 = .ro 7 (((gd l x).x6).Seen).length false (enR c_TForwardMark (((gd l x).x6).Seen)) := rfl
theorem e_A8TForward_62 (l : List A8TForward) (x : Nat) : enR c_A8TForward l x 62 = .ro 12 (((gd l x).x6).Nexts).length false (enR c_TForwardHop (((gd l x).x6).Nexts)) := rfl
theorem e_A8TForward_63 (l : List A8TForward) (x : Nat) : enR c_A8TForward l x 63 = .int .u8 ((((gd l x).x7).Own).x0) := rfl
theorem e_A8TForward_64 (l : List A8TForward) (x : Nat) : enR c_A8TForward l x 64 = .int .u8 ((((gd l x).x7).Own).x1) := rfl
theorem e_A8TForward_65 (l : List A8TForward) (x : Nat) : enR c_A8TForward l x 65 = .int .u8 ((((gd l x).x7).Own).x2) := rfl
theorem e_A8TForward_66 (l : List A8TForward) (x : Nat) : enR c_A8TForward l x 66 = .int .u8 ((((gd l x).x7).Own).x3) := rfl
theorem e_A8TForward_67 (l : List A8TForward) (x : Nat) : enR c_A8TForward l x 67 = .int .u8 ((((gd l x).x7).Own).x4) := rfl
theorem e_A8TForward_68 (l : List A8TForward) (x : Nat) : enR c_A8TForward l x 68 = .int .u8 ((((gd l x).x7).Own).x5) := rfl
theorem e_A8TForward_69 (l : List A8TForward) (x : Nat) : enR c_A8TForward l x 69 = .int .i64 (((gd l x).x7).Seq) := rfl
theorem e_A8TForward_70 (l : List A8TForward) (x : Nat) : enR c_A8TForward l x 70 = .ro 7 (((gd l x).x7).Seen).length false (enR c_TForwardMark (((gd l x).x7).Seen)) := rfl
theorem e_A8TForward_71 (l : List A8TForward) (x : Nat) : enR c_A8TForward l x 71 = .ro 12 (((gd l x).x7).Nexts).length false (enR c_TForwardHop (((gd l x).x7).Nexts)) := rfl
theorem fit_A8TForward (n : Nat) (l : List A8TForward) : Fit k_A8TForward n (enR c_A8TForward l) = True := eq_true (Fit_enR kc_A8TForward)
theorem de_A8TForward (l : List A8TForward) : deR g_A8TForward l.length (enR c_A8TForward l) = l := deR_enR gc_A8TForward l
theorem eta_A8TForward (a : A8TForward) : A8TForward.mk a.x0 a.x1 a.x2 a.x3 a.x4 a.x5 a.x6 a.x7 = a := rfl
theorem wA_A8TForward {v : AV} (h : aK 72 k_A8TForward v) : WkV (.agg (c_A8TForward (g_A8TForward (aL v)))) v /\ nref (.agg (c_A8TForward (g_A8TForward (aL v)))) := aK_wk (f := c_A8TForward) (g := g_A8TForward) (fun r h => w_A8TForward h) rfl (by simp only [c_A8TForward, nrefL, nref, and_self]) h
structure A8i64 where
  x0 : Int
  x1 : Int
  x2 : Int
  x3 : Int
  x4 : Int
  x5 : Int
  x6 : Int
  x7 : Int
  deriving Inhabited
def c_A8i64 (a : A8i64) : List AV := [.int .i64 a.x0, .int .i64 a.x1, .int .i64 a.x2, .int .i64 a.x3, .int .i64 a.x4, .int .i64 a.x5, .int .i64 a.x6, .int .i64 a.x7]
def g_A8i64 (f : Nat -> AV) : A8i64 := ⟨iA (f 0), iA (f 1), iA (f 2), iA (f 3), iA (f 4), iA (f 5), iA (f 6), iA (f 7)⟩
def k_A8i64 (f : Nat -> AV) : Prop := iK .i64 (f 0) /\ iK .i64 (f 1) /\ iK .i64 (f 2) /\ iK .i64 (f 3) /\ iK .i64 (f 4) /\ iK .i64 (f 5) /\ iK .i64 (f 6) /\ iK .i64 (f 7)
theorem gc_A8i64 (a : A8i64) : g_A8i64 (getL (c_A8i64 a)) = a := by
  simp only [g_A8i64, c_A8i64, getL, iA, bA, sA, lA]
theorem kc_A8i64 (a : A8i64) : k_A8i64 (getL (c_A8i64 a)) := by
  simp only [k_A8i64, c_A8i64, getL, iK, bK, sK, lK, or_true, true_and, and_true, and_self]
theorem nr_A8i64 (a : A8i64) : nrefL (c_A8i64 a) := by simp only [c_A8i64, nrefL, nref, and_self]
instance : NOf c_A8i64 := ⟨fun a => by simp only [c_A8i64, noroL, noro, and_self]⟩
instance : NRf c_A8i64 := ⟨nr_A8i64⟩
instance : KCf k_A8i64 c_A8i64 := ⟨kc_A8i64⟩
theorem w_A8i64 {f : Nat -> AV} (h : k_A8i64 f) : ∀ y, y < 8 -> WkV (getL (c_A8i64 (g_A8i64 f)) y) (f y) /\ nref (getL (c_A8i64 (g_A8i64 f)) y) := by
  obtain ⟨h0, h1, h2, h3, h4, h5, h6, h7⟩ := h
  intro y hy
  match y, hy with
  | 0, _ => exact iK_wk h0
  | 1, _ => exact iK_wk h1
  | 2, _ => exact iK_wk h2
  | 3, _ => exact iK_wk h3
  | 4, _ => exact iK_wk h4
  | 5, _ => exact iK_wk h5
  | 6, _ => exact iK_wk h6
  | 7, _ => exact iK_wk h7
  | y + 8, hy => omega
theorem e_A8i64_0 (l : List A8i64) (x : Nat) : enR c_A8i64 l x 0 = .int .i64 ((gd l x).x0) := rfl
theorem e_A8i64_1 (l : List A8i64) (x : Nat) : enR c_A8i64 l x 1 = .int .i64 ((gd l x).x1) := rfl
theorem e_A8i64_2 (l : List A8i64) (x : Nat) : enR c_A8i64 l x 2 = .int .i64 ((gd l x).x2) := rfl
theorem e_A8i64_3 (l : List A8i64) (x : Nat) : enR c_A8i64 l x 3 = .int .i64 ((gd l x).x3) := rfl
theorem e_A8i64_4 (l : List A8i64) (x : Nat) : enR c_A8i64 l x 4 = .int .i64 ((gd l x).x4) := rfl
theorem e_A8i64_5 (l : List A8i64) (x : Nat) : enR c_A8i64 l x 5 = .int .i64 ((gd l x).x5) := rfl
theorem e_A8i64_6 (l : List A8i64) (x : Nat) : enR c_A8i64 l x 6 = .int .i64 ((gd l x).x6) := rfl
theorem e_A8i64_7 (l : List A8i64) (x : Nat) : enR c_A8i64 l x 7 = .int .i64 ((gd l x).x7) := rfl
theorem fit_A8i64 (n : Nat) (l : List A8i64) : Fit k_A8i64 n (enR c_A8i64 l) = True := eq_true (Fit_enR kc_A8i64)
theorem de_A8i64 (l : List A8i64) : deR g_A8i64 l.length (enR c_A8i64 l) = l := deR_enR gc_A8i64 l
theorem eta_A8i64 (a : A8i64) : A8i64.mk a.x0 a.x1 a.x2 a.x3 a.x4 a.x5 a.x6 a.x7 = a := rfl
theorem wA_A8i64 {v : AV} (h : aK 8 k_A8i64 v) : WkV (.agg (c_A8i64 (g_A8i64 (aL v)))) v /\ nref (.agg (c_A8i64 (g_A8i64 (aL v)))) := aK_wk (f := c_A8i64) (g := g_A8i64) (fun r h => w_A8i64 h) rfl (by simp only [c_A8i64, nrefL, nref, and_self]) h
def c_li64 (a : List Int) : List AV := [.ro 1 a.length false (enR c_i64 a)]
def g_li64 (f : Nat -> AV) : List Int := lA g_i64 (f 0)
def k_li64 (f : Nat -> AV) : Prop := lK k_i64 1 (f 0)
theorem gc_li64 (a : List Int) : g_li64 (getL (c_li64 a)) = a := by
  simp only [g_li64, c_li64, getL, iA, bA, sA, lA, deR_enR gc_i64]
theorem kc_li64 (a : List Int) : k_li64 (getL (c_li64 a)) := by
  simp only [k_li64, c_li64, getL, iK, bK, sK, lK, or_true, true_and, and_true, and_self, Fit_enR kc_i64]
theorem nr_li64 (a : List Int) : nrefL (c_li64 a) := by simp only [c_li64, nrefL, nref, and_self]
instance : NRf c_li64 := ⟨nr_li64⟩
instance : KCf k_li64 c_li64 := ⟨kc_li64⟩
theorem w_li64 {f : Nat -> AV} (h : k_li64 f) : ∀ y, y < 1 -> WkV (getL (c_li64 (g_li64 f)) y) (f y) /\ nref (getL (c_li64 (g_li64 f)) y) := by
  have h0 := h
  intro y hy
  match y, hy with
  | 0, _ => exact lK_wk (fun r h => w_i64 h) h0
  | y + 1, hy => omega
theorem e_li64_0 (l : List (List Int)) (x : Nat) : enR c_li64 l x 0 = .ro 1 (gd l x).length false (enR c_i64 (gd l x)) := rfl
theorem fit_li64 (n : Nat) (l : List (List Int)) : Fit k_li64 n (enR c_li64 l) = True := eq_true (Fit_enR kc_li64)
theorem de_li64 (l : List (List Int)) : deR g_li64 l.length (enR c_li64 l) = l := deR_enR gc_li64 l
structure A8b where
  x0 : Bool
  x1 : Bool
  x2 : Bool
  x3 : Bool
  x4 : Bool
  x5 : Bool
  x6 : Bool
  x7 : Bool
  deriving Inhabited
def c_A8b (a : A8b) : List AV := [.bool a.x0, .bool a.x1, .bool a.x2, .bool a.x3, .bool a.x4, .bool a.x5, .bool a.x6, .bool a.x7]
def g_A8b (f : Nat -> AV) : A8b := ⟨bA (f 0), bA (f 1), bA (f 2), bA (f 3), bA (f 4), bA (f 5), bA (f 6), bA (f 7)⟩
def k_A8b (f : Nat -> AV) : Prop := bK (f 0) /\ bK (f 1) /\ bK (f 2) /\ bK (f 3) /\ bK (f 4) /\ bK (f 5) /\ bK (f 6) /\ bK (f 7)
theorem gc_A8b (a : A8b) : g_A8b (getL (c_A8b a)) = a := by
  simp only [g_A8b, c_A8b, getL, iA, bA, sA, lA]
theorem kc_A8b (a : A8b) : k_A8b (getL (c_A8b a)) := by
  simp only [k_A8b, c_A8b, getL, iK, bK, sK, lK, or_true, true_and, and_true, and_self]
theorem nr_A8b (a : A8b) : nrefL (c_A8b a) := by simp only [c_A8b, nrefL, nref, and_self]
instance : NOf c_A8b := ⟨fun a => by simp only [c_A8b, noroL, noro, and_self]⟩
instance : NRf c_A8b := ⟨nr_A8b⟩
instance : KCf k_A8b c_A8b := ⟨kc_A8b⟩
theorem w_A8b {f : Nat -> AV} (h : k_A8b f) : ∀ y, y < 8 -> WkV (getL (c_A8b (g_A8b f)) y) (f y) /\ nref (getL (c_A8b (g_A8b f)) y) := by
  obtain ⟨h0, h1, h2, h3, h4, h5, h6, h7⟩ := h
  intro y hy
  match y, hy with
  | 0, _ => exact bK_wk h0
  | 1, _ => exact bK_wk h1
  | 2, _ => exact bK_wk h2
  | 3, _ => exact bK_wk h3
  | 4, _ => exact bK_wk h4
  | 5, _ => exact bK_wk h5
  | 6, _ => exact bK_wk h6
  | 7, _ => exact bK_wk h7
  | y + 8, hy => omega
theorem e_A8b_0 (l : List A8b) (x : Nat) : enR c_A8b l x 0 = .bool ((gd l x).x0) := rfl
theorem e_A8b_1 (l : List A8b) (x : Nat) : enR c_A8b l x 1 = .bool ((gd l x).x1) := rfl
theorem e_A8b_2 (l : List A8b) (x : Nat) : enR c_A8b l x 2 = .bool ((gd l x).x2) := rfl
theorem e_A8b_3 (l : List A8b) (x : Nat) : enR c_A8b l x 3 = .bool ((gd l x).x3) := rfl
theorem e_A8b_4 (l : List A8b) (x : Nat) : enR c_A8b l x 4 = .bool ((gd l x).x4) := rfl
theorem e_A8b_5 (l : List A8b) (x : Nat) : enR c_A8b l x 5 = .bool ((gd l x).x5) := rfl
theorem e_A8b_6 (l : List A8b) (x : Nat) : enR c_A8b l x 6 = .bool ((gd l x).x6) := rfl
theorem e_A8b_7 (l : List A8b) (x : Nat) : enR c_A8b l x 7 = .bool ((gd l x).x7) := rfl
theorem fit_A8b (n : Nat) (l : List A8b) : Fit k_A8b n (enR c_A8b l) = True := eq_true (Fit_enR kc_A8b)
theorem de_A8b (l : List A8b) : deR g_A8b l.length (enR c_A8b l) = l := deR_enR gc_A8b l
theorem eta_A8b (a : A8b) : A8b.mk a.x0 a.x1 a.x2 a.x3 a.x4 a.x5 a.x6 a.x7 = a := rfl
theorem wA_A8b {v : AV} (h : aK 8 k_A8b v) : WkV (.agg (c_A8b (g_A8b (aL v)))) v /\ nref (.agg (c_A8b (g_A8b (aL v)))) := aK_wk (f := c_A8b) (g := g_A8b) (fun r h => w_A8b h) rfl (by simp only [c_A8b, nrefL, nref, and_self]) h
def c_lb (a : List Bool) : List AV := [.ro 1 a.length false (enR c_b a)]
def g_lb (f : Nat -> AV) : List Bool := lA g_b (f 0)
def k_lb (f : Nat -> AV) : Prop := lK k_b 1 (f 0)
theorem gc_lb (a : List Bool) : g_lb (getL (c_lb a)) = a := by
  simp only [g_lb, c_lb, getL, iA, bA, sA, lA, deR_enR gc_b]
theorem kc_lb (a : List Bool) : k_lb (getL (c_lb a)) := by
  simp only [k_lb, c_lb, getL, iK, bK, sK, lK, or_true, true_and, and_true, and_self, Fit_enR kc_b]
theorem nr_lb (a : List Bool) : nrefL (c_lb a) := by simp only [c_lb, nrefL, nref, and_self]
instance : NRf c_lb := ⟨nr_lb⟩
instance : KCf k_lb c_lb := ⟨kc_lb⟩
theorem w_lb {f : Nat -> AV} (h : k_lb f) : ∀ y, y < 1 -> WkV (getL (c_lb (g_lb f)) y) (f y) /\ nref (getL (c_lb (g_lb f)) y) := by
  have h0 := h
  intro y hy
  match y, hy with
  | 0, _ => exact lK_wk (fun r h => w_b h) h0
  | y + 1, hy => omega
theorem e_lb_0 (l : List (List Bool)) (x : Nat) : enR c_lb l x 0 = .ro 1 (gd l x).length false (enR c_b (gd l x)) := rfl
theorem fit_lb (n : Nat) (l : List (List Bool)) : Fit k_lb n (enR c_lb l) = True := eq_true (Fit_enR kc_lb)
theorem de_lb (l : List (List Bool)) : deR g_lb l.length (enR c_lb l) = l := deR_enR gc_lb l
structure A8A8b where
  x0 : A8b
  x1 : A8b
  x2 : A8b
  x3 : A8b
  x4 : A8b
  x5 : A8b
  x6 : A8b
  x7 : A8b
  deriving Inhabited
def c_A8A8b (a : A8A8b) : List AV := (.bool a.x0.x0 :: .bool a.x0.x1 :: .bool a.x0.x2 :: .bool a.x0.x3 :: .bool a.x0.x4 :: .bool a.x0.x5 :: .bool a.x0.x6 :: .bool a.x0.x7 :: .bool a.x1.x0 :: .bool a.x1.x1 :: .bool a.x1.x2 :: .bool a.x1.x3 :: .bool a.x1.x4 :: .bool a.x1.x5 :: .bool a.x1.x6 :: .bool a.x1.x7 :: .bool a.x2.x0 :: .bool a.x2.x1 :: .bool a.x2.x2 :: .bool a.x2.x3 :: .bool a.x2.x4 :: .bool a.x2.x5 :: .bool a.x2.x6 :: .bool a.x2.x7 :: .bool a.x3.x0 :: .bool a.x3.x1 :: .bool a.x3.x2 :: .bool a.x3.x3 :: .bool a.x3.x4 :: .bool a.x3.x5 :: .bool a.x3.x6 :: .bool a.x3.x7 :: .bool a.x4.x0 :: .bool a.x4.x1 :: .bool a.x4.x2 :: .bool a.x4.x3 :: .bool a.x4.x4 :: .bool a.x4.x5 :: .bool a.x4.x6 :: .bool a.x4.x7 :: .bool a.x5.x0 :: .bool a.x5.x1 :: .bool a.x5.x2 :: .bool a.x5.x3 :: .bool a.x5.x4 :: .bool a.x5.x5 :: .bool a.x5.x6 :: .bool a.x5.x7 :: .bool a.x6.x0 :: .bool a.x6.x1 :: .bool a.x6.x2 :: .bool a.x6.x3 :: .bool a.x6.x4 :: .bool a.x6.x5 :: .bool a.x6.x6 :: .bool a.x6.x7 :: .bool a.x7.x0 :: .bool a.x7.x1 :: .bool a.x7.x2 :: .bool a.x7.x3 :: .bool a.x7.x4 :: .bool a.x7.x5 :: .bool a.x7.x6 :: .bool a.x7.x7 :: [])
def g_A8A8b (f : Nat -> AV) : A8A8b := ⟨⟨bA (f 0), bA (f 1), bA (f 2), bA (f 3), bA (f 4), bA (f 5), bA (f 6), bA (f 7)⟩, ⟨bA (f 8), bA (f 9), bA (f 10), bA (f 11), bA (f 12), bA (f 13), bA (f 14), bA (f 15)⟩, ⟨bA (f 16), bA (f 17), bA (f 18), bA (f 19), bA (f 20), bA (f 21), bA (f 22), bA (f 23)⟩, ⟨bA (f 24), bA (f 25), bA (f 26), bA (f 27), bA (f 28), bA (f 29), bA (f 30), bA (f 31)⟩, ⟨bA (f 32), bA (f 33), bA (f 34), bA (f 35), bA (f 36), bA (f 37), bA (f 38), bA (f 39)⟩, ⟨bA (f 40), bA (f 41), bA (f 42), bA (f 43), bA (f 44), bA (f 45), bA (f 46), bA (f 47)⟩, ⟨bA (f 48), bA (f 49), bA (f 50), bA (f 51), bA (f 52), bA (f 53), bA (f 54), bA (f 55)⟩, ⟨bA (f 56), bA (f 57), bA (f 58), bA (f 59), bA (f 60), bA (f 61), bA (f 62), bA (f 63)⟩⟩
def k_A8A8b (f : Nat -> AV) : Prop := bK (f 0) /\ bK (f 1) /\ bK (f 2) /\ bK (f 3) /\ bK (f 4) /\ bK (f 5) /\ bK (f 6) /\ bK (f 7) /\ bK (f 8) /\ bK (f 9) /\ bK (f 10) /\ bK (f 11) /\ bK (f 12) /\ bK (f 13) /\ bK (f 14) /\ bK (f 15) /\ bK (f 16) /\ bK (f 17) /\ bK (f 18) /\ bK (f 19) /\ bK (f 20) /\ bK (f 21) /\ bK (f 22) /\ bK (f 23) /\ bK (f 24) /\ bK (f 25) /\ bK (f 26) /\ bK (f 27) /\ bK (f 28) /\ bK (f 29) /\ bK (f 30) /\ bK (f 31) /\ bK (f 32) /\ bK (f 33) /\ bK (f 34) /\ bK (f 35) /\ bK (f 36) /\ bK (f 37) /\ bK (f 38) /\ bK (f 39) /\ bK (f 40) /\ bK (f 41) /\ bK (f 42) /\ bK (f 43) /\ bK (f 44) /\ bK (f 45) /\ bK (f 46) /\ bK (f 47) /\ bK (f 48) /\ bK (f 49) /\ bK (f 50) /\ bK (f 51) /\ bK (f 52) /\ bK (f 53) /\ bK (f 54) /\ bK (f 55) /\ bK (f 56) /\ bK (f 57) /\ bK (f 58) /\ bK (f 59) /\ bK (f 60) /\ bK (f 61) /\ bK (f 62) /\ bK (f 63)
theorem gc_A8A8b (a : A8A8b) : g_A8A8b (getL (c_A8A8b a)) = a := by
  simp only [g_A8A8b, c_A8A8b, getL, iA, bA, sA, lA]
theorem kc_A8A8b (a : A8A8b) : k_A8A8b (getL (c_A8A8b a)) := by
  simp only [k_A8A8b, c_A8A8b, getL, iK, bK, sK, lK, or_true, true_and, and_true, and_self]
theorem nr_A8A8b (a : A8A8b) : nrefL (c_A8A8b a) := by simp only [c_A8A8b, nrefL, nref, and_self]
instance : NOf c_A8A8b := ⟨fun a => by simp only [c_A8A8b, noroL, noro, and_self]⟩
instance : NRf c_A8A8b := ⟨nr_A8A8b⟩
instance : KCf k_A8A8b c_A8A8b := ⟨kc_A8A8b⟩
theorem w_A8A8b {f : Nat -> AV} (h : k_A8A8b f) : ∀ y, y < 64 -> WkV (getL (c_A8A8b (g_A8A8b f)) y) (f y) /\ nref (getL (c_A8A8b (g_A8A8b f)) y) := by
  obtain ⟨h0, h1, h2, h3, h4, h5, h6, h7, h8, h9, h10, h11, h12, h13, h14, h15, h16, h17, h18, h19, h20, h21, h22, h23, h24, h25, h26, h27, h28, h29, h30, h31, h32, h33, h34, h35, h36, h37, h38, h39, h40, h41, h42, h43, h44, h45, h46, h47, h48, h49, h50, h51, h52, h53, h54, h55, h56, h57, h58, h59, h60, h61, h62, h63⟩ := h
  intro y hy
  match y, hy with
  | 0, _ => exact bK_wk h0
  | 1, _ => exact bK_wk h1
  | 2, _ => exact bK_wk h2
  | 3, _ => exact bK_wk h3
  | 4, _ => exact bK_wk h4
  | 5, _ => exact bK_wk h5
  | 6, _ => exact bK_wk h6
  | 7, _ => exact bK_wk h7
  | 8, _ => exact bK_wk h8
  | 9, _ => exact bK_wk h9
  | 10, _ => exact bK_wk h10
  | 11, _ => exact bK_wk h11
  | 12, _ => exact bK_wk h12
  | 13, _ => exact bK_wk h13
  | 14, _ => exact bK_wk h14
  | 15, _ => exact bK_wk h15
  | 16, _ => exact bK_wk h16
  | 17, _ => exact bK_wk h17
  | 18, _ => exact bK_wk h18
  | 19, _ => exact bK_wk h19
  | 20, _ => exact bK_wk h20
  | 21, _ => exact bK_wk h21
  | 22, _ => exact bK_wk h22
  | 23, _ => exact bK_wk h23
  | 24, _ => exact bK_wk h24
  | 25, _ => exact bK_wk h25
  | 26, _ => exact bK_wk h26
  | 27, _ => exact bK_wk h27
  | 28, _ => exact bK_wk h28
  | 29, _ => exact bK_wk h29
  | 30, _ => exact bK_wk h30
  | 31, _ => exact bK_wk h31
  | 32, _ => exact bK_wk h32
  | 33, _ => exact bK_wk h33
  | 34, _ => exact bK_wk h34
  | 35, _ => exact bK_wk h35
  | 36, _ => exact bK_wk h36
  | 37, _ => exact bK_wk h37
  | 38, _ => exact bK_wk h38
  | 39, _ => exact bK_wk h39
  | 40, _ => exact bK_wk h40
  | 41, _ => exact bK_wk h41
  | 42, _ => exact bK_wk h42
  | 43, _ => exact bK_wk h43
  | 44, _ => exact bK_wk h44
  | 45, _ => exact bK_wk h45
  | 46, _ => exact bK_wk h46
  | 47, _ => exact bK_wk h47
  | 48, _ => exact bK_wk h48
  | 49, _ => exact bK_wk h49
  | 50, _ => exact bK_wk h50
  | 51, _ => exact bK_wk h51
  | 52, _ => exact bK_wk h52
  | 53, _ => exact bK_wk h53
  | 54, _ => exact bK_wk h54
  | 55, _ => exact bK_wk h55
  | 56, _ => exact bK_wk h56
  | 57, _ => exact bK_wk h57
  | 58, _ => exact bK_wk h58
  | 59, _ => exact bK_wk h59
  | 60, _ => exact bK_wk h60
  | 61, _ => exact bK_wk h61
  | 62, _ => exact bK_wk h62
  | 63, _ => exact bK_wk h63
  | y + 64, hy => omega
theorem e_A8A8b_0 (l : List A8A8b) (x : Nat) : enR c_A8A8b l x 0 = .bool (((gd l x).x0).x0) := rfl
theorem e_A8A8b_1 (l : List A8A8b) (x : Nat) : enR c_A8A8b l x 1 = .bool (((gd l x).x0).x1) := rfl
theorem e_A8A8b_2 (l : List A8A8b) (x : Nat) : enR c_A8A8b l x 2 = .bool (((gd l x).x0).x2) := rfl
theorem e_A8A8b_3 (l : List A8A8b) (x : Nat) : enR c_A8A8b l x 3 = .bool (((gd l x).x0).x3) := rfl
theorem e_A8A8b_4 (l : List A8A8b) (x : Nat) : enR c_A8A8b l x 4 = .bool (((gd l x).x0).x4) := rfl
theorem e_A8A8b_5 (l : List A8A8b) (x : Nat) : enR c_A8A8b l x 5 = .bool (((gd l x).x0).x5) := rfl
theorem e_A8A8b_6 (l : List A8A8b) (x : Nat) : enR c_A8A8b l x 6 = .bool (((gd l x).x0).x6) := rfl
theorem e_A8A8b_7 (l : List A8A8b) (x : Nat) : enR c_A8A8b l x 7 = .bool (((gd l x).x0).x7) := rfl
theorem e_A8A8b_8 (l : List A8A8b) (x : Nat) : enR c_A8A8b l x 8 = .bool (((gd l x).x1).x0) := rfl
theorem e_A8A8b_9 (l : List A8A8b) (x : Nat) : enR c_A8A8b l x 9 = .bool (((gd l x).x1).x1) := rfl
theorem e_A8A8b_10 (l : List A8A8b) (x : Nat) : enR c_A8A8b l x 10 = .bool (((gd l x).x1).x2) := rfl
theorem e_A8A8b_11 (l : List A8A8b) (x : Nat) : enR c_A8A8b l x 11 = .bool (((gd l x).x1).x3) := rfl
theorem e_A8A8b_12 (l : List A8A8b) (x : Nat) : enR c_A8A8b l x 12 = .bool (((gd l x).x1).x4) := rfl
theorem e_A8A8b_13 (l : List A8A8b) (x : Nat) : enR c_A8A8b l x 13 = .bool (((gd l x).x1).x5) := rfl
theorem e_A8A8b_14 (l : List A8A8b) (x : Nat) : enR c_A8A8b l x 14 = .bool (((gd l x).x1).x6) := rfl
theorem e_A8A8b_15 (l : List A8A8b) (x : Nat) : enR c_A8A8b l x 15 = .bool (((gd l x).x1).x7) := rfl
theorem e_A8A8b_16 (l : List A8A8b) (x : Nat) : enR c_A8A8b l x 16 = .bool (((gd l x).x2).x0) := rfl
theorem e_A8A8b_17 (l : List A8A8b) (x : Nat) : enR c_A8A8b l x 17 = .bool (((gd l x).x2).x1) := rfl
theorem e_A8A8b_18 (l : List A8A8b) (x : Nat) : enR c_A8A8b l x 18 = .bool (((gd l x).x2).x2) := rfl
theorem e_A8A8b_19 (l : List A8A8b) (x : Nat) : enR c_A8A8b l x 19 = .bool (((gd l x).x2).x3) := rfl
theorem e_A8A8b_20 (l : List A8A8b) (x : Nat) : enR c_A8A8b l x 20 = .bool (((gd l x).x2).x4) := rfl
theorem e_A8A8b_21 (l : List A8A8b) (x : Nat) : enR c_A8A8b l x 21 = .bool (((gd l x).x2).x5) := rfl
theorem e_A8A8b_22 (l : List A8A8b) (x : Nat) : enR c_A8A8b l x 22 = .bool (((gd l x).x2).x6) := rfl
theorem e_A8A8b_23 (l : List A8A8b) (x : Nat) : enR c_A8A8b l x 23 = .bool (((gd l x).x2).x7) := rfl
theorem e_A8A8b_24 (l : List A8A8b) (x : Nat) : enR c_A8A8b l x 24 = .bool (((gd l x).x3).x0) := rfl
theorem e_A8A8b_25 (l : List A8A8b) (x : Nat) : enR c_A8A8b l x 25 = .bool (((gd l x).x3).x1) := rfl
theorem e_A8A8b_26 (l : List A8A8b) (x : Nat) : enR c_A8A8b l x 26 = .bool (((gd l x).x3).x2) := rfl
theorem e_A8A8b_27 (l : List A8A8b) (x : Nat) : enR c_A8A8b l x 27 = .bool (((gd l x).x3).x3) := rfl
theorem e_A8A8b_28 (l : List A8A8b) (x : Nat) : enR c_A8A8b l x 28 = .bool (((gd l x).x3).x4) := rfl
theorem e_A8A8b_29 (l : List A8A8b) (x : Nat) : enR c_A8A8b l x 29 = .bool (((gd l x).x3).x5) := rfl
theorem e_A8A8b_30 (l : List A8A8b) (x : Nat) : enR c_A8A8b l x 30 = .bool (((gd l x).x3).x6) := rfl
theorem e_A8A8b_31 (l : List A8A8b) (x : Nat) : enR c_A8A8b l x 31 = .bool (((gd l x).x3).x7) := rfl
theorem e_A8A8b_32 (l : List A8A8b) (x : Nat) : enR c_A8A8b l x 32 = .bool (((gd l x).x4).x0) := rfl
theorem e_A8A8b_33 (l : List A8A8b) (x : Nat) : enR c_A8A8b l x 33 = .bool (((gd l x).x4).x1) := rfl
theorem e_A8A8b_34 (l : List A8A8b) (x : Nat) : enR c_A8A8b l x 34 = .bool (((gd l x).x4).x2) := rfl
theorem e_A8A8b_35 (l : List A8A8b) (x : Nat) : enR c_A8A8b l x 35 = .bool (((gd l x).x4).x3) := rfl
theorem e_A8A8b_36 (l : List A8A8b) (x : Nat) : enR c_A8A8b l x 36 = .bool (((gd l x).x4).x4) := rfl
theorem e_A8A8b_37 (l : List A8A8b) (x : Nat) : enR c_A8A8b l x 37 = .bool (((gd l x).x4).x5) := rfl
theorem e_A8A8b_38 (l : List A8A8b) (x : Nat) : enR c_A8A8b l x 38 = .bool (((gd l x).x4).x6) := rfl
theorem e_A8A8b_39 (l : List A8A8b) (x : Nat) : enR c_A8A8b l x 39 = .bool (((gd l x).x4).x7) := rfl
theorem e_A8A8b_40 (l : List A8A8b) (x : Nat) : enR c_A8A8b l x 40 = .bool (((gd l x).x5).x0) := rfl
theorem e_A8A8b_41 (l : List A8A8b) (x : Nat) : enR c_A8A8b l x 41 = .bool (((gd l x).x5).x1) := rfl
theorem e_A8A8b_42 (l : List A8A8b) (x : Nat) : enR c_A8A8b l x 42 = .bool (((gd l x).x5).x2) := rfl
theorem e_A8A8b_43 (l : List A8A8b) (x : Nat) : enR c_A8A8b l x 43 = .bool (((gd l x).x5).x3) := rfl
theorem e_A8A8b_44 (l : List A8A8b) (x : Nat) : enR c_A8A8b l x 44 = .bool (((gd l x).x5).x4) := rfl
theorem e_A8A8b_45 (l : List A8A8b) (x : Nat) : enR c_A8A8b l x 45 = .bool (((gd l x).x5).x5) := rfl
theorem e_A8A8b_46 (l : List A8A8b) (x : Nat) : enR c_A8A8b l x 46 = .bool (((gd l x).x5).x6) := rfl
theorem e_A8A8b_47 (l : List A8A8b) (x : Nat) : enR c_A8A8b l x 47 = .bool (((gd l x).x5).x7) := rfl
theorem e_A8A8b_48 (l : List A8A8b) (x : Nat) : enR c_A8A8b l x 48 = .bool (((gd l x).x6).x0) := rfl
theorem e_A8A8b_49 (l : List A8A8b) (x : Nat) : enR c_A8A8b l x 49 = .bool (((gd l x).x6).x1) := rfl
theorem e_A8A8b_50 (l : List A8A8b) (x : Nat) : enR c_A8A8b l x 50 = .bool (((gd l x).x6).x2) := rfl
theorem e_A8A8b_51 (l : List A8A8b) (x : Nat) : enR c_A8A8b l x 51 = .bool (((gd l x).x6).x3) := rfl
theorem e_A8A8b_52 (l : List A8A8b) (x : Nat) : enR c_A8A8b l x 52 = .bool (((gd l x).x6).x4) := rfl
theorem e_A8A8b_53 (l : List A8A8b) (x : Nat) : enR c_A8A8b l x 53 = .bool (((gd l x).x6).x5) := rfl
theorem e_A8A8b_54 (l : List A8A8b) (x : Nat) : enR c_A8A8b l x 54 = .bool (((gd l x).x6).x6) := rfl
theorem e_A8A8b_55 (l : List A8A8b) (x : Nat) : enR c_A8A8b l x 55 = .bool (((gd l x).x6).x7) := rfl
theorem e_A8A8b_56 (l : List A8A8b) (x : Nat) : enR c_A8A8b l x 56 = .bool (((gd l x).x7).x0) := rfl
theorem e_A8A8b_57 (l : List A8A8b) (x : Nat) : enR c_A8A8b l x 57 = .bool (((gd l x).x7).x1) := rfl
theorem e_A8A8b_58 (l : List A8A8b) (x : Nat) : enR c_A8A8b l x 58 = .bool (((gd l x).x7).x2) := rfl
theorem e_A8A8b_59 (l : List A8A8b) (x : Nat) : enR c_A8A8b l x 59 = .bool (((gd l x).x7).x3) := rfl
theorem e_A8A8b_60 (l : List A8A8b) (x : Nat) : enR c_A8A8b l x 60 = .bool (((gd l x).x7).x4) := rfl
theorem e_A8A8b_61 (l : List A8A8b) (x : Nat) : enR c_A8A8b l x 61 = .bool (((gd l x).x7).x5) := rfl
theorem e_A8A8b_62 (l : List A8A8b) (x : Nat) : enR c_A8A8b l x 62 = .bool (((gd l x).x7).x6) := rfl
theorem e_A8A8b_63 (l : List A8A8b) (x : Nat) : enR c_A8A8b l x 63 = .bool (((gd l x).x7).x7) := rfl
theorem fit_A8A8b (n : Nat) (l : List A8A8b) : Fit k_A8A8b n (enR c_A8A8b l) = True := eq_true (Fit_enR kc_A8A8b)
theorem de_A8A8b (l : List A8A8b) : deR g_A8A8b l.length (enR c_A8A8b l) = l := deR_enR gc_A8A8b l
theorem eta_A8A8b (a : A8A8b) : A8A8b.mk a.x0 a.x1 a.x2 a.x3 a.x4 a.x5 a.x6 a.x7 = a := rfl
theorem wA_A8A8b {v : AV} (h : aK 64 k_A8A8b v) : WkV (.agg (c_A8A8b (g_A8A8b (aL v)))) v /\ nref (.agg (c_A8A8b (g_A8A8b (aL v)))) := aK_wk (f := c_A8A8b) (g := g_A8A8b) (fun r h => w_A8A8b h) rfl (by simp only [c_A8A8b, nrefL, nref, and_self]) h
structure Ttravel where
  to_ : Int
  m : TMeshFrame
  deriving Inhabited
def c_Ttravel (a : Ttravel) : List AV := (.int .i64 a.to_ :: .int .u8 a.m.From.x0 :: .int .u8 a.m.From.x1 :: .int .u8 a.m.From.x2 :: .int .u8 a.m.From.x3 :: .int .u8 a.m.From.x4 :: .int .u8 a.m.From.x5 :: .int .u8 a.m.To.x0 :: .int .u8 a.m.To.x1 :: .int .u8 a.m.To.x2 :: .int .u8 a.m.To.x3 :: .int .u8 a.m.To.x4 :: .int .u8 a.m.To.x5 :: .int .u8 a.m.Enter.x0 :: .int .u8 a.m.Enter.x1 :: .int .u8 a.m.Enter.x2 :: .int .u8 a.m.Enter.x3 :: .int .u8 a.m.Enter.x4 :: .int .u8 a.m.Enter.x5 :: .int .u8 a.m.Leave.x0 :: .int .u8 a.m.Leave.x1 :: .int .u8 a.m.Leave.x2 :: .int .u8 a.m.Leave.x3 :: .int .u8 a.m.Leave.x4 :: .int .u8 a.m.Leave.x5 :: .int .u8 a.m.Source.x0 :: .int .u8 a.m.Source.x1 :: .int .u8 a.m.Source.x2 :: .int .u8 a.m.Source.x3 :: .int .u8 a.m.Source.x4 :: .int .u8 a.m.Source.x5 :: .int .u8 a.m.Target.x0 :: .int .u8 a.m.Target.x1 :: .int .u8 a.m.Target.x2 :: .int .u8 a.m.Target.x3 :: .int .u8 a.m.Target.x4 :: .int .u8 a.m.Target.x5 :: .int .i64 a.m.Seq :: .int .i64 a.m.Ttl :: .ro 1 a.m.Data.length false (enR c_u8 a.m.Data) :: [])
def g_Ttravel (f : Nat -> AV) : Ttravel := ⟨iA (f 0), ⟨⟨iA (f 1), iA (f 2), iA (f 3), iA (f 4), iA (f 5), iA (f 6)⟩, ⟨iA (f 7), iA (f 8), iA (f 9), iA (f 10), iA (f 11), iA (f 12)⟩, ⟨iA (f 13), iA (f 14), iA (f 15), iA (f 16), iA (f 17), iA (f 18)⟩, ⟨iA (f 19), iA (f 20), iA (f 21), iA (f 22), iA (f 23), iA (f 24)⟩, ⟨iA (f 25), iA (f 26), iA (f 27), iA (f 28), iA (f 29), iA (f 30)⟩, ⟨iA (f 31), iA (f 32), iA (f 33), iA (f 34), iA (f 35), iA (f 36)⟩, iA (f 37), iA (f 38), lA g_u8 (f 39)⟩⟩
def k_Ttravel (f : Nat -> AV) : Prop := iK .i64 (f 0) /\ iK .u8 (f 1) /\ iK .u8 (f 2) /\ iK .u8 (f 3) /\ iK .u8 (f 4) /\ iK .u8 (f 5) /\ iK .u8 (f 6) /\ iK .u8 (f 7) /\ iK .u8 (f 8) /\ iK .u8 (f 9) /\ iK .u8 (f 10) /\ iK .u8 (f 11) /\ iK .u8 (f 12) /\ iK .u8 (f 13) /\ iK .u8 (f 14) /\ iK .u8 (f 15) /\ iK .u8 (f 16) /\ iK .u8 (f 17) /\ iK .u8 (f 18) /\ iK .u8 (f 19) /\ iK .u8 (f 20) /\ iK .u8 (f 21) /\ iK .u8 (f 22) /\ iK .u8 (f 23) /\ iK .u8 (f 24) /\ iK .u8 (f 25) /\ iK .u8 (f 26) /\ iK .u8 (f 27) /\ iK .u8 (f 28) /\ iK .u8 (f 29) /\ iK .u8 (f 30) /\ iK .u8 (f 31) /\ iK .u8 (f 32) /\ iK .u8 (f 33) /\ iK .u8 (f 34) /\ iK .u8 (f 35) /\ iK .u8 (f 36) /\ iK .i64 (f 37) /\ iK .i64 (f 38) /\ lK k_u8 1 (f 39)
theorem gc_Ttravel (a : Ttravel) : g_Ttravel (getL (c_Ttravel a)) = a := by
  simp only [g_Ttravel, c_Ttravel, getL, iA, bA, sA, lA, deR_enR gc_u8]
theorem kc_Ttravel (a : Ttravel) : k_Ttravel (getL (c_Ttravel a)) := by
  simp only [k_Ttravel, c_Ttravel, getL, iK, bK, sK, lK, or_true, true_and, and_true, and_self, Fit_enR kc_u8]
theorem nr_Ttravel (a : Ttravel) : nrefL (c_Ttravel a) := by simp only [c_Ttravel, nrefL, nref, and_self]
instance : NRf c_Ttravel := ⟨nr_Ttravel⟩
instance : KCf k_Ttravel c_Ttravel := ⟨kc_Ttravel⟩
theorem w_Ttravel {f : Nat -> AV} (h : k_Ttravel f) : ∀ y, y < 40 -> WkV (getL (c_Ttravel (g_Ttravel f)) y) (f y) /\ nref (getL (c_Ttravel (g_Ttravel f)) y) := by
  obtain ⟨h0, h1, h2, h3, h4, h5, h6, h7, h8, h9, h10, h11, h12, h13, h14, h15, h16, h17, h18, h19, h20, h21, h22, h23, h24, h25, h26, h27, h28, h29, h30, h31, h32, h33, h34, h35, h36, h37, h38, h39⟩ := h
  intro y hy
  match y, hy with
  | 0, _ => exact iK_wk h0
  | 1, _ => exact iK_wk h1
  | 2, _ => exact iK_wk h2
  | 3, _ => exact iK_wk h3
  | 4, _ => exact iK_wk h4
  | 5, _ => exact iK_wk h5
  | 6, _ => exact iK_wk h6
  | 7, _ => exact iK_wk h7
  | 8, _ => exact iK_wk h8
  | 9, _ => exact iK_wk h9
  | 10, _ => exact iK_wk h10
  | 11, _ => exact iK_wk h11
  | 12, _ => exact iK_wk h12
  | 13, _ => exact iK_wk h13
  | 14, _ => exact iK_wk h14
  | 15, _ => exact iK_wk h15
  | 16, _ => exact iK_wk h16
  | 17, _ => exact iK_wk h17
  | 18, _ => exact iK_wk h18
  | 19, _ => exact iK_wk h19
  | 20, _ => exact iK_wk h20
  | 21, _ => exact iK_wk h21
  | 22, _ => exact iK_wk h22
  | 23, _ => exact iK_wk h23
  | 24, _ => exact iK_wk h24
  | 25, _ => exact iK_wk h25
  | 26, _ => exact iK_wk h26
  | 27, _ => exact iK_wk h27
  | 28, _ => exact iK_wk h28
  | 29, _ => exact iK_wk h29
  | 30, _ => exact iK_wk h30
  | 31, _ => exact iK_wk h31
  | 32, _ => exact iK_wk h32
  | 33, _ => exact iK_wk h33
  | 34, _ => exact iK_wk h34
  | 35, _ => exact iK_wk h35
  | 36, _ => exact iK_wk h36
  | 37, _ => exact iK_wk h37
  | 38, _ => exact iK_wk h38
  | 39, _ => exact lK_wk (fun r h => w_u8 h) h39
  | y + 40, hy => omega
theorem e_Ttravel_0 (l : List Ttravel) (x : Nat) : enR c_Ttravel l x 0 = .int .i64 ((gd l x).to_) := rfl
theorem e_Ttravel_1 (l : List Ttravel) (x : Nat) : enR c_Ttravel l x 1 = .int .u8 ((((gd l x).m).From).x0) := rfl
theorem e_Ttravel_2 (l : List Ttravel) (x : Nat) : enR c_Ttravel l x 2 = .int .u8 ((((gd l x).m).From).x1) := rfl
theorem e_Ttravel_3 (l : List Ttravel) (x : Nat) : enR c_Ttravel l x 3 = .int .u8 ((((gd l x).m).From).x2) := rfl
theorem e_Ttravel_4 (l : List Ttravel) (x : Nat) : enR c_Ttravel l x 4 = .int .u8 ((((gd l x).m).From).x3) := rfl
theorem e_Ttravel_5 (l : List Ttravel) (x : Nat) : enR c_Ttravel l x 5 = .int .u8 ((((gd l x).m).From).x4) := rfl
theorem e_Ttravel_6 (l : List Ttravel) (x : Nat) : enR c_Ttravel l x 6 = .int .u8 ((((gd l x).m).From).x5) := rfl
theorem e_Ttravel_7 (l : List Ttravel) (x : Nat) : enR c_Ttravel l x 7 = .int .u8 ((((gd l x).m).To).x0) := rfl
theorem e_Ttravel_8 (l : List Ttravel) (x : Nat) : enR c_Ttravel l x 8 = .int .u8 ((((gd l x).m).To).x1) := rfl
theorem e_Ttravel_9 (l : List Ttravel) (x : Nat) : enR c_Ttravel l x 9 = .int .u8 ((((gd l x).m).To).x2) := rfl
theorem e_Ttravel_10 (l : List Ttravel) (x : Nat) : enR c_Ttravel l x 10 = .int .u8 ((((gd l x).m).To).x3) := rfl
theorem e_Ttravel_11 (l : List Ttravel) (x : Nat) : enR c_Ttravel l x 11 = .int .u8 ((((gd l x).m).To).x4) := rfl
theorem e_Ttravel_12 (l : List Ttravel) (x : Nat) : enR c_Ttravel l x 12 = .int .u8 ((((gd l x).m).To).x5) := rfl
theorem e_Ttravel_13 (l : List Ttravel) (x : Nat) : enR c_Ttravel l x 13 = .int .u8 ((((gd l x).m).Enter).x0) := rfl
theorem e_Ttravel_14 (l : List Ttravel) (x : Nat) : enR c_Ttravel l x 14 = .int .u8 ((((gd l x).m).Enter).x1) := rfl
theorem e_Ttravel_15 (l : List Ttravel) (x : Nat) : enR c_Ttravel l x 15 = .int .u8 ((((gd l x).m).Enter).x2) := rfl
theorem e_Ttravel_16 (l : List Ttravel) (x : Nat) : enR c_Ttravel l x 16 = .int .u8 ((((gd l x).m).Enter).x3) := rfl
theorem e_Ttravel_17 (l : List Ttravel) (x : Nat) : enR c_Ttravel l x 17 = .int .u8 ((((gd l x).m).Enter).x4) := rfl
theorem e_Ttravel_18 (l : List Ttravel) (x : Nat) : enR c_Ttravel l x 18 = .int .u8 ((((gd l x).m).Enter).x5) := rfl
theorem e_Ttravel_19 (l : List Ttravel) (x : Nat) : enR c_Ttravel l x 19 = .int .u8 ((((gd l x).m).Leave).x0) := rfl
theorem e_Ttravel_20 (l : List Ttravel) (x : Nat) : enR c_Ttravel l x 20 = .int .u8 ((((gd l x).m).Leave).x1) := rfl
theorem e_Ttravel_21 (l : List Ttravel) (x : Nat) : enR c_Ttravel l x 21 = .int .u8 ((((gd l x).m).Leave).x2) := rfl
theorem e_Ttravel_22 (l : List Ttravel) (x : Nat) : enR c_Ttravel l x 22 = .int .u8 ((((gd l x).m).Leave).x3) := rfl
theorem e_Ttravel_23 (l : List Ttravel) (x : Nat) : enR c_Ttravel l x 23 = .int .u8 ((((gd l x).m).Leave).x4) := rfl
theorem e_Ttravel_24 (l : List Ttravel) (x : Nat) : enR c_Ttravel l x 24 = .int .u8 ((((gd l x).m).Leave).x5) := rfl
theorem e_Ttravel_25 (l : List Ttravel) (x : Nat) : enR c_Ttravel l x 25 = .int .u8 ((((gd l x).m).Source).x0) := rfl
theorem e_Ttravel_26 (l : List Ttravel) (x : Nat) : enR c_Ttravel l x 26 = .int .u8 ((((gd l x).m).Source).x1) := rfl
theorem e_Ttravel_27 (l : List Ttravel) (x : Nat) : enR c_Ttravel l x 27 = .int .u8 ((((gd l x).m).Source).x2) := rfl
theorem e_Ttravel_28 (l : List Ttravel) (x : Nat) : enR c_Ttravel l x 28 = .int .u8 ((((gd l x).m).Source).x3) := rfl
theorem e_Ttravel_29 (l : List Ttravel) (x : Nat) : enR c_Ttravel l x 29 = .int .u8 ((((gd l x).m).Source).x4) := rfl
theorem e_Ttravel_30 (l : List Ttravel) (x : Nat) : enR c_Ttravel l x 30 = .int .u8 ((((gd l x).m).Source).x5) := rfl
theorem e_Ttravel_31 (l : List Ttravel) (x : Nat) : enR c_Ttravel l x 31 = .int .u8 ((((gd l x).m).Target).x0) := rfl
theorem e_Ttravel_32 (l : List Ttravel) (x : Nat) : enR c_Ttravel l x 32 = .int .u8 ((((gd l x).m).Target).x1) := rfl
theorem e_Ttravel_33 (l : List Ttravel) (x : Nat) : enR c_Ttravel l x 33 = .int .u8 ((((gd l x).m).Target).x2) := rfl
theorem e_Ttravel_34 (l : List Ttravel) (x : Nat) : enR c_Ttravel l x 34 = .int .u8 ((((gd l x).m).Target).x3) := rfl
theorem e_Ttravel_35 (l : List Ttravel) (x : Nat) : enR c_Ttravel l x 35 = .int .u8 ((((gd l x).m).Target).x4) := rfl
theorem e_Ttravel_36 (l : List Ttravel) (x : Nat) : enR c_Ttravel l x 36 = .int .u8 ((((gd l x).m).Target).x5) := rfl
theorem e_Ttravel_37 (l : List Ttravel) (x : Nat) : enR c_Ttravel l x 37 = .int .i64 (((gd l x).m).Seq) := rfl
theorem e_Ttravel_38 (l : List Ttravel) (x : Nat) : enR c_Ttravel l x 38 = .int .i64 (((gd l x).m).Ttl) := rfl
theorem e_Ttravel_39 (l : List Ttravel) (x : Nat) : enR c_Ttravel l x 39 = .ro 1 (((gd l x).m).Data).length false (enR c_u8 (((gd l x).m).Data)) := rfl
theorem fit_Ttravel (n : Nat) (l : List Ttravel) : Fit k_Ttravel n (enR c_Ttravel l) = True := eq_true (Fit_enR kc_Ttravel)
theorem de_Ttravel (l : List Ttravel) : deR g_Ttravel l.length (enR c_Ttravel l) = l := deR_enR gc_Ttravel l
theorem eta_Ttravel (a : Ttravel) : Ttravel.mk a.to_ a.m = a := rfl
theorem wA_Ttravel {v : AV} (h : aK 40 k_Ttravel v) : WkV (.agg (c_Ttravel (g_Ttravel (aL v)))) v /\ nref (.agg (c_Ttravel (g_Ttravel (aL v)))) := aK_wk (f := c_Ttravel) (g := g_Ttravel) (fun r h => w_Ttravel h) rfl (by simp only [c_Ttravel, nrefL, nref, and_self]) h
def c_lTtravel (a : List Ttravel) : List AV := [.ro 40 a.length false (enR c_Ttravel a)]
def g_lTtravel (f : Nat -> AV) : List Ttravel := lA g_Ttravel (f 0)
def k_lTtravel (f : Nat -> AV) : Prop := lK k_Ttravel 40 (f 0)
theorem gc_lTtravel (a : List Ttravel) : g_lTtravel (getL (c_lTtravel a)) = a := by
  simp only [g_lTtravel, c_lTtravel, getL, iA, bA, sA, lA, deR_enR gc_Ttravel]
theorem kc_lTtravel (a : List Ttravel) : k_lTtravel (getL (c_lTtravel a)) := by
  simp only [k_lTtravel, c_lTtravel, getL, iK, bK, sK, lK, or_true, true_and, and_true, and_self, Fit_enR kc_Ttravel]
theorem nr_lTtravel (a : List Ttravel) : nrefL (c_lTtravel a) := by simp only [c_lTtravel, nrefL, nref, and_self]
instance : NRf c_lTtravel := ⟨nr_lTtravel⟩
instance : KCf k_lTtravel c_lTtravel := ⟨kc_lTtravel⟩
theorem w_lTtravel {f : Nat -> AV} (h : k_lTtravel f) : ∀ y, y < 1 -> WkV (getL (c_lTtravel (g_lTtravel f)) y) (f y) /\ nref (getL (c_lTtravel (g_lTtravel f)) y) := by
  have h0 := h
  intro y hy
  match y, hy with
  | 0, _ => exact lK_wk (fun r h => w_Ttravel h) h0
  | y + 1, hy => omega
theorem e_lTtravel_0 (l : List (List Ttravel)) (x : Nat) : enR c_lTtravel l x 0 = .ro 40 (gd l x).length false (enR c_Ttravel (gd l x)) := rfl
theorem fit_lTtravel (n : Nat) (l : List (List Ttravel)) : Fit k_lTtravel n (enR c_lTtravel l) = True := eq_true (Fit_enR kc_lTtravel)
theorem de_lTtravel (l : List (List Ttravel)) : deR g_lTtravel l.length (enR c_lTtravel l) = l := deR_enR gc_lTtravel l
def c_u64 (a : Int) : List AV := [.int .u64 a]
def g_u64 (f : Nat -> AV) : Int := iA (f 0)
def k_u64 (f : Nat -> AV) : Prop := iK .u64 (f 0)
theorem gc_u64 (a : Int) : g_u64 (getL (c_u64 a)) = a := by
  simp only [g_u64, c_u64, getL, iA, bA, sA, lA]
theorem kc_u64 (a : Int) : k_u64 (getL (c_u64 a)) := by
  simp only [k_u64, c_u64, getL, iK, bK, sK, lK, or_true, true_and, and_true, and_self]
theorem nr_u64 (a : Int) : nrefL (c_u64 a) := by simp only [c_u64, nrefL, nref, and_self]
instance : NOf c_u64 := ⟨fun a => by simp only [c_u64, noroL, noro, and_self]⟩
instance : NRf c_u64 := ⟨nr_u64⟩
instance : KCf k_u64 c_u64 := ⟨kc_u64⟩
theorem w_u64 {f : Nat -> AV} (h : k_u64 f) : ∀ y, y < 1 -> WkV (getL (c_u64 (g_u64 f)) y) (f y) /\ nref (getL (c_u64 (g_u64 f)) y) := by
  have h0 := h
  intro y hy
  match y, hy with
  | 0, _ => exact iK_wk h0
  | y + 1, hy => omega
theorem e_u64_0 (l : List Int) (x : Nat) : enR c_u64 l x 0 = .int .u64 (gd l x) := rfl
theorem fit_u64 (n : Nat) (l : List Int) : Fit k_u64 n (enR c_u64 l) = True := eq_true (Fit_enR kc_u64)
theorem de_u64 (l : List Int) : deR g_u64 l.length (enR c_u64 l) = l := deR_enR gc_u64 l
def c_lA6u8 (a : List A6u8) : List AV := [.ro 6 a.length false (enR c_A6u8 a)]
def g_lA6u8 (f : Nat -> AV) : List A6u8 := lA g_A6u8 (f 0)
def k_lA6u8 (f : Nat -> AV) : Prop := lK k_A6u8 6 (f 0)
theorem gc_lA6u8 (a : List A6u8) : g_lA6u8 (getL (c_lA6u8 a)) = a := by
  simp only [g_lA6u8, c_lA6u8, getL, iA, bA, sA, lA, deR_enR gc_A6u8]
theorem kc_lA6u8 (a : List A6u8) : k_lA6u8 (getL (c_lA6u8 a)) := by
  simp only [k_lA6u8, c_lA6u8, getL, iK, bK, sK, lK, or_true, true_and, and_true, and_self, Fit_enR kc_A6u8]
theorem nr_lA6u8 (a : List A6u8) : nrefL (c_lA6u8 a) := by simp only [c_lA6u8, nrefL, nref, and_self]
instance : NRf c_lA6u8 := ⟨nr_lA6u8⟩
instance : KCf k_lA6u8 c_lA6u8 := ⟨kc_lA6u8⟩
theorem w_lA6u8 {f : Nat -> AV} (h : k_lA6u8 f) : ∀ y, y < 1 -> WkV (getL (c_lA6u8 (g_lA6u8 f)) y) (f y) /\ nref (getL (c_lA6u8 (g_lA6u8 f)) y) := by
  have h0 := h
  intro y hy
  match y, hy with
  | 0, _ => exact lK_wk (fun r h => w_A6u8 h) h0
  | y + 1, hy => omega
theorem e_lA6u8_0 (l : List (List A6u8)) (x : Nat) : enR c_lA6u8 l x 0 = .ro 6 (gd l x).length false (enR c_A6u8 (gd l x)) := rfl
theorem fit_lA6u8 (n : Nat) (l : List (List A6u8)) : Fit k_lA6u8 n (enR c_lA6u8 l) = True := eq_true (Fit_enR kc_lA6u8)
theorem de_lA6u8 (l : List (List A6u8)) : deR g_lA6u8 l.length (enR c_lA6u8 l) = l := deR_enR gc_lA6u8 l
structure A6A6u8 where
  x0 : A6u8
  x1 : A6u8
  x2 : A6u8
  x3 : A6u8
  x4 : A6u8
  x5 : A6u8
  deriving Inhabited
def c_A6A6u8 (a : A6A6u8) : List AV := (.int .u8 a.x0.x0 :: .int .u8 a.x0.x1 :: .int .u8 a.x0.x2 :: .int .u8 a.x0.x3 :: .int .u8 a.x0.x4 :: .int .u8 a.x0.x5 :: .int .u8 a.x1.x0 :: .int .u8 a.x1.x1 :: .int .u8 a.x1.x2 :: .int .u8 a.x1.x3 :: .int .u8 a.x1.x4 :: .int .u8 a.x1.x5 :: .int .u8 a.x2.x0 :: .int .u8 a.x2.x1 :: .int .u8 a.x2.x2 :: .int .u8 a.x2.x3 :: .int .u8 a.x2.x4 :: .int .u8 a.x2.x5 :: .int .u8 a.x3.x0 :: .int .u8 a.x3.x1 :: .int .u8 a.x3.x2 :: .int .u8 a.x3.x3 :: .int .u8 a.x3.x4 :: .int .u8 a.x3.x5 :: .int .u8 a.x4.x0 :: .int .u8 a.x4.x1 :: .int .u8 a.x4.x2 :: .int .u8 a.x4.x3 :: .int .u8 a.x4.x4 :: .int .u8 a.x4.x5 :: .int .u8 a.x5.x0 :: .int .u8 a.x5.x1 :: .int .u8 a.x5.x2 :: .int .u8 a.x5.x3 :: .int .u8 a.x5.x4 :: .int .u8 a.x5.x5 :: [])
def g_A6A6u8 (f : Nat -> AV) : A6A6u8 := ⟨⟨iA (f 0), iA (f 1), iA (f 2), iA (f 3), iA (f 4), iA (f 5)⟩, ⟨iA (f 6), iA (f 7), iA (f 8), iA (f 9), iA (f 10), iA (f 11)⟩, ⟨iA (f 12), iA (f 13), iA (f 14), iA (f 15), iA (f 16), iA (f 17)⟩, ⟨iA (f 18), iA (f 19), iA (f 20), iA (f 21), iA (f 22), iA (f 23)⟩, ⟨iA (f 24), iA (f 25), iA (f 26), iA (f 27), iA (f 28), iA (f 29)⟩, ⟨iA (f 30), iA (f 31), iA (f 32), iA (f 33), iA (f 34), iA (f 35)⟩⟩
def k_A6A6u8 (f : Nat -> AV) : Prop := iK .u8 (f 0) /\ iK .u8 (f 1) /\ iK .u8 (f 2) /\ iK .u8 (f 3) /\ iK .u8 (f 4) /\ iK .u8 (f 5) /\ iK .u8 (f 6) /\ iK .u8 (f 7) /\ iK .u8 (f 8) /\ iK .u8 (f 9) /\ iK .u8 (f 10) /\ iK .u8 (f 11) /\ iK .u8 (f 12) /\ iK .u8 (f 13) /\ iK .u8 (f 14) /\ iK .u8 (f 15) /\ iK .u8 (f 16) /\ iK .u8 (f 17) /\ iK .u8 (f 18) /\ iK .u8 (f 19) /\ iK .u8 (f 20) /\ iK .u8 (f 21) /\ iK .u8 (f 22) /\ iK .u8 (f 23) /\ iK .u8 (f 24) /\ iK .u8 (f 25) /\ iK .u8 (f 26) /\ iK .u8 (f 27) /\ iK .u8 (f 28) /\ iK .u8 (f 29) /\ iK .u8 (f 30) /\ iK .u8 (f 31) /\ iK .u8 (f 32) /\ iK .u8 (f 33) /\ iK .u8 (f 34) /\ iK .u8 (f 35)
theorem gc_A6A6u8 (a : A6A6u8) : g_A6A6u8 (getL (c_A6A6u8 a)) = a := by
  simp only [g_A6A6u8, c_A6A6u8, getL, iA, bA, sA, lA]
theorem kc_A6A6u8 (a : A6A6u8) : k_A6A6u8 (getL (c_A6A6u8 a)) := by
  simp only [k_A6A6u8, c_A6A6u8, getL, iK, bK, sK, lK, or_true, true_and, and_true, and_self]
theorem nr_A6A6u8 (a : A6A6u8) : nrefL (c_A6A6u8 a) := by simp only [c_A6A6u8, nrefL, nref, and_self]
instance : NOf c_A6A6u8 := ⟨fun a => by simp only [c_A6A6u8, noroL, noro, and_self]⟩
instance : NRf c_A6A6u8 := ⟨nr_A6A6u8⟩
instance : KCf k_A6A6u8 c_A6A6u8 := ⟨kc_A6A6u8⟩
theorem w_A6A6u8 {f : Nat -> AV} (h : k_A6A6u8 f) : ∀ y, y < 36 -> WkV (getL (c_A6A6u8 (g_A6A6u8 f)) y) (f y) /\ nref (getL (c_A6A6u8 (g_A6A6u8 f)) y) := by
  obtain ⟨h0, h1, h2, h3, h4, h5, h6, h7, h8, h9, h10, h11, h12, h13, h14, h15, h16, h17, h18, h19, h20, h21, h22, h23, h24, h25, h26, h27, h28, h29, h30, h31, h32, h33, h34, h35⟩ := h
  intro y hy
  match y, hy with
  | 0, _ => exact iK_wk h0
  | 1, _ => exact iK_wk h1
  | 2, _ => exact iK_wk h2
  | 3, _ => exact iK_wk h3
  | 4, _ => exact iK_wk h4
  | 5, _ => exact iK_wk h5
  | 6, _ => exact iK_wk h6
  | 7, _ => exact iK_wk h7
  | 8, _ => exact iK_wk h8
  | 9, _ => exact iK_wk h9
  | 10, _ => exact iK_wk h10
  | 11, _ => exact iK_wk h11
  | 12, _ => exact iK_wk h12
  | 13, _ => exact iK_wk h13
  | 14, _ => exact iK_wk h14
  | 15, _ => exact iK_wk h15
  | 16, _ => exact iK_wk h16
  | 17, _ => exact iK_wk h17
  | 18, _ => exact iK_wk h18
  | 19, _ => exact iK_wk h19
  | 20, _ => exact iK_wk h20
  | 21, _ => exact iK_wk h21
  | 22, _ => exact iK_wk h22
  | 23, _ => exact iK_wk h23
  | 24, _ => exact iK_wk h24
  | 25, _ => exact iK_wk h25
  | 26, _ => exact iK_wk h26
  | 27, _ => exact iK_wk h27
  | 28, _ => exact iK_wk h28
  | 29, _ => exact iK_wk h29
  | 30, _ => exact iK_wk h30
  | 31, _ => exact iK_wk h31
  | 32, _ => exact iK_wk h32
  | 33, _ => exact iK_wk h33
  | 34, _ => exact iK_wk h34
  | 35, _ => exact iK_wk h35
  | y + 36, hy => omega
theorem e_A6A6u8_0 (l : List A6A6u8) (x : Nat) : enR c_A6A6u8 l x 0 = .int .u8 (((gd l x).x0).x0) := rfl
theorem e_A6A6u8_1 (l : List A6A6u8) (x : Nat) : enR c_A6A6u8 l x 1 = .int .u8 (((gd l x).x0).x1) := rfl
theorem e_A6A6u8_2 (l : List A6A6u8) (x : Nat) : enR c_A6A6u8 l x 2 = .int .u8 (((gd l x).x0).x2) := rfl
theorem e_A6A6u8_3 (l : List A6A6u8) (x : Nat) : enR c_A6A6u8 l x 3 = .int .u8 (((gd l x).x0).x3) := rfl
theorem e_A6A6u8_4 (l : List A6A6u8) (x : Nat) : enR c_A6A6u8 l x 4 = .int .u8 (((gd l x).x0).x4) := rfl
theorem e_A6A6u8_5 (l : List A6A6u8) (x : Nat) : enR c_A6A6u8 l x 5 = .int .u8 (((gd l x).x0).x5) := rfl
theorem e_A6A6u8_6 (l : List A6A6u8) (x : Nat) : enR c_A6A6u8 l x 6 = .int .u8 (((gd l x).x1).x0) := rfl
theorem e_A6A6u8_7 (l : List A6A6u8) (x : Nat) : enR c_A6A6u8 l x 7 = .int .u8 (((gd l x).x1).x1) := rfl
theorem e_A6A6u8_8 (l : List A6A6u8) (x : Nat) : enR c_A6A6u8 l x 8 = .int .u8 (((gd l x).x1).x2) := rfl
theorem e_A6A6u8_9 (l : List A6A6u8) (x : Nat) : enR c_A6A6u8 l x 9 = .int .u8 (((gd l x).x1).x3) := rfl
theorem e_A6A6u8_10 (l : List A6A6u8) (x : Nat) : enR c_A6A6u8 l x 10 = .int .u8 (((gd l x).x1).x4) := rfl
theorem e_A6A6u8_11 (l : List A6A6u8) (x : Nat) : enR c_A6A6u8 l x 11 = .int .u8 (((gd l x).x1).x5) := rfl
theorem e_A6A6u8_12 (l : List A6A6u8) (x : Nat) : enR c_A6A6u8 l x 12 = .int .u8 (((gd l x).x2).x0) := rfl
theorem e_A6A6u8_13 (l : List A6A6u8) (x : Nat) : enR c_A6A6u8 l x 13 = .int .u8 (((gd l x).x2).x1) := rfl
theorem e_A6A6u8_14 (l : List A6A6u8) (x : Nat) : enR c_A6A6u8 l x 14 = .int .u8 (((gd l x).x2).x2) := rfl
theorem e_A6A6u8_15 (l : List A6A6u8) (x : Nat) : enR c_A6A6u8 l x 15 = .int .u8 (((gd l x).x2).x3) := rfl
theorem e_A6A6u8_16 (l : List A6A6u8) (x : Nat) : enR c_A6A6u8 l x 16 = .int .u8 (((gd l x).x2).x4) := rfl
theorem e_A6A6u8_17 (l : List A6A6u8) (x : Nat) : enR c_A6A6u8 l x 17 = .int .u8 (((gd l x).x2).x5) := rfl
theorem e_A6A6u8_18 (l : List A6A6u8) (x : Nat) : enR c_A6A6u8 l x 18 = .int .u8 (((gd l x).x3).x0) := rfl
theorem e_A6A6u8_19 (l : List A6A6u8) (x : Nat) : enR c_A6A6u8 l x 19 = .int .u8 (((gd l x).x3).x1) := rfl
theorem e_A6A6u8_20 (l : List A6A6u8) (x : Nat) : enR c_A6A6u8 l x 20 = .int .u8 (((gd l x).x3).x2) := rfl
theorem e_A6A6u8_21 (l : List A6A6u8) (x : Nat) : enR c_A6A6u8 l x 21 = .int .u8 (((gd l x).x3).x3) := rfl
theorem e_A6A6u8_22 (l : List A6A6u8) (x : Nat) : enR c_A6A6u8 l x 22 = .int .u8 (((gd l x).x3).x4) := rfl
theorem e_A6A6u8_23 (l : List A6A6u8) (x : Nat) : enR c_A6A6u8 l x 23 = .int .u8 (((gd l x).x3).x5) := rfl
theorem e_A6A6u8_24 (l : List A6A6u8) (x : Nat) : enR c_A6A6u8 l x 24 = .int .u8 (((gd l x).x4).x0) := rfl
theorem e_A6A6u8_25 (l : List A6A6u8) (x : Nat) : enR c_A6A6u8 l x 25 = .int .u8 (((gd l x).x4).x1) := rfl
theorem e_A6A6u8_26 (l : List A6A6u8) (x : Nat) : enR c_A6A6u8 l x 26 = .int .u8 (((gd l x).x4).x2) := rfl
theorem e_A6A6u8_27 (l : List A6A6u8) (x : Nat) : enR c_A6A6u8 l x 27 = .int .u8 (((gd l x).x4).x3) := rfl
theorem e_A6A6u8_28 (l : List A6A6u8) (x : Nat) : enR c_A6A6u8 l x 28 = .int .u8 (((gd l x).x4).x4) := rfl
theorem e_A6A6u8_29 (l : List A6A6u8) (x : Nat) : enR c_A6A6u8 l x 29 = .int .u8 (((gd l x).x4).x5) := rfl
theorem e_A6A6u8_30 (l : List A6A6u8) (x : Nat) : enR c_A6A6u8 l x 30 = .int .u8 (((gd l x).x5).x0) := rfl
theorem e_A6A6u8_31 (l : List A6A6u8) (x : Nat) : enR c_A6A6u8 l x 31 = .int .u8 (((gd l x).x5).x1) := rfl
theorem e_A6A6u8_32 (l : List A6A6u8) (x : Nat) : enR c_A6A6u8 l x 32 = .int .u8 (((gd l x).x5).x2) := rfl
theorem e_A6A6u8_33 (l : List A6A6u8) (x : Nat) : enR c_A6A6u8 l x 33 = .int .u8 (((gd l x).x5).x3) := rfl
theorem e_A6A6u8_34 (l : List A6A6u8) (x : Nat) : enR c_A6A6u8 l x 34 = .int .u8 (((gd l x).x5).x4) := rfl
theorem e_A6A6u8_35 (l : List A6A6u8) (x : Nat) : enR c_A6A6u8 l x 35 = .int .u8 (((gd l x).x5).x5) := rfl
theorem fit_A6A6u8 (n : Nat) (l : List A6A6u8) : Fit k_A6A6u8 n (enR c_A6A6u8 l) = True := eq_true (Fit_enR kc_A6A6u8)
theorem de_A6A6u8 (l : List A6A6u8) : deR g_A6A6u8 l.length (enR c_A6A6u8 l) = l := deR_enR gc_A6A6u8 l
theorem eta_A6A6u8 (a : A6A6u8) : A6A6u8.mk a.x0 a.x1 a.x2 a.x3 a.x4 a.x5 = a := rfl
theorem wA_A6A6u8 {v : AV} (h : aK 36 k_A6A6u8 v) : WkV (.agg (c_A6A6u8 (g_A6A6u8 (aL v)))) v /\ nref (.agg (c_A6A6u8 (g_A6A6u8 (aL v)))) := aK_wk (f := c_A6A6u8) (g := g_A6A6u8) (fun r h => w_A6A6u8 h) rfl (by simp only [c_A6A6u8, nrefL, nref, and_self]) h
def shT (t : TypeId) : Option (List Leaf) := if t = 23 then some [.i .u8, .i .u8, .i .u8, .i .u8, .i .u8, .i .u8] else if t = 59 then some [.i .u8, .i .u8, .i .u8, .i .u8, .i .u8, .i .u8, .i .i64] else if t = 64 then some [.i .i64, .i .i64, .i .i64, .i .i64, .i .i64, .i .i64, .i .i64, .i .i64] else if t = 73 then some [.b, .b, .b, .b, .b, .b, .b, .b] else if t = 86 then some (.i .u8 :: .i .u8 :: .i .u8 :: .i .u8 :: .i .u8 :: .i .u8 :: .i .u8 :: .i .u8 :: .i .u8 :: .i .u8 :: .i .u8 :: .i .u8 :: .i .u8 :: .i .u8 :: .i .u8 :: .i .u8 :: .i .u8 :: .i .u8 :: .i .u8 :: .i .u8 :: .i .u8 :: .i .u8 :: .i .u8 :: .i .u8 :: .i .u8 :: .i .u8 :: .i .u8 :: .i .u8 :: .i .u8 :: .i .u8 :: .i .u8 :: .i .u8 :: .i .u8 :: .i .u8 :: .i .u8 :: .i .u8 :: []) else if t = 90 then some [.i .u8, .i .u8, .i .u8, .i .u8, .i .u8, .i .u8, .i .u8, .i .u8, .i .u8, .i .u8, .i .u8, .i .u8] else none
theorem shT_ok : ShOk Try.prog shT := by
  refine shOk_of fun t l h => ?_
  unfold shT at h
  split at h
  · rename_i ht; subst ht; injection h with h; subst h; exact ⟨by kernel_rfl, by kernel_rfl, by kernel_rfl⟩
  split at h
  · rename_i ht; subst ht; injection h with h; subst h; exact ⟨by kernel_rfl, by kernel_rfl, by kernel_rfl⟩
  split at h
  · rename_i ht; subst ht; injection h with h; subst h; exact ⟨by kernel_rfl, by kernel_rfl, by kernel_rfl⟩
  split at h
  · rename_i ht; subst ht; injection h with h; subst h; exact ⟨by kernel_rfl, by kernel_rfl, by kernel_rfl⟩
  split at h
  · rename_i ht; subst ht; injection h with h; subst h; exact ⟨by kernel_rfl, by kernel_rfl, by kernel_rfl⟩
  split at h
  · rename_i ht; subst ht; injection h with h; subst h; exact ⟨by kernel_rfl, by kernel_rfl, by kernel_rfl⟩
  cases h
theorem shT_23 : shT 23 = some [.i .u8, .i .u8, .i .u8, .i .u8, .i .u8, .i .u8] := rfl
theorem shT_59 : shT 59 = some [.i .u8, .i .u8, .i .u8, .i .u8, .i .u8, .i .u8, .i .i64] := rfl
theorem shT_64 : shT 64 = some [.i .i64, .i .i64, .i .i64, .i .i64, .i .i64, .i .i64, .i .i64, .i .i64] := rfl
theorem shT_73 : shT 73 = some [.b, .b, .b, .b, .b, .b, .b, .b] := rfl
theorem shT_86 : shT 86 = some (.i .u8 :: .i .u8 :: .i .u8 :: .i .u8 :: .i .u8 :: .i .u8 :: .i .u8 :: .i .u8 :: .i .u8 :: .i .u8 :: .i .u8 :: .i .u8 :: .i .u8 :: .i .u8 :: .i .u8 :: .i .u8 :: .i .u8 :: .i .u8 :: .i .u8 :: .i .u8 :: .i .u8 :: .i .u8 :: .i .u8 :: .i .u8 :: .i .u8 :: .i .u8 :: .i .u8 :: .i .u8 :: .i .u8 :: .i .u8 :: .i .u8 :: .i .u8 :: .i .u8 :: .i .u8 :: .i .u8 :: .i .u8 :: []) := rfl
theorem shT_90 : shT 90 = some [.i .u8, .i .u8, .i .u8, .i .u8, .i .u8, .i .u8, .i .u8, .i .u8, .i .u8, .i .u8, .i .u8, .i .u8] := rfl
theorem Fit_app {k : (Nat -> AV) -> Prop} {n p : Nat} {c d : Nat -> Nat -> AV} (h1 : Fit k p c) (h2 : Fit k (n - p) d) : Fit k n (appC p c d) := fun x hx => by
  by_cases h : x < p
  · rw [show appC p c d x = c x from funext fun y => if_pos h]; exact h1 x h
  · rw [show appC p c d x = d (x - p) from funext fun y => if_neg h]; exact h2 _ (by omega)
def ctNo : Ct := tab []
theorem ctNo_ok : CtOk Try.prog ctNo := tab_nil
theorem strE_u8 (s : ByteArray) : strE s = enR c_u8 (bytesL s) := strE_en (fun _ => rfl) s
theorem rg {ct : Ct} (C : CtOk Try.prog ct) {a : Code} {K : Kt} {t : List AV} {h : List ABlk} (hw : wpC Try.prog shT ct a K t h) : Mean Try.prog a K t h := wpC_sound shT_ok C a K t h hw
theorem sq {ct : Ct} (C : CtOk Try.prog ct) {a b : Code} {K : Kt} {t : List AV} {h : List ABlk} (hw : wpC Try.prog shT ct a (kM Try.prog b K) t h) : Mean Try.prog (.seq a b) K t h := seqM (wpC_sound shT_ok C a _ t h hw)
end Go.Proofs.Ytbahnppiobafoaa
