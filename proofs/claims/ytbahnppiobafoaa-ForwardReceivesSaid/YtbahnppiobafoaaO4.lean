/-
  What a law is given, as typed values.
-/
import Derived.Test.YtbahnppiobafoaaB
import Derived.Test.YtbahnppiobafoaaPm10
namespace Go.Proofs.Ytbahnppiobafoaa
open Go.Am Go.ChangeShapes Go.WideShapes
set_option linter.unusedVariables false
set_option linter.unusedSimpArgs false
set_option maxRecDepth 20000
theorem okWide_arr {P : Program} {w : World} {r : Reach} {b0 n : Nat} {e t : TypeId} {v : Value} (ht : P.underlying t = some (.array n e)) (hv : Value.okWide P w r b0 t v) : ∃ cs, v = .agg cs ∧ cs.size = P.cellsOf t := by
  simp only [Value.okWide, ht] at hv
  obtain ⟨cs, h1, h2, _⟩ := hv
  exact ⟨cs, h1, h2⟩
theorem op_i64 {H : Type} {enc : TypeId × Value → H} {w : World} {spare : Nat → Bool} {held : Bool} {fuel : Nat} {t : TypeId} {cs : List Value} {x : DataW H × List MemPlace} (hu : Try.prog.underlying t = some (.int .i64)) (h : DataW.trod enc Try.prog w 0 spare held fuel t cs = some x) : ∃ n : Int, Cells w (c_i64 n) 1 cs ∧ (-9223372036854775808 ≤ n ∧ n ≤ 9223372036854775807) := by
  obtain ⟨n, h1, h2⟩ := op_int hu h
  exact ⟨n, h1, bounds_i64 h2⟩
theorem op_u64 {H : Type} {enc : TypeId × Value → H} {w : World} {spare : Nat → Bool} {held : Bool} {fuel : Nat} {t : TypeId} {cs : List Value} {x : DataW H × List MemPlace} (hu : Try.prog.underlying t = some (.int .u64)) (h : DataW.trod enc Try.prog w 0 spare held fuel t cs = some x) : ∃ n : Int, Cells w (c_u64 n) 1 cs ∧ (0 ≤ n ∧ n ≤ 18446744073709551615) := by
  obtain ⟨n, h1, h2⟩ := op_int hu h
  exact ⟨n, h1, bounds_u64 h2⟩
theorem op_u8 {H : Type} {enc : TypeId × Value → H} {w : World} {spare : Nat → Bool} {held : Bool} {fuel : Nat} {t : TypeId} {cs : List Value} {x : DataW H × List MemPlace} (hu : Try.prog.underlying t = some (.int .u8)) (h : DataW.trod enc Try.prog w 0 spare held fuel t cs = some x) : ∃ n : Int, Cells w (c_u8 n) 1 cs ∧ (0 ≤ n ∧ n ≤ 255) := by
  obtain ⟨n, h1, h2⟩ := op_int hu h
  exact ⟨n, h1, bounds_u8 h2⟩
theorem op_b {H : Type} {enc : TypeId × Value → H} {w : World} {spare : Nat → Bool} {held : Bool} {fuel : Nat} {t : TypeId} {cs : List Value} {x : DataW H × List MemPlace} (hu : Try.prog.underlying t = some .bool) (h : DataW.trod enc Try.prog w 0 spare held fuel t cs = some x) : ∃ n : Bool, Cells w (c_b n) 1 cs ∧ True := by
  obtain ⟨n, h1⟩ := op_bool hu h
  exact ⟨n, h1, trivial⟩
theorem cz5 : Try.prog.cellsOf 5 = 1 := by kernel_rfl
theorem cz23 : Try.prog.cellsOf 23 = 6 := by kernel_rfl
def rg_A6u8 (a : A6u8) : Prop := (0 ≤ a.x0 ∧ a.x0 ≤ 255) ∧ (0 ≤ a.x1 ∧ a.x1 ≤ 255) ∧ (0 ≤ a.x2 ∧ a.x2 ≤ 255) ∧ (0 ≤ a.x3 ∧ a.x3 ≤ 255) ∧ (0 ≤ a.x4 ∧ a.x4 ≤ 255) ∧ (0 ≤ a.x5 ∧ a.x5 ≤ 255)
theorem op_A6u8_23 {H : Type} {enc : TypeId × Value → H} {w : World} {spare : Nat → Bool} {held : Bool} {fuel : Nat} {cs : List Value} {x : DataW H × List MemPlace} (h : DataW.trod enc Try.prog w 0 spare held fuel 23 cs = some x) : ∃ a : A6u8, Cells w (c_A6u8 a) 6 cs ∧ rg_A6u8 a := by
  obtain ⟨xs, n, hfu, _, hl, hn, hg⟩ := DataW.trod_array Try.underlying23 h
  have f0 := hg 0 (by decide)
  rw [List.getElem?_eq_getElem (by omega)] at f0
  have g0 : DataW.trod enc Try.prog w 0 spare held n 5 ((cs.drop (0 * Try.prog.cellsOf 5)).take (Try.prog.cellsOf 5)) = some (xs[0]'(by omega)) := f0
  rw [cz5] at g0
  obtain ⟨a0, k0, r0⟩ := op_u8 Try.underlying5 g0
  have f1 := hg 1 (by decide)
  rw [List.getElem?_eq_getElem (by omega)] at f1
  have g1 : DataW.trod enc Try.prog w 0 spare held n 5 ((cs.drop (1 * Try.prog.cellsOf 5)).take (Try.prog.cellsOf 5)) = some (xs[1]'(by omega)) := f1
  rw [cz5] at g1
  obtain ⟨a1, k1, r1⟩ := op_u8 Try.underlying5 g1
  have f2 := hg 2 (by decide)
  rw [List.getElem?_eq_getElem (by omega)] at f2
  have g2 : DataW.trod enc Try.prog w 0 spare held n 5 ((cs.drop (2 * Try.prog.cellsOf 5)).take (Try.prog.cellsOf 5)) = some (xs[2]'(by omega)) := f2
  rw [cz5] at g2
  obtain ⟨a2, k2, r2⟩ := op_u8 Try.underlying5 g2
  have f3 := hg 3 (by decide)
  rw [List.getElem?_eq_getElem (by omega)] at f3
  have g3 : DataW.trod enc Try.prog w 0 spare held n 5 ((cs.drop (3 * Try.prog.cellsOf 5)).take (Try.prog.cellsOf 5)) = some (xs[3]'(by omega)) := f3
  rw [cz5] at g3
  obtain ⟨a3, k3, r3⟩ := op_u8 Try.underlying5 g3
  have f4 := hg 4 (by decide)
  rw [List.getElem?_eq_getElem (by omega)] at f4
  have g4 : DataW.trod enc Try.prog w 0 spare held n 5 ((cs.drop (4 * Try.prog.cellsOf 5)).take (Try.prog.cellsOf 5)) = some (xs[4]'(by omega)) := f4
  rw [cz5] at g4
  obtain ⟨a4, k4, r4⟩ := op_u8 Try.underlying5 g4
  have f5 := hg 5 (by decide)
  rw [List.getElem?_eq_getElem (by omega)] at f5
  have g5 : DataW.trod enc Try.prog w 0 spare held n 5 ((cs.drop (5 * Try.prog.cellsOf 5)).take (Try.prog.cellsOf 5)) = some (xs[5]'(by omega)) := f5
  rw [cz5] at g5
  obtain ⟨a5, k5, r5⟩ := op_u8 Try.underlying5 g5
  refine ⟨⟨a0, a1, a2, a3, a4, a5⟩, ⟨hl.trans cz23, fun y hy => ?_⟩, ⟨r0, r1, r2, r3, r4, r5⟩⟩
  match y, hy with
  | 0, _ => have q := cell_at (off := 0) (y := 0) k0 (by decide); exact q
  | 1, _ => have q := cell_at (off := 1) (y := 0) k1 (by decide); exact q
  | 2, _ => have q := cell_at (off := 2) (y := 0) k2 (by decide); exact q
  | 3, _ => have q := cell_at (off := 3) (y := 0) k3 (by decide); exact q
  | 4, _ => have q := cell_at (off := 4) (y := 0) k4 (by decide); exact q
  | 5, _ => have q := cell_at (off := 5) (y := 0) k5 (by decide); exact q
  | y + 6, hy => omega
theorem cz3 : Try.prog.cellsOf 3 = 1 := by kernel_rfl
theorem cz59 : Try.prog.cellsOf 59 = 7 := by kernel_rfl
def rg_TForwardMark (a : TForwardMark) : Prop := rg_A6u8 a.Enter ∧ (-9223372036854775808 ≤ a.Seq ∧ a.Seq ≤ 9223372036854775807)
theorem op_TForwardMark_59 {H : Type} {enc : TypeId × Value → H} {w : World} {spare : Nat → Bool} {held : Bool} {fuel : Nat} {cs : List Value} {x : DataW H × List MemPlace} (h : DataW.trod enc Try.prog w 0 spare held fuel 59 cs = some x) : ∃ a : TForwardMark, Cells w (c_TForwardMark a) 7 cs ∧ rg_TForwardMark a := by
  obtain ⟨xs, n, hfu, _, hl, hn, hg⟩ := DataW.trod_struct Try.underlying59 h
  replace hn : xs.length = 2 := hn
  have f0 := hg 0 _ rfl
  rw [List.getElem?_eq_getElem (by omega)] at f0
  have g0 : DataW.trod enc Try.prog w 0 spare held n 23 ((cs.drop 0).take (Try.prog.cellsOf 23)) = some (xs[0]'(by omega)) := f0
  rw [cz23] at g0
  obtain ⟨a0, k0, r0⟩ := op_A6u8_23 g0
  have f1 := hg 1 _ rfl
  rw [List.getElem?_eq_getElem (by omega)] at f1
  have g1 : DataW.trod enc Try.prog w 0 spare held n 3 ((cs.drop 6).take (Try.prog.cellsOf 3)) = some (xs[1]'(by omega)) := f1
  rw [cz3] at g1
  obtain ⟨a1, k1, r1⟩ := op_i64 Try.underlying3 g1
  refine ⟨⟨a0, a1⟩, ⟨hl.trans cz59, fun y hy => ?_⟩, ⟨r0, r1⟩⟩
  match y, hy with
  | 0, _ => have q := cell_at (off := 0) (y := 0) k0 (by decide); exact q
  | 1, _ => have q := cell_at (off := 0) (y := 1) k0 (by decide); exact q
  | 2, _ => have q := cell_at (off := 0) (y := 2) k0 (by decide); exact q
  | 3, _ => have q := cell_at (off := 0) (y := 3) k0 (by decide); exact q
  | 4, _ => have q := cell_at (off := 0) (y := 4) k0 (by decide); exact q
  | 5, _ => have q := cell_at (off := 0) (y := 5) k0 (by decide); exact q
  | 6, _ => have q := cell_at (off := 6) (y := 0) k1 (by decide); exact q
  | y + 7, hy => omega
theorem cz90 : Try.prog.cellsOf 90 = 12 := by kernel_rfl
def rg_TForwardHop (a : TForwardHop) : Prop := rg_A6u8 a.Dest ∧ rg_A6u8 a.Next
theorem op_TForwardHop_90 {H : Type} {enc : TypeId × Value → H} {w : World} {spare : Nat → Bool} {held : Bool} {fuel : Nat} {cs : List Value} {x : DataW H × List MemPlace} (h : DataW.trod enc Try.prog w 0 spare held fuel 90 cs = some x) : ∃ a : TForwardHop, Cells w (c_TForwardHop a) 12 cs ∧ rg_TForwardHop a := by
  obtain ⟨xs, n, hfu, _, hl, hn, hg⟩ := DataW.trod_struct Try.underlying90 h
  replace hn : xs.length = 2 := hn
  have f0 := hg 0 _ rfl
  rw [List.getElem?_eq_getElem (by omega)] at f0
  have g0 : DataW.trod enc Try.prog w 0 spare held n 23 ((cs.drop 0).take (Try.prog.cellsOf 23)) = some (xs[0]'(by omega)) := f0
  rw [cz23] at g0
  obtain ⟨a0, k0, r0⟩ := op_A6u8_23 g0
  have f1 := hg 1 _ rfl
  rw [List.getElem?_eq_getElem (by omega)] at f1
  have g1 : DataW.trod enc Try.prog w 0 spare held n 23 ((cs.drop 6).take (Try.prog.cellsOf 23)) = some (xs[1]'(by omega)) := f1
  rw [cz23] at g1
  obtain ⟨a1, k1, r1⟩ := op_A6u8_23 g1
  refine ⟨⟨a0, a1⟩, ⟨hl.trans cz90, fun y hy => ?_⟩, ⟨r0, r1⟩⟩
  match y, hy with
  | 0, _ => have q := cell_at (off := 0) (y := 0) k0 (by decide); exact q
  | 1, _ => have q := cell_at (off := 0) (y := 1) k0 (by decide); exact q
  | 2, _ => have q := cell_at (off := 0) (y := 2) k0 (by decide); exact q
  | 3, _ => have q := cell_at (off := 0) (y := 3) k0 (by decide); exact q
  | 4, _ => have q := cell_at (off := 0) (y := 4) k0 (by decide); exact q
  | 5, _ => have q := cell_at (off := 0) (y := 5) k0 (by decide); exact q
  | 6, _ => have q := cell_at (off := 6) (y := 0) k1 (by decide); exact q
  | 7, _ => have q := cell_at (off := 6) (y := 1) k1 (by decide); exact q
  | 8, _ => have q := cell_at (off := 6) (y := 2) k1 (by decide); exact q
  | 9, _ => have q := cell_at (off := 6) (y := 3) k1 (by decide); exact q
  | 10, _ => have q := cell_at (off := 6) (y := 4) k1 (by decide); exact q
  | 11, _ => have q := cell_at (off := 6) (y := 5) k1 (by decide); exact q
  | y + 12, hy => omega
theorem cz28 : Try.prog.cellsOf 28 = 1 := by kernel_rfl
theorem cz29 : Try.prog.cellsOf 29 = 1 := by kernel_rfl
theorem cz31 : Try.prog.cellsOf 31 = 9 := by kernel_rfl
def rg_TForward (a : TForward) : Prop := rg_A6u8 a.Own ∧ (-9223372036854775808 ≤ a.Seq ∧ a.Seq ≤ 9223372036854775807) ∧ (a.Seen.length ≤ maxLen ∧ ∀ q ∈ a.Seen, rg_TForwardMark q) ∧ (a.Nexts.length ≤ maxLen ∧ ∀ q ∈ a.Nexts, rg_TForwardHop q)
theorem op_TForward_31 {H : Type} {enc : TypeId × Value → H} {w : World} {spare : Nat → Bool} {held : Bool} {fuel : Nat} {cs : List Value} {x : DataW H × List MemPlace} (h : DataW.trod enc Try.prog w 0 spare held fuel 31 cs = some x) : ∃ a : TForward, Cells w (c_TForward a) 9 cs ∧ rg_TForward a := by
  obtain ⟨xs, n, hfu, _, hl, hn, hg⟩ := DataW.trod_struct Try.underlying31 h
  replace hn : xs.length = 4 := hn
  have f0 := hg 0 _ rfl
  rw [List.getElem?_eq_getElem (by omega)] at f0
  have g0 : DataW.trod enc Try.prog w 0 spare held n 23 ((cs.drop 0).take (Try.prog.cellsOf 23)) = some (xs[0]'(by omega)) := f0
  rw [cz23] at g0
  obtain ⟨a0, k0, r0⟩ := op_A6u8_23 g0
  have f1 := hg 1 _ rfl
  rw [List.getElem?_eq_getElem (by omega)] at f1
  have g1 : DataW.trod enc Try.prog w 0 spare held n 3 ((cs.drop 6).take (Try.prog.cellsOf 3)) = some (xs[1]'(by omega)) := f1
  rw [cz3] at g1
  obtain ⟨a1, k1, r1⟩ := op_i64 Try.underlying3 g1
  have f2 := hg 2 _ rfl
  rw [List.getElem?_eq_getElem (by omega)] at f2
  have g2 : DataW.trod enc Try.prog w 0 spare held n 28 ((cs.drop 7).take (Try.prog.cellsOf 28)) = some (xs[2]'(by omega)) := f2
  rw [cz28] at g2
  obtain ⟨a2, k2, r2⟩ := op_slice (R := fun q => rg_TForwardMark q) (f := c_TForwardMark) (by decide) Try.underlying28 cz59 (fun h => op_TForwardMark_59 h) g2
  have f3 := hg 3 _ rfl
  rw [List.getElem?_eq_getElem (by omega)] at f3
  have g3 : DataW.trod enc Try.prog w 0 spare held n 29 ((cs.drop 8).take (Try.prog.cellsOf 29)) = some (xs[3]'(by omega)) := f3
  rw [cz29] at g3
  obtain ⟨a3, k3, r3⟩ := op_slice (R := fun q => rg_TForwardHop q) (f := c_TForwardHop) (by decide) Try.underlying29 cz90 (fun h => op_TForwardHop_90 h) g3
  refine ⟨⟨a0, a1, a2, a3⟩, ⟨hl.trans cz31, fun y hy => ?_⟩, ⟨r0, r1, r2, r3⟩⟩
  match y, hy with
  | 0, _ => have q := cell_at (off := 0) (y := 0) k0 (by decide); exact q
  | 1, _ => have q := cell_at (off := 0) (y := 1) k0 (by decide); exact q
  | 2, _ => have q := cell_at (off := 0) (y := 2) k0 (by decide); exact q
  | 3, _ => have q := cell_at (off := 0) (y := 3) k0 (by decide); exact q
  | 4, _ => have q := cell_at (off := 0) (y := 4) k0 (by decide); exact q
  | 5, _ => have q := cell_at (off := 0) (y := 5) k0 (by decide); exact q
  | 6, _ => have q := cell_at (off := 6) (y := 0) k1 (by decide); exact q
  | 7, _ => have q := cell_at (off := 7) (y := 0) k2 (by decide); exact q
  | 8, _ => have q := cell_at (off := 8) (y := 0) k3 (by decide); exact q
  | y + 9, hy => omega
theorem arg31 {H : Type} {enc : TypeId × Value → H} {w : World} {spare : Nat → Bool} {held : Bool} {r : Reach} {b0 : Nat} {v : Value} {d : DataW H} {p : List MemPlace} (hv : Value.okWide Try.prog w r b0 31 v) (h : DataW.Trod enc Try.prog w 0 spare held 31 v d p) : ∃ a : TForward, Am.VR (Am.top w) (.agg (c_TForward a)) v ∧ rg_TForward a := by
  obtain ⟨cs, rfl, hs⟩ := okWide_struct Try.underlying31 hv
  obtain ⟨fuel, hf⟩ := h
  obtain ⟨a, h1, h2⟩ := op_TForward_31 hf
  exact ⟨a, Cells_agg h1 rfl, h2⟩
theorem cz24 : Try.prog.cellsOf 24 = 1 := by kernel_rfl
theorem cz26 : Try.prog.cellsOf 26 = 39 := by kernel_rfl
def rg_TMeshFrame (a : TMeshFrame) : Prop := rg_A6u8 a.From ∧ rg_A6u8 a.To ∧ rg_A6u8 a.Enter ∧ rg_A6u8 a.Leave ∧ rg_A6u8 a.Source ∧ rg_A6u8 a.Target ∧ (-9223372036854775808 ≤ a.Seq ∧ a.Seq ≤ 9223372036854775807) ∧ (-9223372036854775808 ≤ a.Ttl ∧ a.Ttl ≤ 9223372036854775807) ∧ (a.Data.length ≤ maxLen ∧ ∀ q ∈ a.Data, (0 ≤ q ∧ q ≤ 255))
theorem op_TMeshFrame_26 {H : Type} {enc : TypeId × Value → H} {w : World} {spare : Nat → Bool} {held : Bool} {fuel : Nat} {cs : List Value} {x : DataW H × List MemPlace} (h : DataW.trod enc Try.prog w 0 spare held fuel 26 cs = some x) : ∃ a : TMeshFrame, Cells w (c_TMeshFrame a) 39 cs ∧ rg_TMeshFrame a := by
  obtain ⟨xs, n, hfu, _, hl, hn, hg⟩ := DataW.trod_struct Try.underlying26 h
  replace hn : xs.length = 9 := hn
  have f0 := hg 0 _ rfl
  rw [List.getElem?_eq_getElem (by omega)] at f0
  have g0 : DataW.trod enc Try.prog w 0 spare held n 23 ((cs.drop 0).take (Try.prog.cellsOf 23)) = some (xs[0]'(by omega)) := f0
  rw [cz23] at g0
  obtain ⟨a0, k0, r0⟩ := op_A6u8_23 g0
  have f1 := hg 1 _ rfl
  rw [List.getElem?_eq_getElem (by omega)] at f1
  have g1 : DataW.trod enc Try.prog w 0 spare held n 23 ((cs.drop 6).take (Try.prog.cellsOf 23)) = some (xs[1]'(by omega)) := f1
  rw [cz23] at g1
  obtain ⟨a1, k1, r1⟩ := op_A6u8_23 g1
  have f2 := hg 2 _ rfl
  rw [List.getElem?_eq_getElem (by omega)] at f2
  have g2 : DataW.trod enc Try.prog w 0 spare held n 23 ((cs.drop 12).take (Try.prog.cellsOf 23)) = some (xs[2]'(by omega)) := f2
  rw [cz23] at g2
  obtain ⟨a2, k2, r2⟩ := op_A6u8_23 g2
  have f3 := hg 3 _ rfl
  rw [List.getElem?_eq_getElem (by omega)] at f3
  have g3 : DataW.trod enc Try.prog w 0 spare held n 23 ((cs.drop 18).take (Try.prog.cellsOf 23)) = some (xs[3]'(by omega)) := f3
  rw [cz23] at g3
  obtain ⟨a3, k3, r3⟩ := op_A6u8_23 g3
  have f4 := hg 4 _ rfl
  rw [List.getElem?_eq_getElem (by omega)] at f4
  have g4 : DataW.trod enc Try.prog w 0 spare held n 23 ((cs.drop 24).take (Try.prog.cellsOf 23)) = some (xs[4]'(by omega)) := f4
  rw [cz23] at g4
  obtain ⟨a4, k4, r4⟩ := op_A6u8_23 g4
  have f5 := hg 5 _ rfl
  rw [List.getElem?_eq_getElem (by omega)] at f5
  have g5 : DataW.trod enc Try.prog w 0 spare held n 23 ((cs.drop 30).take (Try.prog.cellsOf 23)) = some (xs[5]'(by omega)) := f5
  rw [cz23] at g5
  obtain ⟨a5, k5, r5⟩ := op_A6u8_23 g5
  have f6 := hg 6 _ rfl
  rw [List.getElem?_eq_getElem (by omega)] at f6
  have g6 : DataW.trod enc Try.prog w 0 spare held n 3 ((cs.drop 36).take (Try.prog.cellsOf 3)) = some (xs[6]'(by omega)) := f6
  rw [cz3] at g6
  obtain ⟨a6, k6, r6⟩ := op_i64 Try.underlying3 g6
  have f7 := hg 7 _ rfl
  rw [List.getElem?_eq_getElem (by omega)] at f7
  have g7 : DataW.trod enc Try.prog w 0 spare held n 3 ((cs.drop 37).take (Try.prog.cellsOf 3)) = some (xs[7]'(by omega)) := f7
  rw [cz3] at g7
  obtain ⟨a7, k7, r7⟩ := op_i64 Try.underlying3 g7
  have f8 := hg 8 _ rfl
  rw [List.getElem?_eq_getElem (by omega)] at f8
  have g8 : DataW.trod enc Try.prog w 0 spare held n 24 ((cs.drop 38).take (Try.prog.cellsOf 24)) = some (xs[8]'(by omega)) := f8
  rw [cz24] at g8
  obtain ⟨a8, k8, r8⟩ := op_slice (R := fun q => (0 ≤ q ∧ q ≤ 255)) (f := c_u8) (by decide) Try.underlying24 cz5 (fun h => op_u8 Try.underlying5 h) g8
  refine ⟨⟨a0, a1, a2, a3, a4, a5, a6, a7, a8⟩, ⟨hl.trans cz26, fun y hy => ?_⟩, ⟨r0, r1, r2, r3, r4, r5, r6, r7, r8⟩⟩
  match y, hy with
  | 0, _ => have q := cell_at (off := 0) (y := 0) k0 (by decide); exact q
  | 1, _ => have q := cell_at (off := 0) (y := 1) k0 (by decide); exact q
  | 2, _ => have q := cell_at (off := 0) (y := 2) k0 (by decide); exact q
  | 3, _ => have q := cell_at (off := 0) (y := 3) k0 (by decide); exact q
  | 4, _ => have q := cell_at (off := 0) (y := 4) k0 (by decide); exact q
  | 5, _ => have q := cell_at (off := 0) (y := 5) k0 (by decide); exact q
  | 6, _ => have q := cell_at (off := 6) (y := 0) k1 (by decide); exact q
  | 7, _ => have q := cell_at (off := 6) (y := 1) k1 (by decide); exact q
  | 8, _ => have q := cell_at (off := 6) (y := 2) k1 (by decide); exact q
  | 9, _ => have q := cell_at (off := 6) (y := 3) k1 (by decide); exact q
  | 10, _ => have q := cell_at (off := 6) (y := 4) k1 (by decide); exact q
  | 11, _ => have q := cell_at (off := 6) (y := 5) k1 (by decide); exact q
  | 12, _ => have q := cell_at (off := 12) (y := 0) k2 (by decide); exact q
  | 13, _ => have q := cell_at (off := 12) (y := 1) k2 (by decide); exact q
  | 14, _ => have q := cell_at (off := 12) (y := 2) k2 (by decide); exact q
  | 15, _ => have q := cell_at (off := 12) (y := 3) k2 (by decide); exact q
  | 16, _ => have q := cell_at (off := 12) (y := 4) k2 (by decide); exact q
  | 17, _ => have q := cell_at (off := 12) (y := 5) k2 (by decide); exact q
  | 18, _ => have q := cell_at (off := 18) (y := 0) k3 (by decide); exact q
  | 19, _ => have q := cell_at (off := 18) (y := 1) k3 (by decide); exact q
  | 20, _ => have q := cell_at (off := 18) (y := 2) k3 (by decide); exact q
  | 21, _ => have q := cell_at (off := 18) (y := 3) k3 (by decide); exact q
  | 22, _ => have q := cell_at (off := 18) (y := 4) k3 (by decide); exact q
  | 23, _ => have q := cell_at (off := 18) (y := 5) k3 (by decide); exact q
  | 24, _ => have q := cell_at (off := 24) (y := 0) k4 (by decide); exact q
  | 25, _ => have q := cell_at (off := 24) (y := 1) k4 (by decide); exact q
  | 26, _ => have q := cell_at (off := 24) (y := 2) k4 (by decide); exact q
  | 27, _ => have q := cell_at (off := 24) (y := 3) k4 (by decide); exact q
  | 28, _ => have q := cell_at (off := 24) (y := 4) k4 (by decide); exact q
  | 29, _ => have q := cell_at (off := 24) (y := 5) k4 (by decide); exact q
  | 30, _ => have q := cell_at (off := 30) (y := 0) k5 (by decide); exact q
  | 31, _ => have q := cell_at (off := 30) (y := 1) k5 (by decide); exact q
  | 32, _ => have q := cell_at (off := 30) (y := 2) k5 (by decide); exact q
  | 33, _ => have q := cell_at (off := 30) (y := 3) k5 (by decide); exact q
  | 34, _ => have q := cell_at (off := 30) (y := 4) k5 (by decide); exact q
  | 35, _ => have q := cell_at (off := 30) (y := 5) k5 (by decide); exact q
  | 36, _ => have q := cell_at (off := 36) (y := 0) k6 (by decide); exact q
  | 37, _ => have q := cell_at (off := 37) (y := 0) k7 (by decide); exact q
  | 38, _ => have q := cell_at (off := 38) (y := 0) k8 (by decide); exact q
  | y + 39, hy => omega
theorem arg26 {H : Type} {enc : TypeId × Value → H} {w : World} {spare : Nat → Bool} {held : Bool} {r : Reach} {b0 : Nat} {v : Value} {d : DataW H} {p : List MemPlace} (hv : Value.okWide Try.prog w r b0 26 v) (h : DataW.Trod enc Try.prog w 0 spare held 26 v d p) : ∃ a : TMeshFrame, Am.VR (Am.top w) (.agg (c_TMeshFrame a)) v ∧ rg_TMeshFrame a := by
  obtain ⟨cs, rfl, hs⟩ := okWide_struct Try.underlying26 hv
  obtain ⟨fuel, hf⟩ := h
  obtain ⟨a, h1, h2⟩ := op_TMeshFrame_26 hf
  exact ⟨a, Cells_agg h1 rfl, h2⟩
end Go.Proofs.Ytbahnppiobafoaa
