/-
  What a law is given, as typed values.
-/
import Derived.Test.YtjhkehdbjnhplaaB
import Derived.Test.YtjhkehdbjnhplaaPm10
namespace Go.Proofs.Ytjhkehdbjnhplaa
open Go.Am Go.ChangeShapes Go.WideShapes
set_option linter.unusedVariables false
set_option linter.unusedSimpArgs false
set_option maxRecDepth 20000
theorem op_i64 {H : Type} {enc : TypeId × Value -> H} {w : World} {spare : Nat -> Bool} {held : Bool} {fuel : Nat} {t : TypeId} {cs : List Value} {x : DataW H × List MemPlace} (hu : Try.prog.underlying t = some (.int .i64)) (h : DataW.trod enc Try.prog w 0 spare held fuel t cs = some x) : ∃ n : Int, Cells w (c_i64 n) 1 cs /\ (-9223372036854775808 <= n /\ n <= 9223372036854775807) := by
  obtain ⟨n, h1, h2⟩ := op_int hu h
  exact ⟨n, h1, bounds_i64 h2⟩
theorem op_u8 {H : Type} {enc : TypeId × Value -> H} {w : World} {spare : Nat -> Bool} {held : Bool} {fuel : Nat} {t : TypeId} {cs : List Value} {x : DataW H × List MemPlace} (hu : Try.prog.underlying t = some (.int .u8)) (h : DataW.trod enc Try.prog w 0 spare held fuel t cs = some x) : ∃ n : Int, Cells w (c_u8 n) 1 cs /\ (0 <= n /\ n <= 255) := by
  obtain ⟨n, h1, h2⟩ := op_int hu h
  exact ⟨n, h1, bounds_u8 h2⟩
theorem op_b {H : Type} {enc : TypeId × Value -> H} {w : World} {spare : Nat -> Bool} {held : Bool} {fuel : Nat} {t : TypeId} {cs : List Value} {x : DataW H × List MemPlace} (hu : Try.prog.underlying t = some .bool) (h : DataW.trod enc Try.prog w 0 spare held fuel t cs = some x) : ∃ n : Bool, Cells w (c_b n) 1 cs /\ True := by
  obtain ⟨n, h1⟩ := op_bool hu h
  exact ⟨n, h1, trivial⟩
theorem cz3 : Try.prog.cellsOf 3 = 1 := by kernel_rfl
theorem cz4 : Try.prog.cellsOf 4 = 1 := by kernel_rfl
theorem cz45 : Try.prog.cellsOf 45 = 3 := by kernel_rfl
def rg_TRegulateChannel (a : TRegulateChannel) : Prop := (-9223372036854775808 <= a.Number /\ a.Number <= 9223372036854775807) /\ (-9223372036854775808 <= a.Max /\ a.Max <= 9223372036854775807) /\ True
theorem op_TRegulateChannel_45 {H : Type} {enc : TypeId × Value -> H} {w : World} {spare : Nat -> Bool} {held : Bool} {fuel : Nat} {cs : List Value} {x : DataW H × List MemPlace} (h : DataW.trod enc Try.prog w 0 spare held fuel 45 cs = some x) : ∃ a : TRegulateChannel, Cells w (c_TRegulateChannel a) 3 cs /\ rg_TRegulateChannel a := by
  obtain ⟨xs, n, hfu, _, hl, hn, hg⟩ := DataW.trod_struct Try.underlying45 h
  replace hn : xs.length = 3 := hn
  have f0 := hg 0 _ rfl
  rw [List.getElem?_eq_getElem (by omega)] at f0
  have g0 : DataW.trod enc Try.prog w 0 spare held n 3 ((cs.drop 0).take (Try.prog.cellsOf 3)) = some (xs[0]'(by omega)) := f0
  rw [cz3] at g0
  obtain ⟨a0, k0, r0⟩ := op_i64 Try.underlying3 g0
  have f1 := hg 1 _ rfl
  rw [List.getElem?_eq_getElem (by omega)] at f1
  have g1 : DataW.trod enc Try.prog w 0 spare held n 3 ((cs.drop 1).take (Try.prog.cellsOf 3)) = some (xs[1]'(by omega)) := f1
  rw [cz3] at g1
  obtain ⟨a1, k1, r1⟩ := op_i64 Try.underlying3 g1
  have f2 := hg 2 _ rfl
  rw [List.getElem?_eq_getElem (by omega)] at f2
  have g2 : DataW.trod enc Try.prog w 0 spare held n 4 ((cs.drop 2).take (Try.prog.cellsOf 4)) = some (xs[2]'(by omega)) := f2
  rw [cz4] at g2
  obtain ⟨a2, k2, r2⟩ := op_b Try.underlying4 g2
  refine ⟨⟨a0, a1, a2⟩, ⟨hl.trans cz45, fun y hy => ?_⟩, ⟨r0, r1, r2⟩⟩
  match y, hy with
  | 0, _ => have q := cell_at (off := 0) (y := 0) k0 (by decide); exact q
  | 1, _ => have q := cell_at (off := 1) (y := 0) k1 (by decide); exact q
  | 2, _ => have q := cell_at (off := 2) (y := 0) k2 (by decide); exact q
  | y + 3, hy => omega
theorem cz79 : Try.prog.cellsOf 79 = 2 := by kernel_rfl
def rg_TRegulateBlock (a : TRegulateBlock) : Prop := (-9223372036854775808 <= a.Channel /\ a.Channel <= 9223372036854775807) /\ (-9223372036854775808 <= a.Until /\ a.Until <= 9223372036854775807)
theorem op_TRegulateBlock_79 {H : Type} {enc : TypeId × Value -> H} {w : World} {spare : Nat -> Bool} {held : Bool} {fuel : Nat} {cs : List Value} {x : DataW H × List MemPlace} (h : DataW.trod enc Try.prog w 0 spare held fuel 79 cs = some x) : ∃ a : TRegulateBlock, Cells w (c_TRegulateBlock a) 2 cs /\ rg_TRegulateBlock a := by
  obtain ⟨xs, n, hfu, _, hl, hn, hg⟩ := DataW.trod_struct Try.underlying79 h
  replace hn : xs.length = 2 := hn
  have f0 := hg 0 _ rfl
  rw [List.getElem?_eq_getElem (by omega)] at f0
  have g0 : DataW.trod enc Try.prog w 0 spare held n 3 ((cs.drop 0).take (Try.prog.cellsOf 3)) = some (xs[0]'(by omega)) := f0
  rw [cz3] at g0
  obtain ⟨a0, k0, r0⟩ := op_i64 Try.underlying3 g0
  have f1 := hg 1 _ rfl
  rw [List.getElem?_eq_getElem (by omega)] at f1
  have g1 : DataW.trod enc Try.prog w 0 spare held n 3 ((cs.drop 1).take (Try.prog.cellsOf 3)) = some (xs[1]'(by omega)) := f1
  rw [cz3] at g1
  obtain ⟨a1, k1, r1⟩ := op_i64 Try.underlying3 g1
  refine ⟨⟨a0, a1⟩, ⟨hl.trans cz79, fun y hy => ?_⟩, ⟨r0, r1⟩⟩
  match y, hy with
  | 0, _ => have q := cell_at (off := 0) (y := 0) k0 (by decide); exact q
  | 1, _ => have q := cell_at (off := 1) (y := 0) k1 (by decide); exact q
  | y + 2, hy => omega
theorem cz35 : Try.prog.cellsOf 35 = 1 := by kernel_rfl
theorem cz37 : Try.prog.cellsOf 37 = 1 := by kernel_rfl
theorem cz36 : Try.prog.cellsOf 36 = 1 := by kernel_rfl
theorem cz39 : Try.prog.cellsOf 39 = 10 := by kernel_rfl
def rg_TRegulate (a : TRegulate) : Prop := (a.Table.length <= maxLen /\ ∀ q ∈ a.Table, rg_TRegulateChannel q) /\ (-9223372036854775808 <= a.Channel /\ a.Channel <= 9223372036854775807) /\ True /\ (-9223372036854775808 <= a.Heard /\ a.Heard <= 9223372036854775807) /\ True /\ True /\ (-9223372036854775808 <= a.To /\ a.To <= 9223372036854775807) /\ (-9223372036854775808 <= a.At /\ a.At <= 9223372036854775807) /\ (a.Blocked.length <= maxLen /\ ∀ q ∈ a.Blocked, rg_TRegulateBlock q) /\ (a.Clear.length <= maxLen /\ ∀ q ∈ a.Clear, (-9223372036854775808 <= q /\ q <= 9223372036854775807))
theorem op_TRegulate_39 {H : Type} {enc : TypeId × Value -> H} {w : World} {spare : Nat -> Bool} {held : Bool} {fuel : Nat} {cs : List Value} {x : DataW H × List MemPlace} (h : DataW.trod enc Try.prog w 0 spare held fuel 39 cs = some x) : ∃ a : TRegulate, Cells w (c_TRegulate a) 10 cs /\ rg_TRegulate a := by
  obtain ⟨xs, n, hfu, _, hl, hn, hg⟩ := DataW.trod_struct Try.underlying39 h
  replace hn : xs.length = 10 := hn
  have f0 := hg 0 _ rfl
  rw [List.getElem?_eq_getElem (by omega)] at f0
  have g0 : DataW.trod enc Try.prog w 0 spare held n 35 ((cs.drop 0).take (Try.prog.cellsOf 35)) = some (xs[0]'(by omega)) := f0
  rw [cz35] at g0
  obtain ⟨a0, k0, r0⟩ := op_slice (R := fun q => rg_TRegulateChannel q) (f := c_TRegulateChannel) (by decide) Try.underlying35 cz45 (fun h => op_TRegulateChannel_45 h) g0
  have f1 := hg 1 _ rfl
  rw [List.getElem?_eq_getElem (by omega)] at f1
  have g1 : DataW.trod enc Try.prog w 0 spare held n 3 ((cs.drop 1).take (Try.prog.cellsOf 3)) = some (xs[1]'(by omega)) := f1
  rw [cz3] at g1
  obtain ⟨a1, k1, r1⟩ := op_i64 Try.underlying3 g1
  have f2 := hg 2 _ rfl
  rw [List.getElem?_eq_getElem (by omega)] at f2
  have g2 : DataW.trod enc Try.prog w 0 spare held n 4 ((cs.drop 2).take (Try.prog.cellsOf 4)) = some (xs[2]'(by omega)) := f2
  rw [cz4] at g2
  obtain ⟨a2, k2, r2⟩ := op_b Try.underlying4 g2
  have f3 := hg 3 _ rfl
  rw [List.getElem?_eq_getElem (by omega)] at f3
  have g3 : DataW.trod enc Try.prog w 0 spare held n 3 ((cs.drop 3).take (Try.prog.cellsOf 3)) = some (xs[3]'(by omega)) := f3
  rw [cz3] at g3
  obtain ⟨a3, k3, r3⟩ := op_i64 Try.underlying3 g3
  have f4 := hg 4 _ rfl
  rw [List.getElem?_eq_getElem (by omega)] at f4
  have g4 : DataW.trod enc Try.prog w 0 spare held n 4 ((cs.drop 4).take (Try.prog.cellsOf 4)) = some (xs[4]'(by omega)) := f4
  rw [cz4] at g4
  obtain ⟨a4, k4, r4⟩ := op_b Try.underlying4 g4
  have f5 := hg 5 _ rfl
  rw [List.getElem?_eq_getElem (by omega)] at f5
  have g5 : DataW.trod enc Try.prog w 0 spare held n 4 ((cs.drop 5).take (Try.prog.cellsOf 4)) = some (xs[5]'(by omega)) := f5
  rw [cz4] at g5
  obtain ⟨a5, k5, r5⟩ := op_b Try.underlying4 g5
  have f6 := hg 6 _ rfl
  rw [List.getElem?_eq_getElem (by omega)] at f6
  have g6 : DataW.trod enc Try.prog w 0 spare held n 3 ((cs.drop 6).take (Try.prog.cellsOf 3)) = some (xs[6]'(by omega)) := f6
  rw [cz3] at g6
  obtain ⟨a6, k6, r6⟩ := op_i64 Try.underlying3 g6
  have f7 := hg 7 _ rfl
  rw [List.getElem?_eq_getElem (by omega)] at f7
  have g7 : DataW.trod enc Try.prog w 0 spare held n 3 ((cs.drop 7).take (Try.prog.cellsOf 3)) = some (xs[7]'(by omega)) := f7
  rw [cz3] at g7
  obtain ⟨a7, k7, r7⟩ := op_i64 Try.underlying3 g7
  have f8 := hg 8 _ rfl
  rw [List.getElem?_eq_getElem (by omega)] at f8
  have g8 : DataW.trod enc Try.prog w 0 spare held n 36 ((cs.drop 8).take (Try.prog.cellsOf 36)) = some (xs[8]'(by omega)) := f8
  rw [cz36] at g8
  obtain ⟨a8, k8, r8⟩ := op_slice (R := fun q => rg_TRegulateBlock q) (f := c_TRegulateBlock) (by decide) Try.underlying36 cz79 (fun h => op_TRegulateBlock_79 h) g8
  have f9 := hg 9 _ rfl
  rw [List.getElem?_eq_getElem (by omega)] at f9
  have g9 : DataW.trod enc Try.prog w 0 spare held n 37 ((cs.drop 9).take (Try.prog.cellsOf 37)) = some (xs[9]'(by omega)) := f9
  rw [cz37] at g9
  obtain ⟨a9, k9, r9⟩ := op_slice (R := fun q => (-9223372036854775808 <= q /\ q <= 9223372036854775807)) (f := c_i64) (by decide) Try.underlying37 cz3 (fun h => op_i64 Try.underlying3 h) g9
  refine ⟨⟨a0, a1, a2, a3, a4, a5, a6, a7, a8, a9⟩, ⟨hl.trans cz39, fun y hy => ?_⟩, ⟨r0, r1, r2, r3, r4, r5, r6, r7, r8, r9⟩⟩
  match y, hy with
  | 0, _ => have q := cell_at (off := 0) (y := 0) k0 (by decide); exact q
  | 1, _ => have q := cell_at (off := 1) (y := 0) k1 (by decide); exact q
  | 2, _ => have q := cell_at (off := 2) (y := 0) k2 (by decide); exact q
  | 3, _ => have q := cell_at (off := 3) (y := 0) k3 (by decide); exact q
  | 4, _ => have q := cell_at (off := 4) (y := 0) k4 (by decide); exact q
  | 5, _ => have q := cell_at (off := 5) (y := 0) k5 (by decide); exact q
  | 6, _ => have q := cell_at (off := 6) (y := 0) k6 (by decide); exact q
  | 7, _ => have q := cell_at (off := 7) (y := 0) k7 (by decide); exact q
  | 8, _ => have q := cell_at (off := 8) (y := 0) k8 (by decide); exact q
  | 9, _ => have q := cell_at (off := 9) (y := 0) k9 (by decide); exact q
  | y + 10, hy => omega
theorem arg39 {H : Type} {enc : TypeId × Value -> H} {w : World} {spare : Nat -> Bool} {held : Bool} {r : Reach} {b0 : Nat} {v : Value} {d : DataW H} {p : List MemPlace} (hv : Value.okWide Try.prog w r b0 39 v) (h : DataW.Trod enc Try.prog w 0 spare held 39 v d p) : ∃ a : TRegulate, Am.VR (Am.top w) (.agg (c_TRegulate a)) v /\ rg_TRegulate a := by
  obtain ⟨cs, rfl, hs⟩ := okWide_struct Try.underlying39 hv
  obtain ⟨fuel, hf⟩ := h
  obtain ⟨a, h1, h2⟩ := op_TRegulate_39 hf
  exact ⟨a, Cells_agg h1 rfl, h2⟩
theorem cz5 : Try.prog.cellsOf 5 = 1 := by kernel_rfl
theorem cz23 : Try.prog.cellsOf 23 = 4 := by kernel_rfl
def rg_TRegulateWord (a : TRegulateWord) : Prop := (0 <= a.Kind /\ a.Kind <= 255) /\ (-9223372036854775808 <= a.Channel /\ a.Channel <= 9223372036854775807) /\ (-9223372036854775808 <= a.To /\ a.To <= 9223372036854775807) /\ (-9223372036854775808 <= a.At /\ a.At <= 9223372036854775807)
theorem op_TRegulateWord_23 {H : Type} {enc : TypeId × Value -> H} {w : World} {spare : Nat -> Bool} {held : Bool} {fuel : Nat} {cs : List Value} {x : DataW H × List MemPlace} (h : DataW.trod enc Try.prog w 0 spare held fuel 23 cs = some x) : ∃ a : TRegulateWord, Cells w (c_TRegulateWord a) 4 cs /\ rg_TRegulateWord a := by
  obtain ⟨xs, n, hfu, _, hl, hn, hg⟩ := DataW.trod_struct Try.underlying23 h
  replace hn : xs.length = 4 := hn
  have f0 := hg 0 _ rfl
  rw [List.getElem?_eq_getElem (by omega)] at f0
  have g0 : DataW.trod enc Try.prog w 0 spare held n 5 ((cs.drop 0).take (Try.prog.cellsOf 5)) = some (xs[0]'(by omega)) := f0
  rw [cz5] at g0
  obtain ⟨a0, k0, r0⟩ := op_u8 Try.underlying5 g0
  have f1 := hg 1 _ rfl
  rw [List.getElem?_eq_getElem (by omega)] at f1
  have g1 : DataW.trod enc Try.prog w 0 spare held n 3 ((cs.drop 1).take (Try.prog.cellsOf 3)) = some (xs[1]'(by omega)) := f1
  rw [cz3] at g1
  obtain ⟨a1, k1, r1⟩ := op_i64 Try.underlying3 g1
  have f2 := hg 2 _ rfl
  rw [List.getElem?_eq_getElem (by omega)] at f2
  have g2 : DataW.trod enc Try.prog w 0 spare held n 3 ((cs.drop 2).take (Try.prog.cellsOf 3)) = some (xs[2]'(by omega)) := f2
  rw [cz3] at g2
  obtain ⟨a2, k2, r2⟩ := op_i64 Try.underlying3 g2
  have f3 := hg 3 _ rfl
  rw [List.getElem?_eq_getElem (by omega)] at f3
  have g3 : DataW.trod enc Try.prog w 0 spare held n 3 ((cs.drop 3).take (Try.prog.cellsOf 3)) = some (xs[3]'(by omega)) := f3
  rw [cz3] at g3
  obtain ⟨a3, k3, r3⟩ := op_i64 Try.underlying3 g3
  refine ⟨⟨a0, a1, a2, a3⟩, ⟨hl.trans cz23, fun y hy => ?_⟩, ⟨r0, r1, r2, r3⟩⟩
  match y, hy with
  | 0, _ => have q := cell_at (off := 0) (y := 0) k0 (by decide); exact q
  | 1, _ => have q := cell_at (off := 1) (y := 0) k1 (by decide); exact q
  | 2, _ => have q := cell_at (off := 2) (y := 0) k2 (by decide); exact q
  | 3, _ => have q := cell_at (off := 3) (y := 0) k3 (by decide); exact q
  | y + 4, hy => omega
theorem arg23 {H : Type} {enc : TypeId × Value -> H} {w : World} {spare : Nat -> Bool} {held : Bool} {r : Reach} {b0 : Nat} {v : Value} {d : DataW H} {p : List MemPlace} (hv : Value.okWide Try.prog w r b0 23 v) (h : DataW.Trod enc Try.prog w 0 spare held 23 v d p) : ∃ a : TRegulateWord, Am.VR (Am.top w) (.agg (c_TRegulateWord a)) v /\ rg_TRegulateWord a := by
  obtain ⟨cs, rfl, hs⟩ := okWide_struct Try.underlying23 hv
  obtain ⟨fuel, hf⟩ := h
  obtain ⟨a, h1, h2⟩ := op_TRegulateWord_23 hf
  exact ⟨a, Cells_agg h1 rfl, h2⟩
theorem arg3 {H : Type} {enc : TypeId × Value -> H} {w : World} {spare : Nat -> Bool} {held : Bool} {r : Reach} {b0 : Nat} {v : Value} {d : DataW H} {p : List MemPlace} (hv : Value.okWide Try.prog w r b0 3 v) (h : DataW.Trod enc Try.prog w 0 spare held 3 v d p) : ∃ a : Int, Am.VR (Am.top w) (.int .i64 a) v /\ (-9223372036854775808 <= a /\ a <= 9223372036854775807) := by
  obtain ⟨n, rfl⟩ := okWide_int Try.underlying3 hv
  obtain ⟨fuel, hf⟩ := h
  obtain ⟨a, h1, h2⟩ := op_i64 Try.underlying3 hf
  exact ⟨a, Cells_single h1 rfl, h2⟩
end Go.Proofs.Ytjhkehdbjnhplaa
