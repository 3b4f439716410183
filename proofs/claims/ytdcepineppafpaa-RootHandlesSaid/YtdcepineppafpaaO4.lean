/-
  What a law is given, as typed values.
-/
import Derived.Test.YtdcepineppafpaaB
import Derived.Test.YtdcepineppafpaaPm10
namespace Go.Proofs.Ytdcepineppafpaa
open Go.Am Go.ChangeShapes Go.WideShapes
set_option linter.unusedVariables false
set_option linter.unusedSimpArgs false
set_option maxRecDepth 20000
theorem okWide_arr {P : Program} {w : World} {r : Reach} {b0 n : Nat} {e t : TypeId} {v : Value} (ht : P.underlying t = some (.array n e)) (hv : Value.okWide P w r b0 t v) : ∃ cs, v = .agg cs ∧ cs.size = P.cellsOf t := by
  simp only [Value.okWide, ht] at hv
  obtain ⟨cs, h1, h2, _⟩ := hv
  exact ⟨cs, h1, h2⟩
theorem op_i64 {H : Type} {enc : TypeId × Value → H} {w : World} {spare : Nat → Bool} {held : Bool} {fuel : Nat} {t : TypeId} {cs : List Value} {x : DataW H × List MemPlace} (hu : Try.prog.underlying t = some (.int .i64)) (h : DataW.trod enc Try.prog w 0 spare held fuel t cs = some x) : ∃ n : Int, Cells w (c_i64 n) 1 cs ∧ (-9223372036854775808 ≤ n ∧ n ≤ 9223372036854775807) := by
  obtain ⟨n, h1, h2⟩ := op_int hu h
  exact ⟨n, h1, bounds_i64 h2⟩
theorem op_u64 {H : Type} {enc : TypeId × Value → H} {w : World} {spare : Nat → Bool} {held : Bool} {fuel : Nat} {t : TypeId} {cs : List Value} {x : DataW H × List MemPlace} (hu : Try.prog.underlying t = some (.int .u64)) (h : DataW.trod enc Try.prog w 0 spare held fuel t cs = some x) : ∃ n : Int, Cells w (c_u64 n) 1 cs ∧ (0 ≤ n ∧ n ≤ 18446744073709551615) := by
  obtain ⟨n, h1, h2⟩ := op_int hu h
  exact ⟨n, h1, bounds_u64 h2⟩
theorem op_u8 {H : Type} {enc : TypeId × Value → H} {w : World} {spare : Nat → Bool} {held : Bool} {fuel : Nat} {t : TypeId} {cs : List Value} {x : DataW H × List MemPlace} (hu : Try.prog.underlying t = some (.int .u8)) (h : DataW.trod enc Try.prog w 0 spare held fuel t cs = some x) : ∃ n : Int, Cells w (c_u8 n) 1 cs ∧ (0 ≤ n ∧ n ≤ 255) := by
  obtain ⟨n, h1, h2⟩ := op_int hu h
  exact ⟨n, h1, bounds_u8 h2⟩
theorem op_u32 {H : Type} {enc : TypeId × Value → H} {w : World} {spare : Nat → Bool} {held : Bool} {fuel : Nat} {t : TypeId} {cs : List Value} {x : DataW H × List MemPlace} (hu : Try.prog.underlying t = some (.int .u32)) (h : DataW.trod enc Try.prog w 0 spare held fuel t cs = some x) : ∃ n : Int, Cells w (c_u32 n) 1 cs ∧ (0 ≤ n ∧ n ≤ 4294967295) := by
  obtain ⟨n, h1, h2⟩ := op_int hu h
  exact ⟨n, h1, bounds_u32 h2⟩
theorem op_b {H : Type} {enc : TypeId × Value → H} {w : World} {spare : Nat → Bool} {held : Bool} {fuel : Nat} {t : TypeId} {cs : List Value} {x : DataW H × List MemPlace} (hu : Try.prog.underlying t = some .bool) (h : DataW.trod enc Try.prog w 0 spare held fuel t cs = some x) : ∃ n : Bool, Cells w (c_b n) 1 cs ∧ True := by
  obtain ⟨n, h1⟩ := op_bool hu h
  exact ⟨n, h1, trivial⟩
theorem cz5 : Try.prog.cellsOf 5 = 1 := by kernel_rfl
theorem cz23 : Try.prog.cellsOf 23 = 6 := by kernel_rfl
def rg_A6u8 (a : A6u8) : Prop := (0 ≤ a.x0 ∧ a.x0 ≤ 255) ∧ (0 ≤ a.x1 ∧ a.x1 ≤ 255) ∧ (0 ≤ a.x2 ∧ a.x2 ≤ 255) ∧ (0 ≤ a.x3 ∧ a.x3 ≤ 255) ∧ (0 ≤ a.x4 ∧ a.x4 ≤ 255) ∧ (0 ≤ a.x5 ∧ a.x5 ≤ 255)
theorem op_A6u8_23 {H : Type} {enc : TypeId × Value → H} {w : World} {spare : Nat → Bool} {held : Bool} {fuel : Nat} {cs : List Value} {x : DataW H × List MemPlace} (h : DataW.trod enc Try.prog w 0 spare held fuel 23 cs = some x) : ∃ a : A6u8, Cells w (c_A6u8 a) 6 cs ∧ rg_A6u8 a := by
  obtain ⟨xs, n, hfu, _, hl, hn, hg⟩ := DataW.trod_array Try.underlying23 h
  have f0 := hg 0 (by decide)
  rw [List.getElem?_eq_getElem (by omega)] at f0
  have g0 : DataW.trod enc Try.prog w 0 spare held n 5 ((cs.drop (0 * Try.prog.cellsOf 5)).take (Try.prog.cellsOf 5)) = some (xs[0]'(by omega)) := f0
  rw [cz5] at g0
  obtain ⟨a0, k0, r0⟩ := op_u8 Try.underlying5 g0
  have f1 := hg 1 (by decide)
  rw [List.getElem?_eq_getElem (by omega)] at f1
  have g1 : DataW.trod enc Try.prog w 0 spare held n 5 ((cs.drop (1 * Try.prog.cellsOf 5)).take (Try.prog.cellsOf 5)) = some (xs[1]'(by omega)) := f1
  rw [cz5] at g1
  obtain ⟨a1, k1, r1⟩ := op_u8 Try.underlying5 g1
  have f2 := hg 2 (by decide)
  rw [List.getElem?_eq_getElem (by omega)] at f2
  have g2 : DataW.trod enc Try.prog w 0 spare held n 5 ((cs.drop (2 * Try.prog.cellsOf 5)).take (Try.prog.cellsOf 5)) = some (xs[2]'(by omega)) := f2
  rw [cz5] at g2
  obtain ⟨a2, k2, r2⟩ := op_u8 Try.underlying5 g2
  have f3 := hg 3 (by decide)
  rw [List.getElem?_eq_getElem (by omega)] at f3
  have g3 : DataW.trod enc Try.prog w 0 spare held n 5 ((cs.drop (3 * Try.prog.cellsOf 5)).take (Try.prog.cellsOf 5)) = some (xs[3]'(by omega)) := f3
  rw [cz5] at g3
  obtain ⟨a3, k3, r3⟩ := op_u8 Try.underlying5 g3
  have f4 := hg 4 (by decide)
  rw [List.getElem?_eq_getElem (by omega)] at f4
  have g4 : DataW.trod enc Try.prog w 0 spare held n 5 ((cs.drop (4 * Try.prog.cellsOf 5)).take (Try.prog.cellsOf 5)) = some (xs[4]'(by omega)) := f4
  rw [cz5] at g4
  obtain ⟨a4, k4, r4⟩ := op_u8 Try.underlying5 g4
  have f5 := hg 5 (by decide)
  rw [List.getElem?_eq_getElem (by omega)] at f5
  have g5 : DataW.trod enc Try.prog w 0 spare held n 5 ((cs.drop (5 * Try.prog.cellsOf 5)).take (Try.prog.cellsOf 5)) = some (xs[5]'(by omega)) := f5
  rw [cz5] at g5
  obtain ⟨a5, k5, r5⟩ := op_u8 Try.underlying5 g5
  refine ⟨⟨a0, a1, a2, a3, a4, a5⟩, ⟨hl.trans cz23, fun y hy => ?_⟩, ⟨r0, r1, r2, r3, r4, r5⟩⟩
  match y, hy with
  | 0, _ => have q := cell_at (off := 0) (y := 0) k0 (by decide); exact q
  | 1, _ => have q := cell_at (off := 1) (y := 0) k1 (by decide); exact q
  | 2, _ => have q := cell_at (off := 2) (y := 0) k2 (by decide); exact q
  | 3, _ => have q := cell_at (off := 3) (y := 0) k3 (by decide); exact q
  | 4, _ => have q := cell_at (off := 4) (y := 0) k4 (by decide); exact q
  | 5, _ => have q := cell_at (off := 5) (y := 0) k5 (by decide); exact q
  | y + 6, hy => omega
theorem cz3 : Try.prog.cellsOf 3 = 1 := by kernel_rfl
theorem cz4 : Try.prog.cellsOf 4 = 1 := by kernel_rfl
theorem cz62 : Try.prog.cellsOf 62 = 17 := by kernel_rfl
def rg_TTree (a : TTree) : Prop := rg_A6u8 a.Root ∧ rg_A6u8 a.Parent ∧ (-9223372036854775808 ≤ a.Seq ∧ a.Seq ≤ 9223372036854775807) ∧ (-9223372036854775808 ≤ a.Hops ∧ a.Hops ≤ 9223372036854775807) ∧ (-9223372036854775808 ≤ a.Cost ∧ a.Cost ≤ 9223372036854775807) ∧ True ∧ (-9223372036854775808 ≤ a.Until ∧ a.Until ≤ 9223372036854775807)
theorem op_TTree_62 {H : Type} {enc : TypeId × Value → H} {w : World} {spare : Nat → Bool} {held : Bool} {fuel : Nat} {cs : List Value} {x : DataW H × List MemPlace} (h : DataW.trod enc Try.prog w 0 spare held fuel 62 cs = some x) : ∃ a : TTree, Cells w (c_TTree a) 17 cs ∧ rg_TTree a := by
  obtain ⟨xs, n, hfu, _, hl, hn, hg⟩ := DataW.trod_struct Try.underlying62 h
  replace hn : xs.length = 7 := hn
  have f0 := hg 0 _ rfl
  rw [List.getElem?_eq_getElem (by omega)] at f0
  have g0 : DataW.trod enc Try.prog w 0 spare held n 23 ((cs.drop 0).take (Try.prog.cellsOf 23)) = some (xs[0]'(by omega)) := f0
  rw [cz23] at g0
  obtain ⟨a0, k0, r0⟩ := op_A6u8_23 g0
  have f1 := hg 1 _ rfl
  rw [List.getElem?_eq_getElem (by omega)] at f1
  have g1 : DataW.trod enc Try.prog w 0 spare held n 23 ((cs.drop 6).take (Try.prog.cellsOf 23)) = some (xs[1]'(by omega)) := f1
  rw [cz23] at g1
  obtain ⟨a1, k1, r1⟩ := op_A6u8_23 g1
  have f2 := hg 2 _ rfl
  rw [List.getElem?_eq_getElem (by omega)] at f2
  have g2 : DataW.trod enc Try.prog w 0 spare held n 3 ((cs.drop 12).take (Try.prog.cellsOf 3)) = some (xs[2]'(by omega)) := f2
  rw [cz3] at g2
  obtain ⟨a2, k2, r2⟩ := op_i64 Try.underlying3 g2
  have f3 := hg 3 _ rfl
  rw [List.getElem?_eq_getElem (by omega)] at f3
  have g3 : DataW.trod enc Try.prog w 0 spare held n 3 ((cs.drop 13).take (Try.prog.cellsOf 3)) = some (xs[3]'(by omega)) := f3
  rw [cz3] at g3
  obtain ⟨a3, k3, r3⟩ := op_i64 Try.underlying3 g3
  have f4 := hg 4 _ rfl
  rw [List.getElem?_eq_getElem (by omega)] at f4
  have g4 : DataW.trod enc Try.prog w 0 spare held n 3 ((cs.drop 14).take (Try.prog.cellsOf 3)) = some (xs[4]'(by omega)) := f4
  rw [cz3] at g4
  obtain ⟨a4, k4, r4⟩ := op_i64 Try.underlying3 g4
  have f5 := hg 5 _ rfl
  rw [List.getElem?_eq_getElem (by omega)] at f5
  have g5 : DataW.trod enc Try.prog w 0 spare held n 4 ((cs.drop 15).take (Try.prog.cellsOf 4)) = some (xs[5]'(by omega)) := f5
  rw [cz4] at g5
  obtain ⟨a5, k5, r5⟩ := op_b Try.underlying4 g5
  have f6 := hg 6 _ rfl
  rw [List.getElem?_eq_getElem (by omega)] at f6
  have g6 : DataW.trod enc Try.prog w 0 spare held n 3 ((cs.drop 16).take (Try.prog.cellsOf 3)) = some (xs[6]'(by omega)) := f6
  rw [cz3] at g6
  obtain ⟨a6, k6, r6⟩ := op_i64 Try.underlying3 g6
  refine ⟨⟨a0, a1, a2, a3, a4, a5, a6⟩, ⟨hl.trans cz62, fun y hy => ?_⟩, ⟨r0, r1, r2, r3, r4, r5, r6⟩⟩
  match y, hy with
  | 0, _ => have q := cell_at (off := 0) (y := 0) k0 (by decide); exact q
  | 1, _ => have q := cell_at (off := 0) (y := 1) k0 (by decide); exact q
  | 2, _ => have q := cell_at (off := 0) (y := 2) k0 (by decide); exact q
  | 3, _ => have q := cell_at (off := 0) (y := 3) k0 (by decide); exact q
  | 4, _ => have q := cell_at (off := 0) (y := 4) k0 (by decide); exact q
  | 5, _ => have q := cell_at (off := 0) (y := 5) k0 (by decide); exact q
  | 6, _ => have q := cell_at (off := 6) (y := 0) k1 (by decide); exact q
  | 7, _ => have q := cell_at (off := 6) (y := 1) k1 (by decide); exact q
  | 8, _ => have q := cell_at (off := 6) (y := 2) k1 (by decide); exact q
  | 9, _ => have q := cell_at (off := 6) (y := 3) k1 (by decide); exact q
  | 10, _ => have q := cell_at (off := 6) (y := 4) k1 (by decide); exact q
  | 11, _ => have q := cell_at (off := 6) (y := 5) k1 (by decide); exact q
  | 12, _ => have q := cell_at (off := 12) (y := 0) k2 (by decide); exact q
  | 13, _ => have q := cell_at (off := 13) (y := 0) k3 (by decide); exact q
  | 14, _ => have q := cell_at (off := 14) (y := 0) k4 (by decide); exact q
  | 15, _ => have q := cell_at (off := 15) (y := 0) k5 (by decide); exact q
  | 16, _ => have q := cell_at (off := 16) (y := 0) k6 (by decide); exact q
  | y + 17, hy => omega
theorem cz64 : Try.prog.cellsOf 64 = 13 := by kernel_rfl
def rg_TProxied (a : TProxied) : Prop := rg_A6u8 a.Out ∧ rg_A6u8 a.Via ∧ (-9223372036854775808 ≤ a.Until ∧ a.Until ≤ 9223372036854775807)
theorem op_TProxied_64 {H : Type} {enc : TypeId × Value → H} {w : World} {spare : Nat → Bool} {held : Bool} {fuel : Nat} {cs : List Value} {x : DataW H × List MemPlace} (h : DataW.trod enc Try.prog w 0 spare held fuel 64 cs = some x) : ∃ a : TProxied, Cells w (c_TProxied a) 13 cs ∧ rg_TProxied a := by
  obtain ⟨xs, n, hfu, _, hl, hn, hg⟩ := DataW.trod_struct Try.underlying64 h
  replace hn : xs.length = 3 := hn
  have f0 := hg 0 _ rfl
  rw [List.getElem?_eq_getElem (by omega)] at f0
  have g0 : DataW.trod enc Try.prog w 0 spare held n 23 ((cs.drop 0).take (Try.prog.cellsOf 23)) = some (xs[0]'(by omega)) := f0
  rw [cz23] at g0
  obtain ⟨a0, k0, r0⟩ := op_A6u8_23 g0
  have f1 := hg 1 _ rfl
  rw [List.getElem?_eq_getElem (by omega)] at f1
  have g1 : DataW.trod enc Try.prog w 0 spare held n 23 ((cs.drop 6).take (Try.prog.cellsOf 23)) = some (xs[1]'(by omega)) := f1
  rw [cz23] at g1
  obtain ⟨a1, k1, r1⟩ := op_A6u8_23 g1
  have f2 := hg 2 _ rfl
  rw [List.getElem?_eq_getElem (by omega)] at f2
  have g2 : DataW.trod enc Try.prog w 0 spare held n 3 ((cs.drop 12).take (Try.prog.cellsOf 3)) = some (xs[2]'(by omega)) := f2
  rw [cz3] at g2
  obtain ⟨a2, k2, r2⟩ := op_i64 Try.underlying3 g2
  refine ⟨⟨a0, a1, a2⟩, ⟨hl.trans cz64, fun y hy => ?_⟩, ⟨r0, r1, r2⟩⟩
  match y, hy with
  | 0, _ => have q := cell_at (off := 0) (y := 0) k0 (by decide); exact q
  | 1, _ => have q := cell_at (off := 0) (y := 1) k0 (by decide); exact q
  | 2, _ => have q := cell_at (off := 0) (y := 2) k0 (by decide); exact q
  | 3, _ => have q := cell_at (off := 0) (y := 3) k0 (by decide); exact q
  | 4, _ => have q := cell_at (off := 0) (y := 4) k0 (by decide); exact q
  | 5, _ => have q := cell_at (off := 0) (y := 5) k0 (by decide); exact q
  | 6, _ => have q := cell_at (off := 6) (y := 0) k1 (by decide); exact q
  | 7, _ => have q := cell_at (off := 6) (y := 1) k1 (by decide); exact q
  | 8, _ => have q := cell_at (off := 6) (y := 2) k1 (by decide); exact q
  | 9, _ => have q := cell_at (off := 6) (y := 3) k1 (by decide); exact q
  | 10, _ => have q := cell_at (off := 6) (y := 4) k1 (by decide); exact q
  | 11, _ => have q := cell_at (off := 6) (y := 5) k1 (by decide); exact q
  | 12, _ => have q := cell_at (off := 12) (y := 0) k2 (by decide); exact q
  | y + 13, hy => omega
theorem cz38 : Try.prog.cellsOf 38 = 1 := by kernel_rfl
theorem cz39 : Try.prog.cellsOf 39 = 1 := by kernel_rfl
theorem cz41 : Try.prog.cellsOf 41 = 11 := by kernel_rfl
def rg_TRoots (a : TRoots) : Prop := rg_A6u8 a.Own ∧ True ∧ True ∧ (-9223372036854775808 ≤ a.Seq ∧ a.Seq ≤ 9223372036854775807) ∧ (a.Trees.length ≤ maxLen ∧ ∀ q ∈ a.Trees, rg_TTree q) ∧ (a.Proxies.length ≤ maxLen ∧ ∀ q ∈ a.Proxies, rg_TProxied q)
theorem op_TRoots_41 {H : Type} {enc : TypeId × Value → H} {w : World} {spare : Nat → Bool} {held : Bool} {fuel : Nat} {cs : List Value} {x : DataW H × List MemPlace} (h : DataW.trod enc Try.prog w 0 spare held fuel 41 cs = some x) : ∃ a : TRoots, Cells w (c_TRoots a) 11 cs ∧ rg_TRoots a := by
  obtain ⟨xs, n, hfu, _, hl, hn, hg⟩ := DataW.trod_struct Try.underlying41 h
  replace hn : xs.length = 6 := hn
  have f0 := hg 0 _ rfl
  rw [List.getElem?_eq_getElem (by omega)] at f0
  have g0 : DataW.trod enc Try.prog w 0 spare held n 23 ((cs.drop 0).take (Try.prog.cellsOf 23)) = some (xs[0]'(by omega)) := f0
  rw [cz23] at g0
  obtain ⟨a0, k0, r0⟩ := op_A6u8_23 g0
  have f1 := hg 1 _ rfl
  rw [List.getElem?_eq_getElem (by omega)] at f1
  have g1 : DataW.trod enc Try.prog w 0 spare held n 4 ((cs.drop 6).take (Try.prog.cellsOf 4)) = some (xs[1]'(by omega)) := f1
  rw [cz4] at g1
  obtain ⟨a1, k1, r1⟩ := op_b Try.underlying4 g1
  have f2 := hg 2 _ rfl
  rw [List.getElem?_eq_getElem (by omega)] at f2
  have g2 : DataW.trod enc Try.prog w 0 spare held n 4 ((cs.drop 7).take (Try.prog.cellsOf 4)) = some (xs[2]'(by omega)) := f2
  rw [cz4] at g2
  obtain ⟨a2, k2, r2⟩ := op_b Try.underlying4 g2
  have f3 := hg 3 _ rfl
  rw [List.getElem?_eq_getElem (by omega)] at f3
  have g3 : DataW.trod enc Try.prog w 0 spare held n 3 ((cs.drop 8).take (Try.prog.cellsOf 3)) = some (xs[3]'(by omega)) := f3
  rw [cz3] at g3
  obtain ⟨a3, k3, r3⟩ := op_i64 Try.underlying3 g3
  have f4 := hg 4 _ rfl
  rw [List.getElem?_eq_getElem (by omega)] at f4
  have g4 : DataW.trod enc Try.prog w 0 spare held n 38 ((cs.drop 9).take (Try.prog.cellsOf 38)) = some (xs[4]'(by omega)) := f4
  rw [cz38] at g4
  obtain ⟨a4, k4, r4⟩ := op_slice (R := fun q => rg_TTree q) (f := c_TTree) (by decide) Try.underlying38 cz62 (fun h => op_TTree_62 h) g4
  have f5 := hg 5 _ rfl
  rw [List.getElem?_eq_getElem (by omega)] at f5
  have g5 : DataW.trod enc Try.prog w 0 spare held n 39 ((cs.drop 10).take (Try.prog.cellsOf 39)) = some (xs[5]'(by omega)) := f5
  rw [cz39] at g5
  obtain ⟨a5, k5, r5⟩ := op_slice (R := fun q => rg_TProxied q) (f := c_TProxied) (by decide) Try.underlying39 cz64 (fun h => op_TProxied_64 h) g5
  refine ⟨⟨a0, a1, a2, a3, a4, a5⟩, ⟨hl.trans cz41, fun y hy => ?_⟩, ⟨r0, r1, r2, r3, r4, r5⟩⟩
  match y, hy with
  | 0, _ => have q := cell_at (off := 0) (y := 0) k0 (by decide); exact q
  | 1, _ => have q := cell_at (off := 0) (y := 1) k0 (by decide); exact q
  | 2, _ => have q := cell_at (off := 0) (y := 2) k0 (by decide); exact q
  | 3, _ => have q := cell_at (off := 0) (y := 3) k0 (by decide); exact q
  | 4, _ => have q := cell_at (off := 0) (y := 4) k0 (by decide); exact q
  | 5, _ => have q := cell_at (off := 0) (y := 5) k0 (by decide); exact q
  | 6, _ => have q := cell_at (off := 6) (y := 0) k1 (by decide); exact q
  | 7, _ => have q := cell_at (off := 7) (y := 0) k2 (by decide); exact q
  | 8, _ => have q := cell_at (off := 8) (y := 0) k3 (by decide); exact q
  | 9, _ => have q := cell_at (off := 9) (y := 0) k4 (by decide); exact q
  | 10, _ => have q := cell_at (off := 10) (y := 0) k5 (by decide); exact q
  | y + 11, hy => omega
theorem arg41 {H : Type} {enc : TypeId × Value → H} {w : World} {spare : Nat → Bool} {held : Bool} {r : Reach} {b0 : Nat} {v : Value} {d : DataW H} {p : List MemPlace} (hv : Value.okWide Try.prog w r b0 41 v) (h : DataW.Trod enc Try.prog w 0 spare held 41 v d p) : ∃ a : TRoots, Am.VR (Am.top w) (.agg (c_TRoots a)) v ∧ rg_TRoots a := by
  obtain ⟨cs, rfl, hs⟩ := okWide_struct Try.underlying41 hv
  obtain ⟨fuel, hf⟩ := h
  obtain ⟨a, h1, h2⟩ := op_TRoots_41 hf
  exact ⟨a, Cells_agg h1 rfl, h2⟩
theorem cz25 : Try.prog.cellsOf 25 = 10 := by kernel_rfl
def rg_TRootWord (a : TRootWord) : Prop := rg_A6u8 a.Root ∧ (-9223372036854775808 ≤ a.Seq ∧ a.Seq ≤ 9223372036854775807) ∧ (-9223372036854775808 ≤ a.Hops ∧ a.Hops ≤ 9223372036854775807) ∧ (-9223372036854775808 ≤ a.Cost ∧ a.Cost ≤ 9223372036854775807) ∧ True
theorem op_TRootWord_25 {H : Type} {enc : TypeId × Value → H} {w : World} {spare : Nat → Bool} {held : Bool} {fuel : Nat} {cs : List Value} {x : DataW H × List MemPlace} (h : DataW.trod enc Try.prog w 0 spare held fuel 25 cs = some x) : ∃ a : TRootWord, Cells w (c_TRootWord a) 10 cs ∧ rg_TRootWord a := by
  obtain ⟨xs, n, hfu, _, hl, hn, hg⟩ := DataW.trod_struct Try.underlying25 h
  replace hn : xs.length = 5 := hn
  have f0 := hg 0 _ rfl
  rw [List.getElem?_eq_getElem (by omega)] at f0
  have g0 : DataW.trod enc Try.prog w 0 spare held n 23 ((cs.drop 0).take (Try.prog.cellsOf 23)) = some (xs[0]'(by omega)) := f0
  rw [cz23] at g0
  obtain ⟨a0, k0, r0⟩ := op_A6u8_23 g0
  have f1 := hg 1 _ rfl
  rw [List.getElem?_eq_getElem (by omega)] at f1
  have g1 : DataW.trod enc Try.prog w 0 spare held n 3 ((cs.drop 6).take (Try.prog.cellsOf 3)) = some (xs[1]'(by omega)) := f1
  rw [cz3] at g1
  obtain ⟨a1, k1, r1⟩ := op_i64 Try.underlying3 g1
  have f2 := hg 2 _ rfl
  rw [List.getElem?_eq_getElem (by omega)] at f2
  have g2 : DataW.trod enc Try.prog w 0 spare held n 3 ((cs.drop 7).take (Try.prog.cellsOf 3)) = some (xs[2]'(by omega)) := f2
  rw [cz3] at g2
  obtain ⟨a2, k2, r2⟩ := op_i64 Try.underlying3 g2
  have f3 := hg 3 _ rfl
  rw [List.getElem?_eq_getElem (by omega)] at f3
  have g3 : DataW.trod enc Try.prog w 0 spare held n 3 ((cs.drop 8).take (Try.prog.cellsOf 3)) = some (xs[3]'(by omega)) := f3
  rw [cz3] at g3
  obtain ⟨a3, k3, r3⟩ := op_i64 Try.underlying3 g3
  have f4 := hg 4 _ rfl
  rw [List.getElem?_eq_getElem (by omega)] at f4
  have g4 : DataW.trod enc Try.prog w 0 spare held n 4 ((cs.drop 9).take (Try.prog.cellsOf 4)) = some (xs[4]'(by omega)) := f4
  rw [cz4] at g4
  obtain ⟨a4, k4, r4⟩ := op_b Try.underlying4 g4
  refine ⟨⟨a0, a1, a2, a3, a4⟩, ⟨hl.trans cz25, fun y hy => ?_⟩, ⟨r0, r1, r2, r3, r4⟩⟩
  match y, hy with
  | 0, _ => have q := cell_at (off := 0) (y := 0) k0 (by decide); exact q
  | 1, _ => have q := cell_at (off := 0) (y := 1) k0 (by decide); exact q
  | 2, _ => have q := cell_at (off := 0) (y := 2) k0 (by decide); exact q
  | 3, _ => have q := cell_at (off := 0) (y := 3) k0 (by decide); exact q
  | 4, _ => have q := cell_at (off := 0) (y := 4) k0 (by decide); exact q
  | 5, _ => have q := cell_at (off := 0) (y := 5) k0 (by decide); exact q
  | 6, _ => have q := cell_at (off := 6) (y := 0) k1 (by decide); exact q
  | 7, _ => have q := cell_at (off := 7) (y := 0) k2 (by decide); exact q
  | 8, _ => have q := cell_at (off := 8) (y := 0) k3 (by decide); exact q
  | 9, _ => have q := cell_at (off := 9) (y := 0) k4 (by decide); exact q
  | y + 10, hy => omega
theorem arg25 {H : Type} {enc : TypeId × Value → H} {w : World} {spare : Nat → Bool} {held : Bool} {r : Reach} {b0 : Nat} {v : Value} {d : DataW H} {p : List MemPlace} (hv : Value.okWide Try.prog w r b0 25 v) (h : DataW.Trod enc Try.prog w 0 spare held 25 v d p) : ∃ a : TRootWord, Am.VR (Am.top w) (.agg (c_TRootWord a)) v ∧ rg_TRootWord a := by
  obtain ⟨cs, rfl, hs⟩ := okWide_struct Try.underlying25 hv
  obtain ⟨fuel, hf⟩ := h
  obtain ⟨a, h1, h2⟩ := op_TRootWord_25 hf
  exact ⟨a, Cells_agg h1 rfl, h2⟩
theorem arg23 {H : Type} {enc : TypeId × Value → H} {w : World} {spare : Nat → Bool} {held : Bool} {r : Reach} {b0 : Nat} {v : Value} {d : DataW H} {p : List MemPlace} (hv : Value.okWide Try.prog w r b0 23 v) (h : DataW.Trod enc Try.prog w 0 spare held 23 v d p) : ∃ a : A6u8, Am.VR (Am.top w) (.agg (c_A6u8 a)) v ∧ rg_A6u8 a := by
  obtain ⟨cs, rfl, hs⟩ := okWide_arr Try.underlying23 hv
  obtain ⟨fuel, hf⟩ := h
  obtain ⟨a, h1, h2⟩ := op_A6u8_23 hf
  exact ⟨a, Cells_agg h1 rfl, h2⟩
theorem arg3 {H : Type} {enc : TypeId × Value → H} {w : World} {spare : Nat → Bool} {held : Bool} {r : Reach} {b0 : Nat} {v : Value} {d : DataW H} {p : List MemPlace} (hv : Value.okWide Try.prog w r b0 3 v) (h : DataW.Trod enc Try.prog w 0 spare held 3 v d p) : ∃ a : Int, Am.VR (Am.top w) (.int .i64 a) v ∧ (-9223372036854775808 ≤ a ∧ a ≤ 9223372036854775807) := by
  obtain ⟨n, rfl⟩ := okWide_int Try.underlying3 hv
  obtain ⟨fuel, hf⟩ := h
  obtain ⟨a, h1, h2⟩ := op_i64 Try.underlying3 hf
  exact ⟨a, Cells_single h1 rfl, h2⟩
end Go.Proofs.Ytdcepineppafpaa
