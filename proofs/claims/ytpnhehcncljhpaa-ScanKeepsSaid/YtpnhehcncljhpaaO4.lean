/-
  What a law is given, as typed values.
-/
import Derived.Test.YtpnhehcncljhpaaB
import Derived.Test.YtpnhehcncljhpaaBm10
namespace Go.Proofs.Ytpnhehcncljhpaa
open Go.Am Go.ChangeShapes Go.WideShapes
set_option linter.unusedVariables false
set_option linter.unusedSimpArgs false
set_option maxRecDepth 20000
theorem okWide_arr {P : Program} {w : World} {r : Reach} {b0 n : Nat} {e t : TypeId} {v : Value} (ht : P.underlying t = some (.array n e)) (hv : Value.okWide P w r b0 t v) : ∃ cs, v = .agg cs ∧ cs.size = P.cellsOf t := by
  simp only [Value.okWide, ht] at hv
  obtain ⟨cs, h1, h2, _⟩ := hv
  exact ⟨cs, h1, h2⟩
theorem op_i64 {H : Type} {enc : TypeId × Value → H} {w : World} {spare : Nat → Bool} {held : Bool} {fuel : Nat} {t : TypeId} {cs : List Value} {x : DataW H × List MemPlace} (hu : Try.prog.underlying t = some (.int .i64)) (h : DataW.trod enc Try.prog w 0 spare held fuel t cs = some x) : ∃ n : Int, Cells w (c_i64 n) 1 cs ∧ (-9223372036854775808 ≤ n ∧ n ≤ 9223372036854775807) := by
  obtain ⟨n, h1, h2⟩ := op_int hu h
  exact ⟨n, h1, bounds_i64 h2⟩
theorem op_u64 {H : Type} {enc : TypeId × Value → H} {w : World} {spare : Nat → Bool} {held : Bool} {fuel : Nat} {t : TypeId} {cs : List Value} {x : DataW H × List MemPlace} (hu : Try.prog.underlying t = some (.int .u64)) (h : DataW.trod enc Try.prog w 0 spare held fuel t cs = some x) : ∃ n : Int, Cells w (c_u64 n) 1 cs ∧ (0 ≤ n ∧ n ≤ 18446744073709551615) := by
  obtain ⟨n, h1, h2⟩ := op_int hu h
  exact ⟨n, h1, bounds_u64 h2⟩
theorem op_u8 {H : Type} {enc : TypeId × Value → H} {w : World} {spare : Nat → Bool} {held : Bool} {fuel : Nat} {t : TypeId} {cs : List Value} {x : DataW H × List MemPlace} (hu : Try.prog.underlying t = some (.int .u8)) (h : DataW.trod enc Try.prog w 0 spare held fuel t cs = some x) : ∃ n : Int, Cells w (c_u8 n) 1 cs ∧ (0 ≤ n ∧ n ≤ 255) := by
  obtain ⟨n, h1, h2⟩ := op_int hu h
  exact ⟨n, h1, bounds_u8 h2⟩
theorem op_u16 {H : Type} {enc : TypeId × Value → H} {w : World} {spare : Nat → Bool} {held : Bool} {fuel : Nat} {t : TypeId} {cs : List Value} {x : DataW H × List MemPlace} (hu : Try.prog.underlying t = some (.int .u16)) (h : DataW.trod enc Try.prog w 0 spare held fuel t cs = some x) : ∃ n : Int, Cells w (c_u16 n) 1 cs ∧ (0 ≤ n ∧ n ≤ 65535) := by
  obtain ⟨n, h1, h2⟩ := op_int hu h
  exact ⟨n, h1, bounds_u16 h2⟩
theorem op_b {H : Type} {enc : TypeId × Value → H} {w : World} {spare : Nat → Bool} {held : Bool} {fuel : Nat} {t : TypeId} {cs : List Value} {x : DataW H × List MemPlace} (hu : Try.prog.underlying t = some .bool) (h : DataW.trod enc Try.prog w 0 spare held fuel t cs = some x) : ∃ n : Bool, Cells w (c_b n) 1 cs ∧ True := by
  obtain ⟨n, h1⟩ := op_bool hu h
  exact ⟨n, h1, trivial⟩
theorem cz5 : Try.prog.cellsOf 5 = 1 := by kernel_rfl
theorem cz43 : Try.prog.cellsOf 43 = 6 := by kernel_rfl
def rg_A6u8 (a : A6u8) : Prop := (0 ≤ a.x0 ∧ a.x0 ≤ 255) ∧ (0 ≤ a.x1 ∧ a.x1 ≤ 255) ∧ (0 ≤ a.x2 ∧ a.x2 ≤ 255) ∧ (0 ≤ a.x3 ∧ a.x3 ≤ 255) ∧ (0 ≤ a.x4 ∧ a.x4 ≤ 255) ∧ (0 ≤ a.x5 ∧ a.x5 ≤ 255)
theorem op_A6u8_43 {H : Type} {enc : TypeId × Value → H} {w : World} {spare : Nat → Bool} {held : Bool} {fuel : Nat} {cs : List Value} {x : DataW H × List MemPlace} (h : DataW.trod enc Try.prog w 0 spare held fuel 43 cs = some x) : ∃ a : A6u8, Cells w (c_A6u8 a) 6 cs ∧ rg_A6u8 a := by
  obtain ⟨xs, n, hfu, _, hl, hn, hg⟩ := DataW.trod_array Try.underlying43 h
  have f0 := hg 0 (by decide)
  rw [List.getElem?_eq_getElem (by omega)] at f0
  have g0 : DataW.trod enc Try.prog w 0 spare held n 5 ((cs.drop (0 * Try.prog.cellsOf 5)).take (Try.prog.cellsOf 5)) = some (xs[0]'(by omega)) := f0
  rw [cz5] at g0
  obtain ⟨a0, k0, r0⟩ := op_u8 Try.underlying5 g0
  have f1 := hg 1 (by decide)
  rw [List.getElem?_eq_getElem (by omega)] at f1
  have g1 : DataW.trod enc Try.prog w 0 spare held n 5 ((cs.drop (1 * Try.prog.cellsOf 5)).take (Try.prog.cellsOf 5)) = some (xs[1]'(by omega)) := f1
  rw [cz5] at g1
  obtain ⟨a1, k1, r1⟩ := op_u8 Try.underlying5 g1
  have f2 := hg 2 (by decide)
  rw [List.getElem?_eq_getElem (by omega)] at f2
  have g2 : DataW.trod enc Try.prog w 0 spare held n 5 ((cs.drop (2 * Try.prog.cellsOf 5)).take (Try.prog.cellsOf 5)) = some (xs[2]'(by omega)) := f2
  rw [cz5] at g2
  obtain ⟨a2, k2, r2⟩ := op_u8 Try.underlying5 g2
  have f3 := hg 3 (by decide)
  rw [List.getElem?_eq_getElem (by omega)] at f3
  have g3 : DataW.trod enc Try.prog w 0 spare held n 5 ((cs.drop (3 * Try.prog.cellsOf 5)).take (Try.prog.cellsOf 5)) = some (xs[3]'(by omega)) := f3
  rw [cz5] at g3
  obtain ⟨a3, k3, r3⟩ := op_u8 Try.underlying5 g3
  have f4 := hg 4 (by decide)
  rw [List.getElem?_eq_getElem (by omega)] at f4
  have g4 : DataW.trod enc Try.prog w 0 spare held n 5 ((cs.drop (4 * Try.prog.cellsOf 5)).take (Try.prog.cellsOf 5)) = some (xs[4]'(by omega)) := f4
  rw [cz5] at g4
  obtain ⟨a4, k4, r4⟩ := op_u8 Try.underlying5 g4
  have f5 := hg 5 (by decide)
  rw [List.getElem?_eq_getElem (by omega)] at f5
  have g5 : DataW.trod enc Try.prog w 0 spare held n 5 ((cs.drop (5 * Try.prog.cellsOf 5)).take (Try.prog.cellsOf 5)) = some (xs[5]'(by omega)) := f5
  rw [cz5] at g5
  obtain ⟨a5, k5, r5⟩ := op_u8 Try.underlying5 g5
  refine ⟨⟨a0, a1, a2, a3, a4, a5⟩, ⟨hl.trans cz43, fun y hy => ?_⟩, ⟨r0, r1, r2, r3, r4, r5⟩⟩
  match y, hy with
  | 0, _ => have q := cell_at (off := 0) (y := 0) k0 (by decide); exact q
  | 1, _ => have q := cell_at (off := 1) (y := 0) k1 (by decide); exact q
  | 2, _ => have q := cell_at (off := 2) (y := 0) k2 (by decide); exact q
  | 3, _ => have q := cell_at (off := 3) (y := 0) k3 (by decide); exact q
  | 4, _ => have q := cell_at (off := 4) (y := 0) k4 (by decide); exact q
  | 5, _ => have q := cell_at (off := 5) (y := 0) k5 (by decide); exact q
  | y + 6, hy => omega
theorem cz3 : Try.prog.cellsOf 3 = 1 := by kernel_rfl
theorem cz9 : Try.prog.cellsOf 9 = 1 := by kernel_rfl
theorem cz4 : Try.prog.cellsOf 4 = 1 := by kernel_rfl
theorem cz52 : Try.prog.cellsOf 52 = 13 := by kernel_rfl
def rg_TCandidate (a : TCandidate) : Prop := rg_A6u8 a.Addr ∧ (-9223372036854775808 ≤ a.Channel ∧ a.Channel ≤ 9223372036854775807) ∧ (-9223372036854775808 ≤ a.Level ∧ a.Level ≤ 9223372036854775807) ∧ (-9223372036854775808 ≤ a.Load ∧ a.Load ≤ 9223372036854775807) ∧ (-9223372036854775808 ≤ a.Heard ∧ a.Heard ≤ 9223372036854775807) ∧ (-9223372036854775808 ≤ a.Interval ∧ a.Interval ≤ 9223372036854775807) ∧ a.Name.size ≤ maxLen ∧ True
theorem op_TCandidate_52 {H : Type} {enc : TypeId × Value → H} {w : World} {spare : Nat → Bool} {held : Bool} {fuel : Nat} {cs : List Value} {x : DataW H × List MemPlace} (h : DataW.trod enc Try.prog w 0 spare held fuel 52 cs = some x) : ∃ a : TCandidate, Cells w (c_TCandidate a) 13 cs ∧ rg_TCandidate a := by
  obtain ⟨xs, n, hfu, _, hl, hn, hg⟩ := DataW.trod_struct Try.underlying52 h
  replace hn : xs.length = 8 := hn
  have f0 := hg 0 _ rfl
  rw [List.getElem?_eq_getElem (by omega)] at f0
  have g0 : DataW.trod enc Try.prog w 0 spare held n 43 ((cs.drop 0).take (Try.prog.cellsOf 43)) = some (xs[0]'(by omega)) := f0
  rw [cz43] at g0
  obtain ⟨a0, k0, r0⟩ := op_A6u8_43 g0
  have f1 := hg 1 _ rfl
  rw [List.getElem?_eq_getElem (by omega)] at f1
  have g1 : DataW.trod enc Try.prog w 0 spare held n 3 ((cs.drop 6).take (Try.prog.cellsOf 3)) = some (xs[1]'(by omega)) := f1
  rw [cz3] at g1
  obtain ⟨a1, k1, r1⟩ := op_i64 Try.underlying3 g1
  have f2 := hg 2 _ rfl
  rw [List.getElem?_eq_getElem (by omega)] at f2
  have g2 : DataW.trod enc Try.prog w 0 spare held n 3 ((cs.drop 7).take (Try.prog.cellsOf 3)) = some (xs[2]'(by omega)) := f2
  rw [cz3] at g2
  obtain ⟨a2, k2, r2⟩ := op_i64 Try.underlying3 g2
  have f3 := hg 3 _ rfl
  rw [List.getElem?_eq_getElem (by omega)] at f3
  have g3 : DataW.trod enc Try.prog w 0 spare held n 3 ((cs.drop 8).take (Try.prog.cellsOf 3)) = some (xs[3]'(by omega)) := f3
  rw [cz3] at g3
  obtain ⟨a3, k3, r3⟩ := op_i64 Try.underlying3 g3
  have f4 := hg 4 _ rfl
  rw [List.getElem?_eq_getElem (by omega)] at f4
  have g4 : DataW.trod enc Try.prog w 0 spare held n 3 ((cs.drop 9).take (Try.prog.cellsOf 3)) = some (xs[4]'(by omega)) := f4
  rw [cz3] at g4
  obtain ⟨a4, k4, r4⟩ := op_i64 Try.underlying3 g4
  have f5 := hg 5 _ rfl
  rw [List.getElem?_eq_getElem (by omega)] at f5
  have g5 : DataW.trod enc Try.prog w 0 spare held n 3 ((cs.drop 10).take (Try.prog.cellsOf 3)) = some (xs[5]'(by omega)) := f5
  rw [cz3] at g5
  obtain ⟨a5, k5, r5⟩ := op_i64 Try.underlying3 g5
  have f6 := hg 6 _ rfl
  rw [List.getElem?_eq_getElem (by omega)] at f6
  have g6 : DataW.trod enc Try.prog w 0 spare held n 9 ((cs.drop 11).take (Try.prog.cellsOf 9)) = some (xs[6]'(by omega)) := f6
  rw [cz9] at g6
  obtain ⟨a6, k6, r6⟩ := op_str Try.underlying9 g6
  have f7 := hg 7 _ rfl
  rw [List.getElem?_eq_getElem (by omega)] at f7
  have g7 : DataW.trod enc Try.prog w 0 spare held n 4 ((cs.drop 12).take (Try.prog.cellsOf 4)) = some (xs[7]'(by omega)) := f7
  rw [cz4] at g7
  obtain ⟨a7, k7, r7⟩ := op_b Try.underlying4 g7
  refine ⟨⟨a0, a1, a2, a3, a4, a5, a6, a7⟩, ⟨hl.trans cz52, fun y hy => ?_⟩, ⟨r0, r1, r2, r3, r4, r5, r6, r7⟩⟩
  match y, hy with
  | 0, _ => have q := cell_at (off := 0) (y := 0) k0 (by decide); exact q
  | 1, _ => have q := cell_at (off := 0) (y := 1) k0 (by decide); exact q
  | 2, _ => have q := cell_at (off := 0) (y := 2) k0 (by decide); exact q
  | 3, _ => have q := cell_at (off := 0) (y := 3) k0 (by decide); exact q
  | 4, _ => have q := cell_at (off := 0) (y := 4) k0 (by decide); exact q
  | 5, _ => have q := cell_at (off := 0) (y := 5) k0 (by decide); exact q
  | 6, _ => have q := cell_at (off := 6) (y := 0) k1 (by decide); exact q
  | 7, _ => have q := cell_at (off := 7) (y := 0) k2 (by decide); exact q
  | 8, _ => have q := cell_at (off := 8) (y := 0) k3 (by decide); exact q
  | 9, _ => have q := cell_at (off := 9) (y := 0) k4 (by decide); exact q
  | 10, _ => have q := cell_at (off := 10) (y := 0) k5 (by decide); exact q
  | 11, _ => have q := cell_at (off := 11) (y := 0) k6 (by decide); exact q
  | 12, _ => have q := cell_at (off := 12) (y := 0) k7 (by decide); exact q
  | y + 13, hy => omega
theorem cz39 : Try.prog.cellsOf 39 = 1 := by kernel_rfl
theorem cz41 : Try.prog.cellsOf 41 = 1 := by kernel_rfl
def rg_TCandidates (a : TCandidates) : Prop := (a.List.length ≤ maxLen ∧ ∀ q ∈ a.List, rg_TCandidate q)
theorem op_TCandidates_41 {H : Type} {enc : TypeId × Value → H} {w : World} {spare : Nat → Bool} {held : Bool} {fuel : Nat} {cs : List Value} {x : DataW H × List MemPlace} (h : DataW.trod enc Try.prog w 0 spare held fuel 41 cs = some x) : ∃ a : TCandidates, Cells w (c_TCandidates a) 1 cs ∧ rg_TCandidates a := by
  obtain ⟨xs, n, hfu, _, hl, hn, hg⟩ := DataW.trod_struct Try.underlying41 h
  replace hn : xs.length = 1 := hn
  have f0 := hg 0 _ rfl
  rw [List.getElem?_eq_getElem (by omega)] at f0
  have g0 : DataW.trod enc Try.prog w 0 spare held n 39 ((cs.drop 0).take (Try.prog.cellsOf 39)) = some (xs[0]'(by omega)) := f0
  rw [cz39] at g0
  obtain ⟨a0, k0, r0⟩ := op_slice (R := fun q => rg_TCandidate q) (f := c_TCandidate) (by decide) Try.underlying39 cz52 (fun h => op_TCandidate_52 h) g0
  refine ⟨⟨a0⟩, ⟨hl.trans cz41, fun y hy => ?_⟩, r0⟩
  match y, hy with
  | 0, _ => have q := cell_at (off := 0) (y := 0) k0 (by decide); exact q
  | y + 1, hy => omega
theorem arg41 {H : Type} {enc : TypeId × Value → H} {w : World} {spare : Nat → Bool} {held : Bool} {r : Reach} {b0 : Nat} {v : Value} {d : DataW H} {p : List MemPlace} (hv : Value.okWide Try.prog w r b0 41 v) (h : DataW.Trod enc Try.prog w 0 spare held 41 v d p) : ∃ a : TCandidates, Am.VR (Am.top w) (.agg (c_TCandidates a)) v ∧ rg_TCandidates a := by
  obtain ⟨cs, rfl, hs⟩ := okWide_struct Try.underlying41 hv
  obtain ⟨fuel, hf⟩ := h
  obtain ⟨a, h1, h2⟩ := op_TCandidates_41 hf
  exact ⟨a, Cells_agg h1 rfl, h2⟩
theorem arg43 {H : Type} {enc : TypeId × Value → H} {w : World} {spare : Nat → Bool} {held : Bool} {r : Reach} {b0 : Nat} {v : Value} {d : DataW H} {p : List MemPlace} (hv : Value.okWide Try.prog w r b0 43 v) (h : DataW.Trod enc Try.prog w 0 spare held 43 v d p) : ∃ a : A6u8, Am.VR (Am.top w) (.agg (c_A6u8 a)) v ∧ rg_A6u8 a := by
  obtain ⟨cs, rfl, hs⟩ := okWide_arr Try.underlying43 hv
  obtain ⟨fuel, hf⟩ := h
  obtain ⟨a, h1, h2⟩ := op_A6u8_43 hf
  exact ⟨a, Cells_agg h1 rfl, h2⟩
theorem cz35 : Try.prog.cellsOf 35 = 1 := by kernel_rfl
theorem cz23 : Try.prog.cellsOf 23 = 1 := by kernel_rfl
theorem cz37 : Try.prog.cellsOf 37 = 4 := by kernel_rfl
def rg_TElement (a : TElement) : Prop := (0 ≤ a.Id ∧ a.Id ≤ 255) ∧ (0 ≤ a.Ext ∧ a.Ext ≤ 255) ∧ (a.Data.length ≤ maxLen ∧ ∀ q ∈ a.Data, (0 ≤ q ∧ q ≤ 255)) ∧ a.Subs.length ≤ maxLen
theorem op_TElement_37F {H : Type} {enc : TypeId × Value → H} {w : World} {spare : Nat → Bool} {held : Bool}  : ∀ (fuel : Nat) {cs : List Value} {x : DataW H × List MemPlace}, DataW.trod enc Try.prog w 0 spare held fuel 37 cs = some x → ∃ a : TElement, Cells w (c_TElement a) 4 cs ∧ rg_TElement a := by
  intro fuel
  induction fuel using Nat.strongRecOn with
  | _ fuel ih =>
  intro cs x h
  obtain ⟨xs, n, hfu, _, hl, hn, hg⟩ := DataW.trod_struct Try.underlying37 h
  replace hn : xs.length = 4 := hn
  have f0 := hg 0 _ rfl
  rw [List.getElem?_eq_getElem (by omega)] at f0
  have g0 : DataW.trod enc Try.prog w 0 spare held n 5 ((cs.drop 0).take (Try.prog.cellsOf 5)) = some (xs[0]'(by omega)) := f0
  rw [cz5] at g0
  obtain ⟨a0, k0, r0⟩ := op_u8 Try.underlying5 g0
  have f1 := hg 1 _ rfl
  rw [List.getElem?_eq_getElem (by omega)] at f1
  have g1 : DataW.trod enc Try.prog w 0 spare held n 5 ((cs.drop 1).take (Try.prog.cellsOf 5)) = some (xs[1]'(by omega)) := f1
  rw [cz5] at g1
  obtain ⟨a1, k1, r1⟩ := op_u8 Try.underlying5 g1
  have f2 := hg 2 _ rfl
  rw [List.getElem?_eq_getElem (by omega)] at f2
  have g2 : DataW.trod enc Try.prog w 0 spare held n 35 ((cs.drop 2).take (Try.prog.cellsOf 35)) = some (xs[2]'(by omega)) := f2
  rw [cz35] at g2
  obtain ⟨a2, k2, r2⟩ := op_slice (R := fun q => (0 ≤ q ∧ q ≤ 255)) (f := c_u8) (by decide) Try.underlying35 cz5 (fun h => op_u8 Try.underlying5 h) g2
  have f3 := hg 3 _ rfl
  rw [List.getElem?_eq_getElem (by omega)] at f3
  have g3 : DataW.trod enc Try.prog w 0 spare held n 23 ((cs.drop 3).take (Try.prog.cellsOf 23)) = some (xs[3]'(by omega)) := f3
  rw [cz23] at g3
  obtain ⟨a3, k3, r3⟩ := op_sliceB (R := fun _ => True) (f := c_U4) (by decide) Try.underlying23 cz37 (fun hn h => by obtain ⟨a, ha, _⟩ := ih _ (by omega) h; exact ⟨(), Cells_top ha (fun y hy => by match y, hy with | 0, _ => rfl | 1, _ => rfl | 2, _ => rfl | 3, _ => rfl | 4, _ => rfl | 5, _ => rfl | 6, _ => rfl | 7, _ => rfl | y + 8, hy => exact absurd hy (by omega)), trivial⟩) g3
  replace r3 := r3.1
  refine ⟨⟨a0, a1, a2, a3⟩, ⟨hl.trans cz37, fun y hy => ?_⟩, ⟨r0, r1, r2, r3⟩⟩
  match y, hy with
  | 0, _ => have q := cell_at (off := 0) (y := 0) k0 (by decide); exact q
  | 1, _ => have q := cell_at (off := 1) (y := 0) k1 (by decide); exact q
  | 2, _ => have q := cell_at (off := 2) (y := 0) k2 (by decide); exact q
  | 3, _ => have q := cell_at (off := 3) (y := 0) k3 (by decide); exact q
  | y + 4, hy => omega
theorem op_TElement_37 {H : Type} {enc : TypeId × Value → H} {w : World} {spare : Nat → Bool} {held : Bool} {fuel : Nat} {cs : List Value} {x : DataW H × List MemPlace} (h : DataW.trod enc Try.prog w 0 spare held fuel 37 cs = some x) : ∃ a : TElement, Cells w (c_TElement a) 4 cs ∧ rg_TElement a := op_TElement_37F fuel h
theorem cz44 : Try.prog.cellsOf 44 = 1 := by kernel_rfl
theorem cz45 : Try.prog.cellsOf 45 = 1 := by kernel_rfl
theorem cz47 : Try.prog.cellsOf 47 = 4 := by kernel_rfl
def rg_TBeacon (a : TBeacon) : Prop := (0 ≤ a.Time ∧ a.Time ≤ 18446744073709551615) ∧ (0 ≤ a.Interval ∧ a.Interval ≤ 65535) ∧ (0 ≤ a.Caps ∧ a.Caps ≤ 65535) ∧ (a.Elems.length ≤ maxLen ∧ ∀ q ∈ a.Elems, rg_TElement q)
theorem op_TBeacon_47 {H : Type} {enc : TypeId × Value → H} {w : World} {spare : Nat → Bool} {held : Bool} {fuel : Nat} {cs : List Value} {x : DataW H × List MemPlace} (h : DataW.trod enc Try.prog w 0 spare held fuel 47 cs = some x) : ∃ a : TBeacon, Cells w (c_TBeacon a) 4 cs ∧ rg_TBeacon a := by
  obtain ⟨xs, n, hfu, _, hl, hn, hg⟩ := DataW.trod_struct Try.underlying47 h
  replace hn : xs.length = 4 := hn
  have f0 := hg 0 _ rfl
  rw [List.getElem?_eq_getElem (by omega)] at f0
  have g0 : DataW.trod enc Try.prog w 0 spare held n 44 ((cs.drop 0).take (Try.prog.cellsOf 44)) = some (xs[0]'(by omega)) := f0
  rw [cz44] at g0
  obtain ⟨a0, k0, r0⟩ := op_u64 Try.underlying44 g0
  have f1 := hg 1 _ rfl
  rw [List.getElem?_eq_getElem (by omega)] at f1
  have g1 : DataW.trod enc Try.prog w 0 spare held n 45 ((cs.drop 1).take (Try.prog.cellsOf 45)) = some (xs[1]'(by omega)) := f1
  rw [cz45] at g1
  obtain ⟨a1, k1, r1⟩ := op_u16 Try.underlying45 g1
  have f2 := hg 2 _ rfl
  rw [List.getElem?_eq_getElem (by omega)] at f2
  have g2 : DataW.trod enc Try.prog w 0 spare held n 45 ((cs.drop 2).take (Try.prog.cellsOf 45)) = some (xs[2]'(by omega)) := f2
  rw [cz45] at g2
  obtain ⟨a2, k2, r2⟩ := op_u16 Try.underlying45 g2
  have f3 := hg 3 _ rfl
  rw [List.getElem?_eq_getElem (by omega)] at f3
  have g3 : DataW.trod enc Try.prog w 0 spare held n 23 ((cs.drop 3).take (Try.prog.cellsOf 23)) = some (xs[3]'(by omega)) := f3
  rw [cz23] at g3
  obtain ⟨a3, k3, r3⟩ := op_slice (R := fun q => rg_TElement q) (f := c_TElement) (by decide) Try.underlying23 cz37 (fun h => op_TElement_37 h) g3
  refine ⟨⟨a0, a1, a2, a3⟩, ⟨hl.trans cz47, fun y hy => ?_⟩, ⟨r0, r1, r2, r3⟩⟩
  match y, hy with
  | 0, _ => have q := cell_at (off := 0) (y := 0) k0 (by decide); exact q
  | 1, _ => have q := cell_at (off := 1) (y := 0) k1 (by decide); exact q
  | 2, _ => have q := cell_at (off := 2) (y := 0) k2 (by decide); exact q
  | 3, _ => have q := cell_at (off := 3) (y := 0) k3 (by decide); exact q
  | y + 4, hy => omega
theorem arg47 {H : Type} {enc : TypeId × Value → H} {w : World} {spare : Nat → Bool} {held : Bool} {r : Reach} {b0 : Nat} {v : Value} {d : DataW H} {p : List MemPlace} (hv : Value.okWide Try.prog w r b0 47 v) (h : DataW.Trod enc Try.prog w 0 spare held 47 v d p) : ∃ a : TBeacon, Am.VR (Am.top w) (.agg (c_TBeacon a)) v ∧ rg_TBeacon a := by
  obtain ⟨cs, rfl, hs⟩ := okWide_struct Try.underlying47 hv
  obtain ⟨fuel, hf⟩ := h
  obtain ⟨a, h1, h2⟩ := op_TBeacon_47 hf
  exact ⟨a, Cells_agg h1 rfl, h2⟩
theorem arg3 {H : Type} {enc : TypeId × Value → H} {w : World} {spare : Nat → Bool} {held : Bool} {r : Reach} {b0 : Nat} {v : Value} {d : DataW H} {p : List MemPlace} (hv : Value.okWide Try.prog w r b0 3 v) (h : DataW.Trod enc Try.prog w 0 spare held 3 v d p) : ∃ a : Int, Am.VR (Am.top w) (.int .i64 a) v ∧ (-9223372036854775808 ≤ a ∧ a ≤ 9223372036854775807) := by
  obtain ⟨n, rfl⟩ := okWide_int Try.underlying3 hv
  obtain ⟨fuel, hf⟩ := h
  obtain ⟨a, h1, h2⟩ := op_i64 Try.underlying3 hf
  exact ⟨a, Cells_single h1 rfl, h2⟩
end Go.Proofs.Ytpnhehcncljhpaa
