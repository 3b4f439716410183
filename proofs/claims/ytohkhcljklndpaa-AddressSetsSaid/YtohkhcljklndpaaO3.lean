/-
  What a law is given, as typed values.
-/
import Derived.Test.YtohkhcljklndpaaB
import Derived.Test.YtohkhcljklndpaaBm10
namespace Go.Proofs.Ytohkhcljklndpaa
open Go.Am Go.ChangeShapes Go.WideShapes
set_option linter.unusedVariables false
set_option linter.unusedSimpArgs false
set_option maxRecDepth 20000
theorem okWide_arr {P : Program} {w : World} {r : Reach} {b0 n : Nat} {e t : TypeId} {v : Value} (ht : P.underlying t = some (.array n e)) (hv : Value.okWide P w r b0 t v) : ∃ cs, v = .agg cs ∧ cs.size = P.cellsOf t := by
  simp only [Value.okWide, ht] at hv
  obtain ⟨cs, h1, h2, _⟩ := hv
  exact ⟨cs, h1, h2⟩
theorem op_i64 {H : Type} {enc : TypeId × Value → H} {w : World} {spare : Nat → Bool} {held : Bool} {fuel : Nat} {t : TypeId} {cs : List Value} {x : DataW H × List MemPlace} (hu : Try.prog.underlying t = some (.int .i64)) (h : DataW.trod enc Try.prog w 0 spare held fuel t cs = some x) : ∃ n : Int, Cells w (c_i64 n) 1 cs ∧ (-9223372036854775808 ≤ n ∧ n ≤ 9223372036854775807) := by
  obtain ⟨n, h1, h2⟩ := op_int hu h
  exact ⟨n, h1, bounds_i64 h2⟩
theorem op_u64 {H : Type} {enc : TypeId × Value → H} {w : World} {spare : Nat → Bool} {held : Bool} {fuel : Nat} {t : TypeId} {cs : List Value} {x : DataW H × List MemPlace} (hu : Try.prog.underlying t = some (.int .u64)) (h : DataW.trod enc Try.prog w 0 spare held fuel t cs = some x) : ∃ n : Int, Cells w (c_u64 n) 1 cs ∧ (0 ≤ n ∧ n ≤ 18446744073709551615) := by
  obtain ⟨n, h1, h2⟩ := op_int hu h
  exact ⟨n, h1, bounds_u64 h2⟩
theorem op_u8 {H : Type} {enc : TypeId × Value → H} {w : World} {spare : Nat → Bool} {held : Bool} {fuel : Nat} {t : TypeId} {cs : List Value} {x : DataW H × List MemPlace} (hu : Try.prog.underlying t = some (.int .u8)) (h : DataW.trod enc Try.prog w 0 spare held fuel t cs = some x) : ∃ n : Int, Cells w (c_u8 n) 1 cs ∧ (0 ≤ n ∧ n ≤ 255) := by
  obtain ⟨n, h1, h2⟩ := op_int hu h
  exact ⟨n, h1, bounds_u8 h2⟩
theorem op_b {H : Type} {enc : TypeId × Value → H} {w : World} {spare : Nat → Bool} {held : Bool} {fuel : Nat} {t : TypeId} {cs : List Value} {x : DataW H × List MemPlace} (hu : Try.prog.underlying t = some .bool) (h : DataW.trod enc Try.prog w 0 spare held fuel t cs = some x) : ∃ n : Bool, Cells w (c_b n) 1 cs ∧ True := by
  obtain ⟨n, h1⟩ := op_bool hu h
  exact ⟨n, h1, trivial⟩
theorem cz5 : Try.prog.cellsOf 5 = 1 := by kernel_rfl
theorem cz24 : Try.prog.cellsOf 24 = 6 := by kernel_rfl
def rg_A6u8 (a : A6u8) : Prop := (0 ≤ a.x0 ∧ a.x0 ≤ 255) ∧ (0 ≤ a.x1 ∧ a.x1 ≤ 255) ∧ (0 ≤ a.x2 ∧ a.x2 ≤ 255) ∧ (0 ≤ a.x3 ∧ a.x3 ≤ 255) ∧ (0 ≤ a.x4 ∧ a.x4 ≤ 255) ∧ (0 ≤ a.x5 ∧ a.x5 ≤ 255)
theorem op_A6u8_24 {H : Type} {enc : TypeId × Value → H} {w : World} {spare : Nat → Bool} {held : Bool} {fuel : Nat} {cs : List Value} {x : DataW H × List MemPlace} (h : DataW.trod enc Try.prog w 0 spare held fuel 24 cs = some x) : ∃ a : A6u8, Cells w (c_A6u8 a) 6 cs ∧ rg_A6u8 a := by
  obtain ⟨xs, n, hfu, _, hl, hn, hg⟩ := DataW.trod_array Try.underlying24 h
  have f0 := hg 0 (by decide)
  rw [List.getElem?_eq_getElem (by omega)] at f0
  have g0 : DataW.trod enc Try.prog w 0 spare held n 5 ((cs.drop (0 * Try.prog.cellsOf 5)).take (Try.prog.cellsOf 5)) = some (xs[0]'(by omega)) := f0
  rw [cz5] at g0
  obtain ⟨a0, k0, r0⟩ := op_u8 Try.underlying5 g0
  have f1 := hg 1 (by decide)
  rw [List.getElem?_eq_getElem (by omega)] at f1
  have g1 : DataW.trod enc Try.prog w 0 spare held n 5 ((cs.drop (1 * Try.prog.cellsOf 5)).take (Try.prog.cellsOf 5)) = some (xs[1]'(by omega)) := f1
  rw [cz5] at g1
  obtain ⟨a1, k1, r1⟩ := op_u8 Try.underlying5 g1
  have f2 := hg 2 (by decide)
  rw [List.getElem?_eq_getElem (by omega)] at f2
  have g2 : DataW.trod enc Try.prog w 0 spare held n 5 ((cs.drop (2 * Try.prog.cellsOf 5)).take (Try.prog.cellsOf 5)) = some (xs[2]'(by omega)) := f2
  rw [cz5] at g2
  obtain ⟨a2, k2, r2⟩ := op_u8 Try.underlying5 g2
  have f3 := hg 3 (by decide)
  rw [List.getElem?_eq_getElem (by omega)] at f3
  have g3 : DataW.trod enc Try.prog w 0 spare held n 5 ((cs.drop (3 * Try.prog.cellsOf 5)).take (Try.prog.cellsOf 5)) = some (xs[3]'(by omega)) := f3
  rw [cz5] at g3
  obtain ⟨a3, k3, r3⟩ := op_u8 Try.underlying5 g3
  have f4 := hg 4 (by decide)
  rw [List.getElem?_eq_getElem (by omega)] at f4
  have g4 : DataW.trod enc Try.prog w 0 spare held n 5 ((cs.drop (4 * Try.prog.cellsOf 5)).take (Try.prog.cellsOf 5)) = some (xs[4]'(by omega)) := f4
  rw [cz5] at g4
  obtain ⟨a4, k4, r4⟩ := op_u8 Try.underlying5 g4
  have f5 := hg 5 (by decide)
  rw [List.getElem?_eq_getElem (by omega)] at f5
  have g5 : DataW.trod enc Try.prog w 0 spare held n 5 ((cs.drop (5 * Try.prog.cellsOf 5)).take (Try.prog.cellsOf 5)) = some (xs[5]'(by omega)) := f5
  rw [cz5] at g5
  obtain ⟨a5, k5, r5⟩ := op_u8 Try.underlying5 g5
  refine ⟨⟨a0, a1, a2, a3, a4, a5⟩, ⟨hl.trans cz24, fun y hy => ?_⟩, ⟨r0, r1, r2, r3, r4, r5⟩⟩
  match y, hy with
  | 0, _ => have q := cell_at (off := 0) (y := 0) k0 (by decide); exact q
  | 1, _ => have q := cell_at (off := 1) (y := 0) k1 (by decide); exact q
  | 2, _ => have q := cell_at (off := 2) (y := 0) k2 (by decide); exact q
  | 3, _ => have q := cell_at (off := 3) (y := 0) k3 (by decide); exact q
  | 4, _ => have q := cell_at (off := 4) (y := 0) k4 (by decide); exact q
  | 5, _ => have q := cell_at (off := 5) (y := 0) k5 (by decide); exact q
  | y + 6, hy => omega
theorem arg22 {H : Type} {enc : TypeId × Value → H} {w : World} {spare : Nat → Bool} {held : Bool} {r : Reach} {b0 : Nat} {v : Value} {d : DataW H} {p : List MemPlace} (hv : Value.okWide Try.prog w r b0 22 v) (h : DataW.Trod enc Try.prog w 0 spare held 22 v d p) : ∃ a : List A6u8, Am.VR (Am.top w) (.ro 6 a.length false (enR c_A6u8 a)) v ∧ (a.length ≤ maxLen ∧ ∀ q ∈ a, rg_A6u8 q) := by
  obtain ⟨n, l, c, rfl⟩ := okWide_slice Try.underlying22 hv
  obtain ⟨fuel, hf⟩ := h
  obtain ⟨a, h1, h2⟩ := op_slice (R := fun q => rg_A6u8 q) (f := c_A6u8) (by decide) Try.underlying22 cz24 (fun h => op_A6u8_24 h) hf
  exact ⟨a, Cells_single h1 rfl, h2⟩
theorem arg24 {H : Type} {enc : TypeId × Value → H} {w : World} {spare : Nat → Bool} {held : Bool} {r : Reach} {b0 : Nat} {v : Value} {d : DataW H} {p : List MemPlace} (hv : Value.okWide Try.prog w r b0 24 v) (h : DataW.Trod enc Try.prog w 0 spare held 24 v d p) : ∃ a : A6u8, Am.VR (Am.top w) (.agg (c_A6u8 a)) v ∧ rg_A6u8 a := by
  obtain ⟨cs, rfl, hs⟩ := okWide_arr Try.underlying24 hv
  obtain ⟨fuel, hf⟩ := h
  obtain ⟨a, h1, h2⟩ := op_A6u8_24 hf
  exact ⟨a, Cells_agg h1 rfl, h2⟩
end Go.Proofs.Ytohkhcljklndpaa
