/-
  What a law is given, as typed values.
-/
import Derived.Test.YtpnhehcncljhpaaB
import Derived.Test.YtpnhehcncljhpaaAm49
namespace Go.Proofs.Ytpnhehcncljhpaa
open Go.Am Go.ChangeShapes Go.WideShapes
set_option linter.unusedVariables false
set_option linter.unusedSimpArgs false
theorem okWide_arr {P : Program} {w : World} {r : Reach} {b0 n : Nat} {e t : TypeId} {v : Value} (ht : P.underlying t = some (.array n e)) (hv : Value.okWide P w r b0 t v) : ∃ cs, v = .agg cs ∧ cs.size = P.cellsOf t := by
  simp only [Value.okWide, ht] at hv
  obtain ⟨cs, h1, h2, _⟩ := hv
  exact ⟨cs, h1, h2⟩
theorem op_i64 {H : Type} {enc : TypeId × Value → H} {w : World} {spare : Nat → Bool} {held : Bool} {fuel : Nat} {t : TypeId} {cs : List Value} {x : DataW H × List MemPlace} (hu : Try.prog.underlying t = some (.int .i64)) (h : DataW.trod enc Try.prog w 0 spare held fuel t cs = some x) : ∃ n : Int, Cells w (c_i64 n) 1 cs ∧ (-9223372036854775808 ≤ n ∧ n ≤ 9223372036854775807) := by
  obtain ⟨n, h1, h2⟩ := op_int hu h
  exact ⟨n, h1, bounds_i64 h2⟩
theorem op_u64 {H : Type} {enc : TypeId × Value → H} {w : World} {spare : Nat → Bool} {held : Bool} {fuel : Nat} {t : TypeId} {cs : List Value} {x : DataW H × List MemPlace} (hu : Try.prog.underlying t = some (.int .u64)) (h : DataW.trod enc Try.prog w 0 spare held fuel t cs = some x) : ∃ n : Int, Cells w (c_u64 n) 1 cs ∧ (0 ≤ n ∧ n ≤ 18446744073709551615) := by
  obtain ⟨n, h1, h2⟩ := op_int hu h
  exact ⟨n, h1, bounds_u64 h2⟩
theorem op_u8 {H : Type} {enc : TypeId × Value → H} {w : World} {spare : Nat → Bool} {held : Bool} {fuel : Nat} {t : TypeId} {cs : List Value} {x : DataW H × List MemPlace} (hu : Try.prog.underlying t = some (.int .u8)) (h : DataW.trod enc Try.prog w 0 spare held fuel t cs = some x) : ∃ n : Int, Cells w (c_u8 n) 1 cs ∧ (0 ≤ n ∧ n ≤ 255) := by
  obtain ⟨n, h1, h2⟩ := op_int hu h
  exact ⟨n, h1, bounds_u8 h2⟩
theorem op_u16 {H : Type} {enc : TypeId × Value → H} {w : World} {spare : Nat → Bool} {held : Bool} {fuel : Nat} {t : TypeId} {cs : List Value} {x : DataW H × List MemPlace} (hu : Try.prog.underlying t = some (.int .u16)) (h : DataW.trod enc Try.prog w 0 spare held fuel t cs = some x) : ∃ n : Int, Cells w (c_u16 n) 1 cs ∧ (0 ≤ n ∧ n ≤ 65535) := by
  obtain ⟨n, h1, h2⟩ := op_int hu h
  exact ⟨n, h1, bounds_u16 h2⟩
theorem op_b {H : Type} {enc : TypeId × Value → H} {w : World} {spare : Nat → Bool} {held : Bool} {fuel : Nat} {t : TypeId} {cs : List Value} {x : DataW H × List MemPlace} (hu : Try.prog.underlying t = some .bool) (h : DataW.trod enc Try.prog w 0 spare held fuel t cs = some x) : ∃ n : Bool, Cells w (c_b n) 1 cs ∧ True := by
  obtain ⟨n, h1⟩ := op_bool hu h
  exact ⟨n, h1, trivial⟩
theorem cz3 : Try.prog.cellsOf 3 = 1 := by kernel_rfl
theorem arg22 {H : Type} {enc : TypeId × Value → H} {w : World} {spare : Nat → Bool} {held : Bool} {r : Reach} {b0 : Nat} {v : Value} {d : DataW H} {p : List MemPlace} (hv : Value.okWide Try.prog w r b0 22 v) (h : DataW.Trod enc Try.prog w 0 spare held 22 v d p) : ∃ a : List Int, Am.VR (Am.top w) (.ro 1 a.length false (enR c_i64 a)) v ∧ (a.length ≤ maxLen ∧ ∀ q ∈ a, (-9223372036854775808 ≤ q ∧ q ≤ 9223372036854775807)) := by
  obtain ⟨n, l, c, rfl⟩ := okWide_slice Try.underlying22 hv
  obtain ⟨fuel, hf⟩ := h
  obtain ⟨a, h1, h2⟩ := op_slice (R := fun q => (-9223372036854775808 ≤ q ∧ q ≤ 9223372036854775807)) (f := c_i64) (by decide) Try.underlying22 cz3 (fun h => op_i64 Try.underlying3 h) hf
  exact ⟨a, Cells_single h1 rfl, h2⟩
theorem arg3 {H : Type} {enc : TypeId × Value → H} {w : World} {spare : Nat → Bool} {held : Bool} {r : Reach} {b0 : Nat} {v : Value} {d : DataW H} {p : List MemPlace} (hv : Value.okWide Try.prog w r b0 3 v) (h : DataW.Trod enc Try.prog w 0 spare held 3 v d p) : ∃ a : Int, Am.VR (Am.top w) (.int .i64 a) v ∧ (-9223372036854775808 ≤ a ∧ a ≤ 9223372036854775807) := by
  obtain ⟨n, rfl⟩ := okWide_int Try.underlying3 hv
  obtain ⟨fuel, hf⟩ := h
  obtain ⟨a, h1, h2⟩ := op_i64 Try.underlying3 hf
  exact ⟨a, Cells_single h1 rfl, h2⟩
theorem arg4 {H : Type} {enc : TypeId × Value → H} {w : World} {spare : Nat → Bool} {held : Bool} {r : Reach} {b0 : Nat} {v : Value} {d : DataW H} {p : List MemPlace} (hv : Value.okWide Try.prog w r b0 4 v) (h : DataW.Trod enc Try.prog w 0 spare held 4 v d p) : ∃ a : Bool, Am.VR (Am.top w) (.bool a) v ∧ True := by
  obtain ⟨n, rfl⟩ := okWide_bool Try.underlying4 hv
  obtain ⟨fuel, hf⟩ := h
  obtain ⟨a, h1, h2⟩ := op_b Try.underlying4 hf
  exact ⟨a, Cells_single h1 rfl, h2⟩
theorem cz35 : Try.prog.cellsOf 35 = 1 := by kernel_rfl
theorem cz5 : Try.prog.cellsOf 5 = 1 := by kernel_rfl
theorem cz23 : Try.prog.cellsOf 23 = 1 := by kernel_rfl
theorem cz37 : Try.prog.cellsOf 37 = 4 := by kernel_rfl
def rg_TElement (a : TElement) : Prop := (0 ≤ a.Id ∧ a.Id ≤ 255) ∧ (0 ≤ a.Ext ∧ a.Ext ≤ 255) ∧ (a.Data.length ≤ maxLen ∧ ∀ q ∈ a.Data, (0 ≤ q ∧ q ≤ 255)) ∧ a.Subs.length ≤ maxLen
theorem op_TElement_37F {H : Type} {enc : TypeId × Value → H} {w : World} {spare : Nat → Bool} {held : Bool}  : ∀ (fuel : Nat) {cs : List Value} {x : DataW H × List MemPlace}, DataW.trod enc Try.prog w 0 spare held fuel 37 cs = some x → ∃ a : TElement, Cells w (c_TElement a) 4 cs ∧ rg_TElement a := by
  intro fuel
  induction fuel using Nat.strongRecOn with
  | _ fuel ih =>
  intro cs x h
  obtain ⟨xs, n, hfu, _, hl, hn, hg⟩ := DataW.trod_struct Try.underlying37 h
  replace hn : xs.length = 4 := hn
  have f0 := hg 0 _ rfl
  rw [List.getElem?_eq_getElem (by omega)] at f0
  have g0 : DataW.trod enc Try.prog w 0 spare held n 5 ((cs.drop 0).take (Try.prog.cellsOf 5)) = some (xs[0]'(by omega)) := f0
  rw [cz5] at g0
  obtain ⟨a0, k0, r0⟩ := op_u8 Try.underlying5 g0
  have f1 := hg 1 _ rfl
  rw [List.getElem?_eq_getElem (by omega)] at f1
  have g1 : DataW.trod enc Try.prog w 0 spare held n 5 ((cs.drop 1).take (Try.prog.cellsOf 5)) = some (xs[1]'(by omega)) := f1
  rw [cz5] at g1
  obtain ⟨a1, k1, r1⟩ := op_u8 Try.underlying5 g1
  have f2 := hg 2 _ rfl
  rw [List.getElem?_eq_getElem (by omega)] at f2
  have g2 : DataW.trod enc Try.prog w 0 spare held n 35 ((cs.drop 2).take (Try.prog.cellsOf 35)) = some (xs[2]'(by omega)) := f2
  rw [cz35] at g2
  obtain ⟨a2, k2, r2⟩ := op_slice (R := fun q => (0 ≤ q ∧ q ≤ 255)) (f := c_u8) (by decide) Try.underlying35 cz5 (fun h => op_u8 Try.underlying5 h) g2
  have f3 := hg 3 _ rfl
  rw [List.getElem?_eq_getElem (by omega)] at f3
  have g3 : DataW.trod enc Try.prog w 0 spare held n 23 ((cs.drop 3).take (Try.prog.cellsOf 23)) = some (xs[3]'(by omega)) := f3
  rw [cz23] at g3
  obtain ⟨a3, k3, r3⟩ := op_sliceB (R := fun _ => True) (f := c_U4) (by decide) Try.underlying23 cz37 (fun hn h => by obtain ⟨a, ha, _⟩ := ih _ (by omega) h; exact ⟨(), Cells_top ha (fun y hy => by match y, hy with | 0, _ => rfl | 1, _ => rfl | 2, _ => rfl | 3, _ => rfl | 4, _ => rfl | 5, _ => rfl | 6, _ => rfl | 7, _ => rfl | y + 8, hy => exact absurd hy (by omega)), trivial⟩) g3
  replace r3 := r3.1
  refine ⟨⟨a0, a1, a2, a3⟩, ⟨hl.trans cz37, fun y hy => ?_⟩, ⟨r0, r1, r2, r3⟩⟩
  match y, hy with
  | 0, _ => have q := cell_at (off := 0) (y := 0) k0 (by decide); exact q
  | 1, _ => have q := cell_at (off := 1) (y := 0) k1 (by decide); exact q
  | 2, _ => have q := cell_at (off := 2) (y := 0) k2 (by decide); exact q
  | 3, _ => have q := cell_at (off := 3) (y := 0) k3 (by decide); exact q
  | y + 4, hy => omega
theorem op_TElement_37 {H : Type} {enc : TypeId × Value → H} {w : World} {spare : Nat → Bool} {held : Bool} {fuel : Nat} {cs : List Value} {x : DataW H × List MemPlace} (h : DataW.trod enc Try.prog w 0 spare held fuel 37 cs = some x) : ∃ a : TElement, Cells w (c_TElement a) 4 cs ∧ rg_TElement a := op_TElement_37F fuel h
theorem arg23 {H : Type} {enc : TypeId × Value → H} {w : World} {spare : Nat → Bool} {held : Bool} {r : Reach} {b0 : Nat} {v : Value} {d : DataW H} {p : List MemPlace} (hv : Value.okWide Try.prog w r b0 23 v) (h : DataW.Trod enc Try.prog w 0 spare held 23 v d p) : ∃ a : List TElement, Am.VR (Am.top w) (.ro 4 a.length false (enR c_TElement a)) v ∧ (a.length ≤ maxLen ∧ ∀ q ∈ a, rg_TElement q) := by
  obtain ⟨n, l, c, rfl⟩ := okWide_slice Try.underlying23 hv
  obtain ⟨fuel, hf⟩ := h
  obtain ⟨a, h1, h2⟩ := op_slice (R := fun q => rg_TElement q) (f := c_TElement) (by decide) Try.underlying23 cz37 (fun h => op_TElement_37 h) hf
  exact ⟨a, Cells_single h1 rfl, h2⟩
theorem arg9 {H : Type} {enc : TypeId × Value → H} {w : World} {spare : Nat → Bool} {held : Bool} {r : Reach} {b0 : Nat} {v : Value} {d : DataW H} {p : List MemPlace} (hv : Value.okWide Try.prog w r b0 9 v) (h : DataW.Trod enc Try.prog w 0 spare held 9 v d p) : ∃ a : ByteArray, Am.VR (Am.top w) (.str a) v ∧ a.size ≤ maxLen := by
  obtain ⟨n, rfl⟩ := okWide_string Try.underlying9 hv
  obtain ⟨fuel, hf⟩ := h
  obtain ⟨a, h1, h2⟩ := op_str Try.underlying9 hf
  exact ⟨a, Cells_single h1 rfl, h2⟩
end Go.Proofs.Ytpnhehcncljhpaa
