/-
  What a law is given, as typed values.
-/
import Derived.Test.YtbahnppiobafoaaB
import Derived.Test.YtbahnppiobafoaaPm10
namespace Go.Proofs.Ytbahnppiobafoaa
open Go.Am Go.ChangeShapes Go.WideShapes
set_option linter.unusedVariables false
set_option linter.unusedSimpArgs false
set_option maxRecDepth 20000
theorem okWide_arr {P : Program} {w : World} {r : Reach} {b0 n : Nat} {e t : TypeId} {v : Value} (ht : P.underlying t = some (.array n e)) (hv : Value.okWide P w r b0 t v) : ∃ cs, v = .agg cs /\ cs.size = P.cellsOf t := by
  simp only [Value.okWide, ht] at hv
  obtain ⟨cs, h1, h2, _⟩ := hv
  exact ⟨cs, h1, h2⟩
theorem op_i64 {H : Type} {enc : TypeId × Value -> H} {w : World} {spare : Nat -> Bool} {held : Bool} {fuel : Nat} {t : TypeId} {cs : List Value} {x : DataW H × List MemPlace} (hu : Try.prog.underlying t = some (.int .i64)) (h : DataW.trod enc Try.prog w 0 spare held fuel t cs = some x) : ∃ n : Int, Cells w (c_i64 n) 1 cs /\ (-9223372036854775808 <= n /\ n <= 9223372036854775807) := by
  obtain ⟨n, h1, h2⟩ := op_int hu h
  exact ⟨n, h1, bounds_i64 h2⟩
theorem op_u64 {H : Type} {enc : TypeId × Value -> H} {w : World} {spare : Nat -> Bool} {held : Bool} {fuel : Nat} {t : TypeId} {cs : List Value} {x : DataW H × List MemPlace} (hu : Try.prog.underlying t = some (.int .u64)) (h : DataW.trod enc Try.prog w 0 spare held fuel t cs = some x) : ∃ n : Int, Cells w (c_u64 n) 1 cs /\ (0 <= n /\ n <= 18446744073709551615) := by
  obtain ⟨n, h1, h2⟩ := op_int hu h
  exact ⟨n, h1, bounds_u64 h2⟩
theorem op_u8 {H : Type} {enc : TypeId × Value -> H} {w : World} {spare : Nat -> Bool} {held : Bool} {fuel : Nat} {t : TypeId} {cs : List Value} {x : DataW H × List MemPlace} (hu : Try.prog.underlying t = some (.int .u8)) (h : DataW.trod enc Try.prog w 0 spare held fuel t cs = some x) : ∃ n : Int, Cells w (c_u8 n) 1 cs /\ (0 <= n /\ n <= 255) := by
  obtain ⟨n, h1, h2⟩ := op_int hu h
  exact ⟨n, h1, bounds_u8 h2⟩
theorem op_b {H : Type} {enc : TypeId × Value -> H} {w : World} {spare : Nat -> Bool} {held : Bool} {fuel : Nat} {t : TypeId} {cs : List Value} {x : DataW H × List MemPlace} (hu : Try.prog.underlying t = some .bool) (h : DataW.trod enc Try.prog w 0 spare held fuel t cs = some x) : ∃ n : Bool, Cells w (c_b n) 1 cs /\ True := by
  obtain ⟨n, h1⟩ := op_bool hu h
  exact ⟨n, h1, trivial⟩
theorem cz4 : Try.prog.cellsOf 4 = 1 := by kernel_rfl
theorem arg75 {H : Type} {enc : TypeId × Value -> H} {w : World} {spare : Nat -> Bool} {held : Bool} {r : Reach} {b0 : Nat} {v : Value} {d : DataW H} {p : List MemPlace} (hv : Value.okWide Try.prog w r b0 75 v) (h : DataW.Trod enc Try.prog w 0 spare held 75 v d p) : ∃ a : List Bool, Am.VR (Am.top w) (.ro 1 a.length false (enR c_b a)) v /\ (a.length <= maxLen /\ ∀ q ∈ a, True) := by
  obtain ⟨n, l, c, rfl⟩ := okWide_slice Try.underlying75 hv
  obtain ⟨fuel, hf⟩ := h
  obtain ⟨a, h1, h2⟩ := op_slice (R := fun q => True) (f := c_b) (by decide) Try.underlying75 cz4 (fun h => op_b Try.underlying4 h) hf
  exact ⟨a, Cells_single h1 rfl, h2⟩
theorem arg5 {H : Type} {enc : TypeId × Value -> H} {w : World} {spare : Nat -> Bool} {held : Bool} {r : Reach} {b0 : Nat} {v : Value} {d : DataW H} {p : List MemPlace} (hv : Value.okWide Try.prog w r b0 5 v) (h : DataW.Trod enc Try.prog w 0 spare held 5 v d p) : ∃ a : Int, Am.VR (Am.top w) (.int .u8 a) v /\ (0 <= a /\ a <= 255) := by
  obtain ⟨n, rfl⟩ := okWide_int Try.underlying5 hv
  obtain ⟨fuel, hf⟩ := h
  obtain ⟨a, h1, h2⟩ := op_u8 Try.underlying5 hf
  exact ⟨a, Cells_single h1 rfl, h2⟩
theorem cz3 : Try.prog.cellsOf 3 = 1 := by kernel_rfl
theorem arg70 {H : Type} {enc : TypeId × Value -> H} {w : World} {spare : Nat -> Bool} {held : Bool} {r : Reach} {b0 : Nat} {v : Value} {d : DataW H} {p : List MemPlace} (hv : Value.okWide Try.prog w r b0 70 v) (h : DataW.Trod enc Try.prog w 0 spare held 70 v d p) : ∃ a : List Int, Am.VR (Am.top w) (.ro 1 a.length false (enR c_i64 a)) v /\ (a.length <= maxLen /\ ∀ q ∈ a, (-9223372036854775808 <= q /\ q <= 9223372036854775807)) := by
  obtain ⟨n, l, c, rfl⟩ := okWide_slice Try.underlying70 hv
  obtain ⟨fuel, hf⟩ := h
  obtain ⟨a, h1, h2⟩ := op_slice (R := fun q => (-9223372036854775808 <= q /\ q <= 9223372036854775807)) (f := c_i64) (by decide) Try.underlying70 cz3 (fun h => op_i64 Try.underlying3 h) hf
  exact ⟨a, Cells_single h1 rfl, h2⟩
end Go.Proofs.Ytbahnppiobafoaa
