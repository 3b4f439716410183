/-
  The abstract machine, part 41: what a law is given, told as typed values.
-/
import Derived.Test.YtpnhehcncljhpaaAm40
import Derived.OpenShut
import Derived.WideShapes
import Derived.ChangeOld
import Derived.ChangeMaps5
namespace Go.Am
set_option linter.unusedVariables false
section
variable {H : Type} {enc : TypeId × Value → H} {P : Program} {w : World} {spare : Nat → Bool} {held : Bool} {fuel : Nat} {t : TypeId} {cs : List Value} {x : DataW H × List MemPlace}

/-- Cells that read as the cells f. -/
def Cells (w : World) (f : List AV) (z : Nat) (cs : List Value) : Prop := cs.length = z ∧ ∀ y, y < z → ∃ v, cs[y]? = some v ∧ v.oneCell' = true ∧ VR (top w) (getL f y) v ∧ nref (getL f y)
theorem Cells_one {a : AV} {v : Value} (h1 : v.oneCell' = true) (h2 : VR (top w) a v) (h3 : nref a) : Cells w [a] 1 [v] := ⟨rfl, fun y hy => by
  obtain rfl : y = 0 := by omega
  exact ⟨v, rfl, h1, h2, h3⟩⟩
theorem op_int {k : IntKind} (hu : P.underlying t = some (.int k)) (h : DataW.trod enc P w 0 spare held fuel t cs = some x) : ∃ n : Int, Cells w [.int k n] 1 cs ∧ (Lit.int k n).wf = true := by
  obtain ⟨n, rfl, _, hw⟩ := DataW.trod_int hu h
  exact ⟨n, Cells_one rfl (.int _ _) (by simp only [nref]), hw⟩
theorem op_bool (hu : P.underlying t = some .bool) (h : DataW.trod enc P w 0 spare held fuel t cs = some x) : ∃ b : Bool, Cells w [.bool b] 1 cs := by
  obtain ⟨b, rfl, _⟩ := DataW.trod_bool hu h
  exact ⟨b, Cells_one rfl (.bool _) (by simp only [nref])⟩
theorem op_str (hu : P.underlying t = some .string) (h : DataW.trod enc P w 0 spare held fuel t cs = some x) : ∃ s : ByteArray, Cells w [.str s] 1 cs ∧ s.size ≤ maxLen := by
  obtain ⟨s, rfl, _, hs⟩ := DataW.trod_string hu h
  exact ⟨s, Cells_one rfl (.str _) (by simp only [nref]), hs⟩
theorem op_slice {α : Type} [Inhabited α] {f : α → List AV} {R : α → Prop} {e : TypeId} {z : Nat} (hz0 : 0 < z) (hu : P.underlying t = some (.slice e)) (hz : P.cellsOf e = z)
    (he : ∀ {fuel : Nat} {cs : List Value} {x : DataW H × List MemPlace}, DataW.trod enc P w 0 spare held fuel e cs = some x → ∃ a, Cells w (f a) z cs ∧ R a)
    (h : DataW.trod enc P w 0 spare held fuel t cs = some x) : ∃ l : List α, Cells w [.ro z l.length false (enR f l)] 1 cs ∧ l.length ≤ maxLen ∧ ∀ a ∈ l, R a := by
  subst hz
  rcases DataW.trod_slice hu h with ⟨rfl, _⟩ | ⟨a, len, cap, elems, rest, n, _, rfl, _, _, hl, hm, hlen, hi, _, _⟩
  · exact ⟨[], Cells_one rfl (.ro _ 0 false _ none 0 (Nat.le_refl _) (by decide) (fun h => by cases h) (fun _ => rfl) (fun _ _ => undef) (fun h => absurd h (by omega)) (fun x y hx => absurd hx (by omega)) (fun x y hx => absurd hx (by omega)) fun x y hx => absurd hx (by omega)) (by simp only [nref]), by simp, fun a ha => by simp at ha⟩
  · have key : ∀ i, i < len → ∃ (q : α) (cs : List Value), w.cells? 0 (a.add (i * P.cellsOf e)) (P.cellsOf e) = some cs ∧ Cells w (f q) (P.cellsOf e) cs ∧ R q := by
      intro i hil
      have h2 := hi i hil
      rw [List.getElem?_eq_getElem (by omega)] at h2
      obtain ⟨cs, hcs, ht⟩ := Option.bind_eq_some_iff.mp h2
      obtain ⟨q, c1, c2⟩ := he ht
      exact ⟨q, cs, hcs, c1, c2⟩
    let g : Nat → α := fun i => if hh : i < len then (key i hh).choose else default
    have hg : ∀ i (hh : i < len), ∃ cs, w.cells? 0 (a.add (i * P.cellsOf e)) (P.cellsOf e) = some cs ∧ Cells w (f (g i)) (P.cellsOf e) cs ∧ R (g i) := by
      intro i hh
      have : g i = (key i hh).choose := dif_pos hh
      rw [this]
      exact (key i hh).choose_spec
    have hgd : ∀ i, i < len → gd ((List.range len).map g) i = g i := fun i hh => by simp [gd, hh]
    refine ⟨(List.range len).map g, ?_, by simp; omega, fun q hq => ?_⟩
    · refine Cells_one rfl ?_ (by simp only [nref])
      rw [List.length_map, List.length_range]
      by_cases h0 : len = 0
      · subst h0
        exact .ro _ 0 false _ (some a) cap hl hm (fun h => by cases h) (fun h => by cases h) (fun _ _ => undef) (fun h => absurd h (by omega)) (fun x y hx => absurd hx (by omega)) (fun x y hx => absurd hx (by omega)) fun x y hx => absurd hx (by omega)
      have hsp : a.spot = none := by
        obtain ⟨cs, c1, c2, _⟩ := hg 0 (by omega)
        obtain ⟨v, v1, _⟩ := c2.2 0 hz0
        have := (World.cells?_some c1).2.2 0 hz0
        rw [v1] at this
        have := World.cell?_spot this
        simpa [Addr.add] using this
      obtain ⟨b, o, sp⟩ := a
      simp only at hsp
      subst hsp
      have cell : ∀ x y, x < len → y < P.cellsOf e → ∃ v, w.cell? ⟨b, o + x * P.cellsOf e + y, none⟩ = some v ∧ v.oneCell' = true ∧ VR (top w) (getL (f (g x)) y) v ∧ nref (getL (f (g x)) y) := by
        intro x y hx hy
        obtain ⟨cs, c1, c2, _⟩ := hg x hx
        obtain ⟨v, v1, v2, v3, v4⟩ := c2.2 y hy
        have := (World.cells?_some c1).2.2 y hy
        rw [v1, Addr.add_lit, Addr.add_lit] at this
        exact ⟨v, this, v2, v3, v4⟩
      have hb : b < w.heap.size := by
        obtain ⟨cs, c1, _⟩ := hg 0 (by omega)
        have hbl := World.cells?_block c1 hz0
        unfold Addr.add at hbl; split at hbl <;> exact hbl
      refine .ro _ len false _ (some ⟨b, o, none⟩) cap hl hm (fun h => by cases h) (fun h => by cases h) (fun x y => (w.cell? ⟨b, o + x * P.cellsOf e + y, none⟩).getD undef) (fun _ => ⟨b, o, rfl, hb, fun x y hx hy => ?_⟩) (fun x y hx hy => ?_) (fun x y hx hy => ?_) (fun x y hx hy => ?_)
      · obtain ⟨v, h1, _⟩ := cell x y hx hy
        rw [show (top w).w = w from rfl, h1]; rfl
      · obtain ⟨v, h1, h2, _⟩ := cell x y hx hy
        rw [h1]; exact h2
      · obtain ⟨v, h1, _, h3, _⟩ := cell x y hx hy
        rw [h1]
        show VR (top w) (getL (f (gd _ x)) y) v
        rw [hgd x hx]; exact h3
      · obtain ⟨v, _, _, _, h4⟩ := cell x y hx hy
        show nref (getL (f (gd _ x)) y)
        rw [hgd x hx]; exact h4
    · rw [List.mem_map] at hq
      obtain ⟨i, hi', rfl⟩ := hq
      obtain ⟨cs, _, _, h3⟩ := hg i (List.mem_range.1 hi')
      exact h3
/-- One cell of a part. -/
theorem cell_at {f : List AV} {off z y : Nat} (h : Cells w f z ((cs.drop off).take z)) (hy : y < z) : ∃ v, cs[off + y]? = some v ∧ v.oneCell' = true ∧ VR (top w) (getL f y) v ∧ nref (getL f y) := by
  obtain ⟨v, h1, h2⟩ := h.2 y hy
  refine ⟨v, ?_, h2⟩
  rw [List.getElem?_take] at h1
  split at h1
  · rw [List.getElem?_drop] at h1; exact h1
  · rename_i hn; exact absurd hy hn
theorem Cells_agg {f : List AV} {z : Nat} {vs : Array Value} (h : Cells w f z vs.toList) (hl : f.length = z) : VR (top w) (.agg f) (.agg vs) := by
  obtain ⟨h1, h2⟩ := h
  have hs : vs.size = z := by simpa using h1
  refine .agg f vs (hl.trans hs.symm) (fun i v hv => ?_) fun i a v ha hv => ?_
  · have hi : i < z := by
      rcases Nat.lt_or_ge i vs.size with h' | h'
      · omega
      · rw [Array.getElem?_eq_none h'] at hv; cases hv
    obtain ⟨u, u1, u2, _⟩ := h2 i hi
    rw [Array.getElem?_toList, hv] at u1
    cases u1; exact u2
  · have hi : i < z := by
      rcases Nat.lt_or_ge i vs.size with h' | h'
      · omega
      · rw [Array.getElem?_eq_none h'] at hv; cases hv
    obtain ⟨u, u1, _, u3, _⟩ := h2 i hi
    rw [Array.getElem?_toList, hv] at u1
    cases u1
    rw [← getL_eq ha]; exact u3
theorem Cells_single {a : AV} {v : Value} (h : Cells w [a] 1 v.cells.toList) (hv : v.cells = #[v]) : VR (top w) a v := by
  obtain ⟨u, u1, _, u3, _⟩ := h.2 0 (by omega)
  rw [hv] at u1
  simp at u1
  subst u1; exact u3
end
mutual
theorem roOb_nref {h : List ABlk} : ∀ {a : AV}, nref a → roOb h a
  | .top, _ => by simp only [roOb]
  | .bool _, _ => by simp only [roOb]
  | .int _ _, _ => by simp only [roOb]
  | .str _, _ => by simp only [roOb]
  | .nilp, _ => by simp only [roOb]
  | .ptr _ _ _ _, h => by simp only [nref] at h
  | .rptr _ _ _ _ _, _ => by simp only [roOb]
  | .sl _ _ _ _ _, h => by simp only [nref] at h
  | .isl _ _ _ _ _ _, h => by simp only [nref] at h
  | .csl _ _ _ _ _, h => by simp only [nref] at h
  | .ro _ _ _ _, _ => by simp only [roOb]
  | .emp, _ => by simp only [roOb]
  | .agg l, h => by simp only [roOb]; exact roObL_nref (by simpa only [nref] using h)
  | .tup l, h => by simp only [roOb]; exact roObL_nref (by simpa only [nref] using h)
  | .fn _ l, h => by simp only [roOb]; exact roObL_nref (by simpa only [nref] using h)
  | .nilf, _ => by simp only [roOb]
  | .opt _ v, h => by simp only [roOb]; simpa only [nref] using h
  | .ub, _ => by simp only [roOb]
  | .val _, _ => by simp only [roOb]
theorem roObL_nref {h : List ABlk} : ∀ {l : List AV}, nrefL l → roObL h l
  | [], _ => by simp only [roObL]
  | a :: l, h => by simp only [nrefL] at h; simp only [roObL]; exact ⟨roOb_nref h.1, roObL_nref h.2⟩
end
section
variable {P : Program}
/-- The call of a law that answers true, its partial function being told. -/
theorem law_callT {f : FuncId} {body : List AV → AR} {l : List AV} {args : Array Value} {W : World} {ob : Prop} {b : Bool} (ok : FnOk P f (pureC body)) (F : FR (top W) l args) (hb : pureC body l [] = .pure ob (.bool b)) (hob : ob) (hbt : b = true) :
    Calls P f args W fun e W' => e = .returned (.bool true) ∧ Same W W' := by
  subst hbt; exact law_call ok F hb hob
end
end Go.Am
