import Derived.Test.YtooepgpfaaddbaaRE
namespace Go.Proofs.Ytooepgpfaaddbaa
open Go.RowKit Go.Shelf
def nine32 : Array Value := zero32.setIfInBounds 1 (.int .u8 (bits BinOp.or IntKind.u8 0 2))
theorem nine32_ok : ∀ i, i < 32 -> ∃ q : Nat, q < 256 /\ nine32[i]? = some (.int .u8 q) := fun i hi => by
  by_cases h : i = 1
  · subst h; exact ⟨2, by omega, rfl⟩
  · obtain ⟨q, h1, h2⟩ := zero32_ok i hi
    refine ⟨q, h1, ?_⟩
    unfold nine32
    rw [Array.getElem?_setIfInBounds_ne (Ne.symm h)]; exact h2
theorem nine32_ones : ones nine32 256 = [9] := by kernel_rfl
theorem und36R : Try.prog.underlying 36 = some (.slice 3) := by kernel_rfl
set_option maxRecDepth 100000 in
set_option maxHeartbeats 2000000 in
theorem readB_in (F : Fence) (n : Nat) (h3 : F.fn 56) (h4 : F.fn 66) (h5 : F.fn 74) (hro : F.round = none) (hn : 3 <= n) (w : World) (kb ob cap : Nat) (hcap : 3 <= cap)
    (h0 : w.cell? ⟨kb, ob, none⟩ = some (.int .u8 2)) (h1 : w.cell? ⟨kb, ob + 1, none⟩ = some (.int .u8 1)) (h2 : w.cell? ⟨kb, ob + 2, none⟩ = some (.int .u8 9)) (hkb : kb < w.heap.size) :
    CallsIn F n Try.prog 56 #[.slice (some ⟨kb, ob, none⟩) 3 cap] w fun e W' => ∃ v, e = .returned v /\ W'.ownsRow w.heap.size 3 1 v 1 [.int .i64 9] /\ Below w.heap.size w W' := by
  have h1n : 1 <= n := by omega
  obtain ⟨i0, hi, hz0, hz1, hz2⟩ := info_parts info3R
  refine callsIn_of_wp_marks Try.func56 rfl h3 ?_ hro
  simp only [Try.ntmps56, List.size_toArray, List.length_cons, List.length_nil, Nat.reduceAdd, Nat.reduceSub, Array.replicate_succ, Array.replicate_zero, List.push_toArray, List.append_toArray, List.nil_append, List.cons_append]
  gi_wp2_with (gi_at_call 66; refine (aids_in F (n - 1) h4 hro _ (by simp) _).mono ?_; rintro e w' ⟨rfl, rfl⟩)
  all_goals
    gi_loopw [60] (fun c wr => (c = .int .i64 0 /\ wr = (w.alloc (.cells #[.slice none 0 0] 36)).alloc (.cells zero32 121)) ∨ (c = .int .i64 1 /\ wr = (w.alloc (.cells #[.slice none 0 0] 36)).alloc (.cells nine32 121))) (fun c _ => match c with | .int _ k => (1 - k).toNat | _ => 0)
    case atStart => exact .inl ⟨rfl, rfl⟩
    case round =>
      rcases hrel with ⟨rfl, rfl⟩ | ⟨rfl, rfl⟩
      · have hL := World.alloc_heap_new (w.alloc (.cells #[.slice none 0 0] 36)) (.cells zero32 121)
        rw [World.size_alloc] at hL
        have hz1 : ((w.alloc (.cells #[.slice none 0 0] 36)).alloc (.cells zero32 121)).cell? ⟨w.heap.size + 1, 1, none⟩ = some (.int .u8 0) := by simp only [World.cell?, hL]; rfl
        have hz2 : ((w.alloc (.cells #[.slice none 0 0] 36)).alloc (.cells zero32 121)).frozen? ⟨w.heap.size + 1, 1, none⟩ = false := by simp only [World.frozen?, hL]; rfl
        gi_wp2
        exact ⟨.inr ⟨rfl, rfl⟩, by decide⟩
      · have hL := World.alloc_heap_new (w.alloc (.cells #[.slice none 0 0] 36)) (.cells nine32 121)
        rw [World.size_alloc] at hL
        generalize hz : nine32 = z at hL ⊢
        gi_wp2_with (first | (refine wpListIn_load_row (ty := 121) hro rfl rfl (w.heap.size + 1) rfl 121 z (0, 0) (.array 32 5) hL (by kernel_rfl) rfl (by rw [← hz]; kernel_rfl) ?_) | (gi_at_call 66; refine (aids_in F (n - 1) h4 hro _ (by rw [← hz]; rfl) _).mono ?_; rintro e w' ⟨rfl, rfl⟩))
        have hm32 : ∀ i, i < 32 -> ∃ q : Nat, q < 256 /\ z[i]? = some (.int .u8 q) := by subst hz; exact nine32_ok
        have hone : ones z 256 = [9] := by subst hz; exact nine32_ones
        clear hz
        have bO := Boxed.new w 36 (.slice none 0 0)
        have bN : ((((w.alloc (.cells #[.slice none 0 0] 36)).alloc (.cells z 121))).alloc (.cells z 121)).heap[w.heap.size + 2]? = some (.cells z 121 (0, 0)) := by
          have := World.alloc_heap_new (((w.alloc (.cells #[.slice none 0 0] 36)).alloc (.cells z 121))) (.cells z 121)
          simpa [World.size_alloc] using this
        have hB0 : Below w.heap.size w ((((w.alloc (.cells #[.slice none 0 0] 36)).alloc (.cells z 121))).alloc (.cells z 121)) := (((Below.refl _ w).alloc (Nat.le_refl _) _).alloc (by simp) _).alloc (by simp; omega) _
        refine wpIn_rangeFunc_ownG hro h1n (gf := 74) (lb := #[.pointer (some ⟨w.heap.size + 2, 0, none⟩)]) rfl h5 (enters_of Try.func74 (by kernel_rfl) rfl)
          (aids_stops F (n - 1) h5 hro (by omega) (w.heap.size + 2) z _ (by simp) hm32 bN) (fun h k => k.trans h) (fun W l o o' hl hw ho _ => putObj_other (by simp at hl; omega)) (Below.refl _ _) (fun _ => rfl)
          (fun pre W => ((∃ v, Boxed W w.heap.size 36 v /\ W.ownsRow w.heap.size 3 1 v pre.length (pre.map (Value.int .i64)) /\ (v = .slice none 0 0 ↔ pre = [])) /\ Below w.heap.size w W) /\ W.heap[w.heap.size + 2]? = some (.cells z 121 (0, 0)))
          (fun _ _ _ => False)
          (OwnFrom.and (OwnFrom.and (Own.from (holdsRow_own w.heap.size w.heap.size 36 3 1 (fun pre : List Int => pre.length) (fun pre => pre.map (Value.int .i64)) (fun pre v => v = .slice none 0 0 ↔ pre = [])) _) (ownFrom_below (Nat.le_refl _) (by simp; omega))) (Own.from (blk_own _ _ rfl) _))
          (fun _ _ _ _ _ hs _ _ => hs)
          ⟨⟨⟨_, (bO.alloc _).alloc _, World.ownsRow_nil _ _ _ _, by simp⟩, hB0⟩, bN⟩ ?_ ?_ ?_ ?_ ?_
        rotate_left 1
        focus
          intro l x W K hK
          gi_wp2
          exact hK
        · rintro l pre x W ⟨⟨⟨v, hv, hrow, hnil⟩, hB⟩, hblk⟩ hlt
          rw [hone] at hlt
          have hpl : pre.length = 0 := Nat.lt_one_iff.1 hlt
          obtain rfl := List.eq_nil_of_length_eq_zero hpl
          clear hpl hlt
          have hc := hv.cell
          have hnb : some (w.heap.size + 2) ≠ v.ownBlock := by
            rcases hrow.2 with ⟨rfl, _⟩ | ⟨g, cap', cur, rfl, _, hgb, _⟩
            · simp [Value.ownBlock]
            · intro e'
              obtain rfl : g = w.heap.size + 2 := by simpa [Value.ownBlock] using e'.symm
              rw [hblk] at hgb; cases hgb
          have hsz := hB.size
          have hlt2 := (Array.getElem?_eq_some_iff.1 hblk).1
          gi_wp2_with (gi_at_builtin; go_loud (refine wpListIn_append_own _ rfl _ _ 36 rfl w.heap.size 3 i0 (.int .i64 0) 1 8 und36R hi hz0 hz1 hz2 rfl (by decide) _ _ _ rfl (hrow.alloc _) ⟨W.heap.size, 0, none⟩ 1 1 [.int .i64 x] rfl rfl (cell_one_new _ _ _) (by simp [Value.oneCell']) (by first | decide | simp | omega) (by first | decide | simp | omega) (by have := hB.size; simp; omega) ?_; intro v' w1 hown' hgrow _; obtain ⟨g', cap', rfl⟩ := ownsRow_succ hown'; obtain ⟨hv1, hv2, hr2, hk2, hb2⟩ := hv.appended (by decide) hrow hB.size (Nat.le_refl _) hown' hgrow; have hc1 := hv1.cell; have hf1 := hv1.frozen; have hb3 := (hgrow.block (w.heap.size + 2) (by simp; omega) hnb).trans ((Below.heap_alloc _ _ _ hlt2).trans hblk)))
          have hb4 := (Below.heap_setCell w1 ⟨w.heap.size, 0, none⟩ (.slice (some ⟨g', 0, none⟩) (([] : List Int).length + 1) cap') (w.heap.size + 2) (by simp)).trans hb3
          exact ⟨hk2.from _, hb4.trans hblk.symm, ⟨⟨⟨_, hv2, by simpa using hr2, by simp⟩, hB.trans hb2⟩, hb4⟩⟩
        · rintro D ys W hD rfl ⟨⟨⟨v, hv, hrow, hnil⟩, hB⟩, hblk⟩ hK
          rw [hone] at hrow hnil
          have hc := hv.cell
          have hf := hv.frozen
          obtain ⟨g', cap', rfl⟩ := ownsRow_succ (k := 0) hrow
          gi_wp2
          have hK' : (W.setCell ⟨w.heap.size, 0, none⟩ (.slice (some ⟨g', 0, none⟩) 1 cap')).heap[D]? = some (.deferred (some [])) := (Below.heap_setCell W ⟨w.heap.size, 0, none⟩ (.slice (some ⟨g', 0, none⟩) 1 cap') D (by simp at hD; simp; omega)).trans hK
          refine ⟨by simp, .inl ⟨_, _, rfl, run_takeDeferred hK', ?_⟩⟩
          refine ⟨_, results_cell1 rfl _ _ w.heap.size _ rfl ((cell_other (by simp at hD; omega)).trans (hv.set _).cell) (by kernel_rfl), _, rfl, ownsRow_putObj (hrow.kept (grownBy_setCell' W _ _) (.inr (hv.not_row (by decide) hrow).symm)) _ hK' rfl, ?_⟩
          exact (hB.setCell (p := ⟨w.heap.size, 0, none⟩) (Nat.le_refl _) _).trans ⟨rfl, rfl, rfl, by simp [World.putObj], fun k hk => putObj_other (by simp at hD; omega)⟩
        · rintro D c pre W _ _ h _
          exact h.elim
end Go.Proofs.Ytooepgpfaaddbaa
