/-
  bitmap.read, continued.
-/
import Derived.Test.YtooepgpfaaddbaaRD
import Derived.Laws.Rows
namespace Go.Proofs.Ytooepgpfaaddbaa
open Go.RowKit Go.Shelf
theorem putObj_other {W : World} {l B : Nat} {o' : Obj} (h : l ≠ B) : (W.putObj l o').heap[B]? = W.heap[B]? := by
  simp [World.putObj, h]
theorem cell_other {W : World} {l B : Nat} {o' : Obj} (h : l ≠ B) : (W.putObj l o').cell? ⟨B, 0, none⟩ = W.cell? ⟨B, 0, none⟩ := by
  simp only [World.cell?, putObj_other h]
theorem results_cell1 {P : Program} {fn : Func} {p : Tmp} {ty : TypeId} (h : fn.results = #[.cell p ty]) (tmps : Array Value) (w : World) (g : Nat) (v : Value)
    (hp : tmps.getD p undef = .pointer (some ⟨g, 0, none⟩)) (hc : w.cell? ⟨g, 0, none⟩ = some v) (ht : (match P.underlying ty with | some (.struct _) => true | some (.array _ _) => true | some _ => false | none => true) = false) :
    (results fn tmps).run P w = .ok v w := by
  have hp' : tmps[p]?.getD undef = .pointer (some ⟨g, 0, none⟩) := by simpa using hp
  have hl : (loadVar ty ⟨g, 0, none⟩).run P w = .ok v w := by
    cases hu : P.underlying ty with
    | none => rw [hu] at ht; cases ht
    | some d =>
      have ha : (isAgg ty).run P w = .ok false w := run_isAgg_plain hu (by rw [hu] at ht; cases d <;> simp_all) w
      simp [loadVar, Sem.run_bind, ha, hc]
  simp [results, h, hp', asAddr, hl]
theorem wpListIn_load_row {F : Fence} {n : Nat} {P : Program} {ops : Array Oper} {rest : List Oper} {o : Oper} {a : Act} {w : World} {Q : Exit -> Act -> World -> Prop} {ty : TypeId} {x : Operand} (hro : F.round = none) (ho : o.op = .load ty x) (hgd : o.guard = none)
    (g : Nat) (hx : a.eval x = .pointer (some ⟨g, 0, none⟩)) (t : TypeId) (cs : Array Value) (fr : Nat × Nat) (d : TypeDesc) (hg : w.heap[g]? = some (.cells cs t fr))
    (hu : P.underlying ty = some d) (hd : (match d with | .struct _ | .array _ _ => true | _ => false) = true) (hi : (P.info? ty).map (·.size) = some cs.size)
    (h : wpListIn F n P ops Q rest (a.put o.dst (.agg cs)) w) : wpListIn F n P ops Q (o :: rest) a w := by
  refine wpListIn_plain hgd fun K hK => ?_
  have hk := hK _ _ h
  obtain ⟨dst, op, type, pos, after, guard⟩ := o
  simp only at ho hk
  subst ho
  unfold Oper.wpIn
  refine ⟨fun f hf => ?_, ?_⟩
  · simp [Oper.about] at hf
  · rw [hro, Oper.semAt_none]
    unfold execOp
    simp only [hx, Instr.loadAt, Instr.sureAddr, Sem.run_bind, Sem.run_pure, Result.andThen_ok, run_loadVar_row w g t ty cs fr d hg hu hd hi]
    exact hk
set_option maxHeartbeats 1000000 in
theorem aids_in (F : Fence) (n : Nat) (h5 : F.fn 66) (hro : F.round = none) (m : Array Value) (hm : m.size = 32) (w : World) :
    CallsIn F n Try.prog 66 #[.agg m] w fun e w' => e = .returned (.func (.func 74) #[] #[.pointer (some ⟨w.heap.size, 0, none⟩)]) /\ w' = w.alloc (.cells m 121) := by
  refine callsIn_of_wp Try.func66 rfl h5 ?_ hro
  simp only [Try.ntmps66, List.size_toArray, List.length_cons, List.length_nil, Nat.reduceAdd, Nat.reduceSub, Array.replicate_succ, Array.replicate_zero, List.push_toArray, List.append_toArray, List.nil_append, List.cons_append]
  gi_wp2
  go_ret
  exact ⟨rfl, rfl⟩
def zero32 : Array Value := #[Value.int IntKind.u8 0, Value.int IntKind.u8 0, Value.int IntKind.u8 0, Value.int IntKind.u8 0, Value.int IntKind.u8 0, Value.int IntKind.u8 0, Value.int IntKind.u8 0, Value.int IntKind.u8 0, Value.int IntKind.u8 0, Value.int IntKind.u8 0, Value.int IntKind.u8 0, Value.int IntKind.u8 0, Value.int IntKind.u8 0, Value.int IntKind.u8 0, Value.int IntKind.u8 0, Value.int IntKind.u8 0, Value.int IntKind.u8 0, Value.int IntKind.u8 0, Value.int IntKind.u8 0, Value.int IntKind.u8 0, Value.int IntKind.u8 0, Value.int IntKind.u8 0, Value.int IntKind.u8 0, Value.int IntKind.u8 0, Value.int IntKind.u8 0, Value.int IntKind.u8 0, Value.int IntKind.u8 0, Value.int IntKind.u8 0, Value.int IntKind.u8 0, Value.int IntKind.u8 0, Value.int IntKind.u8 0, Value.int IntKind.u8 0]
theorem zero32_ok : ∀ i, i < 32 -> ∃ q : Nat, q < 256 /\ zero32[i]? = some (.int .u8 q) := fun i hi => ⟨0, by omega, by
  have : zero32 = Array.replicate 32 (.int .u8 0) := rfl
  rw [this]; simp [hi]⟩
theorem zero32_ones : ones zero32 256 = [] := by kernel_rfl
theorem aids_stops (F : Fence) (n : Nat) (h6 : F.fn 74) (hro : F.round = none) (hn : 1 <= n) (Bn : Nat) (m : Array Value) (w : World) (hBn : Bn < w.heap.size) (hm : ∀ i, i < 32 -> ∃ q : Nat, q < 256 /\ m[i]? = some (.int .u8 q))
    (hc : w.heap[Bn]? = some (.cells m 121 (0, 0))) :
    SeqStopsK F n Try.prog 74 #[.pointer (some ⟨Bn, 0, none⟩)] (fun x : Int => #[Value.int .i64 x]) (fun W W' => W'.heap[Bn]? = W.heap[Bn]?) (fun ys => ys = ones m 256) (fun pre => pre <+: ones m 256) (ones m 256).length w := fun l J Jx W hW _ _ hY h0 =>
  aids1_in F n h6 hro hn l Bn m J Jx hY W hm ((hW.block Bn hBn).trans hc) h0
theorem blk_own {β : Type} (B : Nat) (o : Obj) (ho : o.isCells = true) : Own (fun (_ : β) W => W.heap[B]? = some o) := fun s X Y row hs hg hrow =>
  (hg.block B (Array.getElem?_eq_some_iff.1 hs).1 (fun e' => by obtain ⟨o', ho', hc⟩ := hrow B e'.symm; rw [hs] at ho'; cases ho'; rw [ho] at hc; cases hc)).trans hs
theorem info3R : (Try.prog.info? 3).map (fun i => (i.zero, i.size, i.bytes)) = some (some (.int .i64 0), 1, 8) := by kernel_rfl
set_option maxRecDepth 100000 in
set_option maxHeartbeats 2000000 in
theorem readA_in (F : Fence) (n : Nat) (h3 : F.fn 56) (h4 : F.fn 66) (h5 : F.fn 74) (hro : F.round = none) (hn : 3 <= n) (w : World) (kb ob cap : Nat) (hcap : 2 <= cap)
    (h0 : w.cell? ⟨kb, ob, none⟩ = some (.int .u8 2)) (h1 : w.cell? ⟨kb, ob + 1, none⟩ = some (.int .u8 0)) (hkb : kb < w.heap.size) :
    CallsIn F n Try.prog 56 #[.slice (some ⟨kb, ob, none⟩) 2 cap] w fun e W' => ∃ v, e = .returned v /\ W'.ownsRow w.heap.size 3 1 v 0 [] /\ (v = .slice none 0 0) /\ Below w.heap.size w W' := by
  have h1n : 1 <= n := by omega
  refine callsIn_of_wp_marks Try.func56 rfl h3 ?_ hro
  simp only [Try.ntmps56, List.size_toArray, List.length_cons, List.length_nil, Nat.reduceAdd, Nat.reduceSub, Array.replicate_succ, Array.replicate_zero, List.push_toArray, List.append_toArray, List.nil_append, List.cons_append]
  gi_wp2_with (gi_at_call 66; refine (aids_in F (n - 1) h4 hro _ (by simp) _).mono ?_; rintro e w' ⟨rfl, rfl⟩)
  all_goals
    gi_loopw [60] (fun c wr => c = .int .i64 0 /\ wr = (w.alloc (.cells #[.slice none 0 0] 36)).alloc (.cells zero32 121)) (fun c _ => 0)
    case atStart => exact ⟨rfl, rfl⟩
    case round =>
      obtain ⟨rfl, rfl⟩ := hrel
      have hL := World.alloc_heap_new (w.alloc (.cells #[.slice none 0 0] 36)) (.cells zero32 121)
      rw [World.size_alloc] at hL
      generalize hz : zero32 = z at hL ⊢
      gi_wp2_with (first | (refine wpListIn_load_row (ty := 121) hro rfl rfl (w.heap.size + 1) rfl 121 z (0, 0) (.array 32 5) hL (by kernel_rfl) rfl (by rw [← hz]; kernel_rfl) ?_) | (gi_at_call 66; refine (aids_in F (n - 1) h4 hro _ (by rw [← hz]; rfl) _).mono ?_; rintro e w' ⟨rfl, rfl⟩))
      have hm32 : ∀ i, i < 32 -> ∃ q : Nat, q < 256 /\ z[i]? = some (.int .u8 q) := by subst hz; exact zero32_ok
      have hone : ones z 256 = [] := by subst hz; exact zero32_ones
      clear hz
      have bO := Boxed.new w 36 (.slice none 0 0)
      have bN : ((((w.alloc (.cells #[.slice none 0 0] 36)).alloc (.cells z 121))).alloc (.cells z 121)).heap[w.heap.size + 2]? = some (.cells z 121 (0, 0)) := by
        have := World.alloc_heap_new (((w.alloc (.cells #[.slice none 0 0] 36)).alloc (.cells z 121))) (.cells z 121)
        simpa [World.size_alloc] using this
      have hB0 : Below w.heap.size w ((((w.alloc (.cells #[.slice none 0 0] 36)).alloc (.cells z 121))).alloc (.cells z 121)) := (((Below.refl _ w).alloc (Nat.le_refl _) _).alloc (by simp) _).alloc (by simp; omega) _
      refine wpIn_rangeFunc_ownG hro h1n (gf := 74) (lb := #[.pointer (some ⟨w.heap.size + 2, 0, none⟩)]) rfl h5 (enters_of Try.func74 (by kernel_rfl) rfl)
        (aids_stops F (n - 1) h5 hro (by omega) (w.heap.size + 2) z _ (by simp) hm32 bN) (fun h k => k.trans h) (fun W l o o' hl hw ho _ => putObj_other (by simp at hl; omega)) (Below.refl _ _) (fun _ => rfl)
        (fun pre W => ((∃ v, Boxed W w.heap.size 36 v /\ W.ownsRow w.heap.size 3 1 v pre.length (pre.map (Value.int .i64)) /\ (v = .slice none 0 0 ↔ pre = [])) /\ Below w.heap.size w W) /\ W.heap[w.heap.size + 2]? = some (.cells z 121 (0, 0)))
        (fun _ _ _ => False)
        (OwnFrom.and (OwnFrom.and (Own.from (holdsRow_own w.heap.size w.heap.size 36 3 1 (fun pre : List Int => pre.length) (fun pre => pre.map (Value.int .i64)) (fun pre v => v = .slice none 0 0 ↔ pre = [])) _) (ownFrom_below (Nat.le_refl _) (by simp; omega))) (Own.from (blk_own _ _ rfl) _))
        (fun _ _ _ _ _ hs _ _ => hs)
        ⟨⟨⟨_, (bO.alloc _).alloc _, World.ownsRow_nil _ _ _ _, by simp⟩, hB0⟩, bN⟩ ?_ ?_ ?_ ?_ ?_
      rotate_left 1
      focus
        intro l x W K hK
        gi_wp2
        exact hK
      · rintro l pre x W ⟨⟨⟨v, hv, hrow, hnil⟩, hB⟩, hblk⟩ hlt
        rw [hone] at hlt
        exact absurd hlt (by simp)
      · rintro D ys W hD rfl ⟨⟨⟨v, hv, hrow, hnil⟩, hB⟩, hblk⟩ hK
        rw [hone] at hrow hnil
        obtain rfl := hnil.2 rfl
        have hc := hv.cell
        have hf := hv.frozen
        gi_wp2
        have hK' : (W.setCell ⟨w.heap.size, 0, none⟩ (.slice none 0 0)).heap[D]? = some (.deferred (some [])) := (Below.heap_setCell W ⟨w.heap.size, 0, none⟩ (.slice none 0 0) D (by simp at hD; simp; omega)).trans hK
        refine ⟨by simp, .inl ⟨_, _, rfl, run_takeDeferred hK', ?_⟩⟩
        refine ⟨_, results_cell1 rfl _ _ w.heap.size _ rfl ((cell_other (by simp at hD; omega)).trans (hv.set _).cell) (by kernel_rfl), _, rfl, ownsRow_putObj (World.ownsRow_nil _ _ _ _) _ hK' rfl, rfl, ?_⟩
        exact (hB.setCell (p := ⟨w.heap.size, 0, none⟩) (Nat.le_refl _) _).trans ⟨rfl, rfl, rfl, by simp [World.putObj], fun k hk => putObj_other (by simp at hD; omega)⟩
      · rintro D c pre W _ _ h _
        exact h.elim
end Go.Proofs.Ytooepgpfaaddbaa
