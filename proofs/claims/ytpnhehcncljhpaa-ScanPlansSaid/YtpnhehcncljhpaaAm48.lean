/-
  The abstract machine, part 48: the bytes of a constant string (a row, and its conversion to its own type): memory that is only read.
-/
import Derived.Test.YtpnhehcncljhpaaAm47
import Derived.Lib.SlBytesConst
namespace Go.Am
set_option linter.unusedVariables false
variable {P : Program} {E : Env} {h : List ABlk}
theorem arr_row {f : Int → List AV} {L : List Int} {c : Nat → Nat → AV} (hx : ∀ x, x < L.length → getL (f (gd L x)) 0 = c x 0) : ∀ x y, x < L.length → y < 1 → enR f L x y = c x y := by
  intro x y h hy
  obtain rfl : y = 0 := by omega
  exact hx x h
theorem buildSlice_run {t : TypeId} {len : Nat} {ps : Array (Nat × Operand)} {ρ : Operand → AV} {η : Operand → Value} {ob : Prop} {v : AV} {e : TypeId} {z : Nat} {c : Nat → Nat → AV} (H : HR E h) (hv : ∀ p ∈ ps.toList, VR E (ρ p.2) (η p.2))
    (hr : evBuildSlice (tslice P t) ((tslice P t).bind (tsz P)) ((tslice P t).bind (tzero P)) len ρ ps.toList h = .heap ob v (h ++ [.row e z len c])) :
    tslice P t = some e ∧ ∃ cs' : Array Value, (Instr.buildSlice t len (ps.map fun (i, x) => (i, η x))).run P E.w = .ok (.slice (some ⟨E.w.heap.size, 0, none⟩) len len) (E.w.alloc (.cells cs' e)) ∧ len ≤ maxLen ∧
      ∀ x y, x < len → y < z → ∃ v, cs'[x * z + y]? = some v ∧ v.oneCell' = true ∧ VR E (c x y) v := by
  have hmap : (ps.map fun (i, x) => (i, η x)).toList = ps.toList.map fun (i, x) => (i, η x) := by simp
  cases ht : tslice P t with
  | none => rw [ht] at hr; cases hr
  | some e0 =>
  rw [ht] at hr
  simp only [Option.bind_some] at hr
  cases hz : tsz P e0 with
  | none => rw [hz] at hr; cases hr
  | some z0 =>
  cases hl : tzero P e0 with
  | none => rw [hz, hl] at hr; cases hr
  | some l =>
  rw [hz, hl] at hr
  simp only [evBuildSlice] at hr
  cases hok : (l.length == z0 && decide (1 ≤ z0) && decide (len * z0 ≤ 4096) && fillOk (len * z0) (placeA z0 ρ ps.toList)) with
  | false => rw [hok] at hr; cases hr
  | true =>
  rw [hok] at hr
  simp only [cond_true, AR.heap.injEq, List.append_cancel_left_eq, List.cons.injEq, ABlk.row.injEq, and_true] at hr
  obtain ⟨_, rfl, rfl, rfl, _, rfl⟩ := hr
  simp only [Bool.and_eq_true, beq_iff_eq, decide_eq_true_eq] at hok
  obtain ⟨⟨⟨rfl, hz1⟩, hlen⟩, hfill⟩ := hok
  obtain ⟨i, zv, hi, hzv, habs⟩ := zero_of hl
  have hu := und_of_tslice ht
  have hc : CR E l zv.cells := by simpa using absL_CR (E := E) habs
  have hrep := rep_CR hc len (len * l.length) rfl (by omega)
  obtain ⟨cs', q1, q2⟩ := fill_sound (PR_A (z := l.length) ps.toList hv) hrep (by rw [repL_length]; exact hfill)
  have hlenF : (fillA (repL l len) (placeA l.length ρ ps.toList)).length = len * l.length := by rw [fillA_length, repL_length]
  obtain ⟨r1, r2⟩ := row_of_CR q2 hlenF
  have hbig : ¬ (len * l.length > 16777216) := by omega
  refine ⟨rfl, cs', ?_, maxLen_4096 (by have := Nat.le_mul_of_pos_right len (show 0 < l.length from by omega); omega), r2⟩
  by_cases h0 : len * l.length = 0
  · have hcs : Instr.fill (fun i => some (i * l.length, l.length)) ((Array.range (len * l.length)).map fun i => (#[] : Array Value)[i % (#[] : Array Value).size]!) (ps.toList.map fun (i, x) => (i, η x)) = some cs' := by
      rw [← q1, h0]; congr 1
      apply Array.ext
      · simp
      · intro i hi; simp at hi
    simp only [Instr.buildSlice, Sem.run_bind, run_underlying hu, Result.andThen_ok, run_sizeOf hz, if_neg hbig, if_pos h0, Sem.run_pure, hmap, hcs]
    rfl
  · simp only [Instr.buildSlice, Sem.run_bind, run_underlying hu, Result.andThen_ok, run_sizeOf hz, if_neg hbig, if_neg h0, run_zeroValue hi hzv, Sem.run_pure, hmap, q1]
    rfl
theorem mark_env {w : World} {cs : Array Value} {e : TypeId} {fr : Nat × Nat} (H : HR E h) (hw : w = E.w.alloc (.cells cs e fr)) :
    HR ⟨w, E.σ, fun k => E.prot k ∨ k = E.w.heap.size⟩ h ∧ Ext E h ⟨w, E.σ, fun k => E.prot k ∨ k = E.w.heap.size⟩ h := by
  subst hw
  have hold : ∀ k, k < E.w.heap.size → (E.w.alloc (.cells cs e fr)).heap[k]? = E.w.heap[k]? := fun k hk => heap_alloc_old _ _ hk
  have hsz : (E.w.alloc (.cells cs e fr)).heap.size = E.w.heap.size + 1 := by show (E.w.heap.push _).size = _; simp
  let E' : Env := ⟨E.w.alloc (.cells cs e fr), E.σ, fun k => E.prot k ∨ k = E.w.heap.size⟩
  have K : Keep E E' := ⟨fun b x hb => hb, fun k hk => .inl hk, fun k hk => hold k (H.prot k hk).1, fun k cs t hk => ⟨cs, (hold k (lt_of_some hk)).trans hk, rfl⟩⟩
  refine ⟨⟨fun b x hx => ?_, H.inj, fun k hk => ?_, H.fresh⟩, ⟨rfl, rfl, rfl, K.σ, K.prot, by show _ ≤ (E.w.alloc (.cells cs e fr)).heap.size; omega, K.kind, fun k hk _ => hold k hk, fun k hk => .inl hk, Nat.le_refl _, fun _ _ => rfl, fun k hk => ?_⟩⟩
  · by_cases hx' : x = .dead
    · subst hx'; trivial
    · exact (H.blk b x hx).mono K rfl fun k o hk => hold k ((H.blk b x hx).lt hx' hk)
  · rcases hk with hk | rfl
    · obtain ⟨p1, p2⟩ := H.prot k hk
      exact ⟨by show k < (E.w.alloc (.cells cs e fr)).heap.size; omega, p2⟩
    · refine ⟨by show _ < (E.w.alloc (.cells cs e fr)).heap.size; omega, fun ho => ?_⟩
      have := H.own_lt (E := E) ho
      omega
  · rcases hk with hk | rfl
    · exact .inl hk
    · exact .inr (.inr (Nat.le_refl _))
theorem pairO {ops : Array Oper} {rest : List Oper} {K : Kt} {t : List AV} {o1 o2 : Oper} {d1 d2 n : Nat} {y e : TypeId} {ps : Array (Nat × Operand)} {c c' : Nat → Nat → AV} {n' : Nat} {v : AV} {ob : Prop}
    (q1 : o1.op = .buildSlice y n ps) (q2 : o1.guard = none) (q3 : o1.dst = some d1) (q4 : o2.op = .convert y y (.tmp d1)) (q5 : o2.guard = none) (q6 : o2.dst = some d2) (hd : d1 < t.length) (hy : tbytes P y = true) (hog : ogP t ps.toList)
    (hr : evBuildSlice (tslice P y) ((tslice P y).bind (tsz P)) ((tslice P y).bind (tzero P)) n (rho t) ps.toList h = .heap ob v (h ++ [.row e 1 n c])) (hnf : ∀ x, x < n → nref (c x 0)) (hn : n' = n) (hcc : ∀ x y, x < n' → y < 1 → c' x y = c x y)
    (hm : MeanO P ops rest K (setT (setT t (some d1) .top) (some d2) (.ro 1 n' false c')) h) : MeanO P ops (o1 :: o2 :: rest) K t h := by
  subst hn
  intro E a Q H F hdf hQ
  obtain ⟨dst1, op1, ty1, pos1, af1, g1⟩ := o1
  obtain ⟨dst2, op2, ty2, pos2, af2, g2⟩ := o2
  simp only at q1 q2 q3 q4 q5 q6
  subst q1 q2 q3 q4 q5 q6
  obtain ⟨hts, cs, r1, r2, r3⟩ := buildSlice_run (P := P) (η := a.eval) H (fun p hp => rho_sound F (ogP_mem hog p hp)) hr
  have hu := und_of_tslice hts
  have he : P.underlying e = some (.int .u8) := by
    unfold tbytes at hy
    rw [hu] at hy
    simp only at hy
    split at hy
    · assumption
    · cases hy
  have hk := Go.Lib.run_convert_bytes_const (P := P) E.w y e cs n' n' hu he
  obtain ⟨H2, X2⟩ := mark_env (cs := cs) (e := e) (fr := (cs.size, cs.size + 1)) H rfl
  unfold wpList
  rw [if_pos (show Region.wanted _ _ = true from rfl)]
  refine .inl ?_
  unfold Oper.wp
  have e1 : (execOp a.eval ({ dst := some d1, op := .buildSlice y n' ps, type := ty1, pos := pos1, after := af1, guard := none } : Oper)).run P E.w = .ok (.value (.slice (some ⟨E.w.heap.size, 0, none⟩) n' n')) (E.w.alloc (.cells cs e)) := by
    show (do pure (.value (← Instr.buildSlice y n' (ps.map fun (i, x) => (i, a.eval x)))) : Sem Next).run P E.w = _
    rw [Sem.run_bind, r1]; rfl
  rw [e1, Oper.upon_value]
  unfold wpList
  rw [if_pos (show Region.wanted _ _ = true from rfl)]
  refine .inl ?_
  unfold Oper.wp
  have ha : (a.put (some d1) (.slice (some ⟨E.w.heap.size, 0, none⟩) n' n')).eval (.tmp d1) = .slice (some ⟨E.w.heap.size, 0, none⟩) n' n' := by
    show ((a.put (some d1) _).tmps.getD d1 undef) = _
    have : d1 < a.tmps.size := by rw [← F.1]; exact hd
    simp [Act.put, Array.getD, this]
  have e2 : (execOp (a.put (some d1) (.slice (some ⟨E.w.heap.size, 0, none⟩) n' n')).eval ({ dst := some d2, op := .convert y y (.tmp d1), type := ty2, pos := pos2, after := af2, guard := none } : Oper)).run P (E.w.alloc (.cells cs e)) = .ok (.value (.slice (some ⟨E.w.heap.size, 0, none⟩) n' n')) (E.w.alloc (.cells cs e (cs.size, cs.size + 1))) := by
    show (do pure (.value (← convert y y ((a.put (some d1) (.slice (some ⟨E.w.heap.size, 0, none⟩) n' n')).eval (.tmp d1)))) : Sem Next).run P (E.w.alloc (.cells cs e)) = _
    rw [ha, Sem.run_bind, hk]; rfl
  rw [e2, Oper.upon_value]
  have F2 := FR_mono (X2.keep H) F
  have hcell : ∀ x y, x < n' → y < 1 → ∃ v, (E.w.alloc (.cells cs e (cs.size, cs.size + 1))).cell? ⟨E.w.heap.size, 0 + x * 1 + y, none⟩ = some v ∧ v.oneCell' = true ∧ VR E (c x y) v := fun x y hx hy => by
    obtain ⟨v, s1, s2, s3⟩ := r3 x y hx hy
    refine ⟨v, ?_, s2, s3⟩
    have : (E.w.alloc (.cells cs e (cs.size, cs.size + 1))).heap[E.w.heap.size]? = some (.cells cs e (cs.size, cs.size + 1)) := heap_alloc_new _ _
    simp only [World.cell?, this]
    rw [show 0 + x * 1 + y = x * 1 + y from by omega]
    exact s1
  have hV : VR ⟨E.w.alloc (.cells cs e (cs.size, cs.size + 1)), E.σ, fun k => E.prot k ∨ k = E.w.heap.size⟩ (.ro 1 n' false c') (.slice (some ⟨E.w.heap.size, 0, none⟩) n' n') := by
    refine .ro 1 n' false c' _ _ (Nat.le_refl _) r2 (fun h => by cases h) (fun h => by cases h) (fun x y => ((E.w.alloc (.cells cs e (cs.size, cs.size + 1))).cell? ⟨E.w.heap.size, 0 + x * 1 + y, none⟩).getD undef) (fun _ => ⟨E.w.heap.size, 0, rfl, .inr rfl, fun x y hx hy => ?_⟩) (fun x y hx hy => ?_) (fun x y hx hy => ?_) (fun x y hx hy => ?_)
    · obtain ⟨v, s1, _, _⟩ := hcell x y hx hy
      show (E.w.alloc _).cell? _ = _
      rw [s1]; rfl
    · obtain ⟨v, s1, s2, _⟩ := hcell x y hx hy
      rw [s1]; exact s2
    · obtain ⟨v, s1, _, s3⟩ := hcell x y hx hy
      rw [s1, hcc x y hx hy]; exact s3.mono (X2.keep H)
    · obtain rfl : y = 0 := by omega
      rw [hcc x 0 hx hy]; exact hnf x hx
  refine hm _ _ Q H2 (FR_put (FR_put F2 (.top _) (some d1)) hV (some d2)) hdf fun e' E' a' t' h' hk X H' F' hd' => hQ e' E' a' t' h' hk (X2.trans X) H' F' hd'
theorem nfR_ovw {s m x y : Nat} {c d : Nat → Nat → AV} (h1 : ∀ x y, nref (c x y)) (h2 : ∀ x y, nref (d x y)) : nref (ovwC s m c d x y) := by
  simp only [ovwC]; split
  · exact h2 _ _
  · exact h1 _ _
theorem nfR_getL {l : List AV} {y : Nat} (hl : nrefL l) : nref (getL l y) := nrefL_getL hl _
/-! ### Facts of the cells of types, found by type -/
class NRf {α : Type} (f : α → List AV) : Prop where
  h : ∀ a, nrefL (f a)
class KCf {α : Type} (k : (Nat → AV) → Prop) (f : α → List AV) : Prop where
  h : ∀ a, k (getL (f a))
theorem nfR_enI {α : Type} [Inhabited α] {f : α → List AV} [i : NRf f] {x y : Nat} {L : List α} : nref (enR f L x y) := nfR_en i.h
theorem nrR_enI {α : Type} [Inhabited α] {f : α → List AV} [i : NRf f] {n x y : Nat} {L : List α} : nr n (enR f L x y) := nrR_en i.h
theorem Fit_enI {α : Type} [Inhabited α] {k : (Nat → AV) → Prop} {f : α → List AV} [i : KCf k f] {L : List α} : Fit k L.length (enR f L) := Fit_enR i.h
end Go.Am
