/-
  Root: the best tree.
-/
import Derived.Test.YtdcepineppafpaaW6
namespace Go.Proofs.Ytdcepineppafpaa
open Go.Am
set_option linter.unusedVariables false
set_option linter.unusedSimpArgs false
theorem F71_ok (x y : Int) : ∃ k, F71 x y = some k ∧ Cp k x y := by
  unfold F71 F93
  simp only [bEqr, Bool.not_true, Option.bind_some, cond_false]
  unfold Cp
  by_cases h : x < y
  · rw [bif_t (by simp [bLt_eq]; omega)]; exact ⟨_, rfl, .inl ⟨by decide, h⟩⟩
  · rw [bif_f (by simp [bLt_eq]; omega)]
    by_cases h2 : y < x
    · rw [bif_t (by simp [bLt_eq]; omega)]; exact ⟨_, rfl, .inr (.inr ⟨by decide, h2⟩)⟩
    · rw [bif_f (by simp [bLt_eq]; omega)]; exact ⟨_, rfl, .inr (.inl ⟨rfl, by omega⟩)⟩
theorem F70_ok (x y z : Int) : F70 [x, y, z] = some (if x = 0 then (if y = 0 then z else y) else x) := by
  unfold F70
  rcases first_gen (step := fun s => F70_L1 [x, y, z] s) (E := Unit) (R := Int) 3 (fun i => gd [x, y, z] i ≠ 0) (fun i => gd [x, y, z] i) () (fun i hi _ => by
      unfold F70_L1
      rw [bif_t (by simp [bLt_eq]; omega), need_true (inb_nat (by simpa using hi)), Int.toNat_natCast]
      by_cases h : gd [x, y, z] i = 0
      · rw [h, bif_f (by simp [bEq]), wr_add1 hi (by omega)]; exact .inl ⟨fun q => q rfl, rfl⟩
      · rw [bif_t (by simp [bEq, h])]; exact .inr ⟨h, rfl⟩)
    (by unfold F70_L1; rw [bif_f (by simp [bLt_eq])]) with ⟨h, l⟩ | ⟨i, h1, h2, h3, l⟩
  · rw [lp_inl l]
    have a0 : x = 0 := Classical.not_not.1 (h 0 (by omega))
    have a1 : y = 0 := Classical.not_not.1 (h 1 (by omega))
    have a2 : z = 0 := Classical.not_not.1 (h 2 (by omega))
    rw [if_pos a0, if_pos a1, a2]
  · rw [lp_inr l]
    match i, h1, h2, h3 with
    | 0, _, h2, _ => have h2' : x ≠ 0 := h2; rw [if_neg h2']; rfl
    | 1, _, h2, h3 =>
      have h2' : y ≠ 0 := h2
      have a0 : x = 0 := Classical.not_not.1 (h3 0 (by omega))
      rw [if_pos a0, if_neg h2']; rfl
    | 2, _, h2, h3 =>
      have a0 : x = 0 := Classical.not_not.1 (h3 0 (by omega))
      have a1 : y = 0 := Classical.not_not.1 (h3 1 (by omega))
      rw [if_pos a0, if_pos a1]; rfl
/-- The tree a is before b. -/
def bf (a b : TTree) : Bool := if a.Cost = b.Cost then decide (a.Hops < b.Hops) else decide (a.Cost < b.Cost)
theorem F73_ok (a b : TTree) : F73 a b = some (bf a b) := by
  unfold F73 bf
  by_cases h : a.Cost = b.Cost
  · rw [bif_f (by simp [bEq, h]), if_pos h, bLt_eq]
  · rw [bif_t (by simp [bEq, h]), if_neg h, bLt_eq]
theorem F69_ok (a b : TTree) (ha : Ab a.Root) (hb : Ab b.Root) (hr : nA b.Root < nA a.Root) : ∃ k, F69 a b = some k ∧ (k < 0 ↔ bf a b = true) := by
  obtain ⟨k1, e1, c1⟩ := F71_ok a.Cost b.Cost
  obtain ⟨k2, e2, c2⟩ := F71_ok a.Hops b.Hops
  obtain ⟨k3, e3, c3⟩ := F72_ok a.Root b.Root ha hb
  unfold F69
  rw [e1, e2, e3]
  simp only [Option.bind_some]
  rw [F70_ok]
  refine ⟨_, rfl, ?_⟩
  unfold Cp at c1 c2 c3
  unfold bf
  by_cases h1 : a.Cost = b.Cost
  · rw [if_pos h1, if_pos (by omega)]
    by_cases h2 : a.Hops = b.Hops
    · rw [if_pos (by omega), decide_eq_true_eq]; omega
    · rw [if_neg (by omega), decide_eq_true_eq]; omega
  · rw [if_neg h1, if_neg (by omega), decide_eq_true_eq]; omega
def zt : TTree := TTree.mk (A6u8.mk 0 0 0 0 0 0) (A6u8.mk 0 0 0 0 0 0) 0 0 0 false 0
/-- One step of looking for the best. -/
def stp (o : Bool × TTree) (t : TTree) : Bool × TTree := if o.1 = false ∨ bf t o.2 = true then (true, t) else (true, o.2)
theorem stp_t : ∀ (l : List TTree) (t : TTree), (l.foldl stp (true, t)).1 = true ∧ ((l.foldl stp (true, t)).2 = t ∨ (l.foldl stp (true, t)).2 ∈ l)
  | [], t => ⟨rfl, .inl rfl⟩
  | a :: l, t => by
    rw [List.foldl_cons]
    by_cases h : bf a t = true
    · rw [show stp (true, t) a = (true, a) from by unfold stp; rw [if_pos (.inr h)]]
      obtain ⟨h1, h2⟩ := stp_t l a
      refine ⟨h1, .inr ?_⟩
      rcases h2 with h2 | h2
      · rw [h2]; exact List.mem_cons_self ..
      · exact List.mem_cons_of_mem _ h2
    · rw [show stp (true, t) a = (true, t) from by unfold stp; rw [if_neg (by simp [h])]]
      obtain ⟨h1, h2⟩ := stp_t l t
      refine ⟨h1, ?_⟩
      rcases h2 with h2 | h2
      · exact .inl h2
      · exact .inr (List.mem_cons_of_mem _ h2)
theorem stp_in (l : List TTree) (h : l ≠ []) : (l.foldl stp (false, zt)).1 = true ∧ (l.foldl stp (false, zt)).2 ∈ l := by
  match l, h with
  | a :: l, _ =>
    rw [List.foldl_cons, show stp (false, zt) a = (true, a) from by unfold stp; rw [if_pos (.inl rfl)]]
    obtain ⟨h1, h2⟩ := stp_t l a
    refine ⟨h1, ?_⟩
    rcases h2 with h2 | h2
    · rw [h2]; exact List.mem_cons_self ..
    · exact List.mem_cons_of_mem _ h2
theorem F68_ok (l : List TTree) (h : l ≠ []) (hl : l.length ≤ 1000) (hb : ∀ q ∈ l, Ab q.Root) (hp : l.Pairwise (fun a b => nA a.Root < nA b.Root)) : F68_0 l = some (l.foldl stp (false, zt)).2 := by
  have h0 : 0 < l.length := List.length_pos_iff.2 h
  unfold F68_0
  rw [bif_f (by simp [bLt_eq]; omega), need_true (inb_iff.2 (by omega))]
  have lo := run_gen (step := fun s : Int × TTree => F68_0_L1 l s.1 s.2) (E := TTree) (R := TTree) (l.length - 1) (fun j => (((j + 1 : Nat) : Int), ((l.take (j + 1)).foldl stp (false, zt)).2)) (l.foldl stp (false, zt)).2
    (fun j hj => by
      have hi : j + 1 < l.length := by omega
      have ht : l.take (j + 1) ≠ [] := fun e => by have := congrArg List.length e; rw [List.length_take, List.length_nil] at this; omega
      obtain ⟨m1, m2⟩ := stp_in _ ht
      rw [fold_snoc stp _ _ hi]
      generalize (l.take (j + 1)).foldl stp (false, zt) = o at m1 m2 ⊢
      obtain ⟨ob, om⟩ := o
      simp only at m1 m2
      subst m1
      have hlt : nA om.Root < nA (gd l (j + 1)).Root := by
        obtain ⟨q, hq, e⟩ := List.getElem_of_mem m2
        rw [List.length_take] at hq
        rw [List.getElem_take] at e
        have := List.pairwise_iff_getElem.1 hp q (j + 1) (by omega) hi (by omega)
        rw [e, gd_at hi] at this
        exact this
      obtain ⟨k, k1, k2⟩ := F69_ok (gd l (j + 1)) om (hb _ (gd_mem hi)) (hb _ (List.mem_of_mem_take m2)) hlt
      unfold F68_0_L1
      simp only [Int.toNat_natCast, eta_TTree, eta_A6u8]
      rw [bif_t (c := bLt _ (l.length : Int)) (by simp [bLt_eq]; omega), need_true (inb_nat hi), k1, Option.bind_some, need_true (inb_nat hi), wr_add1 hi (by omega)]
      unfold stp
      by_cases hk : bf (gd l (j + 1)) om = true
      · rw [if_pos (.inr hk), bif_t (by have := k2.2 hk; simp [bLt_eq]; omega)]
      · rw [if_neg (by simp [hk]), bif_f (by
          have : ¬ k < 0 := fun h => hk (k2.1 h)
          simp [bLt_eq]; omega)])
    (by
      unfold F68_0_L1
      simp only
      rw [bif_f (by simp [bLt_eq]; omega), show l.length - 1 + 1 = l.length from by omega, List.take_length])
  have e1 : ((l.take (0 + 1)).foldl stp (false, zt)).2 = gd l 0 := by
    rw [fold_snoc stp _ _ h0, List.take_zero]; rfl
  rw [e1] at lo
  have lo' : loopD (fun s : Int × TTree => F68_0_L1 l s.1 s.2) (1, gd l 0) = some (Sum.inl (l.foldl stp (false, zt)).2) := lo
  simp only [eta_TTree, eta_A6u8]
  rw [lp_inl lo']
theorem best_ok (r : TRoots) (gate : Bool) (hb : Abr r) (hs : Sm r) : ∃ v, F27 r gate = some v ∧ F28 r gate = some v := by
  unfold F27 F28
  rcases F34_ok r hb with ⟨hv, e⟩ | ⟨hv, e⟩ <;> rcases F35_ok r hb with ⟨hv', e'⟩ | ⟨hv', e'⟩
  · rw [e, e', Option.bind_some, Option.bind_some, bif_f (by simp [bEq]), bif_f (c := !true) rfl]
    have hl := hs.1
    unfold F66
    rw [need_true (capb_iff.2 (by omega)), Option.bind_some]
    have hd : F62_0 r.Trees gate = some (r.Trees.filter fun q => !(gate && !q.Gate)) := by
      unfold F62_0 F91_0
      exact del_gen r.Trees (fun q => gate && !q.Gate) (fun q => F67_0 q gate) (by omega) (fun q _ => rfl) (fun _ => rfl) (fun _ => rfl)
    rw [hd, Option.bind_some]
    have lo := run_gen (step := fun s : Int × Bool × TTree => F28_L1 r gate s.1 s.2.1 s.2.2) (E := Bool × TTree) (R := TTree × Bool) r.Trees.length
      (fun i => ((i : Int), (((r.Trees.take i).filter fun q => !(gate && !q.Gate)).foldl stp (false, zt)).1, (((r.Trees.take i).filter fun q => !(gate && !q.Gate)).foldl stp (false, zt)).2))
      ((r.Trees.filter fun q => !(gate && !q.Gate)).foldl stp (false, zt))
      (fun i hi => by
        rw [take_fil _ _ hi]
        generalize hL : (r.Trees.take i).filter (fun q => !(gate && !q.Gate)) = L
        unfold F28_L1
        simp only [Int.toNat_natCast, eta_TTree, eta_A6u8]
        rw [bif_t (c := bLt _ (r.Trees.length : Int)) (by simp [bLt_eq]; omega), need_true (inb_nat hi), wr_add1 hi (by omega)]
        cases hy : (gate && !(gd r.Trees i).Gate) with
        | true => rw [cond_true, Bool.not_true, cond_false]
        | false =>
          rw [cond_false, Bool.not_false, cond_true, List.foldl_append, F73_ok, need_true (by simp), gt_some]
          generalize L.foldl stp (false, zt) = o
          obtain ⟨ob, om⟩ := o
          simp only [List.foldl_cons, List.foldl_nil]
          unfold stp
          cases ob with
          | false => rw [if_pos (.inl rfl)]; rfl
          | true =>
            cases hbf : bf (gd r.Trees i) om with
            | true => rw [if_pos (.inr rfl)]; rfl
            | false => rw [if_neg (by simp [hbf])]; rfl)
      (by
        unfold F28_L1
        simp only [List.take_length]
        rw [bif_f (by simp [bLt_eq])])
    have lo' : loopD (fun s : Int × Bool × TTree => F28_L1 r gate s.1 s.2.1 s.2.2) (0, false, zt) = some (Sum.inl ((r.Trees.filter fun q => !(gate && !q.Gate)).foldl stp (false, zt))) := lo
    unfold zt at lo'
    rw [lp_inl lo']
    by_cases hE : (r.Trees.filter fun q => !(gate && !q.Gate)) = []
    · rw [hE]; exact ⟨_, rfl, rfl⟩
    · have h0 := List.length_pos_iff.2 hE
      rw [bif_f (by simp only [bEq_eq, decide_eq_false_iff_not]; omega)]
      rw [F68_ok _ hE (by have := List.length_filter_le (fun q => !(gate && !q.Gate)) r.Trees; omega) (fun q hq => by
        have hq' := (List.mem_filter.1 hq).1
        obtain ⟨j, hj, rfl⟩ := List.getElem_of_mem hq'
        rw [gd_at hj]; exact (hb.2.1 j hj).1) ((Vr_tre hv).filter _), Option.bind_some]
      obtain ⟨m1, m2⟩ := stp_in _ hE
      refine ⟨_, rfl, ?_⟩
      unfold zt at m1
      rw [m1]; rfl
  · exact absurd hv hv'
  · exact absurd hv' hv
  · rw [e, e', Option.bind_some, Option.bind_some, bif_t (by simp [bEq]), bif_t (c := !false) rfl]
    exact ⟨_, rfl, rfl⟩
/-- The law RootKnows. -/
theorem law5 (r : TRoots) (out via : A6u8) (now : Int) (gate : Bool) (hb : Abr r) (ho : Ab out) : F5 r out via now gate = some true := by
  unfold F5 F16
  by_cases hg : r.Trees.length ≤ 20 ∧ r.Proxies.length ≤ 100
  · have hs : Sm r := ⟨by omega, by omega⟩
    rw [Option.bind_some, bif_f (by simp [bLt_eq]; omega), F17_ok r hs, Option.bind_some]
    obtain ⟨v, v1, v2⟩ := best_ok r gate hb hs
    obtain ⟨u, u1, u2, u3⟩ := learn_ok r out via now hb ho hs
    obtain ⟨z, z1, z2⟩ := lookup_ok r out hb ho hs
    rw [v1, v2, u1, u2, z1, z2]
    simp only [Option.bind_some]
    unfold F33
    have e0 : F24 (TRoots.mk (A6u8.mk u.1.Own.x0 u.1.Own.x1 u.1.Own.x2 u.1.Own.x3 u.1.Own.x4 u.1.Own.x5) u.1.Root u.1.Gate u.1.Seq u.1.Trees u.1.Proxies) (TRoots.mk (A6u8.mk u.1.Own.x0 u.1.Own.x1 u.1.Own.x2 u.1.Own.x3 u.1.Own.x4 u.1.Own.x5) u.1.Root u.1.Gate u.1.Seq u.1.Trees u.1.Proxies) = some true := F24_ok u.1 u3
    have e1 : F24 r (TRoots.mk (A6u8.mk r.Own.x0 r.Own.x1 r.Own.x2 r.Own.x3 r.Own.x4 r.Own.x5) r.Root r.Gate r.Seq r.Trees r.Proxies) = some true := F24_ok r hs
    have e2 : F24 (TRoots.mk (A6u8.mk 0 0 0 0 0 0) false false 0 [] []) (TRoots.mk (A6u8.mk 0 0 0 0 0 0) false false 0 [] []) = some true := F24_ok _ ⟨by simp, by simp⟩
    have e3 : F24 (TRoots.mk (A6u8.mk out.x0 out.x1 out.x2 out.x3 out.x4 out.x5) r.Root gate 0 [] []) (TRoots.mk (A6u8.mk out.x0 out.x1 out.x2 out.x3 out.x4 out.x5) r.Root gate 0 [] []) = some true := F24_ok _ ⟨by simp, by simp⟩
    have l1 : loopD (fun s : Int × List TProxied => F5_L1 s.1 s.2) (0, u.1.Proxies) = some (Sum.inl ()) := set_gen (R := Bool) (fun q => TProxied.mk q.Out q.Via (-1)) u.1.Proxies (by have := u3.2; omega) (fun _ => rfl)
    have l2 : loopD (fun s : Int × List TProxied => F5_L2 s.1 s.2) (0, u.1.Proxies) = some (Sum.inl ()) := set_gen (R := Bool) (fun q => TProxied.mk q.Out q.Via (-1)) u.1.Proxies (by have := u3.2; omega) (fun _ => rfl)
    have ck : ∃ a b, F34 r = some a ∧ F35 r = some b ∧ bB (bEq a 0) b = true := by
      rcases F34_ok r hb with ⟨hv, e⟩ | ⟨hv, e⟩ <;> rcases F35_ok r hb with ⟨hv', e'⟩ | ⟨hv', e'⟩
      · exact ⟨_, _, e, e', rfl⟩
      · exact absurd hv hv'
      · exact absurd hv' hv
      · exact ⟨_, _, e, e', rfl⟩
    obtain ⟨a, b, k1, k2, k3⟩ := ck
    cases hgr : (gate && !r.Root) with
    | true =>
      simp only [cond_true, Option.bind_some, e0, e1, e2, bEqr, bBr, Bool.and_self, gt_some, Option.isSome_some, need_true, k1, k2, k3, lp_inl l1]
    | false =>
      simp only [cond_false, Option.bind_some, e0, e1, e3, bEqr, bBr, Bool.and_self, cond_true, gt_some, Option.isSome_some, need_true, k1, k2, k3, lp_inl l2]
  · rw [Option.bind_some, bif_t (by simp [bLt_eq]; omega)]
end Go.Proofs.Ytdcepineppafpaa
