/-
  Root: copies, equal states, places of addresses, learning and looking up.
-/
import Derived.Test.YtdcepineppafpaaW5
namespace Go.Proofs.Ytdcepineppafpaa
open Go.Am
set_option linter.unusedVariables false
set_option linter.unusedSimpArgs false
theorem bEqr (x : Int) : bEq x x = true := by simp [bEq]
theorem bBr (x : Bool) : bB x x = true := by simp [bB_eq]
/-- A state that is not too long. -/
def Sm (r : TRoots) : Prop := r.Trees.length ≤ 1000 ∧ r.Proxies.length ≤ 1000
theorem F17_ok (r : TRoots) (h : Sm r) : F17 r = some r := by
  unfold F17
  rw [need_true (capb_iff.2 (by have := h.1; omega)), need_true (capb_iff.2 (by have := h.2; omega))]
  rfl
theorem F56_ok (r : TRoots) (h : Sm r) : F56 r = some r := by
  unfold F56 F66 F86
  rw [need_true (capb_iff.2 (by have := h.1; omega)), need_true (capb_iff.2 (by have := h.2; omega))]
  rfl
theorem F24_ok (r : TRoots) (h : Sm r) : F24 r r = some true := by
  have l1 := run_gen (step := fun s => F24_L1 r r s) (E := Unit) (R := Bool) r.Trees.length (fun i => (i : Int)) () (fun i hi => by
    unfold F24_L1
    have := h.1
    rw [bif_t (by simp [bLt_eq]; omega), need_true (inb_nat hi), need_true (inb_nat hi), wr_add1 hi (by omega)]
    simp only [bEqr, bBr, Bool.and_self, Bool.not_true, cond_false]) (by unfold F24_L1; rw [bif_f (by simp [bLt_eq])])
  have l2 := run_gen (step := fun s => F24_L2 r r s) (E := Unit) (R := Bool) r.Proxies.length (fun i => (i : Int)) () (fun i hi => by
    unfold F24_L2
    have := h.2
    rw [bif_t (by simp [bLt_eq]; omega), need_true (inb_nat hi), need_true (inb_nat hi), wr_add1 hi (by omega)]
    simp only [bEqr, bBr, Bool.and_self, Bool.not_true, cond_false]) (by unfold F24_L2; rw [bif_f (by simp [bLt_eq])])
  have m1 : loopD (fun s => F24_L1 r r s) 0 = some (Sum.inl ()) := l1
  have m2 : loopD (fun s => F24_L2 r r s) 0 = some (Sum.inl ()) := l2
  unfold F24
  rw [bif_f (by simp [bEqr, bBr]), lp_inl m1, lp_inl m2]
theorem F96_ok (q : TProxied) (a : A6u8) (hq : Ab q.Out) (ha : Ab a) : ∃ k, F96 q a = some k ∧ Cp k (nA q.Out) (nA a) := by
  obtain ⟨k, k1, k2⟩ := F72_ok q.Out a hq ha
  unfold F96
  rw [k1]
  exact ⟨k, rfl, k2⟩
/-- The end of a binary search: is it the element? -/
theorem F95_end (l : List TProxied) (a : A6u8) (ha : Ab a) (hq : ∀ q ∈ l, Ab q.Out) (i : Nat) : ∃ b, (need (bif (bLt (i : Int) (l.length : Nat)) then inb (i : Int) l.length else true) <| need (bif (bLt (i : Int) (l.length : Nat)) then ((F96 (gd l (i : Int).toNat) a).isSome) else true) <| some ((i : Int), ((bLt (i : Int) (l.length : Nat)) && (bEq (gt (F96 (gd l (i : Int).toNat) a)) 0)))) = some ((i : Int), b) ∧ (b = true ↔ i < l.length ∧ nA (gd l i).Out = nA a) := by
  by_cases h : i < l.length
  · obtain ⟨k, k1, k2⟩ := F96_ok (gd l i) a (hq _ (gd_mem h)) ha
    rw [need_true (by rw [inb_nat h]; simp), Int.toNat_natCast, k1, need_true (by simp), gt_some]
    refine ⟨_, rfl, ?_⟩
    unfold Cp at k2
    simp only [bLt_eq, bEq_eq, Bool.and_eq_true, decide_eq_true_eq]
    omega
  · have e : bLt (i : Int) (l.length : Nat) = false := by simp [bLt_eq]; omega
    rw [e]
    exact ⟨false, rfl, by simp [h]⟩
theorem F74_any (r : TRoots) (a : A6u8) (hb : Abr r) (ha : Ab a) (hs : Sm r) : ∃ (i : Nat) (b : Bool), F74 r a = some ((i : Int), b) := by
  have hq : ∀ q ∈ r.Proxies, Ab q.Out := fun q hq => by
    obtain ⟨j, hj, rfl⟩ := List.getElem_of_mem hq
    rw [gd_at hj]; exact (hb.2.2 j hj).1
  obtain ⟨i, i1, i2⟩ := bs_any (step := fun s : Int × Int => F95_0_L1 r.Proxies a s.1 s.2) (R := Int × Bool) r.Proxies (fun q => F96 q a) (by have := hs.2; omega) (fun q h => by
    obtain ⟨k, k1, _⟩ := F96_ok q a (hq q h) ha
    exact ⟨k, k1⟩) (fun _ => rfl)
  obtain ⟨b, b1, _⟩ := F95_end r.Proxies a ha hq i
  refine ⟨i, b, ?_⟩
  unfold F74 F95_0
  rw [lp_inl i2]
  simp only [eta_TProxied, eta_A6u8]
  rw [b1]; rfl
theorem F74_ok (r : TRoots) (a : A6u8) (hb : Abr r) (ha : Ab a) (hs : Sm r) (A B : List TProxied) (e : r.Proxies = A ++ B) (hA : ∀ q ∈ A, nA q.Out < nA a) (hB : ∀ q ∈ B, nA a ≤ nA q.Out) : ∃ b, F74 r a = some ((A.length : Int), b) ∧ (b = true ↔ ∃ q B', B = q :: B' ∧ nA q.Out = nA a) := by
  have hq : ∀ q ∈ r.Proxies, Ab q.Out := fun q hq => by
    obtain ⟨j, hj, rfl⟩ := List.getElem_of_mem hq
    rw [gd_at hj]; exact (hb.2.2 j hj).1
  have hl : r.Proxies.length = A.length + B.length := by rw [e, List.length_append]
  have i2 := bs_gen (step := fun s : Int × Int => F95_0_L1 r.Proxies a s.1 s.2) (R := Int × Bool) r.Proxies (fun q => F96 q a) A.length (by omega) (by have := hs.2; omega) (fun i hi => by
    obtain ⟨k, k1, k2⟩ := F96_ok (gd r.Proxies i) a (hq _ (gd_mem (by omega))) ha
    refine ⟨k, k1, ?_⟩
    rw [e, gd_app1 hi] at k2
    have := hA _ (gd_mem hi)
    unfold Cp at k2; omega) (fun i h1 h2 => by
    obtain ⟨k, k1, k2⟩ := F96_ok (gd r.Proxies i) a (hq _ (gd_mem (by omega))) ha
    refine ⟨k, k1, ?_⟩
    rw [e, gd_app2 h1] at k2
    have := hB _ (gd_mem (show i - A.length < B.length by omega))
    unfold Cp at k2; omega) (fun _ => rfl)
  obtain ⟨b, b1, b2⟩ := F95_end r.Proxies a ha hq A.length
  refine ⟨b, ?_, ?_⟩
  · unfold F74 F95_0
    rw [lp_inl i2]
    simp only [eta_TProxied, eta_A6u8]
    rw [b1]; rfl
  · rw [b2]
    refine ⟨fun h => ?_, fun h => ?_⟩
    · match B, hl, e, hB with
      | [], hl, _, _ => simp at hl; omega
      | q :: B', _, e, _ =>
        refine ⟨q, B', rfl, ?_⟩
        have := h.2
        rw [e, gd_app2 (Nat.le_refl _), Nat.sub_self] at this
        exact this
    · obtain ⟨q, B', rfl, hq'⟩ := h
      refine ⟨by rw [hl]; simp, ?_⟩
      rw [e, gd_app2 (Nat.le_refl _), Nat.sub_self]
      exact hq'
theorem Vr_sm {r : TRoots} (h : Vr r) : Sm r := ⟨by have := h.1.2.2.1; omega, by have := h.1.2.2.2; omega⟩
theorem Vr_pro {r : TRoots} (h : Vr r) : r.Proxies.Pairwise (fun a b => nA a.Out < nA b.Out) := adj_srt (fun q : TProxied => nA q.Out) r.Proxies fun i hi h0 => (h.2.2 i hi).2 h0
theorem Vr_tre {r : TRoots} (h : Vr r) : r.Trees.Pairwise (fun a b => nA a.Root < nA b.Root) := adj_srt (fun q : TTree => nA q.Root) r.Trees fun i hi h0 => (h.2.1 i hi).2 h0
def zr : TRoots := TRoots.mk (A6u8.mk 0 0 0 0 0 0) false false 0 [] []
def zA : A6u8 := A6u8.mk 0 0 0 0 0 0
/-- Learning, told by a split of the list. -/
theorem learn_ok (r : TRoots) (out via : A6u8) (now : Int) (hb : Abr r) (ho : Ab out) (hs : Sm r) : ∃ v, F29 r out via now = some v ∧ F30 r out via now = some v ∧ Sm v.1 := by
  unfold F29 F30
  rcases F34_ok r hb with ⟨hv, e⟩ | ⟨hv, e⟩ <;> rcases F35_ok r hb with ⟨hv', e'⟩ | ⟨hv', e'⟩
  · rw [e, e', Option.bind_some, Option.bind_some, bif_f (by simp [bEq]), bif_f (c := !true) rfl]
    obtain ⟨A, B, e1, hA, hB⟩ := srt_split (fun q : TProxied => nA q.Out) r.Proxies (nA out) (Vr_pro hv)
    obtain ⟨b, b1, b2⟩ := F74_ok r out hb ho hs A B e1 hA (fun q hq => by
      rcases hB with h | ⟨q', B', rfl, h1, h2⟩
      · have := h q hq; omega
      · rcases List.mem_cons.1 hq with rfl | hq
        · omega
        · have := h2 q hq; omega)
    rw [b1, Option.bind_some]
    unfold F57 F60
    rw [Option.bind_some, Option.bind_some]
    by_cases hn : 0 ≤ now ∧ now ≤ 1099511627776
    · have hn' : (bLe 0 now && bLe now 1099511627776) = true := by simp [bLe_eq]; omega
      rw [hn', bif_f (c := !true) rfl, bif_f (c := !true) rfl, F17_ok r hs, Option.bind_some]
      have hl64 := hv.1.2.2.2
      -- the reference's loop
      obtain ⟨t, ht⟩ : ∃ t, t = TProxied.mk out via (wr .i64 (now + 9000000)) := ⟨_, rfl⟩
      have hq : ∀ q ∈ r.Proxies, Ab q.Out := fun q hq => by
        obtain ⟨j, hj, rfl⟩ := List.getElem_of_mem hq
        rw [gd_at hj]; exact (hb.2.2 j hj).1
      have l := run_gen (step := fun s : Bool × Bool × Int × List TProxied => F30_L1 r out via now s.1 s.2.1 s.2.2.1 s.2.2.2) (E := Bool × Bool × List TProxied) (R := TRoots × Int) r.Proxies.length
        (fun i => (((r.Proxies.take i).foldl (wt (fun q => nA q.Out - nA out) t) ([], false)).2, (r.Proxies.take i).any (fun q => decide (nA q.Out = nA out)), (i : Int), ((r.Proxies.take i).foldl (wt (fun q => nA q.Out - nA out) t) ([], false)).1))
        ((r.Proxies.foldl (wt (fun q => nA q.Out - nA out) t) ([], false)).2, r.Proxies.any (fun q => decide (nA q.Out = nA out)), (r.Proxies.foldl (wt (fun q => nA q.Out - nA out) t) ([], false)).1)
        (fun i hi => by
          have hw := wt_len (fun q : TProxied => nA q.Out - nA out) t (r.Proxies.take i) ([], false)
          rw [List.length_take] at hw
          rw [fold_snoc _ _ _ hi, take_snoc hi, List.any_append]
          generalize (r.Proxies.take i).foldl (wt (fun q => nA q.Out - nA out) t) ([], false) = s at hw ⊢
          generalize (r.Proxies.take i).any (fun q => decide (nA q.Out = nA out)) = kn
          obtain ⟨k, k1, k2⟩ := F76_ok (gd r.Proxies i).Out out (hq _ (gd_mem hi)) ho
          obtain ⟨L, d⟩ := s
          simp only [List.length_nil] at hw
          unfold F30_L1
          simp only [Int.toNat_natCast]
          rw [bif_t (by simp [bLt_eq]; omega), need_true (inb_nat hi), k1, Option.bind_some, wr_add1 hi (by omega), need_true (capb_iff.2 (by omega)), need_true (capb_iff.2 (by omega))]
          simp only [need_true (inb_nat hi), need_true (capb_iff (by_ := 24) (n := L.length + 1)|>.2 (by omega))]
          simp only [eta_TProxied, eta_A6u8, ← ht, List.any_cons, List.any_nil, Bool.or_false]
          unfold wt
          simp only
          rcases k2 with ⟨k2, k3⟩ | ⟨k2, k3⟩ | ⟨k2, k3⟩
          · rw [show bLe 0 k = false from by simp [bLe_eq]; omega, show bEq k 0 = false from by simp [bEq_eq]; omega]
            rw [if_neg (by omega), if_neg (by omega), decide_eq_false (show ¬ nA (gd r.Proxies i).Out = nA out by omega), decide_eq_false (show ¬ 0 ≤ nA (gd r.Proxies i).Out - nA out by omega)]
            simp
          · rw [show bLe 0 k = true from by simp [bLe_eq]; omega, show bEq k 0 = true from by simp [bEq_eq]; omega]
            rw [if_pos (by omega), decide_eq_true k3, decide_eq_true (show 0 ≤ nA (gd r.Proxies i).Out - nA out by omega)]
            cases d
            · rw [if_pos ⟨by omega, rfl⟩]; simp
            · rw [if_neg (by simp)]; simp
          · rw [show bLe 0 k = true from by simp [bLe_eq]; omega, show bEq k 0 = false from by simp [bEq_eq]; omega]
            rw [if_neg (by omega), decide_eq_false (show ¬ nA (gd r.Proxies i).Out = nA out by omega), decide_eq_true (show 0 ≤ nA (gd r.Proxies i).Out - nA out by omega)]
            cases d
            · rw [if_pos ⟨by omega, rfl⟩]; simp
            · rw [if_neg (by simp)]; simp)
        (by
          unfold F30_L1
          simp only [List.take_length]
          rw [bif_f (by simp [bLt_eq])])
      have l0 : loopD (fun s : Bool × Bool × Int × List TProxied => F30_L1 r out via now s.1 s.2.1 s.2.2.1 s.2.2.2) (false, false, 0, []) = _ := l
      rw [lp_inl l0]
      have hw := wt_len (fun q : TProxied => nA q.Out - nA out) t r.Proxies ([], false)
      simp only [List.length_nil] at hw
      have hkn : r.Proxies.any (fun q => decide (nA q.Out = nA out)) = b := by
        rw [Bool.eq_iff_iff, b2, List.any_eq_true]
        refine ⟨fun ⟨q, h1, h2⟩ => ?_, fun ⟨q, B', h1, h2⟩ => ⟨q, by rw [e1, h1]; simp, by simpa using h2⟩⟩
        have h2' : nA q.Out = nA out := by simpa using h2
        rw [e1] at h1
        rcases List.mem_append.1 h1 with h1 | h1
        · have := hA q h1; omega
        · rcases hB with h | ⟨q', B', h3, h4, h5⟩
          · have := h q h1; omega
          · exact ⟨q', B', h3, h4⟩
      have key : (bif !(r.Proxies.foldl (wt (fun q => nA q.Out - nA out) t) ([], false)).2 then (need (capb 24 ((r.Proxies.foldl (wt (fun q => nA q.Out - nA out) t) ([], false)).1.length + 1)) <| bif ((!b) && (bEq (r.Proxies.length : Nat) 64)) then (some (zr, 22)) else (some (TRoots.mk r.Own r.Root r.Gate r.Seq r.Trees ((r.Proxies.foldl (wt (fun q => nA q.Out - nA out) t) ([], false)).1 ++ [t]), 0))) else (bif ((!b) && (bEq (r.Proxies.length : Nat) 64)) then (some (zr, 22)) else (some (TRoots.mk r.Own r.Root r.Gate r.Seq r.Trees ((r.Proxies.foldl (wt (fun q => nA q.Out - nA out) t) ([], false)).1), 0))) : Option (TRoots × Int)) = bif ((!b) && (bEq (r.Proxies.length : Nat) 64)) then (some (zr, 22)) else (some (TRoots.mk r.Own r.Root r.Gate r.Seq r.Trees (wl (fun q => nA q.Out - nA out) t r.Proxies), 0)) := by
        rw [need_true (capb_iff.2 (by omega))]
        unfold wl
        cases (r.Proxies.foldl (wt (fun q => nA q.Out - nA out) t) ([], false)).2 <;> rfl
      simp only [hkn, eta_A6u8, ← ht]
      have key' := key
      unfold zr at key'
      rw [key']
      by_cases hf : b = false ∧ r.Proxies.length = 64
      · rw [hf.1, hf.2, bif_t (c := (!false) && _) (by simp [bEq]), bif_t (c := (!false) && _) (by simp [bEq])]
        exact ⟨_, rfl, rfl, by simp [Sm]⟩
      · have hf' : ((!b) && (bEq (r.Proxies.length : Nat) 64)) = false := by
          cases hbb : b with
          | true => rfl
          | false =>
            have : ¬ r.Proxies.length = 64 := fun h => hf ⟨hbb, h⟩
            simp [bEq_eq]; omega
        rw [hf', F56_ok r hs, Option.bind_some]
        simp only [cond_false]
        have hlen : r.Proxies.length = A.length + B.length := by rw [e1, List.length_append]
        have hwl : (wl (fun q => nA q.Out - nA out) t r.Proxies).length ≤ 1000 := by
          have h1 : (wl (fun q : TProxied => nA q.Out - nA out) t r.Proxies).length ≤ (r.Proxies.foldl (wt (fun q => nA q.Out - nA out) t) ([], false)).1.length + 1 := by
            unfold wl
            cases (r.Proxies.foldl (wt (fun q : TProxied => nA q.Out - nA out) t) ([], false)).2 <;> simp
          omega
        refine ⟨_, ?_, rfl, ⟨hs.1, hwl⟩⟩
        rcases hB with h | ⟨q', B', rfl, h1, h2⟩
        · have hbf : b = false := by
            cases hbb : b with
            | false => rfl
            | true =>
              obtain ⟨q, B', h3, h4⟩ := b2.1 hbb
              have := h q (by rw [h3]; simp); omega
          rw [hbf, cond_false, need_true (insb_iff.2 (by omega)), Option.bind_some, Option.bind_some]
          rw [e1, wl_new _ t A B (fun q hq => by have := hA q hq; omega) (fun q hq => by have := h q hq; omega)]
          have hi : insL (A ++ B) (A.length : Int) [t] = A ++ t :: B := by
            unfold insL
            rw [Int.toNat_natCast, List.take_left, List.drop_left]; simp
          rw [hi]
        · have hbt : b = true := b2.2 ⟨q', B', rfl, h1⟩
          rw [hbt, cond_true, need_true (inb_nat (by rw [hlen]; simp)), Int.toNat_natCast]
          rw [e1, wl_old _ t A B' q' (fun q hq => by have := hA q hq; omega) (by omega) (fun q hq => by have := h2 q hq; omega)]
          have hi : (A ++ q' :: B').set A.length t = A ++ t :: B' := by simp
          rw [hi]
    · have hn' : (bLe 0 now && bLe now 1099511627776) = false := by simp [bLe_eq]; omega
      rw [hn', bif_t (c := !false) rfl, bif_t (c := !false) rfl]
      exact ⟨_, rfl, rfl, by simp [Sm]⟩
  · exact absurd hv hv'
  · exact absurd hv' hv
  · rw [e, e', Option.bind_some, Option.bind_some, bif_t (by simp [bEq]), bif_t (c := !false) rfl]
    exact ⟨_, rfl, rfl, by simp [Sm]⟩
/-- Looking up. -/
theorem lookup_ok (r : TRoots) (out : A6u8) (hb : Abr r) (ho : Ab out) (hs : Sm r) : ∃ v, F31 r out = some v ∧ F32 r out = some v := by
  unfold F31 F32
  rcases F34_ok r hb with ⟨hv, e⟩ | ⟨hv, e⟩ <;> rcases F35_ok r hb with ⟨hv', e'⟩ | ⟨hv', e'⟩
  · obtain ⟨A, B, e1, hA, hB⟩ := srt_split (fun q : TProxied => nA q.Out) r.Proxies (nA out) (Vr_pro hv)
    obtain ⟨b, b1, b2⟩ := F74_ok r out hb ho hs A B e1 hA (fun q hq => by
      rcases hB with h | ⟨q', B', rfl, h1, h2⟩
      · have := h q hq; omega
      · rcases List.mem_cons.1 hq with rfl | hq
        · omega
        · have := h2 q hq; omega)
    rw [b1, e, e', Option.bind_some, Option.bind_some, Option.bind_some, bif_f (c := !true) rfl]
    have hlen : r.Proxies.length = A.length + B.length := by rw [e1, List.length_append]
    have hl := hs.2
    rcases first_gen (step := fun s => F32_L1 r out s) (E := Unit) (R := A6u8 × Bool) r.Proxies.length (fun i => (gd r.Proxies i).Out = out) (fun i => ((gd r.Proxies i).Via, true)) () (fun i hi _ => by
        unfold F32_L1
        rw [bif_t (by simp [bLt_eq]; omega), need_true (inb_nat hi), Int.toNat_natCast]
        simp only [ae_def]
        by_cases h : (gd r.Proxies i).Out = out
        · rw [ae_iff.2 h, cond_true, need_true (inb_nat hi)]; exact .inr ⟨h, rfl⟩
        · rw [ae_no.2 h, cond_false, wr_add1 hi (by omega)]; exact .inl ⟨h, rfl⟩)
      (by unfold F32_L1; rw [bif_f (by simp [bLt_eq])]) with ⟨h, l⟩ | ⟨i, h1, h2, _, l⟩
    · rw [lp_inl l]
      have hbf : b = false := by
        cases hbb : b with
        | false => rfl
        | true =>
          obtain ⟨q, B', h3, h4⟩ := b2.1 hbb
          have h5 : A.length < r.Proxies.length := by rw [hlen, h3]; simp
          have h6 : gd r.Proxies A.length = q := by rw [e1, gd_app2 (Nat.le_refl _), Nat.sub_self, h3]; rfl
          refine absurd (nA_inj (hb.2.2 _ h5).1 ho ?_) (h _ h5)
          rw [h6]; exact h4
      rw [hbf, bif_t (by simp)]
      exact ⟨_, rfl, rfl⟩
    · rw [lp_inr l]
      have hi : i = A.length ∧ b = true := by
        rcases Nat.lt_trichotomy i A.length with h3 | h3 | h3
        · have := hA _ (gd_mem h3)
          rw [← gd_app1 (B := B) h3, ← e1, h2] at this
          omega
        · refine ⟨h3, b2.2 ?_⟩
          match B, hlen, e1 with
          | [], hlen, _ => simp at hlen; omega
          | q :: B', _, e1 =>
            refine ⟨q, B', rfl, ?_⟩
            have : gd r.Proxies i = q := by rw [h3, e1, gd_app2 (Nat.le_refl _), Nat.sub_self]; rfl
            rw [← this, h2]
        · have h4 : gd r.Proxies i = gd B (i - A.length) := by rw [e1, gd_app2 (by omega)]
          rcases hB with h | ⟨q', B', rfl, h5, h6⟩
          · have := h _ (gd_mem (show i - A.length < B.length by omega))
            rw [← h4, h2] at this; omega
          · have h7 : gd (q' :: B') (i - A.length) = gd B' (i - A.length - 1) := by
              obtain ⟨j, hj⟩ : ∃ j, i - A.length = j + 1 := ⟨i - A.length - 1, by omega⟩
              rw [hj]; simp [gd, List.getD_eq_getElem?_getD]
            have := h6 _ (gd_mem (show i - A.length - 1 < B'.length by simp at hlen; omega))
            rw [← h7, ← h4, h2] at this; omega
      rw [hi.2, ← hi.1, bif_f (by simp [bEq]), need_true (inb_nat h1), Int.toNat_natCast]
      exact ⟨_, rfl, rfl⟩
  · exact absurd hv hv'
  · exact absurd hv' hv
  · obtain ⟨i, b, b1⟩ := F74_any r out hb ho hs
    rw [b1, e, e', Option.bind_some, Option.bind_some, Option.bind_some, bif_t (by simp [bEq]), bif_t (c := !false) rfl]
    exact ⟨_, rfl, rfl⟩
end Go.Proofs.Ytdcepineppafpaa
