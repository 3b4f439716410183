/-
  Root: what learning, looking up and growing old do.
-/
import Derived.Test.YtdcepineppafpaaU4
namespace Go.Proofs.Ytdcepineppafpaa
open Go.Am
set_option linter.unusedVariables false
set_option linter.unusedSimpArgs false
theorem bEqr (x : Int) : bEq x x = true := by simp [bEq]
theorem bBr (x : Bool) : bB x x = true := by simp [bB_eq]
def Sm (r : TRoots) : Prop := r.Trees.length ≤ 1000 ∧ r.Proxies.length ≤ 1000
theorem F56_ok (r : TRoots) (h : Sm r) : F56 r = some r := by
  unfold F56 F66 F86
  rw [need_true (capb_iff.2 (by have := h.1; omega)), need_true (capb_iff.2 (by have := h.2; omega))]
  rfl
theorem F24_ok (r : TRoots) (h : Sm r) : F24 r r = some true := by
  have l1 := run_gen (step := fun s => F24_L1 r r s) (E := Unit) (R := Bool) r.Trees.length (fun i => (i : Int)) () (fun i hi => by
    unfold F24_L1
    have := h.1
    rw [bif_t (by simp [bLt_eq]; omega), need_true (inb_nat hi), need_true (inb_nat hi), wr_add1 hi (by omega)]
    simp only [bEqr, bBr, Bool.and_self, Bool.not_true, cond_false]) (by unfold F24_L1; rw [bif_f (by simp [bLt_eq])])
  have l2 := run_gen (step := fun s => F24_L2 r r s) (E := Unit) (R := Bool) r.Proxies.length (fun i => (i : Int)) () (fun i hi => by
    unfold F24_L2
    have := h.2
    rw [bif_t (by simp [bLt_eq]; omega), need_true (inb_nat hi), need_true (inb_nat hi), wr_add1 hi (by omega)]
    simp only [bEqr, bBr, Bool.and_self, Bool.not_true, cond_false]) (by unfold F24_L2; rw [bif_f (by simp [bLt_eq])])
  have m1 : loopD (fun s => F24_L1 r r s) 0 = some (Sum.inl ()) := l1
  have m2 : loopD (fun s => F24_L2 r r s) 0 = some (Sum.inl ()) := l2
  unfold F24
  rw [bif_f (by simp [bEqr, bBr]), lp_inl m1, lp_inl m2]
theorem F96_ok (q : TProxied) (a : A6u8) (hq : Ab q.Out) (ha : Ab a) : ∃ k, F96 q a = some k ∧ Cp k (nA q.Out) (nA a) := by
  obtain ⟨k, k1, k2⟩ := F72_ok q.Out a hq ha
  unfold F96
  rw [k1]
  exact ⟨k, rfl, k2⟩
theorem F95_end (l : List TProxied) (a : A6u8) (ha : Ab a) (hq : ∀ q ∈ l, Ab q.Out) (i : Nat) : ∃ b, (need (bif (bLt (i : Int) (l.length : Nat)) then inb (i : Int) l.length else true) <| need (bif (bLt (i : Int) (l.length : Nat)) then ((F96 (gd l (i : Int).toNat) a).isSome) else true) <| some ((i : Int), ((bLt (i : Int) (l.length : Nat)) && (bEq (gt (F96 (gd l (i : Int).toNat) a)) 0)))) = some ((i : Int), b) ∧ (b = true ↔ i < l.length ∧ nA (gd l i).Out = nA a) := by
  by_cases h : i < l.length
  · obtain ⟨k, k1, k2⟩ := F96_ok (gd l i) a (hq _ (gd_mem h)) ha
    rw [need_true (by rw [inb_nat h]; simp), Int.toNat_natCast, k1, need_true (by simp), gt_some]
    refine ⟨_, rfl, ?_⟩
    unfold Cp at k2
    simp only [bLt_eq, bEq_eq, Bool.and_eq_true, decide_eq_true_eq]
    omega
  · have e : bLt (i : Int) (l.length : Nat) = false := by simp [bLt_eq]; omega
    rw [e]
    exact ⟨false, rfl, by simp [h]⟩
theorem F74_ok (r : TRoots) (a : A6u8) (hb : Abr r) (ha : Ab a) (hs : Sm r) (A B : List TProxied) (e : r.Proxies = A ++ B) (hA : ∀ q ∈ A, nA q.Out < nA a) (hB : ∀ q ∈ B, nA a ≤ nA q.Out) : ∃ b, F74 r a = some ((A.length : Int), b) ∧ (b = true ↔ ∃ q B', B = q :: B' ∧ nA q.Out = nA a) := by
  have hq : ∀ q ∈ r.Proxies, Ab q.Out := fun q hq => by
    obtain ⟨j, hj, rfl⟩ := List.getElem_of_mem hq
    rw [gd_at hj]; exact (hb.2.2 j hj).1
  have hl : r.Proxies.length = A.length + B.length := by rw [e, List.length_append]
  have i2 := bs_gen (step := fun s : Int × Int => F95_0_L1 r.Proxies a s.1 s.2) (R := Int × Bool) r.Proxies (fun q => F96 q a) A.length (by omega) (by have := hs.2; omega) (fun i hi => by
    obtain ⟨k, k1, k2⟩ := F96_ok (gd r.Proxies i) a (hq _ (gd_mem (by omega))) ha
    refine ⟨k, k1, ?_⟩
    rw [e, gd_app1 hi] at k2
    have := hA _ (gd_mem hi)
    unfold Cp at k2; omega) (fun i h1 h2 => by
    obtain ⟨k, k1, k2⟩ := F96_ok (gd r.Proxies i) a (hq _ (gd_mem (by omega))) ha
    refine ⟨k, k1, ?_⟩
    rw [e, gd_app2 h1] at k2
    have := hB _ (gd_mem (show i - A.length < B.length by omega))
    unfold Cp at k2; omega) (fun _ => rfl)
  obtain ⟨b, b1, b2⟩ := F95_end r.Proxies a ha hq A.length
  refine ⟨b, ?_, ?_⟩
  · unfold F74 F95_0
    rw [lp_inl i2]
    simp only [eta_TProxied, eta_A6u8]
    rw [b1]; rfl
  · rw [b2]
    refine ⟨fun h => ?_, fun h => ?_⟩
    · match B, hl, e, hB with
      | [], hl, _, _ => simp at hl; omega
      | q :: B', _, e, _ =>
        refine ⟨q, B', rfl, ?_⟩
        have := h.2
        rw [e, gd_app2 (Nat.le_refl _), Nat.sub_self] at this
        exact this
    · obtain ⟨q, B', rfl, hq'⟩ := h
      refine ⟨by rw [hl]; simp, ?_⟩
      rw [e, gd_app2 (Nat.le_refl _), Nat.sub_self]
      exact hq'
theorem Vr_sm {r : TRoots} (h : Vr r) : Sm r := ⟨by have := h.1.2.2.1; omega, by have := h.1.2.2.2; omega⟩
theorem Vr_pro {r : TRoots} (h : Vr r) : r.Proxies.Pairwise (fun a b => nA a.Out < nA b.Out) := adj_srt (fun q : TProxied => nA q.Out) r.Proxies fun i hi h0 => (h.2.2 i hi).2 h0
theorem Vr_tre {r : TRoots} (h : Vr r) : r.Trees.Pairwise (fun a b => nA a.Root < nA b.Root) := adj_srt (fun q : TTree => nA q.Root) r.Trees fun i hi h0 => (h.2.1 i hi).2 h0
def zr : TRoots := TRoots.mk (A6u8.mk 0 0 0 0 0 0) false false 0 [] []
def zA : A6u8 := A6u8.mk 0 0 0 0 0 0
theorem A_mem {r : TRoots} (hb : Abr r) : ∀ q ∈ r.Proxies, Ab q.Out := fun q hq => by
  obtain ⟨j, hj, rfl⟩ := List.getElem_of_mem hq
  rw [gd_at hj]; exact (hb.2.2 j hj).1
/-- Validity, told by elements. -/
theorem Vr_iff (r : TRoots) : Vr r ↔ Vh r ∧ (∀ t ∈ r.Trees, Vt r.Own t) ∧ r.Trees.Pairwise (fun a b => nA a.Root < nA b.Root) ∧ (∀ q ∈ r.Proxies, 0 ≤ q.Until ∧ q.Until ≤ 1099520627776) ∧ r.Proxies.Pairwise (fun a b => nA a.Out < nA b.Out) := by
  refine ⟨fun h => ⟨h.1, fun t ht => ?_, Vr_tre h, fun q hq => ?_, Vr_pro h⟩, fun ⟨h1, h2, h3, h4, h5⟩ => ⟨h1, fun i hi => ⟨h2 _ (gd_mem hi), fun h0 => ?_⟩, fun i hi => ⟨h4 _ (gd_mem hi), fun h0 => ?_⟩⟩⟩
  · obtain ⟨j, hj, rfl⟩ := List.getElem_of_mem ht
    rw [gd_at hj]; exact (h.2.1 j hj).1
  · obtain ⟨j, hj, rfl⟩ := List.getElem_of_mem hq
    rw [gd_at hj]; exact (h.2.2 j hj).1
  · have := List.pairwise_iff_getElem.1 h3 (i - 1) i (by omega) hi (by omega)
    rwa [gd_at, gd_at] at this
  · have := List.pairwise_iff_getElem.1 h5 (i - 1) i (by omega) hi (by omega)
    rwa [gd_at, gd_at] at this
theorem lookup_sem (r : TRoots) (a : A6u8) (hb : Abr r) (ha : Ab a) (hv : Vr r) : (∃ q ∈ r.Proxies, q.Out = a ∧ F31 r a = some (q.Via, true)) ∨ ((∀ q ∈ r.Proxies, q.Out ≠ a) ∧ F31 r a = some (zA, false)) := by
  have hs := Vr_sm hv
  obtain ⟨A, B, e1, hA, hB⟩ := srt_split (fun q : TProxied => nA q.Out) r.Proxies (nA a) (Vr_pro hv)
  obtain ⟨b, b1, b2⟩ := F74_ok r a hb ha hs A B e1 hA (fun q hq => by
    rcases hB with h | ⟨q', B', rfl, h1, h2⟩
    · have := h q hq; omega
    · rcases List.mem_cons.1 hq with rfl | hq
      · omega
      · have := h2 q hq; omega)
  have e : F34 r = some 0 := by
    rcases F34_ok r hb with ⟨_, e⟩ | ⟨h, _⟩
    · exact e
    · exact absurd hv h
  have hlen : r.Proxies.length = A.length + B.length := by rw [e1, List.length_append]
  unfold F31
  rw [b1, e, Option.bind_some, Option.bind_some]
  rcases hB with h | ⟨q', B', rfl, h1, h2⟩
  · have hbf : b = false := by
      cases hbb : b with
      | false => rfl
      | true =>
        obtain ⟨q, B', h3, h4⟩ := b2.1 hbb
        have := h q (by rw [h3]; simp); omega
    refine .inr ⟨fun q hq he => ?_, by rw [hbf, bif_t (by simp)]; rfl⟩
    rw [e1] at hq
    rcases List.mem_append.1 hq with hq | hq
    · have := hA q hq; rw [he] at this; omega
    · have := h q hq; rw [he] at this; omega
  · have hbt : b = true := b2.2 ⟨q', B', rfl, h1⟩
    have hg : gd r.Proxies A.length = q' := by rw [e1, gd_app2 (Nat.le_refl _), Nat.sub_self]; rfl
    have hm : q' ∈ r.Proxies := by rw [e1]; simp
    refine .inl ⟨q', hm, nA_inj (A_mem hb q' hm) ha h1, ?_⟩
    rw [hbt, bif_f (by simp [bEq]), need_true (inb_nat (by rw [hlen]; simp)), Int.toNat_natCast, hg]
/-- One address has one entry. -/
theorem uni {r : TRoots} (hv : Vr r) {p q : TProxied} (hp : p ∈ r.Proxies) (hq : q ∈ r.Proxies) (h : p.Out = q.Out) : p = q := by
  obtain ⟨i, hi, rfl⟩ := List.getElem_of_mem hp
  obtain ⟨j, hj, rfl⟩ := List.getElem_of_mem hq
  rcases Nat.lt_trichotomy i j with h1 | rfl | h1
  · have := List.pairwise_iff_getElem.1 (Vr_pro hv) i j hi hj h1; rw [h] at this; omega
  · rfl
  · have := List.pairwise_iff_getElem.1 (Vr_pro hv) j i hj hi h1; rw [h] at this; omega
theorem Abr_iff {r : TRoots} : Abr r ↔ Ab r.Own ∧ (∀ t ∈ r.Trees, Ab t.Root ∧ Ab t.Parent) ∧ ∀ q ∈ r.Proxies, Ab q.Out ∧ Ab q.Via := by
  refine ⟨fun h => ⟨h.1, fun t ht => ?_, fun q hq => ?_⟩, fun h => ⟨h.1, fun i hi => h.2.1 _ (gd_mem hi), fun i hi => h.2.2 _ (gd_mem hi)⟩⟩
  · obtain ⟨j, hj, rfl⟩ := List.getElem_of_mem ht
    rw [gd_at hj]; exact h.2.1 j hj
  · obtain ⟨j, hj, rfl⟩ := List.getElem_of_mem hq
    rw [gd_at hj]; exact h.2.2 j hj
/-- Learning. -/
theorem learn_sem (r : TRoots) (out via : A6u8) (now : Int) (hb : Abr r) (ho : Ab out) (hvi : Ab via) (hs : Sm r) : ∃ v, F29 r out via now = some v ∧ ((v.2 ≠ 0 ∧ v.1 = zr) ∨ (v.2 = 0 ∧ Vr r ∧ (0 ≤ now ∧ now ≤ 1099511627776) ∧ Vr v.1 ∧ Abr v.1 ∧ ∀ q, q ∈ v.1.Proxies ↔ q = TProxied.mk out via (now + 9000000) ∨ (q ∈ r.Proxies ∧ q.Out ≠ out))) := by
  unfold F29
  rcases F34_ok r hb with ⟨hv, e⟩ | ⟨hv, e⟩
  · rw [e, Option.bind_some, bif_f (by simp [bEq])]
    obtain ⟨A, B, e1, hA, hB⟩ := srt_split (fun q : TProxied => nA q.Out) r.Proxies (nA out) (Vr_pro hv)
    obtain ⟨b, b1, b2⟩ := F74_ok r out hb ho hs A B e1 hA (fun q hq => by
      rcases hB with h | ⟨q', B', rfl, h1, h2⟩
      · have := h q hq; omega
      · rcases List.mem_cons.1 hq with rfl | hq
        · omega
        · have := h2 q hq; omega)
    rw [b1, Option.bind_some]
    unfold F57
    rw [Option.bind_some]
    by_cases hn : 0 ≤ now ∧ now ≤ 1099511627776
    · have hn' : (bLe 0 now && bLe now 1099511627776) = true := by simp [bLe_eq]; omega
      rw [hn', bif_f (c := !true) rfl, F56_ok r hs, Option.bind_some, wr_in (x := now + 9000000) (by omega)]
      simp only [eta_A6u8, eta_TProxied]
      have hlen : r.Proxies.length = A.length + B.length := by rw [e1, List.length_append]
      obtain ⟨g1, g2, g3, g4, g5⟩ := (Vr_iff r).1 hv
      obtain ⟨a1, a2, a3⟩ := Abr_iff.1 hb
      generalize ht : TProxied.mk out via (now + 9000000) = t
      have hto : t.Out = out := by rw [← ht]
      have htv : t.Via = via := by rw [← ht]
      have htu : t.Until = now + 9000000 := by rw [← ht]
      rw [e1] at g5
      -- the list that comes out is valid
      have good : ∀ B' : List TProxied, A.length + B'.length + 1 ≤ 64 → (∀ q ∈ B', q ∈ r.Proxies ∧ nA out < nA q.Out) → B'.Pairwise (fun a b => nA a.Out < nA b.Out) → Vr (TRoots.mk r.Own r.Root r.Gate r.Seq r.Trees (A ++ t :: B')) ∧ Abr (TRoots.mk r.Own r.Root r.Gate r.Seq r.Trees (A ++ t :: B')) := by
        intro B' hl hB' hp
        have hin : ∀ q ∈ A ++ t :: B', q = t ∨ q ∈ r.Proxies := fun q hq => by
          rcases List.mem_append.1 hq with hq | hq
          · exact .inr (by rw [e1]; exact List.mem_append_left _ hq)
          · rcases List.mem_cons.1 hq with rfl | hq
            · exact .inl rfl
            · exact .inr (hB' q hq).1
        refine ⟨(Vr_iff _).2 ⟨⟨g1.1, g1.2.1, g1.2.2.1, by simp only [List.length_append, List.length_cons]; omega⟩, g2, g3, fun q hq => ?_, ?_⟩, Abr_iff.2 ⟨a1, a2, fun q hq => ?_⟩⟩
        · rcases hin q hq with rfl | hq
          · omega
          · exact g4 q hq
        · refine List.pairwise_append.2 ⟨(List.pairwise_append.1 g5).1, List.pairwise_cons.2 ⟨fun q hq => ?_, hp⟩, fun p hp q hq => ?_⟩
          · rw [hto]; exact (hB' q hq).2
          · have := hA p hp
            rcases List.mem_cons.1 hq with rfl | hq
            · rw [hto]; exact this
            · have := (hB' q hq).2; omega
        · rcases hin q hq with rfl | hq
          · rw [hto, htv]; exact ⟨ho, hvi⟩
          · exact a3 q hq
      rcases hB with h | ⟨q', B', rfl, h1, h2⟩
      · have hbf : b = false := by
          cases hbb : b with
          | false => rfl
          | true =>
            obtain ⟨q, B', h3, h4⟩ := b2.1 hbb
            have := h q (by rw [h3]; simp); omega
        by_cases hf : r.Proxies.length = 64
        · rw [hbf, hf, bif_t (by simp [bEq])]
          exact ⟨_, rfl, .inl ⟨by decide, rfl⟩⟩
        · have h64 := g1.2.2.2
          rw [hbf, bif_f (by simp [bEq_eq]; omega), cond_false, need_true (insb_iff.2 (by omega)), Option.bind_some, Option.bind_some]
          have hi : insL r.Proxies (A.length : Int) [t] = A ++ t :: B := by
            unfold insL
            rw [e1, Int.toNat_natCast, List.take_left, List.drop_left]; simp
          rw [hi]
          obtain ⟨q1, q2⟩ := good B (by omega) (fun q hq => ⟨by rw [e1]; exact List.mem_append_right _ hq, h q hq⟩) (List.pairwise_append.1 g5).2.1
          refine ⟨_, rfl, .inr ⟨rfl, hv, hn, q1, q2, fun q => ?_⟩⟩
          simp only [List.mem_append, List.mem_cons]
          rw [e1, List.mem_append]
          refine ⟨fun hq => ?_, fun hq => ?_⟩
          · rcases hq with hq | rfl | hq
            · exact .inr ⟨.inl hq, fun he => by have := hA q hq; rw [he] at this; omega⟩
            · exact .inl rfl
            · exact .inr ⟨.inr hq, fun he => by have := h q hq; rw [he] at this; omega⟩
          · rcases hq with rfl | ⟨hq | hq, _⟩
            · exact .inr (.inl rfl)
            · exact .inl hq
            · exact .inr (.inr hq)
      · have hbt : b = true := b2.2 ⟨q', B', rfl, h1⟩
        rw [hbt, bif_f (c := (!true) && _) rfl, cond_true, need_true (inb_nat (by rw [hlen]; simp)), Int.toNat_natCast]
        have hi : r.Proxies.set A.length t = A ++ t :: B' := by rw [e1]; simp
        rw [hi]
        have h64 := g1.2.2.2
        have pB := List.pairwise_cons.1 (List.pairwise_append.1 g5).2.1
        obtain ⟨q1, q2⟩ := good B' (by simp at hlen; omega) (fun q hq => ⟨by rw [e1]; exact List.mem_append_right _ (List.mem_cons_of_mem _ hq), h2 q hq⟩) pB.2
        refine ⟨_, rfl, .inr ⟨rfl, hv, hn, q1, q2, fun q => ?_⟩⟩
        simp only [List.mem_append, List.mem_cons]
        rw [e1, List.mem_append, List.mem_cons]
        have hm : q' ∈ r.Proxies := by rw [e1]; simp
        have ho' : q'.Out = out := nA_inj (A_mem hb q' hm) ho h1
        refine ⟨fun hq => ?_, fun hq => ?_⟩
        · rcases hq with hq | rfl | hq
          · exact .inr ⟨.inl hq, fun he => by have := hA q hq; rw [he] at this; omega⟩
          · exact .inl rfl
          · exact .inr ⟨.inr (.inr hq), fun he => by have := h2 q hq; rw [he] at this; omega⟩
        · rcases hq with rfl | ⟨hq | rfl | hq, hne⟩
          · exact .inr (.inl rfl)
          · exact .inl hq
          · exact absurd ho' hne
          · exact .inr (.inr hq)
    · have hn' : (bLe 0 now && bLe now 1099511627776) = false := by simp [bLe_eq]; omega
      rw [hn', bif_t (c := !false) rfl]
      exact ⟨_, rfl, .inl ⟨by decide, rfl⟩⟩
  · rw [e, Option.bind_some, bif_t (by simp [bEq])]
    exact ⟨_, rfl, .inl ⟨by decide, rfl⟩⟩
def oldT (now : Int) (q : TTree) : Bool := bLe q.Until now
def oldP (now : Int) (q : TProxied) : Bool := bLe q.Until now
theorem lost_len (l : List TTree) (now : Int) (i : Nat) (hl : l.length ≤ 1000) : (((l.take i).filter (oldT now)).map TTree.Root).length ≤ 1000 := by
  rw [List.length_map]
  have h1 := List.length_filter_le (oldT now) (l.take i)
  have h2 := List.length_take_le i l
  have h3 : (l.take i).length ≤ l.length := by rw [List.length_take]; omega
  omega
theorem fil_len {α : Type} (l : List α) (p : α → Bool) (i : Nat) (hl : l.length ≤ 1000) : ((l.take i).filter p).length ≤ 1000 := by
  have h1 := List.length_filter_le p (l.take i)
  have h3 : (l.take i).length ≤ l.length := by rw [List.length_take]; omega
  omega
/-- Growing old. -/
theorem tick_sem (r : TRoots) (now : Int) (hb : Abr r) (hv : Vr r) (hn : 0 ≤ now ∧ now ≤ 1099511627776) : ∃ L : List A6u8, F22 r now = some (TRoots.mk r.Own r.Root r.Gate r.Seq (r.Trees.filter fun q => !(oldT now q)) (r.Proxies.filter fun q => !(oldP now q)), L, 0) ∧ Vr (TRoots.mk r.Own r.Root r.Gate r.Seq (r.Trees.filter fun q => !(oldT now q)) (r.Proxies.filter fun q => !(oldP now q))) ∧ Abr (TRoots.mk r.Own r.Root r.Gate r.Seq (r.Trees.filter fun q => !(oldT now q)) (r.Proxies.filter fun q => !(oldP now q))) := by
  have hs := Vr_sm hv
  have e : F34 r = some 0 := by
    rcases F34_ok r hb with ⟨_, e⟩ | ⟨h, _⟩
    · exact e
    · exact absurd hv h
  obtain ⟨g1, g2, g3, g4, g5⟩ := (Vr_iff r).1 hv
  obtain ⟨a1, a2, a3⟩ := Abr_iff.1 hb
  unfold F22
  rw [e, Option.bind_some, bif_f (by simp [bEq])]
  unfold F57
  rw [Option.bind_some, show (bLe 0 now && bLe now 1099511627776) = true from by simp [bLe_eq]; omega, bif_f (c := !true) rfl, F56_ok r hs, Option.bind_some]
  have h1 := hs.1
  have h2 := hs.2
  have lo := run_gen (step := fun s : List A6u8 × Int => F22_L1 now r s.1 s.2) (E := List A6u8) (R := TRoots × List A6u8 × Int) r.Trees.length (fun i => (((r.Trees.take i).filter (oldT now)).map TTree.Root, (i : Int))) ((r.Trees.filter (oldT now)).map TTree.Root)
    (fun i hi => by
      have hw := lost_len r.Trees now i h1
      rw [take_fil _ _ hi]
      generalize (r.Trees.take i).filter (oldT now) = L at hw ⊢
      unfold F22_L1
      simp only [Int.toNat_natCast]
      rw [bif_t (c := bLt _ (r.Trees.length : Int)) (by simp [bLt_eq]; omega), need_true (inb_nat hi), wr_add1 hi (by omega), need_true (capb_iff.2 (by omega))]
      unfold oldT
      cases bLe (gd r.Trees i).Until now
      · rfl
      · rw [cond_true, cond_true, List.map_append]; rfl)
    (by
      unfold F22_L1
      simp only [List.take_length]
      rw [bif_f (by simp [bLt_eq])])
  have lo' : loopD (fun s : List A6u8 × Int => F22_L1 now r s.1 s.2) ([], 0) = _ := lo
  have hd1 : F62_1 r.Trees now = some (r.Trees.filter fun q => !(oldT now q)) := by
    unfold F62_1 F91_1
    exact del_gen r.Trees (oldT now) (fun q => F63_0 q now) (by omega) (fun q _ => rfl) (fun _ => rfl) (fun _ => rfl)
  have hd2 : F64_0 r.Proxies now = some (r.Proxies.filter fun q => !(oldP now q)) := by
    unfold F64_0 F92_0
    exact del_gen r.Proxies (oldP now) (fun q => F65_0 q now) (by omega) (fun q _ => rfl) (fun _ => rfl) (fun _ => rfl)
  rw [lp_inl lo', hd1, Option.bind_some, hd2, Option.bind_some]
  refine ⟨_, rfl, (Vr_iff _).2 ⟨⟨g1.1, g1.2.1, ?_, ?_⟩, fun t ht => g2 t (List.mem_filter.1 ht).1, g3.filter _, fun q hq => g4 q (List.mem_filter.1 hq).1, g5.filter _⟩, Abr_iff.2 ⟨a1, fun t ht => a2 t (List.mem_filter.1 ht).1, fun q hq => a3 q (List.mem_filter.1 hq).1⟩⟩
  · have := List.length_filter_le (fun q => !(oldT now q)) r.Trees
    have := g1.2.2.1
    simp only; omega
  · have := List.length_filter_le (fun q => !(oldP now q)) r.Proxies
    have := g1.2.2.2
    simp only; omega
end Go.Proofs.Ytdcepineppafpaa
