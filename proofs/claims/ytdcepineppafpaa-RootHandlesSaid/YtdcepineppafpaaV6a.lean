/-
  Root: copies, equal states, places of trees.
-/
import Derived.Test.YtdcepineppafpaaV5
namespace Go.Proofs.Ytdcepineppafpaa
open Go.Am
set_option linter.unusedVariables false
set_option linter.unusedSimpArgs false
theorem bEqr (x : Int) : bEq x x = true := by simp [bEq]
theorem bBr (x : Bool) : bB x x = true := by simp [bB_eq]
def Sm (r : TRoots) : Prop := r.Trees.length ≤ 1000 ∧ r.Proxies.length ≤ 1000
theorem F17_ok (r : TRoots) (h : Sm r) : F17 r = some r := by
  unfold F17
  rw [need_true (capb_iff.2 (by have := h.1; omega)), need_true (capb_iff.2 (by have := h.2; omega))]
  rfl
theorem F56_ok (r : TRoots) (h : Sm r) : F56 r = some r := by
  unfold F56 F66 F86
  rw [need_true (capb_iff.2 (by have := h.1; omega)), need_true (capb_iff.2 (by have := h.2; omega))]
  rfl
theorem F24_ok (r : TRoots) (h : Sm r) : F24 r r = some true := by
  have l1 := run_gen (step := fun s => F24_L1 r r s) (E := Unit) (R := Bool) r.Trees.length (fun i => (i : Int)) () (fun i hi => by
    unfold F24_L1
    have := h.1
    rw [bif_t (by simp [bLt_eq]; omega), need_true (inb_nat hi), need_true (inb_nat hi), wr_add1 hi (by omega)]
    simp only [bEqr, bBr, Bool.and_self, Bool.not_true, cond_false]) (by unfold F24_L1; rw [bif_f (by simp [bLt_eq])])
  have l2 := run_gen (step := fun s => F24_L2 r r s) (E := Unit) (R := Bool) r.Proxies.length (fun i => (i : Int)) () (fun i hi => by
    unfold F24_L2
    have := h.2
    rw [bif_t (by simp [bLt_eq]; omega), need_true (inb_nat hi), need_true (inb_nat hi), wr_add1 hi (by omega)]
    simp only [bEqr, bBr, Bool.and_self, Bool.not_true, cond_false]) (by unfold F24_L2; rw [bif_f (by simp [bLt_eq])])
  have m1 : loopD (fun s => F24_L1 r r s) 0 = some (Sum.inl ()) := l1
  have m2 : loopD (fun s => F24_L2 r r s) 0 = some (Sum.inl ()) := l2
  unfold F24
  rw [bif_f (by simp [bEqr, bBr]), lp_inl m1, lp_inl m2]
theorem F88_ok (q : TTree) (a : A6u8) (hq : Ab q.Root) (ha : Ab a) : ∃ k, F88 q a = some k ∧ Cp k (nA q.Root) (nA a) := by
  obtain ⟨k, k1, k2⟩ := F72_ok q.Root a hq ha
  unfold F88
  rw [k1]
  exact ⟨k, rfl, k2⟩
theorem F87_end (l : List TTree) (a : A6u8) (ha : Ab a) (hq : ∀ q ∈ l, Ab q.Root) (i : Nat) : ∃ b, (need (bif (bLt (i : Int) (l.length : Nat)) then inb (i : Int) l.length else true) <| need (bif (bLt (i : Int) (l.length : Nat)) then ((F88 (gd l (i : Int).toNat) a).isSome) else true) <| some ((i : Int), ((bLt (i : Int) (l.length : Nat)) && (bEq (gt (F88 (gd l (i : Int).toNat) a)) 0)))) = some ((i : Int), b) ∧ (b = true ↔ i < l.length ∧ nA (gd l i).Root = nA a) := by
  by_cases h : i < l.length
  · obtain ⟨k, k1, k2⟩ := F88_ok (gd l i) a (hq _ (gd_mem h)) ha
    rw [need_true (by rw [inb_nat h]; simp), Int.toNat_natCast, k1, need_true (by simp), gt_some]
    refine ⟨_, rfl, ?_⟩
    unfold Cp at k2
    simp only [bLt_eq, bEq_eq, Bool.and_eq_true, decide_eq_true_eq]
    omega
  · have e : bLt (i : Int) (l.length : Nat) = false := by simp [bLt_eq]; omega
    rw [e]
    exact ⟨false, rfl, by simp [h]⟩
theorem F58_ok (r : TRoots) (a : A6u8) (hb : Abr r) (ha : Ab a) (hs : Sm r) (A B : List TTree) (e : r.Trees = A ++ B) (hA : ∀ q ∈ A, nA q.Root < nA a) (hB : ∀ q ∈ B, nA a ≤ nA q.Root) : ∃ b, F58 r a = some ((A.length : Int), b) ∧ (b = true ↔ ∃ q B', B = q :: B' ∧ nA q.Root = nA a) := by
  have hq : ∀ q ∈ r.Trees, Ab q.Root := fun q hq => by
    obtain ⟨j, hj, rfl⟩ := List.getElem_of_mem hq
    rw [gd_at hj]; exact (hb.2.1 j hj).1
  have hl : r.Trees.length = A.length + B.length := by rw [e, List.length_append]
  have i2 := bs_gen (step := fun s : Int × Int => F87_0_L1 r.Trees a s.1 s.2) (R := Int × Bool) r.Trees (fun q => F88 q a) A.length (by omega) (by have := hs.1; omega) (fun i hi => by
    obtain ⟨k, k1, k2⟩ := F88_ok (gd r.Trees i) a (hq _ (gd_mem (by omega))) ha
    refine ⟨k, k1, ?_⟩
    rw [e, gd_app1 hi] at k2
    have := hA _ (gd_mem hi)
    unfold Cp at k2; omega) (fun i h1 h2 => by
    obtain ⟨k, k1, k2⟩ := F88_ok (gd r.Trees i) a (hq _ (gd_mem (by omega))) ha
    refine ⟨k, k1, ?_⟩
    rw [e, gd_app2 h1] at k2
    have := hB _ (gd_mem (show i - A.length < B.length by omega))
    unfold Cp at k2; omega) (fun _ => rfl)
  obtain ⟨b, b1, b2⟩ := F87_end r.Trees a ha hq A.length
  refine ⟨b, ?_, ?_⟩
  · unfold F58 F87_0
    rw [lp_inl i2]
    simp only [eta_TTree, eta_A6u8]
    rw [b1]; rfl
  · rw [b2]
    refine ⟨fun h => ?_, fun h => ?_⟩
    · match B, hl, e, hB with
      | [], hl, _, _ => simp at hl; omega
      | q :: B', _, e, _ =>
        refine ⟨q, B', rfl, ?_⟩
        have := h.2
        rw [e, gd_app2 (Nat.le_refl _), Nat.sub_self] at this
        exact this
    · obtain ⟨q, B', rfl, hq'⟩ := h
      refine ⟨by rw [hl]; simp, ?_⟩
      rw [e, gd_app2 (Nat.le_refl _), Nat.sub_self]
      exact hq'
theorem Vr_sm {r : TRoots} (h : Vr r) : Sm r := ⟨by have := h.1.2.2.1; omega, by have := h.1.2.2.2; omega⟩
theorem Vr_pro {r : TRoots} (h : Vr r) : r.Proxies.Pairwise (fun a b => nA a.Out < nA b.Out) := adj_srt (fun q : TProxied => nA q.Out) r.Proxies fun i hi h0 => (h.2.2 i hi).2 h0
theorem Vr_tre {r : TRoots} (h : Vr r) : r.Trees.Pairwise (fun a b => nA a.Root < nA b.Root) := adj_srt (fun q : TTree => nA q.Root) r.Trees fun i hi h0 => (h.2.1 i hi).2 h0
def zr : TRoots := TRoots.mk (A6u8.mk 0 0 0 0 0 0) false false 0 [] []
end Go.Proofs.Ytdcepineppafpaa
