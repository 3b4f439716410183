/-
  Regulate: the law of meeting.
-/
import Derived.Test.YtjhkehdbjnhplaaQ9U
namespace Go.Proofs.Ytjhkehdbjnhplaa
open Go.Am
set_option linter.unusedVariables false
set_option linter.unusedSimpArgs false
section
variable (l : List TEvent) (i : Nat) (now t : Int) (all : List TRegulate) (sent : List TRegulateWord) (stop : List (Int × Int))
theorem L15_ok (hs : sent.length <= 1000) (h : ∀ w ∈ sent, ∀ v ∈ sent, w.Kind = 1 -> v.Kind = 1 -> w.At = v.At -> w.To = v.To) (k : Nat) (hk : k < sent.length) :
    loopD (fun s => F9_L15 sent k s) 0 = some (.inl ()) := by
  refine run_gen (step := fun s => F9_L15 sent k s) k (fun j => (j : Int)) () (fun j hj => ?_) ?_
  · show F9_L15 sent k (j : Int) = _
    unfold F9_L15
    rw [bif_t (c := bLt _ _) (by simp [bLt_eq]; omega), need_true (inb_nat (Nat.lt_trans hj hk)), Int.toNat_natCast, Int.toNat_natCast, wr_add1 hj (by omega)]
    have q := h _ (gd_mem (Nat.lt_trans hj hk)) _ (gd_mem hk)
    rw [bif_f (by
      cases hb : ((((bEq (gd sent j).Kind 1 && bEq (gd sent k).Kind 1) && bEq (gd sent j).At (gd sent k).At) && bEq (gd sent j).Channel (gd sent k).Channel) && !bEq (gd sent j).To (gd sent k).To) with
      | false => rfl
      | true =>
        simp [bEq_eq] at hb
        exact absurd (q hb.1.1.1.1 hb.1.1.1.2 hb.1.1.2) hb.2)]
  · show F9_L15 sent k (k : Int) = _
    unfold F9_L15
    rw [bif_f (c := bLt _ _) (by simp [bLt_eq])]
def kn (s : TRegulate) (w : TRegulateWord) : Bool := (((bEq w.Kind 1 && bEq w.Channel s.Channel) && bEq w.To s.To) && bEq w.At s.At)
theorem L14_ok (hs : sent.length <= 1000) (h : ∀ w ∈ sent, ∀ v ∈ sent, w.Kind = 1 -> v.Kind = 1 -> w.At = v.At -> w.To = v.To) (b : Bool) :
    loopD (fun s => F9_L14 all sent i s.1 s.2) (b, 0) = some (.inl (b || sent.any (kn (gd all i)))) := by
  have e0 : (b, (0 : Int)) = (fun j : Nat => (b || (sent.take j).any (kn (gd all i)), (j : Int))) 0 := by simp
  rw [e0]
  refine run_gen (step := fun s => F9_L14 all sent i s.1 s.2) sent.length (fun j : Nat => (b || (sent.take j).any (kn (gd all i)), (j : Int))) _ (fun j hj => ?_) ?_
  · show F9_L14 all sent i _ (j : Int) = _
    unfold F9_L14
    rw [bif_t (c := bLt _ _) (by simp [bLt_eq]; omega), need_true (inb_nat hj), lp_inl (L15_ok sent hs h j hj), Int.toNat_natCast, Int.toNat_natCast, wr_add1 hj (by omega), take_snoc hj, List.any_append]
    unfold kn
    simp only [List.any_cons, List.any_nil, Bool.or_false, Bool.or_assoc]
  · show F9_L14 all sent i _ (sent.length : Int) = _
    unfold F9_L14
    rw [bif_f (c := bLt _ _) (by simp [bLt_eq]), List.take_length]
theorem L13_ok (hs : sent.length <= 1000) (ha : all.length <= 1000) (c : Ce t all sent) (h : Me t all sent) :
    loopD (fun s => F9_L13 all sent s) 0 = some (.inl ()) := by
  refine run_gen (step := fun s => F9_L13 all sent s) all.length (fun j => (j : Int)) () (fun j hj => ?_) ?_
  · show F9_L13 all sent (j : Int) = _
    unfold F9_L13
    have hS := (c.st j hj).1
    have hk : (!(gd all j).Moving || sent.any (kn (gd all j))) = true := by
      rcases Bool.eq_false_or_eq_true (gd all j).Moving with hm | hm
      · have := h.mov j hj hm
        rw [hm, Bool.not_true, Bool.false_or, List.any_eq_true]
        exact ⟨_, this, by simp [kn, an, bEq_eq]⟩
      · rw [hm]; rfl
    have h33 : F33 (gd all j) = some 0 := by
      rcases F33_ok (gd all j) (Gr_of (S3_gr hS)) with ⟨_, e⟩ | ⟨q, _⟩
      · exact e
      · exact absurd hS.1 q
    rw [bif_t (c := bLt _ _) (by simp [bLt_eq]; omega), need_true (inb_nat hj), lp_inl (L14_ok j all sent hs h.one _), Int.toNat_natCast, hk, h33, wr_add1 hj (by omega)]
    rfl
  · show F9_L13 all sent (all.length : Int) = _
    unfold F9_L13
    rw [bif_f (c := bLt _ _) (by simp [bLt_eq])]
theorem L2_ok (hl : l.length <= 150) (all : List TRegulate) (h0 : all.length <= 6) (c : Ce 0 all []) (h : Me 0 all []) :
    ∃ b, loopD (fun s => F9_L2 l s.1 s.2.1 s.2.2.1 s.2.2.2.1 s.2.2.2.2) (0, 0, all, [], []) = some b /\ (b = .inl () ∨ b = .inr true) := by
  refine loop_inv (step := fun s => F9_L2 l s.1 s.2.1 s.2.2.1 s.2.2.2.1 s.2.2.2.2) (fun s => ∃ i : Nat, s.1 = i /\ i <= l.length /\ (0 <= s.2.1 /\ s.2.1 <= 1000000 * (i : Int)) /\ s.2.2.1.length <= 6 /\ s.2.2.2.1.length <= i /\ s.2.2.2.2.length <= i /\ Ce s.2.1 s.2.2.1 s.2.2.2.1 /\ Me s.2.1 s.2.2.1 s.2.2.2.1)
    (fun b => b = .inl () ∨ b = .inr true) (fun s => (l.length - s.1).toNat) ?_ _ ⟨0, rfl, Nat.zero_le _, ⟨Int.le_refl _, by simp⟩, h0, Nat.le_refl _, Nat.le_refl _, c, h⟩
  rintro ⟨z, now, all, sent, stop⟩ ⟨i, ei, hi, hn, ha, hs, hm, c, h⟩
  simp only at ei hn ha hs hm c h
  subst ei
  show (∃ b, F9_L2 l (i : Int) now all sent stop = some (.done b) /\ _) ∨ ∃ s', F9_L2 l (i : Int) now all sent stop = some (.next s') /\ _
  unfold F9_L2
  by_cases hlt : i < l.length
  · have hib := inb_nat hlt
    rw [bif_t (c := bLt _ _) (by simp [bLt_eq]; omega)]
    simp only [hib, Bool.cond_self, need_true, Int.toNat_natCast]
    cases hbad : (((bLt (gd l i).Wait 0 || bLt 1000000 (gd l i).Wait) || bLt (gd l i).Who 0) || bLt (gd l i).Pick 0) with
    | true => exact .inl ⟨_, rfl, .inr rfl⟩
    | false =>
      simp [bLt_eq] at hbad
      obtain ⟨⟨⟨b1, b2⟩, b3⟩, b4⟩ := hbad
      have ht : wr .i64 (now + (gd l i).Wait) = now + (gd l i).Wait := wr_in (by omega)
      have mt : Mo (now + (gd l i).Wait) := by unfold Mo; omega
      obtain ⟨all', sent', stop', e, sp⟩ := step_ok l i now _ all sent stop ht mt b3 b4 ⟨c.len, by omega⟩ c.s3 (by omega) (by omega) c.wd
      obtain ⟨c', k1, k2, k3, k4⟩ := Ce_step c mt sp
      have h' := Me_step c h mt (by omega) (by omega) sp
      rw [cond_false, lp_inl e]
      simp only [Bool.not_true, cond_false]
      rw [lp_inl (L13_ok _ all' sent' (by omega) (by omega) c' h'), wr_add1 hlt (by omega), ht]
      refine .inr ⟨_, rfl, ⟨i + 1, rfl, hlt, ?_, ?_, ?_, ?_, c', h'⟩, ?_⟩
      · show 0 <= now + (gd l i).Wait /\ now + (gd l i).Wait <= 1000000 * ((i + 1 : Nat) : Int)
        omega
      · show all'.length <= 6
        omega
      · show sent'.length <= i + 1
        omega
      · show stop'.length <= i + 1
        omega
      · show ((l.length : Int) - ((i + 1 : Nat) : Int)).toNat < ((l.length : Int) - (i : Int)).toNat
        omega
  · rw [bif_f (c := bLt _ _) (by simp [bLt_eq]; omega)]
    exact .inl ⟨_, rfl, .inl rfl⟩
end
end Go.Proofs.Ytjhkehdbjnhplaa
