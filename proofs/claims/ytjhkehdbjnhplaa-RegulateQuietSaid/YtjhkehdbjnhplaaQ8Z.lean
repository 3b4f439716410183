/-
  Regulate: the law of quiet.
-/
import Derived.Test.YtjhkehdbjnhplaaQ8Q
namespace Go.Proofs.Ytjhkehdbjnhplaa
open Go.Am
set_option linter.unusedVariables false
set_option linter.unusedSimpArgs false
section
variable (l : List TEvent) (i : Nat) (now t : Int) (all : List TRegulate) (sent : List TRegulateWord) (stop : List (Int × Int))
theorem L13_ok (ht : wr .i64 (now + (gd l i).Wait) = t) (mt : Mo t) (hbig : t <= 1000000000) (ha : all.length <= 1000) (c : Ce t all sent) (h : Qu t all sent stop) (hT : ∀ n T, lkp stop n = some T -> 0 <= T /\ T <= 1000000000) :
    loopD (fun s => F8_L13 l i now all stop s) 0 = some (.inl ()) := by
  refine run_gen (step := fun s => F8_L13 l i now all stop s) all.length (fun j => (j : Int)) () (fun j hj => ?_) ?_
  · show F8_L13 l i now all stop (j : Int) = _
    unfold F8_L13
    have hS := (c.st j hj).1
    rw [bif_t (c := bLt _ _) (by simp [bLt_eq]; omega), need_true (inb_nat hj), need_true (inb_nat hj)]
    simp only [Int.toNat_natCast, ht]
    rcases F17_ok (gd all j) 0 t (Gr_of (S3_gr hS)) with ⟨q, _⟩ | ⟨_, q, _⟩ | ⟨_, _, k⟩
    · exact absurd hS.1 q
    · exact absurd mt q
    · obtain ⟨cc, hc, ec⟩ := hS.1.2.1
      obtain ⟨b, e, eb⟩ := k cc hc ec
      rw [e, Option.bind_some]
      have hf : ((!bEq ((b, (0 : Int)).2) 0) || (((lkp stop (gd all j).Channel).isSome && (b, (0 : Int)).1) && (bLt (wr .i64 (((lkp stop (gd all j).Channel).getD 0) + 500000)) t))) = false := by
        show ((!bEq (0 : Int) 0) || (((lkp stop (gd all j).Channel).isSome && b) && (bLt (wr .i64 (((lkp stop (gd all j).Channel).getD 0) + 500000)) t))) = false
        cases b with
        | false => simp [bEq_eq]
        | true =>
          cases hk : lkp stop (gd all j).Channel with
          | none => simp [bEq_eq]
          | some T =>
            have hb := hT _ _ hk
            obtain ⟨m1, m2, m3, m4⟩ := eb.1 rfl
            have q := h.st _ _ hk
            have : t <= T + 500000 := by
              by_cases j0 : j = 0
              · subst j0
                have := q.own rfl
                rw [m1] at this; exact Bool.noConfusion this
              · have q2 := q.mem j hj j0 rfl
                rcases m3 with m3 | m3
                · exact absurd ((c.st j hj).2.1 m3) j0
                · omega
            simp only [Option.getD_some]
            rw [wr_in (by omega)]
            simp [bEq_eq, bLt_eq]
            omega
      rw [bif_f hf, wr_add1 hj (by omega)]
  · show F8_L13 l i now all stop (all.length : Int) = _
    unfold F8_L13
    rw [bif_f (c := bLt _ _) (by simp [bLt_eq])]
theorem stop_step {t' : Int} {all' : List TRegulate} {sent' : List TRegulateWord} {stop' : List (Int × Int)} (s : Sp t' all sent stop all' sent' stop') (h0 : 0 <= t' /\ t' <= 1000000000) (hT : ∀ n T, lkp stop n = some T -> 0 <= T /\ T <= 1000000000) : ∀ n T, lkp stop' n = some T -> 0 <= T /\ T <= 1000000000 := by
  cases s with
  | no => exact hT
  | say c hc hn h => exact hT
  | mvd w hw nx out hx =>
    intro n T e
    have h1 : ∀ n T, lkp (st1 w (gd all w) nx t' stop) n = some T -> 0 <= T /\ T <= 1000000000 := fun n T e => by
      unfold st1 at e
      cases hb : ((bEq (w : Int) 0 && nx.Stopped) && !(gd all w).Stopped) with
      | false => rw [hb] at e; exact hT n T e
      | true =>
        rw [hb, cond_true, lkp_upd] at e
        split at e
        · obtain rfl := Option.some.inj e; exact h0
        · exact hT n T e
    unfold st2 at e
    cases hb : (bEq (w : Int) 0 && !bEq nx.Channel (gd all w).Channel) with
    | false => rw [hb] at e; exact h1 n T e
    | true =>
      rw [hb, cond_true, lkp_del] at e
      split at e
      · cases e
      · exact h1 n T e
theorem L2_ok (hl : l.length <= 150) (all : List TRegulate) (h0 : all.length <= 6) (c : Ce 0 all []) (h : Me 0 all []) (q : Qu 0 all [] []) :
    ∃ b, loopD (fun s => F8_L2 l s.1 s.2.1 s.2.2.1 s.2.2.2.1 s.2.2.2.2) (0, 0, all, [], []) = some b /\ (b = .inl () ∨ b = .inr true) := by
  refine loop_inv (step := fun s => F8_L2 l s.1 s.2.1 s.2.2.1 s.2.2.2.1 s.2.2.2.2) (fun s => ∃ i : Nat, s.1 = i /\ i <= l.length /\ (0 <= s.2.1 /\ s.2.1 <= 1000000 * (i : Int)) /\ s.2.2.1.length <= 6 /\ s.2.2.2.1.length <= i /\ s.2.2.2.2.length <= i /\ Ce s.2.1 s.2.2.1 s.2.2.2.1 /\ Me s.2.1 s.2.2.1 s.2.2.2.1 /\ Qu s.2.1 s.2.2.1 s.2.2.2.1 s.2.2.2.2 /\ ∀ n T, lkp s.2.2.2.2 n = some T -> 0 <= T /\ T <= 1000000000)
    (fun b => b = .inl () ∨ b = .inr true) (fun s => (l.length - s.1).toNat) ?_ _ ⟨0, rfl, Nat.zero_le _, ⟨Int.le_refl _, by simp⟩, h0, Nat.le_refl _, Nat.le_refl _, c, h, q, fun n T e => by cases e⟩
  rintro ⟨z, now, all, sent, stop⟩ ⟨i, ei, hi, hn, ha, hs, hm, c, h, q, hT⟩
  simp only at ei hn ha hs hm c h q hT
  subst ei
  show (∃ b, F8_L2 l (i : Int) now all sent stop = some (.done b) /\ _) ∨ ∃ s', F8_L2 l (i : Int) now all sent stop = some (.next s') /\ _
  unfold F8_L2
  by_cases hlt : i < l.length
  · have hib := inb_nat hlt
    rw [bif_t (c := bLt _ _) (by simp [bLt_eq]; omega)]
    simp only [hib, Bool.cond_self, need_true, Int.toNat_natCast]
    cases hbad : (((bLt (gd l i).Wait 0 || bLt 1000000 (gd l i).Wait) || bLt (gd l i).Who 0) || bLt (gd l i).Pick 0) with
    | true => exact .inl ⟨_, rfl, .inr rfl⟩
    | false =>
      simp [bLt_eq] at hbad
      obtain ⟨⟨⟨b1, b2⟩, b3⟩, b4⟩ := hbad
      have ht : wr .i64 (now + (gd l i).Wait) = now + (gd l i).Wait := wr_in (by omega)
      have mt : Mo (now + (gd l i).Wait) := by unfold Mo; omega
      obtain ⟨all', sent', stop', e, sp⟩ := step_ok l i now _ all sent stop ht mt b3 b4 ⟨c.len, by omega⟩ c.s3 (by omega) (by omega) c.wd
      obtain ⟨c', k1, k2, k3, k4⟩ := Ce_step c mt sp
      have h' := Me_step c h mt (by omega) (by omega) sp
      have q' := Qu_step c h q mt (by omega) (by omega) sp
      have hT' := stop_step all sent stop sp (by omega) hT
      rw [cond_false, lp_inl e]
      simp only [Bool.not_true, cond_false]
      rw [lp_inl (L13_ok l i now _ all' sent' stop' ht mt (by omega) (by omega) c' q' hT'), wr_add1 hlt (by omega), ht]
      refine .inr ⟨_, rfl, ⟨i + 1, rfl, hlt, ?_, ?_, ?_, ?_, c', h', q', hT'⟩, ?_⟩
      · show 0 <= now + (gd l i).Wait /\ now + (gd l i).Wait <= 1000000 * ((i + 1 : Nat) : Int)
        omega
      · show all'.length <= 6
        omega
      · show sent'.length <= i + 1
        omega
      · show stop'.length <= i + 1
        omega
      · show ((l.length : Int) - ((i + 1 : Nat) : Int)).toNat < ((l.length : Int) - (i : Int)).toNat
        omega
  · rw [bif_f (c := bLt _ _) (by simp [bLt_eq]; omega)]
    exact .inl ⟨_, rfl, .inl rfl⟩
end
end Go.Proofs.Ytjhkehdbjnhplaa
