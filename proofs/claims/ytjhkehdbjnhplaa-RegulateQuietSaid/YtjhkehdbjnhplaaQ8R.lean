/-
  Regulate: one step of a station over the chapter's table.
-/
import Derived.Test.YtjhkehdbjnhplaaQ8E
namespace Go.Proofs.Ytjhkehdbjnhplaa
open Go.Am
set_option linter.unusedVariables false
set_option linter.unusedSimpArgs false
def Wd (w : TRegulateWord) : Prop := (1 <= w.Channel /\ w.Channel <= 255) /\ Mo w.At /\ ((w.Kind = 1 /\ 1 <= w.To /\ w.To <= 255) ∨ (w.Kind = 2 /\ w.To = 0 /\ w.At = 0) ∨ (w.Kind = 3 /\ w.To = 0))
theorem F44_ok (w : TRegulateWord) : ∃ b, F44 w = some b /\ (b = true ↔ Wd w) := by
  unfold F44 F83 Wd Mo
  by_cases h1 : w.Kind = 1
  · rw [bif_t (by simp [bEq_eq, h1])]
    refine ⟨_, by simp only [Option.bind_some, Option.isSome_some, Bool.cond_self, need_true, gt_some]; rfl, ?_⟩
    simp [bLe_eq, h1]; omega
  · rw [bif_f (by simp [bEq_eq, h1])]
    by_cases h2 : w.Kind = 2
    · rw [bif_t (by simp [bEq_eq, h2])]
      refine ⟨_, by simp only [Option.bind_some, Option.isSome_some, Bool.cond_self, need_true, gt_some]; rfl, ?_⟩
      simp [bLe_eq, h2]; omega
    · rw [bif_f (by simp [bEq_eq, h2])]
      by_cases h3 : w.Kind = 3
      · rw [bif_t (by simp [bEq_eq, h3])]
        refine ⟨_, by simp only [Option.bind_some, Option.isSome_some, Bool.cond_self, need_true, gt_some]; rfl, ?_⟩
        simp [bLe_eq, h3]; omega
      · rw [bif_f (by simp [bEq_eq, h3])]
        exact ⟨_, rfl, by simp [h1, h2, h3]⟩
def T3 : List TRegulateChannel := [⟨1, 200, false⟩, ⟨6, 200, false⟩, ⟨11, 150, false⟩]
theorem F43_is : F43 = some T3 := rfl
def S3 (s : TRegulate) : Prop := Vs s /\ s.Table = T3
def C3 (n : Int) : Prop := n = 1 ∨ n = 6 ∨ n = 11
theorem ht3 {s : TRegulate} (e : s.Table = T3) {n : Int} : Ht s n ↔ C3 n := by
  unfold Ht C3
  rw [e]
  simp [T3]
  omega
theorem rb_len : ∀ (l : List TRegulateBlock) (a : Int) (n : Nat), (∀ b ∈ l, a <= b.Channel /\ b.Channel < a + n) -> Rb l -> l.length <= n
  | [], _, _, _, _ => Nat.zero_le _
  | b :: l, a, n, h, r => by
    obtain ⟨r1, r2⟩ := List.pairwise_cons.1 r
    have hb := h b List.mem_cons_self
    obtain ⟨m, rfl⟩ : ∃ m, n = m + 1 := ⟨n - 1, by omega⟩
    have := rb_len l (a + 1) m (fun c hc => by
      have q1 := h c (List.mem_cons_of_mem _ hc)
      have q2 := r1 c hc
      omega) r2
    simp only [List.length_cons]; omega
theorem S3_clear {s : TRegulate} (h : S3 s) : s.Clear = [] := by
  obtain ⟨⟨_, _, _, _, _, _, _, _, _, _, v⟩, e⟩ := h
  cases hc : s.Clear with
  | nil => rfl
  | cons a l =>
    obtain ⟨q, q1, q2, q3⟩ := v a (by rw [hc]; exact List.mem_cons_self)
    rw [e] at q1
    simp [T3] at q1
    rcases q1 with rfl | rfl | rfl <;> cases q3
theorem S3_gr {s : TRegulate} (h : S3 s) : Gr0 s := by
  have hc := S3_clear h
  obtain ⟨⟨_, _, _, _, _, _, _, v8, _, v10, _⟩, e⟩ := h
  refine ⟨by rw [e]; decide, ?_, by rw [hc]; decide⟩
  have := rb_len s.Blocked 1 11 (fun b hb => by
    have q := (ht3 e).1 (v10 b hb).1
    unfold C3 at q
    omega) v8
  omega
def ann (s : TRegulate) (w : TRegulateWord) (t : Int) : TRegulate := ⟨s.Table, s.Channel, s.Lead, s.Heard, true, true, w.To, w.At, stB s t, stC s⟩
def her (s : TRegulate) (w : TRegulateWord) : TRegulate := ⟨s.Table, s.Channel, s.Lead, w.At, s.Stopped, s.Moving, s.To, s.At, s.Blocked, s.Clear⟩
inductive Nx (sent : List TRegulateWord) (t : Int) (s : TRegulate) : TRegulate -> List TRegulateWord -> Prop
  | radar (p : Int) (hp : 0 <= p) (h : s.Stopped = false) : Nx sent t s (rad s p t).2 (rad s p t).1
  | ann (w : TRegulateWord) (hw : w ∈ sent) (hk : w.Kind = 1) (hc : w.Channel = s.Channel) (hl : s.Lead = false) (ha : t <= w.At) : Nx sent t s (ann s w t) []
  | her (w : TRegulateWord) (hw : w ∈ sent) (hk : w.Kind = 3) (hc : w.Channel = s.Channel) (hl : s.Lead = false) (hs : s.Stopped = false) (h1 : s.Heard <= w.At) (h2 : w.At <= t) : Nx sent t s (her s w) []
  | tick : Nx sent t s (tik s t) (tiw s t)
def W3 (w : TRegulateWord) : Prop := Wd w /\ (w.Kind = 1 -> C3 w.To)
theorem han_is (sent : List TRegulateWord) (s : TRegulate) (w : TRegulateWord) (p t : Int) (h : S3 s) (ht : Mo t) (hp : 0 <= p) (hw : W3 w) (hm : w ∈ sent) :
    (∃ x, F36 s w p t = some (x, [], 21)) ∨ ∃ nx out, F36 s w p t = some (nx, out, 0) /\ Nx sent t s nx out := by
  have hg := S3_gr h
  have hG := Gr_of hg
  unfold F36
  rcases F50_ok s t p hG with ⟨q, _⟩ | ⟨_, q, _⟩ | ⟨_, h2, _, e⟩
  · exact absurd h.1 q
  · exact absurd ⟨ht, hp⟩ q
  · have rt := h.1.1.2.2
    have rb : Rb s.Blocked := h.1.2.2.2.2.2.2.2.1
    obtain ⟨b, b1, b2⟩ := F44_ok w
    rw [b2.2 hw.1] at b1
    rw [e, b1]
    simp only [Option.bind_some, Option.isSome_some, Bool.cond_self, need_true, gt_some, cond_true, eta_TRegulate]
    rw [bif_f (c := !bEq (0 : Int) 0) (by decide)]
    rw [bif_f (c := !true) (by rfl)]
    by_cases h1 : w.Kind = 1
    · have k1 : bEq w.Kind 1 = true := by simp [bEq_eq, h1]
      simp only [k1, cond_true]
      unfold F104_0
      simp only [Option.isSome_some, Bool.cond_self, need_true, gt_some]
      cases hc : (!bEq w.Channel s.Channel || !(!s.Lead && bLe t w.At)) with
      | true => exact .inl ⟨_, rfl⟩
      | false =>
        simp [bEq_eq, bLe_eq] at hc
        obtain ⟨c1, c2, c3⟩ := hc
        simp only [cond_false]
        unfold F105_0
        obtain ⟨d, d1, d2⟩ := F61_ok s.Table w.To (by have := hG.1; omega) rt
        rw [d2.2 ((ht3 h.2).2 (hw.2 h1))] at d1
        simp only [eta_TRegulate]
        rw [d1, Option.bind_some]
        simp only [Bool.not_true, cond_false]
        rw [F92_ok s t hG rb h2, Option.bind_some]
        exact .inr ⟨ann s w t, [], rfl, .ann w hm h1 c1 c2 c3⟩
    · have k1 : bEq w.Kind 1 = false := by simp [bEq_eq, h1]
      simp only [k1, cond_false]
      by_cases h3 : w.Kind = 2
      · have k2 : bEq w.Kind 2 = true := by simp [bEq_eq, h3]
        simp only [k2, cond_true]
        unfold F106_0
        simp only [Option.isSome_some, Bool.cond_self, need_true, gt_some]
        cases hc : (!bEq w.Channel s.Channel || !(s.Lead && !s.Stopped)) with
        | true => exact .inl ⟨_, rfl⟩
        | false =>
          simp [bEq_eq] at hc
          obtain ⟨c1, c2, c3⟩ := hc
          simp only [cond_false]
          unfold F107_0
          simp only [eta_TRegulate]
          rw [F54_ok s p t hg rt rb hp h2, Option.bind_some]
          exact .inr ⟨_, _, rfl, .radar p hp c3⟩
      · have k2 : bEq w.Kind 2 = false := by simp [bEq_eq, h3]
        have h4 : w.Kind = 3 := by
          rcases hw.1.2.2 with q | q | q
          · exact absurd q.1 h1
          · exact absurd q.1 h3
          · exact q.1
        have k3 : bEq w.Kind 3 = true := by simp [bEq_eq, h4]
        simp only [k2, k3, cond_false, cond_true]
        unfold F108_0
        simp only [Option.isSome_some, Bool.cond_self, need_true, gt_some]
        cases hc : (!bEq w.Channel s.Channel || !(!s.Lead && !s.Stopped && bLe s.Heard w.At && bLe w.At t)) with
        | true => exact .inl ⟨_, rfl⟩
        | false =>
          simp [bEq_eq, bLe_eq] at hc
          obtain ⟨c1, ⟨⟨c2, c3⟩, c4⟩, c5⟩ := hc
          simp only [cond_false]
          unfold F109_0
          rw [Option.bind_some]
          exact .inr ⟨her s w, [], rfl, .her w hm h4 c1 c2 c3 c4 c5⟩
theorem Nx_keep {sent : List TRegulateWord} {t : Int} {s nx : TRegulate} {out : List TRegulateWord} (h : Nx sent t s nx out) (hs : S3 s) (ht : Mo t) (hw : ∀ w ∈ sent, W3 w) : S3 nx /\ nx.Lead = s.Lead /\ out.length <= 1 /\ ∀ w ∈ out, W3 w := by
  have hv := hs.1
  have h3 : ∀ n, Ht s n ↔ C3 n := fun n => ht3 hs.2
  have c255 : ∀ n, C3 n -> 1 <= n /\ n <= 255 := fun n h => by unfold C3 at h; omega
  have z0 : Mo 0 := by unfold Mo; decide
  cases h with
  | radar p hp h =>
    obtain ⟨mv, to, at', e, v⟩ := rad_is s p t hv hp ht
    have hto : mv = true -> C3 to := fun q => (ht3 (s := ⟨s.Table, s.Channel, s.Lead, s.Heard, true, mv, to, at', stB s t, stC s⟩) hs.2).1 (v.2.2.2.2.2.1 q).2
    refine ⟨by rw [e]; exact ⟨v, hs.2⟩, by rw [e], ?_⟩
    have hc := (h3 _).1 hv.2.1
    unfold rad at e ⊢
    cases hl : s.Lead with
    | false =>
      rw [bif_t (c := !false) rfl]
      refine ⟨Nat.le_refl _, fun w hw => ?_⟩
      rw [List.mem_singleton] at hw; subst hw
      exact ⟨⟨c255 _ hc, z0, .inr (.inl ⟨rfl, rfl, rfl⟩)⟩, fun q => absurd (show (2 : Int) = 1 from q) (by decide)⟩
    | true =>
      rw [hl] at e
      rw [bif_f (c := !true) rfl] at e ⊢
      by_cases hu : (usL s.Table s.Channel (stB s t) (stC s) t).length = 0
      · rw [bif_t (c := bEq _ _) (by simp [bEq_eq, hu])]
        exact ⟨Nat.zero_le _, fun w hw => absurd hw (List.not_mem_nil)⟩
      · rw [bif_f (c := bEq _ _) (by simp [bEq_eq]; intro h; exact hu (by simp [h]))] at e ⊢
        simp only [TRegulate.mk.injEq] at e
        obtain ⟨_, _, _, _, _, e1, e2, e3, _⟩ := e
        refine ⟨Nat.le_refl _, fun w hw => ?_⟩
        rw [List.mem_singleton] at hw; subst hw
        have h4 := hto e1.symm
        refine ⟨⟨c255 _ hc, ?_, .inl ⟨rfl, ?_⟩⟩, fun _ => ?_⟩
        · show Mo (unt t 150000)
          unfold Mo at ht ⊢
          unfold unt minI
          split <;> omega
        · show 1 <= gd _ _ /\ gd _ _ <= 255
          rw [e2]; exact c255 _ h4
        · show C3 (gd _ _)
          rw [e2]; exact h4
  | ann w hw2 hk hc hl ha =>
    have h5 := hw w hw2
    refine ⟨⟨?_, hs.2⟩, rfl, Nat.zero_le _, fun w hw => absurd hw (List.not_mem_nil)⟩
    obtain ⟨v1, v2, v3, v4, v5, v6, v7, v8, v9, v10, v11⟩ := Vs_stp s t hv ht
    exact ⟨v1, v2, v3, h5.1.2.1, v5, fun _ => ⟨rfl, (h3 _).2 (h5.2 hk)⟩, fun q => Bool.noConfusion (show true = false from q), v8, v9, v10, v11⟩
  | her w hw2 hk hc hl hs2 h1 h2 =>
    have h5 := hw w hw2
    refine ⟨⟨?_, hs.2⟩, rfl, Nat.zero_le _, fun w hw => absurd hw (List.not_mem_nil)⟩
    obtain ⟨v1, v2, v3, v4, v5, v6, v7, v8, v9, v10, v11⟩ := hv
    exact ⟨v1, v2, h5.1.2.1, v4, fun q => Bool.noConfusion (hl.symm.trans q), v6, v7, v8, v9, v10, v11⟩
  | tick =>
    refine ⟨⟨Vs_tik s t hv, (tik_tab s t).1.trans hs.2⟩, ?_, ?_, ?_⟩
    · unfold tik; cases (s.Moving && bLe s.At t) <;> rfl
    · unfold tiw; cases (s.Moving && bLe s.At t) <;> cases (s.Moving && s.Lead) <;> simp
    · unfold tiw
      cases (s.Moving && bLe s.At t) with
      | true => exact fun w hw => absurd hw (List.not_mem_nil)
      | false =>
        cases hm : (s.Moving && s.Lead) with
        | false => exact fun w hw => absurd hw (List.not_mem_nil)
        | true =>
          intro w hw
          have hw : w ∈ [(⟨1, s.Channel, s.To, s.At⟩ : TRegulateWord)] := hw
          rw [List.mem_singleton] at hw; subst hw
          have hmv : s.Moving = true := by simp at hm; exact hm.1
          have h4 := (h3 _).1 (hv.2.2.2.2.2.1 hmv).2
          exact ⟨⟨c255 _ ((h3 _).1 hv.2.1), hv.2.2.2.1, .inl ⟨rfl, c255 _ h4⟩⟩, fun _ => h4⟩
end Go.Proofs.Ytjhkehdbjnhplaa
