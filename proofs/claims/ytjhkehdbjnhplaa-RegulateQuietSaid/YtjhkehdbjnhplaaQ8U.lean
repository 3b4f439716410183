/-
  Regulate: members move as announced: what holds after each event.
-/
import Derived.Test.YtjhkehdbjnhplaaQ8S
namespace Go.Proofs.Ytjhkehdbjnhplaa
open Go.Am
set_option linter.unusedVariables false
set_option linter.unusedSimpArgs false
theorem gd_set {α : Type} [Inhabited α] {l : List α} {w i : Nat} {x : α} (hw : w < l.length) : gd (l.set w x) i = if i = w then x else gd l i := by
  simp only [gd, List.getD_eq_getElem?_getD, List.getElem?_set]
  by_cases h : w = i
  · subst h; simp [hw]
  · simp [h, Ne.symm h]
def an (s : TRegulate) : TRegulateWord := ⟨1, s.Channel, s.To, s.At⟩
structure Ce (t : Int) (all : List TRegulate) (sent : List TRegulateWord) : Prop where
  len : 0 < all.length
  st : ∀ i, i < all.length -> S3 (gd all i) /\ ((gd all i).Lead = true ↔ i = 0)
  wd : ∀ w ∈ sent, W3 w
theorem Ce.s3 {t : Int} {all : List TRegulate} {sent : List TRegulateWord} (h : Ce t all sent) : ∀ s ∈ all, S3 s := fun s hs => by
  obtain ⟨i, hi, rfl⟩ := mem_gd hs
  exact (h.st i hi).1
theorem Ce_step {t t' : Int} {all all' : List TRegulate} {sent sent' : List TRegulateWord} {stop stop' : List (Int × Int)} (h : Ce t all sent) (ht : Mo t') (s : Sp t' all sent stop all' sent' stop') : Ce t' all' sent' /\ all'.length = all.length /\ sent'.length <= sent.length + 1 /\ stop'.length <= stop.length + 1 /\ ∀ w ∈ sent, w ∈ sent' := by
  cases s with
  | no => exact ⟨⟨h.len, h.st, h.wd⟩, rfl, Nat.le_succ _, Nat.le_succ _, fun _ h => h⟩
  | say c hc hn hm =>
    refine ⟨⟨h.len, h.st, fun w hw => ?_⟩, rfl, by simp, Nat.le_succ _, fun w h => List.mem_append_left _ h⟩
    rcases List.mem_append.1 hw with q | q
    · exact h.wd w q
    · rw [List.mem_singleton] at q; subst q
      have h3 := (ht3 (h.st 0 h.len).1.2).1 (h.st 0 h.len).1.1.2.1
      refine ⟨⟨?_, ht, .inr (.inr ⟨rfl, rfl⟩)⟩, fun q => absurd (show (3 : Int) = 1 from q) (by decide)⟩
      show 1 <= (gd all 0).Channel /\ (gd all 0).Channel <= 255
      unfold C3 at h3; omega
  | mvd w hw nx out hx =>
    obtain ⟨k1, k2, k3, k4⟩ := Nx_keep hx (h.st w hw).1 ht h.wd
    refine ⟨⟨by rw [List.length_set]; exact h.len, fun i hi => ?_, fun v hv => ?_⟩, List.length_set, by rw [List.length_append]; omega, st2_len .., fun w h => List.mem_append_left _ h⟩
    · rw [List.length_set] at hi
      rw [gd_set hw]
      by_cases e : i = w
      · subst e; rw [if_pos rfl, k2]; exact ⟨k1, (h.st i hi).2⟩
      · rw [if_neg e]; exact h.st i hi
    · rcases List.mem_append.1 hv with q | q
      · exact h.wd v q
      · exact k4 v q
structure Me (t : Int) (all : List TRegulate) (sent : List TRegulateWord) : Prop where
  mov : ∀ i, i < all.length -> (gd all i).Moving = true -> an (gd all i) ∈ sent
  lead : (gd all 0).Moving = true -> ∀ w ∈ sent, w.Kind = 1 -> w.At <= (gd all 0).At /\ (w.At = (gd all 0).At -> w = an (gd all 0))
  quiet : (gd all 0).Moving = false -> ∀ w ∈ sent, w.Kind = 1 -> w.At <= t
  one : ∀ w ∈ sent, ∀ v ∈ sent, w.Kind = 1 -> v.Kind = 1 -> w.At = v.At -> w.To = v.To
theorem Me.app3 {t t' : Int} {all : List TRegulate} {sent out : List TRegulateWord} (h : Me t all sent) (ht : t <= t') (ho : ∀ w ∈ out, w.Kind ≠ 1) : Me t' all (sent ++ out) := by
  have key : ∀ w ∈ sent ++ out, w.Kind = 1 -> w ∈ sent := fun w hw hk => by
    rcases List.mem_append.1 hw with q | q
    · exact q
    · exact absurd hk (ho w q)
  exact ⟨fun i hi hm => List.mem_append_left _ (h.mov i hi hm), fun hm w hw hk => h.lead hm w (key w hw hk) hk, fun hm w hw hk => Int.le_trans (h.quiet hm w (key w hw hk) hk) ht, fun w hw v hv k1 k2 e => h.one w (key w hw k1) v (key v hv k2) k1 k2 e⟩
theorem Me.mem {t : Int} {all : List TRegulate} {sent : List TRegulateWord} (h : Me t all sent) {w : Nat} (hw : w < all.length) (h0 : w ≠ 0) {nx : TRegulate} (hx : nx.Moving = true -> an nx ∈ sent) : Me t (all.set w nx) sent := by
  have e0 : gd (all.set w nx) 0 = gd all 0 := by rw [gd_set hw, if_neg (Ne.symm h0)]
  refine ⟨fun i hi hm => ?_, by rw [e0]; exact h.lead, by rw [e0]; exact h.quiet, h.one⟩
  rw [List.length_set] at hi
  rw [gd_set hw] at hm ⊢
  by_cases e : i = w
  · rw [if_pos e] at hm ⊢; exact hx hm
  · rw [if_neg e] at hm ⊢; exact h.mov i hi hm
theorem Me_step {t t' : Int} {all all' : List TRegulate} {sent sent' : List TRegulateWord} {stop stop' : List (Int × Int)} (c : Ce t all sent) (h : Me t all sent) (ht : Mo t') (hle : t <= t') (hbig : t' <= 1000000000) (s : Sp t' all sent stop all' sent' stop') : Me t' all' sent' := by
  have hu : unt t' 150000 = t' + 150000 := by unfold unt minI; split <;> omega
  have h' : Me t' all sent := by have := h.app3 (out := []) hle (fun w hw => absurd hw (List.not_mem_nil)); rwa [List.append_nil] at this
  cases s with
  | no => exact h'
  | say c hc hn hm => exact h'.app3 (Int.le_refl _) (fun w hw => by rw [List.mem_singleton] at hw; subst hw; exact fun q => absurd (show (3 : Int) = 1 from q) (by decide))
  | mvd w hw nx out hx =>
    have hS := (c.st w hw).1
    have hL := (c.st w hw).2
    cases hx with
    | ann v hv hk hc hl ha =>
      rw [List.append_nil]
      refine h'.mem hw (fun e => by rw [hL.2 e] at hl; exact Bool.noConfusion hl) (fun _ => ?_)
      have : an (ann (gd all w) v t') = v := by
        obtain ⟨a, b, d, e⟩ := v
        simp only at hk hc
        subst hk hc
        rfl
      rw [this]; exact hv
    | her v hv hk hc hl hs h1 h2 =>
      rw [List.append_nil]
      exact h'.mem hw (fun e => by rw [hL.2 e] at hl; exact Bool.noConfusion hl) (fun hm => h'.mov w hw hm)
    | radar p hp hst =>
      have hnm : (gd all w).Moving = false := by
        rcases Bool.eq_false_or_eq_true (gd all w).Moving with q | q
        · have := (hS.1.2.2.2.2.2.1 q).1; rw [hst] at this; exact Bool.noConfusion this
        · exact q
      unfold rad
      cases hl : (gd all w).Lead with
      | false =>
        rw [bif_t (c := !false) rfl]
        have h1 : Me t' (all.set w (stp (gd all w) t')) sent := h'.mem hw (fun e => by rw [hL.2 e] at hl; exact Bool.noConfusion hl) (fun hm => by
          have hm : (gd all w).Moving = true := hm
          rw [hnm] at hm; exact Bool.noConfusion hm)
        exact h1.app3 (Int.le_refl _) (fun w hw => by rw [List.mem_singleton] at hw; subst hw; exact fun q => absurd (show (2 : Int) = 1 from q) (by decide))
      | true =>
        obtain rfl := hL.1 hl
        rw [bif_f (c := !true) rfl]
        cases hu2 : bEq ((usL (gd all 0).Table (gd all 0).Channel (stB (gd all 0) t') (stC (gd all 0)) t').length : Nat) 0 with
        | true =>
          rw [cond_true, List.append_nil]
          have e0 : gd (all.set 0 (stp (gd all 0) t')) 0 = stp (gd all 0) t' := by rw [gd_set hw, if_pos rfl]
          refine ⟨fun i hi hm => ?_, by rw [e0]; exact fun hm => h'.lead hm, by rw [e0]; exact fun hm => h'.quiet hm, h'.one⟩
          rw [List.length_set] at hi
          rw [gd_set hw] at hm ⊢
          by_cases e : i = 0
          · rw [if_pos e] at hm
            have hm : (gd all 0).Moving = true := hm
            rw [hnm] at hm; exact Bool.noConfusion hm
          · rw [if_neg e] at hm ⊢; exact h'.mov i hi hm
        | false =>
          rw [cond_false]
          generalize gd (usL (gd all 0).Table (gd all 0).Channel (stB (gd all 0) t') (stC (gd all 0)) t') _ = to
          have q := h'.quiet hnm
          rw [hu]
          have e0 : ∀ nx : TRegulate, gd (all.set 0 nx) 0 = nx := fun nx => by rw [gd_set hw, if_pos rfl]
          refine ⟨fun i hi hm => ?_, fun _ v hv hk => ?_, fun hm => ?_, fun v hv u hu k1 k2 e => ?_⟩
          · rw [List.length_set] at hi
            rw [gd_set hw] at hm ⊢
            by_cases e : i = 0
            · rw [if_pos e]; exact List.mem_append_right _ List.mem_cons_self
            · rw [if_neg e] at hm ⊢; exact List.mem_append_left _ (h'.mov i hi hm)
          · rw [e0]
            rcases List.mem_append.1 hv with g | g
            · have := q v g hk
              refine ⟨by show v.At <= t' + 150000; omega, fun e => ?_⟩
              have e : v.At = t' + 150000 := e
              omega
            · rw [List.mem_singleton] at g; subst g
              exact ⟨Int.le_refl _, fun _ => rfl⟩
          · rw [e0] at hm; exact Bool.noConfusion (show true = false from hm)
          · rcases List.mem_append.1 hv with g | g <;> rcases List.mem_append.1 hu with g2 | g2
            · exact h'.one v g u g2 k1 k2 e
            · rw [List.mem_singleton] at g2; subst g2
              have := q v g k1
              have e : v.At = t' + 150000 := e
              omega
            · rw [List.mem_singleton] at g; subst g
              have := q u g2 k2
              have e : t' + 150000 = u.At := e
              omega
            · rw [List.mem_singleton] at g g2; subst g g2; rfl
    | tick =>
      unfold tik tiw
      cases hd : ((gd all w).Moving && bLe (gd all w).At t') with
      | true =>
        rw [cond_true, cond_true, List.append_nil]
        simp [bLe_eq] at hd
        by_cases h0 : w = 0
        · subst h0
          have e0 : ∀ nx : TRegulate, gd (all.set 0 nx) 0 = nx := fun nx => by rw [gd_set hw, if_pos rfl]
          refine ⟨fun i hi hm => ?_, fun hm => ?_, fun _ v hv hk => ?_, h'.one⟩
          · rw [List.length_set] at hi
            rw [gd_set hw] at hm ⊢
            by_cases e : i = 0
            · rw [if_pos e] at hm; exact Bool.noConfusion (show false = true from hm)
            · rw [if_neg e] at hm ⊢; exact h'.mov i hi hm
          · rw [e0] at hm; exact Bool.noConfusion (show false = true from hm)
          · exact Int.le_trans (h'.lead hd.1 v hv hk).1 hd.2
        · exact h'.mem hw h0 (fun hm => Bool.noConfusion (show false = true from hm))
      | false =>
        rw [cond_false, cond_false]
        by_cases h0 : w = 0
        · subst h0
          have e0 : ∀ nx : TRegulate, gd (all.set 0 nx) 0 = nx := fun nx => by rw [gd_set hw, if_pos rfl]
          have h1 : Me t' (all.set 0 ⟨(gd all 0).Table, (gd all 0).Channel, (gd all 0).Lead, (gd all 0).Heard, (gd all 0).Stopped, (gd all 0).Moving, (gd all 0).To, (gd all 0).At, tkB (gd all 0) t', (gd all 0).Clear⟩) sent := by
            refine ⟨fun i hi hm => ?_, by rw [e0]; exact fun hm => h'.lead hm, by rw [e0]; exact fun hm => h'.quiet hm, h'.one⟩
            rw [List.length_set] at hi
            rw [gd_set hw] at hm ⊢
            by_cases e : i = 0
            · subst e; rw [if_pos rfl] at hm ⊢; exact h'.mov 0 hw hm
            · rw [if_neg e] at hm ⊢; exact h'.mov i hi hm
          cases hm : ((gd all 0).Moving && (gd all 0).Lead) with
          | false => rw [cond_false, List.append_nil]; exact h1
          | true =>
            rw [cond_true]
            simp at hm
            have hin := h'.mov 0 hw hm.1
            have key : ∀ v ∈ sent ++ [an (gd all 0)], v ∈ sent := fun v hv => by
              rcases List.mem_append.1 hv with g | g
              · exact g
              · rw [List.mem_singleton] at g; subst g; exact hin
            exact ⟨fun i hi hm => List.mem_append_left _ (h1.mov i hi hm), fun hm v hv hk => h1.lead hm v (key v hv) hk, fun hm v hv hk => h1.quiet hm v (key v hv) hk, fun v hv u hu k1 k2 e => h1.one v (key v hv) u (key u hu) k1 k2 e⟩
        · have hl : (gd all w).Lead = false := by
            rcases Bool.eq_false_or_eq_true (gd all w).Lead with q | q
            · exact absurd (hL.1 q) h0
            · exact q
          rw [hl, Bool.and_false, cond_false, List.append_nil]
          exact h'.mem hw h0 (fun hm => h'.mov w hw hm)
end Go.Proofs.Ytjhkehdbjnhplaa
