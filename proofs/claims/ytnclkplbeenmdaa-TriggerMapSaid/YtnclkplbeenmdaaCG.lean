/-
  What begins: the service period and what stays behind.
-/
import Derived.Test.YtnclkplbeenmdaaCS
namespace Go.Proofs.Ytnclkplbeenmdaa
open Go.Am
set_option linter.unusedVariables false
set_option linter.unusedSimpArgs false
def Tl (d : Int) (q : TStored) : Bool := bEq (andI .u8 (shrI .u8 d q.Cat) 1) 1
def cnt (d : Int) (l : List TStored) : Nat := (l.filter (Tl d)).length
def C0 (l : List TStored) : Prop := ∀ q ∈ l, 0 <= q.Cat
theorem told_ok (d : Int) (q : TStored) (h : 0 <= q.Cat) : F56_0 d q = some (Tl d q) := by
  unfold F56_0
  rw [need_true (by simp [bLe_eq, h])]
  rfl
theorem cnt_le (d : Int) (l : List TStored) : cnt d l <= l.length := List.length_filter_le _ _
theorem cnt_0 {d : Int} {l : List TStored} : cnt d l = 0 ↔ ∀ j : Nat, j < l.length -> Tl d (gd l j) = false := by
  unfold cnt
  rw [List.length_eq_zero_iff, List.filter_eq_nil_iff]
  constructor
  · intro h j hj
    have := h _ (gd_mem hj)
    simpa using this
  · intro h q hq
    obtain ⟨j, hj, rfl⟩ := mem_gd hq
    simp [h j hj]
theorem del_split {α : Type} [Inhabited α] {l : List α} {k : Nat} (hk : k < l.length) : l = l.take k ++ gd l k :: l.drop (k + 1) := by
  have h := List.take_append_drop k l
  rw [List.drop_eq_getElem_cons hk, gd_at hk] at h
  exact h.symm
theorem cnt_del {d : Int} {l : List TStored} {k : Nat} (hk : k < l.length) (h : Tl d (gd l k) = true) : cnt d (delL l k ((k + 1 : Nat) : Int)) + 1 = cnt d l := by
  have e := del_split hk
  have e2 : cnt d l = cnt d (l.take k ++ gd l k :: l.drop (k + 1)) := congrArg (cnt d) e
  rw [e2]
  unfold cnt delL
  simp only [Int.toNat_natCast, List.filter_append, List.filter_cons, h, if_true, List.length_append, List.length_cons]
  omega
theorem inner_ok (p : TTriggerPlan) (l : List TStored) (hn : l.length <= 1000) (hc : C0 l) :
    (∃ k : Nat, k < l.length /\ Tl p.Deliver (gd l k) = true /\ loopD (fun s => F29_L2 p l s.1 s.2) ((-1 : Int), (0 : Int)) = some (.inl (k : Int))) ∨
    cnt p.Deliver l = 0 /\ loopD (fun s => F29_L2 p l s.1 s.2) ((-1 : Int), (0 : Int)) = some (.inl (-1)) := by
  obtain ⟨r, l1, l2⟩ := loop_inv (step := fun s : Int × Int => F29_L2 p l s.1 s.2) (fun s => ∃ i : Nat, s.2 = (i : Int) /\ i <= l.length /\ ((s.1 = -1 /\ ∀ j : Nat, j < i -> Tl p.Deliver (gd l j) = false) ∨ ∃ k : Nat, s.1 = (k : Int) /\ k < i /\ Tl p.Deliver (gd l k) = true))
    (fun r => (r = .inl (-1) /\ ∀ j : Nat, j < l.length -> Tl p.Deliver (gd l j) = false) ∨ ∃ k : Nat, r = .inl (k : Int) /\ k < l.length /\ Tl p.Deliver (gd l k) = true) (fun s => (l.length - s.2).toNat)
    (fun s hI => by
      obtain ⟨v, x⟩ := s
      obtain ⟨i, h1, h2, h3⟩ := hI
      simp only at h1 h3
      subst h1
      unfold F29_L2
      simp only
      by_cases hi : i < l.length
      · rw [bif_t (by simp [bLt_eq]; omega), need_true (inb_nat hi), Int.toNat_natCast, told_ok _ _ (hc _ (gd_mem hi)), Option.bind_some, wr_add1 hi (by omega)]
        cases ht : Tl p.Deliver (gd l i) with
        | false =>
          rw [need_true (by rfl), bif_f (by rfl)]
          refine .inr ⟨_, rfl, ⟨i + 1, rfl, by omega, ?_⟩, by simp only; omega⟩
          rcases h3 with ⟨rfl, h3⟩ | ⟨k, rfl, h3, h4⟩
          · refine .inl ⟨rfl, fun j hj => ?_⟩
            rcases Nat.lt_or_eq_of_le (Nat.le_of_lt_succ hj) with h | rfl
            · exact h3 j h
            · exact ht
          · exact .inr ⟨k, rfl, by omega, h4⟩
        | true =>
          rcases h3 with ⟨rfl, h3⟩ | ⟨k, rfl, h3, h4⟩
          · rw [need_true (by rfl), bif_t (by rfl)]
            exact .inr ⟨_, rfl, ⟨i + 1, rfl, by omega, .inr ⟨i, rfl, by omega, ht⟩⟩, by simp only; omega⟩
          · rw [need_true (by rw [inb_nat (show k < l.length by omega)]; simp)]
            cases hb : (true && (bLt (k : Int) 0 || bLt (gd l ((k : Int)).toNat).Cat (gd l i).Cat)) with
            | true => exact .inr ⟨_, rfl, ⟨i + 1, rfl, by omega, .inr ⟨i, rfl, by omega, ht⟩⟩, by simp only; omega⟩
            | false => exact .inr ⟨_, rfl, ⟨i + 1, rfl, by omega, .inr ⟨k, rfl, by omega, h4⟩⟩, by simp only; omega⟩
      · obtain rfl : i = l.length := by omega
        rw [bif_f (by simp [bLt_eq])]
        rcases h3 with ⟨rfl, h3⟩ | ⟨k, rfl, h3, h4⟩
        · exact .inl ⟨_, rfl, .inl ⟨rfl, h3⟩⟩
        · exact .inl ⟨_, rfl, .inr ⟨k, rfl, h3, h4⟩⟩)
    ((-1 : Int), (0 : Int)) ⟨0, rfl, by omega, .inl ⟨rfl, fun j hj => by omega⟩⟩
  rcases l2 with ⟨rfl, l2⟩ | ⟨k, rfl, k1, k2⟩
  · exact .inr ⟨cnt_0.2 l2, l1⟩
  · exact .inl ⟨k, k1, k2, l1⟩
def Bg (p : TTriggerPlan) (lim : Int) (H : List TStored) (fr : List TFrame) (l : List TStored) : Prop :=
  fr.length + l.length = H.length /\ fr.length + cnt p.Deliver l = cnt p.Deliver H /\ Qu l lim 3 /\ Sq l /\ C0 l /\ (∀ i : Nat, i < fr.length -> (gd fr i).Head.Eosp = false /\ (gd fr i).Head.MoreData = true /\ Fq (gd fr i)) /\ (p.Most = 0 ∨ (fr.length : Int) <= p.Most)
theorem outer_ok (p : TTriggerPlan) (lim : Int) (H : List TStored) (hm : 0 <= p.Most) (hn : H.length <= 1000) (h1 : Qu H lim 3) (h2 : Sq H) (h3 : C0 H) :
    ∃ fr l, loopD (fun s => F29_L1 p s.1 s.2) (([] : List TFrame), H) = some (.inl (fr, l)) /\ Bg p lim H fr l /\ (cnt p.Deliver l = 0 ∨ p.Most ≠ 0 /\ (fr.length : Int) = p.Most) := by
  obtain ⟨r, l1, l2⟩ := loop_inv (step := fun s : List TFrame × List TStored => F29_L1 p s.1 s.2) (fun s => Bg p lim H s.1 s.2) (fun r => ∃ fr l, r = .inl (fr, l) /\ Bg p lim H fr l /\ (cnt p.Deliver l = 0 ∨ p.Most ≠ 0 /\ (fr.length : Int) = p.Most)) (fun s => s.2.length)
    (fun s hI => by
      obtain ⟨fr, l⟩ := s
      have hI' := hI
      obtain ⟨b1, b2, b3, b4, b5, b6, b7⟩ := hI
      simp only at b1 b2 b3 b4 b5 b6 b7
      unfold F29_L1
      simp only
      by_cases hc : p.Most = 0 ∨ (fr.length : Int) < p.Most
      · rw [bif_t (by simp only [bEq_eq, bLt_eq, Bool.or_eq_true, decide_eq_true_eq]; exact hc)]
        rcases inner_ok p l (by omega) b5 with ⟨k, k1, k2, k3⟩ | ⟨k1, k2⟩
        · rw [lp_inl k3, bif_f (by simp only [bLt_eq, decide_eq_false_iff_not]; omega), need_true (inb_nat k1), wr_add1 k1 (by omega), need_true (by unfold delb; simp; omega), Option.bind_some, nd_cap (by omega) (by omega), Int.toNat_natCast]
          have hd := del_len1 k1
          have hk := cnt_del k1 k2
          have hq : Fq (gd l k).Frame := b4 _ (gd_mem k1)
          refine .inr ⟨_, rfl, ⟨by simp only [List.length_append, List.length_cons, List.length_nil]; omega, by simp only [List.length_append, List.length_cons, List.length_nil]; omega, del_qu k1 b3, fun q hq => b4 q (del_mem hq), fun q hq => b5 q (del_mem hq), fun i hi => ?_, ?_⟩, by simp only; omega⟩
          · simp only [List.length_append, List.length_cons, List.length_nil] at hi
            simp only
            by_cases h : i < fr.length
            · rw [gd_app_lt h]; exact b6 i h
            · rw [gd_app_ge (by omega), show i - fr.length = 0 by omega]
              exact ⟨rfl, rfl, hq⟩
          · simp only [List.length_append, List.length_cons, List.length_nil]
            rcases hc with h | h
            · exact .inl h
            · exact .inr (by omega)
        · rw [lp_inl k2, bif_t (by rfl)]
          exact .inl ⟨_, rfl, fr, l, rfl, hI', .inl k1⟩
      · rw [bif_f (by simp only [bEq_eq, bLt_eq, Bool.or_eq_false_iff, decide_eq_false_iff_not]; omega)]
        exact .inl ⟨_, rfl, fr, l, rfl, hI', .inr (by omega)⟩)
    (([] : List TFrame), H) ⟨by simp, by simp, h1, h2, h3, fun i hi => by simp at hi, .inr (by simpa using hm)⟩
  obtain ⟨fr, l, rfl, l2, l3⟩ := l2
  exact ⟨fr, l, l1, l2, l3⟩
theorem any_ok (l : List TStored) (d : Int) (hn : l.length <= 1000) (hc : C0 l) : F49_0 l d = some (decide (0 < cnt d l)) := by
  unfold F49_0 F68_0
  obtain ⟨r, l1, l2⟩ := loop_for (step := fun s => F68_0_L1 l d s) l.length (fun n => ∀ j : Nat, j < n -> Tl d (gd l j) = false)
    (fun r => match r with | .inl _ => ∀ j : Nat, j < l.length -> Tl d (gd l j) = false | .inr x => ∃ k : Nat, x = (k : Int) /\ k < l.length /\ Tl d (gd l k) = true) (fun i hi => by omega)
    (fun i hi hI => by
      unfold F68_0_L1
      rw [bif_t (by simp [bLt_eq]; omega), need_true (inb_nat hi), Int.toNat_natCast, told_ok _ _ (hc _ (gd_mem hi)), Option.bind_some]
      cases ht : Tl d (gd l i) with
      | true => exact .inl ⟨_, rfl, i, rfl, hi, ht⟩
      | false =>
        rw [cond_false, wr_add1 hi (by omega)]
        refine .inr ⟨rfl, fun j hj => ?_⟩
        rcases Nat.lt_or_eq_of_le (Nat.le_of_lt_succ hj) with h | rfl
        · exact hI j h
        · exact ht)
    (fun hI => by
      unfold F68_0_L1
      rw [bif_f (by simp [bLt_eq])]
      exact ⟨_, rfl, hI⟩)
  cases r with
  | inl u => rw [lp_inl l1, cnt_0.2 l2]; rfl
  | inr x =>
    obtain ⟨k, rfl, k1, k2⟩ := l2
    rw [lp_inr l1]
    have h : 0 < cnt d l := by
      rcases Nat.eq_zero_or_pos (cnt d l) with h | h
      · rw [cnt_0.1 h k k1] at k2; cases k2
      · exact h
    simp [bLe_eq, h]
theorem look_ok (l : List TSleeper) (aid : Int) (hn : l.length <= 1000) : (∃ a : Nat, a < l.length /\ (gd l a).Aid = aid /\ F52_1 l aid = some (a : Int)) ∨ (∀ a : Nat, a < l.length -> (gd l a).Aid ≠ aid) /\ F52_1 l aid = some (-1) := by
  unfold F52_1
  obtain ⟨r, l1, l2⟩ := loop_for (step := fun s => F52_1_L1 l aid s) l.length (fun n => ∀ j : Nat, j < n -> (gd l j).Aid ≠ aid)
    (fun r => match r with | .inl _ => ∀ j : Nat, j < l.length -> (gd l j).Aid ≠ aid | .inr x => ∃ k : Nat, x = (k : Int) /\ k < l.length /\ (gd l k).Aid = aid) (fun i hi => by omega)
    (fun i hi hI => by
      unfold F52_1_L1 F53_0
      rw [bif_t (by simp [bLt_eq]; omega), need_true (inb_nat hi), Int.toNat_natCast, Option.bind_some]
      by_cases hc : (gd l i).Aid = aid
      · rw [bif_t (by simp [bEq_eq, hc])]
        exact .inl ⟨_, rfl, i, rfl, hi, hc⟩
      · rw [bif_f (by simp [bEq_eq, hc]), wr_add1 hi (by omega)]
        refine .inr ⟨rfl, fun j hj => ?_⟩
        rcases Nat.lt_or_eq_of_le (Nat.le_of_lt_succ hj) with h | rfl
        · exact hI j h
        · exact hc)
    (fun hI => by
      unfold F52_1_L1
      rw [bif_f (by simp [bLt_eq])]
      exact ⟨_, rfl, hI⟩)
  cases r with
  | inl u => exact .inr ⟨l2, lp_inl l1⟩
  | inr x => obtain ⟨k, rfl, k1, k2⟩ := l2; exact .inl ⟨k, k1, k2, lp_inr l1⟩
def Mk (L : List TFrame) (m : Bool) : Prop := ∀ i : Nat, i < L.length -> (gd L i).Head.Eosp = decide (i + 1 = L.length) /\ (gd L i).Head.MoreData = (decide (i + 1 < L.length) || m) /\ Fq (gd L i)
def e1 (f : TFrame) : TFrame := TFrame.mk {f.Head with Eosp := true} f.Body
def m1 (f : TFrame) (m : Bool) : TFrame := TFrame.mk {f.Head with MoreData := m} f.Body
def Gd (b : TBuffer) (p : TTriggerPlan) (aid : Int) : Prop := Vb b /\ (((p.Start <= 15 /\ p.Deliver <= 15) /\ 0 <= p.Most) /\ p.Most <= 16) /\ (1 <= aid /\ aid <= 255) /\ ∃ a : Nat, a < b.List.length /\ (gd b.List a).Aid = aid /\ (gd b.List a).Asleep = true
theorem begin_ok (b : TBuffer) (p : TTriggerPlan) (aid : Int) (x y : A6u8) (hg : Ng b) (hq : Bq b) (h0 : ∀ s ∈ b.List, C0 s.Held) :
    (∃ c : Int, c ≠ 0 /\ ¬ Gd b p aid /\ F29 b p aid x y = some (TPeriod.mk 0 [], zB, c)) ∨
    ∃ (a : Nat) (L : List TFrame) (n : Nat) (l : List TStored), Gd b p aid /\ (0 <= p.Most /\ p.Most <= 16) /\ (1 <= aid /\ aid <= 255) /\ a < b.List.length /\ (gd b.List a).Aid = aid /\ (gd b.List a).Asleep = true /\
      n + l.length = (gd b.List a).Held.length /\ n + cnt p.Deliver l = cnt p.Deliver (gd b.List a).Held /\ Qu l b.Limit 3 /\ Sq l /\ C0 l /\ (p.Most = 0 ∨ (n : Int) <= p.Most) /\ (n = 0 -> cnt p.Deliver l = 0) /\ L.length = (if n = 0 then 1 else n) /\ Mk L (decide (0 < cnt p.Deliver l)) /\
      F29 b p aid x y = some (TPeriod.mk aid L, stB b a true l, 0) := by
  unfold F29
  have hl := hg.1
  rcases check_ok b hg with ⟨hv, hc⟩ | ⟨hv, hc⟩
  · rw [hc, Option.bind_some]
    unfold F20
    by_cases hp : ((p.Start <= 15 /\ p.Deliver <= 15) /\ 0 <= p.Most) /\ p.Most <= 16
    · have ep : (((bLt 15 p.Start || bLt 15 p.Deliver) || bLt p.Most 0) || bLt 16 p.Most) = false := by
        simp only [bLt_eq, Bool.or_eq_false_iff, decide_eq_false_iff_not]; omega
      rw [ep]
      simp only [cond_false, Option.isSome_some, gt_some, Bool.cond_self]
      rw [need_true rfl, bif_f (by rfl)]
      by_cases ha : 1 <= aid /\ aid <= 255
      · rw [bif_f (by simp [bLt_eq]; omega)]
        rcases look_ok b.List aid (by omega) with ⟨a, a1, a2, a3⟩ | ⟨a1, a3⟩
        · rw [a3, Option.bind_some, bif_f (by simp [bLt_eq]), need_true (inb_nat a1)]
          simp only [Int.toNat_natCast]
          rcases Bool.eq_false_or_eq_true (gd b.List a).Asleep with hs | hs
          · rw [bif_f (by rw [hs]; rfl), btwinf_ok a b a1 (Nb_of hg) hq, Option.bind_some, need_true (inb_nat a1)]
            have hh := hg.2.2 a a1
            obtain ⟨fr, l, l1, ⟨b1, b2, b3, b4, b5, b6, b7⟩, l3⟩ := outer_ok p b.Limit (gd b.List a).Held hp.1.2 (by omega) (hv.1.2 a a1).2.2.1 (hq.2 _ (gd_mem a1)) (h0 _ (gd_mem a1))
            rw [lp_inl l1, need_true (inb_nat a1)]
            simp only
            rw [any_ok l p.Deliver (by omega) b5, Option.bind_some]
            have eB : ({b with List := b.List.set a (TSleeper.mk (gd b.List a).Aid (gd b.List a).Asleep l)} : TBuffer) = stB b a true l := by rw [hs]; rfl
            by_cases hz : fr.length = 0
            · have c0 : cnt p.Deliver l = 0 := by
                rcases l3 with h | ⟨h1, h2⟩
                · exact h
                · omega
              rw [bif_t (by simp only [bEq_eq, decide_eq_true_eq]; omega)]
              refine .inr ⟨a, [TFrame.mk (THeader.mk 2 12 false true false false false false false 0 x y y (A6u8.mk 0 0 0 0 0 0) 0 0 0 0 false true) []], 0, l, ⟨hv, hp, ha, a, a1, a2, hs⟩, ⟨hp.1.2, hp.2⟩, ha, a1, a2, hs, by omega, by omega, b3, b4, b5, by omega, fun _ => c0, by rfl, ?_, by rw [← eB]; rfl⟩
              intro i hi
              obtain rfl : i = 0 := by simp at hi; omega
              rw [c0]
              exact ⟨rfl, rfl, by unfold Fq; exact Nat.zero_le _⟩
            · rw [bif_f (by simp only [bEq_eq, decide_eq_false_iff_not]; omega), wr_in (by omega), show (fr.length : Int) - 1 = ((fr.length - 1 : Nat) : Int) by omega, need_true (inb_nat (by omega))]
              simp only [Int.toNat_natCast, Option.bind_some]
              refine .inr ⟨a, (fr.set (fr.length - 1) (e1 (gd fr (fr.length - 1)))).set (fr.length - 1) (m1 (gd (fr.set (fr.length - 1) (e1 (gd fr (fr.length - 1)))) (fr.length - 1)) (decide (0 < cnt p.Deliver l))), fr.length, l, ⟨hv, hp, ha, a, a1, a2, hs⟩, ⟨hp.1.2, hp.2⟩, ha, a1, a2, hs, b1, b2, b3, b4, b5, b7, fun h => absurd h hz, ?_, ?_, by rw [← eB]; rfl⟩
              · rw [if_neg hz]; simp
              · intro i hi
                simp only [List.length_set] at hi ⊢
                by_cases e : i = fr.length - 1
                · subst e
                  rw [gd_set_eq (by simp; omega), gd_set_eq (by omega)]
                  exact ⟨by rw [decide_eq_true (show fr.length - 1 + 1 = fr.length by omega)]; rfl, by rw [decide_eq_false (show ¬ fr.length - 1 + 1 < fr.length by omega), Bool.false_or]; rfl, (b6 _ (by omega)).2.2⟩
                · rw [gd_set_ne (Ne.symm e), gd_set_ne (Ne.symm e)]
                  obtain ⟨q1, q2, q3⟩ := b6 i hi
                  exact ⟨by rw [q1, decide_eq_false (show ¬ i + 1 = fr.length by omega)], by rw [q2, decide_eq_true (show i + 1 < fr.length by omega)]; rfl, q3⟩
          · rw [bif_t (by rw [hs]; rfl)]
            exact .inl ⟨20, by omega, fun ⟨_, _, _, a', h1, h2, h3⟩ => (by rw [aid_inj hv h1 a1 (by rw [h2, a2]), hs] at h3; cases h3), rfl⟩
        · rw [a3, Option.bind_some, bif_t (by rfl)]
          exact .inl ⟨6, by omega, fun ⟨_, _, _, a', h1, h2, h3⟩ => a1 a' h1 h2, rfl⟩
      · rw [bif_t (by simp [bLt_eq]; omega)]
        exact .inl ⟨2, by omega, fun h => ha h.2.2.1, rfl⟩
    · have ep : (((bLt 15 p.Start || bLt 15 p.Deliver) || bLt p.Most 0) || bLt 16 p.Most) = true := by
        simp only [bLt_eq, Bool.or_eq_true, decide_eq_true_eq]; omega
      rw [ep]
      simp only [cond_true, Option.isSome_some, gt_some, Bool.cond_self]
      rw [need_true rfl, bif_t (by rfl)]
      exact .inl ⟨8, by omega, fun h => hp h.2.1, rfl⟩
  · rw [hc, Option.bind_some, need_true (by rfl), bif_t (by rfl)]
    exact .inl ⟨8, by omega, fun h => hv h.1, rfl⟩
end Go.Proofs.Ytnclkplbeenmdaa
