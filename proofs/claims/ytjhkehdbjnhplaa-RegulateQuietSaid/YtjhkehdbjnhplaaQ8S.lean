/-
  Regulate: one event of a cell.
-/
import Derived.Test.YtjhkehdbjnhplaaQ8R
namespace Go.Proofs.Ytjhkehdbjnhplaa
open Go.Am
set_option linter.unusedVariables false
set_option linter.unusedSimpArgs false
def st1 (w : Int) (s nx : TRegulate) (t : Int) (m : List (Int × Int)) : List (Int × Int) := bif ((bEq w 0 && nx.Stopped) && !s.Stopped) then updM m s.Channel t else m
def st2 (w : Int) (s nx : TRegulate) (t : Int) (m : List (Int × Int)) : List (Int × Int) := bif (bEq w 0 && !bEq nx.Channel s.Channel) then delM (st1 w s nx t m) nx.Channel else st1 w s nx t m
theorem upd_len (m : List (Int × Int)) (a b : Int) : (updM m a b).length <= m.length + 1 := by
  unfold updM; split
  · rw [List.length_map]; omega
  · rw [List.length_append]; simp
theorem st2_len (w : Int) (s nx : TRegulate) (t : Int) (m : List (Int × Int)) : (st2 w s nx t m).length <= m.length + 1 := by
  have h1 : (st1 w s nx t m).length <= m.length + 1 := by
    unfold st1
    cases (bEq w 0 && nx.Stopped) && !s.Stopped with
    | true => exact upd_len ..
    | false => exact Nat.le_succ _
  unfold st2
  cases (bEq w 0 && !bEq nx.Channel s.Channel) with
  | true => exact Nat.le_trans (List.length_filter_le ..) h1
  | false => exact h1
inductive Sp (t : Int) (all : List TRegulate) (sent : List TRegulateWord) (stop : List (Int × Int)) : List TRegulate -> List TRegulateWord -> List (Int × Int) -> Prop
  | no : Sp t all sent stop all sent stop
  | say (c : TRegulateChannel) (hc : c ∈ (gd all 0).Table) (hn : c.Number = (gd all 0).Channel) (h : Ma (gd all 0) c 0 t) : Sp t all sent stop all (sent ++ [⟨3, (gd all 0).Channel, 0, t⟩]) stop
  | mvd (w : Nat) (hw : w < all.length) (nx : TRegulate) (out : List TRegulateWord) (h : Nx sent t (gd all w) nx out) : Sp t all sent stop (all.set w nx) (sent ++ out) (st2 w (gd all w) nx t stop)
section
variable (l : List TEvent) (i : Nat) (now t : Int) (all : List TRegulate) (sent : List TRegulateWord) (stop : List (Int × Int))
theorem L6_ok (ht : wr .i64 (now + (gd l i).Wait) = t) (hm : stop.length <= 1000) (who : Nat) (nx : TRegulate) (out : List TRegulateWord) (e : Int) :
    loopD (fun _ : Unit => F8_L6 l i now all stop who (nx, out, e)) () = some (.inl (st1 who (gd all who) nx t stop)) := by
  refine loopD_done ?_
  unfold F8_L6 st1
  simp only [Int.toNat_natCast, ht]
  rw [need_true (b := decide _) (by simp; omega)]
  cases (bEq (who : Int) 0 && nx.Stopped) && !(gd all who).Stopped <;> rfl
theorem L9_ok (ht : wr .i64 (now + (gd l i).Wait) = t) (hm : stop.length <= 1000) (who : Nat) (nx : TRegulate) (out : List TRegulateWord) (e : Int) :
    loopD (fun _ : Unit => F8_L9 l i now all stop who (nx, out, e)) () = some (.inl (st1 who (gd all who) nx t stop)) := L6_ok l i now t all stop ht hm who nx out e
theorem L11_ok (ht : wr .i64 (now + (gd l i).Wait) = t) (hm : stop.length <= 1000) (who : Nat) (nx : TRegulate) (out : List TRegulateWord) (e : Int) :
    loopD (fun _ : Unit => F8_L11 l i now all stop who (nx, out, e)) () = some (.inl (st1 who (gd all who) nx t stop)) := L6_ok l i now t all stop ht hm who nx out e
theorem L7_ok (who : Nat) (nx : TRegulate) (out : List TRegulateWord) (e : Int) :
    loopD (fun _ : Unit => F8_L7 all who (nx, out, e) (st1 who (gd all who) nx t stop)) () = some (.inl (st2 who (gd all who) nx t stop)) := by
  refine loopD_done ?_
  unfold F8_L7 st2
  simp only [Int.toNat_natCast]
  cases (bEq (who : Int) 0 && !bEq nx.Channel (gd all who).Channel) <;> rfl
theorem L10_ok (who : Nat) (nx : TRegulate) (out : List TRegulateWord) (e : Int) :
    loopD (fun _ : Unit => F8_L10 all who (nx, out, e) (st1 who (gd all who) nx t stop)) () = some (.inl (st2 who (gd all who) nx t stop)) := L7_ok t all stop who nx out e
theorem L12_ok (who : Nat) (nx : TRegulate) (out : List TRegulateWord) (e : Int) :
    loopD (fun _ : Unit => F8_L12 all who (nx, out, e) (st1 who (gd all who) nx t stop)) () = some (.inl (st2 who (gd all who) nx t stop)) := L7_ok t all stop who nx out e
theorem L8_ok (ht : wr .i64 (now + (gd l i).Wait) = t) (hs : sent.length <= 1000) (who : Nat) (b : Bool) (e : Int) :
    loopD (fun _ : Unit => F8_L8 l i now all sent who (b, e)) () = some (.inl (bif b then sent ++ [⟨3, (gd all who).Channel, 0, t⟩] else sent)) := by
  refine loopD_done ?_
  unfold F8_L8
  simp only [Int.toNat_natCast, ht]
  rw [need_true (capb_iff.2 (by omega))]
  cases b <;> rfl
theorem step_is (ht : wr .i64 (now + (gd l i).Wait) = t) (mt : Mo t) (hw : 0 <= (gd l i).Who) (hp : 0 <= (gd l i).Pick) (ha : 0 < all.length /\ all.length <= 1000) (h3 : ∀ s ∈ all, S3 s) (hs : sent.length <= 1000) (hm : stop.length <= 1000) (hv : ∀ w ∈ sent, W3 w) :
    ∃ all' sent' stop', F8_L3 l i now all sent stop = some (.done (.inl (true, all', sent', stop'))) /\ Sp t all sent stop all' sent' stop' := by
  have hn : (!bEq (all.length : Nat) 0) = true := by simp [bEq_eq]; intro h; rw [h] at ha; exact absurd ha.1 (by decide)
  obtain ⟨who, w1, l4⟩ : ∃ who : Nat, (who < all.length /\ ((gd l i).Kind = 0 ∨ (gd l i).Kind = 2 -> who = 0)) /\ loopD (fun _ : Unit => F8_L4 l i all) () = some (.inl (who : Int)) := by
    by_cases hk : (gd l i).Kind = 0 ∨ (gd l i).Kind = 2
    · refine ⟨0, ⟨ha.1, fun _ => rfl⟩, loopD_done ?_⟩
      unfold F8_L4
      rw [Int.toNat_natCast, bif_t (by simpa [bEq_eq] using hk)]; rfl
    · obtain ⟨w, w1, w2⟩ := md_in (n := all.length) hw (by omega)
      refine ⟨w, ⟨w1, fun h => absurd h hk⟩, loopD_done ?_⟩
      unfold F8_L4
      rw [Int.toNat_natCast, bif_f (by simpa [bEq_eq] using hk), w2]
  have hib : inb (who : Int) all.length = true := inb_nat w1.1
  have hS : S3 (gd all who) := h3 _ (gd_mem w1.1)
  have l5 : loopD (fun _ : Unit => F8_L5 l i) () = some (.inl (bEq (gd l i).Kind 0 || bEq (gd l i).Kind 1)) := by
    refine loopD_done ?_
    unfold F8_L5
    rw [Int.toNat_natCast]
    cases bEq (gd l i).Kind 0 <;> rfl
  have hgr := S3_gr hS
  have hout : ∀ out : List TRegulateWord, out.length <= 1 -> capb 32 (sent.length + out.length) = true := fun out h => capb_iff.2 (by omega)
  unfold F8_L3
  rw [need_true hn, lp_inl l4, need_true hib, lp_inl l5]
  by_cases k01 : (gd l i).Kind = 0 ∨ (gd l i).Kind = 1
  · -- radar
    rw [bif_t (c := bEq _ _ || bEq _ _) (by simpa [bEq_eq] using k01)]
    simp only [Int.toNat_natCast, ht]
    rcases F22_ok (gd all who) (gd l i).Pick t hgr with ⟨q, _⟩ | ⟨_, q, _⟩ | ⟨_, _, _, _, e⟩ | ⟨_, _, _, hst, e⟩
    · exact absurd hS.1 q
    · exact absurd ⟨mt, hp⟩ q
    · rw [e, Option.bind_some]
      refine ⟨all, sent, stop, ?_, .no⟩
      rw [bif_t (by show (!bEq (20 : Int) 0) = true; decide)]
      have : bLe (gd l i).Kind 3 = true := by simp [bLe_eq]; omega
      rw [this]; rfl
    · have hx : Nx sent t (gd all who) (rad (gd all who) (gd l i).Pick t).2 (rad (gd all who) (gd l i).Pick t).1 := .radar _ hp hst
      obtain ⟨_, _, x3, _⟩ := Nx_keep hx hS mt hv
      refine ⟨_, _, _, ?_, .mvd who w1.1 _ _ hx⟩
      rw [e, Option.bind_some, bif_f (by show (!bEq (0 : Int) 0) = false; decide)]
      rw [lp_inl (L6_ok l i now t all stop ht hm who _ _ _), lp_inl (L7_ok t all stop who _ _ _), need_true hib, need_true (hout _ x3)]
  · rw [bif_f (c := bEq _ _ || bEq _ _) (by simpa [bEq_eq] using k01)]
    by_cases k2 : (gd l i).Kind = 2
    · -- here
      obtain rfl := w1.2 (.inr k2)
      rw [bif_t (c := bEq _ 2) (by simp [bEq_eq, k2])]
      simp only [Int.toNat_natCast, ht]
      rcases F17_ok (gd all 0) 0 t (Gr_of hgr) with ⟨q, _⟩ | ⟨_, q, _⟩ | ⟨_, _, k⟩
      · exact absurd hS.1 q
      · exact absurd mt q
      · obtain ⟨c, hc, ec⟩ := hS.1.2.1
        obtain ⟨b, e, eb⟩ := k c hc ec
        rw [e, Option.bind_some, bif_f (by show (!bEq (0 : Int) 0) = false; decide)]
        have l8 := L8_ok l i now t all sent ht hs 0 b 0
        cases b with
        | false => exact ⟨all, sent, stop, by rw [lp_inl l8]; rfl, .no⟩
        | true => exact ⟨_, _, _, by rw [lp_inl l8]; rfl, .say c hc ec (eb.1 rfl)⟩
    · rw [bif_f (c := bEq _ 2) (by simp [bEq_eq, k2])]
      by_cases k3 : (gd l i).Kind = 3
      · rw [bif_t (c := bEq _ 3) (by simp [bEq_eq, k3])]
        by_cases hz : sent.length = 0
        · rw [bif_t (c := bEq _ 0) (by simp [bEq_eq]; exact List.length_eq_zero_iff.1 hz)]
          exact ⟨all, sent, stop, rfl, .no⟩
        · obtain ⟨j, j1, j2⟩ := md_in (n := sent.length) hp hz
          rw [bif_f (c := bEq _ 0) (by simp [bEq_eq]; exact fun h => hz (by rw [h]; rfl)), need_true (by simp [bEq_eq]; exact fun h => hz (by rw [h]; rfl))]
          simp only [Int.toNat_natCast, ht, j2]
          rw [need_true (inb_nat j1)]
          rcases han_is sent (gd all who) (gd sent j) (gd l i).Pick t hS mt hp (hv _ (gd_mem j1)) (gd_mem j1) with ⟨x, e⟩ | ⟨nx, out, e, hx⟩
          · rw [e, Option.bind_some]
            refine ⟨all, sent, stop, ?_, .no⟩
            rw [bif_t (by show (!bEq (21 : Int) 0) = true; decide)]
            have : bLe (gd l i).Kind 3 = true := by simp [bLe_eq]; omega
            rw [this]; rfl
          · obtain ⟨_, _, x3, _⟩ := Nx_keep hx hS mt hv
            refine ⟨_, _, _, ?_, .mvd who w1.1 _ _ hx⟩
            rw [e, Option.bind_some, bif_f (by show (!bEq (0 : Int) 0) = false; decide)]
            rw [lp_inl (L9_ok l i now t all stop ht hm who _ _ _), lp_inl (L10_ok t all stop who _ _ _), need_true hib, need_true (hout _ x3)]
      · rw [bif_f (c := bEq _ 3) (by simp [bEq_eq, k3])]
        simp only [Int.toNat_natCast, ht]
        rcases F23_ok (gd all who) t (Gr_of hgr) with ⟨q, _⟩ | ⟨_, q, _⟩ | ⟨_, _, e⟩
        · exact absurd hS.1 q
        · exact absurd mt q
        · have hx : Nx sent t (gd all who) (tik (gd all who) t) (tiw (gd all who) t) := .tick
          obtain ⟨_, _, x3, _⟩ := Nx_keep hx hS mt hv
          refine ⟨_, _, _, ?_, .mvd who w1.1 _ _ hx⟩
          rw [e, Option.bind_some, bif_f (by show (!bEq (0 : Int) 0) = false; decide)]
          rw [lp_inl (L11_ok l i now t all stop ht hm who _ _ _), lp_inl (L12_ok t all stop who _ _ _), need_true hib, need_true (hout _ x3)]
theorem step_ok (ht : wr .i64 (now + (gd l i).Wait) = t) (mt : Mo t) (hw : 0 <= (gd l i).Who) (hp : 0 <= (gd l i).Pick) (ha : 0 < all.length /\ all.length <= 1000) (h3 : ∀ s ∈ all, S3 s) (hs : sent.length <= 1000) (hm : stop.length <= 1000) (hv : ∀ w ∈ sent, W3 w) :
    ∃ all' sent' stop', loopD (fun _ : Unit => F8_L3 l i now all sent stop) () = some (.inl (true, all', sent', stop')) /\ Sp t all sent stop all' sent' stop' := by
  obtain ⟨a, b, c, h, hs⟩ := step_is l i now t all sent stop ht mt hw hp ha h3 hs hm hv
  exact ⟨a, b, c, loopD_done (step := fun _ : Unit => F8_L3 l i now all sent stop) h, hs⟩
end
end Go.Proofs.Ytjhkehdbjnhplaa
