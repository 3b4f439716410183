/-
  ForwardOnce: what receiving gives, in the valid case; the law.
-/
import Derived.Test.YtbahnppiobafoaaFI
namespace Go.Proofs.Ytbahnppiobafoaa
open Go.Am
set_option linter.unusedVariables false
set_option linter.unusedSimpArgs false
theorem alive_ok : F26 = some true := by kernel_rfl
theorem F43_ok (r : TForward) (a : A6u8) (h2 : r.Nexts.length <= 1000) : F43 r a = some (⟨0, 0, 0, 0, 0, 0⟩, false) ∨ ∃ i, i < r.Nexts.length /\ F43 r a = some ((gd r.Nexts i).Next, true) := by
  unfold F43 F61_0
  rcases first_gen (step := fun z => F61_0_L1 r.Nexts a z) (E := Unit) (R := Int) r.Nexts.length (fun i => (gd r.Nexts i).Dest = a) (fun i => (i : Int)) () (fun i hi _ => by
      show (_ /\ F61_0_L1 r.Nexts a i = _) ∨ (_ /\ F61_0_L1 r.Nexts a i = _)
      unfold F61_0_L1 F62_0
      simp only [Int.toNat_natCast, eta_A6u8, eta_TForwardHop]
      rw [bif_t (c := bLt _ _) (by simp [bLt_eq]; omega), need_true (inb_nat hi), Option.bind_some, wr_add1 hi (by omega), ae_def]
      by_cases h : (gd r.Nexts i).Dest = a
      · exact .inr ⟨h, by rw [bif_t (ae_iff.2 h)]⟩
      · exact .inl ⟨h, by rw [bif_f (ae_no h)]⟩)
    (by show F61_0_L1 r.Nexts a _ = _; unfold F61_0_L1; rw [bif_f (by simp [bLt_eq])]) with ⟨p1, p2⟩ | ⟨i, i1, i2, i3, i4⟩
  · rw [lp_inl p2, Option.bind_some, bif_t (by rfl)]; exact .inl rfl
  · rw [lp_inr i4, Option.bind_some, bif_f (by simp only [bLt_eq, decide_eq_false_iff_not]; omega), need_true (inb_nat i1), Int.toNat_natCast]
    exact .inr ⟨i, i1, rfl⟩
def rem (s : TForward) (a : TForwardMark) : TForward := ⟨s.Own, s.Seq, s.Seen ++ [a], s.Nexts⟩
theorem rmb_new (s : TForward) (a : TForwardMark) (h : a ∉ s.Seen) (hl : s.Seen.length <= 100) : rmb s a = s.Seen ++ [a] := by
  have hk : kept s a = s.Seen := List.filter_eq_self.2 fun q hq => by rw [me_no fun e => h (by rw [← e]; exact hq)]; rfl
  unfold rmb
  rw [hk, bif_f (by simp only [decide_eq_false_iff_not]; omega)]
theorem Vf_rem (s : TForward) (a : TForwardMark) (hv : Vf s) (h : a ∉ s.Seen) (ha : 0 <= a.Seq /\ a.Seq < 65536) (hl : s.Seen.length <= 100) : Vf (rem s a) := by
  obtain ⟨v1, v2, v3, v4, v5, v6⟩ := hv
  refine ⟨v1, v2, by show (s.Seen ++ [a]).length <= 128; simp; omega, v4, fun i hi => ?_, v6⟩
  unfold Vs1
  show (0 <= (gd (s.Seen ++ [a]) i).Seq /\ (gd (s.Seen ++ [a]) i).Seq < 65536) /\ gd (s.Seen ++ [a]) i ∉ (s.Seen ++ [a]).take i
  have hi' : i < s.Seen.length + 1 := by simpa [rem] using hi
  by_cases h2 : i < s.Seen.length
  · rw [gd_app1 h2, List.take_append_of_le_length (by omega)]
    exact v5 i h2
  · have e : i = s.Seen.length := by omega
    subst e
    rw [gd_app2 (Nat.le_refl _), Nat.sub_self, List.take_append_of_le_length (Nat.le_refl _), List.take_length]
    exact ⟨ha, h⟩
theorem Fw_rem (s : TForward) (a : TForwardMark) (hs : Fw s) (ha : Ab a.Enter) : Fw (rem s a) := by
  refine ⟨hs.1, fun q hq => ?_, hs.2.2⟩
  rcases List.mem_append.1 hq with h | h
  · exact hs.2.1 q h
  · rw [List.mem_singleton.1 h]; exact ha
def Rc (s : TForward) (m : TMeshFrame) (v : TForward × Int × TMeshFrame × Int) : Prop :=
  v.2.2.2 = 0 /\ ((v.1 = s /\ v.2.1 = 0) ∨ ((⟨m.Enter, m.Seq⟩ : TForwardMark) ∉ s.Seen /\ v.1 = rem s ⟨m.Enter, m.Seq⟩ /\
    (v.2.1 = 0 ∨ v.2.1 = 1 ∨ v.2.1 = 4 ∨ ((v.2.1 = 2 ∨ v.2.1 = 3) /\ v.2.2.1.Ttl = m.Ttl - 1 /\ v.2.2.1.From = s.Own /\ Vm v.2.2.1 /\ Fb v.2.2.1))))
theorem F20_ok (s : TForward) (m : TMeshFrame) (hs : Fw s) (hm : Fb m) (hv : Vf s) (hw : Vm m) (hl : s.Seen.length <= 100) (h3 : m.Data.length <= 2400) : ∃ v, F20 s m = some v /\ Rc s m v := by
  obtain ⟨v1, v2, v3, v4, v5, v6⟩ := id hv
  obtain ⟨w1, w2, w3, w4, w5, w6⟩ := id hw
  unfold F20
  simp only [eta_A6u8, eta_TForward, eta_TMeshFrame, eta_TForwardMark]
  rcases F27_ok s hs (by omega) (by omega) with ⟨_, e⟩ | ⟨n, _⟩
  · rcases F23_ok m hm with ⟨_, f⟩ | ⟨n, _⟩
    · rw [e, f, F39_ok hm.2.1, F40_ok _ _ (by omega), F41_ok s (by omega) (by omega), F42_ok s _ _ v3 (by omega), F37_ok _ h3]
      have hu : ∃ u, F43 ⟨s.Own, s.Seq, rmb s ⟨m.Enter, m.Seq⟩, s.Nexts⟩ m.Leave = some u /\ (u.2 = true -> grp u.1 = false /\ Ab u.1) := by
        rcases F43_ok ⟨s.Own, s.Seq, rmb s ⟨m.Enter, m.Seq⟩, s.Nexts⟩ m.Leave (by show s.Nexts.length <= 1000; omega) with q | ⟨i, hi, q⟩
        · exact ⟨_, q, fun h => absurd h (by decide)⟩
        · exact ⟨_, q, fun _ => ⟨(v6 i hi).2.2.2.1, (hs.2.2 _ (gd_mem hi)).2⟩⟩
      obtain ⟨u, u1, u2⟩ := hu
      simp only [Option.bind_some, Option.isSome_some, Bool.cond_self, need_true, gt_some, ae_def, u1]
      rw [bif_f (c := !bEq 0 0 || !bEq 0 0) (by rfl)]
      have hwr : bEq m.Ttl 1 = false -> wr .i64 (m.Ttl - 1) = m.Ttl - 1 /\ 1 <= m.Ttl - 1 := fun h => by
        simp only [bEq_eq, decide_eq_false_iff_not] at h
        exact ⟨wr_in (by omega), by omega⟩
      cases hd : ((!grp m.To && !ae m.To s.Own || ae m.Enter s.Own || ae m.From s.Own) || inM s.Seen ⟨m.Enter, m.Seq⟩)
      · have hn : (⟨m.Enter, m.Seq⟩ : TForwardMark) ∉ s.Seen := fun q => by
          rw [(inM_iff s.Seen _).2 q] at hd; simp at hd
        have hr : (⟨s.Own, s.Seq, rmb s ⟨m.Enter, m.Seq⟩, s.Nexts⟩ : TForward) = rem s ⟨m.Enter, m.Seq⟩ := by rw [rmb_new s _ hn hl]; rfl
        simp only [cond_false]
        cases hle : ae m.Leave s.Own
        · cases hg : grp m.To
          · cases ht : bEq m.Ttl 1
            · cases hu : u.2
              · exact ⟨_, rfl, rfl, .inr ⟨hn, hr, .inr (.inr (.inl rfl))⟩⟩
              · refine ⟨_, rfl, rfl, .inr ⟨hn, hr, .inr (.inr (.inr ⟨.inl rfl, (hwr ht).1, rfl, ?_, ?_⟩))⟩⟩
                · refine ⟨v1, w2, ?_, w4, ?_, w6⟩
                  · show grp u.1 = grp m.Leave
                    rw [(u2 hu).1, ← w3, hg]
                  · show 1 <= wr .i64 (m.Ttl - 1) /\ wr .i64 (m.Ttl - 1) <= 31
                    rw [(hwr ht).1]; have := (hwr ht).2; omega
                · exact ⟨hs.1, (u2 hu).2, hm.2.2.1, hm.2.2.2.1, hm.2.2.2.2.1, hm.2.2.2.2.2.1, hm.2.2.2.2.2.2⟩
            · exact ⟨_, rfl, rfl, .inr ⟨hn, hr, .inl rfl⟩⟩
          · cases ht : bEq m.Ttl 1
            · refine ⟨_, rfl, rfl, .inr ⟨hn, hr, .inr (.inr (.inr ⟨.inr rfl, (hwr ht).1, rfl, ?_, ?_⟩))⟩⟩
              · refine ⟨v1, w2, w3, w4, ?_, w6⟩
                show 1 <= wr .i64 (m.Ttl - 1) /\ wr .i64 (m.Ttl - 1) <= 31
                rw [(hwr ht).1]; have := (hwr ht).2; omega
              · exact ⟨hs.1, hm.2.1, hm.2.2.1, hm.2.2.2.1, hm.2.2.2.2.1, hm.2.2.2.2.2.1, hm.2.2.2.2.2.2⟩
            · exact ⟨_, rfl, rfl, .inr ⟨hn, hr, .inr (.inl rfl)⟩⟩
        · exact ⟨_, rfl, rfl, .inr ⟨hn, hr, .inr (.inl rfl)⟩⟩
      · exact ⟨_, rfl, rfl, .inl ⟨rfl, rfl⟩⟩
    · exact absurd hw n
  · exact absurd hv n
theorem F20_no (s : TForward) (m : TMeshFrame) (hs : Fw s) (hm : Fb m) (hv : Vf s) (hw : ¬ Vm m) : ∃ v, F20 s m = some v /\ v.2.2.2 = 8 := by
  have v3 := hv.2.2.1
  have v4 := hv.2.2.2.1
  unfold F20
  simp only [eta_A6u8, eta_TForward, eta_TMeshFrame, eta_TForwardMark]
  rcases F27_ok s hs (by omega) (by omega) with ⟨_, e⟩ | ⟨n, _⟩
  · rcases F23_ok m hm with ⟨n, _⟩ | ⟨_, f⟩
    · exact absurd n hw
    · rw [e, f]; exact ⟨_, rfl, rfl⟩
  · exact absurd hv n
abbrev St := Int × Int × Int × Int × Int × Int × Int × Int × (List TForwardMark) × (List TForwardHop) × (List TForwardMark)
def sOf (z : St) : TForward := ⟨⟨z.2.1, z.2.2.1, z.2.2.2.1, z.2.2.2.2.1, z.2.2.2.2.2.1, z.2.2.2.2.2.2.1⟩, z.2.2.2.2.2.2.2.1, z.2.2.2.2.2.2.2.2.1, z.2.2.2.2.2.2.2.2.2.1⟩
def dOf (z : St) : List TForwardMark := z.2.2.2.2.2.2.2.2.2.2
def mkS (i : Int) (s : TForward) (d : List TForwardMark) : St := (i, s.Own.x0, s.Own.x1, s.Own.x2, s.Own.x3, s.Own.x4, s.Own.x5, s.Seq, s.Seen, s.Nexts, d)
theorem mkS_of (z : St) : z = mkS z.1 (sOf z) (dOf z) := rfl
end Go.Proofs.Ytbahnppiobafoaa
