/-
  Forward: receiving a frame, by the program and by the reference.
-/
import Derived.Test.YtbahnppiobafoaaFH
namespace Go.Proofs.Ytbahnppiobafoaa
open Go.Am
set_option linter.unusedVariables false
set_option linter.unusedSimpArgs false
theorem F41_ok (s : TForward) (h1 : s.Seen.length ≤ 1000) (h2 : s.Nexts.length ≤ 1000) : F41 s = some s := by
  unfold F41 F55 F59
  rw [nd_cap (by omega) (by omega), nd_cap (by omega) (by omega)]
  rfl
theorem F19_ok (s : TForward) (h1 : s.Seen.length ≤ 1000) (h2 : s.Nexts.length ≤ 1000) : F19 s = some s := by
  unfold F19
  rw [nd_cap (by omega) (by omega), nd_cap (by omega) (by omega)]
  rfl
theorem F11_ok (m : TMeshFrame) (h : m.Data.length ≤ 2400) : F11 m = some m := by
  unfold F11; rw [nd_cap (by omega) (by omega)]; rfl
theorem F37_ok (l : List Int) (h : l.length ≤ 2400) : F37 l = some l := by
  unfold F37; rw [nd_cap (by omega) (by omega)]
def kept (s : TForward) (a : TForwardMark) : List TForwardMark := s.Seen.filter fun q => !me q a
def rmb (s : TForward) (a : TForwardMark) : List TForwardMark := bif decide (128 < (kept s a).length + 1) then (kept s a ++ [a]).drop 1 else kept s a ++ [a]
theorem kept_len (s : TForward) (a : TForwardMark) : (kept s a).length ≤ s.Seen.length := List.length_filter_le _ _
theorem rmb_len (s : TForward) (a : TForwardMark) : (rmb s a).length ≤ s.Seen.length + 1 := by
  have := kept_len s a
  unfold rmb
  cases decide (128 < (kept s a).length + 1)
  · simp; omega
  · simp; omega
theorem F54_ok (l : List TForwardMark) (a : TForwardMark) (hl : l.length ≤ 1000) : F54_0 l a = some (l.filter fun q => !me q a) := by
  unfold F54_0 F69_0
  exact del_gen l (fun q => me q a) (fun q => F60_0 q a) (by omega) (fun q _ => rfl) (step1 := fun s => F69_0_L1 l a s) (fun s => rfl) (step2 := fun s => F54_0_L1 a s.1 s.2.1 s.2.2) (fun s => rfl)
theorem F42_ok (s : TForward) (a : A6u8) (q : Int) (h1 : s.Seen.length ≤ 128) (h2 : s.Nexts.length ≤ 1000) : F42 s a q = some ⟨s.Own, s.Seq, rmb s ⟨a, q⟩, s.Nexts⟩ := by
  unfold F42
  have hk := kept_len s ⟨a, q⟩
  rw [F41_ok s (by omega) h2, Option.bind_some]
  simp only [eta_A6u8]
  rw [F54_ok _ _ (by omega), Option.bind_some]
  show need (capb 16 ((kept s ⟨a, q⟩).length + 1)) (bif bLt 128 (((kept s ⟨a, q⟩).length + 1 : Nat) : Int) then _ else _) = _
  rw [nd_cap (by omega) (by omega)]
  unfold rmb
  by_cases h : 128 < (kept s ⟨a, q⟩).length + 1
  · rw [bif_t (c := bLt _ _) (by simp only [bLt_eq, decide_eq_true_eq]; omega), bif_t (c := decide _) (by simp only [decide_eq_true_eq]; omega), nd_slb (by omega) (by omega) (by omega)]
    rfl
  · rw [bif_f (c := bLt _ _) (by simp only [bLt_eq, decide_eq_false_iff_not]; omega), bif_f (c := decide _) (by simp only [decide_eq_false_iff_not]; omega)]
    rfl
theorem F46_ok (s : TForward) (a : TForwardMark) (h1 : s.Seen.length ≤ 128) (h2 : s.Nexts.length ≤ 1000) : F46 s a = some ⟨s.Own, s.Seq, rmb s a, s.Nexts⟩ := by
  unfold F46
  have hk := kept_len s a
  rw [F19_ok s (by omega) h2, Option.bind_some]
  have l1 := run_gen (step := fun z : Int × List TForwardMark => F46_L1 s a z.1 z.2) (E := List TForwardMark) (R := TForward) s.Seen.length (fun i => ((i : Int), (s.Seen.take i).filter fun q => !me q a)) (kept s a)
    (fun i hi => by
      have hle := List.length_filter_le (fun q => !me q a) (s.Seen.take i)
      rw [List.length_take] at hle
      rw [take_fil (fun q => !me q a) s.Seen hi]
      show F46_L1 s a i _ = _
      unfold F46_L1
      simp only [Int.toNat_natCast, eta_A6u8, eta_TForwardMark]
      rw [bif_t (c := bLt _ _) (by simp [bLt_eq]; omega), need_true (inb_nat hi), need_true (inb_nat hi), me_def, wr_add1 hi (by omega), nd_cap (by omega) (by omega)]
      cases me (gd s.Seen i) a <;> rfl)
    (by show F46_L1 s a _ _ = _; unfold F46_L1; rw [bif_f (by simp [bLt_eq]), List.take_length]; rfl)
  have l1' : loopD (fun z : Int × List TForwardMark => F46_L1 s a z.1 z.2) (0, []) = some (.inl (kept s a)) := l1
  rw [lp_inl l1', nd_cap (by omega) (by omega), Option.bind_some, Option.bind_some]
  have l2 : loopD (fun z => F46_L2 z) (kept s a ++ [a]) = some (.inl (rmb s a)) := by
    have dn : ∀ L : List TForwardMark, L.length ≤ 128 → F46_L2 L = some (.done (.inl L)) := fun L h => by
      unfold F46_L2; rw [bif_f (by simp only [bLt_eq, decide_eq_false_iff_not]; omega)]
    unfold rmb
    by_cases h : 128 < (kept s a).length + 1
    · rw [bif_t (c := decide _) (by simp only [decide_eq_true_eq]; omega)]
      have hlen : (kept s a ++ [a]).length = (kept s a).length + 1 := by simp
      rw [loopD_next (s' := (kept s a ++ [a]).drop 1) (by
        unfold F46_L2
        rw [bif_t (c := bLt _ _) (by simp only [bLt_eq, decide_eq_true_eq]; omega), nd_slb (by omega) (by omega) (by omega)])]
      exact loopD_done (dn _ (by simp; omega))
    · rw [bif_f (c := decide _) (by simp only [decide_eq_false_iff_not]; omega)]
      exact loopD_done (dn _ (by simp; omega))
  rw [lp_inl l2]
theorem next_eq (r s : TForward) (a : A6u8) (hr : r.Nexts = s.Nexts) (h2 : s.Nexts.length ≤ 1000) : ∃ v, F43 r a = some v ∧ F47 s a = some v := by
  unfold F43 F61_0 F47
  rw [hr]
  have p := first_gen (step := fun z => F61_0_L1 s.Nexts a z) (E := Unit) (R := Int) s.Nexts.length (fun i => (gd s.Nexts i).Dest = a) (fun i => (i : Int)) () (fun i hi _ => by
      show (_ ∧ F61_0_L1 s.Nexts a i = _) ∨ (_ ∧ F61_0_L1 s.Nexts a i = _)
      unfold F61_0_L1 F62_0
      simp only [Int.toNat_natCast, eta_A6u8, eta_TForwardHop]
      rw [bif_t (c := bLt _ _) (by simp [bLt_eq]; omega), need_true (inb_nat hi), Option.bind_some, wr_add1 hi (by omega), ae_def]
      by_cases h : (gd s.Nexts i).Dest = a
      · exact .inr ⟨h, by rw [bif_t (ae_iff.2 h)]⟩
      · exact .inl ⟨h, by rw [bif_f (ae_no h)]⟩)
    (by show F61_0_L1 s.Nexts a _ = _; unfold F61_0_L1; rw [bif_f (by simp [bLt_eq])])
  have q := first_gen (step := fun z => F47_L1 s a z) (E := Unit) (R := A6u8 × Bool) s.Nexts.length (fun i => (gd s.Nexts i).Dest = a) (fun i => ((gd s.Nexts i).Next, true)) () (fun i hi _ => by
      show (_ ∧ F47_L1 s a i = _) ∨ (_ ∧ F47_L1 s a i = _)
      unfold F47_L1
      simp only [Int.toNat_natCast, eta_A6u8, eta_TForwardHop]
      rw [bif_t (c := bLt _ _) (by simp [bLt_eq]; omega), need_true (inb_nat hi), need_true (inb_nat hi), wr_add1 hi (by omega), ae_def]
      by_cases h : (gd s.Nexts i).Dest = a
      · exact .inr ⟨h, by rw [bif_t (ae_iff.2 h)]⟩
      · exact .inl ⟨h, by rw [bif_f (ae_no h)]⟩)
    (by show F47_L1 s a _ = _; unfold F47_L1; rw [bif_f (by simp [bLt_eq])])
  rcases p with ⟨p1, p2⟩ | ⟨i, i1, i2, i3, i4⟩ <;> rcases q with ⟨q1, q2⟩ | ⟨j, j1, j2, j3, j4⟩
  · rw [lp_inl p2, lp_inl q2, Option.bind_some, bif_t (by rfl)]; exact ⟨_, rfl, rfl⟩
  · exact absurd j2 (p1 j j1)
  · exact absurd i2 (q1 i i1)
  · have hij : i = j := by
      rcases Nat.lt_trichotomy i j with h | h | h
      · exact absurd i2 (j3 i h)
      · exact h
      · exact absurd j2 (i3 j h)
    subst hij
    rw [lp_inr i4, lp_inr j4, Option.bind_some, bif_f (by simp only [bLt_eq, decide_eq_false_iff_not]; omega), need_true (inb_nat i1), Int.toNat_natCast]
    exact ⟨_, rfl, rfl⟩
def Rl (v : TForward × Int × TMeshFrame × Int) : Prop := v.1.Seen.length ≤ 1000 ∧ v.1.Nexts.length ≤ 1000 ∧ v.2.2.1.Data.length ≤ 10000
theorem rec_eq (s : TForward) (m : TMeshFrame) (hs : Fw s) (hm : Fb m) (h1 : s.Seen.length ≤ 140) (h2 : s.Nexts.length ≤ 80) (h3 : m.Data.length ≤ 2400) : ∃ v, F20 s m = some v ∧ F21 s m = some v ∧ Rl v := by
  unfold F20 F21
  simp only [eta_A6u8, eta_TForward, eta_TMeshFrame, eta_TForwardMark]
  have hz : Rl ((⟨⟨0, 0, 0, 0, 0, 0⟩, 0, [], []⟩ : TForward), (0 : Int), (⟨⟨0, 0, 0, 0, 0, 0⟩, ⟨0, 0, 0, 0, 0, 0⟩, ⟨0, 0, 0, 0, 0, 0⟩, ⟨0, 0, 0, 0, 0, 0⟩, ⟨0, 0, 0, 0, 0, 0⟩, ⟨0, 0, 0, 0, 0, 0⟩, 0, 0, []⟩ : TMeshFrame), (8 : Int)) := by simp [Rl]
  rcases F27_ok s hs (by omega) (by omega) with ⟨v, e⟩ | ⟨v, e⟩ <;> rcases F44_ok s hs (by omega) (by omega) with ⟨v', e'⟩ | ⟨v', e'⟩
  · rcases F23_ok m hm with ⟨w, f⟩ | ⟨w, f⟩ <;> rcases F24_ok m hm with ⟨w', f'⟩ | ⟨w', f'⟩
    · obtain ⟨_, _, v3, v4, _, _⟩ := v
      rw [e, e', f, f', F39_ok hm.2.1, F45_ok hm.2.1, F40_ok _ _ (by omega), F28_ok _ _ (by omega), F41_ok s (by omega) (by omega), F19_ok s (by omega) (by omega), F42_ok s _ _ v3 (by omega), F46_ok s _ v3 (by omega), F37_ok _ h3]
      obtain ⟨u, u1, u2⟩ := next_eq ⟨s.Own, s.Seq, rmb s ⟨m.Enter, m.Seq⟩, s.Nexts⟩ s m.Leave rfl (by omega)
      simp only [Option.bind_some, Option.isSome_some, Bool.cond_self, need_true, gt_some, ae_def, u1, u2]
      rw [bif_f (c := !bEq 0 0 || !bEq 0 0) (by rfl), bif_f (c := !bEq 0 0 || !bEq 0 0) (by rfl)]
      have hr := rmb_len s ⟨m.Enter, m.Seq⟩
      cases hd : ((!grp m.To && !ae m.To s.Own || ae m.Enter s.Own || ae m.From s.Own) || inM s.Seen ⟨m.Enter, m.Seq⟩)
      · simp only [cond_false]
        cases hl : ae m.Leave s.Own
        · cases hg : grp m.To
          · cases ht : bEq m.Ttl 1
            · cases hu : u.2
              · exact ⟨_, rfl, rfl, by simp [Rl]; omega⟩
              · exact ⟨_, rfl, rfl, by simp [Rl]; omega⟩
            · exact ⟨_, rfl, rfl, by simp [Rl]; omega⟩
          · cases ht : bEq m.Ttl 1
            · exact ⟨_, rfl, rfl, by simp [Rl]; omega⟩
            · exact ⟨_, rfl, rfl, by simp [Rl]; omega⟩
        · exact ⟨_, rfl, rfl, by simp [Rl]; omega⟩
      · exact ⟨_, rfl, rfl, by simp [Rl]; omega⟩
    · exact absurd w w'
    · exact absurd w' w
    · rw [e, e', f, f']; exact ⟨_, rfl, rfl, hz⟩
  · exact absurd v v'
  · exact absurd v' v
  · rw [e, e']; exact ⟨_, rfl, rfl, hz⟩
theorem F22_refl (s : TForward) (h1 : s.Seen.length ≤ 1000) (h2 : s.Nexts.length ≤ 1000) : F22 s s = some true := by
  unfold F22
  rw [bif_f (by simp [bEq_eq])]
  have l1 : loopD (fun z : Int => F22_L1 s s z) 0 = some (.inl ()) := (run_gen (step := fun z : Int => F22_L1 s s z) (E := Unit) (R := Bool) s.Seen.length (fun i => (i : Int)) () (fun i hi => by
      show F22_L1 s s i = _
      unfold F22_L1
      rw [bif_t (c := bLt _ _) (by simp [bLt_eq]; omega), need_true (inb_nat hi), need_true (inb_nat hi), wr_add1 hi (by omega), bif_f (by simp [bEq_eq])])
    (by show F22_L1 s s _ = _; unfold F22_L1; rw [bif_f (by simp [bLt_eq])]))
  have l2 : loopD (fun z : Int => F22_L2 s s z) 0 = some (.inl ()) := (run_gen (step := fun z : Int => F22_L2 s s z) (E := Unit) (R := Bool) s.Nexts.length (fun i => (i : Int)) () (fun i hi => by
      show F22_L2 s s i = _
      unfold F22_L2
      rw [bif_t (c := bLt _ _) (by simp [bLt_eq]; omega), need_true (inb_nat hi), need_true (inb_nat hi), wr_add1 hi (by omega), bif_f (by simp [bEq_eq])])
    (by show F22_L2 s s _ = _; unfold F22_L2; rw [bif_f (by simp [bLt_eq])]))
  rw [lp_inl l1, lp_inl l2]
theorem strL_inj : ∀ {a b : List Int}, By a → By b → strL a = strL b → a = b := by
  intro a b ha hb h
  have h2 : (a.map fun q => q.toNat.toUInt8) = (b.map fun q => q.toNat.toUInt8) := by
    have := congrArg (fun x : ByteArray => x.data.toList) h
    simpa [strL] using this
  have dec : ∀ l : List Int, By l → (l.map fun q => q.toNat.toUInt8).map (fun u => ((u.toNat : Nat) : Int)) = l := fun l hl => by
    rw [List.map_map]
    refine (List.map_congr_left fun q hq => ?_).trans (List.map_id l)
    have := hl q hq
    show ((q.toNat.toUInt8.toNat : Nat) : Int) = q
    rw [show q.toNat.toUInt8.toNat = q.toNat % 256 from rfl]
    omega
  rw [← dec a ha, ← dec b hb, h2]
theorem F49_ok (a b : List Int) (ha : By a) (hb : By b) : ∃ c, F49 a b = some c ∧ (c = true ↔ a = b) := by
  unfold F49
  rw [need_true (by rw [u8b_enR (f := c_u8) (fun _ => rfl)]; exact u8A_iff.2 ha), need_true (by rw [u8b_enR (f := c_u8) (fun _ => rfl)]; exact u8A_iff.2 hb), bytesC_enR (f := c_u8) (fun _ => rfl), bytesC_enR (f := c_u8) (fun _ => rfl)]
  refine ⟨_, rfl, fun h => strL_inj ha hb (by
    have h2 : (strL a).toList = (strL b).toList := by simpa [sEq] using h
    rw [Go.Lib.toList_data, Go.Lib.toList_data] at h2
    exact ByteArray.ext (Array.toList_inj.1 h2)), fun h => by rw [h]; simp [sEq]⟩
theorem same_eq (m o : TMeshFrame) (hm : By m.Data) (ho : By o.Data) (h3 : m.Data.length ≤ 2400) : ∃ c, F25 m o = some c ∧ F17 m o = some c := by
  obtain ⟨c, c1, c2⟩ := F16_ok m.Data o.Data (by omega)
  obtain ⟨d, d1, d2⟩ := F49_ok m.Data o.Data hm ho
  have hcd : d = c := by rw [Bool.eq_iff_iff, c2, d2]
  subst hcd
  unfold F25 F17
  rw [c1, d1]
  simp only [Option.isSome_some, Bool.cond_self, need_true, gt_some]
  exact ⟨_, rfl, rfl⟩
theorem tch_gen {α E R : Type} [Inhabited α] {step : Int × List α → Option (Lp (Int × List α) (E ⊕ R))} (l : List α)
    (hs : ∀ (i : Nat) (L : List α), L.length = l.length → i < l.length → ∃ L', L'.length = l.length ∧ step ((i : Int), L) = some (.next (((i + 1 : Nat) : Int), L')))
    (he : ∀ L : List α, L.length = l.length → ∃ e, step ((l.length : Int), L) = some (.done (.inl e))) : ∃ e, loopD step (0, l) = some (.inl e) := by
  obtain ⟨r, l1, e, rfl⟩ := loop_inv (step := step) (fun s => ∃ x : Nat, s.1 = (x : Int) ∧ x ≤ l.length ∧ s.2.length = l.length) (fun r => ∃ e, r = .inl e) (fun s => (l.length - s.1).toNat)
    (fun s hS => by
      obtain ⟨i, L⟩ := s
      obtain ⟨x, h1, h2, h3⟩ := hS
      simp only at h1 h3
      subst h1
      by_cases hx : x < l.length
      · obtain ⟨L', q1, q2⟩ := hs x L h3 hx
        exact .inr ⟨_, q2, ⟨x + 1, rfl, by omega, q1⟩, by simp only; omega⟩
      · obtain ⟨e, q⟩ := he L h3
        have : x = l.length := by omega
        subst this
        exact .inl ⟨_, q, e, rfl⟩) (0, l) ⟨0, rfl, by omega, rfl⟩
  exact ⟨e, l1⟩
theorem touch_ok (s : TForward) (m : TMeshFrame) (h1 : s.Seen.length ≤ 1000) (h2 : s.Nexts.length ≤ 1000) (h3 : m.Data.length ≤ 10000) : F18_0 s m = some () := by
  unfold F18_0
  obtain ⟨e1, l1⟩ := tch_gen (step := fun z : Int × List TForwardMark => F18_0_L1 z.1 z.2) s.Seen (fun i L hL hi => by
      have e : ∃ v, F18_0_L1 i L = some (.next (((i + 1 : Nat) : Int), L.set i v)) := ⟨_, by
        unfold F18_0_L1
        rw [bif_t (c := bLt _ _) (by simp [bLt_eq]; omega), need_true (inb_nat (by omega)), wr_add1 hi (by omega), Int.toNat_natCast]⟩
      obtain ⟨v, e⟩ := e
      exact ⟨_, by rw [List.length_set]; exact hL, e⟩)
    (fun L hL => ⟨_, by show F18_0_L1 _ L = _; unfold F18_0_L1; rw [bif_f (by simp [bLt_eq, hL])]⟩)
  obtain ⟨e2, l2⟩ := tch_gen (step := fun z : Int × List TForwardHop => F18_0_L2 z.1 z.2) s.Nexts (fun i L hL hi => by
      have e : ∃ v, F18_0_L2 i L = some (.next (((i + 1 : Nat) : Int), L.set i v)) := ⟨_, by
        unfold F18_0_L2
        rw [bif_t (c := bLt _ _) (by simp [bLt_eq]; omega), need_true (inb_nat (by omega)), need_true (inb_nat (by omega)), wr_add1 hi (by omega), Int.toNat_natCast]⟩
      obtain ⟨v, e⟩ := e
      exact ⟨_, by rw [List.length_set]; exact hL, e⟩)
    (fun L hL => ⟨_, by show F18_0_L2 _ L = _; unfold F18_0_L2; rw [bif_f (by simp [bLt_eq, hL])]⟩)
  obtain ⟨e3, l3⟩ := tch_gen (step := fun z : Int × List Int => F18_0_L3 z.1 z.2) m.Data (fun i L hL hi => by
      have e : ∃ v, F18_0_L3 i L = some (.next (((i + 1 : Nat) : Int), L.set i v)) := ⟨_, by
        unfold F18_0_L3
        rw [bif_t (c := bLt _ _) (by simp [bLt_eq]; omega), need_true (inb_nat (by omega)), need_true (inb_nat (by omega)), wr_add1 hi (by omega), Int.toNat_natCast]⟩
      obtain ⟨v, e⟩ := e
      exact ⟨_, by rw [List.length_set]; exact hL, e⟩)
    (fun L hL => ⟨_, by show F18_0_L3 _ L = _; unfold F18_0_L3; rw [bif_f (by simp [bLt_eq, hL])]⟩)
  rw [lp_inl l1, lp_inl l2, lp_inl l3]
end Go.Proofs.Ytbahnppiobafoaa
