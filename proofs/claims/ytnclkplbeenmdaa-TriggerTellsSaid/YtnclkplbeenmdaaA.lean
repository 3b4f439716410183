/-
  Frames: copies and comparisons; service periods; the plain law of TriggerTells.
-/
import Derived.Test.YtnclkplbeenmdaaY3
import Derived.Test.YtnclkplbeenmdaaLK
namespace Go.Proofs.Ytnclkplbeenmdaa
open Go.Am
set_option linter.unusedVariables false
set_option linter.unusedSimpArgs false
theorem nd_cap {α : Type} {b n : Nat} {k : Option α} (h1 : (n : Int) * b ≤ 140737488355328) (h2 : n ≤ 140737488355328) : need (capb b n) k = k := need_true (capb_iff.2 ⟨h1, h2⟩)
theorem u8_same (L : List Int) (h : u8A L = true) : u8b L.length (enR c_u8 L) = true := (u8b_enR (f := c_u8) (fun _ => rfl) L).trans h
theorem inb_0 {n : Nat} (h : 0 < n) : inb 0 n = true := inb_nat (i := 0) h
theorem cself {c b : Bool} (h : b = true) : (bif c then b else true) = true := by subst h; cases c <;> rfl
theorem F15_refl (a : TFrame) (h : u8A a.Body = true) : F15 a a = some true := by
  have q := u8_same _ h
  unfold F15
  rw [need_true (cself q), need_true (cself q)]
  simp [bEq_eq, bB_eq, sEq]
theorem F45_refl (l : List TFrame) (hl : l.length ≤ 1000) (h : ∀ i : Nat, i < l.length → u8A (gd l i).Body = true) : F45 l l = some true := by
  unfold F45
  rw [bif_f (by simp [bEq_eq])]
  rcases chk_gen (step := fun s => F45_L1 l l s) (R := Bool) l.length (fun _ => True) false () (fun i hi => by
      refine .inl ⟨trivial, ?_⟩
      show F45_L1 l l i = _
      unfold F45_L1
      rw [bif_t (by simp [bLt_eq]; omega), need_true (inb_nat hi), need_true (inb_nat hi), Int.toNat_natCast, F15_refl _ (h i hi), Option.bind_some, bif_f (by rfl), wr_add1 hi (by omega)])
    (by show F45_L1 l l _ = _; unfold F45_L1; rw [bif_f (by simp [bLt_eq])]) with ⟨_, h2⟩ | ⟨h1, _⟩
  · rw [lp_inl h2]
  · exact absurd (fun _ _ => trivial) h1
theorem F16_refl (y : TPeriod) (hl : y.Left.length ≤ 1000) (h : ∀ i : Nat, i < y.Left.length → u8A (gd y.Left i).Body = true) : F16 y y = some true := by
  unfold F16
  have q := F45_refl _ hl h
  rw [need_true (by simp [bEq_eq, q]), q]
  simp [bEq_eq, gt_some]
def Fo (f : TFrame) : Prop := f.Body.length ≤ 2400 ∧ u8A f.Body = true
theorem F44_ok (f : TFrame) (h : f.Body.length ≤ 2400) : F44 f = some f := by
  unfold F44
  rw [nd_cap (by omega) (by omega)]
  rfl
theorem F44_0_ok (f : TFrame) (h : f.Body.length ≤ 2400) : F44_0 f = some f := by
  unfold F44_0
  rw [nd_cap (by omega) (by omega)]
  rfl
theorem F17_ok (f : TFrame) (h : f.Body.length ≤ 2400) : F17 f = some f := by
  unfold F17
  rw [nd_cap (by omega) (by omega)]
  rfl
def Vp (p : TPeriod) : Prop := (1 ≤ p.Aid ∧ p.Aid ≤ 255) ∧ ∀ i : Nat, i < p.Left.length → (gd p.Left i).Head.Eosp = decide (i + 1 = p.Left.length)
theorem eos {b : Bool} {x y : Int} {n : Nat} {i : Nat} (h : (x = y) = (i + 1 = n)) : (!bB b (bEq x y)) = !decide (b = decide (i + 1 = n)) := by
  rw [bB_eq, bEq_eq]
  simp only [h]
theorem F22_ok (p : TPeriod) (hl : p.Left.length ≤ 100) : (Vp p ∧ F22 p = some 0) ∨ (¬ Vp p ∧ F22 p = some 8) := by
  unfold F22
  by_cases ha : 1 ≤ p.Aid ∧ p.Aid ≤ 255
  · rw [bif_f (by simp [bLt_eq]; omega)]
    rcases chk_gen (step := fun s => F22_L1 p s) (R := Int) p.Left.length (fun i => (gd p.Left i).Head.Eosp = decide (i + 1 = p.Left.length)) 8 () (fun i hi => by
        show (_ ∧ F22_L1 p i = _) ∨ (_ ∧ F22_L1 p i = _)
        unfold F22_L1
        rw [bif_t (by simp [bLt_eq]; omega), need_true (inb_nat hi), Int.toNat_natCast, wr_add1 hi (by omega), eos (n := p.Left.length) (i := i) (by simp only [Int.natCast_inj])]
        by_cases h : (gd p.Left i).Head.Eosp = decide (i + 1 = p.Left.length)
        · exact .inl ⟨h, by rw [bif_f (by simp [h])]⟩
        · exact .inr ⟨h, by rw [bif_t (by simp [h])]⟩)
      (by show F22_L1 p _ = _; unfold F22_L1; rw [bif_f (by simp [bLt_eq])]) with ⟨h1, h2⟩ | ⟨h1, h2⟩
    · rw [lp_inl h2]; exact .inl ⟨⟨ha, h1⟩, rfl⟩
    · rw [lp_inr h2]; exact .inr ⟨fun h => h1 h.2, rfl⟩
  · rw [bif_t (by simp [bLt_eq]; omega)]
    exact .inr ⟨fun h => ha h.1, rfl⟩
theorem F23_ok (p : TPeriod) (hl : p.Left.length ≤ 100) : (Vp p ∧ F23 p = some true) ∨ (¬ Vp p ∧ F23 p = some false) := by
  unfold F23
  rcases chk_gen (step := fun s => F23_L1 p s) (R := Bool) p.Left.length (fun i => (gd p.Left i).Head.Eosp = decide (i + 1 = p.Left.length)) false () (fun i hi => by
      show (_ ∧ F23_L1 p i = _) ∨ (_ ∧ F23_L1 p i = _)
      unfold F23_L1
      rw [bif_t (by simp [bLt_eq]; omega), need_true (inb_nat hi), Int.toNat_natCast, wr_add1 hi (by omega), wr_in (x := (p.Left.length : Int) - 1) (by omega), eos (n := p.Left.length) (i := i) (by apply propext; omega)]
      by_cases h : (gd p.Left i).Head.Eosp = decide (i + 1 = p.Left.length)
      · exact .inl ⟨h, by rw [bif_f (by simp [h])]⟩
      · exact .inr ⟨h, by rw [bif_t (by simp [h])]⟩)
    (by show F23_L1 p _ = _; unfold F23_L1; rw [bif_f (by simp [bLt_eq])]) with ⟨h1, h2⟩ | ⟨h1, h2⟩
  · rw [lp_inl h2]
    by_cases ha : 1 ≤ p.Aid ∧ p.Aid ≤ 255
    · exact .inl ⟨⟨ha, h1⟩, by simp [bLe_eq]; omega⟩
    · exact .inr ⟨fun h => ha h.1, by simp [bLe_eq]; omega⟩
  · rw [lp_inr h2]; exact .inr ⟨fun h => h1 h.2, rfl⟩
def F0 : TFrame := TFrame.mk (THeader.mk 0 0 false false false false false false false 0 (A6u8.mk 0 0 0 0 0 0) (A6u8.mk 0 0 0 0 0 0) (A6u8.mk 0 0 0 0 0 0) (A6u8.mk 0 0 0 0 0 0) 0 0 0 0 false false) []
def Nx (p : TPeriod) (r : TFrame × TPeriod × Int) : Prop := (¬ Vp p ∧ r = (F0, TPeriod.mk 0 [], 8)) ∨ (Vp p ∧ p.Left = [] ∧ r = (F0, TPeriod.mk 0 [], 6)) ∨ (Vp p ∧ p.Left ≠ [] ∧ r = (gd p.Left 0, TPeriod.mk p.Aid (p.Left.drop 1), 0))
theorem F13_ok (p : TPeriod) (hl : p.Left.length ≤ 100) (hb : ∀ i : Nat, i < p.Left.length → Fo (gd p.Left i)) : ∃ r, F13 p = some r ∧ Nx p r := by
  unfold F13
  rcases F22_ok p hl with ⟨h1, h2⟩ | ⟨h1, h2⟩
  · rw [h2, Option.bind_some, bif_f (by rfl)]
    cases hn : p.Left with
    | nil => rw [bif_t (by rfl)]; exact ⟨_, rfl, .inr (.inl ⟨h1, hn, rfl⟩)⟩
    | cons a l =>
      rw [← hn]
      have hpos : 0 < p.Left.length := by rw [hn]; simp
      rw [bif_f (by simp [bEq_eq, hn]; omega), need_true (slb_iff.2 (by omega))]
      have gdd : ∀ i, gd (p.Left.drop 1) i = gd p.Left (i + 1) := fun i => by simp [gd, List.getD_eq_getElem?_getD, Nat.add_comm]
      have l1 := run_gen (step := fun s => F13_L1 p s.1 s.2) (R := TFrame × TPeriod × Int) (p.Left.length - 1) (fun i => ((i : Int), (p.Left.drop 1).take i)) (p.Left.drop 1) (fun i hi => by
          show F13_L1 p i ((p.Left.drop 1).take i) = _
          unfold F13_L1
          rw [bif_t (by simp [bLt_eq]; omega), need_true (inb_nat hi), Int.toNat_natCast]
          have hf := F44_0_ok (gd (p.Left.drop 1) i) (by rw [gdd]; exact (hb _ (by omega)).1)
          have hlt : ((p.Left.drop 1).take i).length = i := by simp; omega
          rw [show F44_0 _ = _ from hf, Option.bind_some, nd_cap (by omega) (by omega), wr_add1 hi (by omega), ← take_snoc (by simp; omega)])
        (by show F13_L1 p _ _ = _; unfold F13_L1; rw [bif_f (by simp [bLt_eq]), List.take_of_length_le (by simp)])
      replace l1 : loopD (fun s => F13_L1 p s.1 s.2) ((0 : Int), ([] : List TFrame)) = some (.inl (p.Left.drop 1)) := by simpa using l1
      rw [lp_inl l1, need_true (inb_0 hpos)]
      rw [show F44 _ = _ from F44_ok (gd p.Left 0) (hb 0 hpos).1, Option.bind_some]
      exact ⟨_, rfl, .inr (.inr ⟨h1, fun h => (by rw [hn] at h; cases h), rfl⟩)⟩
  · rw [h2, Option.bind_some, bif_t (by rfl)]
    exact ⟨_, rfl, .inl ⟨h1, rfl⟩⟩
theorem F14_ok (p : TPeriod) (hl : p.Left.length ≤ 100) : ∃ r, F14 p = some r ∧ Nx p r := by
  unfold F14
  rcases F23_ok p hl with ⟨h1, h2⟩ | ⟨h1, h2⟩
  · rw [h2, Option.bind_some, bif_f (by rfl)]
    cases hn : p.Left with
    | nil => rw [bif_t (by rfl)]; exact ⟨_, rfl, .inr (.inl ⟨h1, hn, rfl⟩)⟩
    | cons a l =>
      rw [← hn]
      have hpos : 0 < p.Left.length := by rw [hn]; simp
      rw [bif_f (by simp [bEq_eq, hn]; omega), need_true (inb_0 hpos), need_true (slb_iff.2 (by omega))]
      exact ⟨_, rfl, .inr (.inr ⟨h1, fun h => (by rw [hn] at h; cases h), rfl⟩)⟩
  · rw [h2, Option.bind_some, bif_t (by rfl)]
    exact ⟨_, rfl, .inl ⟨h1, rfl⟩⟩
theorem Nx_same {p : TPeriod} {r s : TFrame × TPeriod × Int} (h1 : Nx p r) (h2 : Nx p s) : r = s := by
  rcases h1 with ⟨a, rfl⟩ | ⟨a, b, rfl⟩ | ⟨a, b, rfl⟩ <;> rcases h2 with ⟨c, rfl⟩ | ⟨c, d, rfl⟩ | ⟨c, d, rfl⟩ <;> first | rfl | exact absurd a c | exact absurd c a | exact absurd b d | exact absurd d b
def bitA (d c : Int) : Bool := bEq (andI .u8 (shrI .u8 d c) 1) 1
theorem bits : ((List.range 16).all fun a => (List.range 4).all fun b => F36 (a : Int) (b : Int) == some (bitA (a : Int) (b : Int))) = true := by kernel_rfl
theorem F36_ok (d c : Int) (hd : 0 ≤ d ∧ d ≤ 15) (hc : 0 ≤ c ∧ c ≤ 3) : F36 d c = some (bitA d c) := by
  obtain ⟨a, rfl⟩ := Int.eq_ofNat_of_zero_le hd.1
  obtain ⟨b, rfl⟩ := Int.eq_ofNat_of_zero_le hc.1
  have h1 := List.all_eq_true.1 bits a (List.mem_range.2 (by omega))
  have h2 := List.all_eq_true.1 h1 b (List.mem_range.2 (by omega))
  exact eq_of_beq h2
theorem plan_ok (p : TTriggerPlan) (h1 : 0 ≤ p.Start) (h2 : 0 ≤ p.Deliver) : (p.Start ≤ 15 ∧ F20 p = some 0 ∧ F21 p = some true) ∨ (F20 p = some 8 ∧ F21 p = some false) := by
  unfold F20 F21
  by_cases h : (p.Start ≤ 15 ∧ p.Deliver ≤ 15) ∧ 0 ≤ p.Most ∧ p.Most ≤ 16
  · obtain ⟨⟨a, b⟩, c, d⟩ := h
    refine .inl ⟨a, ?_, ?_⟩
    · rw [bif_f (by simp [bLt_eq]; omega)]
    · have : (((bLt p.Start 16 && bLt p.Deliver 16) && bLe 0 p.Most) && bLe p.Most 16) = true := by simp [bLt_eq, bLe_eq]; omega
      rw [this]
  · refine .inr ⟨?_, ?_⟩
    · rw [bif_t (by simp [bLt_eq]; omega)]
    · have : (((bLt p.Start 16 && bLt p.Deliver 16) && bLe 0 p.Most) && bLe p.Most 16) = false := by
        cases hc : (((bLt p.Start 16 && bLt p.Deliver 16) && bLe 0 p.Most) && bLe p.Most 16) with
        | false => rfl
        | true => simp [bLt_eq, bLe_eq] at hc; omega
      rw [this]
theorem cats : ((List.range 8).all fun a => let r := gd [1, 0, 0, 1, 2, 2, 3, 3] a; bLe 0 r && bLe r 3) = true := by kernel_rfl
theorem cat_ok (t : Int) : ∃ r, F46 t = some r ∧ F42 t = some r ∧ 0 ≤ r.1 ∧ r.1 ≤ 3 := by
  unfold F46 F42
  by_cases h : 0 ≤ t ∧ t ≤ 7
  · rw [bif_f (by simp [bLt_eq]; omega)]
    obtain ⟨n, rfl⟩ := Int.eq_ofNat_of_zero_le h.1
    rw [need_true (inb_nat (by omega))]
    have h1 := List.all_eq_true.1 cats n (List.mem_range.2 (by omega))
    simp only [bLe_eq, Bool.and_eq_true, decide_eq_true_eq] at h1
    exact ⟨_, rfl, rfl, by rw [Int.toNat_natCast]; exact h1.1, by rw [Int.toNat_natCast]; exact h1.2⟩
  · rw [bif_t (by simp [bLt_eq]; omega)]
    exact ⟨_, rfl, rfl, by decide, by decide⟩
theorem starts_ok (p : TTriggerPlan) (f : TFrame) (h1 : 0 ≤ p.Start) (h2 : 0 ≤ p.Deliver) : ∃ b, F18 p f = some b ∧ F19 p f = some b := by
  obtain ⟨r, c1, c2, c3, c4⟩ := cat_ok f.Head.Tid
  unfold F18 F19
  rw [c2, Option.bind_some]
  rcases plan_ok p h1 h2 with ⟨a, q1, q2⟩ | ⟨q1, q2⟩
  · rw [q1, q2, Option.bind_some, Option.bind_some]
    have hb := F36_ok p.Start r.1 ⟨h1, a⟩ ⟨c3, c4⟩
    rw [hb, need_true (cself (by rfl)), gt_some]
    generalize hd : (((((!bEq 0 0) || (!bEq f.Head.Kind 2)) || ((!bEq f.Head.Sub 8) && (!bEq f.Head.Sub 12))) || (!f.Head.ToDs)) || f.Head.FromDs) = d
    have he : ((((true && ((bEq f.Head.Kind 2) && ((bEq f.Head.Sub 8) || (bEq f.Head.Sub 12)))) && f.Head.ToDs) && (!f.Head.FromDs))) = !d := by
      rw [← hd]
      have : bEq 0 0 = true := rfl
      rw [this]
      generalize bEq f.Head.Kind 2 = x1
      generalize bEq f.Head.Sub 8 = x2
      generalize bEq f.Head.Sub 12 = x3
      generalize f.Head.ToDs = x4
      generalize f.Head.FromDs = x5
      revert x1 x2 x3 x4 x5; decide
    rw [he]
    cases d with
    | true => exact ⟨_, rfl, rfl⟩
    | false =>
      rw [cond_false, c1, Option.bind_some, need_true (by cases bEq r.2 0 <;> simp [bLe_eq, c3])]
      exact ⟨_, rfl, by simp [bitA]⟩
  · rw [q1, q2, Option.bind_some, Option.bind_some, bif_t (by simp [bEq_eq])]
    rw [need_true (by rfl)]
    exact ⟨_, rfl, by simp⟩
theorem F12_ok (p : TPeriod) : ∃ r, F12 p = some r ∧ (r = false → p.Left.length ≤ 100 ∧ ∀ i : Nat, i < p.Left.length → (gd p.Left i).Body.length ≤ 2400) := by
  unfold F12
  by_cases hn : p.Left.length ≤ 100
  · rw [bif_f (by simp [bLt_eq]; omega)]
    rcases chk_gen (step := fun s => F12_L1 p s) (R := Bool) p.Left.length (fun i => (gd p.Left i).Body.length ≤ 2400) true () (fun i hi => by
        show (_ ∧ F12_L1 p i = _) ∨ (_ ∧ F12_L1 p i = _)
        unfold F12_L1 F11
        rw [bif_t (by simp [bLt_eq]; omega), need_true (inb_nat hi), Int.toNat_natCast, Option.bind_some, wr_add1 hi (by omega)]
        by_cases h : (gd p.Left i).Body.length ≤ 2400
        · exact .inl ⟨h, by rw [bif_f (by simp [bLt_eq]; omega)]⟩
        · exact .inr ⟨h, by rw [bif_t (by simp [bLt_eq]; omega)]⟩)
      (by show F12_L1 p _ = _; unfold F12_L1; rw [bif_f (by simp [bLt_eq])]) with ⟨h1, h2⟩ | ⟨h1, h2⟩
    · rw [lp_inl h2]; exact ⟨_, rfl, fun _ => ⟨hn, h1⟩⟩
    · rw [lp_inr h2]; exact ⟨_, rfl, fun h => by cases h⟩
  · rw [bif_t (by simp [bLt_eq]; omega)]; exact ⟨_, rfl, fun h => by cases h⟩
theorem F3_L (v : List Int) (hv : v.length ≤ 100000) : ∃ b, loopD (fun s : Int × List Int => F3_L1 s.1 s.2) (0, v) = some b ∧ b = .inl () := by
  refine loop_inv (step := fun s : Int × List Int => F3_L1 s.1 s.2) (fun s => ∃ i : Nat, s.1 = i ∧ i ≤ s.2.length ∧ s.2.length ≤ 100000) (fun b => b = .inl ()) (fun s => s.2.length - s.1.toNat) ?_ (0, v) ⟨0, rfl, by simp, hv⟩
  rintro ⟨x, l⟩ ⟨i, rfl, h1, h2⟩
  simp only at h1 h2 ⊢
  unfold F3_L1
  by_cases h : i < l.length
  · rw [bif_t (by simp [bLt_eq]; omega), need_true (inb_nat h), need_true (inb_nat h), wr_add1 h (by omega)]
    exact .inr ⟨_, rfl, ⟨i + 1, rfl, by simp; omega, by simp; omega⟩, by simp; omega⟩
  · rw [bif_f (by simp [bLt_eq]; omega)]
    exact .inl ⟨_, rfl, rfl⟩
theorem law3 (p : TTriggerPlan) (f : TFrame) (x : TPeriod) (h1 : 0 ≤ p.Start) (h2 : 0 ≤ p.Deliver) (hx : ∀ i : Nat, i < x.Left.length → u8A (gd x.Left i).Body = true) : F3 p f x = some true := by
  unfold F3
  obtain ⟨g, e1, e2⟩ := F12_ok x
  rw [show F11 f = some _ from rfl, Option.bind_some, e1, need_true (cself (by rfl)), gt_some]
  cases hg : (bLt 2400 (f.Body.length : Int) || g) with
  | true => rw [cond_true]
  | false =>
  rw [cond_false]
  obtain ⟨hf, rfl⟩ : bLt 2400 (f.Body.length : Int) = false ∧ g = false := by simpa using hg
  obtain ⟨hl, hb⟩ := e2 rfl
  have hFo : ∀ i : Nat, i < x.Left.length → Fo (gd x.Left i) := fun i hi => ⟨hb i hi, hx i hi⟩
  obtain ⟨r, n1, n2⟩ := F13_ok x hl hFo
  obtain ⟨s, m1, m2⟩ := F14_ok x hl
  obtain rfl := Nx_same n2 m2
  rw [n1, m1, Option.bind_some, Option.bind_some]
  -- what is returned
  have hr : Fo r.1 ∧ r.2.1.Left.length ≤ 1000 ∧ (∀ i : Nat, i < r.2.1.Left.length → u8A (gd r.2.1.Left i).Body = true) := by
    have z : Fo F0 := ⟨by decide, rfl⟩
    rcases n2 with ⟨_, rfl⟩ | ⟨_, _, rfl⟩ | ⟨_, hne, rfl⟩
    · exact ⟨z, by simp, fun i hi => by simp at hi⟩
    · exact ⟨z, by simp, fun i hi => by simp at hi⟩
    · have hpos : 0 < x.Left.length := List.length_pos_iff.2 hne
      refine ⟨hFo 0 hpos, by simp; omega, fun i hi => ?_⟩
      have : gd (x.Left.drop 1) i = gd x.Left (i + 1) := by simp [gd, List.getD_eq_getElem?_getD, Nat.add_comm]
      simp only [List.length_drop] at hi
      rw [this]; exact hx _ (by omega)
  obtain ⟨hr1, hr2, hr3⟩ := hr
  rw [F15_refl _ hr1.2, Option.bind_some, F16_refl _ hr2 hr3, F17_ok _ hr1.1, Option.bind_some, need_true (by rfl)]
  obtain ⟨b, l1, rfl⟩ := F3_L r.1.Body (by have := hr1.1; omega)
  rw [lp_inl l1]
  obtain ⟨st, s1, s2⟩ := starts_ok p f h1 h2
  rw [s1, s2, gt_some, gt_some]
  have hch : ((x.Left.length : Int) = 0 ∨ r.2.2 ≠ 0) ∨ ((0 : Nat) < x.Left.length ∧ F15 (gd x.Left 0) r.1 = some true) := by
    rcases n2 with ⟨_, rfl⟩ | ⟨_, h, rfl⟩ | ⟨_, hne, rfl⟩
    · exact .inl (.inr (by simp))
    · exact .inl (.inl (by rw [h]; rfl))
    · have hpos : 0 < x.Left.length := List.length_pos_iff.2 hne
      exact .inr ⟨hpos, F15_refl _ (hx 0 hpos)⟩
  have hpl : ∃ a b, F20 p = some a ∧ F21 p = some b ∧ bB (bEq a 0) b = true := by
    rcases plan_ok p h1 h2 with ⟨_, q1, q2⟩ | ⟨q1, q2⟩
    · exact ⟨_, _, q1, q2, rfl⟩
    · exact ⟨_, _, q1, q2, rfl⟩
  have hpp : ∃ a b, F22 x = some a ∧ F23 x = some b ∧ bB (bEq a 0) b = true := by
    rcases F22_ok x hl with ⟨v, q1⟩ | ⟨v, q1⟩ <;> rcases F23_ok x hl with ⟨w, q2⟩ | ⟨w, q2⟩
    · exact ⟨_, _, q1, q2, rfl⟩
    · exact absurd v w
    · exact absurd w v
    · exact ⟨_, _, q1, q2, rfl⟩
  obtain ⟨a1, b1, i1, i2, i3⟩ := hpl
  obtain ⟨a2, b2, j1, j2, j3⟩ := hpp
  rw [bB_eq, decide_eq_true_eq] at i3 j3
  obtain rfl := i3
  obtain rfl := j3
  rw [i1, i2, j1, j2]
  simp only [gt_some, Option.isSome_some, Bool.cond_self, need_true, bB_eq, decide_true, Bool.and_true, bEq_eq, Bool.true_and]
  rcases hch with h | ⟨h3, h4⟩
  · have : (decide ((x.Left.length : Int) = 0) || !decide (r.2.2 = 0)) = true := by simpa using h
    simp only [this, Bool.not_true, cond_false, need_true, Bool.true_or]
  · rw [h4]
    simp [inb_0 h3, need_true, gt_some]
end Go.Proofs.Ytnclkplbeenmdaa
