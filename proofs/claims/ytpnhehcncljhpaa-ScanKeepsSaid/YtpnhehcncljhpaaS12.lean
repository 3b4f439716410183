/-
  ScanKeeps: the plain law.
-/
import Derived.Test.YtpnhehcncljhpaaS11
namespace Go.Proofs.Ytpnhehcncljhpaa
open Go.Am
set_option linter.unusedVariables false
set_option linter.unusedSimpArgs false
theorem alive_ok : F16 = some true := by kernel_rfl
theorem sEq_refl (x : ByteArray) : sEq x x = true := by simp [sEq]
theorem bB_refl (x : Bool) : bB x x = true := by simp [bB_eq]
theorem bEq_refl (x : Int) : bEq x x = true := by simp [bEq]
theorem great_ok (l : List TElement) : ∃ b, F9 l = some b ∧ (b = false → l.length ≤ 100) := by
  unfold F9
  by_cases h : l.length ≤ 100
  · rw [bif_f (by simp [bLt_eq]; omega)]
    obtain ⟨b, l1, l2⟩ := loop_for (step := fun s => F9_L1 l s) l.length (fun _ => True) (fun _ => True) trivial
      (fun i hi _ => by
        unfold F9_L1
        rw [bif_t (by simp [bLt_eq]; omega), need_true (inb_nat hi)]
        cases hb : bLt 1000 (((gd l ((i : Int)).toNat).Data).length : Nat) with
        | true => exact .inl ⟨_, rfl, trivial⟩
        | false => rw [cond_false, wr_add1 hi (by omega)]; exact .inr ⟨rfl, trivial⟩)
      (fun _ => by
        unfold F9_L1
        rw [bif_f (by simp [bLt_eq])]
        exact ⟨_, rfl, trivial⟩)
    cases b with
    | inl u => exact ⟨_, lp_inl l1, fun _ => h⟩
    | inr r => exact ⟨_, lp_inr l1, fun _ => h⟩
  · rw [bif_t (by simp [bLt_eq]; omega)]
    exact ⟨_, rfl, fun h => by cases h⟩
theorem find_ok (x : TCandidates) (a : A6u8) (hl : x.List.length ≤ 1000) : ∃ r : TCandidate × Bool, F18 x a = some r ∧ ((r.2 = true ∧ r.1 ∈ x.List ∧ r.1.Addr = a) ∨ (r.2 = false ∧ ∀ q ∈ x.List, q.Addr ≠ a)) := by
  unfold F18
  obtain ⟨b, l1, l2⟩ := loop_for (step := fun s => F18_L1 x a s) x.List.length (fun n => ∀ j : Nat, j < n → (gd x.List j).Addr ≠ a) (fun b => match b with | .inl _ => ∀ j : Nat, j < x.List.length → (gd x.List j).Addr ≠ a | .inr r => r.2 = true ∧ r.1 ∈ x.List ∧ r.1.Addr = a) (fun i hi => by omega)
    (fun i hi hI => by
      unfold F18_L1
      rw [bif_t (c := bLt _ _) (by simp [bLt_eq]; omega), inb_nat hi, Int.toNat_natCast]
      simp only [need_true, eta_A6u8, eta_TCandidate]
      cases hc : (bEq (gd x.List i).Addr.x0 a.x0 && (bEq (gd x.List i).Addr.x1 a.x1 && (bEq (gd x.List i).Addr.x2 a.x2 && (bEq (gd x.List i).Addr.x3 a.x3 && (bEq (gd x.List i).Addr.x4 a.x4 && (bEq (gd x.List i).Addr.x5 a.x5)))))) with
      | true => exact .inl ⟨_, rfl, rfl, gd_mem hi, (addr_eq _ _).1 hc⟩
      | false =>
        rw [cond_false, wr_add1 hi (by omega)]
        refine .inr ⟨rfl, fun j hj => ?_⟩
        rcases Nat.lt_or_eq_of_le (Nat.le_of_lt_succ hj) with h | rfl
        · exact hI j h
        · exact fun h => by rw [(addr_eq _ _).2 h] at hc; cases hc)
    (fun hI => by
      unfold F18_L1
      rw [bif_f (c := bLt _ _) (by simp [bLt_eq])]
      exact ⟨_, rfl, hI⟩)
  cases b with
  | inl u => exact ⟨_, lp_inl l1, .inr ⟨rfl, fun q hq => by obtain ⟨j, hj, rfl⟩ := mem_gd hq; exact l2 j hj⟩⟩
  | inr r => exact ⟨_, lp_inr l1, .inl l2⟩
theorem same_refl (x : TCandidates) (hl : x.List.length ≤ 1000) : F20 x x = some true := by
  have l1 := run_gen (step := fun i => F20_L1 x x i) x.List.length (fun i => (i : Int)) () (fun i hi => by
      show F20_L1 x x i = _
      unfold F20_L1
      rw [bif_t (c := bLt _ _) (by simp [bLt_eq]; omega), need_true (inb_nat hi), need_true (inb_nat hi), Int.toNat_natCast, wr_add1 hi (by omega), bif_f (by simp [bEq_refl, sEq_refl, bB_refl])])
    (by show F20_L1 x x _ = _; unfold F20_L1; rw [bif_f (by simp [bLt_eq])])
  have l1' : loopD (fun i => F20_L1 x x i) 0 = some (.inl ()) := l1
  unfold F20
  rw [bif_f (by simp [bEq_eq]), lp_inl l1']
/-- What is gone is the oldest. -/
theorem gone_ok (t : TCandidates) (a : A6u8) (r4 : TCandidates × Int) (hv : Vt t) (hb : Abs t) (hx : Vt r4.1) (hxb : Abs r4.1)
    (hf : ∃ g : A6u8, ∀ q ∈ t.List, q.Addr ≠ a → q ∈ r4.1.List ∨ (q.Addr = g ∧ (∀ z ∈ r4.1.List, q.Heard ≤ z.Heard) ∧ ∀ z ∈ r4.1.List, z.Addr ≠ q.Addr)) :
    ∃ w : Int, loopD (fun s => F4_L1 t a r4 s.1 s.2) (0, 0) = some (.inl w) ∧ bLe w 1 = true := by
  obtain ⟨g, hf⟩ := hf
  have htl := hv.1
  have hxl := hx.1
  obtain ⟨r, l1, w, rfl, hw⟩ := loop_inv (step := fun s => F4_L1 t a r4 s.1 s.2)
    (fun s => ∃ (w i : Nat), s = ((w : Int), (i : Int)) ∧ i ≤ t.List.length ∧ (w = 0 ∨ (w = 1 ∧ ∃ j : Nat, j < i ∧ (gd t.List j).Addr = g)))
    (fun r => ∃ w : Int, r = .inl w ∧ bLe w 1 = true) (fun s => (t.List.length - s.2).toNat)
    (fun s hS => by
      obtain ⟨w, i, rfl, hi, hw⟩ := hS
      show (∃ b, F4_L1 t a r4 w i = _ ∧ _) ∨ ∃ s', F4_L1 t a r4 w i = _ ∧ _
      unfold F4_L1
      rcases Nat.lt_or_ge i t.List.length with h | h
      · refine .inr ?_
        obtain ⟨f, f1, f2⟩ := find_ok r4.1 (gd t.List i).Addr (by omega)
        obtain ⟨eA, hA, iA⟩ : ∃ e : Bool, (bEq (gd t.List i).Addr.x0 a.x0 && (bEq (gd t.List i).Addr.x1 a.x1 && (bEq (gd t.List i).Addr.x2 a.x2 && (bEq (gd t.List i).Addr.x3 a.x3 && (bEq (gd t.List i).Addr.x4 a.x4 && (bEq (gd t.List i).Addr.x5 a.x5)))))) = e ∧ (e = true ↔ (gd t.List i).Addr = a) := ⟨_, rfl, addr_eq _ _⟩
        rw [bif_t (c := bLt _ _) (by simp [bLt_eq]; omega), need_true (inb_nat h), Int.toNat_natCast, f1, Option.bind_some, need_true (inb_nat h)]
        simp only [hA, inb_nat h, Bool.cond_self, need_true]
        rw [wr_add1 h (by omega)]
        have keep : ∃ s', (some (.next ((w : Int), ((i + 1 : Nat) : Int))) : Option (Lp (Int × Int) (Int ⊕ Bool))) = some (.next s') ∧ (∃ (w i : Nat), s' = ((w : Int), (i : Int)) ∧ i ≤ t.List.length ∧ (w = 0 ∨ (w = 1 ∧ ∃ j : Nat, j < i ∧ (gd t.List j).Addr = g))) ∧ (t.List.length - s'.2).toNat < (t.List.length - ((i : Nat) : Int)).toNat := by
          refine ⟨_, rfl, ⟨w, i + 1, rfl, by omega, ?_⟩, by simp only; omega⟩
          rcases hw with q | ⟨q, j, q1, q2⟩
          · exact .inl q
          · exact .inr ⟨q, j, by omega, q2⟩
        by_cases ha : (gd t.List i).Addr = a
        · rw [iA.2 ha]
          simp only [Bool.not_true, Bool.false_and, cond_false]
          exact keep
        · rw [show eA = false from Bool.eq_false_iff.2 fun q => ha (iA.1 q)]
          simp only [Bool.not_false, Bool.true_and]
          rcases hf _ (gd_mem h) ha with hin | ⟨hg, hold, hno⟩
          · rcases f2 with ⟨e, e1, e2⟩ | ⟨e, e1⟩
            · have he : f.1 = gd t.List i := uq hx hxb e1 hin e2
              rw [e, he]
              simp only [Bool.not_true, cond_false, bEq_refl, sEq_refl, bB_refl, Bool.and_self, Bool.and_false]
              exact keep
            · exact absurd rfl (e1 _ hin)
          · rcases f2 with ⟨e, e1, e2⟩ | ⟨e, e1⟩
            · exact absurd e2 (hno _ e1)
            · rw [e]
              simp only [Bool.not_false, cond_true, Bool.false_and, cond_false]
              have l2 := run_gen (step := fun k => F4_L2 t r4 i k) r4.1.List.length (fun k => (k : Int)) () (fun k hk => by
                  show F4_L2 t r4 i k = _
                  unfold F4_L2
                  have := hold _ (gd_mem hk)
                  rw [bif_t (c := bLt _ _) (by simp [bLt_eq]; omega), need_true (inb_nat hk), need_true (inb_nat h), Int.toNat_natCast, Int.toNat_natCast, wr_add1 hk (by omega), bif_f (by simp [bLt_eq]; omega)])
                (by show F4_L2 t r4 i _ = _; unfold F4_L2; rw [bif_f (c := bLt _ _) (by simp [bLt_eq])])
              have l2' : loopD (fun k => F4_L2 t r4 i k) 0 = some (.inl ()) := l2
              rw [lp_inl l2']
              have hw0 : w = 0 := by
                rcases hw with q | ⟨_, j, q1, q2⟩
                · exact q
                · have := Vt_lt hv i h j q1
                  rw [q2, hg] at this; omega
              subst hw0
              refine ⟨_, rfl, ⟨1, i + 1, ?_, by omega, .inr ⟨rfl, i, by omega, hg⟩⟩, by simp only; omega⟩
              rw [wr_in (by omega)]; rfl
      · refine .inl ?_
        rw [bif_f (c := bLt _ _) (by simp [bLt_eq]; omega)]
        refine ⟨_, rfl, _, rfl, ?_⟩
        rcases hw with q | ⟨q, _⟩ <;> rw [q] <;> rfl) (0, 0) ⟨0, 0, rfl, by omega, .inl rfl⟩
  exact ⟨w, l1, hw⟩
theorem law4 (t : TCandidates) (a : A6u8) (b : TBeacon) (ch lv now : Int) (hb : Abs t) (ha : Ab a) (hE : By b.Elems) (hi : 0 ≤ b.Interval ∧ b.Interval ≤ 65535) : F4 t a b ch lv now = some true := by
  unfold F4
  obtain ⟨g, g1, g2⟩ := great_ok b.Elems
  rw [alive_ok, Option.bind_some, g1, need_true (by simp), gt_some]
  by_cases hbig : t.List.length ≤ 64 ∧ g = false
  · obtain ⟨h64, hg⟩ := hbig
    have hlen := g2 hg
    rw [bif_f (by simp [bLt_eq, hg]; omega)]
    obtain ⟨r, r1, r2⟩ := learn_all t a b ch lv now hb ha ⟨by omega, hE⟩ hi
    rw [r1, Option.bind_some]
    rcases r2 with ⟨h0, h1, _⟩ | ⟨h0, hv, y, hC, ⟨y1, y2, y3, y4, y5, y6⟩, hR⟩
    · rw [bif_t (by simp [bEq_eq, h0]), h1]; rfl
    · rw [bif_f (c := !bEq r.2 0) (by simp [bEq_eq, h0])]
      obtain ⟨x1, x2, x3, x4, x5, x6⟩ := res_facts hv hb y1 hR
      obtain ⟨f, f1, f2⟩ := find_ok r.1 a (by have := x1.1; omega)
      obtain ⟨c, c1, c2⟩ := find_ok t a (by omega)
      obtain ⟨w, w1, w2⟩ := gone_ok t a r hv hb x1 x2 x6
      have chk : F19 r.1 = some 0 := by
        rcases F19_ok r.1 x2 with ⟨_, e⟩ | ⟨q, _⟩
        · exact e
        · exact absurd x1 q
      obtain ⟨s, s1, s2⟩ := learn_all r.1 a b ch lv now x2 ha ⟨by omega, hE⟩ hi
      have hs : s.2 = 0 ∧ (f.2 = true → F20 s.1 r.1 = some true) := by
        rcases s2 with ⟨_, _, k⟩ | ⟨k0, kv, z, kC, ⟨z1, _⟩, kR⟩
        · exact absurd ⟨x1, y, hC⟩ k
        · refine ⟨k0, fun hf => ?_⟩
          have hzy : z = y := by
            have q1 := hC.2.2; have q2 := kC.2.2
            rw [q1] at q2
            injection q2 with q2; injection q2 with _ q2; exact q2.symm
          subst hzy
          rcases f2 with ⟨_, e1, e2⟩ | ⟨e, _⟩
          · have hin := x4 _ e1 e2
            rw [hin] at e1
            rw [again_same x1 x2 y1 x4 e1 kR]
            exact same_refl _ (by have := x1.1; omega)
          · rw [e] at hf; cases hf
      have h5 : wr .i64 b.Interval = b.Interval := wr_in (by omega)
      have hcond : ∀ n : Int, n = (r.1.List.length : Nat) → ((((!bEq (0 : Int) 0) || (!bEq (r.1.List.length : Nat) n)) || (f.2 && ((((!bEq f.1.Channel ch) || (!bEq f.1.Level lv)) || (!bEq f.1.Heard now)) || (!bEq f.1.Interval (wr .i64 b.Interval))))) || ((!f.2) && (bLt (t.List.length : Nat) 64))) = false := by
        intro n hn
        subst hn
        rw [h5]
        rcases f2 with ⟨e, e1, e2⟩ | ⟨e, e1⟩
        · have hin := x4 _ e1 e2
          rw [e, hin, y2, y3, y4, y5]
          simp [bEq_refl]
        · rw [e]
          have h64' : t.List.length = 64 := by
            rcases x5 with q | q
            · exact absurd y1 (e1 y q)
            · exact q
          simp [bEq_refl, bLt_eq, h64']
      have fin : (need (bif (((true && (bLe w 1)) && (bEq s.2 0)) && (!(!f.2))) then ((F20 s.1 r.1).isSome) else true) <| some (((true && (bLe w 1)) && (bEq s.2 0)) && ((!f.2) || (gt (F20 s.1 r.1))))) = some true := by
        rw [w2, hs.1]
        cases hf : f.2 with
        | false => rfl
        | true => rw [hs.2 hf]; rfl
      rw [f1, Option.bind_some, c1, Option.bind_some, chk]
      have e34 : (fun s : Int × Int => F4_L3 t a r s.1 s.2) = fun s => F4_L1 t a r s.1 s.2 := rfl
      rcases x3 with ⟨hh, hl⟩ | ⟨hh, hl⟩
      · have hc2 : c.2 = true := by
          rcases c2 with ⟨e, _⟩ | ⟨_, e1⟩
          · exact e
          · obtain ⟨q, q1, q2⟩ := hh; exact absurd q2 (e1 q q1)
        rw [bif_f (c := !c.2) (by rw [hc2]; rfl), Option.bind_some, bif_f (hcond (t.List.length : Nat) (by rw [hl])), e34, lp_inl w1, s1, Option.bind_some]
        exact fin
      · have hc2 : c.2 = false := by
          rcases c2 with ⟨_, e1, e2⟩ | ⟨e, _⟩
          · exact absurd ⟨_, e1, e2⟩ hh
          · exact e
        have hn : minI (wr .i64 ((t.List.length : Nat) + 1)) 64 = ((r.1.List.length : Nat) : Int) := by
          rw [wr_in (by omega)]
          unfold minI
          rcases hl with ⟨q1, q2⟩ | ⟨q1, q2⟩
          · by_cases q : (64 : Int) < (t.List.length : Nat) + 1
            · omega
            · rw [if_neg q, q2]; omega
          · rw [if_pos (by omega), q2]; rfl
        rw [bif_t (c := !c.2) (by rw [hc2]; rfl), Option.bind_some, bif_f (hcond _ hn), lp_inl w1, s1, Option.bind_some]
        exact fin
  · rw [bif_t (by
      simp only [Bool.or_eq_true, bLt_eq, decide_eq_true_eq, Bool.not_true, Bool.false_eq_true, or_false]
      by_cases q : t.List.length ≤ 64
      · cases g with
        | true => exact .inr rfl
        | false => exact absurd ⟨q, rfl⟩ hbig
      · exact .inl (by omega))]
end Go.Proofs.Ytpnhehcncljhpaa
