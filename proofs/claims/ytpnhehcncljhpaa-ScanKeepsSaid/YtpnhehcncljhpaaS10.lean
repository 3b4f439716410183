/-
  ScanKeeps: learning, in a full table too.
-/
import Derived.Test.YtpnhehcncljhpaaS6
import Derived.Test.YtpnhehcncljhpaaLK
namespace Go.Proofs.Ytpnhehcncljhpaa
open Go.Am
set_option linter.unusedVariables false
set_option linter.unusedSimpArgs false
def tuI (i : Int) (c : TCandidate) : Int × Int × Int × Int × Int × Int × Int × Int × Int × Int × Int × Int × ByteArray × Bool := (i, c.Addr.x0, c.Addr.x1, c.Addr.x2, c.Addr.x3, c.Addr.x4, c.Addr.x5, c.Channel, c.Level, c.Load, c.Heard, c.Interval, c.Name, c.Secure)
def tuE (c : TCandidate) : Int × Int × Int × Int × Int × Int × Int × Int × Int × Int × Int × ByteArray × Bool := (c.Addr.x0, c.Addr.x1, c.Addr.x2, c.Addr.x3, c.Addr.x4, c.Addr.x5, c.Channel, c.Level, c.Load, c.Heard, c.Interval, c.Name, c.Secure)
/-- The first of the least. -/
theorem min_ok (l : List TCandidate) (h0 : 0 < l.length) (hl : l.length ≤ 1000) : ∃ o ∈ l, F41_0 l = some o ∧ ∀ q ∈ l, o.Heard ≤ q.Heard := by
  obtain ⟨r, l1, c, rfl, hc, hm⟩ := loop_inv (step := fun s => F41_0_L1 l s.1 s.2.1 s.2.2.1 s.2.2.2.1 s.2.2.2.2.1 s.2.2.2.2.2.1 s.2.2.2.2.2.2.1 s.2.2.2.2.2.2.2.1 s.2.2.2.2.2.2.2.2.1 s.2.2.2.2.2.2.2.2.2.1 s.2.2.2.2.2.2.2.2.2.2.1 s.2.2.2.2.2.2.2.2.2.2.2.1 s.2.2.2.2.2.2.2.2.2.2.2.2.1 s.2.2.2.2.2.2.2.2.2.2.2.2.2)
    (fun s => ∃ (i : Nat) (c : TCandidate), s = tuI i c ∧ i ≤ l.length ∧ c ∈ l ∧ ∀ j : Nat, j < i → c.Heard ≤ (gd l j).Heard)
    (fun r => ∃ c, r = .inl (tuE c) ∧ c ∈ l ∧ ∀ j : Nat, j < l.length → c.Heard ≤ (gd l j).Heard) (fun s => (l.length - s.1).toNat)
    (fun s hS => by
      obtain ⟨i, c, rfl, hi, hc, hm⟩ := hS
      show (∃ b, F41_0_L1 l i c.Addr.x0 c.Addr.x1 c.Addr.x2 c.Addr.x3 c.Addr.x4 c.Addr.x5 c.Channel c.Level c.Load c.Heard c.Interval c.Name c.Secure = _ ∧ _) ∨ ∃ s', F41_0_L1 l i c.Addr.x0 c.Addr.x1 c.Addr.x2 c.Addr.x3 c.Addr.x4 c.Addr.x5 c.Channel c.Level c.Load c.Heard c.Interval c.Name c.Secure = _ ∧ _
      unfold F41_0_L1
      simp only [eta_A6u8, eta_TCandidate]
      rcases Nat.lt_or_ge i l.length with h | h
      · refine .inr ?_
        rw [bif_t (by simp [bLt_eq]; omega), need_true (inb_nat h), Int.toNat_natCast, wr_add1 h (by omega)]
        have step : ∀ d : TCandidate, d ∈ l → (∀ j : Nat, j < i + 1 → d.Heard ≤ (gd l j).Heard) → ∃ s', (some (.next (tuI ((i + 1 : Nat) : Int) d)) : Option (Lp _ ((Int × Int × Int × Int × Int × Int × Int × Int × Int × Int × Int × ByteArray × Bool) ⊕ TCandidate))) = some (.next s') ∧ (∃ (i : Nat) (c : TCandidate), s' = tuI i c ∧ i ≤ l.length ∧ c ∈ l ∧ ∀ j : Nat, j < i → c.Heard ≤ (gd l j).Heard) ∧ (l.length - s'.1).toNat < (l.length - (tuI i c).1).toNat := by
          intro d hd hm
          exact ⟨_, rfl, ⟨i + 1, d, rfl, by omega, hd, hm⟩, by simp only [tuI]; omega⟩
        unfold F42
        rcases F43_ok (gd l i).Heard c.Heard with ⟨q, e⟩ | ⟨q, e⟩ | ⟨q, e⟩
        · rw [e]
          simp only [Option.bind_some]
          rw [bif_t (by decide), need_true (inb_nat h)]
          exact step (gd l i) (gd_mem h) fun j hj => by
            rcases Nat.lt_or_eq_of_le (Nat.le_of_lt_succ hj) with r | rfl
            · have := hm j r; omega
            · exact Int.le_refl _
        · rw [e]
          simp only [Option.bind_some]
          rw [bif_f (by decide)]
          exact step c hc fun j hj => by
            rcases Nat.lt_or_eq_of_le (Nat.le_of_lt_succ hj) with r | rfl
            · exact hm j r
            · omega
        · rw [e]
          simp only [Option.bind_some]
          rw [bif_f (by decide)]
          exact step c hc fun j hj => by
            rcases Nat.lt_or_eq_of_le (Nat.le_of_lt_succ hj) with r | rfl
            · exact hm j r
            · omega
      · refine .inl ?_
        rw [bif_f (by simp [bLt_eq]; omega)]
        exact ⟨_, rfl, c, rfl, hc, fun j hj => hm j (by omega)⟩) (tuI ((1 : Nat) : Int) (gd l 0)) ⟨1, _, rfl, by omega, gd_mem h0, fun j hj => by rw [show j = 0 by omega]; exact Int.le_refl _⟩
  refine ⟨c, hc, ?_, fun q hq => ?_⟩
  · unfold F41_0
    have l1' : loopD (fun s => F41_0_L1 l s.1 s.2.1 s.2.2.1 s.2.2.2.1 s.2.2.2.2.1 s.2.2.2.2.2.1 s.2.2.2.2.2.2.1 s.2.2.2.2.2.2.2.1 s.2.2.2.2.2.2.2.2.1 s.2.2.2.2.2.2.2.2.2.1 s.2.2.2.2.2.2.2.2.2.2.1 s.2.2.2.2.2.2.2.2.2.2.2.1 s.2.2.2.2.2.2.2.2.2.2.2.2.1 s.2.2.2.2.2.2.2.2.2.2.2.2.2) (1, (gd l 0).Addr.x0, (gd l 0).Addr.x1, (gd l 0).Addr.x2, (gd l 0).Addr.x3, (gd l 0).Addr.x4, (gd l 0).Addr.x5, (gd l 0).Channel, (gd l 0).Level, (gd l 0).Load, (gd l 0).Heard, (gd l 0).Interval, (gd l 0).Name, (gd l 0).Secure) = some (.inl (tuE c)) := l1
    rw [bif_f (by simp [bLt_eq]; omega), need_true (show inb 0 l.length = true from inb_nat h0), lp_inl l1']
    rfl
  · obtain ⟨i, hi, rfl⟩ := mem_gd hq
    exact hm i hi
def sad (q o : TCandidate) : Bool := (bEq q.Addr.x0 o.Addr.x0 && (bEq q.Addr.x1 o.Addr.x1 && (bEq q.Addr.x2 o.Addr.x2 && (bEq q.Addr.x3 o.Addr.x3 && (bEq q.Addr.x4 o.Addr.x4 && (bEq q.Addr.x5 o.Addr.x5))))))
theorem delo_ok (l : List TCandidate) (o : TCandidate) (hl : l.length ≤ 1000) : F44_0 l o = some (l.filter (fun q => !sad q o)) := by
  unfold F44_0 F57_0
  exact del_gen l (fun q => sad q o) (fun q => F45_0 q o) (by omega) (fun q _ => rfl) (step1 := fun s => F57_0_L1 l o s) (fun s => rfl) (step2 := fun s => F44_0_L1 o s.1 s.2.1 s.2.2) (fun s => rfl)
/-- The table after learning in a full one. -/
def Wo (t x : TCandidates) (y : TCandidate) : Prop := Vt x ∧ Abs x ∧ x.List.length = 64 ∧ ∃ o, (o = y ∨ o ∈ t.List) ∧ (∀ q, q = y ∨ q ∈ t.List → o.Heard ≤ q.Heard) ∧ ∀ q, q ∈ x.List ↔ (q = y ∨ q ∈ t.List) ∧ q.Addr ≠ o.Addr
def Has (t : TCandidates) (a : A6u8) : Prop := ∃ q ∈ t.List, q.Addr = a
/-- The candidate that a beacon tells. -/
def Cn (a : A6u8) (b : TBeacon) (ch lv now : Int) (y : TCandidate) : Prop := bEq (andI .u8 a.x0 1) 1 = false ∧ Vc (TCandidate.mk a ch lv 0 now 1 (ByteArray.mk #[]) false) ∧ F35_0 (TCandidate.mk a ch lv 0 now 1 (ByteArray.mk #[]) false) b = some (true, y)
def Res (t x : TCandidates) (a : A6u8) (y : TCandidate) : Prop := (Has t a ∧ Wy t x y ∧ x.List.length = t.List.length) ∨ (¬ Has t a ∧ t.List.length < 64 ∧ Wy t x y ∧ x.List.length = t.List.length + 1) ∨ (¬ Has t a ∧ t.List.length = 64 ∧ Wo t x y)
def Told (t : TCandidates) (a : A6u8) (b : TBeacon) (ch lv now : Int) (r : TCandidates × Int) : Prop :=
  (r.2 ≠ 0 ∧ r.1 = TCandidates.mk [] ∧ ¬ (Vt t ∧ ∃ y, Cn a b ch lv now y)) ∨
  (r.2 = 0 ∧ Vt t ∧ ∃ y : TCandidate, Cn a b ch lv now y ∧ (y.Addr = a ∧ y.Channel = ch ∧ y.Level = lv ∧ y.Heard = now ∧ y.Interval = b.Interval ∧ Vc y) ∧ Res t r.1 a y)
theorem learn_all (t : TCandidates) (a : A6u8) (b : TBeacon) (ch lv now : Int) (hb : Abs t) (ha : Ab a) (hE : b.Elems.length ≤ 1000 ∧ By b.Elems) (hi : 0 ≤ b.Interval ∧ b.Interval ≤ 65535) :
    ∃ r : TCandidates × Int, F17 t a b ch lv now = some r ∧ Told t a b ch lv now r := by
  unfold F17
  rcases F19_ok t hb with ⟨hv, e⟩ | ⟨hv, e⟩
  · rw [e, Option.bind_some, bif_f (by simp [bEq])]
    simp only [eta_A6u8]
    obtain ⟨v, v1, v2⟩ := F34_ok (TCandidate.mk a ch lv 0 now 1 (ByteArray.mk #[]) false)
    rw [v1, need_true (by simp), gt_some]
    cases hc : (bEq (andI .u8 a.x0 1) 1 || !v) with
    | true =>
      refine ⟨_, rfl, .inl ⟨(by decide : (2 : Int) ≠ 0), rfl, fun ⟨_, y, h1, h2, _⟩ => ?_⟩⟩
      rw [h1, v2.2 h2] at hc
      cases hc
    | false =>
      rw [cond_false]
      have hvv : v = true := by cases v with | true => rfl | false => simp at hc
      have hc0 := v2.1 hvv
      have hgr : bEq (andI .u8 a.x0 1) 1 = false := (Bool.or_eq_false_iff.1 hc).1
      obtain ⟨r, r1, r2⟩ := read_ok (TCandidate.mk a ch lv 0 now 1 (ByteArray.mk #[]) false) b hE.1 hE.2 hi hc0
      rw [r1, Option.bind_some]
      obtain ⟨ok, y⟩ := r
      cases ok with
      | false =>
        refine ⟨_, rfl, .inl ⟨(by decide : (12 : Int) ≠ 0), rfl, fun ⟨_, z, _, _, h3⟩ => ?_⟩⟩
        rw [r1] at h3
        cases h3
      | true =>
        have hCn : Cn a b ch lv now y := ⟨hgr, hc0, r1⟩
        obtain ⟨y1, y2, y3, y4, y5, y6⟩ := r2 rfl
        simp only at y1 y2 y3 y4 y5 y6
        have hnow : 0 ≤ now ∧ now ≤ 1099511627776 := hc0.2.2.2.1
        simp only [Bool.not_true, cond_false]
        have hlen := hv.1
        have ec : F36 t.List = some t.List := by unfold F36; rw [need_true (capb_iff.2 (by omega))]
        obtain ⟨i, i1, i2, i3, i4⟩ := search_ok t a hv hb ha
        rw [ec, Option.bind_some, i1, Option.bind_some, Int.toNat_natCast]
        have hay : Ab y.Addr := by rw [y1]; exact ha
        -- what is put in at i
        have new : (∀ j : Nat, i ≤ j → j < t.List.length → nA a < nA (gd t.List j).Addr) → ∃ r : TCandidates × Int, (need (insb (i : Int) t.List.length) <| (some [y]).bind fun w13 => (some (insL t.List (i : Int) [y])).bind fun w15 => bif (bLt 64 (w15.length : Nat)) then ((F41_0 w15).bind fun r17 => (F44_0 w15 r17).bind fun r19 => some ((TCandidates.mk r19), (0 : Int))) else (some ((TCandidates.mk w15), 0))) = some r ∧ Told t a b ch lv now r := by
          intro hgt
          have hno : ¬ Has t a := by
            rintro ⟨q, hq, eq⟩
            obtain ⟨j, hj, rfl⟩ := mem_gd hq
            rcases Nat.lt_or_ge j i with r | r
            · have := i3 j r; rw [eq] at this; omega
            · have := hgt j r hj; rw [eq] at this; omega
          have es : insL t.List (i : Int) [y] = t.List.take i ++ y :: t.List.drop i := by unfold insL; rw [Int.toNat_natCast, List.append_assoc, List.singleton_append]
          have hll : (t.List.take i ++ y :: t.List.drop i).length = t.List.length + 1 := by simp; omega
          rw [need_true (insb_iff.2 (by omega)), Option.bind_some, Option.bind_some, es]
          have Vl0 := Vl_of hv hb
          by_cases h64 : t.List.length < 64
          · rw [bif_f (by simp [bLt_eq]; omega)]
            have m := mid_ok Vl0 y i i (Nat.le_refl _) (by omega) y6 hay (fun j hj => by rw [y1]; exact i3 j hj) (fun j hj hj2 => by rw [y1]; exact hgt j hj hj2) (fun j hj hj2 => by omega) (by omega)
            have w := of_Vl (t := TCandidates.mk (t.List.take i ++ y :: t.List.drop i)) m.1
            exact ⟨_, rfl, .inr ⟨rfl, hv, y, hCn, ⟨y1, y2, y3, y4, y5, y6⟩, .inr (.inl ⟨hno, h64, ⟨w.1, w.2, m.2⟩, hll⟩)⟩⟩
          · rw [bif_t (by simp [bLt_eq]; omega)]
            generalize hL : t.List.take i ++ y :: t.List.drop i = L at hll
            have hmem : ∀ q, q ∈ L ↔ q = y ∨ q ∈ t.List := by
              intro q
              rw [← hL]
              have := List.take_append_drop i t.List
              constructor
              · intro h
                rcases List.mem_append.1 h with h | h
                · exact .inr (List.mem_of_mem_take h)
                · rcases List.mem_cons.1 h with h | h
                  · exact .inl h
                  · exact .inr (List.mem_of_mem_drop h)
              · rintro (h | h)
                · rw [h]; simp
                · rw [← this] at h
                  rcases List.mem_append.1 h with h | h
                  · exact List.mem_append.2 (.inl h)
                  · exact List.mem_append.2 (.inr (List.mem_cons_of_mem _ h))
            have hsrt : L.Pairwise (fun a b => nA a.Addr < nA b.Addr) := by
              rw [← hL]
              have hpw := Vl0.2.1
              rw [← List.take_append_drop i t.List] at hpw
              obtain ⟨p1, p2, p3⟩ := List.pairwise_append.1 hpw
              have hA : ∀ q ∈ t.List.take i, nA q.Addr < nA a := by
                intro q hq
                obtain ⟨j, hj, rfl⟩ := List.getElem_of_mem hq
                rw [List.getElem_take]
                rw [List.length_take] at hj
                have hj2 : j < t.List.length := by omega
                have := i3 j (by omega)
                rwa [← gd_get hj2] at this
              have hB : ∀ q ∈ t.List.drop i, nA a < nA q.Addr := by
                intro q hq
                obtain ⟨j, hj, rfl⟩ := List.getElem_of_mem hq
                rw [List.getElem_drop]
                rw [List.length_drop] at hj
                have := hgt (i + j) (by omega) (by omega)
                rwa [← gd_get (show i + j < t.List.length by omega)] at this
              refine List.pairwise_append.2 ⟨p1, List.pairwise_cons.2 ⟨fun q hq => by rw [y1]; exact hB q hq, p2⟩, fun q hq q2 hq2 => ?_⟩
              rcases List.mem_cons.1 hq2 with rfl | hq2
              · rw [y1]; exact hA q hq
              · exact p3 q hq q2 hq2
            have hVA : ∀ q ∈ L, Vc q ∧ Ab q.Addr := by
              intro q hq
              rcases (hmem q).1 hq with rfl | h
              · exact ⟨y6, hay⟩
              · exact Vl0.2.2 q h
            obtain ⟨o, o1, o2, o3⟩ := min_ok L (by omega) (by omega)
            rw [o2, Option.bind_some, delo_ok L o (by omega), Option.bind_some]
            have hsad : ∀ q, sad q o = true ↔ q.Addr = o.Addr := fun q => addr_eq q.Addr o.Addr
            have hfl : ∀ q, q ∈ L.filter (fun q => !sad q o) ↔ q ∈ L ∧ q.Addr ≠ o.Addr := by
              intro q
              rw [List.mem_filter]
              refine and_congr_right fun _ => ?_
              rw [Bool.not_eq_true', ← Bool.not_eq_true, hsad]
            have hcnt : (L.filter (fun q => !sad q o)).length = 64 := by
              obtain ⟨A, B, eL⟩ := List.append_of_mem o1
              rw [eL] at hsrt hll
              obtain ⟨p1, p2, p3⟩ := List.pairwise_append.1 hsrt
              have hA : A.filter (fun q => !sad q o) = A := List.filter_eq_self.2 fun q hq => by
                have h1 := p3 q hq o (List.mem_cons_self ..)
                cases hs : sad q o with
                | false => rfl
                | true => rw [(hsad q).1 hs] at h1; omega
              have hB : B.filter (fun q => !sad q o) = B := List.filter_eq_self.2 fun q hq => by
                have h1 := (List.pairwise_cons.1 p2).1 q hq
                cases hs : sad q o with
                | false => rfl
                | true => rw [(hsad q).1 hs] at h1; omega
              rw [eL, List.filter_append, List.filter_cons, hA, hB, show (!sad o o) = false from by rw [(hsad o).2 rfl]; rfl]
              simp only [List.length_append, List.length_cons, Bool.false_eq_true, if_false] at hll ⊢
              omega
            have hVl : Vl (L.filter (fun q => !sad q o)) := ⟨by omega, hsrt.sublist List.filter_sublist, fun q hq => hVA q ((hfl q).1 hq).1⟩
            have w := of_Vl (t := TCandidates.mk (L.filter (fun q => !sad q o))) hVl
            refine ⟨_, rfl, .inr ⟨rfl, hv, y, hCn, ⟨y1, y2, y3, y4, y5, y6⟩, .inr (.inr ⟨hno, by omega, w.1, w.2, hcnt, o, (hmem o).1 o1, fun q hq => o3 q ((hmem q).2 hq), fun q => ?_⟩)⟩⟩
            rw [hfl, hmem]
        by_cases hil : i < t.List.length
        · have e0 : bLt (i : Int) (t.List.length : Nat) = true := by simp [bLt_eq]; omega
          rw [e0, inb_nat hil, need_true (by simp), Bool.true_and]
          by_cases hq : (gd t.List i).Addr = a
          · rw [bif_t ((addr_eq _ _).2 hq), need_true rfl]
            have m := mid_ok (Vl_of hv hb) y i (i + 1) (by omega) (by omega) y6 hay (fun j hj => by rw [y1]; exact i3 j hj) (fun j hj hj2 => by rw [y1, ← hq]; exact Vt_lt hv j hj2 i (by omega)) (fun j hj hj2 => by rw [y1, ← hq, show j = i from by omega]) (by omega)
            have es : t.List.set i y = t.List.take i ++ y :: t.List.drop (i + 1) := List.set_eq_take_append_cons_drop.trans (if_pos hil)
            refine ⟨_, rfl, .inr ⟨rfl, hv, y, hCn, ⟨y1, y2, y3, y4, y5, y6⟩, .inl ⟨⟨_, gd_mem hil, hq⟩, ?_, by simp⟩⟩⟩
            rw [es]
            have w := of_Vl (t := TCandidates.mk (t.List.take i ++ y :: t.List.drop (i + 1))) m.1
            exact ⟨w.1, w.2, m.2⟩
          · have hlt : nA a < nA (gd t.List i).Addr := by
              have := i4 i (Nat.le_refl _) hil
              rcases Int.lt_or_eq_of_le this with h | h
              · exact h
              · exact absurd (nA_inj ha (hb i hil) h).symm hq
            rw [bif_f (by
              cases hh : (bEq (gd t.List i).Addr.x0 a.x0 && (bEq (gd t.List i).Addr.x1 a.x1 && (bEq (gd t.List i).Addr.x2 a.x2 && (bEq (gd t.List i).Addr.x3 a.x3 && (bEq (gd t.List i).Addr.x4 a.x4 && (bEq (gd t.List i).Addr.x5 a.x5)))))) with
              | false => rfl
              | true => exact absurd ((addr_eq _ _).1 hh) hq)]
            exact new fun j hj hj2 => by
              rcases Nat.lt_or_eq_of_le hj with h | rfl
              · have := Vt_lt hv j hj2 i h; omega
              · exact hlt
        · have e0 : bLt (i : Int) (t.List.length : Nat) = false := by simp [bLt_eq]; omega
          rw [e0, need_true (by simp), Bool.false_and, cond_false]
          exact new fun j hj hj2 => by omega
  · rw [e, Option.bind_some, bif_t (by simp [bEq])]
    exact ⟨_, rfl, .inl ⟨(by decide : (8 : Int) ≠ 0), rfl, fun h => hv h.1⟩⟩
end Go.Proofs.Ytpnhehcncljhpaa
