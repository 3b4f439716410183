/-
  ForwardArrives: the law over values, joined.
-/
import Derived.Test.YtbahnppiobafoaaFN
namespace Go.Proofs.Ytbahnppiobafoaa
open Go.Am
set_option linter.unusedVariables false
set_option linter.unusedSimpArgs false
theorem wI_gd {V : List Nat} {k : Nat} (hk : k < V.length) (x : List Int) : gd (wI V ++ x) k = ((gd V k : Nat) : Int) := by
  have hl : (wI V).length = V.length := by simp [wI]
  rw [gd_app_lt (by omega)]
  simp [wI, gd, List.getD_eq_getElem?_getD, hk]
theorem wI_len (V : List Nat) : (wI V).length = V.length := by simp [wI]
section
variable {H : Nat -> Int} {A B : Nat} {D : List Int}
theorem walk_ok {V : List Nat} {c : Int} {r : List Int × Int × TMeshFrame × Bool} {p2 : Int} (hB : wr .i64 (p2.tmod 8) = (B : Int)) (hG : Gd A B V) (hP : Pt H A V c) (hE : En A B D V c r) (hA : A < 8) :
    loopD (fun s => F6_L2 p2 (tab H) r s.1 s.2.1 s.2.2) (tab (fun j => decide (j = A)), H A, (0 : Int)) = some (.inl (c, (V.length : Int))) := by
  have hl := Gd_len hG
  have hr1 : ∃ x, r.1 = wI V ++ x := by
    rcases hE with ⟨_, p, rfl⟩ | ⟨_, o, rfl⟩ | ⟨_, _, o, rfl⟩
    · exact ⟨_, rfl⟩
    · exact ⟨[], by simp⟩
    · exact ⟨_, rfl⟩
  obtain ⟨x, hx⟩ := hr1
  have := run_gen (step := fun s : List Bool × Int × Int => F6_L2 p2 (tab H) r s.1 s.2.1 s.2.2) (R := Bool) V.length (fun k => (tab (fun j => decide (j = A ∨ j ∈ V.take k)), nxc V c k, (k : Int))) (c, (V.length : Int)) (fun k hk => by
    show F6_L2 p2 (tab H) r (tab (fun j => decide (j = A ∨ j ∈ V.take k))) (nxc V c k) (k : Int) = _
    obtain ⟨g1, g2, g3⟩ := hG.2 _ (gd_mem hk)
    have e1 : nxc V c k = ((gd V k : Nat) : Int) := if_pos hk
    have nm : gd V k ∉ V.take k := fun hm => by
      obtain ⟨j, hj, e⟩ := mem_gd hm
      rw [List.length_take] at hj
      have pw := hG.1
      unfold List.Nodup at pw
      rw [List.pairwise_iff_getElem] at pw
      refine pw j k (by omega) hk (by omega) ?_
      rw [gd_at, gd_at, ← e]
      simp [gd, List.getD_eq_getElem?_getD, List.getElem?_take, show j < k by omega]
    unfold F6_L2
    rw [hB, e1, hx]
    have b1 : bEq ((gd V k : Nat) : Int) (B : Int) = false := by simp [bEq_eq]; omega
    have b2 : bLe 0 ((gd V k : Nat) : Int) = true := by simp [bLe_eq]
    have b3 : inb ((gd V k : Nat) : Int) 8 = true := inb_nat g1
    have b4 : gd (tab (fun j => decide (j = A ∨ j ∈ V.take k))) (gd V k) = false := by
      rw [gd_tab g1]; simp only [decide_eq_false_iff_not]; exact fun h => h.elim g2 nm
    have b5 : bLe (((wI V ++ x).length : Nat) : Int) (k : Int) = false := by simp [bLe_eq, wI_len]; omega
    have b6 : inb (k : Int) (wI V ++ x).length = true := inb_nat (by simp [wI_len]; omega)
    have b7 : bEq ((gd V k : Nat) : Int) ((gd V k : Nat) : Int) = true := by simp [bEq_eq]
    simp only [b1, b2, Int.toNat_natCast, tab_len, b3, b4, b5, b6, wI_gd hk, b7, Bool.not_false, Bool.not_true, Bool.and_true, Bool.true_and, Bool.or_false, cond_true, cond_false, need_true, wr_add1 hk (by omega)]
    rw [gd_tab g1, tab_set, hP.2 k hk]
    congr 3
    refine tab_congr fun j _ => ?_
    rw [take_snoc hk]
    by_cases e : j = gd V k
    · rw [if_pos e]; simp [e]
    · rw [if_neg e]; simp [e])
    (by
      show F6_L2 p2 (tab H) r (tab (fun j => decide (j = A ∨ j ∈ V.take V.length))) (nxc V c V.length) (V.length : Int) = _
      rw [show nxc V c V.length = c from if_neg (by omega), List.take_length]
      unfold F6_L2
      rw [hB]
      rcases hE with ⟨rfl, _⟩ | ⟨rfl, _⟩ | ⟨h1, ⟨v, hv, rfl, ho⟩, _⟩
      · have b1 : bEq (B : Int) (B : Int) = true := by simp [bEq_eq]
        simp only [b1, Bool.not_true, Bool.false_and, cond_false, need_true]
      · have b2 : bLe 0 (-1) = false := by simp [bLe_eq]
        simp only [b2, Bool.and_false, Bool.false_and, cond_false, need_true]
      · have b1 : bEq (v : Int) (B : Int) = false := by simp only [bEq_eq, decide_eq_false_iff_not]; exact h1
        have b2 : bLe 0 (v : Int) = true := by simp [bLe_eq]
        have b3 : inb (v : Int) 8 = true := inb_nat hv
        have b4 : gd (tab (fun j => decide (j = A ∨ j ∈ V))) v = true := by rw [gd_tab hv]; simp only [decide_eq_true_eq]; exact ho
        simp only [b1, b2, Int.toNat_natCast, tab_len, b3, b4, Bool.not_false, Bool.not_true, Bool.and_true, Bool.true_and, Bool.and_false, cond_true, cond_false, need_true])
  have e0 : nxc V c 0 = H A := hP.1
  simp only [e0, List.take_zero, List.not_mem_nil, or_false] at this
  exact this
theorem nbf {a b : Nat} (h : a ≠ b) : Nat.beq a b = false := by
  cases e : Nat.beq a b
  · rfl
  · exact absurd (Nat.eq_of_beq_eq_true e) h
theorem sF_tab : (List.range 512).map (fun n => F30 (nd (n / 64)) (mA ((n / 8 % 8 : Nat) : Int)) (mA ((n % 8 : Nat) : Int))) = (List.range 512).map (fun n => bif (Nat.beq (n / 64) (n / 8 % 8) || Nat.beq (n / 64) (n % 8)) then F30 (nd (n / 64)) (mA ((n / 8 % 8 : Nat) : Int)) (mA ((n % 8 : Nat) : Int)) else some (⟨mA ((n / 64 : Nat) : Int), 0, [], [⟨mA ((n / 8 % 8 : Nat) : Int), mA ((n % 8 : Nat) : Int)⟩]⟩, 0)) := by kernel_rfl
theorem set_ok {i b h : Nat} (hi : i < 8) (hb : b < 8) (hh : h < 8) (h1 : i ≠ b) (h2 : i ≠ h) : F30 (nd i) (mA b) (mA h) = some (⟨mA i, 0, [], [⟨mA b, mA h⟩]⟩, 0) := by
  have hn : i * 64 + b * 8 + h < 512 := by omega
  have := congrArg (fun l => l[i * 64 + b * 8 + h]?) sF_tab
  simp only [List.getElem?_map, List.getElem?_range hn, Option.map_some, Option.some.injEq] at this
  rw [show (i * 64 + b * 8 + h) / 64 = i by omega, show (i * 64 + b * 8 + h) / 8 % 8 = b by omega, show (i * 64 + b * 8 + h) % 8 = h by omega] at this
  rw [this, bif_f]
  rw [Bool.or_eq_false_iff]
  exact ⟨nbf h1, nbf h2⟩
end
def hop (p : List Int) (B i : Nat) : Int := if (i : Int) = B ∨ wr .i64 ((gd p i).tmod 9) = i ∨ wr .i64 ((gd p i).tmod 9) = 8 then -1 else wr .i64 ((gd p i).tmod 9)
theorem hop_ok {p : List Int} {B : Nat} (hp : p.length = 8) (hb : ∀ q ∈ p, 0 <= q /\ q <= 255) : HH (hop p B) B := fun i hi => by
  obtain ⟨m, hm, e⟩ := tm9 (hb _ (gd_mem (show i < p.length by omega)))
  unfold hop
  rw [e]
  split
  · exact .inl rfl
  · rename_i h
    exact .inr ⟨by omega, by omega, fun h' => h (.inr (.inl h')), fun h' => h (.inl (by omega))⟩
def n0 (H : Nat -> Int) (B i : Nat) : TForward := ⟨mA i, 0, [], nx H B i⟩
theorem setup_ok {p : List Int} {B : Nat} {p2 : Int} (hp : p.length = 8) (hb : ∀ q ∈ p, 0 <= q /\ q <= 255) (hB : wr .i64 (p2.tmod 8) = (B : Int)) (hB8 : B < 8) :
    loopD (fun s => F6_L1 p p2 s.1 s.2.1 s.2.2) ([0, 0, 0, 0, 0, 0, 0, 0], (0 : Int), tab nd) = some (.inl (tab (n0 (hop p B) B), tab (hop p B))) := by
  have := run_gen (step := fun s : List Int × Int × List TForward => F6_L1 p p2 s.1 s.2.1 s.2.2) (R := Bool) 8 (fun i => (tab (fun j => if j < i then hop p B j else 0), (i : Int), tab (fun j => if j < i then n0 (hop p B) B j else nd j))) (tab (n0 (hop p B) B), tab (hop p B)) (fun i hi => by
    show F6_L1 p p2 (tab (fun j => if j < i then hop p B j else 0)) (i : Int) (tab (fun j => if j < i then n0 (hop p B) B j else nd j)) = _
    obtain ⟨m, hm, e⟩ := tm9 (hb _ (gd_mem (show i < p.length by omega)))
    have b1 : bLt (i : Int) 8 = true := by simp [bLt_eq]; omega
    have b2 : inb (i : Int) p.length = true := inb_nat (by omega)
    have b3 : inb (i : Int) 8 = true := inb_nat hi
    have hh : hop p B i = if (i : Int) = B ∨ (m : Int) = i ∨ (m : Int) = 8 then -1 else (m : Int) := by unfold hop; rw [e]
    have sets : ∀ x, (tab (fun j => if j < i then hop p B j else 0)).set i x = tab (fun j => if j = i then x else if j < i then hop p B j else 0) := fun x => tab_set
    have g1 : gd ((tab (fun j => if j < i then hop p B j else 0)).set i (m : Int)) i = (m : Int) := by rw [sets, gd_tab hi, if_pos rfl]
    have l1 : ((tab (fun j => if j < i then hop p B j else 0)).set i (m : Int)).length = 8 := by rw [List.length_set, tab_len]
    have fin : ∀ x, x = hop p B i -> tab (fun j => if j = i then x else if j < i then hop p B j else 0) = tab (fun j => if j < i + 1 then hop p B j else 0) := fun x hx => tab_congr fun j _ => by
      by_cases q : j = i
      · subst q; rw [if_pos rfl, if_pos (by omega), hx]
      · rw [if_neg q]
        by_cases q2 : j < i
        · rw [if_pos q2, if_pos (by omega)]
        · rw [if_neg q2, if_neg (by omega)]
    unfold F6_L1
    simp only [eta_A6u8, eta_TForward, eta_TMeshFrame, eta_TForwardMark]
    rw [bif_t b1, need_true b2, need_true b3, need_true (by rw [tab_len]; exact b3), Int.toNat_natCast, e, Option.bind_some, hB]
    simp only [g1, l1, b3, Bool.cond_self, need_true]
    by_cases hc : (i : Int) = B ∨ (m : Int) = i ∨ (m : Int) = 8
    · rw [if_pos hc] at hh
      rw [bif_t (c := (bEq (i : Int) (B : Int) || bEq (m : Int) (i : Int)) || bEq (m : Int) 8) (by simp only [bEq_eq, Bool.or_eq_true, decide_eq_true_eq]; omega), wr_add1 hi (by omega)]
      rw [sets, tab_set]
      congr 3
      · rw [← fin (-1) hh.symm]
        refine tab_congr fun j _ => ?_
        by_cases q : j = i
        · rw [if_pos q, if_pos q]
        · rw [if_neg q, if_neg q, if_neg q]
      · congr 1
        refine tab_congr fun j _ => ?_
        by_cases q : j < i
        · rw [if_pos q, if_pos (by omega)]
        · rw [if_neg q]
          by_cases q2 : j = i
          · subst q2
            rw [if_pos (by omega)]
            unfold n0 nx nd
            rw [if_pos hh]
          · rw [if_neg (by omega)]
    · rw [if_neg hc] at hh
      rw [bif_f (c := (bEq (i : Int) (B : Int) || bEq (m : Int) (i : Int)) || bEq (m : Int) 8) (by simp only [bEq_eq, Bool.or_eq_false_iff, decide_eq_false_iff_not]; omega)]
      have l2 : inb (i : Int) (tab (fun j => if j < i then n0 (hop p B) B j else nd j)).length = true := by rw [tab_len]; exact b3
      have g2 : gd (tab (fun j => if j < i then n0 (hop p B) B j else nd j)) i = nd i := by rw [gd_tab hi, if_neg (by omega)]
      rw [need_true l2, F31_ok (by omega), Option.bind_some, F31_ok (by omega), Option.bind_some, g2, set_ok hi hB8 (by omega) (by omega) (by omega), Option.bind_some, bif_f (c := !bEq 0 0) (by rfl), need_true l2, wr_add1 hi (by omega), sets, tab_set]
      congr 3
      · exact fin _ hh.symm
      · congr 1
        refine tab_congr fun j _ => ?_
        by_cases q2 : j = i
        · subst q2
          rw [if_pos rfl, if_pos (by omega)]
          unfold n0 nx
          rw [if_neg (by rw [hh]; omega), hh]
        · rw [if_neg q2]
          by_cases q : j < i
          · rw [if_pos q, if_pos (by omega)]
          · rw [if_neg q, if_neg (by omega)])
    (by
      show F6_L1 p p2 (tab (fun j => if j < 8 then hop p B j else 0)) ((8 : Nat) : Int) (tab (fun j => if j < 8 then n0 (hop p B) B j else nd j)) = _
      unfold F6_L1
      rw [bif_f (c := bLt ((8 : Nat) : Int) 8) (by rfl)]
      rw [tab_congr (g := fun j => if j < 8 then hop p B j else 0) (g' := hop p B) fun j hj => if_pos hj, tab_congr (g := fun j => if j < 8 then n0 (hop p B) B j else nd j) (g' := n0 (hop p B) B) fun j hj => if_pos hj])
  exact this
theorem send6 {H : Nat -> Int} {A B : Nat} {D : List Int} (hH : HH H B) (hA : A < 8) (hB : B < 8) (hAB : A ≠ B) (hD : D.length <= 100) :
    F32 (n0 H B A) (mA B) (mA 100) (mA 101) D = some (if H A = -1 then (⟨⟨0, 0, 0, 0, 0, 0⟩, 0, [], []⟩, zM, 6) else (st H A B [] A, fr A B D 0 A (H A), 0)) := by
  have hv := nd_ok (S := []) (A := A) (q := 0) hA hA (.inl rfl) (.inl rfl) (nx_cases hH hB hA)
  have hu : F43 (n0 H B A) (mA B) = some (nu H A) := by
    unfold nu
    by_cases h : H A = -1
    · rw [if_pos h]; exact F43_nil _ _ (if_pos h)
    · rw [if_neg h]; exact F43_one _ _ _ (if_neg h)
  rw [send_to (n0 H B A) (mA B) (mA 100) (mA 101) D ⟨hv.1, hv.2.1⟩ rfl rfl hu (mA_Ab (by omega)) (fun e => hAB (by have := mA_inj e; omega)) (by omega), mA_grp, cond_false]
  by_cases h : H A = -1
  · rw [if_pos h, show nu H A = (⟨0, 0, 0, 0, 0, 0⟩, false) from if_pos h]; rfl
  · rw [if_neg h, show nu H A = (mA (H A), true) from if_neg h, cond_true]
    unfold st fr n0
    simp
theorem law6 (p : List Int) (f d : Int) (D : List Int) (hb : ∀ q ∈ p, 0 <= q /\ q <= 255) (hf : 0 <= f /\ f <= 255) (hd : 0 <= d /\ d <= 255) (hD : By D) : F6 p f d D = some true := by
  obtain ⟨A, hA, eA⟩ := tm8 hf
  obtain ⟨B, hB, eB⟩ := tm8 hd
  unfold F6
  rw [alive_okN, Option.bind_some]
  simp only [eA, eB, eta_A6u8, eta_TForward, eta_TMeshFrame, eta_TForwardMark, ae_def]
  by_cases h0 : p.length ≠ 8 ∨ A = B ∨ 100 < D.length
  · rw [bif_t (by simp only [bEq_eq, bLt_eq, Bool.not_true, Bool.or_false, Bool.or_eq_true, Bool.not_eq_true', decide_eq_false_iff_not, decide_eq_true_eq]; omega)]
  rw [bif_f (by simp only [bEq_eq, bLt_eq, Bool.not_true, Bool.or_false, Bool.or_eq_false_iff, Bool.not_eq_false', decide_eq_false_iff_not, decide_eq_true_eq]; omega)]
  have hp : p.length = 8 := by omega
  have hAB : A ≠ B := by omega
  have hDl : D.length <= 100 := by omega
  have hH := hop_ok (B := B) hp hb
  rw [mesh_ok, Option.bind_some]
  simp only [Option.bind_some]
  rw [mesh_tab, need_true (by rfl), lp_inl (setup_ok hp hb eB hB)]
  simp only
  have iA8 : inb (A : Int) 8 = true := inb_nat hA
  have iAt : ∀ {α : Type} (g : Nat -> α), inb (A : Int) (tab g).length = true := fun g => by rw [tab_len]; exact iA8
  have fA := F31_ok (i := (A : Int)) (by omega)
  have fB := F31_ok (i := (B : Int)) (by omega)
  have f100 := F31_ok (i := 100) (by omega)
  have f101 := F31_ok (i := 101) (by omega)
  rw [need_true iA8, need_true (iAt _), fB, Option.bind_some, f100, Option.bind_some, f101, Option.bind_some, Int.toNat_natCast, gd_tab hA, send6 hH hA hB hAB hDl, Option.bind_some, need_true iA8, need_true (iAt _), gd_tab hA]
  by_cases hn : hop p B A = -1
  · rw [if_pos hn, bif_t (by rw [hn]; rfl)]
    rfl
  obtain ⟨h1, h2, h3, _⟩ := (hH A hA).resolve_left hn
  rw [if_neg hn, bif_f (by simp only [bLt_eq, decide_eq_false_iff_not]; omega)]
  have fH := F31_ok (i := hop p B A) (by omega)
  simp only [fH, iA8, iAt, Bool.cond_self, Option.isSome_some, need_true, gt_some]
  rw [show ae (fr A B D 0 A (hop p B A)).To (mA (hop p B A)) = true from ae_iff.2 rfl, bif_f (by rfl)]
  have es : (tab (n0 (hop p B) B)).set A (st (hop p B) A B [] A) = tab (st (hop p B) A B []) := by
    rw [tab_set]
    refine tab_congr fun j _ => ?_
    by_cases e : j = A
    · subst e; rw [if_pos rfl]
    · rw [if_neg e]; unfold n0 st; simp [e]
  rw [es, need_true (by rw [tab_len]; rfl)]
  obtain ⟨V, c, r, c1, c2, c3, c4⟩ := carried_ok (D := D) hH hA hB hAB ⟨hD, hDl⟩ hn
  have h33 : F33 ⟨gd (tab (st (hop p B) A B [])) 0, gd (tab (st (hop p B) A B [])) 1, gd (tab (st (hop p B) A B [])) 2, gd (tab (st (hop p B) A B [])) 3, gd (tab (st (hop p B) A B [])) 4, gd (tab (st (hop p B) A B [])) 5, gd (tab (st (hop p B) A B [])) 6, gd (tab (st (hop p B) A B [])) 7⟩ (fr A B D 0 A (hop p B A)) = some r := by
    unfold F33
    simp only [Option.bind_some, eta_TMeshFrame, eta_A6u8, eta_TForward]
    rw [tab_all, lp_inr c1]
  rw [h33, Option.bind_some]
  have hr4 : r.2.2.2 = true := by
    rcases c4 with ⟨_, _, rfl⟩ | ⟨_, _, rfl⟩ | ⟨_, _, _, rfl⟩ <;> rfl
  rw [hr4, bif_f (by rfl)]
  have el : (List.replicate 8 false : List Bool).set A true = tab (fun j => decide (j = A)) := by
    rw [show (List.replicate 8 false : List Bool) = tab (fun _ => false) from rfl, tab_set]
    refine tab_congr fun j _ => ?_
    by_cases e : j = A
    · rw [if_pos e]; simp [e]
    · rw [if_neg e]; simp [e]
  rw [need_true (show inb (A : Int) (List.replicate 8 false : List Bool).length = true from iA8), el, lp_inl (walk_ok eB c2 c3 c4 hA)]
  simp only
  have hl := Gd_len c2
  have hw : wr .i64 ((V.length : Int) + 1) = ((V.length + 1 : Nat) : Int) := by rw [wr_in (by omega)]; omega
  have hw2 : wr .i64 (31 - (V.length : Int)) = 31 - (V.length : Int) := wr_in (by omega)
  rw [hw]
  rcases c4 with ⟨rfl, q, rfl⟩ | ⟨rfl, o, rfl⟩ | ⟨n1, ⟨v, hv, rfl, ho⟩, o, rfl⟩
  · obtain ⟨e, e1, e2⟩ := F16_ok D D (by omega)
    have e3 : e = true := e2.2 rfl
    subst e3
    have b1 : bEq (((wI V ++ [(B : Int)]).length : Nat) : Int) ((V.length + 1 : Nat) : Int) = true := by simp [bEq_eq, wI_len]
    have b2 : inb (V.length : Int) (wI V ++ [(B : Int)]).length = true := inb_nat (by simp [wI_len])
    have b3 : gd (wI V ++ [(B : Int)]) V.length = (B : Int) := by rw [gd_app_ge (by rw [wI_len]; omega), wI_len, Nat.sub_self]; rfl
    have b4 : bEq (B : Int) (B : Int) = true := by simp [bEq_eq]
    have b5 : bEq (fr A B D V.length q B).Ttl (31 - (V.length : Int)) = true := by simp [bEq_eq, fr]
    have b6 : ae (fr A B D V.length q B).Enter (mA A) = true := ae_iff.2 rfl
    have b7 : ae (fr A B D V.length q B).Leave (mA B) = true := ae_iff.2 rfl
    have b8 : ae (fr A B D V.length q B).Source (mA 100) = true := ae_iff.2 rfl
    have b9 : ae (fr A B D V.length q B).Target (mA 101) = true := ae_iff.2 rfl
    have b0 : F16 (fr A B D V.length q B).Data D = some true := e1
    have c0 : bEq 1 1 = true := rfl
    rw [bif_t b4]
    simp only [fA, fB, f100, f101, gt_some, Option.isSome_some, Bool.cond_self, b1, b2, b3, b4, hw2, b5, b6, b7, b8, b9, b0, c0, Int.toNat_natCast, Bool.and_true, Bool.true_and, cond_true, need_true]
  · rw [bif_f (by simp only [bEq_eq, decide_eq_false_iff_not]; omega), bif_t (by rfl)]
    simp [bEq_eq, wI_len]
  · have b1 : bEq (((wI V ++ [(v : Int)]).length : Nat) : Int) ((V.length + 1 : Nat) : Int) = true := by simp [bEq_eq, wI_len]
    have b2 : inb (V.length : Int) (wI V ++ [(v : Int)]).length = true := inb_nat (by simp [wI_len])
    have b3 : gd (wI V ++ [(v : Int)]) V.length = (v : Int) := by rw [gd_app_ge (by rw [wI_len]; omega), wI_len, Nat.sub_self]; rfl
    have b4 : bEq (v : Int) (v : Int) = true := by simp [bEq_eq]
    have c0 : bEq 0 0 = true := rfl
    rw [bif_f (by simp only [bEq_eq, decide_eq_false_iff_not]; exact n1), bif_f (by simp only [bLt_eq, decide_eq_false_iff_not]; omega)]
    simp only [b1, b2, b3, b4, c0, Int.toNat_natCast, Bool.and_true, Bool.true_and, cond_true, need_true]
end Go.Proofs.Ytbahnppiobafoaa
