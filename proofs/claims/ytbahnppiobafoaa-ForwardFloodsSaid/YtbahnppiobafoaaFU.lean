/-
  ForwardFloods: receiving, spreading, one step.
-/
import Derived.Test.YtbahnppiobafoaaFN
namespace Go.Proofs.Ytbahnppiobafoaa
open Go.Am
set_option linter.unusedVariables false
set_option linter.unusedSimpArgs false
def al : A6u8 := ⟨255, 255, 255, 255, 255, 255⟩
theorem F34_ok : F34 = some al := by kernel_rfl
def fg (A n : Nat) (p : Int) : TMeshFrame := ⟨mA p, al, mA A, al, mA A, al, 0, 31 - n, [1, 2]⟩
def sf (A : Nat) (V : List Nat) (i : Nat) : TForward := st (fun _ => -1) A 0 V i
def nu0 : A6u8 × Bool := (⟨0, 0, 0, 0, 0, 0⟩, false)
theorem HHm : HH (fun _ => -1) 0 := fun i _ => .inl rfl
section Rec
variable {A : Nat}
theorem frec (hA : A < 8) (V : List Nat) {n c : Nat} {p : Int} (hn : n <= 20) (hp : 0 <= p /\ p < 8) (hc : c < 8) : F20 (sf A V c) (fg A n p) = some (rcv (sf A V c) (fg A n p) nu0) := by
  obtain ⟨s1, s2, s3⟩ := st_ok HHm hA (show 0 < 8 by omega) V hc
  have ha : Ab al := by refine ⟨?_, ?_, ?_, ?_, ?_, ?_⟩ <;> simp [al]
  have f1 : Vm (fg A n p) := ⟨rfl, rfl, rfl, by show (0 : Int) <= 0 /\ (0 : Int) < 65536; omega, by show 1 <= (31 - n : Int) /\ (31 - n : Int) <= 31; omega, by show ([1, 2] : List Int).length <= 2264; simp⟩
  have f2 : Fb (fg A n p) := ⟨mA_Ab (by omega), ha, mA_Ab (by omega), ha, mA_Ab (by omega), ha, fun q hq => by
    rcases List.mem_cons.1 hq with rfl | hq
    · omega
    · obtain rfl := List.mem_singleton.1 hq; omega⟩
  exact F20_ex _ _ s2 f2 s1 f1 (by show (st (fun _ => -1) A 0 V c).Seen.length <= 100; omega) (by show ([1, 2] : List Int).length <= 2400; simp) (F43_nil _ _ (show nx (fun _ => -1) 0 c = [] from if_pos rfl))
theorem frcv_old {V : List Nat} {n c : Nat} {p : Int} (h : c = A ∨ c ∈ V) : rcv (sf A V c) (fg A n p) nu0 = (sf A V c, 0, zM, 0) := by
  unfold rcv
  rw [bif_t]
  rw [Bool.or_eq_true]
  refine .inr ((inM_iff _ _).2 ?_)
  show _ ∈ (if _ then _ else _)
  rw [if_pos h]
  exact List.mem_singleton.2 rfl
theorem frcv_new {V : List Nat} {n c : Nat} {p : Int} (h : ¬ (c = A ∨ c ∈ V)) (hp : p ≠ c) (hn : n <= 20) : rcv (sf A V c) (fg A n p) nu0 = (sf A (V ++ [c]) c, 3, fg A (n + 1) c, 0) := by
  have hs : rem (sf A V c) ⟨(fg A n p).Enter, (fg A n p).Seq⟩ = sf A (V ++ [c]) c := st_snoc h
  have e1 : inM (sf A V c).Seen ⟨(fg A n p).Enter, (fg A n p).Seq⟩ = false := by
    show inM (if _ then _ else _) _ = false
    rw [if_neg h]; rfl
  have e3 : ae (fg A n p).Enter (sf A V c).Own = false := by
    show ae (mA A) (mA c) = false
    rw [ae_mA]; simp; omega
  have e4 : ae (fg A n p).From (sf A V c).Own = false := by
    show ae (mA p) (mA c) = false
    rw [ae_mA]; simpa using hp
  have e5 : grp (fg A n p).To = true := rfl
  have e6 : bEq (fg A n p).Ttl 1 = false := by
    show decide ((31 - n : Int) = 1) = false
    simp; omega
  have e7 : ae (fg A n p).Leave (sf A V c).Own = false := rfl
  unfold rcv
  rw [e1, e3, e4, e5, e6, e7, hs]
  simp only [Bool.not_true, Bool.and_false, Bool.or_false, Bool.false_and, cond_false, cond_true]
  show (_, _, (⟨mA c, al, mA A, al, mA A, al, 0, 31 - (n : Int) - 1, [1, 2]⟩ : TMeshFrame), _) = _
  unfold fg
  rw [show (31 - (n : Int) - 1) = 31 - ((n + 1 : Nat) : Int) by omega]
end Rec
/-! ### Spreading -/
def lk (w : List Bool) (i k : Nat) : Bool := gd w (i * 8 + k)
def sp (w : List Bool) (c : Nat) (m : TMeshFrame) (j : Nat) : List Ttravel := ((List.range j).filter fun k => lk w c k).map fun k : Nat => (⟨(k : Int), m⟩ : Ttravel)
theorem sp_len (w : List Bool) (c : Nat) (m : TMeshFrame) (j : Nat) : (sp w c m j).length <= j := by
  unfold sp
  rw [List.length_map]
  have := List.length_filter_le (fun k => lk w c k) (List.range j)
  simpa using this
theorem sp_succ (w : List Bool) (c : Nat) (m : TMeshFrame) (j : Nat) : sp w c m (j + 1) = sp w c m j ++ (bif lk w c j then [(⟨(j : Int), m⟩ : Ttravel)] else []) := by
  unfold sp
  rw [List.range_succ, List.filter_append, List.map_append]
  cases h : lk w c j
  · rw [List.filter_cons_of_neg (by simp [h])]; rfl
  · rw [List.filter_cons_of_pos (by simp [h])]; rfl
theorem sp_mem {w : List Bool} {c : Nat} {m : TMeshFrame} {x : Ttravel} (h : x ∈ sp w c m 8) : ∃ k : Nat, k < 8 /\ lk w c k = true /\ x = ⟨(k : Int), m⟩ := by
  unfold sp at h
  obtain ⟨k, hk, rfl⟩ := List.mem_map.1 h
  rw [List.mem_filter, List.mem_range] at hk
  exact ⟨k, hk.1, hk.2, rfl⟩
theorem sp_in {w : List Bool} {c k : Nat} {m : TMeshFrame} (hk : k < 8) (h : lk w c k = true) : (⟨(k : Int), m⟩ : Ttravel) ∈ sp w c m 8 := List.mem_map.2 ⟨k, List.mem_filter.2 ⟨List.mem_range.2 hk, h⟩, rfl⟩
theorem spread_ok {w : List Bool} {a : List Ttravel} {pk : Nat} {r : TForward × Int × TMeshFrame × Int} {c : Nat} {q : List Ttravel} (hw : w.length = 64) (hc : c < 8) (ht : (gd a pk).to_ = (c : Int)) (h3 : r.2.1 = 3) (hq : q.length <= 100) :
    loopD (fun s => F7_L7 w a pk r s.1 s.2) (q, (0 : Int)) = some (.inl (q ++ sp w c r.2.2.1 8)) := by
  have := run_gen (step := fun s : List Ttravel × Int => F7_L7 w a pk r s.1 s.2) (R := Bool) 8 (fun j => (q ++ sp w c r.2.2.1 j, (j : Int))) (q ++ sp w c r.2.2.1 8) (fun j hj => by
    show F7_L7 w a pk r (q ++ sp w c r.2.2.1 j) (j : Int) = _
    unfold F7_L7
    have hl := sp_len w c r.2.2.1 j
    have b1 : bLt (j : Int) 8 = true := by simp [bLt_eq]; omega
    have b2 : bEq r.2.1 3 = true := by simp [bEq_eq, h3]
    have b3 : inb (c : Int) 8 = true := inb_nat hc
    have b4 : inb (j : Int) 8 = true := inb_nat hj
    simp only [Int.toNat_natCast, ht, b1, b2, b3, b4, Bool.and_true, cond_true, need_true, eta_A6u8, eta_TMeshFrame]
    rw [need_true (by rw [hw]; simp only [decide_eq_true_eq]; omega), sp_succ, show gd w (c * 8 + j) = lk w c j from rfl]
    cases hk : lk w c j
    · rw [cond_false, wr_add1 hj (by omega)]
      simp
    · rw [cond_true, need_true (capb_iff.2 (by simp; omega)), wr_add1 hj (by omega)]
      simp)
    (by
      show F7_L7 w a pk r (q ++ sp w c r.2.2.1 8) ((8 : Nat) : Int) = _
      unfold F7_L7
      rw [show bLt ((8 : Nat) : Int) 8 = false from rfl, Bool.false_and, cond_false])
  simpa [sp] using this
theorem first_ok {w : List Bool} {p1 : Int} {r : TForward × TMeshFrame × Int} {c : Nat} (hw : w.length = 64) (hc : c < 8) (h1 : wr .i64 (p1.tmod 8) = (c : Int)) :
    loopD (fun s => F7_L3 p1 w r s.1 s.2) (([] : List Ttravel), (0 : Int)) = some (.inl (sp w c r.2.1 8)) := by
  have := run_gen (step := fun s : List Ttravel × Int => F7_L3 p1 w r s.1 s.2) (R := Bool) 8 (fun j => (sp w c r.2.1 j, (j : Int))) (sp w c r.2.1 8) (fun j hj => by
    show F7_L3 p1 w r (sp w c r.2.1 j) (j : Int) = _
    unfold F7_L3
    have hl := sp_len w c r.2.1 j
    have b1 : bLt (j : Int) 8 = true := by simp [bLt_eq]; omega
    have b3 : inb (c : Int) 8 = true := inb_nat hc
    have b4 : inb (j : Int) 8 = true := inb_nat hj
    simp only [h1, Int.toNat_natCast, b1, b3, b4, cond_true, need_true, eta_A6u8, eta_TMeshFrame]
    rw [need_true (by rw [hw]; simp only [decide_eq_true_eq]; omega), sp_succ, show gd w (c * 8 + j) = lk w c j from rfl]
    cases hk : lk w c j
    · rw [cond_false, wr_add1 hj (by omega)]
      simp
    · rw [cond_true, need_true (capb_iff.2 (by simp; omega)), wr_add1 hj (by omega)]
      simp)
    (by
      show F7_L3 p1 w r (sp w c r.2.1 8) ((8 : Nat) : Int) = _
      unfold F7_L3
      rw [show bLt ((8 : Nat) : Int) 8 = false from rfl, cond_false])
  simpa [sp] using this
/-! ### One step -/
def okA (w : List Bool) (A : Nat) (V : List Nat) (x : Ttravel) : Prop := ∃ k n p : Nat, x = ⟨(k : Int), fg A n p⟩ /\ k < 8 /\ n <= V.length /\ p < 8 /\ (p = A ∨ p ∈ V) /\ lk w p k = true
def gt1 (V : List Nat) (j : Nat) : Int := if j ∈ V then 1 else 0
def Iv7 (w : List Bool) (A : Nat) (V : List Nat) (N : List TForward) (a : List Ttravel) (g : List Int) (t : Nat) : Prop :=
  N = tab (sf A V) /\ g = tab (gt1 V) /\ (V.Nodup /\ ∀ v ∈ V, v < 8 /\ v ≠ A) /\ (∀ x ∈ a, okA w A V x) /\
  (∀ p, p < 8 -> (p = A ∨ p ∈ V) -> ∀ k : Nat, k < 8 -> lk w p k = true -> k = A ∨ k ∈ V ∨ ∃ x ∈ a, x.to_ = (k : Int)) /\
  (∀ j, j < V.length -> ∃ p, p < 8 /\ (p = A ∨ p ∈ V.take j) /\ lk w p (gd V j) = true) /\ t + a.length + 8 * (7 - V.length) <= 64
theorem V_len {A : Nat} (hA : A < 8) {V : List Nat} (h : V.Nodup /\ ∀ v ∈ V, v < 8 /\ v ≠ A) : V.length <= 7 := by
  have hn : (A :: V).Nodup := List.nodup_cons.2 ⟨fun hm => (h.2 _ hm).2 rfl, h.1⟩
  have := List.Nodup.length_le_of_subset (l₂ := List.range 8) hn (fun v hv => List.mem_range.2 (by
    rcases List.mem_cons.1 hv with rfl | hv
    · exact hA
    · exact (h.2 v hv).1))
  simpa using this
theorem pick_ok (p2 : List Int) (a : List Ttravel) (t : Nat) (ha : 0 < a.length) : ∃ pk : Nat, pk < a.length /\ loopD (fun _ => F7_L5 p2 a t) () = some (.inl (pk : Int)) := by
  by_cases h : t < p2.length /\ 0 <= gd p2 t
  · obtain ⟨n, hn⟩ := Int.eq_ofNat_of_zero_le h.2
    refine ⟨n % a.length, Nat.mod_lt _ ha, loopD_done ?_⟩
    unfold F7_L5
    rw [Int.toNat_natCast, bif_t (by simp only [bLt_eq, bLe_eq, Bool.and_eq_true, decide_eq_true_eq]; omega), need_true (inb_nat h.1), need_true (by rw [bEq_eq, decide_eq_false (by omega)]; rfl), hn]
    rfl
  · refine ⟨0, ha, loopD_done ?_⟩
    unfold F7_L5
    rw [Int.toNat_natCast, bif_f (by simp only [bLt_eq, bLe_eq, Bool.and_eq_false_iff, decide_eq_false_iff_not]; omega)]
    rfl
theorem cut_mem {a : List Ttravel} {pk : Nat} {x : Ttravel} (h : x ∈ ([] ++ a.take pk) ++ (a.drop (pk + 1)).take (a.length - (pk + 1))) : x ∈ a := by
  rw [List.nil_append] at h
  rcases List.mem_append.1 h with h | h
  · exact List.mem_of_mem_take h
  · exact List.mem_of_mem_drop (List.mem_of_mem_take h)
theorem cut_in {a : List Ttravel} {pk : Nat} {x : Ttravel} (hp : pk < a.length) (h : x ∈ a) : x = gd a pk ∨ x ∈ ([] ++ a.take pk) ++ (a.drop (pk + 1)).take (a.length - (pk + 1)) := by
  have e : a = a.take pk ++ gd a pk :: a.drop (pk + 1) := by rw [← gd_at hp, ← List.drop_eq_getElem_cons hp, List.take_append_drop]
  rw [e] at h
  rw [List.nil_append, show (a.drop (pk + 1)).take (a.length - (pk + 1)) = a.drop (pk + 1) from List.take_of_length_le (by simp)]
  rcases List.mem_append.1 h with h | h
  · exact .inr (List.mem_append_left _ h)
  · rcases List.mem_cons.1 h with h | h
    · exact .inl h
    · exact .inr (List.mem_append_right _ h)
theorem cut_len {a : List Ttravel} {pk : Nat} (hp : pk < a.length) : (([] ++ a.take pk) ++ (a.drop (pk + 1)).take (a.length - (pk + 1))).length + 1 = a.length := by
  simp
  omega
theorem step7 {w : List Bool} {A : Nat} {V : List Nat} {N : List TForward} {a : List Ttravel} {g : List Int} {t : Nat} (p2 : List Int) (hw : w.length = 64) (hA : A < 8) (ha : 0 < a.length) (h : Iv7 w A V N a g t) :
    ∃ V' N' a' g', F7_L4 p2 w N a g t = some (.next (N', a', g', ((t + 1 : Nat) : Int))) /\ Iv7 w A V' N' a' g' (t + 1) := by
  obtain ⟨rfl, rfl, hV, hx, hcov, hch, hpot⟩ := h
  have hl := V_len hA hV
  obtain ⟨pk, hpk, ep⟩ := pick_ok p2 a t ha
  obtain ⟨c, n, p, ex, hc, hn, hp8, hpv, hlk⟩ := hx _ (gd_mem hpk)
  have eto : (gd a pk).to_ = (c : Int) := by rw [ex]
  have em : (gd a pk).m = fg A n p := by rw [ex]
  have i8 : inb (c : Int) 8 = true := inb_nat hc
  have it : ∀ {α : Type} (g : Nat -> α), inb (c : Int) (tab g).length = true := fun g => by rw [tab_len]; exact i8
  have hr := frec hA V (n := n) (p := (p : Int)) (by omega) (show 0 <= (p : Int) /\ (p : Int) < 8 by omega) hc
  have hcl := cut_len hpk
  unfold F7_L4
  simp only [eta_A6u8, eta_TForward, eta_TMeshFrame, eta_TForwardMark]
  rw [bif_t (by simp only [bLt_eq, decide_eq_true_eq]; omega), bif_f (by simp only [bLt_eq, decide_eq_false_iff_not]; omega), need_true (by
    by_cases q : t < p2.length
    · rw [bif_t (by simp only [bLt_eq, decide_eq_true_eq]; omega)]; exact inb_nat q
    · rw [bif_f (by simp only [bLt_eq, decide_eq_false_iff_not]; omega)]), lp_inl ep, wr_add1 hpk (by omega), Int.toNat_natCast, Int.toNat_natCast]
  rw [need_true (inb_nat hpk), need_true (slb_iff.2 (by omega)), need_true (capb_iff.2 (by omega)), need_true (slb_iff.2 (by omega)), need_true (capb_iff.2 (by omega)), Option.bind_some, Option.bind_some]
  simp only [eto, em, Int.toNat_natCast, i8, it, need_true, gd_tab hc]
  by_cases ho : c = A ∨ c ∈ V
  · rw [frcv_old ho] at hr
    rw [hr, Option.bind_some, bif_f (by rfl)]
    have e6 : loopD (fun _ => F7_L6 a (tab (gt1 V)) pk (sf A V c, 0, zM, 0)) () = some (.inl (tab (gt1 V))) := by
      refine loopD_done ?_
      unfold F7_L6
      rw [bif_f (by rfl)]
    have e7 : loopD (fun s => F7_L7 w a pk (sf A V c, 0, zM, 0) s.1 s.2) (([] ++ a.take pk) ++ (a.drop (pk + 1)).take (a.length - (pk + 1)), (0 : Int)) = some (.inl (([] ++ a.take pk) ++ (a.drop (pk + 1)).take (a.length - (pk + 1)))) := by
      refine loopD_done ?_
      unfold F7_L7
      rw [bif_f (by rfl)]
    rw [lp_inl e6, lp_inl e7, wr_add1 (n := 200) (by omega) (by omega)]
    refine ⟨V, _, _, _, rfl, ?_, rfl, hV, fun x hx' => hx x (cut_mem hx'), fun p' hp' hpv' k hk hlk' => ?_, hch, by omega⟩
    · rw [tab_set]
      refine tab_congr fun j _ => ?_
      by_cases e : j = c
      · rw [if_pos e, e]
      · rw [if_neg e]
    · rcases hcov p' hp' hpv' k hk hlk' with q | q | ⟨x, hx1, hx2⟩
      · exact .inl q
      · exact .inr (.inl q)
      · rcases cut_in hpk hx1 with rfl | q
        · rw [eto] at hx2
          obtain rfl : c = k := by omega
          rcases ho with q | q
          · exact .inl q
          · exact .inr (.inl q)
        · exact .inr (.inr ⟨x, q, hx2⟩)
  · have hpc : (p : Int) ≠ c := fun e => ho (by obtain rfl : p = c := (by omega); exact hpv)
    rw [frcv_new ho hpc (by omega)] at hr
    rw [hr, Option.bind_some, bif_f (by rfl)]
    have hg : gd (tab (gt1 V)) c = 0 := by rw [gd_tab hc]; exact if_neg fun q => ho (.inr q)
    have e6 : loopD (fun _ => F7_L6 a (tab (gt1 V)) pk (sf A (V ++ [c]) c, 3, fg A (n + 1) c, 0)) () = some (.inl (tab (gt1 (V ++ [c])))) := by
      refine loopD_done ?_
      unfold F7_L6
      rw [bif_t (by rfl)]
      simp only [eto, Int.toNat_natCast, i8, it, need_true, hg]
      rw [tab_set, show wr .i64 (0 + 1) = 1 from rfl]
      congr 3
      refine tab_congr fun j _ => ?_
      unfold gt1
      by_cases e : j = c
      · rw [if_pos e, if_pos (by rw [e]; simp)]
      · rw [if_neg e]
        have : (j ∈ V) ↔ (j ∈ V ++ [c]) := by simp [e]
        simp only [this]
    have e7 := spread_ok (w := w) (a := a) (pk := pk) (r := (sf A (V ++ [c]) c, 3, fg A (n + 1) c, 0)) (c := c) (q := ([] ++ a.take pk) ++ (a.drop (pk + 1)).take (a.length - (pk + 1))) hw hc eto rfl (by omega)
    rw [lp_inl e6, lp_inl e7, wr_add1 (n := 200) (by omega) (by omega)]
    have hsl := sp_len w c (fg A (n + 1) c) 8
    have hV2 : (V ++ [c]).Nodup /\ ∀ v ∈ V ++ [c], v < 8 /\ v ≠ A := by
      refine ⟨List.nodup_append.2 ⟨hV.1, by simp, fun a' ha' b hb e => ?_⟩, fun v hv => ?_⟩
      · obtain rfl := List.mem_singleton.1 hb
        subst e
        exact ho (.inr ha')
      · rcases List.mem_append.1 hv with h | h
        · exact hV.2 v h
        · obtain rfl := List.mem_singleton.1 h
          exact ⟨hc, fun h => ho (.inl h)⟩
    have hl2 := V_len hA hV2
    rw [List.length_append, List.length_singleton] at hl2
    refine ⟨V ++ [c], _, _, _, rfl, ?_, rfl, hV2, fun x hx' => ?_, fun p' hp' hpv' k hk hlk' => ?_, fun j hj => ?_, ?_⟩
    · exact tab_snoc
    · rcases List.mem_append.1 hx' with q | q
      · obtain ⟨k', n', p', e1, e2, e3, e4, e5, e6⟩ := hx x (cut_mem q)
        exact ⟨k', n', p', e1, e2, by simp; omega, e4, e5.imp_right fun q => List.mem_append_left _ q, e6⟩
      · obtain ⟨k, hk, hlk', rfl⟩ := sp_mem q
        exact ⟨k, n + 1, c, rfl, hk, by simp; omega, hc, .inr (by simp), hlk'⟩
    · by_cases hpc' : p' = c
      · subst hpc'
        exact .inr (.inr ⟨_, List.mem_append_right _ (sp_in hk hlk'), rfl⟩)
      · have hpv2 : p' = A ∨ p' ∈ V := by
          rcases hpv' with q | q
          · exact .inl q
          · rcases List.mem_append.1 q with q | q
            · exact .inr q
            · exact absurd (List.mem_singleton.1 q) hpc'
        rcases hcov p' hp' hpv2 k hk hlk' with q | q | ⟨x, hx1, hx2⟩
        · exact .inl q
        · exact .inr (.inl (List.mem_append_left _ q))
        · rcases cut_in hpk hx1 with rfl | q
          · rw [eto] at hx2
            obtain rfl : c = k := by omega
            exact .inr (.inl (by simp))
          · exact .inr (.inr ⟨x, List.mem_append_left _ q, hx2⟩)
    · rw [List.length_append, List.length_singleton] at hj
      by_cases hj2 : j < V.length
      · obtain ⟨p', e1, e2, e3⟩ := hch j hj2
        refine ⟨p', e1, ?_, by rw [gd_app_lt hj2]; exact e3⟩
        rwa [List.take_append_of_le_length (by omega)]
      · obtain rfl : j = V.length := by omega
        refine ⟨p, hp8, ?_, ?_⟩
        · rw [List.take_append_of_le_length (Nat.le_refl _), List.take_length]; exact hpv
        · rw [gd_app_ge (Nat.le_refl _), Nat.sub_self]; exact hlk
    · have e1 : (V ++ [c]).length = V.length + 1 := by simp
      rw [List.length_append, e1]
      simp only
      omega
end Go.Proofs.Ytbahnppiobafoaa
