/-
  Eight nodes: addresses, what a node knows, sending.
-/
import Derived.Test.YtbahnppiobafoaaFE
namespace Go.Proofs.Ytbahnppiobafoaa
open Go.Am
set_option linter.unusedVariables false
set_option linter.unusedSimpArgs false
def mA (i : Int) : A6u8 := ⟨2, 0, 0, 0, 8, i⟩
theorem F31_ok {i : Int} (h : 0 <= i /\ i <= 255) : F31 i = some (mA i) := by
  unfold F31
  rw [wr_u8 h]
  rfl
theorem mA_Ab {i : Int} (h : 0 <= i /\ i <= 255) : Ab (mA i) := by
  refine ⟨?_, ?_, ?_, ?_, ?_, h⟩ <;> simp [mA]
theorem mA_grp (i : Int) : grp (mA i) = false := rfl
theorem ae_mA (i j : Int) : ae (mA i) (mA j) = decide (i = j) := by
  by_cases h : i = j
  · subst h; rw [decide_eq_true rfl]; exact ae_iff.2 rfl
  · rw [decide_eq_false h]
    exact ae_no fun e => h (congrArg A6u8.x5 e)
theorem mA_inj {i j : Int} (h : mA i = mA j) : i = j := congrArg A6u8.x5 h
def tab {α : Type} (g : Nat -> α) : List α := (List.range 8).map g
theorem tab_len {α : Type} (g : Nat -> α) : (tab g).length = 8 := by simp [tab]
theorem gd_tab {α : Type} [Inhabited α] {g : Nat -> α} {i : Nat} (h : i < 8) : gd (tab g) i = g i := by simp [tab, gd, List.getD_eq_getElem?_getD, h]
theorem tab_congr {α : Type} {g g' : Nat -> α} (h : ∀ i, i < 8 -> g i = g' i) : tab g = tab g' := List.map_congr_left fun i hi => h i (List.mem_range.1 hi)
theorem tab_set {α : Type} {g : Nat -> α} {i : Nat} {x : α} : (tab g).set i x = tab (fun j => if j = i then x else g j) := by
  apply List.ext_getElem (by simp [tab])
  intro k h1 h2
  simp only [tab, List.getElem_set, List.getElem_map, List.getElem_range]
  by_cases e : i = k
  · rw [if_pos e, if_pos e.symm]
  · rw [if_neg e, if_neg (fun h => e h.symm)]
theorem tab_all {α : Type} [Inhabited α] (g : Nat -> α) : [gd (tab g) 0, gd (tab g) 1, gd (tab g) 2, gd (tab g) 3, gd (tab g) 4, gd (tab g) 5, gd (tab g) 6, gd (tab g) 7] = tab g := by
  rw [gd_tab (by omega), gd_tab (by omega), gd_tab (by omega), gd_tab (by omega), gd_tab (by omega), gd_tab (by omega), gd_tab (by omega), gd_tab (by omega)]
  rfl
def nd (i : Nat) : TForward := ⟨mA i, 0, [], []⟩
theorem mesh_ok : F29 = some ⟨nd 0, nd 1, nd 2, nd 3, nd 4, nd 5, nd 6, nd 7⟩ := by kernel_rfl
theorem mesh_tab : [nd 0, nd 1, nd 2, nd 3, nd 4, nd 5, nd 6, nd 7] = tab nd := rfl
theorem tm8 {x : Int} (h : 0 <= x /\ x <= 255) : ∃ a : Nat, a < 8 /\ wr .i64 (x.tmod 8) = a := by
  obtain ⟨n, rfl⟩ := Int.eq_ofNat_of_zero_le h.1
  refine ⟨n % 8, Nat.mod_lt _ (by omega), ?_⟩
  rw [show ((n : Int)).tmod 8 = ((n % 8 : Nat) : Int) from rfl, wr_in (by omega)]
theorem tm9 {x : Int} (h : 0 <= x /\ x <= 255) : ∃ a : Nat, a < 9 /\ wr .i64 (x.tmod 9) = a := by
  obtain ⟨n, rfl⟩ := Int.eq_ofNat_of_zero_le h.1
  refine ⟨n % 9, Nat.mod_lt _ (by omega), ?_⟩
  rw [show ((n : Int)).tmod 9 = ((n % 9 : Nat) : Int) from rfl, wr_in (by omega)]
theorem nd_ok {i A : Nat} {q b h : Int} {S : List TForwardMark} {X : List TForwardHop} (hi : i < 8) (hA : A < 8) (hq : q = 0 ∨ q = 1) (hS : S = [] ∨ S = [⟨mA A, 0⟩]) (hX : X = [] ∨ (X = [⟨mA b, mA h⟩] /\ (0 <= b /\ b < 8) /\ (0 <= h /\ h < 8) /\ b ≠ i /\ h ≠ i)) :
    Vf ⟨mA i, q, S, X⟩ /\ Fw ⟨mA i, q, S, X⟩ /\ S.length <= 1 := by
  have hAb : Ab (mA A) := mA_Ab (by omega)
  refine ⟨⟨rfl, by show 0 <= q /\ q < 65536; omega, ?_, ?_, fun k hk => ?_, fun k hk => ?_⟩, ⟨mA_Ab (by omega), fun x hx => ?_, fun x hx => ?_⟩, ?_⟩
  · show S.length <= 128
    rcases hS with rfl | rfl <;> simp
  · show X.length <= 64
    rcases hX with rfl | ⟨rfl, _⟩ <;> simp
  · replace hk : k < S.length := hk
    rcases hS with rfl | rfl
    · simp at hk
    · obtain rfl : k = 0 := by simpa using hk
      exact ⟨by show (0 : Int) <= 0 /\ (0 : Int) < 65536; omega, by show _ ∉ []; simp⟩
  · replace hk : k < X.length := hk
    rcases hX with rfl | ⟨rfl, h1, h2, h3, h4⟩
    · simp at hk
    · obtain rfl : k = 0 := by simpa using hk
      exact ⟨fun e => h3 (mA_inj e), fun e => h4 (mA_inj e), rfl, rfl, fun h => by omega⟩
  · replace hx : x ∈ S := hx
    rcases hS with rfl | rfl
    · cases hx
    · obtain rfl := List.mem_singleton.1 hx; exact hAb
  · replace hx : x ∈ X := hx
    rcases hX with rfl | ⟨rfl, h1, h2, _, _⟩
    · cases hx
    · obtain rfl := List.mem_singleton.1 hx
      exact ⟨mA_Ab (by omega), mA_Ab (by omega)⟩
  · rcases hS with rfl | rfl <;> simp
theorem F54_nil (a : TForwardMark) : F54_1 [] a = some [] := rfl
theorem send_to (s : TForward) (lv so tg : A6u8) (D : List Int) {u : A6u8 × Bool} (hs : Vf s /\ Fw s) (hS : s.Seen = []) (hq : s.Seq = 0) (hu : F43 s lv = some u) (hl : Ab lv) (hne : lv ≠ s.Own) (hD : D.length <= 2264) :
    F32 s lv so tg D = some (bif grp lv then (⟨s.Own, 1, [⟨s.Own, 0⟩], s.Nexts⟩, ⟨s.Own, lv, s.Own, lv, so, tg, 0, 31, D⟩, 0) else bif u.2 then (⟨s.Own, 1, [⟨s.Own, 0⟩], s.Nexts⟩, ⟨s.Own, u.1, s.Own, lv, so, tg, 0, 31, D⟩, 0) else (⟨⟨0, 0, 0, 0, 0, 0⟩, 0, [], []⟩, zM, 6)) := by
  obtain ⟨hv, hw⟩ := hs
  have v4 := hv.2.2.2.1
  have he : F27 s = some 0 := by
    rcases F27_ok s hw (by rw [hS]; simp) (by omega) with h | h
    · exact h.2
    · exact absurd hv h.1
  have h42 : F42 ⟨s.Own, s.Seq, [], s.Nexts⟩ s.Own s.Seq = some ⟨s.Own, 0, [⟨s.Own, 0⟩], s.Nexts⟩ := by
    rw [F42_ok _ _ _ (by simp) (by show s.Nexts.length <= 1000; omega), rmb_new _ _ (by simp) (by simp), hq]
    rfl
  unfold F32
  simp only [eta_A6u8, eta_TForward, eta_TMeshFrame, eta_TForwardMark, ae_def]
  rw [he, Option.bind_some, hu, Option.bind_some, bif_f (c := !bEq 0 0) (by rfl), ae_no hne, cond_false, bif_f (c := bLt 2264 _) (by simp only [bLt_eq, decide_eq_false_iff_not]; omega), F39_ok hl, Option.bind_some, hS, F37_ok D (by omega), show F55 [] = some [] from rfl]
  simp only [Option.bind_some, F54_nil, h42]
  cases grp lv
  · cases u.2
    · rfl
    · simp only [hq]; rfl
  · simp only [hq]; rfl
end Go.Proofs.Ytbahnppiobafoaa
