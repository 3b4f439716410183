/-
  Forward: receiving a frame, by the program and by the reference.
-/
import Derived.Test.YtbahnppiobafoaaFH
namespace Go.Proofs.Ytbahnppiobafoaa
open Go.Am
set_option linter.unusedVariables false
set_option linter.unusedSimpArgs false
theorem F41_ok (s : TForward) (h1 : s.Seen.length <= 1000) (h2 : s.Nexts.length <= 1000) : F41 s = some s := by
  unfold F41 F55 F59
  rw [nd_cap (by omega) (by omega), nd_cap (by omega) (by omega)]
  rfl
theorem F37_ok (l : List Int) (h : l.length <= 2400) : F37 l = some l := by
  unfold F37; rw [nd_cap (by omega) (by omega)]
def kept (s : TForward) (a : TForwardMark) : List TForwardMark := s.Seen.filter fun q => !me q a
def rmb (s : TForward) (a : TForwardMark) : List TForwardMark := bif decide (128 < (kept s a).length + 1) then (kept s a ++ [a]).drop 1 else kept s a ++ [a]
theorem kept_len (s : TForward) (a : TForwardMark) : (kept s a).length <= s.Seen.length := List.length_filter_le _ _
theorem rmb_len (s : TForward) (a : TForwardMark) : (rmb s a).length <= s.Seen.length + 1 := by
  have := kept_len s a
  unfold rmb
  cases decide (128 < (kept s a).length + 1)
  · simp; omega
  · simp; omega
theorem F54_ok (l : List TForwardMark) (a : TForwardMark) (hl : l.length <= 1000) : F54_0 l a = some (l.filter fun q => !me q a) := by
  unfold F54_0 F69_0
  exact del_gen l (fun q => me q a) (fun q => F60_0 q a) (by omega) (fun q _ => rfl) (step1 := fun s => F69_0_L1 l a s) (fun s => rfl) (step2 := fun s => F54_0_L1 a s.1 s.2.1 s.2.2) (fun s => rfl)
theorem F42_ok (s : TForward) (a : A6u8) (q : Int) (h1 : s.Seen.length <= 128) (h2 : s.Nexts.length <= 1000) : F42 s a q = some ⟨s.Own, s.Seq, rmb s ⟨a, q⟩, s.Nexts⟩ := by
  unfold F42
  have hk := kept_len s ⟨a, q⟩
  rw [F41_ok s (by omega) h2, Option.bind_some]
  simp only [eta_A6u8]
  rw [F54_ok _ _ (by omega), Option.bind_some]
  show need (capb 16 ((kept s ⟨a, q⟩).length + 1)) (bif bLt 128 (((kept s ⟨a, q⟩).length + 1 : Nat) : Int) then _ else _) = _
  rw [nd_cap (by omega) (by omega)]
  unfold rmb
  by_cases h : 128 < (kept s ⟨a, q⟩).length + 1
  · rw [bif_t (c := bLt _ _) (by simp only [bLt_eq, decide_eq_true_eq]; omega), bif_t (c := decide _) (by simp only [decide_eq_true_eq]; omega), nd_slb (by omega) (by omega) (by omega)]
    rfl
  · rw [bif_f (c := bLt _ _) (by simp only [bLt_eq, decide_eq_false_iff_not]; omega), bif_f (c := decide _) (by simp only [decide_eq_false_iff_not]; omega)]
    rfl
def Rl (v : TForward × Int × TMeshFrame × Int) : Prop := v.1.Seen.length <= 1000 /\ v.1.Nexts.length <= 1000 /\ v.2.2.1.Data.length <= 10000
theorem strL_inj : ∀ {a b : List Int}, By a -> By b -> strL a = strL b -> a = b := by
  intro a b ha hb h
  have h2 : (a.map fun q => q.toNat.toUInt8) = (b.map fun q => q.toNat.toUInt8) := by
    have := congrArg (fun x : ByteArray => x.data.toList) h
    simpa [strL] using this
  have dec : ∀ l : List Int, By l -> (l.map fun q => q.toNat.toUInt8).map (fun u => ((u.toNat : Nat) : Int)) = l := fun l hl => by
    rw [List.map_map]
    refine (List.map_congr_left fun q hq => ?_).trans (List.map_id l)
    have := hl q hq
    show ((q.toNat.toUInt8.toNat : Nat) : Int) = q
    rw [show q.toNat.toUInt8.toNat = q.toNat % 256 from rfl]
    omega
  rw [← dec a ha, ← dec b hb, h2]
theorem F49_ok (a b : List Int) (ha : By a) (hb : By b) : ∃ c, F49 a b = some c /\ (c = true ↔ a = b) := by
  unfold F49
  rw [need_true (by rw [u8b_enR (f := c_u8) (fun _ => rfl)]; exact u8A_iff.2 ha), need_true (by rw [u8b_enR (f := c_u8) (fun _ => rfl)]; exact u8A_iff.2 hb), bytesC_enR (f := c_u8) (fun _ => rfl), bytesC_enR (f := c_u8) (fun _ => rfl)]
  refine ⟨_, rfl, fun h => strL_inj ha hb (by
    have h2 : (strL a).toList = (strL b).toList := by simpa [sEq] using h
    rw [Go.Lib.toList_data, Go.Lib.toList_data] at h2
    exact ByteArray.ext (Array.toList_inj.1 h2)), fun h => by rw [h]; simp [sEq]⟩
theorem tch_gen {α E R : Type} [Inhabited α] {step : Int × List α -> Option (Lp (Int × List α) (E ⊕ R))} (l : List α)
    (hs : ∀ (i : Nat) (L : List α), L.length = l.length -> i < l.length -> ∃ L', L'.length = l.length /\ step ((i : Int), L) = some (.next (((i + 1 : Nat) : Int), L')))
    (he : ∀ L : List α, L.length = l.length -> ∃ e, step ((l.length : Int), L) = some (.done (.inl e))) : ∃ e, loopD step (0, l) = some (.inl e) := by
  obtain ⟨r, l1, e, rfl⟩ := loop_inv (step := step) (fun s => ∃ x : Nat, s.1 = (x : Int) /\ x <= l.length /\ s.2.length = l.length) (fun r => ∃ e, r = .inl e) (fun s => (l.length - s.1).toNat)
    (fun s hS => by
      obtain ⟨i, L⟩ := s
      obtain ⟨x, h1, h2, h3⟩ := hS
      simp only at h1 h3
      subst h1
      by_cases hx : x < l.length
      · obtain ⟨L', q1, q2⟩ := hs x L h3 hx
        exact .inr ⟨_, q2, ⟨x + 1, rfl, by omega, q1⟩, by simp only; omega⟩
      · obtain ⟨e, q⟩ := he L h3
        have : x = l.length := by omega
        subst this
        exact .inl ⟨_, q, e, rfl⟩) (0, l) ⟨0, rfl, by omega, rfl⟩
  exact ⟨e, l1⟩
end Go.Proofs.Ytbahnppiobafoaa
