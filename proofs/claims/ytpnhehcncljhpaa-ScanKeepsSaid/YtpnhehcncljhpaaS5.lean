/-
  Learning: the table with a candidate put in; the whole of Learn.
-/
import Derived.Test.YtpnhehcncljhpaaS4
namespace Go.Proofs.Ytpnhehcncljhpaa
open Go.Am
set_option linter.unusedVariables false
set_option linter.unusedSimpArgs false
theorem gd_get {l : List TCandidate} {j : Nat} (h : j < l.length) : l[j] = gd l j := by simp [gd, List.getD_eq_getElem?_getD, h]
theorem nA_inj {a b : A6u8} (ha : Ab a) (hb : Ab b) (h : nA a = nA b) : a = b := by
  obtain ⟨a0, a1, a2, a3, a4, a5⟩ := a
  obtain ⟨b0, b1, b2, b3, b4, b5⟩ := b
  simp only [Ab, nA] at ha hb h
  have e5 : a5 = b5 := by omega
  have e4 : a4 = b4 := by omega
  have e3 : a3 = b3 := by omega
  have e2 : a2 = b2 := by omega
  have e1 : a1 = b1 := by omega
  have e0 : a0 = b0 := by omega
  subst e0 e1 e2 e3 e4 e5
  rfl
/-- A valid table, told by its elements. -/
def Vl (l : List TCandidate) : Prop := l.length ≤ 64 ∧ l.Pairwise (fun a b => nA a.Addr < nA b.Addr) ∧ ∀ q ∈ l, Vc q ∧ Ab q.Addr
theorem Vl_of {t : TCandidates} (hv : Vt t) (hb : Abs t) : Vl t.List := by
  refine ⟨hv.1, List.pairwise_iff_getElem.2 fun i j hi hj hij => ?_, fun q hq => ?_⟩
  · rw [gd_get hi, gd_get hj]
    exact Vt_lt hv j hj i hij
  · obtain ⟨j, hj, rfl⟩ := List.getElem_of_mem hq
    rw [gd_get hj]
    exact ⟨(hv.2 j hj).1, hb j hj⟩
theorem of_Vl {t : TCandidates} (h : Vl t.List) : Vt t ∧ Abs t := by
  obtain ⟨h1, h2, h3⟩ := h
  refine ⟨⟨h1, fun i hi => ⟨(h3 _ (gd_mem hi)).1, fun h0 => ?_⟩⟩, fun i hi => (h3 _ (gd_mem hi)).2⟩
  have := List.pairwise_iff_getElem.1 h2 (i - 1) i (by omega) hi (by omega)
  rwa [gd_get, gd_get] at this
theorem mid_ok {l : List TCandidate} (h : Vl l) (y : TCandidate) (i k : Nat) (hik : i ≤ k) (hk : k ≤ l.length) (hy : Vc y) (ha : Ab y.Addr)
    (h1 : ∀ j : Nat, j < i → nA (gd l j).Addr < nA y.Addr) (h2 : ∀ j : Nat, k ≤ j → j < l.length → nA y.Addr < nA (gd l j).Addr) (h3 : ∀ j : Nat, i ≤ j → j < k → (gd l j).Addr = y.Addr)
    (hl : i + 1 + (l.length - k) ≤ 64) : Vl (l.take i ++ y :: l.drop k) ∧ ∀ q, q ∈ l.take i ++ y :: l.drop k ↔ q = y ∨ (q ∈ l ∧ q.Addr ≠ y.Addr) := by
  obtain ⟨g1, g2, g3⟩ := h
  have tk : ∀ x ∈ l.take i, nA x.Addr < nA y.Addr := fun x hx => by
    obtain ⟨j, hj, rfl⟩ := List.getElem_of_mem hx
    rw [List.length_take] at hj
    rw [List.getElem_take, gd_get (by omega)]
    exact h1 j (by omega)
  have dk : ∀ x ∈ l.drop k, nA y.Addr < nA x.Addr := fun x hx => by
    obtain ⟨j, hj, rfl⟩ := List.getElem_of_mem hx
    rw [List.length_drop] at hj
    rw [List.getElem_drop, gd_get (by omega)]
    exact h2 (k + j) (by omega) (by omega)
  refine ⟨⟨by simp; omega, List.pairwise_append.2 ⟨g2.sublist (List.take_sublist _ _), List.pairwise_cons.2 ⟨dk, g2.sublist (List.drop_sublist _ _)⟩, fun x hx z hz => ?_⟩, fun q hq => ?_⟩, fun q => ⟨fun hq => ?_, fun hq => ?_⟩⟩
  · rcases List.mem_cons.1 hz with rfl | hz
    · exact tk x hx
    · have q1 := tk x hx; have q2 := dk z hz; omega
  · rcases List.mem_append.1 hq with hq | hq
    · exact g3 q (List.mem_of_mem_take hq)
    · rcases List.mem_cons.1 hq with rfl | hq
      · exact ⟨hy, ha⟩
      · exact g3 q (List.mem_of_mem_drop hq)
  · rcases List.mem_append.1 hq with hq | hq
    · exact .inr ⟨List.mem_of_mem_take hq, fun e => by have := tk q hq; rw [e] at this; omega⟩
    · rcases List.mem_cons.1 hq with rfl | hq
      · exact .inl rfl
      · exact .inr ⟨List.mem_of_mem_drop hq, fun e => by have := dk q hq; rw [e] at this; omega⟩
  · rcases hq with rfl | ⟨hq, hne⟩
    · exact List.mem_append.2 (.inr (List.mem_cons.2 (.inl rfl)))
    · obtain ⟨j, hj, rfl⟩ := List.getElem_of_mem hq
      rw [gd_get hj] at hne
      rcases Nat.lt_or_ge j i with h | h
      · exact List.mem_append.2 (.inl (List.mem_take_iff_getElem.2 ⟨j, by omega, rfl⟩))
      · rcases Nat.lt_or_ge j k with h' | h'
        · exact absurd (h3 j h h') hne
        · refine List.mem_append.2 (.inr (List.mem_cons.2 (.inr (List.mem_drop_iff_getElem.2 ⟨j - k, by omega, ?_⟩))))
          simp only [show k + (j - k) = j from by omega]
end Go.Proofs.Ytpnhehcncljhpaa
