/-
  ForwardArrives: the law over values.
-/
import Derived.Test.YtbahnppiobafoaaFM
namespace Go.Proofs.Ytbahnppiobafoaa
open Go.Am
set_option linter.unusedVariables false
set_option linter.unusedSimpArgs false
theorem alive_okN : F26 = some true := by kernel_rfl
def nx (H : Nat -> Int) (B i : Nat) : List TForwardHop := if H i = -1 then [] else [⟨mA B, mA (H i)⟩]
def st (H : Nat -> Int) (A B : Nat) (V : List Nat) (i : Nat) : TForward := ⟨mA i, if i = A then 1 else 0, if i = A ∨ i ∈ V then [⟨mA A, 0⟩] else [], nx H B i⟩
def fr (A B : Nat) (D : List Int) (n : Nat) (p c : Int) : TMeshFrame := ⟨mA p, mA c, mA A, mA B, mA 100, mA 101, 0, 31 - n, D⟩
def HH (H : Nat -> Int) (B : Nat) : Prop := ∀ i : Nat, i < 8 -> H i = -1 ∨ (0 <= H i /\ H i < 8 /\ H i ≠ i /\ i ≠ B)
def nu (H : Nat -> Int) (c : Nat) : A6u8 × Bool := if H c = -1 then (⟨0, 0, 0, 0, 0, 0⟩, false) else (mA (H c), true)
section Way
variable {H : Nat -> Int} {A B : Nat} {D : List Int}
theorem nx_cases (hH : HH H B) (hB : B < 8) {i : Nat} (hi : i < 8) : nx H B i = [] ∨ (nx H B i = [⟨mA (B : Int), mA (H i)⟩] /\ (0 <= (B : Int) /\ (B : Int) < 8) /\ (0 <= H i /\ H i < 8) /\ (B : Int) ≠ i /\ H i ≠ i) := by
  unfold nx
  rcases hH i hi with h | ⟨h1, h2, h3, h4⟩
  · exact .inl (if_pos h)
  · exact .inr ⟨if_neg (by omega), by omega, ⟨h1, h2⟩, by omega, h3⟩
theorem st_ok (hH : HH H B) (hA : A < 8) (hB : B < 8) (V : List Nat) {i : Nat} (hi : i < 8) : Vf (st H A B V i) /\ Fw (st H A B V i) /\ (st H A B V i).Seen.length <= 1 :=
  nd_ok (A := A) hi hA (by split <;> omega) (by split <;> simp) (nx_cases hH hB hi)
theorem nxt_ok (V : List Nat) (c : Nat) : F43 (st H A B V c) (mA B) = some (nu H c) := by
  unfold nu
  by_cases h : H c = -1
  · rw [if_pos h]; exact F43_nil _ _ (if_pos h)
  · rw [if_neg h]; exact F43_one _ _ _ (if_neg h)
theorem fr_ok (hA : A < 8) (hB : B < 8) (hD : By D /\ D.length <= 100) {n : Nat} {p c : Int} (hn : n <= 20) (hp : 0 <= p /\ p < 8) (hc : 0 <= c /\ c < 8) : Vm (fr A B D n p c) /\ Fb (fr A B D n p c) := by
  refine ⟨⟨rfl, rfl, rfl, by show (0 : Int) <= 0 /\ (0 : Int) < 65536; omega, by show 1 <= (31 - n : Int) /\ (31 - n : Int) <= 31; omega, by show D.length <= 2264; omega⟩, mA_Ab (by omega), mA_Ab (by omega), mA_Ab (by omega), mA_Ab (by omega), mA_Ab (by omega), mA_Ab (by omega), hD.1⟩
theorem rec_ok (hH : HH H B) (hA : A < 8) (hB : B < 8) (hD : By D /\ D.length <= 100) (V : List Nat) {n c : Nat} {p : Int} (hn : n <= 20) (hp : 0 <= p /\ p < 8) (hc : c < 8) : F20 (st H A B V c) (fr A B D n p c) = some (rcv (st H A B V c) (fr A B D n p c) (nu H c)) := by
  obtain ⟨s1, s2, s3⟩ := st_ok hH hA hB V hc
  obtain ⟨f1, f2⟩ := fr_ok hA hB hD hn hp (show 0 <= (c : Int) /\ (c : Int) < 8 by omega)
  exact F20_ex _ _ s2 f2 s1 f1 (by omega) (by show D.length <= 2400; omega) (nxt_ok V c)
theorem rcv_old {V : List Nat} {n c : Nat} {p : Int} (h : c = A ∨ c ∈ V) : rcv (st H A B V c) (fr A B D n p c) (nu H c) = (st H A B V c, 0, zM, 0) := by
  unfold rcv
  rw [bif_t]
  rw [Bool.or_eq_true]
  refine .inr ((inM_iff _ _).2 ?_)
  show _ ∈ (if _ then _ else _)
  rw [if_pos h]
  exact List.mem_singleton.2 rfl
theorem st_snoc {V : List Nat} {c : Nat} (h : ¬ (c = A ∨ c ∈ V)) : rem (st H A B V c) ⟨mA A, 0⟩ = st H A B (V ++ [c]) c := by
  unfold rem st
  simp only [if_neg h]
  rw [if_pos (show c = A ∨ c ∈ V ++ [c] from .inr (by simp))]
  rfl
theorem rcv_new {V : List Nat} {n c : Nat} {p : Int} (h : ¬ (c = A ∨ c ∈ V)) (hp : p ≠ c) (hn : n <= 20) : rcv (st H A B V c) (fr A B D n p c) (nu H c) =
    bif decide (B = c) then (st H A B (V ++ [c]) c, 1, fr A B D n p c, 0) else bif (nu H c).2 then (st H A B (V ++ [c]) c, 2, fr A B D (n + 1) c (H c), 0) else (st H A B (V ++ [c]) c, 4, fr A B D n p c, 0) := by
  have hs : rem (st H A B V c) ⟨(fr A B D n p c).Enter, (fr A B D n p c).Seq⟩ = st H A B (V ++ [c]) c := st_snoc h
  have e1 : inM (st H A B V c).Seen ⟨(fr A B D n p c).Enter, (fr A B D n p c).Seq⟩ = false := by
    show inM (if _ then _ else _) _ = false
    rw [if_neg h]; rfl
  have e2 : ae (fr A B D n p c).To (st H A B V c).Own = true := ae_iff.2 rfl
  have e3 : ae (fr A B D n p c).Enter (st H A B V c).Own = false := by
    show ae (mA A) (mA c) = false
    rw [ae_mA]; simp; omega
  have e4 : ae (fr A B D n p c).From (st H A B V c).Own = false := by
    show ae (mA p) (mA c) = false
    rw [ae_mA]; simpa using hp
  have e5 : grp (fr A B D n p c).To = false := rfl
  have e6 : bEq (fr A B D n p c).Ttl 1 = false := by
    show decide ((31 - n : Int) = 1) = false
    simp; omega
  have e7 : ae (fr A B D n p c).Leave (st H A B V c).Own = decide (B = c) := by
    show ae (mA B) (mA c) = _
    rw [ae_mA]
    by_cases q : B = c
    · simp [q]
    · rw [decide_eq_false q, decide_eq_false (by omega)]
  unfold rcv
  rw [e1, e2, e3, e4, e5, e6, e7, hs]
  simp only [Bool.not_true, Bool.and_false, Bool.or_false, Bool.false_and, cond_false]
  cases decide (B = c)
  · simp only [cond_false]
    by_cases hc : H c = -1
    · rw [show nu H c = (⟨0, 0, 0, 0, 0, 0⟩, false) from if_pos hc]; rfl
    · rw [show nu H c = (mA (H c), true) from if_neg hc]
      simp only [cond_true]
      show (_, _, (⟨mA c, mA (H c), mA A, mA B, mA 100, mA 101, 0, 31 - (n : Int) - 1, D⟩ : TMeshFrame), _) = _
      unfold fr
      rw [show (31 - (n : Int) - 1) = 31 - ((n + 1 : Nat) : Int) by omega]
  · rfl
theorem tab_snoc {V : List Nat} {c : Nat} : (tab (st H A B V)).set c (st H A B (V ++ [c]) c) = tab (st H A B (V ++ [c])) := by
  rw [tab_set]
  refine tab_congr fun j _ => ?_
  by_cases e : j = c
  · subst e; rw [if_pos rfl]
  · rw [if_neg e]
    unfold st
    have : (j = A ∨ j ∈ V) ↔ (j = A ∨ j ∈ V ++ [c]) := by simp [e]
    simp only [this]
/-! ### The way -/
def nxc (V : List Nat) (c : Int) (k : Nat) : Int := if k < V.length then ((gd V k : Nat) : Int) else c
def Pt (H : Nat -> Int) (A : Nat) (V : List Nat) (c : Int) : Prop := nxc V c 0 = H A /\ ∀ k, k < V.length -> nxc V c (k + 1) = H (gd V k)
theorem nxc_snoc {V : List Nat} {x k : Nat} {y : Int} (hk : k <= V.length) : nxc (V ++ [x]) y k = nxc V (x : Int) k := by
  unfold nxc
  rw [if_pos (by simp; omega)]
  by_cases h : k < V.length
  · rw [if_pos h, gd_app_lt h]
  · obtain rfl : k = V.length := by omega
    rw [if_neg h, gd_app_ge (Nat.le_refl _), Nat.sub_self]; rfl
theorem Pt_snoc {V : List Nat} {x : Nat} (h : Pt H A V (x : Int)) : Pt H A (V ++ [x]) (H x) := by
  refine ⟨by rw [nxc_snoc (by omega)]; exact h.1, fun k hk => ?_⟩
  rw [List.length_append, List.length_singleton] at hk
  by_cases hk2 : k < V.length
  · rw [nxc_snoc (by omega), gd_app_lt hk2]
    exact h.2 k hk2
  · obtain rfl : k = V.length := by omega
    rw [gd_app_ge (Nat.le_refl _), Nat.sub_self]
    unfold nxc
    rw [if_neg (by simp)]
    rfl
def Gd (A B : Nat) (V : List Nat) : Prop := V.Nodup /\ ∀ v ∈ V, v < 8 /\ v ≠ A /\ v ≠ B
theorem Gd_len {V : List Nat} (h : Gd A B V) : V.length <= 8 := by
  have := List.Nodup.length_le_of_subset (l₂ := List.range 8) h.1 (fun v hv => List.mem_range.2 (h.2 v hv).1)
  simpa using this
def wI (V : List Nat) : List Int := V.map fun v : Nat => (v : Int)
def En (A B : Nat) (D : List Int) (V : List Nat) (c : Int) (r : List Int × Int × TMeshFrame × Bool) : Prop :=
  (c = B /\ ∃ p, r = (wI V ++ [c], 1, fr A B D V.length p c, true)) ∨ (c = -1 /\ ∃ o, r = (wI V, 4, o, true)) ∨ (c ≠ B /\ (∃ v : Nat, v < 8 /\ c = v /\ (v = A ∨ v ∈ V)) /\ ∃ o, r = (wI V ++ [c], 0, o, true))
end Way
end Go.Proofs.Ytbahnppiobafoaa
