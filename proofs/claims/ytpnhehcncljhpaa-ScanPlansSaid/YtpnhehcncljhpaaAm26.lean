/-
  The abstract machine, part 26: loops whose rounds make memory; loops of a known number of rounds.
-/
import Derived.Test.YtpnhehcncljhpaaAm25
import Derived.LoopN
namespace Go.Am
set_option linter.unusedVariables false
variable {P : Program} {E : Env} {h : List ABlk}

/-- The state (t2, h2) says no more than (t, h); the first n blocks keep their numbers. -/
def SubBy (μ : Mu) (n : Nat) (t : List AV) (h : List ABlk) (t2 : List AV) (h2 : List ABlk) : Prop := CvL μ t2 t ∧ CvH μ h h2 μ ∧ injM (liveM μ h2) = true ∧ idM 0 n μ = true
def Sub (n : Nat) (t : List AV) (h : List ABlk) (t2 : List AV) (h2 : List ABlk) : Prop := ∃ μ, SubBy μ n t h t2 h2
theorem idM_len : ∀ (n i : Nat) (μ : Mu), idM i n μ = true → n ≤ μ.length
  | 0, _, _, _ => Nat.zero_le _
  | n + 1, i, [], h => by simp [idM] at h
  | n + 1, i, m :: ms, h => by
    simp only [idM, Bool.and_eq_true] at h
    have := idM_len n (i + 1) ms h.2
    simp; omega
theorem via_FR {μ : Mu} {t t2 : List AV} {vs : Array Value} (F : FR E t vs) (hc : CvL μ t2 t) : FR (E.via μ) t2 vs := by
  obtain ⟨c1, c2⟩ := CvL_get hc
  refine ⟨c1.trans F.1, fun i a v ha hv => ?_⟩
  have hi : i < t.length := by
    rw [← c1]
    rcases Nat.lt_or_ge i t2.length with h' | h'
    · exact h'
    · rw [List.getElem?_eq_none h'] at ha; cases ha
  exact Cv_sound (F.2 i _ v (List.getElem?_eq_getElem hi) hv) _ (c2 i a _ ha (List.getElem?_eq_getElem hi))
theorem via_Ext {E0 : Env} {h0 h2 : List ABlk} {μ : Mu} (H0 : HR E0 h0) (H : HR E h) (X : Ext E0 h0 E h) (hc : CvH μ h h2 μ) (hi : injM (liveM μ h2) = true) (hd : idM 0 h0.length μ = true) : Ext E0 h0 (E.via μ) h2 := by
  have hid : ∀ b, b < h0.length → getM μ b = some b := fun b hb => by have := idM_get _ _ _ hd b hb; rwa [Nat.zero_add] at this
  have hσ : ∀ b, b < h0.length → (E.via μ).σ b = E.σ b := fun b hb => by show (getM μ b).bind E.σ = _; rw [hid b hb]; rfl
  obtain ⟨_, hown⟩ := via_HR H hc hi
  refine ⟨X.os, X.tape, X.output, fun b x hb => ?_, X.prot, X.size, X.kind, X.frame, fun k hk => X.own k (hown k hk), ?_, fun b hb => (hσ b hb).trans (X.old b hb), X.pro⟩
  · have hlt : b < h0.length := by
      rcases Nat.lt_or_ge b h0.length with h' | h'
      · exact h'
      · rw [H0.fresh b h'] at hb; cases hb
    rw [hσ b hlt]; exact X.σ b x hb
  · rw [(CvH_get hc).1]; exact idM_len _ _ _ hd
def Back2 {α : Type} (T : α → List AV) (Hp : α → List ABlk) (J : α → Prop) (μ : α → Nat) (n : Nat) (x : α) (t : List AV) (h : List ABlk) : Prop :=
  ∃ x', J x' ∧ μ x' < μ x ∧ Sub n t h (T x') (Hp x')
theorem loop_rule2 {α : Type} {sh : TypeId → Option (List Leaf)} {ct : Ct} (S : ShOk P sh) (C : CtOk P ct) (T : α → List AV) (Hp : α → List ABlk) (J : α → Prop) (μ : α → Nat) (x0 : α)
    {c : Code} {K : Kt} {t : List AV} (h0 : J x0) (init : Sub h.length t h (T x0) (Hp x0))
    (round : ∀ x, J x → wpC P sh ct c (kLp (Back2 T Hp J μ h.length x) K) (T x) (Hp x)) : Mean P (.loop c) K t h := by
  intro E a Q H F hd hQ
  let Inv (x : α) (a' : Act) (w' : World) : Prop := J x ∧ a'.defers = [] ∧ ∃ E', E'.w = w' ∧ HR E' (Hp x) ∧ FR E' (T x) a'.tmps ∧ Ext E h E' (Hp x)
  have hmin : ∀ a' w', ∃ m : Nat, (∃ x, Inv x a' w') → (∃ x, Inv x a' w' ∧ μ x = m) ∧ ∀ x, Inv x a' w' → m ≤ μ x := by
    intro a' w'
    by_cases hx : ∃ x, Inv x a' w'
    · obtain ⟨x, hx⟩ := hx
      obtain ⟨m, m1, m2⟩ := exists_min (p := fun m => ∃ x, Inv x a' w' ∧ μ x = m) ⟨μ x, x, hx, rfl⟩
      exact ⟨m, fun _ => ⟨m1, fun y hy => m2 _ ⟨y, hy, rfl⟩⟩⟩
    · exact ⟨0, fun h => absurd h hx⟩
  obtain ⟨ν, n1, n2, n3, n4⟩ := init
  refine wp_loop (fun a' w' => ∃ x, Inv x a' w') (fun a' w' => Classical.choose (hmin a' w')) ⟨x0, h0, hd, E.via ν, rfl, (via_HR H n2 n3).1, via_FR F n1, via_Ext H H (Ext.refl _ _) n2 n3 n4⟩ fun a1 w1 hI => ?_
  obtain ⟨⟨x, ⟨hJ, hd1, E1, rfl, H1, F1, X1⟩, hm1⟩, hm2⟩ := Classical.choose_spec (hmin a1 w1) hI
  refine wpC_sound S C c _ _ _ (round x hJ) E1 a1 _ H1 F1 hd1 fun e E2 a2 t2 h2 hk X2 H2 F2 hd2 => ?_
  cases e with
  | normal =>
    obtain ⟨x', hJ', hμ, ν', c1, c2, c3, c4⟩ := hk
    have hI2 : Inv x' a2 E2.w := ⟨hJ', hd2, E2.via ν', rfl, (via_HR H2 c2 c3).1, via_FR F2 c1, via_Ext H H2 (X1.trans X2) c2 c3 c4⟩
    refine ⟨⟨x', hI2⟩, ?_⟩
    have h1 := (Classical.choose_spec (hmin a2 E2.w) ⟨x', hI2⟩).2 x' hI2
    show Classical.choose (hmin a2 E2.w) < Classical.choose (hmin a1 E1.w)
    omega
  | exit id => exact hQ (.exit id) E2 a2 t2 h2 hk (X1.trans X2) H2 F2 hd2
  | ret => exact hQ .ret E2 a2 t2 h2 hk (X1.trans X2) H2 F2 hd2
  | goto l => exact hQ (.goto l) E2 a2 t2 h2 hk (X1.trans X2) H2 F2 hd2

/-- A loop of at most n rounds, each walked. -/
def Rnd (P : Program) (sh : TypeId → Option (List Leaf)) (ct : Ct) (c : Code) (K : Kt) : Nat → List AV → List ABlk → Prop
  | 0, _, _ => False
  | n + 1, t, h => wpC P sh ct c (kLp (Rnd P sh ct c K n) K) t h
theorem loop_rounds {sh : TypeId → Option (List Leaf)} {ct : Ct} (S : ShOk P sh) (C : CtOk P ct) (n : Nat) {c : Code} {K : Kt} {t : List AV} (hr : Rnd P sh ct c K n t h) : Mean P (.loop c) K t h := by
  intro E a Q H F hd hQ
  refine wp_loop_rounds n ?_
  induction n generalizing t h E a with
  | zero => exact hr.elim
  | succ n ih =>
    rw [rounds_succ]
    refine wpC_sound S C c _ _ _ hr E a _ H F hd fun e E2 a2 t2 h2 hk X2 H2 F2 hd2 => ?_
    cases e with
    | normal => exact ih hk E2 a2 H2 F2 hd2 fun e E3 a3 t3 h3 hk3 X3 H3 F3 hd3 => hQ e E3 a3 t3 h3 hk3 (X2.trans X3) H3 F3 hd3
    | exit id => exact hQ (.exit id) E2 a2 t2 h2 hk X2 H2 F2 hd2
    | ret => exact hQ .ret E2 a2 t2 h2 hk X2 H2 F2 hd2
    | goto l => exact hQ (.goto l) E2 a2 t2 h2 hk X2 H2 F2 hd2
theorem rnd_succ {sh : TypeId → Option (List Leaf)} {ct : Ct} {c : Code} {K : Kt} {n : Nat} {t : List AV} : Rnd P sh ct c K (n + 1) t h = wpC P sh ct c (kLp (Rnd P sh ct c K n) K) t h := rfl
/-- What is known may be forgotten ahead of any code. -/
theorem sub_mean {c : Code} {K : Kt} {t t2 : List AV} {h2 : List ABlk} (hs : Sub h.length t h t2 h2) (hm : Mean P c K t2 h2) : Mean P c K t h := by
  obtain ⟨μ, c1, c2, c3, c4⟩ := hs
  intro E a Q H F hd hQ
  refine hm (E.via μ) a Q (via_HR H c2 c3).1 (via_FR F c1) hd fun e E' a' t' h' hk X H' F' hd' => hQ e E' a' t' h' hk ((via_Ext H H (Ext.refl _ _) c2 c3 c4).trans X) H' F' hd'
end Go.Am
