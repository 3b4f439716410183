/-
  The abstract machine, part 14: loops.
-/
import Derived.Test.YtpnhehcncljhpaaAm13
namespace Go.Am
set_option linter.unusedVariables false
variable {P : Program} {E : Env} {h : List ABlk}

/-! ### What refers to the first n blocks only -/
mutual
def nr (n : Nat) : AV → Prop
  | .ptr b _ _ _ => b < n
  | .sl b _ _ _ _ => b < n
  | .isl b _ _ _ _ _ => b < n
  | .csl b _ _ _ _ => b < n
  | .rptr _ _ _ _ _ => True
  | .ro _ _ _ _ => True
  | .agg l => nrL n l
  | .tup l => nrL n l
  | .fn _ l => nrL n l
  | .opt _ v => nr n v
  | .top => True
  | .bool _ => True
  | .int _ _ => True
  | .str _ => True
  | .nilp => True
  | .emp => True
  | .nilf => True
  | .ub => True
  | .val _ => True
def nrL (n : Nat) : List AV → Prop
  | [] => True
  | a :: l => nr n a ∧ nrL n l
end
theorem nrL_get {n : Nat} {l : List AV} (hn : nrL n l) {i : Nat} {a : AV} (ha : l[i]? = some a) : nr n a := by
  induction l generalizing i with
  | nil => simp at ha
  | cons b l ih =>
    simp only [nrL] at hn
    cases i with
    | zero => simp at ha; subst ha; exact hn.1
    | succ i => exact ih hn.2 (by simpa using ha)
def nrB (n : Nat) : ABlk → Prop
  | .lit _ l => nrL n l
  | .row _ es m c => ∀ x y, x < m → y < es → nr n (c x y)
  | .dead => True
def nrH (n : Nat) : List ABlk → Prop
  | [] => True
  | x :: l => nrB n x ∧ nrH n l
theorem nrH_get {n : Nat} {l : List ABlk} (hn : nrH n l) {i : Nat} {a : ABlk} (ha : l[i]? = some a) : nrB n a := by
  induction l generalizing i with
  | nil => simp at ha
  | cons b l ih =>
    simp only [nrH] at hn
    cases i with
    | zero => simp at ha; subst ha; exact hn.1
    | succ i => exact ih hn.2 (by simpa using ha)
def Env.cut (E : Env) (n : Nat) : Env := ⟨E.w, fun b => if b < n then E.σ b else none, E.prot⟩
theorem cut_σ {n b : Nat} (hb : b < n) : (E.cut n).σ b = E.σ b := by simp [Env.cut, hb]
theorem VR.cut {n : Nat} {a : AV} {v : Value} (h : VR E a v) (hn : nr n a) : VR (E.cut n) a v := by
  induction h with
  | top v => exact .top v
  | bool b => exact .bool b
  | int k n => exact .int k n
  | str s => exact .str s
  | nilp => exact .nilp
  | ptr b es i j k o h => simp only [nr] at hn; exact .ptr b es i j k o ((cut_σ hn).trans h)
  | rptr es m i j k o c u hp hu h1 hc hrf ih =>
    exact .rptr es m i j k o c u hp hu h1 (fun x y hx hy => VR.view (E := E) (E' := E.cut n) (fun k hk => ⟨hk, rfl⟩) (hc x y hx hy) (hrf x y hx hy)) hrf
  | sl b es i m nl a cap hm hcm hnl hz hc =>
    simp only [nr] at hn
    refine .sl b es i m nl a cap hm hcm hnl hz fun hp => ?_
    obtain ⟨k, o, cs, e, g1, g2⟩ := hc hp
    exact ⟨k, o, cs, e, (cut_σ hn).trans g1, g2⟩
  | isl b es i j z m cap k o hm hcm h => simp only [nr] at hn; exact .isl b es i j z m cap k o hm hcm ((cut_σ hn).trans h)
  | csl b es i m c a hm hcm hc => simp only [nr] at hn; exact .csl b es i m c a hm hcm fun hp => by obtain ⟨k, o, cs, e, h1, h2⟩ := hc hp; exact ⟨k, o, cs, e, (cut_σ hn).trans h1, h2⟩
  | ro es m nl c a cap hm hcm hnl hz u ha h1 hc hrf ih =>
    exact .ro es m nl c a cap hm hcm hnl hz u ha h1 (fun x y hx hy => VR.view (E := E) (E' := E.cut n) (fun k hk => ⟨hk, rfl⟩) (hc x y hx hy) (hrf x y hx hy)) hrf
  | emp a => exact .emp a
  | agg l vs hl h1 h ih => simp only [nr] at hn; exact .agg l vs hl h1 fun i a v ha hv => ih i a v ha hv (nrL_get hn ha)
  | tup l vs hl h ih => simp only [nr] at hn; exact .tup l vs hl fun i a v ha hv => ih i a v ha hv (nrL_get hn ha)
  | fn f l vs hl h ih => simp only [nr] at hn; exact .fn f l vs hl fun i a v ha hv => ih i a v ha hv (nrL_get hn ha)
  | nilf => exact .nilf
  | ub b => exact .ub b
  | val v h1 => exact .val v h1
  | opt_t a v h ih => simp only [nr] at hn; exact .opt_t a v (ih hn)
  | opt_f a => exact .opt_f a
theorem HR.cut {g : List ABlk} (H : HR E (h ++ g)) (hn : nrH h.length h) : HR (E.cut h.length) h := by
  have hold : ∀ {b : Nat} {x : ABlk}, h[b]? = some x → b < h.length ∧ (h ++ g)[b]? = some x := by
    intro b x hb
    have hlt : b < h.length := by
      rcases Nat.lt_or_ge b h.length with h' | h'
      · exact h'
      · rw [List.getElem?_eq_none h'] at hb; cases hb
    exact ⟨hlt, by rw [List.getElem?_append_left hlt]; exact hb⟩
  refine ⟨fun b x hb => ?_, fun b b' x x' k o o' h1 h2 h3 h4 h5 h6 => ?_, fun k hk => ?_, fun b hb => ?_⟩
  · obtain ⟨hlt, hb'⟩ := hold hb
    have hB := H.blk b x hb'
    have hN := nrH_get hn hb
    cases x with
    | dead => trivial
    | lit e l =>
      obtain ⟨k, o, cs, q1, q2, q3, q4⟩ := hB
      exact ⟨k, o, cs, (cut_σ hlt).trans q1, q2, q3, fun j a hj => by obtain ⟨v, r1, r2, r3⟩ := q4 j a hj; exact ⟨v, r1, r2, r3.cut (nrL_get hN hj)⟩⟩
    | row e es m c =>
      unfold BR at hB ⊢
      rw [cut_σ hlt]
      cases hs : E.σ b with
      | none => rw [hs] at hB; exact hB
      | some p =>
        rw [hs] at hB
        obtain ⟨cs, q1, q2, q3⟩ := hB
        exact ⟨cs, q1, q2, fun x y hx hy => by obtain ⟨v, r1, r2, r3⟩ := q3 x y hx hy; exact ⟨v, r1, r2, r3.cut (hN x y hx hy)⟩⟩
  · obtain ⟨l1, g1⟩ := hold h1
    obtain ⟨l3, g3⟩ := hold h3
    rw [cut_σ l1] at h5
    rw [cut_σ l3] at h6
    exact H.inj b b' x x' k o o' g1 h2 g3 h4 h5 h6
  · obtain ⟨h1, h2⟩ := H.prot k hk
    refine ⟨h1, ?_⟩
    rintro ⟨b, x, o, q1, q2, q3⟩
    obtain ⟨l1, g1⟩ := hold q1
    rw [cut_σ l1] at q3
    exact h2 ⟨b, x, o, g1, q2, q3⟩
  · simp only [Env.cut]; rw [if_neg (by omega)]
theorem Ext.cut {E0 : Env} {h0 g : List ABlk} (H0 : HR E0 h0) (X : Ext E0 h0 E (h ++ g)) (hl : h0.length ≤ h.length) : Ext E0 h0 (E.cut h.length) h where
  os := X.os
  tape := X.tape
  output := X.output
  σ := fun b x hb => by
    have : b < h.length := by
      rcases Nat.lt_or_ge b h0.length with h' | h'
      · omega
      · rw [H0.fresh b h'] at hb; cases hb
    rw [cut_σ this]; exact X.σ b x hb
  prot := X.prot
  size := X.size
  kind := X.kind
  frame := X.frame
  len := hl
  old := fun b hb => (cut_σ (by omega)).trans (X.old b hb)
  pro := X.pro
  own := fun k hk => by
    obtain ⟨b, x, o, q1, q2, q3⟩ := hk
    have hlt : b < h.length := by
      rcases Nat.lt_or_ge b h.length with h' | h'
      · exact h'
      · rw [List.getElem?_eq_none h'] at q1; cases q1
    rw [cut_σ hlt] at q3
    exact X.own k ⟨b, x, o, by rw [List.getElem?_append_left hlt]; exact q1, q2, q3⟩

/-- The first frame says no more than the second. -/
def Cov : List AV → List AV → Prop
  | [], [] => True
  | .top :: l, _ :: m => Cov l m
  | a :: l, b :: m => a = b ∧ Cov l m
  | _, _ => False
theorem Cov_FR {l : List AV} : ∀ {m : List AV}, Cov l m → l.length = m.length ∧ ∀ (i : Nat) (a b : AV), l[i]? = some a → m[i]? = some b → a = .top ∨ a = b := by
  induction l with
  | nil =>
    intro m hc
    cases m with
    | nil => exact ⟨rfl, fun i a b ha => by simp at ha⟩
    | cons b m => simp [Cov] at hc
  | cons a l ih =>
    intro m hc
    cases m with
    | nil => cases a <;> simp [Cov] at hc
    | cons b m =>
      have hc' : (a = .top ∨ a = b) ∧ Cov l m := by
        cases a <;> simp only [Cov] at hc <;> first | exact ⟨.inl rfl, hc⟩ | exact ⟨.inr hc.1, hc.2⟩
      obtain ⟨i1, i2⟩ := ih hc'.2
      refine ⟨by simp [i1], fun i x y hx hy => ?_⟩
      cases i with
      | zero => simp at hx hy; subst hx hy; exact hc'.1
      | succ i => exact i2 i x y (by simpa using hx) (by simpa using hy)
theorem FR_cov {l m : List AV} (hc : Cov l m) {vs : Array Value} (F : FR E m vs) : FR E l vs := by
  obtain ⟨c1, c2⟩ := Cov_FR hc
  refine ⟨c1.trans F.1, fun i a v ha hv => ?_⟩
  have hi : i < m.length := by
    rw [← c1]
    rcases Nat.lt_or_ge i l.length with h' | h'
    · exact h'
    · rw [List.getElem?_eq_none h'] at ha; cases ha
  rcases c2 i a m[i] ha (List.getElem?_eq_getElem hi) with rfl | rfl
  · exact .top v
  · exact F.2 i _ v (List.getElem?_eq_getElem hi) hv
theorem FR_cut {l : List AV} {n : Nat} {vs : Array Value} (F : FR E l vs) (hn : nrL n l) : FR (E.cut n) l vs := ⟨F.1, fun i a v ha hv => (F.2 i a v ha hv).cut (nrL_get hn ha)⟩

theorem exists_min {p : Nat → Prop} (hp : ∃ n, p n) : ∃ n, p n ∧ ∀ m, p m → n ≤ m := by
  obtain ⟨n, hn⟩ := hp
  induction n using Nat.strongRecOn with
  | _ n ih =>
    by_cases hm : ∃ m, m < n ∧ p m
    · obtain ⟨m, h1, h2⟩ := hm; exact ih m h1 h2
    · exact ⟨n, hn, fun m h2 => Nat.le_of_not_lt fun h1 => hm ⟨m, h1, h2⟩⟩

def kLp (R : List AV → List ABlk → Prop) (K : Kt) : Kt
  | .normal, t, h => R t h
  | .exit id, t, h => K (.exit id) t h
  | .ret, t, h => K .ret t h
  | .goto l, t, h => K (.goto l) t h
/-- What is asked at the end of a round: the next state of the loop, nearer to its end. -/
def Back {α : Type} (T : α → List AV) (Hp : α → List ABlk) (J : α → Prop) (μ : α → Nat) (n : Nat) (x : α) (t : List AV) (h : List ABlk) : Prop :=
  ∃ x', J x' ∧ μ x' < μ x ∧ Cov (T x') t ∧ (∃ g, h = Hp x' ++ g) ∧ (Hp x').length = n ∧ nrL n (T x') ∧ nrH n (Hp x')
theorem loop_rule {α : Type} {sh : TypeId → Option (List Leaf)} {ct : Ct} (S : ShOk P sh) (C : CtOk P ct) (T : α → List AV) (Hp : α → List ABlk) (J : α → Prop) (μ : α → Nat) (n : Nat) (x0 : α)
    {c : Code} {K : Kt} {t : List AV} (hn : (Hp x0).length = n) (h0 : J x0) (hc : Cov (T x0) t)
    (round : ∀ x, J x → wpC P sh ct c (kLp (Back T Hp J μ n x) K) (T x) (Hp x)) : Mean P (.loop c) K t (Hp x0) := by
  intro E a Q H F hd hQ
  let Inv (x : α) (a' : Act) (w' : World) : Prop := J x ∧ a'.defers = [] ∧ (Hp x).length = n ∧ ∃ E', E'.w = w' ∧ HR E' (Hp x) ∧ FR E' (T x) a'.tmps ∧ Ext E (Hp x0) E' (Hp x)
  have hmin : ∀ a' w', ∃ m : Nat, (∃ x, Inv x a' w') → (∃ x, Inv x a' w' ∧ μ x = m) ∧ ∀ x, Inv x a' w' → m ≤ μ x := by
    intro a' w'
    by_cases hx : ∃ x, Inv x a' w'
    · obtain ⟨x, hx⟩ := hx
      obtain ⟨m, m1, m2⟩ := exists_min (p := fun m => ∃ x, Inv x a' w' ∧ μ x = m) ⟨μ x, x, hx, rfl⟩
      exact ⟨m, fun _ => ⟨m1, fun y hy => m2 _ ⟨y, hy, rfl⟩⟩⟩
    · exact ⟨0, fun h => absurd h hx⟩
  refine wp_loop (fun a' w' => ∃ x, Inv x a' w') (fun a' w' => Classical.choose (hmin a' w')) ⟨x0, h0, hd, hn, E, rfl, H, FR_cov hc F, Ext.refl _ _⟩ fun a1 w1 hI => ?_
  obtain ⟨⟨x, ⟨hJ, hd1, hl1, E1, rfl, H1, F1, X1⟩, hm1⟩, hm2⟩ := Classical.choose_spec (hmin a1 w1) hI
  refine wpC_sound S C c _ _ _ (round x hJ) E1 a1 _ H1 F1 hd1 fun e E2 a2 t2 h2 hk X2 H2 F2 hd2 => ?_
  cases e with
  | normal =>
    obtain ⟨x', hJ', hμ, hcov, ⟨g, rfl⟩, hl, hnT, hnH⟩ := hk
    subst hl
    have hI2 : Inv x' a2 E2.w := ⟨hJ', hd2, rfl, E2.cut (Hp x').length, rfl, H2.cut hnH, FR_cut (FR_cov hcov F2) hnT, X1.trans (Ext.cut H1 X2 (by omega))⟩
    refine ⟨⟨x', hI2⟩, ?_⟩
    have h1 := (Classical.choose_spec (hmin a2 E2.w) ⟨x', hI2⟩).2 x' hI2
    show Classical.choose (hmin a2 E2.w) < Classical.choose (hmin a1 E1.w)
    omega
  | exit id => exact hQ (.exit id) E2 a2 t2 h2 hk (X1.trans X2) H2 F2 hd2
  | ret => exact hQ .ret E2 a2 t2 h2 hk (X1.trans X2) H2 F2 hd2
  | goto l => exact hQ (.goto l) E2 a2 t2 h2 hk (X1.trans X2) H2 F2 hd2
end Go.Am
