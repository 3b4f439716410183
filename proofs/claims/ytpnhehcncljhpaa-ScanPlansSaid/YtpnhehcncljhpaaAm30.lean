/-
  The abstract machine, part 30: rounds walked one by one, what is known put in order between them; rows of a list.
-/
import Derived.Test.YtpnhehcncljhpaaAm29
namespace Go.Am
set_option linter.unusedVariables false
variable {P : Program} {E : Env} {h : List ABlk}

def RndS (P : Program) (sh : TypeId → Option (List Leaf)) (ct : Ct) (m : Nat) (c : Code) (K : Kt) : Nat → List AV → List ABlk → Prop
  | 0, _, _ => False
  | n + 1, t, h => ∃ t2 h2, Sub m t h t2 h2 ∧ wpC P sh ct c (kLp (RndS P sh ct m c K n) K) t2 h2
theorem rndS_succ {sh : TypeId → Option (List Leaf)} {ct : Ct} {m n : Nat} {c : Code} {K : Kt} {t : List AV} : RndS P sh ct m c K (n + 1) t h = ∃ t2 h2, Sub m t h t2 h2 ∧ wpC P sh ct c (kLp (RndS P sh ct m c K n) K) t2 h2 := rfl
theorem loop_roundsS {sh : TypeId → Option (List Leaf)} {ct : Ct} (S : ShOk P sh) (C : CtOk P ct) (n : Nat) {c : Code} {K : Kt} {t : List AV} (hr : RndS P sh ct h.length c K n t h) : Mean P (.loop c) K t h := by
  intro E a Q H F hd hQ
  have main : ∀ n (E1 : Env) (a1 : Act) (t1 : List AV) (h1 : List ABlk), RndS P sh ct h.length c K n t1 h1 → HR E1 h1 → FR E1 t1 a1.tmps → a1.defers = [] → Ext E h E1 h1 → Code.rounds P c Q n a1 E1.w := by
    intro n
    induction n with
    | zero => intro E1 a1 t1 h1 hr; exact hr.elim
    | succ n ih =>
      intro E1 a1 t1 h1 hr H1 F1 hd1 X1
      obtain ⟨t2, h2, ⟨μ, c1, c2, c3, c4⟩, hw⟩ := hr
      rw [rounds_succ]
      have X2 := via_Ext H H1 X1 c2 c3 c4
      refine wpC_sound S C c _ _ _ hw (E1.via μ) a1 _ (via_HR H1 c2 c3).1 (via_FR F1 c1) hd1 fun e E2 a2 t3 h3 hk X3 H3 F3 hd3 => ?_
      cases e with
      | normal => exact ih E2 a2 t3 h3 hk H3 F3 hd3 (X2.trans X3)
      | exit id => exact hQ (.exit id) E2 a2 t3 h3 hk (X2.trans X3) H3 F3 hd3
      | ret => exact hQ .ret E2 a2 t3 h3 hk (X2.trans X3) H3 F3 hd3
      | goto l => exact hQ (.goto l) E2 a2 t3 h3 hk (X2.trans X3) H3 F3 hd3
  exact wp_loop_rounds n (main n E a t h hr H F hd (Ext.refl _ _))

/-! ### Rows of a list -/
/-- The rows that a list of rows spells out. -/
def rowsC (l : List (List AV)) : Nat → Nat → AV := fun x y => getL (l.getD x []) y
theorem rowsC_app (l m : List (List AV)) (n : Nat) (hn : n = l.length) : appC n (rowsC l) (rowsC m) = rowsC (l ++ m) := by
  subst hn
  funext x y
  simp only [appC, rowsC]
  split
  · rename_i hx
    simp only [List.getD_eq_getElem?_getD, List.getElem?_append_left hx]
  · rename_i hx
    simp only [List.getD_eq_getElem?_getD, List.getElem?_append_right (Nat.le_of_not_lt hx)]
theorem rowsC_sub0 (l : List (List AV)) : subC 0 (rowsC l) = rowsC l := by
  funext x y
  simp only [subC, Nat.zero_add]
theorem rowsC_sub (l : List (List AV)) (i : Nat) : subC i (rowsC l) = rowsC (l.drop i) := by
  funext x y
  simp only [subC, rowsC, List.getD_eq_getElem?_getD, List.getElem?_drop]
def chunk (z : Nat) : Nat → List AV → List (List AV)
  | 0, _ => []
  | n + 1, l => l.take z :: chunk z n (l.drop z)
theorem litC1 (l : List AV) (x : Nat) (hx : x < l.length) : litC 1 l x 0 = rowsC (l.map fun a => [a]) x 0 := by
  simp only [litC, rowsC, Nat.mul_one, Nat.add_zero, List.getD_eq_getElem?_getD, List.getElem?_map, List.getElem?_eq_getElem hx, Option.map_some, Option.getD_some]
  rw [getL_eq (List.getElem?_eq_getElem hx)]
  rfl
/-- Every cell of a content names only the first n blocks. -/
def NR (n : Nat) (c : Nat → Nat → AV) : Prop := ∀ x y, nr n (c x y)
theorem NR_lit {n z : Nat} {l : List AV} (hl : nrL n l) : NR n (litC z l) := nr_litC hl
theorem NR_app {n k : Nat} {c d : Nat → Nat → AV} (h1 : NR n c) (h2 : NR n d) : NR n (appC k c d) := by
  intro x y
  simp only [appC]
  split
  · exact h1 x y
  · exact h2 _ y
theorem NR_sub {n i : Nat} {c : Nat → Nat → AV} (h1 : NR n c) : NR n (subC i c) := fun x y => h1 _ y
theorem NR_const {n : Nat} {l : List AV} (hl : nrL n l) : NR n (fun _ y => getL l y) := by
  intro x y
  rcases Nat.lt_or_ge y l.length with hi | hi
  · exact nrL_get hl (getL_some hi)
  · simp only [getL_none hi, nr]
theorem NR_rows {n : Nat} {l : List (List AV)} (hl : ∀ r ∈ l, nrL n r) : NR n (rowsC l) := by
  intro x y
  simp only [rowsC, List.getD_eq_getElem?_getD]
  cases hx : l[x]? with
  | none => simp [getL, nr]
  | some r =>
    have hr := hl r (List.mem_of_getElem? hx)
    simp only [Option.getD_some]
    rcases Nat.lt_or_ge y r.length with hi | hi
    · exact nrL_get hr (getL_some hi)
    · simp only [getL_none hi, nr]
/-- A list of bytes as rows. -/
def u8L (l : List Int) : List (List AV) := l.map fun x => [.int .u8 x]
theorem u8L_app (l m : List Int) : u8L l ++ u8L m = u8L (l ++ m) := by simp [u8L]
theorem NR_u8 {n : Nat} (l : List Int) : NR n (rowsC (u8L l)) := NR_rows fun r hr => by
  simp only [u8L, List.mem_map] at hr
  obtain ⟨x, _, rfl⟩ := hr
  simp [nrL, nr]
theorem u8_app (l : List Int) (m : List Int) (x : Nat) (hx : x < l.length + m.length) :
    appC l.length (rowsC (u8L l)) (litC 1 (m.map fun x => .int .u8 x)) x 0 = rowsC (u8L (l ++ m)) x 0 := by
  rw [← u8L_app, ← rowsC_app (u8L l) (u8L m) l.length (by simp [u8L])]
  simp only [appC]
  split
  · rfl
  · rename_i h1
    rw [litC1 _ _ (by simp; omega), List.map_map]
    rfl
/-- A content whose rows are those of a list. -/
def IsR (es n : Nat) (c : Nat → Nat → AV) (l : List (List AV)) : Prop := l.length = n ∧ ∀ x y, x < n → y < es → c x y = rowsC l x y
theorem IsR_rows {es n : Nat} {l : List (List AV)} (h : l.length = n) : IsR es n (rowsC l) l := ⟨h, fun _ _ _ _ => rfl⟩
theorem IsR_zero {es : Nat} {c : Nat → Nat → AV} : IsR es 0 c [] := ⟨rfl, fun x y hx => absurd hx (by omega)⟩
theorem IsR_app {es n m : Nat} {c d : Nat → Nat → AV} {l k : List (List AV)} (h1 : IsR es n c l) (h2 : IsR es m d k) : IsR es (n + m) (appC n (subC 0 c) (subC 0 d)) (l ++ k) := by
  refine ⟨by simp [h1.1, h2.1], fun x y hx hy => ?_⟩
  rw [← rowsC_app l k n h1.1.symm]
  simp only [appC, subC, Nat.zero_add]
  split
  · rename_i h; exact h1.2 x y h hy
  · rename_i h; exact h2.2 (x - n) y (by omega) hy
theorem IsR_app' {es n m p : Nat} {c d : Nat → Nat → AV} {l k : List (List AV)} (h1 : IsR es n c l) (h2 : IsR es m d k) (hp : p = n + m) : IsR es p (appC n (subC 0 c) (subC 0 d)) (l ++ k) := hp ▸ IsR_app h1 h2
theorem IsR_lit1 (l : List AV) : IsR 1 l.length (litC 1 l) (l.map fun a => [a]) := by
  refine ⟨by simp, fun x y hx hy => ?_⟩
  obtain rfl : y = 0 := by omega
  exact litC1 l x hx
theorem IsR_cast {es n : Nat} {c : Nat → Nat → AV} {l m : List (List AV)} (h : IsR es n c l) (e : l = m) : IsR es n c m := e ▸ h
theorem IsR_cv {μ : Mu} {es n : Nat} {c : Nat → Nat → AV} {l : List (List AV)} (h : IsR es n c l) (hf : ∀ r ∈ l, nrefL r) : ∀ x y, x < n → y < es → Cv μ (rowsC l x y) (c x y) := by
  intro x y hx hy
  rw [h.2 x y hx hy]
  refine Cv_refl _ ?_
  simp only [rowsC, List.getD_eq_getElem?_getD]
  rw [List.getElem?_eq_getElem (by rw [h.1]; exact hx)]
  exact nrefL_getL (hf _ (List.getElem_mem _)) y
theorem u8L_nref (l : List Int) : ∀ r ∈ u8L l, nrefL r := by
  intro r hr
  simp only [u8L, List.mem_map] at hr
  obtain ⟨x, _, rfl⟩ := hr
  simp [nrefL, nref]
theorem bytesC_u8 (l : List Int) : bytesC l.length (rowsC (u8L l)) = strOfNums l := by
  unfold bytesC strOfNums
  congr 2
  apply List.ext_getElem?
  intro i
  rw [List.getElem?_map, List.getElem?_map]
  by_cases hi : i < l.length
  · rw [List.getElem?_range hi, List.getElem?_eq_getElem hi]
    simp only [Option.map_some, rowsC, u8L, List.getD_eq_getElem?_getD, List.getElem?_map, List.getElem?_eq_getElem hi, Option.getD_some, getL]
  · rw [List.getElem?_eq_none (by simp; omega), List.getElem?_eq_none (by omega)]; rfl
end Go.Am
