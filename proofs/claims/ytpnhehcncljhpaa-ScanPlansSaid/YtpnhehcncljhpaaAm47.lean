/-
  The abstract machine, part 47: a region in pieces; between two pieces blocks may be given up to be read only.
-/
import Derived.Test.YtpnhehcncljhpaaAm46
namespace Go.Am
set_option linter.unusedVariables false
variable {P : Program} {E : Env} {h : List ABlk}
def MeanO (P : Program) (ops : Array Oper) (l : List Oper) (K : Kt) (t : List AV) (h : List ABlk) : Prop :=
  ∀ (E : Env) (a : Act) (Q : Exit → Act → World → Prop), HR E h → FR E t a.tmps → a.defers = [] →
    (∀ (e : Ex) (E' : Env) (a' : Act) (t' : List AV) (h' : List ABlk), K e t' h' → Ext E h E' h' → HR E' h' → FR E' t' a'.tmps → a'.defers = [] → Q e.ex a' E'.w) → wpList P ops Q l a E.w
def kO (P : Program) (ops : Array Oper) (rest : List Oper) (K : Kt) : Kt
  | .normal, t, h => MeanO P ops rest K t h
  | .exit id, t, h => K (.exit id) t h
  | .ret, t, h => K .ret t h
  | .goto l, t, h => K (.goto l) t h
theorem kO_normal {ops : Array Oper} {rest : List Oper} {K : Kt} {t : List AV} : kO P ops rest K .normal t h = MeanO P ops rest K t h := rfl
theorem regO {id : Nat} {ops : Array Oper} {K : Kt} {t : List AV} (hm : MeanO P ops ops.toList K t h) : Mean P (.region id ops false) K t h := by
  intro E a Q H F hd hQ
  exact wp_region_list (hm E a Q H F hd hQ)
theorem endO {ops : Array Oper} {K : Kt} {t : List AV} (hm : K .normal t h) : MeanO P ops [] K t h := by
  intro E a Q H F hd hQ
  exact hQ .normal E a t h hm (Ext.refl _ _) H F hd
theorem fzO (fz : List Nat) {ops : Array Oper} {l : List Oper} {K : Kt} {t : List AV} (ho : fzObL h fz t ∧ fzObH h fz h) (hm : MeanO P ops l K (fzL h fz t) (fzH h fz)) : MeanO P ops l K t h := by
  intro E a Q H F hd hQ
  obtain ⟨H1, X1⟩ := fz_HR H ho.2
  exact hm (E.fz h fz) a Q H1 (fz_FR H F ho.1) hd fun e E' a' t' h' hk X H' F' hd' => hQ e E' a' t' h' hk (X1.trans X) H' F' hd'
theorem subO {ops : Array Oper} {l : List Oper} {K : Kt} {t t2 : List AV} {h2 : List ABlk} (hs : SubF h.length t h t2 h2) (hm : MeanO P ops l K t2 h2) : MeanO P ops l K t h := by
  intro E a Q H F hd hQ
  obtain ⟨E1, e1, e2, e3, e4⟩ := cut_mean (c := .skip) (K := K) rfl H hs H F (Ext.refl _ _)
  rw [← e1]
  exact hm E1 a Q e2 e3 hd fun e E' a' t' h' hk X H' F' hd' => hQ e E' a' t' h' hk (e4.trans X) H' F' hd'
theorem segO {sh : TypeId → Option (List Leaf)} {ct : Ct} (S : ShOk P sh) (C : CtOk P ct) {ops : Array Oper} {K : Kt} {rest : List Oper} (l : List Oper) :
    ∀ {t : List AV} {h : List ABlk}, wpO P sh ct ops.toList (kO P ops rest K) l t h → MeanO P ops (l ++ rest) K t h := by
  have key : ∀ (l : List Oper) (Q : Exit → Act → World → Prop) (E : Env) (t : List AV) (h : List ABlk) (a : Act), HR E h → FR E t a.tmps → a.defers = [] → wpO P sh ct ops.toList (kO P ops rest K) l t h →
      (∀ (e : Ex) (E' : Env) (a' : Act) (t' : List AV) (h' : List ABlk), K e t' h' → Ext E h E' h' → HR E' h' → FR E' t' a'.tmps → a'.defers = [] → Q e.ex a' E'.w) → wpList P ops Q (l ++ rest) a E.w := by
    intro l Q
    induction l with
    | nil => exact fun E t h a H F hd hw hQ => hw E a Q H F hd hQ
    | cons o l ih =>
      intro E t h a H F hd hw hQ
      obtain ⟨g1, g2⟩ := gval_sound (ops := ops) rfl (o := o) F
      simp only [wpO] at hw
      have put_defers : ∀ d v, (a.put d v).defers = [] := by
        intro d v
        cases d with
        | none => exact hd
        | some d => exact hd
      have run : ∀ ob v h', (evO P sh ct t h o.op).out h = some (ob, v, h') → ogOp t o.op → ob → ∀ x, (∀ E' r, VR E' v r → VR E' x r) → wpO P sh ct ops.toList (kO P ops rest K) l (setT t o.dst x) h' → o.wp P a E.w (wpList P ops Q (l ++ rest)) Q := by
        intro ob v h' hr hog hob x hx hw
        refine op_sound S C H F hr hob hog fun r E' X H' hv => ?_
        exact ih E' _ h' _ H' (FR_put (FR_mono (X.keep H) F) (hx _ _ hv) o.dst) (put_defers _ _) hw fun e E2 a' t' h2 hk X2 H2 F2 hd2 => hQ e E2 a' t' h2 hk (X.trans X2) H2 F2 hd2
      have skip : ∀ x, wpO P sh ct ops.toList (kO P ops rest K) l (setT t o.dst (.opt false x)) h → wpList P ops Q (l ++ rest) (a.put o.dst undef) E.w := by
        intro x hw
        exact ih E _ h _ H (FR_put F (.opt_f x) o.dst) (put_defers _ _) hw hQ
      have optT : ∀ v E' r, VR E' v r → VR E' (.opt true v) r := fun v E' r h => .opt_t v r h
      rw [List.cons_append]
      unfold wpList
      unfold nxt at hw
      split at hw
      · rename_i hg
        rw [if_pos (g1 hg)]
        refine .inl ?_
        split at hw
        · rename_i ob v hr; obtain ⟨q1, q2, q3⟩ := hw; exact run ob v h (by rw [hr]; rfl) q1 q2 v (fun _ _ h => h) q3
        · rename_i ob v h' hr; obtain ⟨q1, q2, q3⟩ := hw; exact run ob v h' (by rw [hr]; rfl) q1 q2 v (fun _ _ h => h) q3
        · exact hw.elim
      · rename_i b hg
        rw [g2 b hg]
        split at hw
        · rename_i ob v hr
          obtain ⟨q1, q3⟩ := hw
          cases b with
          | true => rw [if_pos rfl]; exact .inl (run ob v h (by rw [hr]; rfl) (q1 rfl).1 (q1 rfl).2 _ (optT v) q3)
          | false => rw [if_neg (by simp)]; exact skip _ q3
        · rename_i ob v h' hr
          obtain ⟨q1, q3⟩ := hw
          cases b with
          | true => rw [if_pos rfl]; exact .inl (run ob v h' (by rw [hr]; rfl) (q1 rfl).1 (q1 rfl).2.1 _ (optT v) (q1 rfl).2.2)
          | false => rw [if_neg (by simp)]; exact skip _ (q3 rfl)
        · obtain ⟨rfl, q3⟩ := hw
          rw [if_neg (by simp)]
          exact skip _ q3
      · exact hw.elim
  intro t h hw E a Q H F hd hQ
  exact key l Q E t h a H F hd hw hQ
/-- The first n operations of what is left. -/
theorem cutO {sh : TypeId → Option (List Leaf)} {ct : Ct} (S : ShOk P sh) (C : CtOk P ct) (n : Nat) {ops : Array Oper} {K : Kt} {l : List Oper} {t : List AV}
    (hw : wpO P sh ct ops.toList (kO P ops (l.drop n) K) (l.take n) t h) : MeanO P ops l K t h := by
  have := segO S C (rest := l.drop n) (l.take n) hw
  rwa [List.take_append_drop] at this
/-! ### What is cleared -/
theorem clr_row {α : Type} [Inhabited α] {f : α → List AV} {L : List α} {lo n es : Nat} {c z : Nat → Nat → AV} (h : ∀ x y, x < L.length → y < es → enR f L x y = c x y) :
    ∀ x y, x < (List.take lo L).length → y < es → enR f (List.take lo L) x y = ovwC lo n c z x y := by
  intro x y hx hy
  rw [List.length_take] at hx
  rw [take_row x y (by rw [List.length_take]; exact hx) hy, h x y (by omega) hy]
  unfold ovwC
  rw [if_neg (by omega)]
theorem take_len {α : Type} {L : List α} {lo n : Nat} (hn : L.length = n) (h : lo ≤ n) : (List.take lo L).length = lo := by rw [List.length_take]; omega
/-- A row with others written over a part of it. -/
def ovwL {α : Type} (L : List α) (i : Nat) (M : List α) : List α := L.take i ++ M ++ L.drop (i + M.length)
theorem ovw_len {α : Type} {L M : List α} {i n m : Nat} (hn : L.length = n) (hm : M.length = m) (h : i + m ≤ n) : (ovwL L i M).length = max n (i + m) := by
  simp only [ovwL, List.length_append, List.length_take, List.length_drop]; omega
theorem ovw_row {α : Type} [Inhabited α] {f : α → List AV} {L M : List α} {i n m es : Nat} {c d : Nat → Nat → AV} (hn : L.length = n) (hm : M.length = m) (hi : i + m ≤ n) (h1 : ∀ x y, x < L.length → y < es → enR f L x y = c x y) (h2 : ∀ x y, x < M.length → y < es → enR f M x y = d x y) :
    ∀ x y, x < (ovwL L i M).length → y < es → enR f (ovwL L i M) x y = ovwC i m c d x y := by
  intro x y hx hy
  rw [ovw_len hn hm hi] at hx
  have hl : (L.take i).length = i := by rw [List.length_take]; omega
  have e : ∀ k, gd (ovwL L i M) k = if k < i then gd L k else if k < i + m then gd M (k - i) else gd L k := by
    intro k
    unfold ovwL
    by_cases h3 : k < i
    · rw [if_pos h3, gd_app_lt (by rw [List.length_append]; omega), gd_app_lt (by omega), gd_take h3]
    · rw [if_neg h3]
      by_cases h4 : k < i + m
      · rw [if_pos h4, gd_app_lt (by rw [List.length_append]; omega), gd_app_ge (by omega), hl]
      · rw [if_neg h4, gd_app_ge (by rw [List.length_append]; omega), gd_drop, List.length_append, hl]; congr 1; omega
  simp only [enR, e]
  unfold ovwC
  by_cases h3 : x < i
  · rw [if_pos h3, if_neg (by omega)]; exact h1 x y (by omega) hy
  · rw [if_neg h3]
    by_cases h4 : x < i + m
    · rw [if_pos h4, if_pos (by omega)]; exact h2 _ y (by omega) hy
    · rw [if_neg h4, if_neg (by omega)]; exact h1 x y (by omega) hy
end Go.Am
