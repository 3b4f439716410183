/-
  The abstract machine, part 11: regions in the order of the text, code, the loops' rule.
-/
import Derived.Test.YtpnhehcncljhpaaAm10
namespace Go.Am
set_option linter.unusedVariables false
variable {P : Program} {E : Env} {h : List ABlk}

/-! ### Guards -/
inductive GV where
  | none
  | g (b : Bool)
  | bad
def gvw (b : Bool) : Bool → Bool
  | true => b
  | false => !b
def gvl (v : AV) (w : Bool) : GV := match v with
  | .bool b => .g (gvw b w)
  | .opt c x => match x with
    | .bool b => .g (c && gvw b w)
    | _ => .bad
  | _ => .bad
def dstOf : List Oper → Nat → Option Nat
  | [], _ => none
  | o :: _, 0 => o.dst
  | _ :: l, n + 1 => dstOf l n
def gvd (t : List AV) (w : Bool) : Option Nat → GV
  | some d => gvl (getL t d) w
  | none => .bad
def gval (t : List AV) (all : List Oper) : Option (Nat × Bool) → GV
  | none => .none
  | some (j, w) => gvd t w (dstOf all j)
/-- What comes behind one operation. -/
def nxt (g : GV) (r : AR) (og : Prop) (d : Option Nat) (t : List AV) (h : List ABlk) (F : List AV → List ABlk → Prop) : Prop := match g with
  | .none => match r with
    | .pure ob v => og ∧ ob ∧ F (setT t d v) h
    | .heap ob v h' => og ∧ ob ∧ F (setT t d v) h'
    | .fail => False
  | .g b => match r with
    | .pure ob v => (b = true → og ∧ ob) ∧ F (setT t d (.opt b v)) h
    | .heap ob v h' => (b = true → og ∧ ob ∧ F (setT t d (.opt true v)) h') ∧ (b = false → F (setT t d (.opt false .top)) h)
    | .fail => b = false ∧ F (setT t d (.opt false .top)) h
  | .bad => False

inductive Ex where
  | normal
  | exit (id : Nat)
  | ret
  | goto (l : Nat)
def Ex.ex : Ex → Exit
  | .normal => .normal
  | .exit id => .exit id
  | .ret => .ret
  | .goto l => .goto l
abbrev Kt := Ex → List AV → List ABlk → Prop
section
variable (P : Program) (sh : TypeId → Option (List Leaf)) (ct : Ct)
def wpO (all : List Oper) (K : Kt) : List Oper → List AV → List ABlk → Prop
  | [], t, h => K .normal t h
  | o :: r, t, h => nxt (gval t all o.guard) (evO P sh ct t h o.op) (ogOp t o.op) o.dst t h (wpO all K r)
end
/-- The meaning of a continuation. -/
def Mean (P : Program) (c : Code) (K : Kt) (t : List AV) (h : List ABlk) : Prop :=
  ∀ (E : Env) (a : Act) (Q : Exit → Act → World → Prop), HR E h → FR E t a.tmps → a.defers = [] →
    (∀ (e : Ex) (E' : Env) (a' : Act) (t' : List AV) (h' : List ABlk), K e t' h' → Ext E h E' h' → HR E' h' → FR E' t' a'.tmps → a'.defers = [] → Q e.ex a' E'.w) → c.wp P Q a E.w
def kSeq (W : Kt → List AV → List ABlk → Prop) (K : Kt) : Kt
  | .normal, t, h => W K t h
  | .exit id, t, h => K (.exit id) t h
  | .ret, t, h => K .ret t h
  | .goto l, t, h => K (.goto l) t h
def kBlk (id : Nat) (K : Kt) : Kt
  | .normal, t, h => K .normal t h
  | .exit id', t, h => (match id' == id with
    | true => K .normal t h
    | false => K (.exit id') t h)
  | .ret, t, h => K .ret t h
  | .goto l, t, h => K (.goto l) t h
def cnd (c : AV) (o : Prop) (A B : Prop) : Prop := match c with
  | .bool b => o ∧ (b = true → A) ∧ (b = false → B)
  | .ub => o ∧ A ∧ B
  | _ => False
/-- The code's own walk. A loop, a region that draws its order: what they mean. -/
def wpC (P : Program) (sh : TypeId → Option (List Leaf)) (ct : Ct) : Code → Kt → List AV → List ABlk → Prop
  | .skip, K, t, h => K .normal t h
  | .region id ops draw, K, t, h => match draw with
    | false => wpO P sh ct ops.toList K ops.toList t h
    | true => Mean P (.region id ops true) K t h
  | .seq a b, K, t, h => wpC P sh ct a (kSeq (wpC P sh ct b) K) t h
  | .cond c x y, K, t, h => cnd (rho t c) (og t c) (wpC P sh ct x K t h) (wpC P sh ct y K t h)
  | .block id c, K, t, h => wpC P sh ct c (kBlk id K) t h
  | .exit id, K, t, h => K (.exit id) t h
  | .ret, K, t, h => K .ret t h
  | .loop c, K, t, h => Mean P (.loop c) K t h
  | .label _, K, t, h => K .normal t h
  | .goto l, K, t, h => K (.goto l) t h
  | .scope c, K, t, h => Mean P (.scope c) K t h
  | _, _, _, _ => False

/-! ### Soundness -/
theorem dstOf_eq (l : List Oper) (j : Nat) : dstOf l j = (l[j]?).bind (·.dst) := by
  induction l generalizing j with
  | nil => simp [dstOf]
  | cons o l ih => cases j with
    | zero => simp [dstOf]
    | succ j => simp [dstOf, ih]
theorem gvl_sound {v : AV} {w b : Bool} {u : Value} (hv : VR E v u) (hg : gvl v w = .g b) : ((match some u with | some (.bool b) => some b | _ => none) == some w) = b := by
  unfold gvl at hg
  split at hg
  · rename_i c
    obtain rfl := VR_bool hv
    injection hg with hg; subst hg
    cases w <;> cases c <;> rfl
  · split at hg
    · rename_i g x c
      injection hg with hg; subst hg
      cases hv with
      | opt_t a v hv =>
        obtain rfl := VR_bool hv
        cases w <;> cases c <;> rfl
      | opt_f a => cases w <;> rfl
    · cases hg
  · cases hg
theorem gval_sound {all : List Oper} {ops : Array Oper} (hops : ops.toList = all) {t : List AV} {a : Act} (F : FR E t a.tmps) {o : Oper} :
    (gval t all o.guard = .none → Region.wanted o (yielded ops a.tmps) = true) ∧ (∀ b, gval t all o.guard = .g b → Region.wanted o (yielded ops a.tmps) = b) := by
  subst hops
  unfold Region.wanted
  cases hgd : o.guard with
  | none => exact ⟨fun _ => rfl, fun b hb => by simp [gval] at hb⟩
  | some q =>
    obtain ⟨j, w⟩ := q
    refine ⟨fun hb => ?_, fun b hb => ?_⟩
    · simp only [gval] at hb
      unfold gvd at hb
      split at hb
      · unfold gvl at hb
        split at hb
        · cases hb
        · split at hb <;> cases hb
        · cases hb
      · cases hb
    · simp only [gval, dstOf_eq] at hb
      unfold gvd at hb
      split at hb
      · rename_i d hd
        have hlt : d < a.tmps.size := by
          rcases Nat.lt_or_ge d a.tmps.size with h' | h'
          · exact h'
          · rw [getL_none (by rw [F.1]; exact h')] at hb; cases hb
        have hd' : (ops[j]?).bind (·.dst) = some d := by rw [← Array.getElem?_toList]; exact hd
        have hs := gvl_sound (F.2 d _ _ (getL_some (by rw [F.1]; exact hlt)) (Array.getElem?_eq_getElem hlt)) hb
        simp only [yielded, hd', Option.bind_some, Array.getElem?_eq_getElem hlt]
        exact hs
      · cases hb

theorem wpO_sound {sh : TypeId → Option (List Leaf)} {ct : Ct} (S : ShOk P sh) (C : CtOk P ct) {ops : Array Oper} {K : Kt} {Q : Exit → Act → World → Prop} (l : List Oper) :
    ∀ (E : Env) (t : List AV) (h : List ABlk) (a : Act), HR E h → FR E t a.tmps → a.defers = [] → wpO P sh ct ops.toList K l t h →
      (∀ (e : Ex) (E' : Env) (a' : Act) (t' : List AV) (h' : List ABlk), K e t' h' → Ext E h E' h' → HR E' h' → FR E' t' a'.tmps → a'.defers = [] → Q e.ex a' E'.w) → wpList P ops Q l a E.w := by
  induction l with
  | nil => exact fun E t h a H F hd hw hQ => hQ .normal E a t h hw (Ext.refl _ _) H F hd
  | cons o l ih =>
    intro E t h a H F hd hw hQ
    obtain ⟨g1, g2⟩ := gval_sound (ops := ops) rfl (o := o) F
    simp only [wpO] at hw
    have put_defers : ∀ d v, (a.put d v).defers = [] := by
      intro d v
      cases d with
      | none => exact hd
      | some d => exact hd
    have run : ∀ ob v h', (evO P sh ct t h o.op).out h = some (ob, v, h') → ogOp t o.op → ob → ∀ x, (∀ E' r, VR E' v r → VR E' x r) → wpO P sh ct ops.toList K l (setT t o.dst x) h' → o.wp P a E.w (wpList P ops Q l) Q := by
      intro ob v h' hr hog hob x hx hw
      refine op_sound S C H F hr hob hog fun r E' X H' hv => ?_
      exact ih E' _ h' _ H' (FR_put (FR_mono (X.keep H) F) (hx _ _ hv) o.dst) (put_defers _ _) hw fun e E2 a' t' h2 hk X2 H2 F2 hd2 => hQ e E2 a' t' h2 hk (X.trans X2) H2 F2 hd2
    have skip : ∀ x, wpO P sh ct ops.toList K l (setT t o.dst (.opt false x)) h → wpList P ops Q l (a.put o.dst undef) E.w := by
      intro x hw
      exact ih E _ h _ H (FR_put F (.opt_f x) o.dst) (put_defers _ _) hw hQ
    have optT : ∀ v E' r, VR E' v r → VR E' (.opt true v) r := fun v E' r h => .opt_t v r h
    unfold wpList
    unfold nxt at hw
    split at hw
    · rename_i hg
      rw [if_pos (g1 hg)]
      refine .inl ?_
      split at hw
      · rename_i ob v hr; obtain ⟨q1, q2, q3⟩ := hw; exact run ob v h (by rw [hr]; rfl) q1 q2 v (fun _ _ h => h) q3
      · rename_i ob v h' hr; obtain ⟨q1, q2, q3⟩ := hw; exact run ob v h' (by rw [hr]; rfl) q1 q2 v (fun _ _ h => h) q3
      · exact hw.elim
    · rename_i b hg
      rw [g2 b hg]
      split at hw
      · rename_i ob v hr
        obtain ⟨q1, q3⟩ := hw
        cases b with
        | true => rw [if_pos rfl]; exact .inl (run ob v h (by rw [hr]; rfl) (q1 rfl).1 (q1 rfl).2 _ (optT v) q3)
        | false => rw [if_neg (by simp)]; exact skip _ q3
      · rename_i ob v h' hr
        obtain ⟨q1, q3⟩ := hw
        cases b with
        | true => rw [if_pos rfl]; exact .inl (run ob v h' (by rw [hr]; rfl) (q1 rfl).1 (q1 rfl).2.1 _ (optT v) (q1 rfl).2.2)
        | false => rw [if_neg (by simp)]; exact skip _ (q3 rfl)
      · obtain ⟨rfl, q3⟩ := hw
        rw [if_neg (by simp)]
        exact skip _ q3
    · exact hw.elim

theorem wpC_sound {sh : TypeId → Option (List Leaf)} {ct : Ct} (S : ShOk P sh) (C : CtOk P ct) (c : Code) : ∀ (K : Kt) (t : List AV) (h : List ABlk), wpC P sh ct c K t h → Mean P c K t h := by
  induction c with
  | skip => exact fun K t h hw E a Q H F hd hQ => wp_skip (hQ .normal E a t h hw (Ext.refl _ _) H F hd)
  | region id ops draw =>
    intro K t h hw E a Q H F hd hQ
    cases draw with
    | true => exact hw E a Q H F hd hQ
    | false => exact wp_region_list (wpO_sound S C ops.toList E t h a H F hd hw hQ)
  | seq x y ihx ihy =>
    intro K t h hw E a Q H F hd hQ
    refine wp_seq (ihx _ t h hw E a _ H F hd fun e E' a' t' h' hk X H' F' hd' => ?_)
    cases e with
    | normal => exact ihy K t' h' hk E' a' Q H' F' hd' fun e2 E2 a2 t2 h2 hk2 X2 H2 F2 hd2 => hQ e2 E2 a2 t2 h2 hk2 (X.trans X2) H2 F2 hd2
    | exit id => exact hQ (.exit id) E' a' t' h' hk X H' F' hd'
    | ret => exact hQ .ret E' a' t' h' hk X H' F' hd'
    | goto l => exact hQ (.goto l) E' a' t' h' hk X H' F' hd'
  | cond c x y ihx ihy =>
    intro K t h hw E a Q H F hd hQ
    simp only [wpC] at hw
    unfold cnd at hw
    split at hw
    · rename_i b hb
      obtain ⟨ho, h1, h2⟩ := hw
      have hv := rho_sound F ho
      rw [hb] at hv
      have hv := VR_bool hv
      cases b with
      | true => exact wp_cond_true hv (ihx K t h (h1 rfl) E a Q H F hd hQ)
      | false => exact wp_cond_false hv (ihy K t h (h2 rfl) E a Q H F hd hQ)
    · rename_i hb
      obtain ⟨ho, h1, h2⟩ := hw
      have hv := rho_sound F ho
      rw [hb] at hv
      generalize hu : a.eval c = u at hv
      cases hv with
      | ub b =>
      cases b with
      | true => exact wp_cond_true hu (ihx K t h h1 E a Q H F hd hQ)
      | false => exact wp_cond_false hu (ihy K t h h2 E a Q H F hd hQ)
    · exact hw.elim
  | block id c ih =>
    intro K t h hw E a Q H F hd hQ
    refine wp_block (ih _ t h hw E a _ H F hd fun e E' a' t' h' hk X H' F' hd' => ?_)
    cases e with
    | normal => exact hQ .normal E' a' t' h' hk X H' F' hd'
    | exit id' =>
      simp only [kBlk] at hk
      by_cases hid : id' = id
      · subst hid
        simp only [beq_self_eq_true] at hk
        simp only [Ex.ex, Exit.inBlock, if_true]
        exact hQ .normal E' a' t' h' hk X H' F' hd'
      · rw [show (id' == id) = false from by simpa using hid] at hk
        simp only [Ex.ex, Exit.inBlock, if_neg hid]
        exact hQ (.exit id') E' a' t' h' hk X H' F' hd'
    | ret => exact hQ .ret E' a' t' h' hk X H' F' hd'
    | goto l => exact hQ (.goto l) E' a' t' h' hk X H' F' hd'
  | exit id => exact fun K t h hw E a Q H F hd hQ => wp_exit (hQ (.exit id) E a t h hw (Ext.refl _ _) H F hd)
  | ret => exact fun K t h hw E a Q H F hd hQ => wp_ret (hQ .ret E a t h hw (Ext.refl _ _) H F hd)
  | loop c ih => exact fun K t h hw => hw
  | label l => exact fun K t h hw E a Q H F hd hQ => wp_label (hQ .normal E a t h hw (Ext.refl _ _) H F hd)
  | goto l => exact fun K t h hw E a Q H F hd hQ => wp_goto (hQ (.goto l) E a t h hw (Ext.refl _ _) H F hd)
  | scope c ih => exact fun K t h hw => hw
  | _ => exact fun K t h hw => hw.elim
end Go.Am
