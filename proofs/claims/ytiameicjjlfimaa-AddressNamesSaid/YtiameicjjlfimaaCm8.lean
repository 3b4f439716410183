/-
  A machine that computes, part 8: what it computes is what the program does: calls, regions in the text's order.
-/
import Derived.Test.YtiameicjjlfimaaCm7
namespace Go.Am
noncomputable section
set_option linter.unusedVariables false
set_option linter.unusedSimpArgs false
variable {P : Program}

/-! ### Calls -/
def CallsTo (P : Program) (k : FuncId) (args : List CV) (n : Nat) (h : Hp) (v : CV) (n' : Nat) (h' : Hp) : Prop :=
  n ≤ n' ∧ Enters P k ∧ ∀ (E : Env) (vs : Array Value), HR E (H n h) → FR E (toAVL args) vs → Calls P k vs E.w (Ret E (H n h) (H n' h') (toAV v))
def ClOk (P : Program) (cl : Cl) : Prop := ∀ k args n h, match cl k args n h with
  | .no => True
  | .p v => CallsTo P k args n h v n h
  | .w v n' h' => CallsTo P k args n h v n' h'
open Classical in
/-- The contract of one call. -/
def ct1 (k : FuncId) (l : List AV) (g : List ABlk) (v : AV) (g' : List ABlk) : Ct := fun f l' h' => if f = k ∧ l' = l ∧ h' = g then .heap True v g' else .fail
theorem ct1_ok {k : FuncId} {l : List AV} {g g' : List ABlk} {v : AV} (he : Enters P k) (hc : ∀ (E : Env) (vs : Array Value), HR E g → FR E l vs → Calls P k vs E.w (Ret E g g' v)) : CtOk P (ct1 k l g v g') := by
  intro f
  by_cases hf : f = k
  · subst hf
    refine .inr ⟨he, fun E h l' vs ob v' h' R F hr hob => ?_, fun E h l' vs ob v' R F hr hob => ?_⟩
    · unfold ct1 at hr
      split at hr
      · rename_i hh
        obtain ⟨_, rfl, rfl⟩ := hh
        simp only [AR.out, Option.some.injEq, Prod.mk.injEq] at hr
        obtain ⟨rfl, rfl, rfl⟩ := hr
        exact hc E vs R F
      · cases hr
    · unfold ct1 at hr
      split at hr <;> cases hr
  · refine .inl fun l' h' => ?_
    unfold ct1
    rw [if_neg (by rintro ⟨a, _⟩; exact hf a)]
theorem trip_call {sh : TypeId → Option (List Leaf)} (S : ShOk P sh) {o : Oper} {t : List AV} {g g' : List ABlk} {v : AV} {k : FuncId} {caps l : List AV} {fo : Operand} {args : Array Operand} {ts : Array TypeId}
    (ho : o.op = .call ⟨.value fo, args, ts⟩) (hf : rho t fo = .fn k caps) (og1 : og t fo) (og2 : ogL t args.toList) (hl : mapR t args.toList ++ caps = l)
    (he : Enters P k) (hc : ∀ (E : Env) (vs : Array Value), HR E g → FR E l vs → Calls P k vs E.w (Ret E g g' v)) : Trip P o t g v g' := by
  refine Trip.of_ev S (ct1_ok he hc) (ob := True) (v := v) (h' := g') ?_ trivial ?_ (.refl _) (.refl _)
  · rw [ho]
    simp only [evO, evCall, hf]
    unfold ct1
    rw [if_pos ⟨rfl, hl, rfl⟩]
    rfl
  · rw [ho]; exact ⟨og1, og2⟩
theorem cX_ok {sh : TypeId → Option (List Leaf)} (S : ShOk P sh) {cl : Cl} (C : ClOk P cl) (m : Nat) (f : Fr) (n : Nat) (h : Hp) (o : Oper) : CRok P o (T m f) n h (cX P sh cl m f n h o.op) := by
  have base := cO_ok S m f n h o
  have hcall : ∀ c, o.op = .call c → CRok P o (T m f) n h (cX P sh cl m f n h (.call c)) := by
    intro c ho
    rw [ho] at base
    obtain ⟨callee, args, ts⟩ := c
    cases callee with
    | value fo =>
      simp only [cX]
      refine c1_ok fun g hg => ?_
      obtain ⟨q1, q2⟩ := crho_ok hg
      split
      · rename_i k caps
        split
        · rename_i l hl
          obtain ⟨p1, p2⟩ := crhoL_ok hl
          have hk := C k (l ++ caps) n h
          simp only [toAV] at q1
          have hap : mapR (T m f) args.toList ++ toAVL caps = toAVL (l ++ caps) := by rw [p1, toAVL_append]
          split at hk
          · rename_i hr; rw [hr]; trivial
          · rename_i v hr; rw [hr]; exact trip_call S ho q1 q2 p2 hap hk.2.1 hk.2.2
          · rename_i v n' h' hr; rw [hr]; exact ⟨hk.1, trip_call S ho q1 q2 p2 hap hk.2.1 hk.2.2⟩
        · trivial
      · trivial
    | builtin b => exact base
    | invoke r mm => exact base
  cases ho : o.op
  case call c => exact hcall c ho
  all_goals (rw [ho] at base; exact base)

/-! ### Guards, slots -/
theorem gdV_ok {w : Bool} {v : CV} {b : Bool} (hb : gdV w v = some b) : gvl (toAV v) w = .g b := by
  unfold gdV at hb
  split at hb
  · injection hb with hb; subst hb; simp only [toAV, gvl]
  · injection hb with hb; subst hb; simp only [toAV, gvl]
  · cases hb
theorem cGuard_ok {all : List Oper} {m : Nat} {f : Fr} {g : Option (Nat × Bool)} :
    (cGuard all m f g = some none → gval (T m f) all g = .none) ∧ (∀ b, cGuard all m f g = some (some b) → gval (T m f) all g = .g b) := by
  cases g with
  | none => exact ⟨fun _ => rfl, fun b hb => by simp only [cGuard, Option.some.injEq] at hb; cases hb⟩
  | some q =>
    obtain ⟨j, w⟩ := q
    simp only [cGuard, kDst_eq]
    constructor
    · intro hb; split at hb <;> cases hb
    · intro b hb
      split at hb
      · rename_i b' hs
        injection hb with hb; cases hb
        unfold gdS at hs
        split at hs
        · rename_i d hd
          split at hs
          · rename_i hdm
            simp only [gval, hd, gvd, T_get (nblt.1 hdm)]
            exact gdV_ok hs
          · cases hs
        · cases hs
      · cases hb
theorem cset_ok {m : Nat} {f f' : Fr} {d : Option Nat} {v : CV} (hm : m ≤ 1024) (h : cset m f d v = some f') : setT (T m f) d (toAV v) = T m f' := by
  unfold cset at h
  split at h
  · injection h with h; subst h; rfl
  · split at h
    · rename_i hd
      injection h with h; subst h
      exact T_set hm (nblt.1 hd)
    · cases h
theorem wrapG_VR {E : Env} {g : Option Bool} {v : CV} {u : Value} (hv : VR E (toAV v) u) : VR E (toAV (wrapG g v)) u := by
  cases g with
  | none => exact hv
  | some b => simp only [wrapG, toAV]; exact .opt_t _ _ hv

/-! ### A region in the order of the text -/
theorem cOps_cons (sh : TypeId → Option (List Leaf)) (cl : Cl) (all : List Oper) (m : Nat) (o : Oper) (l : List Oper) (f : Fr) (n : Nat) (h : Hp) :
    cOps P sh cl all m (o :: l) f n h = kGrd P sh cl m o (cOps P sh cl all m l) f n h (cGuard all m f o.guard) := rGrd_eq P sh cl all m o (cOps P sh cl all m l) f n h o.guard
theorem kSet_some {x : Option Fr} {n : Nat} {h : Hp} {ih : Kf} {s : Fr × Nat × Hp} (hs : kSet x n h ih = some s) : ∃ f, x = some f ∧ ih f n h = some s := by
  cases x with
  | none => cases hs
  | some f => exact ⟨f, rfl, hs⟩
theorem cX_le {sh : TypeId → Option (List Leaf)} (S : ShOk P sh) {cl : Cl} (C : ClOk P cl) {m : Nat} {f : Fr} {n : Nat} {h : Hp} {o : Oper} {v : CV} {n' : Nat} {h' : Hp} (hr : cX P sh cl m f n h o.op = .w v n' h') : n ≤ n' := by
  have := cX_ok S C m f n h o
  rw [hr] at this
  exact this.1
theorem cOps_le {sh : TypeId → Option (List Leaf)} (S : ShOk P sh) {cl : Cl} (C : ClOk P cl) {all : List Oper} {m : Nat} : ∀ (l : List Oper) (f : Fr) (n : Nat) (h : Hp) (f' : Fr) (n' : Nat) (h' : Hp), cOps P sh cl all m l f n h = some (f', n', h') → n ≤ n' := by
  intro l
  induction l with
  | nil =>
    intro f n h f' n' h' hr
    have hr : (some (f, n, h) : Option (Fr × Nat × Hp)) = some (f', n', h') := hr
    injection hr with hr; cases hr; exact Nat.le_refl _
  | cons o l ih =>
    intro f n h f' n' h' hr
    rw [cOps_cons] at hr
    have run : ∀ (g : Option Bool), kPut m f n h o.dst g (cOps P sh cl all m l) (kX P sh cl m f n h o.op) = some (f', n', h') → n ≤ n' := by
      intro g hr
      rw [kX_eq] at hr
      cases hc : cX P sh cl m f n h o.op with
      | no => rw [hc] at hr; cases hr
      | p v => rw [hc] at hr; obtain ⟨f1, _, e2⟩ := kSet_some hr; exact ih _ _ _ _ _ _ e2
      | w v n1 h1 => rw [hc] at hr; obtain ⟨f1, _, e2⟩ := kSet_some hr; exact Nat.le_trans (cX_le S C hc) (ih _ _ _ _ _ _ e2)
    cases hg : cGuard all m f o.guard with
    | none => rw [hg] at hr; cases hr
    | some gg =>
      rw [hg] at hr
      cases gg with
      | none => exact run none hr
      | some b => cases b with
        | true => exact run (some true) hr
        | false => obtain ⟨f1, _, e2⟩ := kSet_some (show kSet (cset m f o.dst (.opt false (.bool false))) n h (cOps P sh cl all m l) = some (f', n', h') from hr); exact ih _ _ _ _ _ _ e2
theorem cOps_ok {sh : TypeId → Option (List Leaf)} (S : ShOk P sh) {cl : Cl} (C : ClOk P cl) {ops : Array Oper} {m : Nat} (hm : m ≤ 1024) {Q : Exit → Act → World → Prop} : ∀ (l : List Oper) (f : Fr) (n : Nat) (h : Hp) (f' : Fr) (n' : Nat) (h' : Hp),
    cOps P sh cl ops.toList m l f n h = some (f', n', h') → ∀ (E : Env) (a : Act), HR E (H n h) → FR E (T m f) a.tmps → a.defers = [] →
      (∀ (E' : Env) (a' : Act), Ext E (H n h) E' (H n' h') → HR E' (H n' h') → FR E' (T m f') a'.tmps → a'.defers = [] → Q .normal a' E'.w) → n ≤ n' ∧ wpList P ops Q l a E.w := by
  intro l
  induction l with
  | nil =>
    intro f n h f' n' h' hr E a R F hd hQ
    have hr : (some (f, n, h) : Option (Fr × Nat × Hp)) = some (f', n', h') := hr
    injection hr with hr; cases hr
    exact ⟨Nat.le_refl _, hQ E a (Ext.refl _ _) R F hd⟩
  | cons o l ih =>
    intro f n h f' n' h' hr E a R F hd hQ
    rw [cOps_cons] at hr
    obtain ⟨g1, g2⟩ := cGuard_ok (all := ops.toList) (m := m) (f := f) (g := o.guard)
    obtain ⟨w1, w2⟩ := gval_sound (ops := ops) rfl (o := o) F
    have put_defers : ∀ d v, (a.put d v).defers = [] := by
      intro d v
      cases d with
      | none => exact hd
      | some d => exact hd
    have run : ∀ (g : Option Bool), kPut m f n h o.dst g (cOps P sh cl ops.toList m l) (kX P sh cl m f n h o.op) = some (f', n', h') → n ≤ n' ∧ o.wp P a E.w (wpList P ops Q l) Q := by
      intro g hr
      have hx := cX_ok S C m f n h o
      rw [kX_eq] at hr
      have fin : ∀ (v : CV) (n1 : Nat) (h1 : Hp), n ≤ n1 → Trip P o (T m f) (H n h) (toAV v) (H n1 h1) → kSet (cset m f o.dst (wrapG g v)) n1 h1 (cOps P sh cl ops.toList m l) = some (f', n', h') → n ≤ n' ∧ o.wp P a E.w (wpList P ops Q l) Q := by
        intro v n1 h1 hn htr hs
        obtain ⟨f1, e1, e2⟩ := kSet_some hs
        have key : ∀ (E' : Env) (r : Value), Ext E (H n h) E' (H n1 h1) → HR E' (H n1 h1) → VR E' (toAV v) r → n1 ≤ n' ∧ wpList P ops Q l (a.put o.dst r) E'.w := by
          intro E' r X' R' V
          refine ih f1 n1 h1 f' n' h' e2 E' _ R' ?_ (put_defers _ _) fun E2 a2 X2 R2 F2 d2 => hQ E2 a2 (X'.trans X2) R2 F2 d2
          rw [← cset_ok hm e1]
          exact FR_put (FR_mono (X'.keep R) F) (wrapG_VR V) o.dst
        refine ⟨?_, htr E a _ Q R F fun r E' X' R' V => (key E' r X' R' V).2⟩
        exact Nat.le_trans hn (cOps_le S C l _ _ _ _ _ _ e2)
      cases hc : cX P sh cl m f n h o.op with
      | no => rw [hc] at hr; cases hr
      | p v => rw [hc] at hr hx; exact fin v n h (Nat.le_refl _) hx hr
      | w v n1 h1 => rw [hc] at hr hx; exact fin v n1 h1 hx.1 hx.2 hr
    unfold wpList
    cases hg : cGuard ops.toList m f o.guard with
    | none => rw [hg] at hr; cases hr
    | some gg =>
      rw [hg] at hr
      cases gg with
      | none =>
        obtain ⟨q1, q2⟩ := run none hr
        rw [if_pos (w1 (g1 hg))]
        exact ⟨q1, .inl q2⟩
      | some b =>
        rw [w2 b (g2 b hg)]
        cases b with
        | true =>
          obtain ⟨q1, q2⟩ := run (some true) hr
          rw [if_pos rfl]
          exact ⟨q1, .inl q2⟩
        | false =>
          obtain ⟨f1, e1, e2⟩ := kSet_some (show kSet (cset m f o.dst (.opt false (.bool false))) n h (cOps P sh cl ops.toList m l) = some (f', n', h') from hr)
          rw [if_neg (by simp)]
          refine ih f1 n h f' n' h' e2 E _ R ?_ (put_defers _ _) hQ
          rw [← cset_ok hm e1]
          simp only [toAV]
          exact FR_put F (.opt_f _) o.dst
end
end Go.Am
