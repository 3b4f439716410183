/-
  The abstract machine, part 13: contracts of functions that only read; loops.
-/
import Derived.Test.YtpnhehcncljhpaaAm12
namespace Go.Am
set_option linter.unusedVariables false
variable {P : Program} {E : Env} {h : List ABlk}

theorem concL_VR {l : List AV} : ∀ {us : List Value}, concL l = some us → ∀ (vs : List Value), l.length = vs.length → (∀ (i : Nat) (a : AV) (v : Value), l[i]? = some a → vs[i]? = some v → VR E a v) → vs = us := by
  induction l with
  | nil => intro us hu vs hl _; simp only [concL] at hu; injection hu with hu; subst hu; exact List.eq_nil_of_length_eq_zero hl.symm
  | cons a l ih =>
    intro us hu vs hl hh
    cases vs with
    | nil => simp at hl
    | cons v vs =>
      have h0 := hh 0 a v rfl rfl
      have ih' : ∀ {us : List Value}, concL l = some us → vs = us := fun hu => ih hu vs (by simpa using hl) fun i b w hb hw => hh (i + 1) b w (by simpa using hb) (by simpa using hw)
      cases h0 <;> simp only [concL, Option.map_eq_some_iff, reduceCtorEq] at hu <;> obtain ⟨r, q1, rfl⟩ := hu <;> rw [ih' q1]
theorem conc1_VR {a : AV} {u v : Value} (hu : conc1 a = some u) (hv : VR E a v) : v = u := by
  cases hv <;> simp only [conc1, Option.some.injEq, Option.map_eq_some_iff, reduceCtorEq] at hu <;> try exact hu
  rename_i l vs hl h1 hh
  obtain ⟨r, q1, rfl⟩ := hu
  obtain ⟨vs⟩ := vs
  rw [concL_VR q1 vs (by simpa using hl) fun i a v ha hv => hh i a v ha (by simpa using hv)]
theorem concT_VR {l : List AV} : ∀ {us : List Value}, concT l = some us → ∀ (vs : List Value), l.length = vs.length → (∀ (i : Nat) (a : AV) (v : Value), l[i]? = some a → vs[i]? = some v → VR E a v) → vs = us := by
  induction l with
  | nil => intro us hu vs hl _; simp only [concT] at hu; injection hu with hu; subst hu; exact List.eq_nil_of_length_eq_zero hl.symm
  | cons a l ih =>
    intro us hu vs hl hh
    cases vs with
    | nil => simp at hl
    | cons v vs =>
      have h0 := hh 0 a v rfl rfl
      simp only [concT] at hu
      split at hu
      · rename_i v' r q1 q2
        injection hu with hu; subst hu
        rw [conc1_VR q1 h0, ih q2 vs (by simpa using hl) fun i b w hb hw => hh (i + 1) b w (by simpa using hb) (by simpa using hw)]
      · cases hu
theorem conc_VR {a : AV} {u v : Value} (hu : conc a = some u) (hv : VR E a v) : v = u := by
  have one : conc1 a = some u → v = u := fun hu => conc1_VR hu hv
  unfold conc at hu
  split at hu
  · rename_i l
    cases hv with
    | tup l vs hl hh =>
    simp only [Option.map_eq_some_iff] at hu
    obtain ⟨r, q1, rfl⟩ := hu
    obtain ⟨vs⟩ := vs
    rw [concT_VR q1 vs (by simpa using hl) fun i a v ha hv => hh i a v ha (by simpa using hv)]
  · exact one hu
theorem conc1_mk {a : AV} {u : Value} (hu : conc1 a = some u) : VR E a u ∧ (u.oneCell' = true ∨ ∃ l, a = .agg l) := by
  cases a <;> simp only [conc1, Option.some.injEq, Option.map_eq_some_iff, reduceCtorEq] at hu
  case bool b => subst hu; exact ⟨.bool _, .inl rfl⟩
  case int k n => subst hu; exact ⟨.int _ _, .inl rfl⟩
  case str s => subst hu; exact ⟨.str _, .inl rfl⟩
  case nilp => subst hu; exact ⟨.nilp, .inl rfl⟩
  case nilf => subst hu; exact ⟨.nilf, .inl rfl⟩
  case agg l =>
    obtain ⟨r, q1, rfl⟩ := hu
    have key : ∀ (l : List AV) (r : List Value), concL l = some r → l.length = r.length ∧ ∀ (i : Nat) (a : AV) (v : Value), l[i]? = some a → r[i]? = some v → VR E a v ∧ v.oneCell' = true := by
      intro l
      induction l with
      | nil => intro r hr; simp only [concL] at hr; injection hr with hr; subst hr; exact ⟨rfl, fun i a v ha => by simp at ha⟩
      | cons a l ih =>
        intro r hr
        have put : ∀ (u : Value), (concL l).map (u :: ·) = some r → VR E a u → u.oneCell' = true → (a :: l).length = r.length ∧ ∀ (i : Nat) (b : AV) (v : Value), (a :: l)[i]? = some b → r[i]? = some v → VR E b v ∧ v.oneCell' = true := by
          intro u hm hu h1
          simp only [Option.map_eq_some_iff] at hm
          obtain ⟨r', q1, rfl⟩ := hm
          obtain ⟨i1, i2⟩ := ih r' q1
          refine ⟨by simp [i1], fun i b v hb hv => ?_⟩
          cases i with
          | zero => simp at hb hv; subst hb hv; exact ⟨hu, h1⟩
          | succ i => exact i2 i b v (by simpa using hb) (by simpa using hv)
        cases a <;> simp only [concL, reduceCtorEq] at hr
        case bool b => exact put _ hr (.bool _) rfl
        case int k n => exact put _ hr (.int _ _) rfl
        case str s => exact put _ hr (.str _) rfl
        case nilp => exact put _ hr .nilp rfl
        case nilf => exact put _ hr .nilf rfl
    obtain ⟨k1, k2⟩ := key l r q1
    exact ⟨.agg _ _ (by simpa using k1) (fun i v hv => by
      have hi : i < r.length := by
        rcases Nat.lt_or_ge i r.length with h' | h'
        · exact h'
        · simp [List.getElem?_eq_none h'] at hv
      have hil : i < l.length := by omega
      exact (k2 i _ v (List.getElem?_eq_getElem hil) (by simpa using hv)).2) fun i a v ha hv => (k2 i a v ha (by simpa using hv)).1, .inr ⟨l, rfl⟩⟩
theorem conc_mk {a : AV} {u : Value} (hu : conc a = some u) : VR E a u := by
  unfold conc at hu
  split at hu
  · rename_i l
    simp only [Option.map_eq_some_iff] at hu
    obtain ⟨r, q1, rfl⟩ := hu
    have key : ∀ (l : List AV) (r : List Value), concT l = some r → l.length = r.length ∧ ∀ (i : Nat) (a : AV) (v : Value), l[i]? = some a → r[i]? = some v → VR E a v := by
      intro l
      induction l with
      | nil => intro r hr; simp only [concT] at hr; injection hr with hr; subst hr; exact ⟨rfl, fun i a v ha => by simp at ha⟩
      | cons a l ih =>
        intro r hr
        simp only [concT] at hr
        split at hr
        · rename_i v' r' q1 q2
          injection hr with hr; subst hr
          obtain ⟨i1, i2⟩ := ih r' q2
          refine ⟨by simp [i1], fun i b v hb hv => ?_⟩
          cases i with
          | zero => simp at hb hv; subst hb hv; exact (conc1_mk q1).1
          | succ i => exact i2 i b v (by simpa using hb) (by simpa using hv)
        · cases hr
    obtain ⟨k1, k2⟩ := key l r q1
    exact .tup _ _ (by simpa using k1) fun i a v ha hv => k2 i a v ha (by simpa using hv)
  · exact (conc1_mk hu).1

/-- A contract that sees its arguments only by their content. -/
def pureR (o : Prop) : AR → AR
  | .pure ob v => .pure (o ∧ ob) v
  | .heap _ _ _ => .fail
  | .fail => .fail
def pureC (body : List AV → AR) (l : List AV) (h : List ABlk) : AR := pureR (roObL h l) (body (roL h l))
theorem HR_same {w' : World} (H : HR E h) (S : Same E.w w') : HR { E with w := w' } h ∧ Ext E h { E with w := w' } h := by
  have K : Keep E { E with w := w' } := ⟨fun _ _ h => h, fun _ h => h, fun k hk => S.old k (H.prot k hk).1, fun k cs e hk => ⟨cs, (S.old k (lt_of_some hk)).trans hk, rfl⟩⟩
  exact ⟨⟨fun b x hb => by
      by_cases hd : x = .dead
      · subst hd; trivial
      · exact (H.blk b x hb).mono K rfl fun k o hk => S.old k ((H.blk b x hb).lt hd hk), H.inj, fun k hk => ⟨Nat.lt_of_lt_of_le (H.prot k hk).1 S.size, (H.prot k hk).2⟩, H.fresh⟩,
    ⟨S.os, S.tape, S.output, K.σ, K.prot, S.size, K.kind, fun k hk _ => S.old k hk, fun k h => .inl h, Nat.le_refl _, fun _ _ => rfl, fun _ h => .inl h⟩⟩

theorem pure_fn {f : FuncId} {fn : Func} {code : Code} {sh : TypeId → Option (List Leaf)} {ct : Ct} (S : ShOk P sh) (C : CtOk P ct) (body : List AV → AR) {rs : List ResultVar}
    (hf : P.funcs[f]? = some fn) (hn : (fn.name == "runtime.NumGoroutine") = false) (hb : fn.body = some code) (hrs : fn.results.toList = rs)
    (hw : ∀ (l : List AV) (ob : Prop) (v : AV), body l = .pure ob v → ob → ∃ l' t, (∀ E vs, FR E l vs → FR E l' vs) ∧ (conc v).isSome = true ∧ t = l' ++ List.replicate (fn.ntmps - l'.length) .top ∧
      wpC P sh ct code (kRet P rs fun v' _ => v' = v) t []) : FnOk P f (pureC body) := by
  subst hrs
  have main : ∀ (E : Env) (h : List ABlk) (l : List AV) (vs : Array Value) (ob : Prop) (v : AV), HR E h → FR E l vs → pureC body l h = .pure ob v → ob → Calls P f vs E.w (RetP E.w v) := by
    intro E h l vs ob v H F hr hob
    unfold pureC at hr
    cases hbd : body (roL h l) with
    | fail => rw [hbd] at hr; cases hr
    | heap a b c => rw [hbd] at hr; cases hr
    | pure ob' v' =>
      rw [hbd] at hr
      simp only [pureR, AR.pure.injEq] at hr
      obtain ⟨rfl, rfl⟩ := hr
      obtain ⟨l', t, g1, g2, rfl, g3⟩ := hw _ _ _ hbd hob.2
      have F0 : FR E.view (roL h l) vs := by
        refine ⟨by rw [roL_length]; exact F.1, fun i a v ha hv => ?_⟩
        rw [roL_get] at ha
        cases hi : l[i]? with
        | none => rw [hi] at ha; cases ha
        | some a0 =>
          rw [hi] at ha
          simp only [Option.map_some, Option.some.injEq] at ha
          subst ha
          exact ro_VR H (F.2 i a0 v hi hv) (roObL_get hob.1 hi)
      have F1 := g1 _ _ F0
      have F2 : FR E.view (l' ++ List.replicate (fn.ntmps - l'.length) .top) (vs ++ Array.replicate (fn.ntmps - vs.size) undef) := by
        refine FR_append F1 ⟨by simp [F1.1], fun i a v ha hv => ?_⟩
        rw [List.getElem?_replicate] at ha
        split at ha
        · injection ha with ha; subst ha; exact .top _
        · cases ha
      refine calls_of_wp hf hb ?_
      refine wpC_sound S C code _ _ _ g3 E.view _ _ (view_HR E) F2 rfl fun e E' a' t' h' hk X H' F' hd => ?_
      have done : retK P fn.results.toList (fun w _ => w = v') t' h' → a'.defers = [] ∧ ∃ u, (results fn a'.tmps).run P E'.w = .ok u E'.w ∧ RetP E.w v' (.returned u) E'.w := by
        intro hk
        obtain ⟨u, v', q1, rfl, q3⟩ := ret_sound (P := P) H' F' hk
        refine ⟨hd, u, q1, u, rfl, ?_, ⟨X.os, X.tape, X.output, X.size, fun k hk => X.frame k hk ?_⟩⟩
        · cases hc : conc v' with
          | none => rw [hc] at g2; cases g2
          | some u0 => rw [conc_VR hc q3]
        · rintro ⟨b, x, o, hb, _⟩; simp at hb
      cases e with
      | normal => exact done hk
      | ret => exact done hk
      | exit id => exact hk.elim
      | goto l => exact hk.elim
  refine ⟨⟨fn, hf, hn, by rw [hb]; rfl⟩, fun E h l vs ob v h' H F hr hob => ?_, main⟩
  cases hc : pureC body l h with
  | fail => rw [hc] at hr; cases hr
  | heap a b c => exfalso; unfold pureC at hc; cases hbd : body (roL h l) <;> rw [hbd] at hc <;> cases hc
  | pure ob' v' =>
    rw [hc] at hr
    simp only [AR.out, Option.some.injEq, Prod.mk.injEq] at hr
    obtain ⟨rfl, rfl, rfl⟩ := hr
    refine (main E h l vs _ _ H F hc hob).mono ?_
    rintro e w' ⟨u, rfl, hu, hS⟩
    obtain ⟨H', X'⟩ := HR_same H hS
    exact ⟨u, _, rfl, rfl, X', H', conc_mk hu⟩
end Go.Am
