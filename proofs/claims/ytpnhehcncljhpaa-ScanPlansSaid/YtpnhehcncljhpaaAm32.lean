/-
  The abstract machine, part 32: contracts of functions that hand an argument on as their result.
-/
import Derived.Test.YtpnhehcncljhpaaAm31
namespace Go.Am
set_option linter.unusedVariables false
variable {P : Program} {E : Env} {h : List ABlk}

/-- A contract that leaves memory as it is, and whose result may be memory of the caller's. -/
def passC (body : List AV → AR) (l : List AV) (h : List ABlk) : AR := match body l with
  | .pure ob v => .heap ob v h
  | _ => .fail
/-- The second value says no less than the first. -/
def WkV (v v' : AV) : Prop := ∀ (E : Env) (u : Value), VR E v' u → VR E v u
theorem WkV_refl (v : AV) : WkV v v := fun _ _ h => h
theorem WkV_nil (b es i : Nat) (c : Nat → Nat → AV) : WkV (.sl b es i 0 true) (.ro 0 0 true c) := fun E u h => by
  cases h with
  | ro _ _ _ _ a cap hn hcm hnl hz us ha h1 hc hrf =>
    have ha' : a = none := hnl rfl
    exact .sl b es i 0 true a cap hn hcm (fun _ => ha') hz fun hp => by have := hz ha'; omega
theorem WkV_tup2 {a b a' b' : AV} (h1 : WkV a a') (h2 : WkV b b') : WkV (.tup [a, b]) (.tup [a', b']) := fun E u h => by
  cases h with
  | tup _ vs hl hh =>
    refine .tup _ vs (by simpa using hl) fun i x v hx hv => ?_
    match i with
    | 0 => simp at hx; subst hx; exact h1 E v (hh 0 _ v rfl hv)
    | 1 => simp at hx; subst hx; exact h2 E v (hh 1 _ v rfl hv)
    | i + 2 => simp at hx

theorem pass_fn {f : FuncId} {fn : Func} {code : Code} {sh : TypeId → Option (List Leaf)} {ct : Ct} (S : ShOk P sh) (C : CtOk P ct) (body : List AV → AR) {rs : List ResultVar}
    (hf : P.funcs[f]? = some fn) (hn : (fn.name == "runtime.NumGoroutine") = false) (hb : fn.body = some code) (hrs : fn.results.toList = rs)
    (hw : ∀ (l : List AV) (ob : Prop) (v : AV), body l = .pure ob v → ob → ∃ t, t = l ++ List.replicate (fn.ntmps - l.length) .top ∧ ∀ h, wpC P sh ct code (kRet P rs fun v' h' => WkV v v' ∧ h' = h) t h) : FnOk P f (passC body) := by
  subst hrs
  refine ⟨⟨fn, hf, hn, by rw [hb]; rfl⟩, fun E h l vs ob v h' H F hr hob => ?_, fun E h l vs ob v H F hr hob => ?_⟩
  · unfold passC at hr
    cases hbd : body l with
    | fail => rw [hbd] at hr; cases hr
    | heap a b c => rw [hbd] at hr; cases hr
    | pure ob' v' =>
      rw [hbd] at hr
      simp only [AR.out, Option.some.injEq, Prod.mk.injEq] at hr
      obtain ⟨rfl, rfl, rfl⟩ := hr
      obtain ⟨t, rfl, g⟩ := hw _ _ _ hbd hob
      have F2 : FR E (l ++ List.replicate (fn.ntmps - l.length) .top) (vs ++ Array.replicate (fn.ntmps - vs.size) undef) := by
        refine FR_append F ⟨by simp [F.1], fun i a v ha hv => ?_⟩
        rw [List.getElem?_replicate] at ha
        split at ha
        · injection ha with ha; subst ha; exact .top _
        · cases ha
      refine calls_of_wp hf hb ?_
      refine wpC_sound S C code _ _ _ (g h) E _ _ H F2 rfl fun e E1 a' t' h1 hk X1 H1 F1 hd => ?_
      have done : retK P fn.results.toList (fun v2 h2 => WkV v' v2 ∧ h2 = h) t' h1 → a'.defers = [] ∧ ∃ u, (results fn a'.tmps).run P E1.w = .ok u E1.w ∧ Ret E h h v' (.returned u) E1.w := by
        intro hk
        obtain ⟨u, v2, q1, ⟨q2, rfl⟩, q3⟩ := ret_sound (P := P) H1 F1 hk
        exact ⟨hd, u, q1, u, E1, rfl, rfl, X1, H1, q2 _ _ q3⟩
      cases e with
      | normal => exact done hk
      | ret => exact done hk
      | exit id => exact hk.elim
      | goto l => exact hk.elim
  · exfalso
    unfold passC at hr
    cases hbd : body l <;> rw [hbd] at hr <;> cases hr
/-- Two contracts of one function, each for its own arguments. -/
theorem fn_or {f : FuncId} {c1 c2 : List AV → List ABlk → AR} (b : List AV → Bool) (h1 : FnOk P f c1) (h2 : FnOk P f c2) : FnOk P f (fun l h => bif b l then c1 l h else c2 l h) := by
  refine ⟨h1.1, fun E h l vs ob v h' H F hr hob => ?_, fun E h l vs ob v H F hr hob => ?_⟩
  · cases hb : b l with
    | true => exact h1.2.1 E h l vs ob v h' H F (by simpa only [hb, cond_true] using hr) hob
    | false => exact h2.2.1 E h l vs ob v h' H F (by simpa only [hb, cond_false] using hr) hob
  · cases hb : b l with
    | true => exact h1.2.2 E h l vs ob v H F (by simpa only [hb, cond_true] using hr) hob
    | false => exact h2.2.2 E h l vs ob v H F (by simpa only [hb, cond_false] using hr) hob
end Go.Am
