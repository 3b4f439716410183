/-
  The abstract machine, part 9: calls, all operations, regions in the order of the text.
-/
import Derived.Test.YtpgcekjnpieibaaAm8
namespace Go.Am
set_option linter.unusedVariables false
variable {P : Program} {E : Env} {h : List ABlk}

/-! ### What a call gives -/
def AR.out (h : List ABlk) : AR → Option (Prop × AV × List ABlk)
  | .fail => none
  | .pure ob v => some (ob, v, h)
  | .heap ob v h' => some (ob, v, h')
abbrev Ct := FuncId → List AV → List ABlk → AR
def Ret (E : Env) (h h' : List ABlk) (v : AV) (e : Ending) (w' : World) : Prop := ∃ u E', e = .returned u ∧ E'.w = w' ∧ Ext E h E' h' ∧ HR E' h' ∧ VR E' v u
def Enters (P : Program) (f : FuncId) : Prop := ∃ fn, P.funcs[f]? = some fn ∧ (fn.name == "runtime.NumGoroutine") = false ∧ fn.body.isNone = false
/-- A value that its abstract value tells wholly. -/
def concL : List AV → Option (List Value)
  | [] => some []
  | .bool b :: l => (concL l).map (.bool b :: ·)
  | .int k n :: l => (concL l).map (.int k n :: ·)
  | .str s :: l => (concL l).map (.string s :: ·)
  | .nilp :: l => (concL l).map (.pointer none :: ·)
  | .nilf :: l => (concL l).map (.nilFunc :: ·)
  | _ => none
def conc1 : AV → Option Value
  | .bool b => some (.bool b)
  | .int k n => some (.int k n)
  | .str s => some (.string s)
  | .nilp => some (.pointer none)
  | .nilf => some .nilFunc
  | .agg l => (concL l).map fun l => .agg l.toArray
  | _ => none
def concT : List AV → Option (List Value)
  | [] => some []
  | a :: l => match conc1 a, concT l with
    | some v, some r => some (v :: r)
    | _, _ => none
def conc : AV → Option Value
  | .tup l => (concT l).map fun l => .tuple l.toArray
  | a => conc1 a
/-- Nothing that stood in the memory has changed. -/
structure Same (w w' : World) : Prop where
  os : w'.os = w.os
  tape : w'.tape = w.tape
  output : w'.output = w.output
  size : w.heap.size ≤ w'.heap.size
  old : ∀ k, k < w.heap.size → w'.heap[k]? = w.heap[k]?
def RetP (w : World) (v : AV) (e : Ending) (w' : World) : Prop := ∃ u, e = .returned u ∧ conc v = some u ∧ Same w w'
def FnOk (P : Program) (f : FuncId) (c : List AV → List ABlk → AR) : Prop := Enters P f ∧
  (∀ (E : Env) (h : List ABlk) (l : List AV) (vs : Array Value) (ob : Prop) (v : AV) (h' : List ABlk), HR E h → FR E l vs → (c l h).out h = some (ob, v, h') → ob → Calls P f vs E.w (Ret E h h' v)) ∧
  (∀ (E : Env) (h : List ABlk) (l : List AV) (vs : Array Value) (ob : Prop) (v : AV), HR E h → FR E l vs → c l h = .pure ob v → ob → Calls P f vs E.w (RetP E.w v))
def CtOk (P : Program) (ct : Ct) : Prop := ∀ f, (∀ l h, ct f l h = .fail) ∨ FnOk P f (ct f)
def tab : List (FuncId × (List AV → List ABlk → AR)) → Ct
  | [], _, _, _ => .fail
  | (k, c) :: r, f, l, h => bif k == f then c l h else tab r f l h
theorem tab_nil : CtOk P (tab []) := fun f => .inl fun _ _ => rfl
theorem tab_cons {k : FuncId} {c : List AV → List ABlk → AR} {r : List (FuncId × (List AV → List ABlk → AR))} (h1 : FnOk P k c) (h2 : CtOk P (tab r)) : CtOk P (tab ((k, c) :: r)) := by
  intro f
  cases hk : (k == f) with
  | true =>
    have e : k = f := by simpa using hk
    subst e
    refine .inr ?_
    rw [show tab ((k, c) :: r) k = c from by funext l h; simp [tab]]
    exact h1
  | false =>
    rw [show tab ((k, c) :: r) f = tab r f from by funext l h; simp [tab, hk]]
    exact h2 f

theorem FR_append {l m : List AV} {vs ws : Array Value} (h1 : FR E l vs) (h2 : FR E m ws) : FR E (l ++ m) (vs ++ ws) := by
  refine ⟨by simp [h1.1, h2.1], fun i a v ha hv => ?_⟩
  rcases Nat.lt_or_ge i l.length with hi | hi
  · rw [List.getElem?_append_left hi] at ha
    rw [Array.getElem?_append_left (by rw [← h1.1]; exact hi)] at hv
    exact h1.2 i a v ha hv
  · rw [List.getElem?_append_right hi] at ha
    rw [Array.getElem?_append_right (by rw [← h1.1]; exact hi)] at hv
    rw [← h1.1] at hv
    exact h2.2 _ a v ha hv
def mapR (t : List AV) : List Operand → List AV
  | [] => []
  | x :: r => rho t x :: mapR t r
theorem FR_mapR {t : List AV} {a : Act} (F : FR E t a.tmps) {xs : Array Operand} (ho : ogL t xs.toList) : FR E (mapR t xs.toList) (xs.map a.eval) := by
  have key : ∀ l : List Operand, ogL t l → (mapR t l).length = l.length ∧ ∀ (i : Nat) (b : AV) (v : Value), (mapR t l)[i]? = some b → (l.map a.eval)[i]? = some v → VR E b v := by
    intro l
    induction l with
    | nil => intro _; exact ⟨rfl, fun i b v hb => by simp [mapR] at hb⟩
    | cons x l ih =>
      intro ho
      obtain ⟨q1, q2⟩ := ih ho.2
      refine ⟨by simp [mapR, q1], fun i b v hb hv => ?_⟩
      cases i with
      | zero =>
        simp only [mapR, List.getElem?_cons_zero, List.map_cons, Option.some.injEq] at hb hv
        subst hb hv; exact rho_sound F ho.1
      | succ i => exact q2 i b v (by simpa [mapR] using hb) (by simpa using hv)
  obtain ⟨q1, q2⟩ := key xs.toList ho
  exact ⟨by simpa using q1, fun i b v hb hv => q2 i b v hb (by simpa using hv)⟩

/-! ### Builtins -/
def evLen2 (sl : Option TypeId) (st : Bool) (ar : Option (Nat × TypeId)) (x : AV) : AR := match ar with
  | some (n, _) => .pure True (.int .i64 n)
  | none => match st with
    | true => match x with
      | .str s => .pure True (.int .i64 s.size)
      | _ => .fail
    | false => match sl with
      | some _ => match x with
        | .sl _ _ _ n _ => .pure True (.int .i64 n)
        | .isl _ _ _ _ _ n => .pure True (.int .i64 n)
        | .ro _ n _ _ => .pure True (.int .i64 n)
        | .emp => .pure True (.int .i64 0)
        | _ => .fail
      | none => .fail
def evMin : List AV → AR
  | [.int k x, .int k' y] => bif k == k' then .pure True (.int k (minI x y)) else .fail
  | _ => .fail
def evMax : List AV → AR
  | [.int k x, .int k' y] => bif k == k' then .pure True (.int k (maxI x y)) else .fail
  | _ => .fail
def evBuiltin (P : Program) (b : Builtin) (ts : List TypeId) (l : List AV) (h : List ABlk) : AR := match b with
  | .len => match ts, l with
    | [t], [x] => evLen2 (tslice P t) (tstr P t) (tarr P t) x
    | _, _ => .fail
  | .append => match ts, l with
    | [st, xt], [s, x] => evAppend (tslice P st) (tnoint P xt) ((tslice P st).bind (tsz P)) ((tslice P st).bind (tby P)) ((tslice P st).bind (tzn P)) s x h
    | _, _ => .fail
  | .min => evMin l
  | .max => evMax l
  | _ => .fail

theorem len_sound {t ty : TypeId} {x v : AV} {u : Value} {ob : Prop} (hx : VR E x u) (hr : evLen2 (tslice P t) (tstr P t) (tarr P t) x = .pure ob v) : ∃ r, (∀ W, (Builtin.len_ #[t] ty #[u]).run P W = .ok r W) ∧ VR E v r := by
  have hu : ∀ d, P.underlying t = some d → ∀ W, (Builtin.len_ #[t] ty #[u]).run P W = (match d, u with
      | .string, .string s => (pure (goInt s.size) : Sem Value)
      | .array n _, _ => pure (goInt n)
      | .slice _, .slice _ n _ => pure (goInt n)
      | _, _ => Builtin.len_ #[t] ty #[u]).run P W := by
    intro d hd W
    split
    · simp [Builtin.len_, run_underlying hd]
    · simp [Builtin.len_, run_underlying hd]
    · simp [Builtin.len_, run_underlying hd]
    · rfl
  unfold evLen2 at hr
  split at hr
  · rename_i n e ha
    injection hr with h1 h2; subst h2
    unfold tarr at ha
    split at ha
    · rename_i n' e' hd
      injection ha with ha; cases ha
      exact ⟨_, fun W => by rw [hu _ hd]; rfl, .int _ _⟩
    · cases ha
  · split at hr
    · rename_i hs
      split at hr
      · rename_i s
        injection hr with h1 h2; subst h2
        obtain rfl := VR_str hx
        unfold tstr at hs
        split at hs
        · rename_i hd; exact ⟨_, fun W => by rw [hu _ hd]; rfl, .int _ _⟩
        · cases hs
      · cases hr
    · split at hr
      · rename_i e he
        have hd := und_of_tslice he
        split at hr
        · injection hr with h1 h2; subst h2; cases hx; exact ⟨_, fun W => by rw [hu _ hd]; rfl, .int _ _⟩
        · injection hr with h1 h2; subst h2; cases hx; exact ⟨_, fun W => by rw [hu _ hd]; rfl, .int _ _⟩
        · injection hr with h1 h2; subst h2; cases hx; exact ⟨_, fun W => by rw [hu _ hd]; rfl, .int _ _⟩
        · injection hr with h1 h2; subst h2; cases hx; exact ⟨_, fun W => by rw [hu _ hd]; rfl, .int _ _⟩
        · cases hr
      · cases hr

def pO : AR → AR
  | .pure ob v => .pure ob v
  | .heap _ _ _ => .fail
  | .fail => .fail
def hO : AR → AR
  | .heap ob v h => .heap ob v h
  | .pure _ _ => .fail
  | .fail => .fail
theorem pO_out {r : AR} {ob : Prop} {v : AV} {h' : List ABlk} (ho : (pO r).out h = some (ob, v, h')) : r = .pure ob v ∧ h' = h := by
  cases r <;> simp only [pO, AR.out, Option.some.injEq, Prod.mk.injEq, reduceCtorEq] at ho
  obtain ⟨rfl, rfl, rfl⟩ := ho
  exact ⟨rfl, rfl⟩
theorem hO_out {r : AR} {ob : Prop} {v : AV} {h' : List ABlk} (ho : (hO r).out h = some (ob, v, h')) : r = .heap ob v h' := by
  cases r <;> simp only [hO, AR.out, Option.some.injEq, Prod.mk.injEq, reduceCtorEq] at ho
  obtain ⟨rfl, rfl, rfl⟩ := ho
  rfl

theorem FR_one {x : AV} {vs : Array Value} (F : FR E [x] vs) : ∃ u, vs = #[u] ∧ VR E x u := by
  have h1 : vs.size = 1 := by rw [← F.1]; rfl
  refine ⟨vs[0], ?_, F.2 0 _ _ rfl (Array.getElem?_eq_getElem (by omega))⟩
  apply Array.ext
  · simp [h1]
  · intro i hi hi'
    have : i = 0 := by omega
    subst this; rfl
theorem FR_two {x y : AV} {vs : Array Value} (F : FR E [x, y] vs) : ∃ u1 u2, vs = #[u1, u2] ∧ VR E x u1 ∧ VR E y u2 := by
  have h1 : vs.size = 2 := by rw [← F.1]; rfl
  refine ⟨vs[0], vs[1], ?_, F.2 0 _ _ rfl (Array.getElem?_eq_getElem (by omega)), F.2 1 _ _ rfl (Array.getElem?_eq_getElem (by omega))⟩
  apply Array.ext
  · simp [h1]
  · intro i hi hi'
    have : i = 0 ∨ i = 1 := by omega
    rcases this with rfl | rfl <;> rfl

theorem bltin_sound {b : Builtin} {ts : Array TypeId} {ty : TypeId} {cs : Array Bool} {l : List AV} {vs : Array Value} {ob : Prop} {v : AV} {h' : List ABlk} (H : HR E h) (F : FR E l vs)
    (hr : (evBuiltin P b ts.toList l h).out h = some (ob, v, h')) (hob : ob) :
    ∃ r E', (builtin b ts ty cs vs).run P E.w = .ok (.value r) E'.w ∧ Ext E h E' h' ∧ HR E' h' ∧ VR E' v r := by
  obtain ⟨ts⟩ := ts
  unfold evBuiltin at hr
  split at hr
  · split at hr
    · rename_i t x e
      simp only at e; subst e
      obtain ⟨u, rfl, hu⟩ := FR_one F
      cases he : evLen2 (tslice P t) (tstr P t) (tarr P t) x with
      | fail => rw [he] at hr; cases hr
      | heap ob v h' => exfalso; unfold evLen2 at he; repeat (split at he <;> try cases he)
      | pure ob v =>
        rw [he] at hr
        simp only [AR.out, Option.some.injEq, Prod.mk.injEq] at hr
        obtain ⟨rfl, rfl, rfl⟩ := hr
        obtain ⟨r, q1, q2⟩ := len_sound (ty := ty) hu he
        exact ⟨r, E, by simp only [builtin, Sem.run_bind, q1, Result.andThen_ok, Sem.run_pure], Ext.refl _ _, H, q2⟩
    · cases hr
  · split at hr
    · rename_i st xt s x e
      simp only at e; subst e
      obtain ⟨u1, u2, rfl, hu1, hu2⟩ := FR_two F
      generalize he : evAppend (tslice P st) (tnoint P xt) ((tslice P st).bind (tsz P)) ((tslice P st).bind (tby P)) ((tslice P st).bind (tzn P)) s x h = res at hr
      have hh : ∀ ob v, res ≠ .pure ob v := by
        rintro ob v rfl
        unfold evAppend at he
        repeat (split at he <;> try cases he)
        rename_i e z by_ zn _ _ _ _
        cases hb : (tnoint P xt && decide (1 ≤ z) && zn == z) with
        | false => rw [hb] at he; cases he
        | true =>
          rw [hb] at he
          simp only [cond_true] at he
          unfold appRes at he
          repeat (split at he <;> try cases he)
      cases res with
      | fail => cases hr
      | pure ob v => exact absurd rfl (hh ob v)
      | heap ob v h' =>
        simp only [AR.out, Option.some.injEq, Prod.mk.injEq] at hr
        obtain ⟨rfl, rfl, rfl⟩ := hr
        obtain ⟨r, E', q1, q2, q3, q4⟩ := append_sound (ty := ty) H hu1 hu2 he hob
        exact ⟨r, E', by simp only [builtin, Sem.run_bind, q1, Result.andThen_ok, Sem.run_pure], q2, q3, q4⟩
    · cases hr
  · unfold evMin at hr
    split at hr
    · rename_i k x k' y
      obtain ⟨u1, u2, rfl, hu1, hu2⟩ := FR_two F
      obtain rfl := VR_int hu1
      obtain rfl := VR_int hu2
      cases hk : (k == k') with
      | false => rw [hk] at hr; cases hr
      | true =>
        rw [hk] at hr
        simp only [cond_true, AR.out, Option.some.injEq, Prod.mk.injEq] at hr
        obtain ⟨rfl, rfl, rfl⟩ := hr
        exact ⟨.int k (minI x y), E, by simp [builtin, Builtin.min_, Builtin.min2, minI], Ext.refl _ _, H, .int _ _⟩
    · cases hr
  · unfold evMax at hr
    split at hr
    · rename_i k x k' y
      obtain ⟨u1, u2, rfl, hu1, hu2⟩ := FR_two F
      obtain rfl := VR_int hu1
      obtain rfl := VR_int hu2
      cases hk : (k == k') with
      | false => rw [hk] at hr; cases hr
      | true =>
        rw [hk] at hr
        simp only [cond_true, AR.out, Option.some.injEq, Prod.mk.injEq] at hr
        obtain ⟨rfl, rfl, rfl⟩ := hr
        exact ⟨.int k (maxI x y), E, by simp [builtin, Builtin.max_, Builtin.max2, maxI], Ext.refl _ _, H, .int _ _⟩
    · cases hr
  · cases hr
end Go.Am
