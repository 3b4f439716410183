/-
  The abstract machine, part 15: regions that draw their order and only read.
-/
import Derived.Test.YtpnhehcncljhpaaAm14
import Derived.Deep.Quiet
namespace Go.Am
set_option linter.unusedVariables false
variable {P : Program} {E : Env} {h : List ABlk}

/-- An operation that leaves the abstract heap alone and is no call: one value, in every world that keeps what stands. -/
theorem op_still {sh : TypeId → Option (List Leaf)} {ct : Ct} (S : ShOk P sh) {t : List AV} {o : Oper} {a : Act} {ob : Prop} {v : AV}
    (H : HR E h) (F : FR E t a.tmps) (hr : evO P sh ct t h o.op = .pure ob v) (hob : ob) (hog : ogOp t o.op) (hcall : ∀ f xs ts, o.op ≠ .call ⟨.value f, xs, ts⟩) :
    ∃ r, (∀ w1 : World, (∀ k, k < E.w.heap.size → w1.heap[k]? = E.w.heap[k]?) → (execOp a.eval o).run P w1 = .ok (.value r) w1) ∧ VR E v r := by
  obtain ⟨dst, op, ty, pos, after, guard⟩ := o
  have pO_eq : ∀ {r : AR}, pO r = .pure ob v → r = .pure ob v := by
    intro r h1
    cases r <;> simp only [pO, reduceCtorEq, AR.pure.injEq] at h1 ⊢
    exact h1
  have hO_eq : ∀ {r : AR}, hO r = .pure ob v → False := by
    intro r h1
    cases r <;> simp only [hO, reduceCtorEq] at h1
  have ex : ∀ (s : Sem Value), (∃ r, (∀ w, s.run P w = .ok r w) ∧ VR E v r) → ∃ r, (∀ w1 : World, (∀ k, k < E.w.heap.size → w1.heap[k]? = E.w.heap[k]?) → (do pure (.value (← s)) : Sem Next).run P w1 = .ok (.value r) w1) ∧ VR E v r := by
    rintro s ⟨r, h1, h2⟩
    exact ⟨r, fun w _ => by rw [Sem.run_bind, h1]; rfl, h2⟩
  cases op
  case move x =>
    simp only [evO, AR.pure.injEq] at hr
    obtain ⟨rfl, rfl⟩ := hr
    exact ⟨_, fun _ _ => rfl, rho_sound F hog⟩
  case assign x =>
    simp only [evO, AR.pure.injEq] at hr
    obtain ⟨rfl, rfl⟩ := hr
    exact ⟨_, fun _ _ => rfl, rho_sound F hog⟩
  case pick c x y =>
    simp only [evO] at hr
    simp only [ogOp] at hog
    obtain ⟨hc, hog⟩ := hog
    cases hb : rho t c with
    | bool b =>
      rw [hb] at hog hr
      simp only [ogC] at hog
      obtain ⟨r, h1, h2⟩ := pick_sound (P := P) (by rw [← hb]; exact rho_sound F hc) rfl (fun e => rho_sound F (hog.1 e)) (fun e => rho_sound F (hog.2 e)) hr
      exact ⟨r, fun w _ => h1 w, h2⟩
    | _ => rw [hb] at hog; exact hog.elim
  case build y ps => exact ex _ (build_sound (P := P) (η := a.eval) (fun p hp => rho_sound F (ogP_mem hog p hp)) (pO_eq hr))
  case load y x =>
    obtain ⟨r, h1, h2⟩ := load_sound (P := P) H (rho_sound F hog) (pO_eq hr) hob
    refine ⟨r, fun w hw => ?_, h2⟩
    show (do pure (.value (← Instr.loadAt y (a.eval x))) : Sem Next).run P w = _
    rw [Sem.run_bind, h1 w hw]; rfl
  case nilCheck x =>
    have hr := pO_eq hr
    have hx := rho_sound F hog
    unfold evNil at hr
    split at hr
    · rename_i e
      rw [e] at hx
      injection hr with q1 q2; subst q2
      rw [e]
      have hx' := hx
      generalize ha : a.eval x = u at hx hx'
      cases hx
      exact ⟨_, fun w _ => by simp only [execOp, ha]; rfl, hx'⟩
    · rename_i e
      rw [e] at hx
      injection hr with q1 q2; subst q2
      rw [e]
      have hx' := hx
      generalize ha : a.eval x = u at hx hx'
      cases hx
      exact ⟨_, fun w _ => by simp only [execOp, ha]; rfl, hx'⟩
    · rename_i e
      rw [e] at hx
      injection hr with q1 q2; subst q2
      rw [e]
      have hx' := hx
      generalize ha : a.eval x = u at hx hx'
      cases hx
      exact ⟨_, fun w _ => by simp only [execOp, ha]; rfl, hx'⟩
    · cases hr
  case binOp op y x z yt => exact ex _ (bin_sound S (rho_sound F hog.1) (rho_sound F hog.2) (xo := x) (yo := z) (pO_eq hr) hob)
  case unOp op y x => exact ex _ (un_sound (P := P) (rho_sound F hog) (pO_eq hr))
  case convert s d x =>
    obtain ⟨r, h1, h2⟩ := conv2_sound (P := P) H (rho_sound F hog) (cvO_pure hr) hob
    refine ⟨r, fun w hw => ?_, h2⟩
    show (do pure (.value (← convert s d (a.eval x))) : Sem Next).run P w = _
    rw [Sem.run_bind, h1 w hw]; rfl
  case makeFunc fn first captured =>
    simp only [evO] at hr
    unfold evFn at hr
    split at hr
    · rename_i f hf
      simp only [AR.pure.injEq] at hr
      obtain ⟨rfl, rfl⟩ := hr
      have hfe : first = #[] := by obtain ⟨l⟩ := first; simp at hf; rw [hf]
      subst hfe
      obtain ⟨q1, q2⟩ := FR_mapR F (xs := captured) hog
      exact ⟨.func (.func f) #[] (captured.map a.eval), fun w _ => by simp only [execOp, Instr.makeFunc, Sem.run_bind, Sem.run_pure, Result.andThen_ok, Array.map_empty], .fn f _ _ q1 q2⟩
    · cases hr
  case slice y x lo hi mx => exact ex _ (slice2_sound (P := P) (rho_sound F hog.1) (vro F hog.2.1) (vro F hog.2.2.1) (vro F hog.2.2.2) (pO_eq hr) hob)
  case fieldAddr s x f => exact ex _ (fieldAddr_sound (P := P) (rho_sound F hog) (pO_eq hr) hob)
  case field s x f => exact ex _ (field_sound (P := P) (rho_sound F hog) (pO_eq hr) hob)
  case indexAddr y x i => exact ex _ (indexAddr_sound (P := P) (rho_sound F hog.1) (rho_sound F hog.2) (pO_eq hr) hob)
  case index y x i => exact ex _ (index2_sound (P := P) (rho_sound F hog.1) (rho_sound F hog.2) (pO_eq hr) hob)
  case extract x i => exact ex _ (extract_sound (P := P) (rho_sound F hog) (pO_eq hr) hob)
  case call c =>
    obtain ⟨callee, args, argTypes⟩ := c
    simp only [evO] at hr
    have hargs := FR_mapR F (xs := args) hog.2
    unfold evCall at hr
    cases callee with
    | invoke r m => cases hr
    | value f => exact absurd rfl (hcall f args argTypes)
    | builtin b =>
      simp only at hr
      have fin : ∀ r, (∀ w1 : World, (builtin b argTypes ty (args.map fun | .const _ => true | _ => false) (args.map a.eval)).run P w1 = .ok (.value r) w1) → VR E v r → ∃ r, (∀ w1 : World, (∀ k, k < E.w.heap.size → w1.heap[k]? = E.w.heap[k]?) → (execOp a.eval ⟨dst, .call ⟨.builtin b, args, argTypes⟩, ty, pos, after, guard⟩).run P w1 = .ok (.value r) w1) ∧ VR E v r := by
        intro r h1 h2
        refine ⟨r, fun w _ => ?_, h2⟩
        show (do let d ← resolve a.eval ⟨.builtin b, args, argTypes⟩ ty; invoke d.target d.args : Sem Next).run P w = _
        simp only [resolve, Sem.run_bind, Sem.run_pure, Result.andThen_ok, invoke]
        exact h1 w
      obtain ⟨ts⟩ := argTypes
      unfold evBuiltin at hr
      split at hr
      · split at hr
        · rename_i ts l t' x e1 e2
          simp only at e1; subst e1
          rw [e2] at hargs
          obtain ⟨u, hu, hv⟩ := FR_one hargs
          obtain ⟨r, q1, q2⟩ := len_sound (ty := ty) hv hr
          exact fin r (fun w => by rw [hu]; simp only [builtin, Sem.run_bind, q1, Result.andThen_ok, Sem.run_pure]) q2
        · cases hr
      · split at hr
        · exact absurd hr appB_np
        · cases hr
      · split at hr
        · exact absurd hr evCopy_np
        · cases hr
      · split at hr
        · exact absurd hr evClear_np
        · cases hr
      · split at hr
        · rename_i ts l t' x e1 e2
          simp only at e1; subst e1
          rw [e2] at hargs
          obtain ⟨u, hu, hv⟩ := FR_one hargs
          obtain ⟨r, q1, q2⟩ := cap_sound (ty := ty) hv hr
          exact fin r (fun w => by rw [hu]; simp only [builtin, Sem.run_bind, q1, Result.andThen_ok, Sem.run_pure]) q2
        · cases hr
      · unfold evMin at hr
        split at hr
        · rename_i k x k' y e2
          rw [e2] at hargs
          obtain ⟨u1, u2, hu, hu1, hu2⟩ := FR_two hargs
          obtain rfl := VR_int hu1
          obtain rfl := VR_int hu2
          cases hk : (k == k') with
          | false => rw [hk] at hr; cases hr
          | true =>
            rw [hk] at hr
            simp only [cond_true, AR.pure.injEq] at hr
            obtain ⟨rfl, rfl⟩ := hr
            exact fin (.int k (minI x y)) (fun w => by rw [hu]; simp [builtin, Builtin.min_, Builtin.min2, minI]) (.int _ _)
        · cases hr
      · unfold evMax at hr
        split at hr
        · rename_i k x k' y e2
          rw [e2] at hargs
          obtain ⟨u1, u2, hu, hu1, hu2⟩ := FR_two hargs
          obtain rfl := VR_int hu1
          obtain rfl := VR_int hu2
          cases hk : (k == k') with
          | false => rw [hk] at hr; cases hr
          | true =>
            rw [hk] at hr
            simp only [cond_true, AR.pure.injEq] at hr
            obtain ⟨rfl, rfl⟩ := hr
            exact fin (.int k (maxI x y)) (fun w => by rw [hu]; simp [builtin, Builtin.max_, Builtin.max2, maxI]) (.int _ _)
        · cases hr
      · cases hr
  all_goals first | exact (hO_eq hr).elim | (simp only [evO] at hr; cases hr)

theorem op_quiet {sh : TypeId → Option (List Leaf)} {ct : Ct} (S : ShOk P sh) (C : CtOk P ct) {t : List AV} {o : Oper} {a : Act} {ob : Prop} {v : AV}
    (H : HR E h) (F : FR E t a.tmps) (hr : evO P sh ct t h o.op = .pure ob v) (hob : ob) (hog : ogOp t o.op) :
    ∃ r, (∀ w1, Same E.w w1 → o.quietAt P a (Same E.w) w1 r) ∧ VR E v r := by
  by_cases hcall : ∀ f xs ts, o.op ≠ .call ⟨.value f, xs, ts⟩
  · obtain ⟨r, h1, h2⟩ := op_still S H F hr hob hog hcall
    refine ⟨r, fun w1 hw => ?_, h2⟩
    unfold Oper.quietAt
    rw [h1 w1 hw.old]
    exact ⟨rfl, rfl⟩
  · have : ∃ f xs ts, o.op = .call ⟨.value f, xs, ts⟩ := Classical.byContradiction fun hn => hcall fun f xs ts e => hn ⟨f, xs, ts, e⟩
    obtain ⟨f, args, argTypes, e⟩ := this
    obtain ⟨dst, op, ty, pos, after, guard⟩ := o
    simp only at e
    subst e
    simp only [evO] at hr
    have hargs := FR_mapR F (xs := args) hog.2
    unfold evCall at hr
    simp only at hr
    have hf := rho_sound F hog.1
    cases hg : rho t f with
    | fn g caps =>
      rw [hg] at hr hf
      simp only at hr
      generalize ha : a.eval f = u at hf
      cases hf with
      | fn g caps vs hl hh =>
      rcases C g with hC | ⟨hE, _, hC⟩ | hC
      · rw [hC] at hr; cases hr
      · have hcall : ∀ w1, Same E.w w1 → Calls P g (args.map a.eval ++ vs) w1 (RetP w1 v) := by
          intro w1 hw
          obtain ⟨H1, X1⟩ := HR_same H hw
          exact hC { E with w := w1 } h _ _ ob v H1 (FR_mono (X1.keep H) (FR_append hargs ⟨hl, hh⟩)) hr hob
        cases hc : conc v with
        | some r =>
          refine ⟨r, fun w1 hw => ?_, conc_mk hc⟩
          unfold Oper.quietAt
          have : (execOp a.eval ⟨dst, .call ⟨.value f, args, argTypes⟩, ty, pos, after, guard⟩).run P w1 = .ok (.enter g (args.map a.eval ++ vs)) w1 := by
            show (do let d ← resolve a.eval ⟨.value f, args, argTypes⟩ ty; invoke d.target d.args : Sem Next).run P w1 = _
            simp only [resolve, Sem.run_bind, Deferred.ofValue, ha, Sem.run_pure, Result.andThen_ok, invoke, Array.empty_append]
            exact run_callFunc hE _
          rw [this]
          refine ⟨rfl, (hcall w1 hw).mono ?_⟩
          rintro e w'' ⟨u', rfl, q1, q2⟩
          rw [hc] at q1
          injection q1 with q1
          subst q1
          exact ⟨rfl, ⟨q2.os.trans hw.os, q2.tape.trans hw.tape, q2.output.trans hw.output, Nat.le_trans hw.size q2.size, fun k hk => (q2.old k (Nat.lt_of_lt_of_le hk hw.size)).trans (hw.old k hk)⟩⟩
        | none =>
          exfalso
          obtain ⟨e, w', fr, ⟨u', _, q1, _⟩, _⟩ := hcall E.w ⟨rfl, rfl, rfl, Nat.le_refl _, fun _ _ => rfl⟩ []
          rw [hc] at q1
          cases q1
      · obtain ⟨r, h1, h2, _⟩ := (hC E h _ _ H (FR_append hargs ⟨hl, hh⟩)).2 _ _ hr hob
        refine ⟨r, fun w1 hw => ?_, h2 E⟩
        obtain ⟨H1, X1⟩ := HR_same H hw
        obtain ⟨r', h1', _, hrun⟩ := (hC { E with w := w1 } h _ _ H1 (FR_mono (X1.keep H) (FR_append hargs ⟨hl, hh⟩))).2 _ _ hr hob
        rw [h1] at h1'
        injection h1' with h1'
        subst h1'
        unfold Oper.quietAt
        have : (execOp a.eval ⟨dst, .call ⟨.value f, args, argTypes⟩, ty, pos, after, guard⟩).run P w1 = .ok (.value r) w1 := by
          show (do let d ← resolve a.eval ⟨.value f, args, argTypes⟩ ty; invoke d.target d.args : Sem Next).run P w1 = _
          simp only [resolve, Sem.run_bind, Deferred.ofValue, ha, Sem.run_pure, Result.andThen_ok, invoke, Array.empty_append]
          exact hrun
        rw [this]
        exact ⟨rfl, rfl⟩
    | _ => rw [hg] at hr; cases hr

def nxtQ (g : GV) (r : AR) (og : Prop) (d : Option Nat) (t : List AV) (F : List AV → Prop) : Prop := match g with
  | .none => match r with
    | .pure ob v => og ∧ ob ∧ F (setT t d v)
    | _ => False
  | .g b => match r with
    | .pure ob v => (b = true → og ∧ ob) ∧ F (setT t d (.opt b v))
    | _ => b = false ∧ F (setT t d (.opt false .top))
  | .bad => False
def wpQ (P : Program) (sh : TypeId → Option (List Leaf)) (ct : Ct) (all : List Oper) (K : Kt) (h : List ABlk) : List Oper → List AV → Prop
  | [], t => K .normal t h
  | o :: r, t => nxtQ (gval t all o.guard) (evO P sh ct t h o.op) (ogOp t o.op) o.dst t (wpQ P sh ct all K h r)

theorem wpQ_sound {sh : TypeId → Option (List Leaf)} {ct : Ct} (S : ShOk P sh) (C : CtOk P ct) {ops : Array Oper} {K : Kt} {Q : Act → Prop} (H : HR E h) (l : List Oper) :
    ∀ (t : List AV) (a : Act), FR E t a.tmps → a.defers = [] → wpQ P sh ct ops.toList K h l t →
      (∀ (t' : List AV) (a' : Act), K .normal t' h → FR E t' a'.tmps → a'.defers = [] → Q a') → wpQuiet P ops (Same E.w) Q l a := by
  induction l with
  | nil => exact fun t a F hd hw hQ => hQ t a hw F hd
  | cons o l ih =>
    intro t a F hd hw hQ
    obtain ⟨g1, g2⟩ := gval_sound (ops := ops) rfl (o := o) F
    simp only [wpQ] at hw
    have put_defers : ∀ d v, (a.put d v).defers = [] := by
      intro d v
      cases d with
      | none => exact hd
      | some d => exact hd
    have run : ∀ ob v, evO P sh ct t h o.op = .pure ob v → ogOp t o.op → ob → ∀ x, (∀ r, VR E v r → VR E x r) → wpQ P sh ct ops.toList K h l (setT t o.dst x) → o.quiet P a (Same E.w) (wpQuiet P ops (Same E.w) Q l) := by
      intro ob v hr hog hob x hx hw
      obtain ⟨r, h1, h2⟩ := op_quiet S C H F hr hob hog
      exact ⟨r, h1, ih _ _ (FR_put F (hx _ h2) o.dst) (put_defers _ _) hw hQ⟩
    have skip : ∀ x, wpQ P sh ct ops.toList K h l (setT t o.dst (.opt false x)) → wpQuiet P ops (Same E.w) Q l (a.put o.dst undef) := fun x hw =>
      ih _ _ (FR_put F (.opt_f x) o.dst) (put_defers _ _) hw hQ
    unfold wpQuiet
    unfold nxtQ at hw
    split at hw
    · rename_i hg
      rw [if_pos (g1 hg)]
      split at hw
      · rename_i ob v hr; exact run ob v hr hw.1 hw.2.1 v (fun _ h => h) hw.2.2
      · exact hw.elim
    · rename_i b hg
      rw [g2 b hg]
      split at hw
      · rename_i ob v hr
        cases b with
        | true => rw [if_pos rfl]; exact run ob v hr (hw.1 rfl).1 (hw.1 rfl).2 _ (fun r h => .opt_t v r h) hw.2
        | false => rw [if_neg (by simp)]; exact skip _ hw.2
      · obtain ⟨rfl, hw⟩ := hw
        rw [if_neg (by simp)]
        exact skip _ hw
    · exact hw.elim

theorem draw_quiet {sh : TypeId → Option (List Leaf)} {ct : Ct} (S : ShOk P sh) (C : CtOk P ct) {id : Nat} {ops : Array Oper} {K : Kt} {t : List AV} (hm : P.follows .mixedOrders = true) (hB : Region.lexB .any ops = true)
    (hw : wpQ P sh ct ops.toList K h ops.toList t) : Mean P (.region id ops true) K t h := by
  intro E a Q H F hd hQ
  refine wp_region_quiet (C := Same E.w) hm hB ⟨rfl, rfl, rfl, Nat.le_refl _, fun _ _ => rfl⟩ ?_
  refine wpQ_sound S C H ops.toList t a F hd hw fun t' a' hk F' hd' w' hw' => ?_
  obtain ⟨H1, X1⟩ := HR_same H hw'
  exact hQ .normal { E with w := w' } a' t' h hk X1 H1 (FR_mono (X1.keep H) F') hd'
end Go.Am
