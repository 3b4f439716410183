/-
  The abstract machine, part 10: every operation, and a region in the order of the text.
-/
import Derived.Test.YtpgcekjnpieibaaAm9
namespace Go.Am
set_option linter.unusedVariables false
variable {P : Program} {E : Env} {h : List ABlk}

/-! ### Stores -/
theorem store_sound {t : TypeId} {p x v : AV} {u ux : Value} {ob : Prop} {h' : List ABlk} (H : HR E h) (hp : VR E p u) (hx : VR E x ux) (hr : evStore (tsz P t) p x h = .heap ob v h') (hob : ob) :
    ∃ E', (Instr.storeAt t u ux).run P E.w = .ok () E'.w ∧ Ext E h E' h' ∧ HR E' h' ∧ v = .top := by
  unfold evStore at hr
  split at hr
  · rename_i m b es i j hz
    cases hp with
    | ptr b es i j k o hσ =>
    generalize hst : stB (geth h b) (vcells x) es i j = res at hr
    cases res with
    | none => cases hr
    | some q =>
    obtain ⟨ob', x'⟩ := q
    simp only [stRes] at hr
    cases hok : ((vcells x).length == m && vcOk x) with
    | false => rw [hok] at hr; cases hr
    | true =>
    rw [hok] at hr
    simp only [cond_true, AR.heap.injEq] at hr
    obtain ⟨rfl, rfl, rfl⟩ := hr
    simp only [Bool.and_eq_true, beq_iff_eq] at hok
    obtain ⟨hm, hok⟩ := hok
    obtain ⟨c1, c2⟩ := VR_cells hok hx
    have hlen : ux.cells.toList.length = (vcells x).length := by simpa using c1
    have hone : ∀ w ∈ ux.cells.toList, w.oneCell' = true := by
      intro w hw
      obtain ⟨q, hq, e⟩ := List.getElem_of_mem hw
      have hq' : q < (vcells x).length := by omega
      obtain ⟨w', e1, e2, _⟩ := c2 q _ (getL_some hq')
      have : ux.cells[q]? = some w := by rw [← e]; simp
      rw [this] at e1; injection e1 with e1; rw [e1]; exact e2
    have hd : geth h b ≠ .dead := by
      intro hd; rw [hd] at hst; cases hst
    have hb := geth_some hd
    have hB := H.blk b _ hb
    have run : ∀ (cs : Array Value) (e : TypeId), E.w.heap[k]? = some (.cells cs e (0, 0)) → o + i * es + j + (vcells x).length ≤ cs.size →
        BR { E with w := putRow E.w k (splice cs (o + i * es + j) ux.cells.toList) e } b x' →
        ∃ E', (Instr.storeAt t (.pointer (some ⟨k, o + i * es + j, none⟩)) ux).run P E.w = .ok () E'.w ∧ Ext E h E' (seth h b x') ∧ HR E' (seth h b x') ∧ AV.top = .top := by
      intro cs e hk hfit hbr
      have hsz : (splice cs (o + i * es + j) ux.cells.toList).size = cs.size := splice_size (by omega)
      obtain ⟨H1, X1⟩ := put_HR H hb hd hσ hk hsz hbr
      rw [← seth_set] at H1 X1
      refine ⟨_, ?_, X1, H1, rfl⟩
      have := run_storeVar (P := P) (o := o + i * es + j) hz (by rw [c1, hm]) hk (by rw [c1]; omega) hone
      simp only [Instr.storeAt, Instr.sureAddr, Sem.run_bind, Sem.run_pure, Result.andThen_ok]
      exact this
    cases hg : geth h b with
    | dead => exact absurd hg hd
    | lit e l =>
      rw [hg] at hst hB
      simp only [stB, Option.some.injEq, Prod.mk.injEq] at hst
      obtain ⟨rfl, rfl⟩ := hst
      obtain ⟨k', o', cs, g1, g2, g3, g4⟩ := hB
      rw [hσ] at g1; cases g1
      have K := keep_put H (cs' := splice cs (o + i * es + j) ux.cells.toList) ⟨b, _, o, hb, hd, hσ⟩ g2 (splice_size (by omega))
      refine run cs e g2 (by omega) ⟨k, o, _, hσ, putRow_same (lt_of_some g2), by rw [splice_size (by omega), putL_length]; exact g3, fun q a hq => ?_⟩
      have hql : q < l.length := by
        rcases Nat.lt_or_ge q l.length with h1 | h1
        · exact h1
        · rw [List.getElem?_eq_none (by rw [putL_length]; exact h1)] at hq; cases hq
      rw [putL_get _ _ _ _ hql] at hq
      rw [splice_get (by omega)]
      by_cases hin : i * es + j ≤ q ∧ q < i * es + j + (vcells x).length
      · rw [if_pos hin] at hq
        rw [if_pos (by omega)]
        obtain ⟨w, e1, e2, e3⟩ := c2 _ _ hq
        refine ⟨w, ?_, e2, e3.mono K⟩
        rw [show o + q - (o + i * es + j) = q - (i * es + j) from by omega]
        simpa using e1
      · rw [if_neg hin] at hq
        rw [if_neg (by omega)]
        obtain ⟨w, e1, e2, e3⟩ := g4 q a hq
        exact ⟨w, e1, e2, e3.mono K⟩
    | row e es' n c =>
      rw [hg] at hst hB
      simp only [stB, Option.some.injEq, Prod.mk.injEq] at hst
      obtain ⟨rfl, rfl⟩ := hst
      obtain ⟨rfl, hin, hjn⟩ := hob
      have hB' := hB
      unfold BR at hB'
      rw [hσ] at hB'
      obtain ⟨cs, g2, g3, g4⟩ := hB'
      have hbd : i * es' + j + (vcells x).length ≤ n * es' := by
        have : (i + 1) * es' ≤ n * es' := Nat.mul_le_mul_right _ hin
        rw [Nat.succ_mul] at this; omega
      have K := keep_put H (cs' := splice cs (o + i * es' + j) ux.cells.toList) ⟨b, _, o, hb, hd, hσ⟩ g2 (splice_size (by omega))
      refine run cs e g2 (by omega) ?_
      unfold BR
      rw [show ({ E with w := putRow E.w k (splice cs (o + i * es' + j) ux.cells.toList) e } : Env).σ b = some (k, o) from hσ]
      refine ⟨_, putRow_same (lt_of_some g2), by rw [splice_size (by omega)]; exact g3, fun a y ha hy => ?_⟩
      rw [splice_get (by omega)]
      by_cases hin' : a = i ∧ j ≤ y ∧ y < j + (vcells x).length
      · obtain ⟨rfl, h1, h2⟩ := hin'
        rw [if_pos (by omega)]
        obtain ⟨w, e1, e2, e3⟩ := c2 (y - j) _ (getL_some (by omega))
        refine ⟨w, ?_, e2, ?_⟩
        · rw [show o + a * es' + y - (o + a * es' + j) = y - j from by omega]; simpa using e1
        · simp only [upc]; rw [if_pos ⟨trivial, h1, h2⟩]; exact e3.mono K
      · have hout : ¬ (o + i * es' + j ≤ o + a * es' + y ∧ o + a * es' + y < o + i * es' + j + ux.cells.toList.length) := by
          rintro ⟨h1, h2⟩
          rcases Nat.lt_trichotomy a i with h3 | h3 | h3
          · have : (a + 1) * es' ≤ i * es' := Nat.mul_le_mul_right _ h3
            rw [Nat.succ_mul] at this; omega
          · subst h3; exact hin' ⟨rfl, by omega, by omega⟩
          · have : (i + 1) * es' ≤ a * es' := Nat.mul_le_mul_right _ h3
            rw [Nat.succ_mul] at this; omega
        rw [if_neg hout]
        obtain ⟨w, e1, e2, e3⟩ := g4 a y ha hy
        refine ⟨w, e1, e2, ?_⟩
        simp only [upc]; rw [if_neg hin']; exact e3.mono K
  · cases hr

def rhoO (t : List AV) : Option Operand → Option AV
  | none => none
  | some x => some (rho t x)
def evCall (P : Program) (ct : Ct) (t : List AV) (h : List ABlk) (c : Call) : AR := match c.callee with
  | .value f => match rho t f with
    | .fn g caps => ct g (mapR t c.args.toList ++ caps) h
    | _ => .fail
  | .builtin b => evBuiltin P b c.argTypes.toList (mapR t c.args.toList) h
  | .invoke _ _ => .fail
def evFn (t : List AV) (fn : Fn) (first captured : List Operand) : AR := match fn, first with
  | .func f, [] => .pure True (.fn f (mapR t captured))
  | _, _ => .fail
/-- One operation. -/
def evO (P : Program) (sh : TypeId → Option (List Leaf)) (ct : Ct) (t : List AV) (h : List ABlk) : Op → AR
  | .move x => .pure True (rho t x)
  | .assign x => .pure True (rho t x)
  | .pick c a b => evPick (rho t c) (rho t a) (rho t b)
  | .alloc e => hO (evAlloc e (tzero P e) h)
  | .box e x => hO (evBox e (rho t x) h)
  | .build y ps => pO (evBuild (tplaces P y) (tarr P y) ((tarr P y).bind fun q => tsz P q.2) (tzero P y) (rho t) ps.toList)
  | .buildSlice y n ps => hO (evBuildSlice (tslice P y) ((tslice P y).bind (tsz P)) ((tslice P y).bind (tzero P)) n (rho t) ps.toList h)
  | .load y a => pO (evLoad (tagg P y) (tsz P y) (rho t a) h)
  | .store y a x => hO (evStore (tsz P y) (rho t a) (rho t x) h)
  | .nilCheck x => pO (evNil (rho t x))
  | .binOp op y a b _ => pO (evBin2 (tbool P y) (tslice P y) (sh y) op (rho t a) (rho t b))
  | .unOp op _ x => pO (evUn op (rho t x))
  | .convert s d x => pO (evConv (tany P s) (tint P d) (rho t x))
  | .makeFunc fn first captured => evFn t fn first.toList captured.toList
  | .makeSlice y n c => hO (evMake (tslice P y) ((tslice P y).bind (tsz P)) ((tslice P y).bind (tby P)) ((tslice P y).bind (tzero P)) (rho t n) (rho t c) h)
  | .slice y x lo hi mx => pO (evSlice (tslice P y) (tarr P y) (((tslice P y).or ((tarr P y).map (·.2))).bind (tsz P)) (rho t x) (rhoO t lo) (rhoO t hi) (rhoO t mx))
  | .fieldAddr s x f => pO (evFieldAddr (tfld P s f) (rho t x))
  | .field s x f => pO (evField ((tfld P s f).bind fun q => tagg P q.1) (tfld P s f) (rho t x))
  | .indexAddr y x i => pO (evIndexAddr (tslice P y) (tarr P y) (((tslice P y).or ((tarr P y).map (·.2))).bind (tsz P)) (rho t x) (rho t i))
  | .index y x i => pO (evIndex ((tarr P y).bind fun q => tagg P q.2) (tarr P y) ((tarr P y).bind fun q => tsz P q.2) (rho t x) (rho t i))
  | .extract x i => pO (evExtract (rho t x) i)
  | .call c => evCall P ct t h c
  | _ => .fail
/-- Its operands are there. -/
def ogC (t : List AV) : AV → Operand → Operand → Prop
  | .bool c, a, b => (c = true → og t a) ∧ (c = false → og t b)
  | _, _, _ => False
def ogOp (t : List AV) : Op → Prop
  | .move x => og t x
  | .assign x => og t x
  | .pick c a b => og t c ∧ ogC t (rho t c) a b
  | .box _ x => og t x
  | .build _ ps => ogP t ps.toList
  | .buildSlice _ _ ps => ogP t ps.toList
  | .load _ a => og t a
  | .store _ a x => og t a ∧ og t x
  | .nilCheck x => og t x
  | .binOp _ _ a b _ => og t a ∧ og t b
  | .unOp _ _ x => og t x
  | .convert _ _ x => og t x
  | .makeFunc _ _ c => ogL t c.toList
  | .makeSlice _ n c => og t n ∧ og t c
  | .slice _ x lo hi mx => og t x ∧ ogO t lo ∧ ogO t hi ∧ ogO t mx
  | .fieldAddr _ x _ => og t x
  | .field _ x _ => og t x
  | .indexAddr _ x i => og t x ∧ og t i
  | .index _ x i => og t x ∧ og t i
  | .extract x _ => og t x
  | .call c => (match c.callee with
    | .value f => og t f
    | _ => True) ∧ ogL t c.args.toList
  | _ => True

theorem vro {t : List AV} {a : Act} (F : FR E t a.tmps) {x : Option Operand} (ho : ogO t x) : VRO E (rhoO t x) (x.map a.eval) := by
  cases x with
  | none => trivial
  | some x => exact rho_sound F ho

theorem fin_pure {o : Oper} {a : Act} {K : Act → World → Prop} {Q : Exit → Act → World → Prop} {r : Value} {v : AV} (H : HR E h) (hrun : (execOp a.eval o).run P E.w = .ok (.value r) E.w) (hv : VR E v r)
    (next : ∀ r E', Ext E h E' h → HR E' h → VR E' v r → K (a.put o.dst r) E'.w) : o.wp P a E.w K Q := by
  unfold Oper.wp
  rw [hrun]
  exact next r E (Ext.refl _ _) H hv
theorem fin_heap {o : Oper} {a : Act} {K : Act → World → Prop} {Q : Exit → Act → World → Prop} {v : AV} {h' : List ABlk}
    (hrun : ∃ r E', (execOp a.eval o).run P E.w = .ok (.value r) E'.w ∧ Ext E h E' h' ∧ HR E' h' ∧ VR E' v r)
    (next : ∀ r E', Ext E h E' h' → HR E' h' → VR E' v r → K (a.put o.dst r) E'.w) : o.wp P a E.w K Q := by
  obtain ⟨r, E', h1, h2, h3, h4⟩ := hrun
  unfold Oper.wp
  rw [h1]
  exact next r E' h2 h3 h4

theorem run_callFunc {f : FuncId} {args : Array Value} (hf : Enters P f) (w : World) : (callFunc f args).run P w = .ok (.enter f args) w := by
  obtain ⟨fn, h1, h2, h3⟩ := hf
  simp only [callFunc, program, bind, Sem.bind, Sem.run, h1, h2, h3, Bool.false_eq_true, if_false]
  rfl

theorem op_sound {sh : TypeId → Option (List Leaf)} {ct : Ct} (S : ShOk P sh) (C : CtOk P ct) {t : List AV} {o : Oper} {a : Act} {K : Act → World → Prop} {Q : Exit → Act → World → Prop} {ob : Prop} {v : AV} {h' : List ABlk}
    (H : HR E h) (F : FR E t a.tmps) (hr : (evO P sh ct t h o.op).out h = some (ob, v, h')) (hob : ob) (hog : ogOp t o.op)
    (next : ∀ r E', Ext E h E' h' → HR E' h' → VR E' v r → K (a.put o.dst r) E'.w) : o.wp P a E.w K Q := by
  obtain ⟨dst, op, ty, pos, after, guard⟩ := o
  have ex : ∀ {r : Value} (s : Sem Value), (∃ r, (∀ w, s.run P w = .ok r w) ∧ VR E v r) → ∃ r, (do pure (.value (← s)) : Sem Next).run P E.w = .ok (.value r) E.w ∧ VR E v r := by
    rintro _ s ⟨r, h1, h2⟩
    exact ⟨r, by rw [Sem.run_bind, h1]; rfl, h2⟩
  cases op
  case move x =>
    simp only [evO, AR.out, Option.some.injEq, Prod.mk.injEq] at hr
    obtain ⟨rfl, rfl, rfl⟩ := hr
    exact fin_pure H rfl (rho_sound F hog) next
  case assign x =>
    simp only [evO, AR.out, Option.some.injEq, Prod.mk.injEq] at hr
    obtain ⟨rfl, rfl, rfl⟩ := hr
    exact fin_pure H rfl (rho_sound F hog) next
  case pick c x y =>
    simp only [evO] at hr
    simp only [ogOp] at hog
    obtain ⟨hc, hog⟩ := hog
    cases hb : rho t c with
    | bool b =>
      rw [hb] at hog hr
      simp only [ogC] at hog
      have hp : evPick (.bool b) (rho t x) (rho t y) = .pure ob v ∧ h' = h := by
        unfold evPick mrg at hr ⊢
        simp only at hr ⊢
        split at hr
        · simp only [AR.out, Option.some.injEq, Prod.mk.injEq] at hr
          obtain ⟨rfl, rfl, rfl⟩ := hr
          exact ⟨rfl, rfl⟩
        · cases hr
      obtain ⟨hp, rfl⟩ := hp
      obtain ⟨r, h1, h2⟩ := pick_sound (P := P) (by rw [← hb]; exact rho_sound F hc) rfl (fun e => rho_sound F (hog.1 e)) (fun e => rho_sound F (hog.2 e)) hp
      exact fin_pure H (h1 _) h2 next
    | _ => rw [hb] at hog; exact hog.elim
  case alloc e =>
    have hr := hO_out hr
    unfold evAlloc at hr
    split at hr
    · rename_i l hz
      obtain ⟨i, z, hi, hzv, habs⟩ := zero_of hz
      obtain ⟨H1, X1⟩ := alloc_HR (t := e) H habs
      injection hr with q1 q2 q3
      subst q2 q3
      exact fin_heap ⟨_, E.push h (.cells z.cells e), by
        show (do pure (.value (← Instr.alloc e true (.tuple #[]))) : Sem Next).run P E.w = _
        rw [Sem.run_bind, run_alloc hi hzv]; rfl, X1, H1, VR_push_ptr⟩ next
    · cases hr
  case box e x =>
    have hr := hO_out hr
    unfold evBox at hr
    cases hk : vcOk (rho t x) with
    | false => rw [hk] at hr; cases hr
    | true =>
      rw [hk] at hr
      injection hr with q1 q2 q3
      subst q2 q3
      obtain ⟨H1, X1⟩ := box_HR (t := e) H hk (rho_sound F hog)
      exact fin_heap ⟨_, E.push h (.cells (a.eval x).cells e), by
        show (do pure (.value (← Instr.box e (a.eval x))) : Sem Next).run P E.w = _
        rw [Sem.run_bind, run_box]; rfl, X1, H1, VR_push_ptr⟩ next
  case build y ps =>
    obtain ⟨hq, rfl⟩ := pO_out hr
    clear hr
    obtain ⟨r, h1, h2⟩ := ex (r := .nilFunc) _ (build_sound (P := P) (η := a.eval) (fun p hp => rho_sound F (ogP_mem hog p hp)) hq)
    exact fin_pure H h1 h2 next
  case buildSlice y n ps =>
    have hr := hO_out hr
    obtain ⟨r, E', h1, h2, h3, h4⟩ := buildSlice_sound (P := P) (η := a.eval) H (fun p hp => rho_sound F (ogP_mem hog p hp)) hr
    exact fin_heap ⟨r, E', by
      show (do pure (.value (← Instr.buildSlice y n (ps.map fun (i, x) => (i, a.eval x)))) : Sem Next).run P E.w = _
      rw [Sem.run_bind, h1]; rfl, h2, h3, h4⟩ next
  case load y x =>
    obtain ⟨hq, rfl⟩ := pO_out hr
    clear hr
    obtain ⟨r, h1, h2⟩ := load_sound (P := P) H (rho_sound F hog) hq hob
    refine fin_pure H ?_ h2 next
    show (do pure (.value (← Instr.loadAt y (a.eval x))) : Sem Next).run P E.w = _
    rw [Sem.run_bind, h1 _ fun _ _ => rfl]; rfl
  case store y x z =>
    have hr := hO_out hr
    obtain ⟨E', h1, h2, h3, h4⟩ := store_sound (P := P) H (rho_sound F hog.1) (rho_sound F hog.2) hr hob
    unfold Oper.wp
    have : (execOp a.eval ⟨dst, .store y x z, ty, pos, after, guard⟩).run P E.w = .ok .skip E'.w := by
      show (do Instr.storeAt y (a.eval x) (a.eval z); pure .skip : Sem Next).run P E.w = _
      rw [Sem.run_bind, h1]; rfl
    rw [this]
    subst h4
    exact next undef E' h2 h3 (.top _)
  case nilCheck x =>
    obtain ⟨hq, rfl⟩ := pO_out hr
    clear hr
    have hx := rho_sound F hog
    unfold evNil at hq
    split at hq
    · rename_i e
      rw [e] at hx
      injection hq with q1 q2; subst q2
      generalize ha : a.eval x = u at hx
      cases hx
      exact fin_pure H (by simp only [execOp, ha]; rfl) (by rw [e]; constructor; assumption) next
    · rename_i e
      rw [e] at hx
      injection hq with q1 q2; subst q2
      rw [e] at next
      have hx' := hx
      generalize ha : a.eval x = u at hx hx'
      cases hx
      exact fin_pure H (by simp only [execOp, ha]; rfl) hx' next
    · rename_i e
      rw [e] at hx
      injection hq with q1 q2; subst q2
      rw [e] at next
      have hx' := hx
      generalize ha : a.eval x = u at hx hx'
      cases hx
      exact fin_pure H (by simp only [execOp, ha]; rfl) hx' next
    · cases hq
  case binOp op y x z yt =>
    obtain ⟨hq, rfl⟩ := pO_out hr
    clear hr
    obtain ⟨r, h1, h2⟩ := ex (r := .nilFunc) _ (bin_sound S (rho_sound F hog.1) (rho_sound F hog.2) (xo := x) (yo := z) hq hob)
    exact fin_pure H h1 h2 next
  case unOp op y x =>
    obtain ⟨hq, rfl⟩ := pO_out hr
    clear hr
    obtain ⟨r, h1, h2⟩ := ex (r := .nilFunc) _ (un_sound (P := P) (rho_sound F hog) hq)
    exact fin_pure H h1 h2 next
  case convert s d x =>
    obtain ⟨hq, rfl⟩ := pO_out hr
    clear hr
    obtain ⟨r, h1, h2⟩ := ex (r := .nilFunc) _ (conv_sound (P := P) (rho_sound F hog) hq)
    exact fin_pure H h1 h2 next
  case makeFunc fn first captured =>
    simp only [evO] at hr
    unfold evFn at hr
    split at hr
    · rename_i f hf
      simp only [AR.out, Option.some.injEq, Prod.mk.injEq] at hr
      obtain ⟨rfl, rfl, rfl⟩ := hr
      have hfe : first = #[] := by obtain ⟨l⟩ := first; simp at hf; rw [hf]
      subst hfe
      obtain ⟨q1, q2⟩ := FR_mapR F (xs := captured) hog
      exact fin_pure H (r := .func (.func f) #[] (captured.map a.eval)) (by simp only [execOp, Instr.makeFunc, Sem.run_bind, Sem.run_pure, Result.andThen_ok, Array.map_empty]) (.fn f _ _ q1 q2) next
    · cases hr
  case makeSlice y n c =>
    have hr := hO_out hr
    obtain ⟨r, E', h1, h2, h3, h4⟩ := make_sound (P := P) H (rho_sound F hog.1) (rho_sound F hog.2) hr hob
    exact fin_heap ⟨r, E', by
      show (do pure (.value (← Instr.makeSlice y (a.eval n) (a.eval c))) : Sem Next).run P E.w = _
      rw [Sem.run_bind, h1]; rfl, h2, h3, h4⟩ next
  case slice y x lo hi mx =>
    obtain ⟨hq, rfl⟩ := pO_out hr
    clear hr
    obtain ⟨r, h1, h2⟩ := ex (r := .nilFunc) _ (slice_sound (P := P) (rho_sound F hog.1) (vro F hog.2.1) (vro F hog.2.2.1) (vro F hog.2.2.2) hq hob)
    exact fin_pure H h1 h2 next
  case fieldAddr s x f =>
    obtain ⟨hq, rfl⟩ := pO_out hr
    clear hr
    obtain ⟨r, h1, h2⟩ := ex (r := .nilFunc) _ (fieldAddr_sound (P := P) (rho_sound F hog) hq hob)
    exact fin_pure H h1 h2 next
  case field s x f =>
    obtain ⟨hq, rfl⟩ := pO_out hr
    clear hr
    obtain ⟨r, h1, h2⟩ := ex (r := .nilFunc) _ (field_sound (P := P) (rho_sound F hog) hq hob)
    exact fin_pure H h1 h2 next
  case indexAddr y x i =>
    obtain ⟨hq, rfl⟩ := pO_out hr
    clear hr
    obtain ⟨r, h1, h2⟩ := ex (r := .nilFunc) _ (indexAddr_sound (P := P) (rho_sound F hog.1) (rho_sound F hog.2) hq hob)
    exact fin_pure H h1 h2 next
  case index y x i =>
    obtain ⟨hq, rfl⟩ := pO_out hr
    clear hr
    obtain ⟨r, h1, h2⟩ := ex (r := .nilFunc) _ (index_sound (P := P) (rho_sound F hog.1) (rho_sound F hog.2) hq hob)
    exact fin_pure H h1 h2 next
  case extract x i =>
    obtain ⟨hq, rfl⟩ := pO_out hr
    clear hr
    obtain ⟨r, h1, h2⟩ := ex (r := .nilFunc) _ (extract_sound (P := P) (rho_sound F hog) hq hob)
    exact fin_pure H h1 h2 next
  case call c =>
    obtain ⟨callee, args, argTypes⟩ := c
    simp only [evO] at hr
    have hargs := FR_mapR F (xs := args) hog.2
    unfold evCall at hr
    cases callee with
    | invoke r m => cases hr
    | builtin b =>
      simp only at hr
      obtain ⟨r, E', h1, h2, h3, h4⟩ := bltin_sound (ty := ty) (cs := args.map fun | .const _ => true | _ => false) H hargs hr hob
      refine fin_heap ⟨r, E', ?_, h2, h3, h4⟩ next
      show (do let d ← resolve a.eval ⟨.builtin b, args, argTypes⟩ ty; invoke d.target d.args : Sem Next).run P E.w = _
      simp only [resolve, Sem.run_bind, Sem.run_pure, Result.andThen_ok, invoke]
      exact h1
    | value f =>
      simp only at hr
      have hf := rho_sound F hog.1
      cases hg : rho t f with
      | fn g caps =>
        rw [hg] at hr hf
        simp only at hr
        generalize ha : a.eval f = u at hf
        cases hf with
        | fn g caps vs hl hh =>
        rcases C g with hC | ⟨hE, hC, _⟩
        · rw [hC] at hr; cases hr
        · have hcall := hC E h _ _ ob v h' H (FR_append hargs ⟨hl, hh⟩) hr hob
          unfold Oper.wp
          have : (execOp a.eval ⟨dst, .call ⟨.value f, args, argTypes⟩, ty, pos, after, guard⟩).run P E.w = .ok (.enter g (args.map a.eval ++ vs)) E.w := by
            show (do let d ← resolve a.eval ⟨.value f, args, argTypes⟩ ty; invoke d.target d.args : Sem Next).run P E.w = _
            simp only [resolve, Sem.run_bind, Deferred.ofValue, ha, Sem.run_pure, Result.andThen_ok, invoke, Array.empty_append]
            exact run_callFunc hE _
          rw [this]
          refine Calls.mono hcall ?_
          rintro e w' ⟨u, E', rfl, rfl, q1, q2, q3⟩
          exact next u E' q1 q2 q3
      | _ => rw [hg] at hr; cases hr
  all_goals (simp only [evO] at hr; cases hr)
end Go.Am
