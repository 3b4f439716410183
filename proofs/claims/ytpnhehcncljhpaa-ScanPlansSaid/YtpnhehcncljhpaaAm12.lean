/-
  The abstract machine, part 12: functions that only read.
-/
import Derived.Test.YtpnhehcncljhpaaAm11
namespace Go.Am
set_option linter.unusedVariables false
variable {P : Program} {E : Env} {h : List ABlk}

/-! ### Results -/
def resC (P : Program) (ty : TypeId) (h : List ABlk) : AV → AR
  | .ptr b es i j => pO (evLoad (tagg P ty) (tsz P ty) (.ptr b es i j) h)
  | _ => .fail
def resA (P : Program) (t : List AV) (h : List ABlk) : ResultVar → AR
  | .tmp i => .pure (optOk (getL t i)) (strip (getL t i))
  | .cell c ty => resC P ty h (getL t c)
def resCons : AR → AR → AR
  | .pure o v, .pure o' (.tup l) => .pure (o ∧ o') (.tup (v :: l))
  | _, _ => .fail
def resL (P : Program) (t : List AV) (h : List ABlk) : List ResultVar → AR
  | [] => .pure True (.tup [])
  | r :: rs => resCons (resA P t h r) (resL P t h rs)
def resFin (R : AV → List ABlk → Prop) (h : List ABlk) : AR → Prop
  | .pure ob v => ob ∧ R v h
  | _ => False
def retK (P : Program) (rs : List ResultVar) (R : AV → List ABlk → Prop) (t : List AV) (h : List ABlk) : Prop := match rs with
  | [r] => resFin R h (resA P t h r)
  | rs => resFin R h (resL P t h rs)
def kRet (P : Program) (rs : List ResultVar) (R : AV → List ABlk → Prop) : Kt
  | .normal, t, h => retK P rs R t h
  | .ret, t, h => retK P rs R t h
  | .exit _, _, _ => False
  | .goto _, _, _ => False

def resG (a : Array Value) : ResultVar → Sem Value
  | .tmp t => pure (a.getD t undef)
  | .cell c ty => do loadVar ty (← asAddr (a.getD c undef))
theorem resA_sound (H : HR E h) {t : List AV} {a : Array Value} (F : FR E t a) {r : ResultVar} {ob : Prop} {v : AV} (hr : resA P t h r = .pure ob v) (hob : ob) : ∃ u, (resG a r).run P E.w = .ok u E.w ∧ VR E v u := by
  cases r with
  | tmp i =>
    simp only [resA, AR.pure.injEq] at hr
    obtain ⟨rfl, rfl⟩ := hr
    exact ⟨_, rfl, strip_VR (FR_get F i) hob⟩
  | cell c ty =>
    simp only [resA] at hr
    unfold resC at hr
    split at hr
    · rename_i b es i j hc
      have hv := FR_get F c
      rw [hc] at hv
      generalize hu : a.getD c undef = u at hv
      have hq : evLoad (tagg P ty) (tsz P ty) (.ptr b es i j) h = .pure ob v := by
        revert hr
        cases evLoad (tagg P ty) (tsz P ty) (.ptr b es i j) h <;> simp only [pO, AR.pure.injEq, reduceCtorEq, false_implies]
        intro h; exact h
      obtain ⟨x, h1, h2⟩ := load_sound H hv hq hob
      refine ⟨x, ?_, h2⟩
      have h3 := h1 E.w fun _ _ => rfl
      cases hv with
      | ptr b es i j k o hσ =>
        simp only [resG, hu, asAddr, Sem.run_bind, Sem.run_pure, Result.andThen_ok]
        simpa only [Instr.loadAt, Instr.sureAddr, Sem.run_bind, Sem.run_pure, Result.andThen_ok] using h3
    · cases hr
theorem resL_sound (H : HR E h) {t : List AV} {a : Array Value} (F : FR E t a) : ∀ (rs : List ResultVar) (ob : Prop) (v : AV), resL P t h rs = .pure ob v → ob →
    ∃ (l : List AV) (vs : List Value), v = .tup l ∧ l.length = vs.length ∧ rs.length = vs.length ∧ (∀ (i : Nat) (x : AV) (v : Value), l[i]? = some x → vs[i]? = some v → VR E x v) ∧ (rs.mapM (resG a)).run P E.w = .ok vs E.w := by
  intro rs
  induction rs with
  | nil =>
    intro ob v hl _
    simp only [resL, AR.pure.injEq] at hl
    obtain ⟨rfl, rfl⟩ := hl
    exact ⟨[], [], rfl, rfl, rfl, fun i x v hx => by simp at hx, rfl⟩
  | cons r rs ih =>
    intro ob v hl ho
    simp only [resL] at hl
    unfold resCons at hl
    split at hl
    · rename_i o1 v1 o2 l e1 e2
      injection hl with q1 q2
      subst q1 q2
      obtain ⟨u, h1, h2⟩ := resA_sound H F e1 ho.1
      obtain ⟨l', vs, k0, k1, k2, k3, k4⟩ := ih _ _ e2 ho.2
      injection k0 with k0; subst k0
      refine ⟨v1 :: l, u :: vs, rfl, by simp [k1], by simp [k2], fun j x w hx hw => ?_, by rw [List.mapM_cons]; simp only [Sem.run_bind, h1, Result.andThen_ok, k4, Sem.run_pure]⟩
      cases j with
      | zero => simp only [List.getElem?_cons_zero, Option.some.injEq] at hx hw; subst hx hw; exact h2
      | succ j => exact k3 j x w (by simpa using hx) (by simpa using hw)
    · cases hl
theorem run_results {fn : Func} {a : Array Value} {w : World} {vs : List Value} (hr : (fn.results.toList.mapM (resG a)).run P w = .ok vs w) :
    (results fn a).run P w = .ok (if h : vs.length = 1 then vs[0] else .tuple vs.toArray) w := by
  have hun : results fn a = (do let vs ← fn.results.mapM (resG a); pure (if h : vs.size = 1 then vs[0] else .tuple vs)) := by
    unfold results
    congr 2
  have h1 : (fn.results.mapM (resG a)).run P w = .ok vs.toArray w := by
    rw [Array.mapM_eq_mapM_toList, map_eq_pure_bind]
    simp only [Sem.run_bind, hr, Result.andThen_ok, Sem.run_pure]
  rw [hun]
  simp only [Sem.run_bind, h1, Result.andThen_ok, Sem.run_pure, List.size_toArray]
  split <;> simp_all
theorem ret_sound (H : HR E h) {fn : Func} {R : AV → List ABlk → Prop} {t : List AV} {a : Array Value} (F : FR E t a) (hr : retK P fn.results.toList R t h) :
    ∃ u v, (results fn a).run P E.w = .ok u E.w ∧ R v h ∧ VR E v u := by
  generalize hrs : fn.results.toList = rs at hr
  unfold retK at hr
  split at hr
  · rename_i r
    unfold resFin at hr
    split at hr
    · rename_i ob v e
      obtain ⟨u, h1, h2⟩ := resA_sound H F e hr.1
      refine ⟨u, v, ?_, hr.2, h2⟩
      have := run_results (P := P) (fn := fn) (a := a) (w := E.w) (vs := [u]) (by rw [hrs, List.mapM_cons]; simp only [Sem.run_bind, h1, Result.andThen_ok, List.mapM_nil, Sem.run_pure])
      simpa using this
    · exact hr.elim
  · rename_i hne
    unfold resFin at hr
    split at hr
    · rename_i ob v e
      obtain ⟨l, vs, rfl, q1, q0, q2, q3⟩ := resL_sound H F rs ob v e hr.1
      have := run_results (fn := fn) (w := E.w) (by rw [hrs]; exact q3)
      have hlen : rs.length ≠ 1 := by
        intro h1
        match rs, h1, hne with
        | [r], _, hne => exact hne r rfl
      rw [dif_neg (by omega)] at this
      exact ⟨_, .tup l, this, hr.2, .tup l _ (by simpa using q1) (fun i x v hx hv => q2 i x v hx (by simpa using hv))⟩
    · exact hr.elim

/-! ### Read-only views of the arguments -/
theorem nrefL_get {l : List AV} (hn : nrefL l) {i : Nat} {a : AV} (ha : l[i]? = some a) : nref a := by
  induction l generalizing i with
  | nil => simp at ha
  | cons b l ih =>
    simp only [nrefL] at hn
    cases i with
    | zero => simp at ha; subst ha; exact hn.1
    | succ i => exact ih hn.2 (by simpa using ha)
/-- A value without references to own blocks reads the same where what is only read is the same. -/
theorem VR.view {E E' : Env} (K : ∀ k, E.prot k → E'.prot k ∧ E'.w.heap[k]? = E.w.heap[k]?) {a : AV} {v : Value} (h : VR E a v) (hn : nref a) : VR E' a v := by
  induction h with
  | top v => exact .top v
  | bool b => exact .bool b
  | int k n => exact .int k n
  | str s => exact .str s
  | nilp => exact .nilp
  | ptr b es i j k o h => simp [nref] at hn
  | rptr es n i j k o c u hp hu h1 hc hrf ih =>
    exact .rptr es n i j k o c u (K k hp).1 (fun x y hx hy => (cell?_same (K k hp).2).trans (hu x y hx hy)) h1 (fun x y hx hy => ih x y hx hy (hrf x y hx hy)) hrf
  | sl b es i n nl a cap hn' hcm hnl hz hc => simp [nref] at hn
  | isl b es i j z n cap k o hn' hcm h => simp [nref] at hn
  | csl b es i n c a hn' hcm hc => simp [nref] at hn
  | ro es n nl c a cap hn' hcm hnl hz u ha h1 hc hrf ih =>
    refine .ro es n nl c a cap hn' hcm hnl hz u (fun hp => ?_) h1 (fun x y hx hy => ih x y hx hy (hrf x y hx hy)) hrf
    obtain ⟨k, o, h1, h2, h3⟩ := ha hp
    exact ⟨k, o, h1, (K k h2).1, fun x y hx hy => (cell?_same (K k h2).2).trans (h3 x y hx hy)⟩
  | emp a => exact .emp a
  | agg l vs hl h1 h ih => simp only [nref] at hn; exact .agg l vs hl h1 fun i a v ha hv => ih i a v ha hv (nrefL_get hn ha)
  | tup l vs hl h ih => simp only [nref] at hn; exact .tup l vs hl fun i a v ha hv => ih i a v ha hv (nrefL_get hn ha)
  | fn f l vs hl h ih => simp only [nref] at hn; exact .fn f l vs hl fun i a v ha hv => ih i a v ha hv (nrefL_get hn ha)
  | nilf => exact .nilf
  | ub b => exact .ub b
  | val v h1 => exact .val v h1
  | opt_t a v h ih => simp only [nref] at hn; exact .opt_t a v (ih hn)
  | opt_f a => exact .opt_f a

/-- A cell of what a pointer leads to, as who only reads sees it. -/
def roW (h : List ABlk) : AV → AV
  | .sl b es i n nl => match geth h b with
    | .row _ _ _ c => .ro es n nl (subC i c)
    | _ => .top
  | .ptr _ _ _ _ => .top
  | .isl _ _ _ _ _ _ => .top
  | .csl _ _ _ _ _ => .top
  | .agg l => .agg l
  | .tup l => .tup l
  | .fn f l => .fn f l
  | .top => .top
  | .bool b => .bool b
  | .int k n => .int k n
  | .str s => .str s
  | .nilp => .nilp
  | .rptr es n i j c => .rptr es n i j c
  | .ro es n nl c => .ro es n nl c
  | .emp => .emp
  | .nilf => .nilf
  | .ub => .ub
  | .val v => .val v
  | .opt g v => .opt g v
def roWL (h : List ABlk) : List AV → List AV
  | [] => []
  | a :: l => roW h a :: roWL h l
def roWOb (h : List ABlk) : AV → Prop
  | .sl b es i n nl => match geth h b with
    | .row _ es' N c => es' = es ∧ i + n ≤ N ∧ ∀ x y, x < n → y < es → nref (c (i + x) y)
    | _ => True
  | .ptr _ _ _ _ => True
  | .isl _ _ _ _ _ _ => True
  | .csl _ _ _ _ _ => True
  | .agg l => nrefL l
  | .tup l => nrefL l
  | .fn _ l => nrefL l
  | .rptr _ _ _ _ _ => True
  | .ro _ _ _ _ => True
  | .opt _ v => nref v
  | .top => True
  | .bool _ => True
  | .int _ _ => True
  | .str _ => True
  | .nilp => True
  | .emp => True
  | .nilf => True
  | .ub => True
  | .val _ => True
def roWObL (h : List ABlk) : List AV → Prop
  | [] => True
  | a :: l => roWOb h a ∧ roWObL h l
theorem roWL_length (l : List AV) : (roWL h l).length = l.length := by
  induction l with
  | nil => rfl
  | cons a l ih => simp [roWL, ih]
theorem roWL_getL (l : List AV) (i : Nat) : getL (roWL h l) i = roW h (getL l i) := by
  induction l generalizing i with
  | nil => cases i <;> rfl
  | cons a l ih => cases i with
    | zero => rfl
    | succ i => exact ih i
theorem roWObL_getL {l : List AV} (hn : roWObL h l) (i : Nat) : roWOb h (getL l i) := by
  induction l generalizing i with
  | nil => cases i <;> trivial
  | cons a l ih =>
    simp only [roWObL] at hn
    cases i with
    | zero => exact hn.1
    | succ i => exact ih hn.2 i
theorem roW_nref (a : AV) (hn : roWOb h a) : nref (roW h a) := by
  cases a <;> simp only [roW, roWOb, nref] at hn ⊢ <;> first | trivial | exact hn | skip
  split <;> simp only [nref]
mutual
/-- An argument, as who only reads sees it. -/
def roV (h : List ABlk) : AV → AV
  | .ptr b es i j => match geth h b with
    | .lit _ l => .rptr l.length 1 0 (i * es + j) (fun _ y => getL (roWL h l) y)
    | .row _ es' n c => .rptr es' n i j c
    | .dead => .top
  | .sl b es i n nl => match geth h b with
    | .row _ _ _ c => .ro es n nl (subC i c)
    | _ => .top
  | .isl b es i j z n => match geth h b with
    | .lit _ l => .ro z n false (fun x y => getL l (i * es + j + x * z + y))
    | .row _ _ _ c => .ro z n false (innC i j z c)
    | .dead => .top
  | .csl _ _ _ _ _ => .top
  | .agg l => .agg (roL h l)
  | .tup l => .tup (roL h l)
  | .fn f l => .fn f (roL h l)
  | .top => .top
  | .bool b => .bool b
  | .int k n => .int k n
  | .str s => .str s
  | .nilp => .nilp
  | .rptr es n i j c => .rptr es n i j c
  | .ro es n nl c => .ro es n nl c
  | .emp => .emp
  | .nilf => .nilf
  | .ub => .ub
  | .val v => .val v
  | .opt g v => .opt g v
def roL (h : List ABlk) : List AV → List AV
  | [] => []
  | a :: l => roV h a :: roL h l
end
mutual
def roOb (h : List ABlk) : AV → Prop
  | .ptr b es i j => match geth h b with
    | .lit _ l => roWObL h l
    | .row _ es' n c => es' = es ∧ ∀ x y, x < n → y < es → nref (c x y)
    | .dead => True
  | .sl b es i n nl => match geth h b with
    | .row _ es' N c => es' = es ∧ i + n ≤ N ∧ ∀ x y, x < n → y < es → nref (c (i + x) y)
    | _ => True
  | .isl b es i j z n => match geth h b with
    | .lit _ l => i * es + j + n * z ≤ l.length ∧ nrefL l
    | .row _ es' N c => es' = es ∧ i < N ∧ j + n * z ≤ es ∧ ∀ y, y < es → nref (c i y)
    | .dead => True
  | .csl _ _ _ _ _ => True
  | .agg l => roObL h l
  | .tup l => roObL h l
  | .fn _ l => roObL h l
  | .rptr _ _ _ _ _ => True
  | .ro _ _ _ _ => True
  | .opt _ v => nref v
  | .top => True
  | .bool _ => True
  | .int _ _ => True
  | .str _ => True
  | .nilp => True
  | .emp => True
  | .nilf => True
  | .ub => True
  | .val _ => True
def roObL (h : List ABlk) : List AV → Prop
  | [] => True
  | a :: l => roOb h a ∧ roObL h l
end
def Env.view (E : Env) : Env := ⟨E.w, fun _ => none, fun k => k < E.w.heap.size⟩
theorem view_HR (E : Env) : HR E.view [] :=
  ⟨fun b x hb => by simp at hb, fun b b' x x' k o o' hb => by simp at hb, fun k hk => ⟨hk, by rintro ⟨b, x, o, hb, _⟩; simp at hb⟩, fun _ _ => rfl⟩
theorem view_K (H : HR E h) : ∀ k, E.prot k → E.view.prot k ∧ E.view.w.heap[k]? = E.w.heap[k]? := fun k hk => ⟨(H.prot k hk).1, rfl⟩
theorem roL_get (l : List AV) (i : Nat) : (roL h l)[i]? = (l[i]?).map (roV h) := by
  induction l generalizing i with
  | nil => simp [roL]
  | cons a l ih => cases i <;> simp [roL, ih]
theorem roL_length (l : List AV) : (roL h l).length = l.length := by
  induction l with
  | nil => rfl
  | cons a l ih => simp [roL, ih]
theorem roObL_get {l : List AV} (hn : roObL h l) {i : Nat} {a : AV} (ha : l[i]? = some a) : roOb h a := by
  induction l generalizing i with
  | nil => simp at ha
  | cons b l ih =>
    simp only [roObL] at hn
    cases i with
    | zero => simp at ha; subst ha; exact hn.1
    | succ i => exact ih hn.2 (by simpa using ha)
theorem nrefL_getL {l : List AV} (hn : nrefL l) (i : Nat) : nref (getL l i) := by
  rcases Nat.lt_or_ge i l.length with hi | hi
  · exact nrefL_get hn (getL_some hi)
  · rw [getL_none hi]; simp [nref]
def cellOf (w : World) (q : Nat) : Option Addr → Value
  | some ad => (w.cell? (ad.add q)).getD undef
  | none => undef
theorem ro_sl (H : HR E h) {b es i n : Nat} {nl : Bool} {v : Value} (hv : VR E (.sl b es i n nl) v) (ho : match geth h b with
    | .row _ es' N c => es' = es ∧ i + n ≤ N ∧ ∀ x y, x < n → y < es → nref (c (i + x) y)
    | _ => True) : VR E.view (match geth h b with
    | .row _ _ _ c => .ro es n nl (subC i c)
    | _ => .top) v := by
  have K := view_K H
  cases hv with
  | sl _ _ _ _ _ a cap hn hcm hnl hz hc =>
    cases hg : geth h b with
    | dead => exact .top _
    | lit e l => exact .top _
    | row e es' N c =>
      rw [hg] at ho
      simp only at ho ⊢
      obtain ⟨rfl, hN, ho⟩ := ho
      have main : 0 < n → ∃ k o, a = some ⟨k, o + i * es', none⟩ ∧ k < E.w.heap.size ∧ ∀ x y, x < n → y < es' → ∃ u, E.w.cell? ⟨k, o + i * es' + x * es' + y, none⟩ = some u ∧ u.oneCell' = true ∧ VR E.view (c (i + x) y) u := by
        intro hp
        obtain ⟨k, o, cs, e', g1, g2, g3, g4⟩ := hc (by omega)
        refine ⟨k, o, g2, lt_of_some g3, fun x y hx hy => ?_⟩
        obtain ⟨u, q1, q2, q3⟩ := own_row H hg g1 (i + x) y (by omega) hy
        exact ⟨u, by rw [← q1, Nat.add_mul]; congr 2; omega, q2, q3.view K (ho x y hx hy)⟩
      refine .ro es' n nl (subC i c) a cap hn hcm hnl hz (fun x y => cellOf E.w (x * es' + y) a) (fun hp => ?_) (fun x y hx hy => ?_) (fun x y hx hy => ?_) (fun x y hx hy => ho x y hx hy)
      · obtain ⟨k, o, rfl, g2, g3⟩ := main hp
        refine ⟨k, o + i * es', rfl, g2, fun x y hx hy => ?_⟩
        obtain ⟨u, q1, _, _⟩ := g3 x y hx hy
        show E.w.cell? _ = _
        rw [q1, cellOf, show (⟨k, o + i * es', none⟩ : Addr).add (x * es' + y) = ⟨k, o + i * es' + x * es' + y, none⟩ from by simp [Addr.add, Nat.add_assoc], q1]; rfl
      · obtain ⟨k, o, rfl, g2, g3⟩ := main (by omega)
        obtain ⟨u, q1, q2, _⟩ := g3 x y hx hy
        rw [cellOf, show (⟨k, o + i * es', none⟩ : Addr).add (x * es' + y) = ⟨k, o + i * es' + x * es' + y, none⟩ from by simp [Addr.add, Nat.add_assoc], q1]; exact q2
      · obtain ⟨k, o, rfl, g2, g3⟩ := main (by omega)
        obtain ⟨u, q1, _, q3⟩ := g3 x y hx hy
        rw [cellOf, show (⟨k, o + i * es', none⟩ : Addr).add (x * es' + y) = ⟨k, o + i * es' + x * es' + y, none⟩ from by simp [Addr.add, Nat.add_assoc], q1]; exact q3
theorem roW_VR (H : HR E h) {a : AV} {v : Value} (hv : VR E a v) (ho : roWOb h a) : VR E.view (roW h a) v := by
  have K := view_K H
  cases a with
  | sl b es i n nl => exact ro_sl H hv ho
  | ptr b es i j => exact .top _
  | isl b es i j z n => exact .top _
  | csl b es i n c => exact .top _
  | _ => exact hv.view K (by simp only [roWOb] at ho; simp only [nref]; try exact ho)
theorem ro_VR (H : HR E h) {a : AV} {v : Value} (hv : VR E a v) (ho : roOb h a) : VR E.view (roV h a) v := by
  have K := view_K H
  induction hv with
  | top v => simp only [roV]; exact .top v
  | bool b => simp only [roV]; exact .bool b
  | int k n => simp only [roV]; exact .int k n
  | str s => simp only [roV]; exact .str s
  | nilp => simp only [roV]; exact .nilp
  | emp a => simp only [roV]; exact .emp a
  | nilf => simp only [roV]; exact .nilf
  | ub b => simp only [roV]; exact .ub b
  | val v h1 => simp only [roV]; exact .val v h1
  | ptr b es i j k o hσ =>
    simp only [roV, roOb] at ho ⊢
    cases hg : geth h b with
    | dead => exact .top _
    | lit e l =>
      rw [hg] at ho
      simp only at ho ⊢
      have hown := own_lit H hg hσ
      have hb := geth_some (h := h) (b := b) (by rw [hg]; exact fun e => by cases e)
      have hlt : k < E.w.heap.size := (H.blk b _ hb).lt (by rw [hg]; exact fun e => by cases e) hσ
      have h1 : ∀ y, y < l.length → ∃ u, E.w.cell? ⟨k, o + y, none⟩ = some u ∧ u.oneCell' = true ∧ VR E.view (getL (roWL h l) y) u := by
        intro y hy
        obtain ⟨u, q1, q2, q3⟩ := hown y hy
        exact ⟨u, q1, q2, by rw [roWL_getL]; exact roW_VR H q3 (roWObL_getL ho y)⟩
      rw [show o + i * es + j = o + 0 * l.length + (i * es + j) from by omega]
      refine .rptr l.length 1 0 (i * es + j) k o _ (fun x y => (E.w.cell? ⟨k, o + y, none⟩).getD undef) hlt (fun x y hx hy => ?_) (fun x y hx hy => ?_) (fun x y hx hy => ?_) (fun x y hx hy => by rw [roWL_getL]; exact roW_nref _ (roWObL_getL ho y))
      · obtain ⟨u, q1, _, _⟩ := h1 y hy
        have hx : x = 0 := by omega
        subst hx
        rw [show o + 0 * l.length + y = o + y from by omega]
        show E.w.cell? _ = _
        rw [q1]; rfl
      · obtain ⟨u, q1, q2, _⟩ := h1 y hy
        rw [q1]; exact q2
      · obtain ⟨u, q1, _, q3⟩ := h1 y hy
        rw [q1]; exact q3
    | row e es' n c =>
      rw [hg] at ho
      simp only at ho ⊢
      obtain ⟨rfl, ho⟩ := ho
      have hown := own_row H hg hσ
      have hb := geth_some (h := h) (b := b) (by rw [hg]; exact fun e => by cases e)
      have hlt : k < E.w.heap.size := (H.blk b _ hb).lt (by rw [hg]; exact fun e => by cases e) hσ
      refine .rptr es' n i j k o _ (fun x y => (E.w.cell? ⟨k, o + x * es' + y, none⟩).getD undef) hlt (fun x y hx hy => ?_) (fun x y hx hy => ?_) (fun x y hx hy => ?_) (fun x y hx hy => ho x y hx hy)
      · obtain ⟨u, q1, _, _⟩ := hown x y hx hy
        show E.w.cell? _ = _
        rw [q1]; rfl
      · obtain ⟨u, q1, q2, _⟩ := hown x y hx hy
        rw [q1]; exact q2
      · obtain ⟨u, q1, _, q3⟩ := hown x y hx hy
        rw [q1]; exact q3.view K (ho x y hx hy)
  | sl b es i n nl a cap hn hcm hnl hz hc =>
    simp only [roV, roOb] at ho ⊢
    exact ro_sl H (.sl b es i n nl a cap hn hcm hnl hz hc) ho
  | csl b es i n c a hn hcm hc => simp only [roV]; exact .top _
  | isl b es i j z n cap k o hn hcm hσ =>
    simp only [roV, roOb] at ho ⊢
    have main : ∀ c : Nat → Nat → AV, k < E.w.heap.size → (∀ x y, x < n → y < z → ∃ u, E.w.cell? ⟨k, o + i * es + j + x * z + y, none⟩ = some u ∧ u.oneCell' = true ∧ VR E.view (c x y) u) → (∀ x y, x < n → y < z → nref (c x y)) → VR E.view (.ro z n false c) (.slice (some ⟨k, o + i * es + j, none⟩) n cap) := by
      intro c hk hc hrf
      refine .ro z n false c _ cap hn hcm (fun h => by cases h) (by simp) (fun x y => (E.w.cell? ⟨k, o + i * es + j + x * z + y, none⟩).getD undef) (fun hp => ⟨k, _, rfl, hk, fun x y hx hy => ?_⟩) (fun x y hx hy => ?_) (fun x y hx hy => ?_) hrf
      · obtain ⟨u, q1, _, _⟩ := hc x y hx hy
        show E.w.cell? _ = _
        rw [q1]; rfl
      · obtain ⟨u, q1, q2, _⟩ := hc x y hx hy
        rw [q1]; exact q2
      · obtain ⟨u, q1, _, q3⟩ := hc x y hx hy
        rw [q1]; exact q3
    cases hg : geth h b with
    | dead => exact .top _
    | lit e l =>
      rw [hg] at ho
      simp only at ho ⊢
      have hb := geth_some (h := h) (b := b) (by rw [hg]; exact fun e => by cases e)
      have hlt : k < E.w.heap.size := (H.blk b _ hb).lt (by rw [hg]; exact fun e => by cases e) hσ
      refine main _ hlt (fun x y hx hy => ?_) (fun x y hx hy => nrefL_getL ho.2 _)
      have h1 := split_lt hx hy
      obtain ⟨u, q1, q2, q3⟩ := own_lit H hg hσ (i * es + j + x * z + y) (by omega)
      exact ⟨u, by rw [← q1]; congr 2; omega, q2, q3.view K (nrefL_getL ho.2 _)⟩
    | row e es' N c =>
      rw [hg] at ho
      simp only at ho ⊢
      obtain ⟨rfl, hN, hjz, ho⟩ := ho
      have hb := geth_some (h := h) (b := b) (by rw [hg]; exact fun e => by cases e)
      have hlt : k < E.w.heap.size := (H.blk b _ hb).lt (by rw [hg]; exact fun e => by cases e) hσ
      refine main _ hlt (fun x y hx hy => ?_) (fun x y hx hy => ho _ (by have := split_lt hx hy; omega))
      have h1 := split_lt hx hy
      obtain ⟨u, q1, q2, q3⟩ := own_row H hg hσ i (j + x * z + y) hN (by omega)
      exact ⟨u, by rw [← q1]; congr 2; omega, q2, q3.view K (ho _ (by omega))⟩
  | rptr es n i j k o c u hp hu h1 hc hrf ih =>
    simp only [roV]
    exact (VR.rptr es n i j k o c u hp hu h1 hc hrf).view K (by simp only [nref])
  | ro es n nl c a cap hn hcm hnl hz u ha h1 hc hrf ih =>
    simp only [roV]
    exact (VR.ro es n nl c a cap hn hcm hnl hz u ha h1 hc hrf).view K (by simp only [nref])
  | agg l vs hl h1 hh ih =>
    simp only [roV, roOb] at ho ⊢
    refine .agg _ _ (by rw [roL_length, hl]) h1 fun i a v ha hv => ?_
    rw [roL_get] at ha
    cases hi : l[i]? with
    | none => rw [hi] at ha; cases ha
    | some a0 =>
      rw [hi] at ha
      simp only [Option.map_some, Option.some.injEq] at ha
      subst ha
      exact ih i a0 v hi hv (roObL_get ho hi)
  | tup l vs hl hh ih =>
    simp only [roV, roOb] at ho ⊢
    refine .tup _ _ (by rw [roL_length, hl]) fun i a v ha hv => ?_
    rw [roL_get] at ha
    cases hi : l[i]? with
    | none => rw [hi] at ha; cases ha
    | some a0 =>
      rw [hi] at ha
      simp only [Option.map_some, Option.some.injEq] at ha
      subst ha
      exact ih i a0 v hi hv (roObL_get ho hi)
  | fn f l vs hl hh ih =>
    simp only [roV, roOb] at ho ⊢
    refine .fn f _ _ (by rw [roL_length, hl]) fun i a v ha hv => ?_
    rw [roL_get] at ha
    cases hi : l[i]? with
    | none => rw [hi] at ha; cases ha
    | some a0 =>
      rw [hi] at ha
      simp only [Option.map_some, Option.some.injEq] at ha
      subst ha
      exact ih i a0 v hi hv (roObL_get ho hi)
  | opt_t a v hv ih =>
    simp only [roV, roOb] at ho ⊢
    exact .opt_t a v (hv.view K ho)
  | opt_f a => simp only [roV]; exact .opt_f a
end Go.Am
