/-
  A machine that computes, part 6: one operation, calls aside.
-/
import Derived.Test.YtiameicjjlfimaaCm5
namespace Go.Am
noncomputable section
set_option linter.unusedVariables false
set_option linter.unusedSimpArgs false
variable {P : Program}

inductive CRes where
  | no
  | p (v : CV)
  | w (v : CV) (n : Nat) (h : Hp)
def cP : Option CV → CRes
  | some v => .p v
  | none => .no
def cN (v : CV) (x : CB) (n : Nat) (h : Hp) : CRes := match cnew x n h with
  | some h' => .w v (n + 1) h'
  | none => .no
def cBuiltin (P : Program) (b : Builtin) (ts : List TypeId) (l : List CV) (n : Nat) (h : Hp) : CRes := match b with
  | .len => match ts, l with
    | [t], [x] => cP (cLen (tslice P t) (tstr P t) (tarr P t) x)
    | _, _ => .no
  | .append => match ts, l with
    | [st, xt], [s, x] => match cAppend (tslice P st) (tnoint P xt) ((tslice P st).bind (tsz P)) ((tslice P st).bind (tby P)) ((tslice P st).bind (tzn P)) s x n h with
      | some (v, n', h') => .w v n' h'
      | none => .no
    | _, _ => .no
  | .min => cP (cMin l)
  | .max => cP (cMax l)
  | _ => .no
def c1 (x : Option CV) (k : CV → CRes) : CRes := match x with
  | some v => k v
  | none => .no
def cO (P : Program) (sh : TypeId → Option (List Leaf)) (m : Nat) (f : Fr) (n : Nat) (h : Hp) : Op → CRes
  | .move x => cP (crho m f x)
  | .assign x => cP (crho m f x)
  | .pick c a b => c1 (crho m f c) fun c => match c with
    | .bool true => cP (crho m f a)
    | .bool false => cP (crho m f b)
    | _ => .no
  | .alloc e => match czero P e with
    | some l => cN (.ptr n 0 0 0) (.lit e l) n h
    | none => .no
  | .box e x => c1 (crho m f x) fun v => match cvOk v with
    | true => cN (.ptr n 0 0 0) (.lit e (ccells v)) n h
    | false => .no
  | .build y ps => cP (cBuild (tplaces P y) (tarr P y) ((tarr P y).bind fun q => tsz P q.2) (czero P y) m f ps.toList)
  | .buildSlice y k ps => match cBuildSlice (tslice P y) ((tslice P y).bind (tsz P)) ((tslice P y).bind (czero P)) k m f ps.toList with
    | some (z, x) => cN (.sl n z 0 k false) x n h
    | none => .no
  | .load y a => c1 (crho m f a) fun p => cP (cLoad (tagg P y) (tsz P y) p n h)
  | .store y a x => c1 (crho m f a) fun p => c1 (crho m f x) fun v => match cStore (tsz P y) p v n h with
    | some h' => .w .top n h'
    | none => .no
  | .nilCheck x => c1 (crho m f x) fun v => cP (cNil v)
  | .binOp op y a b _ => c1 (crho m f a) fun x => c1 (crho m f b) fun z => cP (cBin (tbool P y) (tslice P y) (sh y) op x z)
  | .unOp op _ x => c1 (crho m f x) fun v => cP (cUn op v)
  | .convert s d x => c1 (crho m f x) fun v => cP (cConv (tany P s) (tint P d) (tbytes P s) (tstr P d) v n h)
  | .makeFunc fn first captured => match fn, first.toList, crhoL m f captured.toList with
    | .func g, [], some l => .p (.fn g l)
    | _, _, _ => .no
  | .makeSlice y k c => c1 (crho m f k) fun k => c1 (crho m f c) fun c => match cMake (tslice P y) ((tslice P y).bind (tsz P)) ((tslice P y).bind (tby P)) ((tslice P y).bind (czero P)) k c with
    | some (q, z, x) => cN (.sl n z 0 q false) x n h
    | none => .no
  | .slice y x lo hi mx => c1 (crho m f x) fun v => match crhoO m f lo, crhoO m f hi, crhoO m f mx with
    | some lo, some hi, some mx => cP (cSlice (tstr P y) (tslice P y) (tarr P y) (((tslice P y).or ((tarr P y).map (·.2))).bind (tsz P)) v lo hi mx)
    | _, _, _ => .no
  | .fieldAddr s x k => c1 (crho m f x) fun v => cP (cFieldAddr (tfld P s k) v)
  | .field s x k => c1 (crho m f x) fun v => cP (cField ((tfld P s k).bind fun q => tagg P q.1) (tfld P s k) v)
  | .indexAddr y x i => c1 (crho m f x) fun v => c1 (crho m f i) fun i => cP (cIndexAddr (tslice P y) (tarr P y) (((tslice P y).or ((tarr P y).map (·.2))).bind (tsz P)) v i)
  | .index y x i => c1 (crho m f x) fun v => c1 (crho m f i) fun i => cP (cIndex (tstr P y) ((tarr P y).bind fun q => tagg P q.2) (tarr P y) ((tarr P y).bind fun q => tsz P q.2) v i)
  | .extract x i => c1 (crho m f x) fun v => cP (cExtract v i)
  | .call c => match c.callee with
    | .builtin b => match crhoL m f c.args.toList with
      | some l => cBuiltin P b c.argTypes.toList l n h
      | none => .no
    | _ => .no
  | _ => .no

theorem zeroB (o : Option TypeId) : (o.bind (czero P)).map toAVL = o.bind (tzero P) := by
  cases o with
  | none => rfl
  | some t => exact czero_abs P t
theorem trip_pure {sh : TypeId → Option (List Leaf)} (S : ShOk P sh) {o : Oper} {t : List AV} {h : List ABlk} {ob : Prop} {v v2 : AV} (hr : evO P sh (tab []) t h o.op = .pure ob v) (hob : ob) (hog : ogOp t o.op) (hv : Wk v2 v) : Trip P o t h v2 h :=
  .of_ev S tab_nil (by rw [hr]; rfl) hob hog hv (.refl _)
theorem trip_heap {sh : TypeId → Option (List Leaf)} (S : ShOk P sh) {o : Oper} {t : List AV} {h h' h2 : List ABlk} {ob : Prop} {v v2 : AV} (hr : evO P sh (tab []) t h o.op = .heap ob v h') (hob : ob) (hog : ogOp t o.op) (hv : Wk v2 v) (hw : HWk h2 h') : Trip P o t h v2 h2 :=
  .of_ev S tab_nil (by rw [hr]; rfl) hob hog hv hw
/-- What a computed result says. -/
def CRok (P : Program) (o : Oper) (t : List AV) (n : Nat) (h : Hp) : CRes → Prop
  | .no => True
  | .p v => Trip P o t (H n h) (toAV v) (H n h)
  | .w v n' h' => n ≤ n' ∧ Trip P o t (H n h) (toAV v) (H n' h')
theorem cP_ok {o : Oper} {t : List AV} {n : Nat} {h : Hp} {x : Option CV} (hx : ∀ v, x = some v → Trip P o t (H n h) (toAV v) (H n h)) : CRok P o t n h (cP x) := by
  cases x with
  | none => trivial
  | some v => exact hx v rfl
theorem c1_ok {o : Oper} {t : List AV} {n : Nat} {h : Hp} {x : Option CV} {k : CV → CRes} (hx : ∀ v, x = some v → CRok P o t n h (k v)) : CRok P o t n h (c1 x k) := by
  cases x with
  | none => trivial
  | some v => exact hx v rfl
theorem cN_ok {o : Oper} {t : List AV} {n : Nat} {h : Hp} {v : CV} {x : CB} {y : ABlk} (hb : BWk (toB x) y) (hx : ∀ h2, HWk h2 (H n h ++ [y]) → Trip P o t (H n h) (toAV v) h2) : CRok P o t n h (cN v x n h) := by
  unfold cN
  split
  · rename_i h' hn
    refine ⟨by omega, hx _ ?_⟩
    rw [← cnew_ok hn]
    exact hwk_push hb
  · trivial
theorem pO_of {r : AR} {ob : Prop} {v : AV} (h : r = .pure ob v) : pO r = .pure ob v := by rw [h]; rfl
theorem hO_of {r : AR} {ob : Prop} {v : AV} {g : List ABlk} (h : r = .heap ob v g) : hO r = .heap ob v g := by rw [h]; rfl
theorem appLen {st : Option TypeId} {xi : Bool} {z by_ zn : Option Nat} {s x v : AV} {h g : List ABlk} {ob : Prop} (hr : evAppend st xi z by_ zn s x h = .heap ob v g) : h.length ≤ g.length := by
  unfold evAppend at hr
  split at hr
  · rename_i e z by_ zn
    cases hb : (xi && decide (1 ≤ z) && zn == z) with
    | false => rw [hb] at hr; cases hr
    | true =>
      rw [hb] at hr
      simp only [cond_true] at hr
      unfold appRes at hr
      split at hr
      · split at hr
        · injection hr with _ _ h3; subst h3; simp
        · injection hr with _ _ h3; subst h3; simp
        · split at hr
          · injection hr with _ _ h3; subst h3; simp [seth_set]
          · cases hr
        · cases hr
      · cases hr
  · cases hr
theorem cO_ok {sh : TypeId → Option (List Leaf)} (S : ShOk P sh) (m : Nat) (f : Fr) (n : Nat) (h : Hp) (o : Oper) : CRok P o (T m f) n h (cO P sh m f n h o.op) := by
  obtain ⟨dst, op, ty, pos, after, guard⟩ := o
  cases op
  case move x =>
    refine cP_ok fun v hv => ?_
    obtain ⟨q1, q2⟩ := crho_ok hv
    exact trip_pure S (ob := True) (by simp only [evO]; rw [q1]) trivial q2 (.refl _)
  case assign x =>
    refine cP_ok fun v hv => ?_
    obtain ⟨q1, q2⟩ := crho_ok hv
    exact trip_pure S (ob := True) (by simp only [evO]; rw [q1]) trivial q2 (.refl _)
  case pick c a b =>
    refine c1_ok fun w hw => ?_
    obtain ⟨q1, q2⟩ := crho_ok hw
    have go : ∀ (bb : Bool) (x : Operand), w = .bool bb → (bif bb then a else b) = x → CRok P ⟨dst, .pick c a b, ty, pos, after, guard⟩ (T m f) n h (cP (crho m f x)) := by
      intro bb x hwb hx
      refine cP_ok fun v hv => ?_
      obtain ⟨r1, r2⟩ := crho_ok hv
      intro E A K Q R F next
      have hc := rho_sound F q2
      rw [q1, hwb] at hc
      simp only [toAV] at hc
      have hc := VR_bool hc
      have hvx := rho_sound F r2
      rw [r1] at hvx
      refine fin_pure R (r := A.eval x) ?_ hvx next
      show (do pure (.value (if ← asBool (A.eval c) then A.eval a else A.eval b)) : Sem Next).run P E.w = _
      rw [hc, ← hx]
      cases bb <;> simp [asBool]
    split
    · exact go true a rfl rfl
    · exact go false b rfl rfl
    · trivial
  case alloc e =>
    simp only [cO]
    split
    · rename_i l hl
      refine cN_ok (.refl _) fun h2 hw => ?_
      have := czero_abs P e
      rw [hl] at this
      exact trip_heap S (ob := True) (by simp only [evO, evAlloc, ← this, Option.map_some, hO, H_length]; rfl) trivial trivial (by simp only [toAV]; exact .refl _) hw
    · trivial
  case box e x =>
    refine c1_ok fun v hv => ?_
    obtain ⟨q1, q2⟩ := crho_ok hv
    split
    · rename_i hk
      obtain ⟨c1, c2⟩ := ccells_ok v
      refine cN_ok (.refl _) fun h2 hw => ?_
      exact trip_heap S (ob := True) (by simp only [evO, evBox, q1, c2, hk, cond_true, hO, H_length, c1]; rfl) trivial q2 (by simp only [toAV]; exact .refl _) hw
    · trivial
  case build y ps =>
    refine cP_ok fun v hv => ?_
    obtain ⟨ob, q1, q2, q3⟩ := cBuild_ok hv
    rw [czero_abs] at q1
    exact trip_pure S (by simp only [evO]; exact pO_of q1) q2 q3 (.refl _)
  case buildSlice y k ps =>
    simp only [cO]
    split
    · rename_i z x hx
      obtain ⟨ob, yb, q1, q2, q3, q4⟩ := cBuildSlice_ok hx (H n h)
      rw [zeroB] at q1
      refine cN_ok q4 fun h2 hw => ?_
      exact trip_heap S (by simp only [evO]; exact hO_of q1) q2 q3 (by simp only [toAV, H_length]; exact .refl _) hw
    · trivial
  case load y a =>
    refine c1_ok fun p hp => cP_ok fun v hv => ?_
    obtain ⟨q1, q2⟩ := crho_ok hp
    obtain ⟨ob, r1, r2⟩ := cLoad_ok hv
    exact trip_pure S (by simp only [evO]; rw [q1]; exact pO_of r1) r2 q2 (.refl _)
  case store y a x =>
    refine c1_ok fun p hp => c1_ok fun v hv => ?_
    obtain ⟨q1, q2⟩ := crho_ok hp
    obtain ⟨p1, p2⟩ := crho_ok hv
    split
    · rename_i h' hs
      obtain ⟨ob, r1, r2⟩ := cStore_ok hs
      exact ⟨Nat.le_refl _, trip_heap S (by simp only [evO]; rw [q1, p1]; exact hO_of r1) r2 ⟨q2, p2⟩ (by simp only [toAV]; exact .refl _) (.refl _)⟩
    · trivial
  case nilCheck x =>
    refine c1_ok fun p hp => cP_ok fun v hv => ?_
    obtain ⟨q1, q2⟩ := crho_ok hp
    obtain ⟨ob, r1, r2⟩ := cNil_ok hv
    exact trip_pure S (by simp only [evO]; rw [q1]; exact pO_of r1) r2 q2 (.refl _)
  case binOp op y a b yt =>
    refine c1_ok fun p hp => c1_ok fun q hq => cP_ok fun v hv => ?_
    obtain ⟨q1, q2⟩ := crho_ok hp
    obtain ⟨p1, p2⟩ := crho_ok hq
    obtain ⟨ob, r1, r2⟩ := cBin_ok hv
    exact trip_pure S (by simp only [evO]; rw [q1, p1]; exact pO_of r1) r2 ⟨q2, p2⟩ (.refl _)
  case unOp op y x =>
    refine c1_ok fun p hp => cP_ok fun v hv => ?_
    obtain ⟨q1, q2⟩ := crho_ok hp
    obtain ⟨ob, r1, r2⟩ := cUn_ok hv
    exact trip_pure S (by simp only [evO]; rw [q1]; exact pO_of r1) r2 q2 (.refl _)
  case convert s d x =>
    refine c1_ok fun p hp => cP_ok fun v hv => ?_
    obtain ⟨q1, q2⟩ := crho_ok hp
    obtain ⟨ob, r1, r2⟩ := cConv_ok hv
    exact trip_pure S (by simp only [evO]; rw [q1]; exact pO_of r1) r2 q2 (.refl _)
  case makeFunc fn first captured =>
    simp only [cO]
    split
    · rename_i g l hf hl
      obtain ⟨q1, q2⟩ := crhoL_ok hl
      exact trip_pure S (ob := True) (v := .fn g (toAVL l)) (by simp only [evO]; rw [hf]; simp only [evFn, q1]) trivial q2 (by simp only [toAV]; exact .refl _)
    · trivial
  case makeSlice y k c =>
    refine c1_ok fun p hp => c1_ok fun q hq => ?_
    obtain ⟨q1, q2⟩ := crho_ok hp
    obtain ⟨p1, p2⟩ := crho_ok hq
    split
    · rename_i qq z x hx
      obtain ⟨ob, yb, r1, r2, r4⟩ := cMake_ok hx (H n h)
      rw [zeroB] at r1
      refine cN_ok r4 fun h2 hw => ?_
      exact trip_heap S (by simp only [evO]; rw [q1, p1]; exact hO_of r1) r2 ⟨q2, p2⟩ (by simp only [toAV, H_length]; exact .refl _) hw
    · trivial
  case slice y x lo hi mx =>
    refine c1_ok fun p hp => ?_
    obtain ⟨q1, q2⟩ := crho_ok hp
    split
    · rename_i lv hv mv h1 h2 h3
      refine cP_ok fun v hvv => ?_
      obtain ⟨a1, a2⟩ := crhoO_ok h1
      obtain ⟨b1, b2⟩ := crhoO_ok h2
      obtain ⟨d1, d2⟩ := crhoO_ok h3
      obtain ⟨ob, v', r1, r2, r3⟩ := cSlice_ok hvv
      exact trip_pure S (by simp only [evO]; rw [q1, a1, b1, d1]; exact pO_of r1) r2 ⟨q2, a2, b2, d2⟩ r3
    · trivial
  case fieldAddr s x k =>
    refine c1_ok fun p hp => cP_ok fun v hv => ?_
    obtain ⟨q1, q2⟩ := crho_ok hp
    obtain ⟨ob, r1, r2⟩ := cFieldAddr_ok hv
    exact trip_pure S (by simp only [evO]; rw [q1]; exact pO_of r1) r2 q2 (.refl _)
  case field s x k =>
    refine c1_ok fun p hp => cP_ok fun v hv => ?_
    obtain ⟨q1, q2⟩ := crho_ok hp
    obtain ⟨ob, r1, r2⟩ := cField_ok hv
    exact trip_pure S (by simp only [evO]; rw [q1]; exact pO_of r1) r2 q2 (.refl _)
  case indexAddr y a b =>
    refine c1_ok fun p hp => c1_ok fun q hq => cP_ok fun v hv => ?_
    obtain ⟨q1, q2⟩ := crho_ok hp
    obtain ⟨p1, p2⟩ := crho_ok hq
    obtain ⟨ob, r1, r2⟩ := cIndexAddr_ok hv
    exact trip_pure S (by simp only [evO]; rw [q1, p1]; exact pO_of r1) r2 ⟨q2, p2⟩ (.refl _)
  case index y a b =>
    refine c1_ok fun p hp => c1_ok fun q hq => cP_ok fun v hv => ?_
    obtain ⟨q1, q2⟩ := crho_ok hp
    obtain ⟨p1, p2⟩ := crho_ok hq
    obtain ⟨ob, r1, r2⟩ := cIndex_ok hv
    exact trip_pure S (by simp only [evO]; rw [q1, p1]; exact pO_of r1) r2 ⟨q2, p2⟩ (.refl _)
  case extract x i =>
    refine c1_ok fun p hp => cP_ok fun v hv => ?_
    obtain ⟨q1, q2⟩ := crho_ok hp
    obtain ⟨ob, r1, r2⟩ := cExtract_ok hv
    exact trip_pure S (by simp only [evO]; rw [q1]; exact pO_of r1) r2 q2 (.refl _)
  case call c =>
    obtain ⟨callee, args, argTypes⟩ := c
    simp only [cO]
    split
    · rename_i b
      split
      · rename_i l hl
        obtain ⟨q1, q2⟩ := crhoL_ok hl
        have og' : ogOp (T m f) (.call ⟨.builtin b, args, argTypes⟩) := ⟨trivial, q2⟩
        obtain ⟨argTypes⟩ := argTypes
        have pu : ∀ {x : Option CV}, (∀ v, x = some v → ∃ ob, evBuiltin P b argTypes (toAVL l) (H n h) = .pure ob (toAV v) ∧ ob) → CRok P ⟨dst, .call ⟨.builtin b, args, ⟨argTypes⟩⟩, ty, pos, after, guard⟩ (T m f) n h (cP x) := by
          intro x hx
          refine cP_ok fun v hv => ?_
          obtain ⟨ob, r1, r2⟩ := hx v hv
          exact trip_pure S (by simp only [evO, evCall]; rw [q1]; exact r1) r2 og' (.refl _)
        unfold cBuiltin
        split
        · split
          · rename_i t x e1
            subst e1
            refine pu fun v hv => ?_
            obtain ⟨ob, r1, r2⟩ := cLen_ok hv
            exact ⟨ob, by simp only [evBuiltin, toAVL]; exact r1, r2⟩
          · trivial
        · split
          · rename_i st xt s x e1
            subst e1
            split
            · rename_i v n' h' ha
              obtain ⟨ob, g, r1, r2, r3⟩ := cAppend_ok ha
              refine ⟨by rw [← H_length n h, ← H_length n' h', r3.1]; exact appLen r1, ?_⟩
              exact trip_heap S (by simp only [evO, evCall]; rw [q1]; simp only [evBuiltin, toAVL]; exact r1) r2 og' (.refl _) r3
            · trivial
          · trivial
        · refine pu fun v hv => ?_
          obtain ⟨ob, r1, r2⟩ := cMin_ok hv
          exact ⟨ob, by simp only [evBuiltin]; exact r1, r2⟩
        · refine pu fun v hv => ?_
          obtain ⟨ob, r1, r2⟩ := cMax_ok hv
          exact ⟨ob, by simp only [evBuiltin]; exact r1, r2⟩
        · trivial
      · trivial
    · trivial
  all_goals trivial
end
end Go.Am
