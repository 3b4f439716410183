/-
  The abstract machine, part 27: contracts of functions that read their arguments and return memory of their own.
-/
import Derived.Test.YtpnhehcncljhpaaAm26
namespace Go.Am
set_option linter.unusedVariables false
variable {P : Program} {E : Env} {h : List ABlk}

mutual
/-- No memory that is only read. -/
def noro : AV → Prop
  | .ro _ n _ _ => n = 0
  | .rptr _ _ _ _ _ => False
  | .agg l => noroL l
  | .tup l => noroL l
  | .fn _ l => noroL l
  | .opt _ v => noro v
  | .ptr _ _ _ _ => True
  | .sl _ _ _ _ _ => True
  | .isl _ _ _ _ _ _ => True
  | .csl _ _ _ _ _ => True
  | .top => True
  | .bool _ => True
  | .int _ _ => True
  | .str _ => True
  | .nilp => True
  | .emp => True
  | .nilf => True
  | .ub => True
  | .val _ => True
def noroL : List AV → Prop
  | [] => True
  | a :: l => noro a ∧ noroL l
end
theorem noroL_get {l : List AV} (hn : noroL l) {i : Nat} {a : AV} (ha : l[i]? = some a) : noro a := by
  induction l generalizing i with
  | nil => simp at ha
  | cons b l ih =>
    simp only [noroL] at hn
    cases i with
    | zero => simp at ha; subst ha; exact hn.1
    | succ i => exact ih hn.2 (by simpa using ha)
/-- A value that names no memory at all. -/
def flatA (a : AV) : Prop := nref a ∧ noro a
theorem VR.exp {E' : Env} {L s : Nat} (hw : E'.w = E.w) (hσ : ∀ b x, E.σ b = some x → E'.σ (rnN L s b) = some x) {a : AV} {v : Value} (h : VR E a v) (hn : noro a) : VR E' (Am.ren L s a) v := by
  have lst : ∀ (l : List AV) (vs : Array Value), l.length = vs.size → noroL l → (∀ (i : Nat) (a : AV) (v : Value), l[i]? = some a → vs[i]? = some v → noro a → VR E' (Am.ren L s a) v) →
      (renL L s l).length = vs.size ∧ ∀ (i : Nat) (a : AV) (v : Value), (renL L s l)[i]? = some a → vs[i]? = some v → VR E' a v := by
    intro l vs hl hn ih
    refine ⟨by rw [renL_length, hl], fun i a v ha hv => ?_⟩
    rw [renL_get] at ha
    cases hi : l[i]? with
    | none => rw [hi] at ha; cases ha
    | some a0 =>
      rw [hi] at ha
      simp only [Option.map_some, Option.some.injEq] at ha
      subst ha
      exact ih i a0 v hi hv (noroL_get hn hi)
  induction h with
  | top v => simp only [Am.ren]; exact .top v
  | bool b => simp only [Am.ren]; exact .bool b
  | int k n => simp only [Am.ren]; exact .int k n
  | str s => simp only [Am.ren]; exact .str s
  | nilp => simp only [Am.ren]; exact .nilp
  | ptr b es i j k o h => simp only [Am.ren]; exact .ptr _ es i j k o (hσ _ _ h)
  | rptr es m i j k o c u hp' hu h1 hc hrf ih => simp only [noro] at hn
  | sl b es i m nl a cap hm hcm hnl hz hc =>
    simp only [Am.ren]
    refine .sl _ es i m nl a cap hm hcm hnl hz fun hp' => ?_
    obtain ⟨k, o, cs, e, g1, g2, g3, g4⟩ := hc hp'
    exact ⟨k, o, cs, e, hσ _ _ g1, g2, by rw [hw]; exact g3, g4⟩
  | isl b es i j z m cap k o hm hcm h => simp only [Am.ren]; exact .isl _ es i j z m cap k o hm hcm (hσ _ _ h)
  | csl b es i m c a hm hcm hc => simp only [Am.ren]; exact .csl _ es i m c a hm hcm fun hp => by obtain ⟨k, o, cs, e, h1, h2, h3, h4⟩ := hc hp; exact ⟨k, o, cs, e, hσ _ _ h1, h2, by rw [hw]; exact h3, h4⟩
  | ro es m nl c a cap hm hcm hnl hz u ha h1 hc hrf ih =>
    simp only [noro] at hn; subst hn
    simp only [Am.ren]; exact .ro es 0 nl c a cap hm hcm hnl hz u (fun h => by omega) (fun x y hx => by omega) (fun x y hx => by omega) fun x y hx => by omega
  | emp a => simp only [Am.ren]; exact .emp a
  | agg l vs hl h1 h ih => simp only [Am.ren]; simp only [noro] at hn; obtain ⟨q1, q2⟩ := lst l vs hl hn ih; exact .agg _ vs q1 h1 q2
  | tup l vs hl h ih => simp only [Am.ren]; simp only [noro] at hn; obtain ⟨q1, q2⟩ := lst l vs hl hn ih; exact .tup _ vs q1 q2
  | fn f l vs hl h ih => simp only [Am.ren]; simp only [noro] at hn; obtain ⟨q1, q2⟩ := lst l vs hl hn ih; exact .fn f _ vs q1 q2
  | nilf => simp only [Am.ren]; exact .nilf
  | ub b => simp only [Am.ren]; exact .ub b
  | val v h1 => simp only [Am.ren]; exact .val v h1
  | opt_t a v h ih => simp only [Am.ren]; simp only [noro] at hn; exact .opt_t _ v (ih hn)
  | opt_f a => simp only [Am.ren]; exact .opt_f _
mutual
theorem ren_nref {L s : Nat} : ∀ a : AV, nref a → ren L s a = a
  | .top, _ => by simp only [ren]
  | .bool _, _ => by simp only [ren]
  | .int _ _, _ => by simp only [ren]
  | .str _, _ => by simp only [ren]
  | .nilp, _ => by simp only [ren]
  | .ptr _ _ _ _, h => by simp only [nref] at h
  | .rptr _ _ _ _ _, _ => by simp only [ren]
  | .sl _ _ _ _ _, h => by simp only [nref] at h
  | .isl _ _ _ _ _ _, h => by simp only [nref] at h
  | .csl _ _ _ _ _, h => by simp only [nref] at h
  | .ro _ _ _ _, _ => by simp only [ren]
  | .emp, _ => by simp only [ren]
  | .agg l, h => by simp only [ren]; rw [renL_nref l (by simpa only [nref] using h)]
  | .tup l, h => by simp only [ren]; rw [renL_nref l (by simpa only [nref] using h)]
  | .fn _ l, h => by simp only [ren]; rw [renL_nref l (by simpa only [nref] using h)]
  | .nilf, _ => by simp only [ren]
  | .ub, _ => by simp only [ren]
  | .val _, _ => by simp only [ren]
  | .opt _ v, h => by simp only [ren]; rw [ren_nref v (by simpa only [nref] using h)]
theorem renL_nref {L s : Nat} : ∀ l : List AV, nrefL l → renL L s l = l
  | [], _ => by simp only [renL]
  | a :: l, h => by simp only [nrefL] at h; simp only [renL]; rw [ren_nref a h.1, renL_nref l h.2]
end
theorem VR.flat {E' : Env} (hw : E'.w = E.w) {a : AV} {v : Value} (h : VR E a v) (hf : flatA a) : VR E' a v := by
  have h1 := VR.exp (E := ⟨E.w, fun _ => none, E.prot⟩) (E' := E') (L := 0) (s := 0) hw (fun b x hb => by cases hb) (VR.view (E := E) (E' := ⟨E.w, fun _ => none, E.prot⟩) (fun k hk => ⟨hk, rfl⟩) h hf.1) hf.2
  rwa [ren_nref a hf.1] at h1
def flatB : ABlk → Prop
  | .dead => True
  | .lit _ l => nrefL l ∧ noroL l
  | .row _ es n c => ∀ x y, x < n → y < es → flatA (c x y)
def flatH : List ABlk → Prop
  | [] => True
  | x :: l => flatB x ∧ flatH l
theorem flatH_get {l : List ABlk} (hn : flatH l) {i : Nat} {a : ABlk} (ha : l[i]? = some a) : flatB a := by
  induction l generalizing i with
  | nil => simp at ha
  | cons b l ih =>
    simp only [flatH] at hn
    cases i with
    | zero => simp at ha; subst ha; exact hn.1
    | succ i => exact ih hn.2 (by simpa using ha)

/-- A contract that sees its arguments only by their content; what it returns may be memory of its own, numbered from 0 on. -/
def freshR (o : Prop) (h : List ABlk) : AR → AR
  | .pure ob v => .pure (o ∧ ob) v
  | .heap ob v ns => .heap (o ∧ ob) (ren 0 h.length v) (h ++ ns)
  | .fail => .fail
def freshC (body : List AV → AR) (l : List AV) (h : List ABlk) : AR := freshR (roObL h l) h (body (roL h l))
def SubV (v : AV) (ns : List ABlk) (v' : AV) (hf : List ABlk) : Prop := ∃ ν : Mu, Cv ν v v' ∧ CvH ν hf ns ν ∧ injM (liveM ν ns) = true

theorem fresh_fn {f : FuncId} {fn : Func} {code : Code} {sh : TypeId → Option (List Leaf)} {ct : Ct} (S : ShOk P sh) (C : CtOk P ct) (body : List AV → AR) {rs : List ResultVar}
    (hf : P.funcs[f]? = some fn) (hn : (fn.name == "runtime.NumGoroutine") = false) (hb : fn.body = some code) (hrs : fn.results.toList = rs)
    (hwp : ∀ (l : List AV) (ob : Prop) (v : AV), body l = .pure ob v → ob → ∃ l' t, (∀ E vs, FR E l vs → FR E l' vs) ∧ (conc v).isSome = true ∧ t = l' ++ List.replicate (fn.ntmps - l'.length) .top ∧
      wpC P sh ct code (kRet P rs fun v' _ => v' = v) t [])
    (hwh : ∀ (l : List AV) (ob : Prop) (v : AV) (ns : List ABlk), body l = .heap ob v ns → ob → ∃ l' t, (∀ E vs, FR E l vs → FR E l' vs) ∧ noro v ∧ flatH ns ∧ t = l' ++ List.replicate (fn.ntmps - l'.length) .top ∧
      wpC P sh ct code (kRet P rs (SubV v ns)) t []) : FnOk P f (freshC body) := by
  subst hrs
  have view : ∀ (E : Env) (h : List ABlk) (l : List AV) (vs : Array Value), HR E h → FR E l vs → roObL h l → FR E.view (roL h l) vs := by
    intro E h l vs H F ho
    refine ⟨by rw [roL_length]; exact F.1, fun i a v ha hv => ?_⟩
    rw [roL_get] at ha
    cases hi : l[i]? with
    | none => rw [hi] at ha; cases ha
    | some a0 =>
      rw [hi] at ha
      simp only [Option.map_some, Option.some.injEq] at ha
      subst ha
      exact ro_VR H (F.2 i a0 v hi hv) (roObL_get ho hi)
  have tops : ∀ {E : Env} {l' : List AV} {vs : Array Value}, FR E l' vs → FR E (l' ++ List.replicate (fn.ntmps - l'.length) .top) (vs ++ Array.replicate (fn.ntmps - vs.size) undef) := by
    intro E l' vs F1
    refine FR_append F1 ⟨by simp [F1.1], fun i a v ha hv => ?_⟩
    rw [List.getElem?_replicate] at ha
    split at ha
    · injection ha with ha; subst ha; exact .top _
    · cases ha
  have main : ∀ (E : Env) (h : List ABlk) (l : List AV) (vs : Array Value) (ob : Prop) (v : AV), HR E h → FR E l vs → freshC body l h = .pure ob v → ob → Calls P f vs E.w (RetP E.w v) := by
    intro E h l vs ob v H F hr hob
    unfold freshC at hr
    cases hbd : body (roL h l) with
    | fail => rw [hbd] at hr; cases hr
    | heap a b c => rw [hbd] at hr; cases hr
    | pure ob' v' =>
      rw [hbd] at hr
      simp only [freshR, AR.pure.injEq] at hr
      obtain ⟨rfl, rfl⟩ := hr
      obtain ⟨l', t, g1, g2, rfl, g3⟩ := hwp _ _ _ hbd hob.2
      have F2 := tops (g1 _ _ (view E h l vs H F hob.1))
      refine calls_of_wp hf hb ?_
      refine wpC_sound S C code _ _ _ g3 E.view _ _ (view_HR E) F2 rfl fun e E' a' t' h' hk X H' F' hd => ?_
      have done : retK P fn.results.toList (fun w _ => w = v') t' h' → a'.defers = [] ∧ ∃ u, (results fn a'.tmps).run P E'.w = .ok u E'.w ∧ RetP E.w v' (.returned u) E'.w := by
        intro hk
        obtain ⟨u, v', q1, rfl, q3⟩ := ret_sound (P := P) H' F' hk
        refine ⟨hd, u, q1, u, rfl, ?_, ⟨X.os, X.tape, X.output, X.size, fun k hk => X.frame k hk ?_⟩⟩
        · cases hc : conc v' with
          | none => rw [hc] at g2; cases g2
          | some u0 => rw [conc_VR hc q3]
        · rintro ⟨b, x, o, hb, _⟩; simp at hb
      cases e with
      | normal => exact done hk
      | ret => exact done hk
      | exit id => exact hk.elim
      | goto l => exact hk.elim
  refine ⟨⟨fn, hf, hn, by rw [hb]; rfl⟩, fun E h l vs ob v h' H F hr hob => ?_, main⟩
  cases hc : freshC body l h with
  | fail => rw [hc] at hr; cases hr
  | pure ob' v' =>
    rw [hc] at hr
    simp only [AR.out, Option.some.injEq, Prod.mk.injEq] at hr
    obtain ⟨rfl, rfl, rfl⟩ := hr
    refine (main E h l vs _ _ H F hc hob).mono ?_
    rintro e w' ⟨u, rfl, hu, hS⟩
    obtain ⟨H', X'⟩ := HR_same H hS
    exact ⟨u, _, rfl, rfl, X', H', conc_mk hu⟩
  | heap ob' v' h2 =>
    rw [hc] at hr
    simp only [AR.out, Option.some.injEq, Prod.mk.injEq] at hr
    obtain ⟨rfl, rfl, rfl⟩ := hr
    unfold freshC at hc
    cases hbd : body (roL h l) with
    | fail => rw [hbd] at hc; cases hc
    | pure a b => rw [hbd] at hc; cases hc
    | heap ob2 v2 ns =>
      rw [hbd] at hc
      simp only [freshR, AR.heap.injEq] at hc
      obtain ⟨rfl, rfl, rfl⟩ := hc
      obtain ⟨l', t, g1, g2, g2', rfl, g3⟩ := hwh _ _ _ _ hbd hob.2
      have F2 := tops (g1 _ _ (view E h l vs H F hob.1))
      refine calls_of_wp hf hb ?_
      refine wpC_sound S C code _ _ _ g3 E.view _ _ (view_HR E) F2 rfl fun e E1 a' t' h1 hk X1 H1 F' hd => ?_
      have done : retK P fn.results.toList (SubV v2 ns) t' h1 → a'.defers = [] ∧ ∃ u, (results fn a'.tmps).run P E1.w = .ok u E1.w ∧ Ret E h (h ++ ns) (ren 0 h.length v2) (.returned u) E1.w := by
        intro hk
        obtain ⟨u, v', q1, ⟨ν, c1, c2, c3⟩, q3⟩ := ret_sound (P := P) H1 F' hk
        refine ⟨hd, u, q1, ?_⟩
        -- the callee's world, its new blocks numbered from 0 on
        have H3 : HR (E1.via ν) ns := (via_HR H1 c2 c3).1
        have hown3 : ∀ k, Own (E1.via ν) ns k → E.w.heap.size ≤ k := fun k hk => by
          rcases X1.own k ((via_HR H1 c2 c3).2 k hk) with h' | h'
          · obtain ⟨b, x, o, hb, _⟩ := h'; simp at hb
          · exact h'
        have hV : VR (E1.via ν) v2 u := Cv_sound q3 _ c1
        have hold : ∀ k, k < E.w.heap.size → E1.w.heap[k]? = E.w.heap[k]? := fun k hk => X1.frame k hk (by rintro ⟨b, x, o, hb, _⟩; simp at hb)
        generalize hE3 : E1.via ν = E3 at H3 hown3 hV
        have hw3 : E3.w = E1.w := by rw [← hE3]; rfl
        let σ2 : Nat → Option (Nat × Nat) := fun b => if b < h.length then E.σ b else E3.σ (b - h.length)
        let E2 : Env := ⟨E1.w, σ2, E.prot⟩
        have s1 : ∀ b, b < h.length → E2.σ b = E.σ b := fun b hb => if_pos hb
        have s2 : ∀ b, ¬ b < h.length → E2.σ b = E3.σ (b - h.length) := fun b hb => if_neg hb
        have hlt : ∀ b x, E.σ b = some x → b < h.length := by
          intro b x hb
          rcases Nat.lt_or_ge b h.length with h' | h'
          · exact h'
          · rw [H.fresh b h'] at hb; cases hb
        have K2 : Keep E E2 := ⟨fun b x hb => by rw [s1 b (hlt b x hb)]; exact hb, fun _ h => h, fun k hk => hold k (H.prot k hk).1, fun k cs e hk => ⟨cs, (hold k (lt_of_some hk)).trans hk, rfl⟩⟩
        have hget : ∀ {b : Nat} {x : ABlk}, (h ++ ns)[b]? = some x → (b < h.length ∧ h[b]? = some x) ∨ (¬ b < h.length ∧ ns[b - h.length]? = some x) := by
          intro b x hb
          by_cases hbl : b < h.length
          · rw [List.getElem?_append_left hbl] at hb; exact .inl ⟨hbl, hb⟩
          · rw [List.getElem?_append_right (by omega)] at hb; exact .inr ⟨hbl, hb⟩
        have hown : ∀ k, Own E2 (h ++ ns) k → Own E h k ∨ E.w.heap.size ≤ k := by
          rintro k ⟨b, x, o, q1, q2, q3⟩
          rcases hget q1 with ⟨hb, q1⟩ | ⟨hb, q1⟩
          · rw [s1 b hb] at q3; exact .inl ⟨b, x, o, q1, q2, q3⟩
          · rw [s2 b hb] at q3; exact .inr (hown3 k ⟨_, x, o, q1, q2, q3⟩)
        refine ⟨u, E2, rfl, rfl, ⟨X1.os, X1.tape, X1.output, K2.σ, fun _ h => h, X1.size, K2.kind, fun k hk _ => hold k hk, hown, by simp, s1, fun _ h => .inl h⟩, ⟨fun b x hb => ?_, fun b b' x x' k o o' h1 h2 h3 h4 h5 h6 => ?_, fun k hk => ?_, fun b hb => ?_⟩, ?_⟩
        · by_cases hd : x = .dead
          · subst hd; trivial
          rcases hget hb with ⟨hbl, hb'⟩ | ⟨hbl, hb'⟩
          · exact (H.blk b x hb').mono K2 (s1 b hbl) fun k o hk => hold k ((H.blk b x hb').lt hd hk)
          · have hB := H3.blk _ x hb'
            have hF := flatH_get g2' hb'
            cases x with
            | dead => trivial
            | lit e l =>
              obtain ⟨k, o, cs, r1, r2, r3, r4⟩ := hB
              exact ⟨k, o, cs, (s2 b hbl).trans r1, by rw [← hw3]; exact r2, r3, fun j a hj => by obtain ⟨v, y1, y2, y3⟩ := r4 j a hj; exact ⟨v, y1, y2, VR.flat (E := E3) (E' := E2) hw3.symm y3 ⟨nrefL_get hF.1 hj, noroL_get hF.2 hj⟩⟩⟩
            | row e es n c =>
              unfold BR at hB ⊢
              rw [s2 b hbl]
              cases hs : E3.σ (b - h.length) with
              | none => rw [hs] at hB; exact hB
              | some p =>
                rw [hs] at hB
                obtain ⟨cs, r1, r2, r3⟩ := hB
                exact ⟨cs, by rw [← hw3]; exact r1, r2, fun x y hx hy => by obtain ⟨v, y1, y2, y3⟩ := r3 x y hx hy; exact ⟨v, y1, y2, VR.flat (E := E3) (E' := E2) hw3.symm y3 (hF x y hx hy)⟩⟩
        · rcases hget h1 with ⟨b1, m1⟩ | ⟨b1, m1⟩ <;> rcases hget h3 with ⟨b3, m3⟩ | ⟨b3, m3⟩
          · rw [s1 b b1] at h5; rw [s1 b' b3] at h6; exact H.inj b b' x x' k o o' m1 h2 m3 h4 h5 h6
          · rw [s1 b b1] at h5; rw [s2 b' b3] at h6
            have := (H.blk b x m1).lt h2 h5
            have := hown3 k ⟨_, x', o', m3, h4, h6⟩
            omega
          · rw [s2 b b1] at h5; rw [s1 b' b3] at h6
            have := (H.blk b' x' m3).lt h4 h6
            have := hown3 k ⟨_, x, o, m1, h2, h5⟩
            omega
          · rw [s2 b b1] at h5; rw [s2 b' b3] at h6
            have := H3.inj _ _ x x' k o o' m1 h2 m3 h4 h5 h6
            omega
        · obtain ⟨p1, p2⟩ := H.prot k hk
          refine ⟨Nat.lt_of_lt_of_le p1 X1.size, fun ho => ?_⟩
          rcases hown k ho with h' | h'
          · exact p2 h'
          · omega
        · have hb1 : ¬ b < h.length := by simp at hb; omega
          rw [s2 b hb1]
          exact H3.fresh _ (by simp at hb; omega)
        · refine VR.exp (E := E3) (E' := E2) hw3.symm (fun b x hb => ?_) hV g2
          have : rnN 0 h.length b = h.length + b := by simp [rnN]
          rw [this, s2 _ (by omega), Nat.add_sub_cancel_left]; exact hb
      cases e with
      | normal => exact done hk
      | ret => exact done hk
      | exit id => exact hk.elim
      | goto l => exact hk.elim
end Go.Am
