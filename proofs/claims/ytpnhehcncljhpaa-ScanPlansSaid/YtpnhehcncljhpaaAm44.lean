/-
  The abstract machine, part 44: contracts of functions that change memory that they are given: the named blocks are theirs, all else they see by what may be read.
-/
import Derived.Test.YtpnhehcncljhpaaAm43
namespace Go.Am
set_option linter.unusedVariables false
variable {P : Program} {E : Env} {h : List ABlk}

/-! ### Numbers anew -/
def rhoN : List Nat → Nat → Nat → Nat
  | [], s, i => s + i
  | b :: _, _, 0 => b
  | _ :: l, s, i + 1 => rhoN l s i
mutual
def rnm (bs : List Nat) (s : Nat) : AV → AV
  | .ptr b es i j => .ptr (rhoN bs s b) es i j
  | .sl b es i n nl => .sl (rhoN bs s b) es i n nl
  | .isl b es i j z n => .isl (rhoN bs s b) es i j z n
  | .csl b es i n c => .csl (rhoN bs s b) es i n c
  | .agg l => .agg (rnmL bs s l)
  | .tup l => .tup (rnmL bs s l)
  | .fn f l => .fn f (rnmL bs s l)
  | .opt g v => .opt g (rnm bs s v)
  | .rptr es n i j c => .rptr es n i j c
  | .ro es n nl c => .ro es n nl c
  | .top => .top
  | .bool b => .bool b
  | .int k n => .int k n
  | .str s => .str s
  | .nilp => .nilp
  | .emp => .emp
  | .nilf => .nilf
  | .ub => .ub
  | .val v => .val v
def rnmL (bs : List Nat) (s : Nat) : List AV → List AV
  | [] => []
  | a :: l => rnm bs s a :: rnmL bs s l
end
theorem rnmL_get (bs : List Nat) (s : Nat) (l : List AV) (i : Nat) : (rnmL bs s l)[i]? = (l[i]?).map (rnm bs s) := by
  induction l generalizing i with
  | nil => simp [rnmL]
  | cons a l ih => cases i <;> simp [rnmL, ih]
theorem rnmL_length (bs : List Nat) (s : Nat) (l : List AV) : (rnmL bs s l).length = l.length := by
  induction l with
  | nil => rfl
  | cons a l ih => simp [rnmL, ih]
theorem VR.rnm {E' : Env} {bs : List Nat} {s : Nat} (hw : E'.w = E.w) (hp : E'.prot = E.prot) (hσ : ∀ b x, E.σ b = some x → E'.σ (rhoN bs s b) = some x) {a : AV} {v : Value} (h : VR E a v) : VR E' (rnm bs s a) v := by
  have vw : ∀ {a v}, VR E a v → nref a → VR E' a v := fun h hn => VR.view (E := E) (E' := E') (fun k hk => ⟨by rw [hp]; exact hk, by rw [hw]⟩) h hn
  have lst : ∀ (l : List AV) (vs : Array Value), l.length = vs.size → (∀ (i : Nat) (a : AV) (v : Value), l[i]? = some a → vs[i]? = some v → VR E' (Am.rnm bs s a) v) →
      (rnmL bs s l).length = vs.size ∧ ∀ (i : Nat) (a : AV) (v : Value), (rnmL bs s l)[i]? = some a → vs[i]? = some v → VR E' a v := by
    intro l vs hl ih
    refine ⟨by rw [rnmL_length, hl], fun i a v ha hv => ?_⟩
    rw [rnmL_get] at ha
    cases hi : l[i]? with
    | none => rw [hi] at ha; cases ha
    | some a0 =>
      rw [hi] at ha
      simp only [Option.map_some, Option.some.injEq] at ha
      subst ha
      exact ih i a0 v hi hv
  induction h with
  | top v => simp only [Am.rnm]; exact .top v
  | bool b => simp only [Am.rnm]; exact .bool b
  | int k n => simp only [Am.rnm]; exact .int k n
  | str s => simp only [Am.rnm]; exact .str s
  | nilp => simp only [Am.rnm]; exact .nilp
  | ptr b es i j k o h => simp only [Am.rnm]; exact .ptr _ es i j k o (hσ _ _ h)
  | rptr es m i j k o c u hp' hu h1 hc hrf ih => simp only [Am.rnm]; exact vw (.rptr es m i j k o c u hp' hu h1 hc hrf) (by simp only [nref])
  | sl b es i m nl a cap hm hcm hnl hz hc =>
    simp only [Am.rnm]
    refine .sl _ es i m nl a cap hm hcm hnl hz fun hp' => ?_
    obtain ⟨k, o, cs, e, g1, g2, g3, g4⟩ := hc hp'
    exact ⟨k, o, cs, e, hσ _ _ g1, g2, by rw [hw]; exact g3, g4⟩
  | isl b es i j z m cap k o hm hcm h => simp only [Am.rnm]; exact .isl _ es i j z m cap k o hm hcm (hσ _ _ h)
  | csl b es i m c a hm hcm hc => simp only [Am.rnm]; exact .csl _ es i m c a hm hcm fun hp => by obtain ⟨k, o, cs, e, h1, h2, h3, h4⟩ := hc hp; exact ⟨k, o, cs, e, hσ _ _ h1, h2, by rw [hw]; exact h3, h4⟩
  | ro es m nl c a cap hm hcm hnl hz u ha h1 hc hrf ih => simp only [Am.rnm]; exact vw (.ro es m nl c a cap hm hcm hnl hz u ha h1 hc hrf) (by simp only [nref])
  | emp a => simp only [Am.rnm]; exact .emp a
  | agg l vs hl h1 h ih => simp only [Am.rnm]; obtain ⟨q1, q2⟩ := lst l vs hl ih; exact .agg _ vs q1 h1 q2
  | tup l vs hl h ih => simp only [Am.rnm]; obtain ⟨q1, q2⟩ := lst l vs hl ih; exact .tup _ vs q1 q2
  | fn f l vs hl h ih => simp only [Am.rnm]; obtain ⟨q1, q2⟩ := lst l vs hl ih; exact .fn f _ vs q1 q2
  | nilf => simp only [Am.rnm]; exact .nilf
  | ub b => simp only [Am.rnm]; exact .ub b
  | val v h1 => simp only [Am.rnm]; exact .val v h1
  | opt_t a v h ih => simp only [Am.rnm]; exact .opt_t _ v ih
  | opt_f a => simp only [Am.rnm]; exact .opt_f _
def rnmB (bs : List Nat) (s : Nat) : ABlk → ABlk
  | .dead => .dead
  | .lit e l => .lit e (rnmL bs s l)
  | .row e es n c => .row e es n c
def rnmH (bs : List Nat) (s : Nat) : List ABlk → List ABlk
  | [] => []
  | x :: l => rnmB bs s x :: rnmH bs s l
theorem rnmH_get (bs : List Nat) (s : Nat) (l : List ABlk) (i : Nat) : (rnmH bs s l)[i]? = (l[i]?).map (rnmB bs s) := by
  induction l generalizing i with
  | nil => simp [rnmH]
  | cons a l ih => cases i <;> simp [rnmH, ih]
theorem rnmH_length (bs : List Nat) (s : Nat) (l : List ABlk) : (rnmH bs s l).length = l.length := by
  induction l with
  | nil => rfl
  | cons a l ih => simp [rnmH, ih]
theorem rnmB_dead {bs : List Nat} {s : Nat} {x : ABlk} (hx : rnmB bs s x ≠ .dead) : x ≠ .dead := by
  rintro rfl; exact hx rfl
/-- Rows hold no own memory. -/
def nfB : ABlk → Prop
  | .row _ es n c => ∀ x y, x < n → y < es → nref (c x y)
  | _ => True
def nfBs : List ABlk → Prop
  | [] => True
  | x :: l => nfB x ∧ nfBs l
theorem nfBs_get {l : List ABlk} (hn : nfBs l) {i : Nat} {x : ABlk} (hi : l[i]? = some x) : nfB x := by
  induction l generalizing i with
  | nil => simp at hi
  | cons b l ih =>
    simp only [nfBs] at hn
    cases i with
    | zero => simp at hi; subst hi; exact hn.1
    | succ i => exact ih hn.2 (by simpa using hi)
def putH (h : List ABlk) : List Nat → List ABlk → List ABlk
  | b :: bs, x :: g => putH (seth h b x) bs g
  | _, _ => h
def dropH : List Nat → List ABlk → List ABlk
  | _ :: bs, _ :: g => dropH bs g
  | [], g => g
  | _ :: _, [] => []
def nodupB : List Nat → Bool
  | [] => true
  | b :: l => !inL b l && nodupB l
theorem nodupB_iff {l : List Nat} (hn : nodupB l = true) : ∀ (i j b : Nat), l[i]? = some b → l[j]? = some b → i = j := by
  induction l with
  | nil => intro i j b hi; simp at hi
  | cons a l ih =>
    simp only [nodupB, Bool.and_eq_true, Bool.not_eq_true'] at hn
    have ha : a ∉ l := fun hm => by have := inL_mem.2 hm; rw [hn.1] at this; cases this
    intro i j b hi hj
    cases i with
    | zero =>
      simp at hi; subst hi
      cases j with
      | zero => rfl
      | succ j => exact absurd (List.mem_of_getElem? (by simpa using hj)) ha
    | succ i =>
      cases j with
      | zero => simp at hj; subst hj; exact absurd (List.mem_of_getElem? (by simpa using hi)) ha
      | succ j => rw [ih hn.2 i j b (by simpa using hi) (by simpa using hj)]
theorem putH_len : ∀ (bs : List Nat) (g h : List ABlk), (putH h bs g).length = h.length
  | [], _, _ => by simp [putH]
  | _ :: _, [], _ => by simp [putH]
  | b :: bs, x :: g, h => by simp only [putH]; rw [putH_len, seth_len]
theorem putH_out : ∀ (bs : List Nat) (g h : List ABlk) (b : Nat), b ∉ bs → (putH h bs g)[b]? = h[b]?
  | [], _, _, _, _ => by simp [putH]
  | _ :: _, [], _, _, _ => by simp [putH]
  | a :: bs, x :: g, h, b, hb => by
    simp only [putH]
    rw [putH_out bs g _ b (fun hm => hb (List.mem_cons_of_mem _ hm)), seth_set, List.getElem?_set_ne (fun e => hb (by rw [e]; exact List.mem_cons_self ..))]
theorem putH_in : ∀ (bs : List Nat) (g h : List ABlk) (i b : Nat) (x : ABlk), nodupB bs = true → b < h.length → bs[i]? = some b → g[i]? = some x → (putH h bs g)[b]? = some x
  | [], _, _, i, b, x, _, _, hi, _ => by simp at hi
  | _ :: _, [], _, i, b, x, _, _, _, hg => by simp at hg
  | a :: bs, y :: g, h, i, b, x, hn, hb, hi, hg => by
    have hn' := hn
    simp only [nodupB, Bool.and_eq_true, Bool.not_eq_true'] at hn
    simp only [putH]
    cases i with
    | zero =>
      simp at hi hg; subst hi hg
      rw [putH_out bs g _ a (fun hm => by have := inL_mem.2 hm; rw [hn.1] at this; cases this), seth_set, List.getElem?_set_self hb]
    | succ i => exact putH_in bs g _ i b x hn.2 (by rw [seth_len]; exact hb) (by simpa using hi) (by simpa using hg)
theorem dropH_get : ∀ (bs : List Nat) (g : List ABlk) (i : Nat), (dropH bs g)[i]? = g[bs.length + i]?
  | [], g, i => by simp [dropH]
  | b :: bs, [], i => by simp [dropH]
  | b :: bs, x :: g, i => by
    simp only [dropH]
    rw [dropH_get, List.length_cons, show bs.length + 1 + i = (bs.length + i) + 1 from by omega, List.getElem?_cons_succ]
theorem dropH_len : ∀ (bs : List Nat) (g : List ABlk), (dropH bs g).length = g.length - bs.length
  | [], g => by simp [dropH]
  | b :: bs, [] => by simp [dropH]
  | b :: bs, x :: g => by simp only [dropH]; rw [dropH_len]; simp
theorem rhoN_in : ∀ {bs : List Nat} {s i b : Nat}, bs[i]? = some b → rhoN bs s i = b
  | [], _, i, b, h => by simp at h
  | a :: bs, s, 0, b, h => by simp at h; simp [rhoN, h]
  | a :: bs, s, i + 1, b, h => by simp only [rhoN]; exact rhoN_in (by simpa using h)
theorem rhoN_out : ∀ {bs : List Nat} {s i : Nat}, bs.length ≤ i → rhoN bs s i = s + (i - bs.length)
  | [], s, i, _ => by simp [rhoN]
  | a :: bs, s, 0, h => by simp at h
  | a :: bs, s, i + 1, h => by
    simp only [rhoN]
    rw [rhoN_out (by simpa using h)]
    simp

/-! ### Inside -/
def toMu (bs : List Nat) : Mu := bs.map some
theorem toMu_get (bs : List Nat) (i : Nat) : getM (toMu bs) i = bs[i]? := by
  induction bs generalizing i with
  | nil => rfl
  | cons b bs ih => cases i with
    | zero => rfl
    | succ i => simpa [toMu, getM] using ih i
theorem in_σ (E : Env) (bs : List Nat) (i : Nat) : (E.via (toMu bs)).σ i = (bs[i]?).bind E.σ := by
  show (getM (toMu bs) i).bind E.σ = _
  rw [toMu_get]
theorem in_HR (H : HR E h) {bs : List Nat} {h0 : List ABlk} (hn : nodupB bs = true) (hl : h0.length = bs.length) (hd : ∀ (i b : Nat), bs[i]? = some b → geth h b ≠ .dead)
    (hb : ∀ (i : Nat) (x0 : ABlk), h0[i]? = some x0 → BR (E.via (toMu bs)) i x0) : HR (E.via (toMu bs)) h0 := by
  have own : ∀ k, Own (E.via (toMu bs)) h0 k → Own E h k := by
    rintro k ⟨i, x, o, q1, q2, q3⟩
    rw [in_σ] at q3
    cases hi : bs[i]? with
    | none => rw [hi] at q3; cases q3
    | some b => rw [hi] at q3; exact ⟨b, _, o, geth_some (hd i b hi), hd i b hi, q3⟩
  refine ⟨hb, fun i j x y k o o' h1 h2 h3 h4 h5 h6 => ?_, fun k hk => ⟨(H.prot k hk).1, fun ho => (H.prot k hk).2 (own k ho)⟩, fun i hi => ?_⟩
  · rw [in_σ] at h5 h6
    cases hi : bs[i]? with
    | none => rw [hi] at h5; cases h5
    | some b =>
      cases hj : bs[j]? with
      | none => rw [hj] at h6; cases h6
      | some b' =>
        rw [hi] at h5; rw [hj] at h6
        have := H.inj b b' _ _ k o o' (geth_some (hd i b hi)) (hd i b hi) (geth_some (hd j b' hj)) (hd j b' hj) h5 h6
        subst this
        exact nodupB_iff hn i j b hi hj
  · rw [in_σ, List.getElem?_eq_none (by omega)]; rfl

/-- The result of a run inside: the first n blocks keep their numbers. -/
def RetE (n : Nat) (v0 : AV) (g0 : List ABlk) (v' : AV) (hf : List ABlk) : Prop :=
  ∃ fz, fzOb hf fz v' ∧ fzObH hf fz hf ∧ ∃ ν : Mu, Cv ν v0 (fzV hf fz v') ∧ CvH ν (fzH hf fz) g0 ν ∧ injM (liveM ν g0) = true ∧ idM 0 n ν = true
theorem out_BR {E3 E2 : Env} {bs : List Nat} {s i j : Nat} {x : ABlk} (hw : E2.w = E3.w) (hp : E2.prot = E3.prot) (hσ : ∀ b x, E3.σ b = some x → E2.σ (rhoN bs s b) = some x) (he : E2.σ j = E3.σ i) (hn : nfB x) (hB : BR E3 i x) : BR E2 j (rnmB bs s x) := by
  have V : ∀ {a : AV} {v : Value}, VR E3 a v → VR E2 (rnm bs s a) v := fun hv => VR.rnm (E := E3) (E' := E2) hw hp hσ hv
  cases x with
  | dead => trivial
  | lit e l =>
    obtain ⟨k, o, cs, r1, r2, r3, r4⟩ := hB
    refine ⟨k, o, cs, he.trans r1, by rw [hw]; exact r2, by rw [rnmL_length]; exact r3, fun j a hj => ?_⟩
    rw [rnmL_get] at hj
    cases hl : l[j]? with
    | none => rw [hl] at hj; cases hj
    | some a0 =>
      rw [hl] at hj
      simp only [Option.map_some, Option.some.injEq] at hj
      subst hj
      obtain ⟨v, y1, y2, y3⟩ := r4 j a0 hl
      exact ⟨v, y1, y2, V y3⟩
  | row e es n c =>
    simp only [nfB] at hn
    simp only [rnmB]
    unfold BR at hB ⊢
    rw [he]
    cases hs : E3.σ i with
    | none => rw [hs] at hB; exact hB
    | some p =>
      rw [hs] at hB
      obtain ⟨cs, r1, r2, r3⟩ := hB
      exact ⟨cs, by rw [hw]; exact r1, r2, fun x y hx hy => by
        obtain ⟨v, y1, y2, y3⟩ := r3 x y hx hy
        exact ⟨v, y1, y2, VR.view (E := E3) (E' := E2) (fun k hk => ⟨by rw [hp]; exact hk, by rw [hw]⟩) y3 (hn x y hx hy)⟩⟩

theorem edit_gen {f : FuncId} {fn : Func} {code : Code} (c : List AV → List ABlk → AR) {rs : List ResultVar}
    (hf : P.funcs[f]? = some fn) (hn : (fn.name == "runtime.NumGoroutine") = false) (hb : fn.body = some code) (hrs : fn.results.toList = rs) (hnp : ∀ l h ob v, c l h ≠ .pure ob v)
    (hw : ∀ (l : List AV) (h : List ABlk) (ob : Prop) (v : AV) (h' : List ABlk), c l h = .heap ob v h' → ob → ∃ (bs : List Nat) (l' : List AV) (h0 : List ABlk) (v0 : AV) (g0 : List ABlk),
      nodupB bs = true ∧ h0.length = bs.length ∧ (∀ (i b : Nat), bs[i]? = some b → geth h b ≠ .dead) ∧
      (∀ E, HR E h → ∀ (i : Nat) (x0 : ABlk), h0[i]? = some x0 → BR (E.via (toMu bs)) i x0) ∧ (∀ E vs, HR E h → FR E l vs → FR (E.via (toMu bs)) l' vs) ∧
      v = rnm bs h.length v0 ∧ h' = putH h bs (rnmH bs h.length g0) ++ rnmH bs h.length (dropH bs g0) ∧ nfBs g0 ∧
      Mean P code (kRet P rs (RetE bs.length v0 g0)) (l' ++ List.replicate (fn.ntmps - l'.length) .top) h0) : FnOk P f c := by
  subst hrs
  have tops : ∀ {E : Env} {l' : List AV} {vs : Array Value}, FR E l' vs → FR E (l' ++ List.replicate (fn.ntmps - l'.length) .top) (vs ++ Array.replicate (fn.ntmps - vs.size) undef) := by
    intro E l' vs F1
    refine FR_append F1 ⟨by simp [F1.1], fun i a v ha hv => ?_⟩
    rw [List.getElem?_replicate] at ha
    split at ha
    · injection ha with ha; subst ha; exact .top _
    · cases ha
  refine ⟨⟨fn, hf, hn, by rw [hb]; rfl⟩, fun E h l vs ob v h' H F hr hob => ?_, fun E h l vs ob v H F hr hob => absurd hr (hnp _ _ _ _)⟩
  cases hc : c l h with
  | fail => rw [hc] at hr; cases hr
  | pure a b => exact absurd hc (hnp _ _ _ _)
  | heap ob2 v2 h2 =>
    rw [hc] at hr
    simp only [AR.out, Option.some.injEq, Prod.mk.injEq] at hr
    obtain ⟨rfl, rfl, rfl⟩ := hr
    obtain ⟨bs, l', h0, v0, g0, e1, e2, e3, e4, e5, e6, e7, e8, g4⟩ := hw l h _ _ _ hc hob
    have H0 := in_HR H e1 e2 e3 (e4 E H)
    have F0 := tops (e5 E vs H F)
    have blt : ∀ {i b : Nat}, bs[i]? = some b → b < h.length := fun hi => geth_lt (e3 _ _ hi)
    have own0 : ∀ k, Own (E.via (toMu bs)) h0 k → ∃ (i b o : Nat), bs[i]? = some b ∧ E.σ b = some (k, o) := by
      rintro k ⟨i, x, o, q1, q2, q3⟩
      rw [in_σ] at q3
      cases hi : bs[i]? with
      | none => rw [hi] at q3; cases q3
      | some b => rw [hi] at q3; exact ⟨i, b, o, hi, q3⟩
    have own1 : ∀ k, Own (E.via (toMu bs)) h0 k → Own E h k := fun k hk => by
      obtain ⟨i, b, o, q1, q2⟩ := own0 k hk
      exact ⟨b, _, o, geth_some (e3 i b q1), e3 i b q1, q2⟩
    refine calls_of_wp hf hb ?_
    refine g4 (E.via (toMu bs)) _ _ H0 F0 rfl fun e E1 a' t' h1 hk X1 H1 F' hd => ?_
    have done : retK P fn.results.toList (RetE bs.length v0 g0) t' h1 → a'.defers = [] ∧ ∃ u, (results fn a'.tmps).run P E1.w = .ok u E1.w ∧ Ret E h h2 v2 (.returned u) E1.w := by
      intro hk
      obtain ⟨u, v', q1, ⟨fz, z1, z2, ν, c1, c2, c3, c4⟩, q3⟩ := ret_sound (P := P) H1 F' hk
      refine ⟨hd, u, q1, ?_⟩
      obtain ⟨Hf, Xf⟩ := fz_HR H1 z2
      have hv1 := fz_VR H1 q3 z1
      have H3 := (via_HR Hf c2 c3).1
      have X3 := via_Ext H0 Hf (X1.trans Xf) c2 c3 (by rw [e2]; exact c4)
      have V3 : VR ((E1.fz h1 fz).via ν) v0 u := Cv_sound hv1 _ c1
      have hgl : bs.length ≤ g0.length := by rw [(CvH_get c2).1]; exact idM_len _ _ _ c4
      have hw3 : ((E1.fz h1 fz).via ν).w = E1.w := rfl
      generalize (E1.fz h1 fz).via ν = E3 at H3 X3 V3 hw3
      have old3 : ∀ (i b : Nat), bs[i]? = some b → E3.σ i = E.σ b := fun i b hi => by
        rw [X3.old i (by rw [e2]; exact (List.getElem?_eq_some_iff.1 hi).1), in_σ, hi]; rfl
      let σ2 : Nat → Option (Nat × Nat) := fun b => if b < h.length then E.σ b else E3.σ (bs.length + (b - h.length))
      let E2 : Env := ⟨E3.w, σ2, E3.prot⟩
      have s1 : ∀ b, b < h.length → E2.σ b = E.σ b := fun b hb => if_pos hb
      have s2 : ∀ b, ¬ b < h.length → E2.σ b = E3.σ (bs.length + (b - h.length)) := fun b hb => if_neg hb
      have hlt : ∀ b x, E.σ b = some x → b < h.length := by
        intro b x hb
        rcases Nat.lt_or_ge b h.length with h' | h'
        · exact h'
        · rw [H.fresh b h'] at hb; cases hb
      have hρ : ∀ i, E2.σ (rhoN bs h.length i) = E3.σ i := fun i => by
        rcases Nat.lt_or_ge i bs.length with hi | hi
        · have hb : bs[i]? = some bs[i] := List.getElem?_eq_getElem hi
          rw [rhoN_in hb, s1 _ (blt hb), old3 i _ hb]
        · rw [rhoN_out hi, s2 _ (by omega)]; congr 1; omega
      have same : ∀ k, k < E.w.heap.size → (∀ (i b o : Nat), bs[i]? = some b → E.σ b ≠ some (k, o)) → E3.w.heap[k]? = E.w.heap[k]? := fun k hk hno =>
        X3.frame k hk fun ho => by obtain ⟨i, b, o, q1, q2⟩ := own0 k ho; exact hno i b o q1 q2
      have K2 : Keep E E2 := ⟨fun b x hb => by rw [s1 b (hlt b x hb)]; exact hb, X3.prot, fun k hk => X3.frame k (H.prot k hk).1 fun ho => (H.prot k hk).2 (own1 k ho), X3.kind⟩
      -- where a block of the new heap comes from
      have hget : ∀ {b : Nat} {x : ABlk}, (putH h bs (rnmH bs h.length g0) ++ rnmH bs h.length (dropH bs g0))[b]? = some x →
          (∃ (i : Nat) (x0 : ABlk), b = rhoN bs h.length i ∧ g0[i]? = some x0 ∧ x = rnmB bs h.length x0) ∨ (b < h.length ∧ b ∉ bs ∧ h[b]? = some x) := by
        intro b x hb
        by_cases hbl : b < h.length
        · rw [List.getElem?_append_left (by rw [putH_len]; exact hbl)] at hb
          by_cases hm : b ∈ bs
          · obtain ⟨i, hi⟩ := List.mem_iff_getElem?.1 hm
            have hi' : i < g0.length := Nat.lt_of_lt_of_le (List.getElem?_eq_some_iff.1 hi).1 hgl
            rw [putH_in bs _ h i b (rnmB bs h.length g0[i]) e1 hbl hi (by rw [rnmH_get, List.getElem?_eq_getElem hi']; rfl)] at hb
            injection hb with hb
            exact .inl ⟨i, g0[i], (rhoN_in hi).symm, List.getElem?_eq_getElem hi', hb.symm⟩
          · rw [putH_out bs _ h b hm] at hb
            exact .inr ⟨hbl, hm, hb⟩
        · rw [List.getElem?_append_right (by rw [putH_len]; omega), putH_len, rnmH_get, dropH_get] at hb
          cases hg : g0[bs.length + (b - h.length)]? with
          | none => rw [hg] at hb; cases hb
          | some x0 =>
            rw [hg] at hb
            simp only [Option.map_some, Option.some.injEq] at hb
            exact .inl ⟨_, x0, by rw [rhoN_out (by omega)]; omega, hg, hb.symm⟩
      have hown3 : ∀ {i : Nat} {x0 : ABlk} {k o : Nat}, g0[i]? = some x0 → x0 ≠ .dead → E3.σ i = some (k, o) → (∃ (j b o : Nat), bs[j]? = some b ∧ E.σ b = some (k, o)) ∨ E.w.heap.size ≤ k := fun h1 h2 h3 =>
        (X3.own _ ⟨_, _, _, h1, h2, h3⟩).imp (own0 _) id
      have apart : ∀ {b : Nat} {x : ABlk} {k o : Nat}, b ∉ bs → h[b]? = some x → x ≠ .dead → E.σ b = some (k, o) → ∀ (i b' o' : Nat), bs[i]? = some b' → E.σ b' ≠ some (k, o') := by
        intro b x k o hm h1 h2 h3 i b' o' h4 h5
        have := H.inj b b' x _ k o o' h1 h2 (geth_some (e3 i b' h4)) (e3 i b' h4) h3 h5
        subst this
        exact hm (List.mem_of_getElem? h4)
      have hown : ∀ k, Own E2 h2 k → Own E h k ∨ E.w.heap.size ≤ k := by
        rintro k ⟨b, x, o, q1, q2, q3⟩
        rw [e7] at q1
        rcases hget q1 with ⟨i, x0, rfl, r1, rfl⟩ | ⟨r1, r2, r3⟩
        · rw [hρ] at q3
          rcases hown3 r1 (rnmB_dead q2) q3 with ⟨j, b, o, a1, a2⟩ | h'
          · exact .inl ⟨b, _, o, geth_some (e3 j b a1), e3 j b a1, a2⟩
          · exact .inr h'
        · rw [s1 b r1] at q3; exact .inl ⟨b, x, o, r3, q2, q3⟩
      have hpro : ∀ k, E3.prot k → E.prot k ∨ (∃ (j b o : Nat), bs[j]? = some b ∧ E.σ b = some (k, o)) ∨ E.w.heap.size ≤ k := fun k hk => by
        rcases X3.pro k hk with h' | h' | h'
        · exact .inl h'
        · exact .inr (.inl (own0 k h'))
        · exact .inr (.inr h')
      refine ⟨u, E2, rfl, hw3, ⟨X3.os, X3.tape, X3.output, K2.σ, X3.prot, X3.size, K2.kind, fun k hk hno => X3.frame k hk fun ho => hno (own1 k ho), hown, ?_, s1, fun k hk => ?_⟩, ⟨fun b x hb => ?_, fun b b' x x' k o o' h1 h2 h3 h4 h5 h6 => ?_, fun k hk => ?_, fun b hb => ?_⟩, ?_⟩
      · rw [e7, List.length_append, putH_len]; omega
      · rcases hpro k hk with h' | ⟨j, b, o, a1, a2⟩ | h'
        · exact .inl h'
        · exact .inr (.inl ⟨b, _, o, geth_some (e3 j b a1), e3 j b a1, a2⟩)
        · exact .inr (.inr h')
      · rw [e7] at hb
        rcases hget hb with ⟨i, x0, rfl, r1, rfl⟩ | ⟨r1, r2, r3⟩
        · exact out_BR (E3 := E3) (E2 := E2) rfl rfl (fun b x hb => by rw [hρ]; exact hb) (hρ i) (nfBs_get e8 r1) (H3.blk i x0 r1)
        · by_cases hd : x = .dead
          · subst hd; trivial
          · exact (H.blk b x r3).mono K2 (s1 b r1) fun k o hk => same k ((H.blk b x r3).lt hd hk) (apart r2 r3 hd hk)
      · rw [e7] at h1 h3
        rcases hget h1 with ⟨i, x0, rfl, r1, rfl⟩ | ⟨r1, r2, r3⟩ <;> rcases hget h3 with ⟨j, y0, rfl, w1, rfl⟩ | ⟨w1, w2, w3⟩
        · rw [hρ] at h5 h6
          rw [H3.inj i j x0 y0 k o o' r1 (rnmB_dead h2) w1 (rnmB_dead h4) h5 h6]
        · rw [hρ] at h5; rw [s1 _ w1] at h6
          rcases hown3 r1 (rnmB_dead h2) h5 with ⟨a, b, o2, a1, a2⟩ | hq
          · exact absurd a2 (apart w2 w3 h4 h6 a b o2 a1)
          · have := (H.blk _ _ w3).lt h4 h6; omega
        · rw [s1 _ r1] at h5; rw [hρ] at h6
          rcases hown3 w1 (rnmB_dead h4) h6 with ⟨a, b, o2, a1, a2⟩ | hq
          · exact absurd a2 (apart r2 r3 h2 h5 a b o2 a1)
          · have := (H.blk _ _ r3).lt h2 h5; omega
        · rw [s1 _ r1] at h5; rw [s1 _ w1] at h6
          exact H.inj b b' x x' k o o' r3 h2 w3 h4 h5 h6
      · obtain ⟨p1, p2⟩ := H3.prot k hk
        refine ⟨p1, ?_⟩
        rintro ⟨b, x, o, q1, q2, q3⟩
        rw [e7] at q1
        rcases hget q1 with ⟨i, x0, rfl, r1, rfl⟩ | ⟨r1, r2, r3⟩
        · rw [hρ] at q3; exact p2 ⟨i, x0, o, r1, rnmB_dead q2, q3⟩
        · rw [s1 b r1] at q3
          rcases hpro k hk with h' | ⟨j, b', o', a1, a2⟩ | h'
          · exact (H.prot k h').2 ⟨b, x, o, r3, q2, q3⟩
          · exact apart r2 r3 q2 q3 j b' o' a1 a2
          · have := (H.blk _ _ r3).lt q2 q3; omega
      · rw [e7, List.length_append, putH_len, rnmH_length, dropH_len] at hb
        rw [s2 b (by omega)]
        exact H3.fresh _ (by omega)
      · rw [e6]
        exact VR.rnm (E := E3) (E' := E2) rfl rfl (fun b x hb => by rw [hρ]; exact hb) V3
    cases e with
    | normal => exact done hk
    | ret => exact done hk
    | exit id => exact hk.elim
    | goto l => exact hk.elim

/-! ### What is given, told inside -/
/-- What a value is told inside. -/
def EV (bs : List Nat) (a0 a : AV) : Prop := ∀ (E : Env) (v : Value), VR E a v → VR (E.via (toMu bs)) a0 v
theorem EV_wk {bs : List Nat} {a0 a : AV} (hw : WkV a0 a ∧ nref a0) : EV bs a0 a := fun E v hv => VR.view (E := E) (E' := E.via (toMu bs)) (fun k hk => ⟨hk, rfl⟩) (hw.1 E v hv) hw.2
theorem EV_ptr {bs : List Nat} {i b es x y : Nat} (hb : bs[i]? = some b) : EV bs (.ptr i es x y) (.ptr b es x y) := fun E v hv => by
  cases hv with
  | ptr _ _ _ _ k o hσ => exact .ptr _ _ _ _ k o (by rw [in_σ, hb]; exact hσ)
theorem EV_sl {bs : List Nat} {i b es x n : Nat} {nl : Bool} (hb : bs[i]? = some b) : EV bs (.sl i es x n false) (.sl b es x n nl) := fun E v hv => by
  cases hv with
  | sl _ _ _ _ _ a cap hm hcm hnl hz hc =>
    exact .sl _ _ _ _ _ a cap hm hcm (fun h => by cases h) hz fun hp => by
      obtain ⟨k, o, cs, e, g1, g2, g3, g4⟩ := hc hp
      exact ⟨k, o, cs, e, by rw [in_σ, hb]; exact g1, g2, g3, g4⟩
def EVL (bs : List Nat) : List AV → List AV → Prop
  | [], [] => True
  | a :: l, b :: m => EV bs a b ∧ EVL bs l m
  | _, _ => False
theorem EVL_get {bs : List Nat} {l m : List AV} (hc : EVL bs l m) : l.length = m.length ∧ ∀ (i : Nat) (a b : AV), l[i]? = some a → m[i]? = some b → EV bs a b := by
  induction l generalizing m with
  | nil => cases m with
    | nil => exact ⟨rfl, fun i a b ha => by simp at ha⟩
    | cons b m => simp [EVL] at hc
  | cons a l ih => cases m with
    | nil => simp [EVL] at hc
    | cons b m =>
      simp only [EVL] at hc
      obtain ⟨i1, i2⟩ := ih hc.2
      refine ⟨by simp [i1], fun i x y hx hy => ?_⟩
      cases i with
      | zero => simp at hx hy; subst hx hy; exact hc.1
      | succ i => exact i2 i x y (by simpa using hx) (by simpa using hy)
theorem EV_agg {bs : List Nat} {l m : List AV} (hc : EVL bs l m) : EV bs (.agg l) (.agg m) := fun E v hv => by
  obtain ⟨q1, q2⟩ := EVL_get hc
  cases hv with
  | agg _ vs hl h1 h =>
    refine .agg _ vs (q1.trans hl) h1 fun i a v ha hv => ?_
    have hi : i < m.length := by
      rw [← q1]
      rcases Nat.lt_or_ge i l.length with h' | h'
      · exact h'
      · rw [List.getElem?_eq_none h'] at ha; cases ha
    exact q2 i a _ ha (List.getElem?_eq_getElem hi) E v (h i _ v (List.getElem?_eq_getElem hi) hv)
theorem EV_fn {bs : List Nat} {f : FuncId} {l m : List AV} (hc : EVL bs l m) : EV bs (.fn f l) (.fn f m) := fun E v hv => by
  obtain ⟨q1, q2⟩ := EVL_get hc
  cases hv with
  | fn _ _ vs hl h =>
    refine .fn _ _ vs (q1.trans hl) fun i a v ha hv => ?_
    have hi : i < m.length := by
      rw [← q1]
      rcases Nat.lt_or_ge i l.length with h' | h'
      · exact h'
      · rw [List.getElem?_eq_none h'] at ha; cases ha
    exact q2 i a _ ha (List.getElem?_eq_getElem hi) E v (h i _ v (List.getElem?_eq_getElem hi) hv)
theorem EV_FR {bs : List Nat} {l m : List AV} (hc : EVL bs l m) {vs : Array Value} (F : FR E m vs) : FR (E.via (toMu bs)) l vs := by
  obtain ⟨q1, q2⟩ := EVL_get hc
  refine ⟨q1.trans F.1, fun i a v ha hv => ?_⟩
  have hi : i < m.length := by
    rw [← q1]
    rcases Nat.lt_or_ge i l.length with h' | h'
    · exact h'
    · rw [List.getElem?_eq_none h'] at ha; cases ha
  exact q2 i a _ ha (List.getElem?_eq_getElem hi) E v (F.2 i _ v (List.getElem?_eq_getElem hi) hv)
/-- What a block is told inside. -/
def EB (bs : List Nat) (h : List ABlk) (x0 : ABlk) (i : Nat) : Prop := ∃ b, bs[i]? = some b ∧ geth h b ≠ .dead ∧ ∀ (E : Env), HR E h → BR (E.via (toMu bs)) i x0
theorem EB_lit {bs : List Nat} {i b : Nat} {e : TypeId} {l m : List AV} (hb : bs[i]? = some b) (hg : geth h b = .lit e m) (hc : EVL bs l m) : EB bs h (.lit e l) i := by
  obtain ⟨q1, q2⟩ := EVL_get hc
  have hnd : geth h b ≠ .dead := by rw [hg]; exact fun e => by cases e
  refine ⟨b, hb, hnd, fun E H => ?_⟩
  have hB := H.blk b _ (geth_some hnd)
  rw [hg] at hB
  obtain ⟨k, o, cs, r1, r2, r3, r4⟩ := hB
  refine ⟨k, o, cs, by rw [in_σ, hb]; exact r1, r2, by rw [q1]; exact r3, fun j a ha => ?_⟩
  have hi : j < m.length := by
    rw [← q1]
    rcases Nat.lt_or_ge j l.length with h' | h'
    · exact h'
    · rw [List.getElem?_eq_none h'] at ha; cases ha
  obtain ⟨v, y1, y2, y3⟩ := r4 j _ (List.getElem?_eq_getElem hi)
  exact ⟨v, y1, y2, q2 j a _ ha (List.getElem?_eq_getElem hi) E v y3⟩
theorem EB_row {α : Type} [Inhabited α] {f : α → List AV} {g : (Nat → AV) → α} {k : (Nat → AV) → Prop} {bs : List Nat} {i b es n : Nat} {e : TypeId} {c : Nat → Nat → AV} (hw : ∀ r, k r → ∀ y, y < es → WkV (getL (f (g r)) y) (r y) ∧ nref (getL (f (g r)) y))
    (hb : bs[i]? = some b) (hg : geth h b = .row e es n c) (hk : Fit k n c) {L : List α} (hL : deR g n c = L) : EB bs h (.row e es L.length (enR f L)) i := by
  subst hL
  have hnd : geth h b ≠ .dead := by rw [hg]; exact fun e => by cases e
  refine ⟨b, hb, hnd, fun E H => ?_⟩
  have hB := H.blk b _ (geth_some hnd)
  rw [hg] at hB
  rw [deR_length]
  unfold BR at hB ⊢
  rw [in_σ, hb]
  show (match E.σ b with | none => n = 0 | some (k, o) => _)
  cases hs : E.σ b with
  | none => rw [hs] at hB; exact hB
  | some p =>
    rw [hs] at hB
    obtain ⟨cs, r1, r2, r3⟩ := hB
    refine ⟨cs, r1, r2, fun x y hx hy => ?_⟩
    obtain ⟨v, y1, y2, y3⟩ := r3 x y hx hy
    obtain ⟨w1, w2⟩ := hw _ (hk x hx) y hy
    refine ⟨v, y1, y2, ?_⟩
    rw [enR_row, deR_get hx]
    exact VR.view (E := E) (E' := E.via (toMu bs)) (fun k hk => ⟨hk, rfl⟩) (w1 E v y3) w2
def EBs (bs : List Nat) (h : List ABlk) : List ABlk → Nat → Prop
  | [], _ => True
  | x :: l, i => EB bs h x i ∧ EBs bs h l (i + 1)
theorem EBs_get {bs : List Nat} : ∀ (l : List ABlk) (s : Nat), EBs bs h l s → ∀ (i : Nat) (x : ABlk), l[i]? = some x → EB bs h x (s + i)
  | [], s, _, i, x, hi => by simp at hi
  | y :: l, s, hb, 0, x, hi => by simp at hi; subst hi; exact hb.1
  | y :: l, s, hb, i + 1, x, hi => by
    have := EBs_get l (s + 1) hb.2 i x (by simpa using hi)
    rwa [show s + 1 + i = s + (i + 1) from by omega] at this
/-- A contract that changes the blocks 'bs'. -/
inductive ED where
  | fail
  | ed (bs : List Nat) (ob : Prop) (v0 : AV) (g0 : List ABlk)
def edR (h : List ABlk) : ED → AR
  | .fail => .fail
  | .ed bs ob v0 g0 => .heap (nodupB bs = true ∧ ob) (rnm bs h.length v0) (putH h bs (rnmH bs h.length g0) ++ rnmH bs h.length (dropH bs g0))
def edC (body : List AV → List ABlk → ED) (l : List AV) (h : List ABlk) : AR := edR h (body l h)
theorem edit_fnM {f : FuncId} {fn : Func} {code : Code} (body : List AV → List ABlk → ED) {rs : List ResultVar}
    (hf : P.funcs[f]? = some fn) (hn : (fn.name == "runtime.NumGoroutine") = false) (hb : fn.body = some code) (hrs : fn.results.toList = rs)
    (hw : ∀ (l : List AV) (h : List ABlk) (bs : List Nat) (ob : Prop) (v0 : AV) (g0 : List ABlk), body l h = .ed bs ob v0 g0 → ob → ∃ (l' : List AV) (h0 : List ABlk), h0.length = bs.length ∧ EVL bs l' l ∧ EBs bs h h0 0 ∧ nfBs g0 ∧
      Mean P code (kRet P rs (RetE bs.length v0 g0)) (l' ++ List.replicate (fn.ntmps - l'.length) .top) h0) : FnOk P f (edC body) := by
  refine edit_gen (edC body) hf hn hb hrs (fun l h ob v hc => ?_) fun l h ob v h' hc hob => ?_
  · unfold edC at hc
    cases hq : body l h <;> rw [hq] at hc <;> cases hc
  · unfold edC at hc
    cases hq : body l h with
    | fail => rw [hq] at hc; cases hc
    | ed bs ob0 v0 g0 =>
      rw [hq] at hc
      simp only [edR, AR.heap.injEq] at hc
      obtain ⟨rfl, rfl, rfl⟩ := hc
      obtain ⟨l', h0, a1, a2, a3, a4, a5⟩ := hw l h bs ob0 v0 g0 hq hob.2
      refine ⟨bs, l', h0, v0, g0, hob.1, a1, fun i b hi => ?_, fun E H i x0 hi => ?_, fun E vs H F => EV_FR a2 F, rfl, rfl, a4, a5⟩
      · have hi' : i < h0.length := by rw [a1]; exact (List.getElem?_eq_some_iff.1 hi).1
        obtain ⟨b', q1, q2, _⟩ := EBs_get h0 0 a3 i _ (List.getElem?_eq_getElem hi')
        rw [Nat.zero_add, hi] at q1
        injection q1 with q1; subst q1; exact q2
      · obtain ⟨b', q1, q2, q3⟩ := EBs_get h0 0 a3 i x0 hi
        rw [Nat.zero_add] at q3
        exact q3 E H
end Go.Am
