/-
  The abstract machine, part 38: functions whose results may be memory of their own, and memory that is only read from then on.
-/
import Derived.Test.YtpnhehcncljhpaaAm37
namespace Go.Am
set_option linter.unusedVariables false
variable {P : Program} {E : Env} {h : List ABlk}

def RenB (s : Nat) : ABlk → ABlk → Prop
  | .dead, .dead => True
  | .lit e l, .lit e' l' => e = e' ∧ renL 0 s l = l'
  | .row e es n c, .row e' es' n' c' => e = e' ∧ es = es' ∧ n = n' ∧ ∀ x y, x < n → y < es → ren 0 s (c x y) = c' x y
  | _, _ => False
def RenH (s : Nat) : List ABlk → List ABlk → Prop
  | [], [] => True
  | x :: l, y :: m => RenB s x y ∧ RenH s l m
  | _, _ => False
theorem RenH_get {s : Nat} {l m : List ABlk} (hr : RenH s l m) : l.length = m.length ∧ ∀ (i : Nat) (y : ABlk), m[i]? = some y → ∃ x, l[i]? = some x ∧ RenB s x y := by
  induction l generalizing m with
  | nil => cases m with
    | nil => exact ⟨rfl, fun i y hy => by simp at hy⟩
    | cons y m => simp [RenH] at hr
  | cons x l ih => cases m with
    | nil => simp [RenH] at hr
    | cons y m =>
      simp only [RenH] at hr
      obtain ⟨i1, i2⟩ := ih hr.2
      refine ⟨by simp [i1], fun i z hz => ?_⟩
      cases i with
      | zero => simp at hz; subst hz; exact ⟨x, rfl, hr.1⟩
      | succ i => simpa using i2 i z (by simpa using hz)
/-- The result of a run: blocks 'fz' are only read from here on, the others get the numbers from 0 on. -/
def RetG (v : AV) (ns : List ABlk) (v' : AV) (hf : List ABlk) : Prop := ∃ fz, fzOb hf fz v' ∧ fzObH hf fz hf ∧ SubV v ns (fzV hf fz v') (fzH hf fz)
/-- A contract whose arguments are only read and whose result may share memory with them; its own memory is numbered from the caller's next number on. -/
def genR (o : Prop) (h : List ABlk) : AR → AR
  | .pure ob v => .heap (o ∧ ob) v h
  | .heap ob v ns => .heap (o ∧ ob) v (h ++ ns)
  | .fail => .fail
def genC (body : List AV → Nat → AR) (l : List AV) (h : List ABlk) : AR := genR (nrefL l) h (body l h.length)
def Env.seen (E : Env) : Env := ⟨E.w, fun _ => none, E.prot⟩
theorem seen_HR (H : HR E h) : HR E.seen [] := ⟨fun b x hb => by simp at hb, fun b b' x x' k o o' hb => by simp at hb, fun k hk => ⟨(H.prot k hk).1, by rintro ⟨b, x, o, hb, _⟩; simp at hb⟩, fun _ _ => rfl⟩

theorem gen_fn {f : FuncId} {fn : Func} {code : Code} (body : List AV → Nat → AR) {rs : List ResultVar}
    (hf : P.funcs[f]? = some fn) (hn : (fn.name == "runtime.NumGoroutine") = false) (hb : fn.body = some code) (hrs : fn.results.toList = rs)
    (hw : ∀ (l : List AV) (s : Nat) (ob : Prop) (v : AV) (ns : List ABlk), (body l s = .pure ob v ∧ ns = []) ∨ body l s = .heap ob v ns → ob → ∃ l' v0 ns0, (∀ E vs, FR E l vs → FR E l' vs) ∧ ren 0 s v0 = v ∧ RenH s ns0 ns ∧
      Mean P code (kRet P rs (RetG v0 ns0)) (l' ++ List.replicate (fn.ntmps - l'.length) .top) []) : FnOk P f (genC body) := by
  subst hrs
  have tops : ∀ {E : Env} {l' : List AV} {vs : Array Value}, FR E l' vs → FR E (l' ++ List.replicate (fn.ntmps - l'.length) .top) (vs ++ Array.replicate (fn.ntmps - vs.size) undef) := by
    intro E l' vs F1
    refine FR_append F1 ⟨by simp [F1.1], fun i a v ha hv => ?_⟩
    rw [List.getElem?_replicate] at ha
    split at ha
    · injection ha with ha; subst ha; exact .top _
    · cases ha
  have main : ∀ (E : Env) (h : List ABlk) (l : List AV) (vs : Array Value) (ob : Prop) (v : AV) (ns : List ABlk), HR E h → FR E l vs → (body l h.length = .pure ob v ∧ ns = []) ∨ body l h.length = .heap ob v ns → nrefL l → ob → Calls P f vs E.w (Ret E h (h ++ ns) v) := by
    intro E h l vs ob v ns H F hbd hnr hob
    obtain ⟨l', v0, ns0, g1, g2, g3, g4⟩ := hw l _ ob v ns hbd hob
    have F0 : FR E.seen l vs := ⟨F.1, fun i a v ha hv => VR.view (E := E) (E' := E.seen) (fun k hk => ⟨hk, rfl⟩) (F.2 i a v ha hv) (nrefL_get hnr ha)⟩
    have F2 := tops (g1 _ _ F0)
    refine calls_of_wp hf hb ?_
    refine g4 E.seen _ _ (seen_HR H) F2 rfl fun e E1 a' t' h1 hk X1 H1 F' hd => ?_
    have done : retK P fn.results.toList (RetG v0 ns0) t' h1 → a'.defers = [] ∧ ∃ u, (results fn a'.tmps).run P E1.w = .ok u E1.w ∧ Ret E h (h ++ ns) v (.returned u) E1.w := by
      intro hk
      obtain ⟨u, v', q1, ⟨fz, z1, z2, ν, c1, c2, c3⟩, q3⟩ := ret_sound (P := P) H1 F' hk
      refine ⟨hd, u, q1, ?_⟩
      obtain ⟨Hf, Xf⟩ := fz_HR H1 z2
      have hv1 := fz_VR H1 q3 z1
      have X := X1.trans Xf
      have H3 := (via_HR Hf c2 c3).1
      have hown3 : ∀ k, Own ((E1.fz h1 fz).via ν) ns0 k → E.w.heap.size ≤ k := fun k hk => by
        rcases X.own k ((via_HR Hf c2 c3).2 k hk) with h' | h'
        · obtain ⟨b, x, o, hb, _⟩ := h'; simp at hb
        · exact h'
      have hV : VR ((E1.fz h1 fz).via ν) v0 u := Cv_sound hv1 _ c1
      have hold : ∀ k, k < E.w.heap.size → E1.w.heap[k]? = E.w.heap[k]? := fun k hk => X1.frame k hk (by rintro ⟨b, x, o, hb, _⟩; simp at hb)
      have hpro : ∀ k, ((E1.fz h1 fz).via ν).prot k → E.prot k ∨ E.w.heap.size ≤ k := fun k hk => by
        rcases X.pro k hk with h' | h' | h'
        · exact .inl h'
        · obtain ⟨b, x, o, hb, _⟩ := h'; simp at hb
        · exact .inr h'
      have hpr : ∀ k, E.prot k → ((E1.fz h1 fz).via ν).prot k := fun k hk => X.prot k hk
      generalize hE3 : (E1.fz h1 fz).via ν = E3 at H3 hown3 hV hpro hpr
      have hw3 : E3.w = E1.w := by rw [← hE3]; rfl
      let σ2 : Nat → Option (Nat × Nat) := fun b => if b < h.length then E.σ b else E3.σ (b - h.length)
      let E2 : Env := ⟨E1.w, σ2, E3.prot⟩
      have s1 : ∀ b, b < h.length → E2.σ b = E.σ b := fun b hb => if_pos hb
      have s2 : ∀ b, ¬ b < h.length → E2.σ b = E3.σ (b - h.length) := fun b hb => if_neg hb
      have hlt : ∀ b x, E.σ b = some x → b < h.length := by
        intro b x hb
        rcases Nat.lt_or_ge b h.length with h' | h'
        · exact h'
        · rw [H.fresh b h'] at hb; cases hb
      have K2 : Keep E E2 := ⟨fun b x hb => by rw [s1 b (hlt b x hb)]; exact hb, hpr, fun k hk => hold k (H.prot k hk).1, fun k cs e hk => ⟨cs, (hold k (lt_of_some hk)).trans hk, rfl⟩⟩
      have hσ : ∀ b x, E3.σ b = some x → E2.σ (rnN 0 h.length b) = some x := fun b x hb => by
        have : rnN 0 h.length b = h.length + b := by simp [rnN]
        rw [this, s2 _ (by omega), Nat.add_sub_cancel_left]; exact hb
      have V2 : ∀ {a : AV} {v : Value}, VR E3 a v → VR E2 (ren 0 h.length a) v := fun hv => VR.ren (E := E3) (E' := E2) hw3.symm rfl hσ hv
      obtain ⟨gl, gg⟩ := RenH_get g3
      have hget : ∀ {b : Nat} {x : ABlk}, (h ++ ns)[b]? = some x → (b < h.length ∧ h[b]? = some x) ∨ (¬ b < h.length ∧ ∃ x0, ns0[b - h.length]? = some x0 ∧ RenB h.length x0 x) := by
        intro b x hb
        by_cases hbl : b < h.length
        · rw [List.getElem?_append_left hbl] at hb; exact .inl ⟨hbl, hb⟩
        · rw [List.getElem?_append_right (by omega)] at hb; exact .inr ⟨hbl, gg _ _ hb⟩
      have hnd : ∀ {x0 x : ABlk}, RenB h.length x0 x → x ≠ .dead → x0 ≠ .dead := by
        rintro x0 x hr hx rfl
        cases x <;> simp only [RenB] at hr
        exact hx rfl
      have hown : ∀ k, Own E2 (h ++ ns) k → Own E h k ∨ E.w.heap.size ≤ k := by
        rintro k ⟨b, x, o, q1, q2, q3⟩
        rcases hget q1 with ⟨hb, q1⟩ | ⟨hb, x0, q1, q1'⟩
        · rw [s1 b hb] at q3; exact .inl ⟨b, x, o, q1, q2, q3⟩
        · rw [s2 b hb] at q3; exact .inr (hown3 k ⟨_, x0, o, q1, hnd q1' q2, q3⟩)
      refine ⟨u, E2, rfl, rfl, ⟨X1.os, X1.tape, X1.output, K2.σ, hpr, X1.size, K2.kind, fun k hk _ => hold k hk, hown, by simp, s1, fun k hk => (hpro k hk).imp (fun h => h) .inr⟩, ⟨fun b x hb => ?_, fun b b' x x' k o o' h1 h2 h3 h4 h5 h6 => ?_, fun k hk => ?_, fun b hb => ?_⟩, ?_⟩
      · by_cases hd : x = .dead
        · subst hd; trivial
        rcases hget hb with ⟨hbl, hb'⟩ | ⟨hbl, x0, hb', hr⟩
        · exact (H.blk b x hb').mono K2 (s1 b hbl) fun k o hk => hold k ((H.blk b x hb').lt hd hk)
        · have hB := H3.blk _ x0 hb'
          cases x with
          | dead => trivial
          | lit e l =>
            cases x0 <;> simp only [RenB] at hr
            obtain ⟨rfl, rfl⟩ := hr
            rename_i e l
            obtain ⟨k, o, cs, r1, r2, r3, r4⟩ := hB
            refine ⟨k, o, cs, (s2 b hbl).trans r1, by rw [← hw3]; exact r2, by rw [renL_length]; exact r3, fun j a hj => ?_⟩
            rw [renL_get] at hj
            cases hl : l[j]? with
            | none => rw [hl] at hj; cases hj
            | some a0 =>
              rw [hl] at hj
              simp only [Option.map_some, Option.some.injEq] at hj
              subst hj
              obtain ⟨v, y1, y2, y3⟩ := r4 j a0 hl
              exact ⟨v, y1, y2, V2 y3⟩
          | row e es n c =>
            cases x0 <;> simp only [RenB] at hr
            obtain ⟨rfl, rfl, rfl, hr⟩ := hr
            unfold BR at hB ⊢
            rw [s2 b hbl]
            cases hs : E3.σ (b - h.length) with
            | none => rw [hs] at hB; exact hB
            | some p =>
              rw [hs] at hB
              obtain ⟨cs, r1, r2, r3⟩ := hB
              exact ⟨cs, by rw [← hw3]; exact r1, r2, fun x y hx hy => by obtain ⟨v, y1, y2, y3⟩ := r3 x y hx hy; exact ⟨v, y1, y2, by rw [← hr x y hx hy]; exact V2 y3⟩⟩
      · rcases hget h1 with ⟨b1, m1⟩ | ⟨b1, x0, m1, m1'⟩ <;> rcases hget h3 with ⟨b3, m3⟩ | ⟨b3, x0', m3, m3'⟩
        · rw [s1 b b1] at h5; rw [s1 b' b3] at h6; exact H.inj b b' x x' k o o' m1 h2 m3 h4 h5 h6
        · rw [s1 b b1] at h5; rw [s2 b' b3] at h6
          have := (H.blk b x m1).lt h2 h5
          have := hown3 k ⟨_, x0', o', m3, hnd m3' h4, h6⟩
          omega
        · rw [s2 b b1] at h5; rw [s1 b' b3] at h6
          have := (H.blk b' x' m3).lt h4 h6
          have := hown3 k ⟨_, x0, o, m1, hnd m1' h2, h5⟩
          omega
        · rw [s2 b b1] at h5; rw [s2 b' b3] at h6
          have := H3.inj _ _ x0 x0' k o o' m1 (hnd m1' h2) m3 (hnd m3' h4) h5 h6
          omega
      · obtain ⟨p1, p2⟩ := H3.prot k hk
        refine ⟨by show k < E1.w.heap.size; rw [← hw3]; exact p1, ?_⟩
        rintro ⟨b, x, o, q1, q2, q3⟩
        rcases hget q1 with ⟨hb, q1⟩ | ⟨hb, x0, q1, q1'⟩
        · rw [s1 b hb] at q3
          rcases hpro k hk with h' | h'
          · exact (H.prot k h').2 ⟨b, x, o, q1, q2, q3⟩
          · have := (H.blk b x q1).lt q2 q3; omega
        · rw [s2 b hb] at q3; exact p2 ⟨_, x0, o, q1, hnd q1' q2, q3⟩
      · rw [List.length_append] at hb
        rw [s2 b (by omega)]
        exact H3.fresh _ (by omega)
      · rw [← g2]; exact V2 hV
    cases e with
    | normal => exact done hk
    | ret => exact done hk
    | exit id => exact hk.elim
    | goto l => exact hk.elim
  refine ⟨⟨fn, hf, hn, by rw [hb]; rfl⟩, fun E h l vs ob v h' H F hr hob => ?_, fun E h l vs ob v H F hr hob => ?_⟩
  · unfold genC at hr
    cases hbd : body l h.length with
    | fail => rw [hbd] at hr; cases hr
    | pure ob' v' =>
      rw [hbd] at hr
      simp only [genR, AR.out, Option.some.injEq, Prod.mk.injEq] at hr
      obtain ⟨rfl, rfl, rfl⟩ := hr
      have := main E h l vs ob' v' [] H F (.inl ⟨hbd, rfl⟩) hob.1 hob.2
      rwa [List.append_nil] at this
    | heap ob' v' ns =>
      rw [hbd] at hr
      simp only [genR, AR.out, Option.some.injEq, Prod.mk.injEq] at hr
      obtain ⟨rfl, rfl, rfl⟩ := hr
      exact main E h l vs ob' v' ns H F (.inr hbd) hob.1 hob.2
  · exfalso
    unfold genC at hr
    cases hbd : body l h.length <;> rw [hbd] at hr <;> cases hr
end Go.Am
