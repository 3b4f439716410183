/-
  The abstract machine, part 35: a function that changes the memory of the slice that it is given, walked with that memory alone; all else is only read.
-/
import Derived.Test.YtpnhehcncljhpaaAm34
import Derived.Test.YtpnhehcncljhpaaAm32
namespace Go.Am
set_option linter.unusedVariables false
variable {P : Program} {E : Env} {h : List ABlk}

/-- The world with one block for its own (number 0); all else is only read. -/
def Env.only (E : Env) (b : Nat) : Env := ⟨E.w, fun i => if i = 0 then E.σ b else none, fun k => k < E.w.heap.size ∧ ∀ o, E.σ b ≠ some (k, o)⟩
theorem only_0 (E : Env) (b : Nat) : (E.only b).σ 0 = E.σ b := rfl
theorem only_prot (H : HR E h) {b : Nat} (hb : geth h b ≠ .dead) {k : Nat} (hk : E.prot k) : (E.only b).prot k :=
  ⟨(H.prot k hk).1, fun o ho => (H.prot k hk).2 ⟨b, _, o, geth_some hb, hb, ho⟩⟩
theorem only_HR (H : HR E h) {b e es N : Nat} {c : Nat → Nat → AV} (hb : geth h b = .row e es N c) (hc : ∀ x y, x < N → y < es → nref (c x y)) : HR (E.only b) [.row e es N c] := by
  have hne : geth h b ≠ .dead := by rw [hb]; exact fun e => by cases e
  have hB := H.blk b _ (geth_some hne)
  rw [hb] at hB
  refine ⟨fun i x hi => ?_, fun i i' x x' k o o' h1 _ h3 _ _ _ => ?_, fun k hk => ⟨hk.1, ?_⟩, fun i hi => ?_⟩
  · cases i with
    | succ i => simp at hi
    | zero =>
      simp at hi; subst hi
      unfold BR at hB ⊢
      rw [only_0]
      cases hs : E.σ b with
      | none => rw [hs] at hB; exact hB
      | some p =>
        rw [hs] at hB
        obtain ⟨cs, q1, q2, q3⟩ := hB
        exact ⟨cs, q1, q2, fun x y hx hy => by
          obtain ⟨v, a1, a2, a3⟩ := q3 x y hx hy
          exact ⟨v, a1, a2, VR.view (E := E) (E' := E.only b) (fun k hk => ⟨only_prot H hne hk, rfl⟩) a3 (hc x y hx hy)⟩⟩
  · cases i with
    | succ i => simp at h1
    | zero => cases i' with
      | succ i' => simp at h3
      | zero => rfl
  · rintro ⟨i, x, o, h1, h2, h3⟩
    cases i with
    | succ i => simp at h1
    | zero =>
      rw [only_0] at h3
      exact hk.2 o h3
  · exact if_neg (by simp at hi; omega)
/-- The given slice, seen so. -/
theorem only_sl {b es i n : Nat} {nl : Bool} {u : Value} (hx : VR E (.sl b es i n nl) u) : VR (E.only b) (.sl 0 es i n nl) u := by
  cases hx with
  | sl _ _ _ _ _ a cap hn hcm hnl hz hc =>
    exact .sl _ _ _ _ _ a cap hn hcm hnl hz fun hp => by
      obtain ⟨k, o, cs, e, h1, h2, h3, h4⟩ := hc hp
      exact ⟨k, o, cs, e, (only_0 E b).trans h1, h2, h3, h4⟩
/-- Another slice, seen so: only read. -/
theorem only_ro (H : HR E h) {b b2 es i n N e : Nat} {nl : Bool} {c : Nat → Nat → AV} {u : Value} (hx : VR E (.sl b2 es i n nl) u) (hb2 : geth h b2 = .row e es N c) (hne : geth h b ≠ .dead) (hbb : b2 ≠ b) (hN : i + n ≤ N)
    (hc : ∀ x y, x < N → y < es → nref (c x y)) : VR (E.only b) (.ro es n nl (subC i c)) u := by
  cases hx with
  | sl _ _ _ _ _ a cap hn hcm hnl hz hcap =>
    have hne2 : geth h b2 ≠ .dead := by rw [hb2]; exact fun e => by cases e
    have own : 0 < n → ∃ k o, E.σ b2 = some (k, o) ∧ a = some ⟨k, o + i * es, none⟩ := fun hp => by
      obtain ⟨k, o, cs, e, h1, h2, _⟩ := hcap (by omega)
      exact ⟨k, o, h1, h2⟩
    have cell : ∀ x y, x < n → y < es → ∃ v, (∃ k o, E.σ b2 = some (k, o) ∧ a = some ⟨k, o + i * es, none⟩ ∧ E.w.cell? ⟨k, o + (i + x) * es + y, none⟩ = some v) ∧ v.oneCell' = true ∧ VR E (subC i c x y) v := fun x y hx hy => by
      obtain ⟨k, o, h1, h2⟩ := own (by omega)
      obtain ⟨v, q1, q2, q3⟩ := own_row H hb2 h1 (i + x) y (by omega) hy
      exact ⟨v, ⟨k, o, h1, h2, q1⟩, q2, q3⟩
    let us : Nat → Nat → Value := fun x y => if hh : x < n ∧ y < es then (cell x y hh.1 hh.2).choose else undef
    have hus : ∀ x y (hx : x < n) (hy : y < es), us x y = (cell x y hx hy).choose := fun x y hx hy => dif_pos ⟨hx, hy⟩
    refine .ro es n nl (subC i c) a cap hn hcm hnl hz us (fun hp => ?_) (fun x y hx hy => ?_) (fun x y hx hy => ?_) (fun x y hx hy => hc _ _ (by omega) hy)
    · obtain ⟨k, o, h1, h2⟩ := own hp
      have hB := H.blk b2 _ (geth_some hne2)
      rw [hb2] at hB
      refine ⟨k, o + i * es, h2, ⟨hB.lt (by intro e; cases e) h1, fun o' ho' => hbb (H.inj b2 b _ _ k o o' (geth_some hne2) hne2 (geth_some hne) hne h1 ho')⟩, fun x y hx hy => ?_⟩
      obtain ⟨⟨k', o', g1, g2, g3⟩, _⟩ := (cell x y hx hy).choose_spec
      rw [h1] at g1; cases g1
      rw [hus x y hx hy, ← g3, Nat.add_mul]
      show (E.only b).w.cell? _ = E.w.cell? _
      show E.w.cell? _ = E.w.cell? _
      congr 2
      omega
    · rw [hus x y hx hy]; exact (cell x y hx hy).choose_spec.2.1
    · rw [hus x y hx hy]
      exact VR.view (E := E) (E' := E.only b) (fun k hk => ⟨only_prot H hne hk, rfl⟩) (cell x y hx hy).choose_spec.2.2 (hc _ _ (by omega) hy)

/-- Back to the caller's world. -/
theorem only_back (H : HR E h) {b es m e : Nat} {c : Nat → Nat → AV} {hs : List ABlk} {E1 : Env} {u : Value} (hb : geth h b ≠ .dead) (hs1 : ∀ k, Own (E.only b) hs k → ∃ o, E.σ b = some (k, o)) (X : Ext (E.only b) hs E1 [.dead, .row e es m c]) (H1 : HR E1 [.dead, .row e es m c])
    (V : VR E1 (.sl 1 es 0 m false) u) (hc : ∀ x y, x < m → y < es → flatA (c x y)) :
    ∃ E', E'.w = E1.w ∧ Ext E h E' (seth h b .dead ++ [.row e es m c]) ∧ HR E' (seth h b .dead ++ [.row e es m c]) ∧ VR E' (.sl h.length es 0 m false) u := by
  let E' : Env := ⟨E1.w, fun i => if i < h.length then E.σ i else if i = h.length then E1.σ 1 else none, E.prot⟩
  have s1 : ∀ i, i < h.length → E'.σ i = E.σ i := fun i hi => if_pos hi
  have s2 : E'.σ h.length = E1.σ 1 := by show (if _ then _ else _) = _; rw [if_neg (by omega), if_pos rfl]
  have hlt : ∀ i x, E.σ i = some x → i < h.length := by
    intro i x hi
    rcases Nat.lt_or_ge i h.length with h' | h'
    · exact h'
    · rw [H.fresh i h'] at hi; cases hi
  have hbl : b < h.length := geth_lt hb
  have keep : ∀ k, k < E.w.heap.size → (∀ o, E.σ b ≠ some (k, o)) → E1.w.heap[k]? = E.w.heap[k]? := fun k hk hn => X.frame k hk fun ho => by
    obtain ⟨o, h1⟩ := hs1 k ho
    exact hn o h1
  have hprot : ∀ k, E.prot k → E1.w.heap[k]? = E.w.heap[k]? := fun k hk => keep k (H.prot k hk).1 (only_prot H hb hk).2
  have K : Keep E E' := ⟨fun i x hi => by rw [s1 i (hlt i x hi)]; exact hi, fun _ h => h, hprot, X.kind⟩
  have hnew : ∀ k o, E1.σ 1 = some (k, o) → (∃ o, E.σ b = some (k, o)) ∨ E.w.heap.size ≤ k := fun k o ho => by
    rcases X.own k ⟨1, .row e es m c, o, rfl, (by intro e; cases e), ho⟩ with h' | h'
    · exact .inl (hs1 k h')
    · exact .inr h'
  have hget : ∀ {i : Nat} {x : ABlk}, (seth h b .dead ++ [.row e es m c])[i]? = some x → x ≠ .dead → (i < h.length ∧ i ≠ b ∧ h[i]? = some x) ∨ (i = h.length ∧ x = .row e es m c) := by
    intro i x hi hx
    rw [seth_set] at hi
    rcases getElem?_snoc hi with ⟨hl, hi⟩ | ⟨rfl, rfl⟩
    · rw [List.length_set] at hl
      by_cases hib : b = i
      · subst hib
        rw [List.getElem?_set_self hl] at hi
        injection hi with hi
        exact absurd hi.symm hx
      · rw [List.getElem?_set_ne hib] at hi
        exact .inl ⟨hl, Ne.symm hib, hi⟩
    · exact .inr ⟨by rw [List.length_set], rfl⟩
  have notb : ∀ {i : Nat} {x : ABlk} {k o : Nat}, h[i]? = some x → x ≠ .dead → i ≠ b → E.σ i = some (k, o) → ∀ o', E.σ b ≠ some (k, o') := by
    intro i x k o h1 h2 h3 h4 o' h5
    exact h3 (H.inj i b _ _ k o o' h1 h2 (geth_some hb) hb h4 h5)
  have hown : ∀ k, Own E' (seth h b .dead ++ [.row e es m c]) k → Own E h k ∨ E.w.heap.size ≤ k := by
    rintro k ⟨i, x, o, q1, q2, q3⟩
    rcases hget q1 q2 with ⟨hl, _, q1⟩ | ⟨rfl, rfl⟩
    · rw [s1 i hl] at q3; exact .inl ⟨i, x, o, q1, q2, q3⟩
    · rw [s2] at q3
      rcases hnew k o q3 with ⟨o', h'⟩ | h'
      · exact .inl ⟨b, _, o', geth_some hb, hb, h'⟩
      · exact .inr h'
  refine ⟨E', rfl, ⟨X.os, X.tape, X.output, K.σ, fun _ h => h, X.size, X.kind, fun k hk hn => keep k hk fun o ho => hn ⟨b, _, o, geth_some hb, hb, ho⟩, hown, by rw [List.length_append, seth_len]; omega, s1, fun _ h => .inl h⟩,
    ⟨fun i x hi => ?_, fun i i' x x' k o o' h1 h2 h3 h4 h5 h6 => ?_, fun k hk => ?_, fun i hi => ?_⟩, ?_⟩
  · by_cases hd : x = .dead
    · subst hd; trivial
    rcases hget hi hd with ⟨hl, hib, hi'⟩ | ⟨rfl, rfl⟩
    · refine (H.blk i x hi').mono K (s1 i hl) fun k o hk => ?_
      exact keep k ((H.blk i x hi').lt hd hk) (notb hi' hd hib hk)
    · have hB := H1.blk 1 _ rfl
      unfold BR at hB ⊢
      rw [s2]
      cases hs : E1.σ 1 with
      | none => rw [hs] at hB; exact hB
      | some p =>
        rw [hs] at hB
        obtain ⟨cs, r1, r2, r3⟩ := hB
        exact ⟨cs, r1, r2, fun x y hx hy => by obtain ⟨v, y1, y2, y3⟩ := r3 x y hx hy; exact ⟨v, y1, y2, VR.flat (E := E1) (E' := E') rfl y3 (hc x y hx hy)⟩⟩
  · rcases hget h1 h2 with ⟨l1, n1, g1⟩ | ⟨e1, _⟩ <;> rcases hget h3 h4 with ⟨l3, n3, g3⟩ | ⟨e3, _⟩
    · rw [s1 i l1] at h5; rw [s1 i' l3] at h6; exact H.inj i i' x x' k o o' g1 h2 g3 h4 h5 h6
    · rw [s1 i l1] at h5; rw [e3, s2] at h6
      rcases hnew k o' h6 with ⟨o2, h'⟩ | h'
      · exact absurd h' (notb g1 h2 n1 h5 o2)
      · exact absurd ((H.blk i x g1).lt h2 h5) (by omega)
    · rw [s1 i' l3] at h6; rw [e1, s2] at h5
      rcases hnew k o h5 with ⟨o2, h'⟩ | h'
      · exact absurd h' (notb g3 h4 n3 h6 o2)
      · exact absurd ((H.blk i' x' g3).lt h4 h6) (by omega)
    · rw [e1, e3]
  · obtain ⟨h1, h2⟩ := H.prot k hk
    refine ⟨Nat.lt_of_lt_of_le h1 X.size, fun ho => ?_⟩
    rcases hown k ho with h' | h'
    · exact h2 h'
    · omega
  · rw [List.length_append, seth_len, List.length_singleton] at hi
    show (if _ then _ else _) = _
    rw [if_neg (by omega), if_neg (by omega)]
  · cases V with
    | sl _ _ _ _ _ a cap hn hcm hnl hz hcap =>
      exact .sl _ _ _ _ _ a cap hn hcm hnl hz fun hp => by
        obtain ⟨k, o, cs, e, g1, g2, g3, g4⟩ := hcap hp
        exact ⟨k, o, cs, e, s2.trans g1, g2, g3, g4⟩

/-- A function that changes the memory of the slice that it is given and returns a slice over that memory, or over new memory. -/
theorem edit1_fn {f : FuncId} {fn : Func} {code : Code} {sh : TypeId → Option (List Leaf)} {ct : Ct} (S : ShOk P sh) (C : CtOk P ct) (c : List AV → List ABlk → AR) {rs : List ResultVar}
    (hf : P.funcs[f]? = some fn) (hn : (fn.name == "runtime.NumGoroutine") = false) (hb : fn.body = some code) (hrs : fn.results.toList = rs) (hnp : ∀ l h ob v, c l h ≠ .pure ob v)
    (hw : ∀ (E : Env) (h : List ABlk) (l : List AV) (vs : Array Value) (ob : Prop) (v : AV) (h' : List ABlk), HR E h → FR E l vs → c l h = .heap ob v h' → ob →
      ∃ b e es N cc m c' l', geth h b = .row e es N cc ∧ (∀ x y, x < N → y < es → nref (cc x y)) ∧ (∀ x y, x < m → y < es → flatA (c' x y)) ∧ v = .sl h.length es 0 m false ∧ h' = seth h b .dead ++ [.row e es m c'] ∧ FR (E.only b) l' vs ∧
      wpC P sh ct code (kRet P rs (ConvR (.sl 1 es 0 m false) [.dead, .row e es m c'])) (l' ++ List.replicate (fn.ntmps - l'.length) .top) [.row e es N cc]) : FnOk P f c := by
  subst hrs
  have tops : ∀ {E : Env} {l' : List AV} {vs : Array Value}, FR E l' vs → FR E (l' ++ List.replicate (fn.ntmps - l'.length) .top) (vs ++ Array.replicate (fn.ntmps - vs.size) undef) := by
    intro E l' vs F1
    refine FR_append F1 ⟨by simp [F1.1], fun i a v ha hv => ?_⟩
    rw [List.getElem?_replicate] at ha
    split at ha
    · injection ha with ha; subst ha; exact .top _
    · cases ha
  refine ⟨⟨fn, hf, hn, by rw [hb]; rfl⟩, fun E h l vs ob v h' H F hr hob => ?_, fun E h l vs ob v H F hr hob => absurd hr (hnp _ _ _ _)⟩
  cases hc : c l h with
  | fail => rw [hc] at hr; cases hr
  | pure a b => exact absurd hc (hnp _ _ _ _)
  | heap ob2 v2 h2 =>
    rw [hc] at hr
    simp only [AR.out, Option.some.injEq, Prod.mk.injEq] at hr
    obtain ⟨rfl, rfl, rfl⟩ := hr
    obtain ⟨b, e, es, N, cc, m, c', l', hbk, hnr, hfl, rfl, rfl, g1, g3⟩ := hw E h l vs _ _ _ H F hc hob
    have hne : geth h b ≠ .dead := by rw [hbk]; exact fun e => by cases e
    refine calls_of_wp hf hb ?_
    refine wpC_sound S C code _ _ _ g3 (E.only b) _ _ (only_HR H hbk hnr) (tops g1) rfl fun en E1 a' t' h1 hk X1 H1 F' hd => ?_
    have done : retK P fn.results.toList (ConvR (.sl 1 es 0 m false) [.dead, .row e es m c']) t' h1 → a'.defers = [] ∧ ∃ u, (results fn a'.tmps).run P E1.w = .ok u E1.w ∧ Ret E h (seth h b .dead ++ [.row e es m c']) (.sl h.length es 0 m false) (.returned u) E1.w := by
      intro hk
      obtain ⟨u, v', q1, q2, q3⟩ := ret_sound (P := P) H1 F' hk
      obtain ⟨E2, w1, w2, w3, w4⟩ := q2 E1 u H1 q3
      obtain ⟨E', z1, z2, z3, z4⟩ := only_back H hne (fun k hk => by
        obtain ⟨i, x, o, r1, r2, r3⟩ := hk
        cases i with
        | succ i => simp at r1
        | zero => exact ⟨o, r3⟩) (X1.trans w2) w3 w4 hfl
      exact ⟨hd, u, q1, u, E', rfl, z1.trans w1, z2, z3, z4⟩
    cases en with
    | normal => exact done hk
    | ret => exact done hk
    | exit id => exact hk.elim
    | goto l => exact hk.elim

/-! ### slices.Delete, slices.Insert as contracts -/
def delA (i p d : Nat) (c : Nat → Nat → AV) : Nat → Nat → AV := fun x y => if x < p then c (i + x) y else c (i + x + d) y
def delF (e es : Nat) (l : List AV) (h : List ABlk) : AR := match l with
  | [.sl b es' i n _, .int .i64 (.ofNat p), .int .i64 (.ofNat q)] => match geth h b with
    | .row e' es2 N c => .heap (e' = e ∧ es' = es ∧ es2 = es ∧ i + n ≤ N ∧ p < q ∧ q ≤ n ∧ ∀ x y, x < N → y < es → flatA (c x y)) (.sl h.length es 0 (n - (q - p)) false) (seth h b .dead ++ [.row e es (n - (q - p)) (delA i p (q - p) c)])
    | _ => .fail
  | _ => .fail
def insA (i p m : Nat) (c d : Nat → Nat → AV) : Nat → Nat → AV := fun x y => if x < p then c (i + x) y else if x < p + m then d (x - p) y else c (i + x - m) y
def insF (e es : Nat) (l : List AV) (h : List ABlk) : AR := match l with
  | [.sl b es' i n _, .int .i64 (.ofNat p), .sl b2 es3 i2 m _] => match geth h b with
    | .row e' es2 N c => match geth h b2 with
      | .row _ es4 N2 d => .heap (e' = e ∧ es' = es ∧ es2 = es ∧ es3 = es ∧ es4 = es ∧ b2 ≠ b ∧ i + n ≤ N ∧ i2 + m ≤ N2 ∧ p ≤ n ∧ m = 1 ∧ n + m ≤ 1000000 ∧ (∀ x y, x < N → y < es → flatA (c x y)) ∧ ∀ x y, x < N2 → y < es → flatA (d x y))
          (.sl h.length es 0 (n + m) false) (seth h b .dead ++ [.row e es (n + m) (insA i p m c (subC i2 d))])
      | _ => .fail
    | _ => .fail
  | _ => .fail
theorem delF_np {e es : Nat} : ∀ l h ob v, delF e es l h ≠ .pure ob v := by
  intro l h ob v hc
  unfold delF at hc
  split at hc
  · split at hc <;> cases hc
  · cases hc
theorem insF_np {e es : Nat} : ∀ l h ob v, insF e es l h ≠ .pure ob v := by
  intro l h ob v hc
  unfold insF at hc
  split at hc
  · split at hc
    · split at hc <;> cases hc
    · cases hc
  · cases hc
end Go.Am
