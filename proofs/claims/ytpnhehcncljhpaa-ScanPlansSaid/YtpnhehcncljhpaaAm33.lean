/-
  The abstract machine, part 33: the rule for regions that draw their order, over what single operations do.
-/
import Derived.Test.YtpnhehcncljhpaaAm23
namespace Go.Am
set_option linter.unusedVariables false
variable {P : Program} {E : Env} {h : List ABlk}

/-- Only the named slots. -/
def keepT (ds : List Nat) (t : List AV) : List AV := (List.range t.length).map fun i => bif inL i ds then getL t i else .top
/-- What one operation does, from a state on. -/
def Trip (P : Program) (o : Oper) (t : List AV) (g : List ABlk) (v : AV) (hh : List ABlk) : Prop :=
  ∀ (E : Env) (a : Act) (K : Act → World → Prop) (Q : Exit → Act → World → Prop), HR E g → FR E t a.tmps → (∀ r E', Ext E g E' hh → HR E' hh → VR E' v r → K (a.put o.dst r) E'.w) → o.wp P a E.w K Q
def StepS (P : Program) (ops : Array Oper) (L : Nat) (o : Oper) (t : List AV) (h : List ABlk) (s : Nat) (t' : List AV) (h' : List ABlk) (s' : Nat) (rs tg : List Nat) : Prop :=
  (tg = [] ∧ h' = h ∧ s' = s ∧ gval t ops.toList o.guard = .g false ∧ ∃ x, t' = setT t o.dst (.opt false x)) ∨
  (tg = [] ∧ h' = h ∧ s' = s ∧ ∃ v wv, (gval t ops.toList o.guard = .none ∧ wv = v ∨ gval t ops.toList o.guard = .g true ∧ wv = .opt true v) ∧ Trip P o (keepT (o.looksAt ops) t) (mask rs h) v (mask rs h) ∧ t' = setT t o.dst wv) ∨
  (∃ v hh wv, (gval t ops.toList o.guard = .none ∧ wv = ren L s v ∨ gval t ops.toList o.guard = .g true ∧ wv = .opt true (ren L s v)) ∧ Trip P o (keepT (o.looksAt ops) t) (mask rs h) v hh ∧
    (L < hh.length → nrH L hh) ∧ tg = rs ++ slotsF s (hh.length - L) ∧ h' = place rs s hh h ∧ s' = s + (hh.length - L) ∧ t' = setT t o.dst wv)
theorem StepS.facts {ops : Array Oper} {L : Nat} {o : Oper} {t t' : List AV} {h h' : List ABlk} {s s' : Nat} {rs tg : List Nat} (st : StepS P ops L o t h s t' h' s' rs tg) :
    (∃ x, t' = setT t o.dst x) ∧ h'.length = h.length ∧ s ≤ s' ∧ ∀ b, inL b tg = false → h.length = L → geth h' b = geth h b := by
  rcases st with ⟨rfl, rfl, rfl, _, x, rfl⟩ | ⟨rfl, rfl, rfl, v, wv, _, _, rfl⟩ | ⟨v, hh, wv, _, _, _, rfl, rfl, rfl, rfl⟩
  · exact ⟨⟨_, rfl⟩, rfl, Nat.le_refl _, fun _ _ _ => rfl⟩
  · exact ⟨⟨_, rfl⟩, rfl, Nat.le_refl _, fun _ _ _ => rfl⟩
  · refine ⟨⟨_, rfl⟩, place_length .., Nat.le_add_right _ _, fun b hb hL => ?_⟩
    rw [inL_append, inL_slots, Bool.or_eq_false_iff] at hb
    rw [geth_getD, geth_getD, place_get, hL, hb.2, hb.1]
    simp
structure TraceS (P : Program) (ops : Array Oper) (an : List (List Nat)) (L : Nat) (K : Kt) (s : Nat) (t : List AV) (h : List ABlk) : Prop where
  ex : ∃ (tt : Nat → List AV) (hh : Nat → List ABlk) (ss : Nat → Nat) (rs tg : Nat → List Nat), tt 0 = t ∧ hh 0 = h ∧ ss 0 = s ∧
      (∀ (j : Nat) (o : Oper), ops[j]? = some o → StepS P ops L o (tt j) (hh j) (ss j) (tt (j + 1)) (hh (j + 1)) (ss (j + 1)) (rs j) (tg j)) ∧
      (∀ j1 j2, j1 < j2 → j2 < ops.size → tg j2 = [] ∧ rs j2 = [] ∨ pairOk an j2 (rs j2) (tg j2) (j1, rs j1, tg j1) = true) ∧
      ss ops.size ≤ L ∧ K .normal (tt ops.size) (hh ops.size)
theorem keepT_FR {ds : List Nat} {t t' : List AV} {vs : Array Value} (F : FR E t' vs) (hl : t'.length = t.length) (hg : ∀ d, d ∈ ds → getL t' d = getL t d) : FR E (keepT ds t) vs := by
  refine ⟨by simp [keepT, ← hl, F.1], fun i a v ha hv => ?_⟩
  unfold keepT at ha
  rw [mapRange_get] at ha
  split at ha
  · rename_i hi
    injection ha with ha
    cases hc : inL i ds with
    | false => rw [hc] at ha; subst ha; exact .top _
    | true =>
      rw [hc] at ha
      simp only [cond_true] at ha
      subst ha
      rw [← hg i (inL_mem.1 hc)]
      exact F.2 i _ v (getL_some (by omega)) hv
  · cases ha

theorem draw_trip (kk : Nat) {id : Nat} {ops : Array Oper} {K : Kt} {t : List AV} (hm : P.follows .mixedOrders = true) (hB : drawB ops (ancL ops) = true)
    (hw : TraceS P ops (ancL ops) (h.length + kk) K h.length t (h ++ List.replicate kk .dead)) : Mean P (.region id ops true) K t h := by
  intro E a Q H F hd hQ
  have D := drawOk_of hB
  obtain ⟨tt, hh, ss, rs, tg, e1, e2, e3, step, pr, hend, hK⟩ := hw.ex
  generalize hL : h.length + kk = L at *
  generalize hh0 : h ++ List.replicate kk .dead = h0 at *
  generalize han : ancL ops = an at *
  generalize hm' : ops.size = m at *
  have hL0 : h0.length = L := by rw [← hh0, ← hL]; simp
  have H0 : HR E h0 := by rw [← hh0]; exact (dead_HR H kk).1
  have X0 : Ext E h E h0 := by rw [← hh0]; exact (dead_HR H kk).2
  have stp := step
  have lt : ∀ {i : Nat} {o : Oper}, ops[i]? = some o → i < m := fun hi => by rw [← hm']; exact (Array.getElem?_eq_some_iff.1 hi).1
  have some' : ∀ {i : Nat}, i < m → ∃ o, ops[i]? = some o := fun hi => ⟨ops[_]'(by omega), Array.getElem?_eq_getElem _⟩
  let dst (j : Nat) : Option Nat := (ops[j]?).bind (·.dst)
  have dst_eq : ∀ {j : Nat} {o : Oper}, ops[j]? = some o → dst j = o.dst := fun hj => by simp only [dst, hj, Option.bind_some]
  -- lengths and places
  have lens : ∀ i, i ≤ m → (tt i).length = t.length ∧ (hh i).length = L := by
    intro i
    induction i with
    | zero => intro _; rw [e1, e2]; exact ⟨rfl, hL0⟩
    | succ i ih =>
      intro hi
      obtain ⟨o, ho⟩ := some' (show i < m from by omega)
      obtain ⟨⟨x, hx⟩, hl, _, _⟩ := (stp i o ho).facts
      obtain ⟨i1, i2⟩ := ih (by omega)
      exact ⟨by rw [hx, setT_length, i1], by rw [hl, i2]⟩
  have mono1 : ∀ i, i < m → ss i ≤ ss (i + 1) := fun i hi => by
    obtain ⟨o, ho⟩ := some' hi
    exact (stp i o ho).facts.2.2.1
  have mono : ∀ i j, i ≤ j → j ≤ m → ss i ≤ ss j := by
    intro i j hij
    induction j with
    | zero => intro _; have : i = 0 := by omega
              subst this; exact Nat.le_refl _
    | succ j ih =>
      intro hj
      by_cases he : i = j + 1
      · subst he; exact Nat.le_refl _
      · exact Nat.le_trans (ih (by omega) (by omega)) (mono1 j (by omega))
  -- what the walk in the text's order holds
  have fullT : ∀ i, i ≤ m → ∀ d, getL (tt i) d = valW (fun j => getL (tt (j + 1)) d) (getL t d) (lastW (fun j => dst j == some d) i) := by
    intro i
    induction i with
    | zero => intro _ d; rw [e1]; rfl
    | succ i ih =>
      intro hi d
      obtain ⟨o, ho⟩ := some' (show i < m from by omega)
      obtain ⟨⟨x, hx⟩, _, _, _⟩ := (stp i o ho).facts
      simp only [lastW]
      cases hd : (dst i == some d) with
      | true => rfl
      | false =>
        simp only [cond_false]
        rw [← ih (by omega) d, hx, getL_setT, if_neg]
        rintro ⟨h', _⟩
        rw [dst_eq ho, h'] at hd
        simp at hd
  have fullH : ∀ i, i ≤ m → ∀ b, geth (hh i) b = valW (fun j => geth (hh (j + 1)) b) (geth h0 b) (lastW (fun j => inL b (tg j)) i) := by
    intro i
    induction i with
    | zero => intro _ d; rw [e2]; rfl
    | succ i ih =>
      intro hi b
      obtain ⟨o, ho⟩ := some' (show i < m from by omega)
      obtain ⟨_, _, _, hx⟩ := (stp i o ho).facts
      simp only [lastW]
      cases hd : inL b (tg i) with
      | true => rfl
      | false =>
        simp only [cond_false]
        rw [← ih (by omega) b]
        exact hx b hd (lens i (by omega)).2
  -- the state behind a set of operations
  let TS (s : Nat → Bool) (d : Nat) : AV := valW (fun j => getL (tt (j + 1)) d) (getL t d) (lastW (fun j => s j && (dst j == some d)) m)
  let HS (s : Nat → Bool) (b : Nat) : ABlk := valW (fun j => geth (hh (j + 1)) b) (geth h0 b) (lastW (fun j => s j && inL b (tg j)) m)
  let TL (s : Nat → Bool) : List AV := (List.range t.length).map (TS s)
  let HL (s : Nat → Bool) : List ABlk := (List.range L).map (HS s)
  have HLlen : ∀ s, (HL s).length = L := fun s => by simp [HL]
  have TLlen : ∀ s, (TL s).length = t.length := fun s => by simp [TL]
  let Sb (listed : Array Bool) (j : Nat) : Bool := listed.getD j false
  let Closed (s : Nat → Bool) : Prop := ∀ (i : Nat) o, s i = true → ops[i]? = some o → ∀ e ∈ o.after, Region.binds .any e = true → s e.on = true
  let Inv (listed : Array Bool) (a : Act) (w : World) : Prop := listed.size = m ∧ Closed (Sb listed) ∧ a.defers = [] ∧ ∃ E' : Env, E'.w = w ∧ HR E' (HL (Sb listed)) ∧ FR E' (TL (Sb listed)) a.tmps ∧ Ext0 E h0 E' (HL (Sb listed)) ∧ True ∧
    (∀ b, b < h.length → E'.σ b = E.σ b) ∧ ∀ i, i < m → Sb listed i = false → ∀ b, ss i ≤ b → b < ss (i + 1) → E'.σ b = none
  -- all have come up
  have final : ∀ listed a w, Inv listed a w → (∀ i, i < m → Sb listed i = true) → Q .normal a w := by
    rintro listed a w ⟨hsz, hcl, hdf, E', rfl, HR', FR', X', hpr', hold', _⟩ hall
    have hT : TL (Sb listed) = tt m := by
      apply List.ext_getElem?
      intro d
      rw [mapRange_get]
      split
      · rename_i hdl
        rw [getL_some (by rw [(lens m (Nat.le_refl _)).1]; exact hdl), fullT m (Nat.le_refl _) d]
        simp only [TS]
        rw [lastW_congr (q := fun j => dst j == some d) m fun j hj => by simp only [hall j hj, Bool.true_and]]
      · rw [List.getElem?_eq_none (by rw [(lens m (Nat.le_refl _)).1]; omega)]
    have hH : HL (Sb listed) = hh m := by
      apply List.ext_getElem?
      intro b
      rw [mapRange_get]
      split
      · rename_i hbl
        have : geth (hh m) b = HS (Sb listed) b := by
          rw [fullH m (Nat.le_refl _) b]
          simp only [HS]
          rw [lastW_congr (p := fun j => Sb listed j && inL b (tg j)) (q := fun j => inL b (tg j)) m fun j hj => by simp only [hall j hj, Bool.true_and]]
        rw [← this, geth_getD, List.getElem?_eq_getElem (by rw [(lens m (Nat.le_refl _)).2]; exact hbl)]
        rfl
      · rw [List.getElem?_eq_none (by rw [(lens m (Nat.le_refl _)).2]; omega)]
    rw [hT] at FR'
    rw [hH] at HR' X'
    have ho0 : ∀ k, Own E h0 k → Own E h k := fun k hk => by
      rcases X0.own k hk with h' | h'
      · exact h'
      · have := H0.own_lt hk; omega
    refine hQ .normal E' a (tt m) (hh m) hK ⟨X'.os, X'.tape, X'.output, X'.σ, X'.prot, X'.size, X'.kind, fun k hk hn => X'.frame k hk fun ho => hn (ho0 k ho), fun k hk => ?_, by rw [(lens m (Nat.le_refl _)).2, ← hL]; omega, hold', fun k hk => (X'.pro k hk).imp (fun h => h) (Or.imp_left (ho0 k))⟩ HR' FR' hdf
    rcases X'.own k hk with h' | h'
    · exact .inl (ho0 k h')
    · exact .inr h'
  -- one comes up
  have main : ∀ (fuel : Nat) (listed : Array Bool) (a : Act) (w : World), Inv listed a w → (List.range m).countP (fun j => !Sb listed j) ≤ fuel → wpAny P .any ops Q fuel listed a w := by
    intro fuel
    induction fuel with
    | zero =>
      intro listed a w hI hc
      have hall : ∀ i, i < m → Sb listed i = true := by
        intro i hi
        have h0 : (List.range m).countP (fun j => !Sb listed j) = 0 := by omega
        rw [List.countP_eq_zero] at h0
        have := h0 i (List.mem_range.2 hi)
        simpa using this
      refine ⟨?_, final listed a w hI hall⟩
      rw [List.eq_nil_iff_forall_not_mem]
      intro i hi
      obtain ⟨h1, o, ho, _⟩ := mem_ready.1 hi
      have h2 := hall i (lt ho)
      have hsz := hI.1
      simp only [Sb] at h2
      rw [getD_lt (by rw [hsz]; exact lt ho) true false] at h1
      rw [h1] at h2; cases h2
    | succ fuel ih =>
      intro listed a w hI hc
      refine ⟨fun hr => ?_, fun i hi => ?_⟩
      · refine final listed a w hI fun i hi => ?_
        have key : ∀ i, i < m → Sb listed i = true := by
          intro i
          induction i using Nat.strongRecOn with
          | _ i ihi =>
            intro hi
            cases hs : Sb listed i with
            | true => rfl
            | false =>
              exfalso
              obtain ⟨o, ho⟩ := some' hi
              have hin : i ∈ Region.ready .any ops listed := by
                refine mem_ready.2 ⟨?_, o, ho, fun e he hb => ?_⟩
                · rw [getD_lt (by rw [hI.1]; exact hi) true false]; exact hs
                · have hlt := D.back i o ho e he hb
                  exact ihi e.on hlt (by omega)
              rw [hr] at hin; cases hin
        exact key i hi
      · obtain ⟨hsz, hcl, hdf, E', rfl, HR', FR', X', hpr', hold', hfree⟩ := hI
        obtain ⟨h1, o, ho, hpred⟩ := mem_ready.1 hi
        have him := lt ho
        have hSi : Sb listed i = false := by
          rw [getD_lt (by rw [hsz]; exact him) true false] at h1; exact h1
        -- the order
        have before : ∀ j, inL j (getA an i) = true → Sb listed j = true := fun j hj => anc_closed D hcl i o j ho hpred hj
        have behind : ∀ j, j < m → inL i (getA an j) = true → Sb listed j = false := by
          intro j hj hij
          cases hs : Sb listed j with
          | false => rfl
          | true =>
            obtain ⟨oj, hoj⟩ := some' hj
            have := anc_closed D hcl j oj i hoj (hcl j oj hs hoj) hij
            rw [this] at hSi; cases hSi
        have ordS : ∀ j, j < m → j ≠ i → ordB an i j = true → (j < i → Sb listed j = true) ∧ (i < j → Sb listed j = false) := by
          intro j hj hji hor
          unfold ordB at hor
          by_cases hlt : j < i
          · simp only [hlt, decide_true, cond_true] at hor
            exact ⟨fun _ => before j hor, fun h' => by omega⟩
          · simp only [hlt, decide_false, cond_false] at hor
            exact ⟨fun h' => absurd h' hlt, fun _ => behind j hj hor⟩
        have memS : ∀ j, j < m → j ≠ i → (hit (tg j) (rs i) = true ∨ hit (tg j) (tg i) = true) → (j < i → Sb listed j = true) ∧ (i < j → Sb listed j = false) := by
          intro j hj hji hcf
          rcases Nat.lt_trichotomy j i with hlt | rfl | hgt
          · refine ⟨fun _ => ?_, fun h' => by omega⟩
            rcases pr j i hlt him with ⟨p1, p2⟩ | hp
            · rw [p1, p2] at hcf
              simp [hit, hit_nil] at hcf
            · simp only [pairOk, Bool.or_eq_true, Bool.not_eq_true', Bool.or_eq_false_iff] at hp
              rcases hp with ⟨⟨p1, p2⟩, p3⟩ | hp
              · rcases hcf with h' | h'
                · rw [p1] at h'; cases h'
                · rw [p2] at h'; cases h'
              · exact before j hp
          · exact absurd rfl hji
          · refine ⟨fun h' => by omega, fun _ => ?_⟩
            rcases pr i j hgt hj with ⟨p1, p2⟩ | hp
            · rw [p1] at hcf
              simp [hit] at hcf
            · simp only [pairOk, Bool.or_eq_true, Bool.not_eq_true', Bool.or_eq_false_iff] at hp
              rcases hp with ⟨⟨p1, p2⟩, p3⟩ | hp
              · rcases hcf with h' | h'
                · rw [p3] at h'; cases h'
                · have := hit_symm h'
                  rw [p2] at this; cases this
              · exact behind j hj hp
        -- the state at this operation reads as in the text's order
        have agT : ∀ d, d ∈ o.looksAt ops → getL (TL (Sb listed)) d = getL (tt i) d := by
          intro d hdl
          by_cases hdt : d < t.length
          · rw [getL_map _ _ _ hdt, fullT i (by omega) d]
            simp only [TS]
            have cf : ∀ j, j < m → j ≠ i → (dst j == some d) = true → (j < i → Sb listed j = true) ∧ (i < j → Sb listed j = false) := fun j hj hji hdj =>
              ordS j hj hji (D.ord i j o d ho hji (by simpa using hdj) (.inl hdl))
            rw [lastW_cut (p := fun j => Sb listed j && (dst j == some d)) (q := fun j => dst j == some d) (i := i) (fun j hj => ?_) m (by omega) (fun j hj hjm => ?_)]
            · cases hc : (dst j == some d) with
              | false => simp
              | true => simp [(cf j (by omega) (by omega) hc).1 hj]
            · by_cases hji : j = i
              · subst hji; simp [hSi]
              · cases hc : (dst j == some d) with
                | false => simp
                | true => simp [(cf j hjm hji hc).2 (by omega)]
          · have hge : t.length ≤ d := Nat.not_lt.1 hdt
            rw [getL_none (l := TL (Sb listed)) (by rw [TLlen]; exact hge), getL_none (l := tt i) (by rw [(lens i (by omega)).1]; exact hge)]
        have agH : ∀ b, inL b (rs i) = true → geth (HL (Sb listed)) b = geth (hh i) b := by
          intro b hb
          by_cases hbL : b < L
          · rw [geth_map _ _ _ hbL, fullH i (by omega) b]
            simp only [HS]
            have cf : ∀ j, j < m → j ≠ i → inL b (tg j) = true → (j < i → Sb listed j = true) ∧ (i < j → Sb listed j = false) := fun j hj hji hdj =>
              memS j hj hji (.inl (hit_of hdj hb))
            rw [lastW_cut (p := fun j => Sb listed j && inL b (tg j)) (q := fun j => inL b (tg j)) (i := i) (fun j hj => ?_) m (by omega) (fun j hj hjm => ?_)]
            · cases hc : inL b (tg j) with
              | false => simp
              | true => simp [(cf j (by omega) (by omega) hc).1 hj]
            · by_cases hji : j = i
              · subst hji; simp [hSi]
              · cases hc : inL b (tg j) with
                | false => simp
                | true => simp [(cf j hjm hji hc).2 (by omega)]
          · rw [geth_out (by rw [HLlen]; omega), geth_out (by rw [(lens i (by omega)).2]; omega)]
        have hmask : mask (rs i) (HL (Sb listed)) = mask (rs i) (hh i) := by
          apply List.ext_getElem?
          intro b
          rw [mask_get, mask_get]
          by_cases hbL : b < L
          · have e1 : (HL (Sb listed))[b]? = some (geth (HL (Sb listed)) b) := by rw [geth_getD, List.getElem?_eq_getElem (by rw [HLlen]; exact hbL)]; rfl
            have e2 : (hh i)[b]? = some (geth (hh i) b) := by rw [geth_getD, List.getElem?_eq_getElem (by rw [(lens i (by omega)).2]; exact hbL)]; rfl
            rw [e1, e2]
            simp only [Option.map_some, Option.some.injEq]
            cases hb : inL b (rs i) with
            | false => rfl
            | true => simp only [cond_true]; exact agH b hb
          · rw [List.getElem?_eq_none (by rw [HLlen]; omega), List.getElem?_eq_none (by rw [(lens i (by omega)).2]; omega)]
        have FK : FR E' (keepT (o.looksAt ops) (tt i)) a.tmps := keepT_FR FR' (by rw [TLlen, (lens i (by omega)).1]) agT
        have hgv : gval (TL (Sb listed)) ops.toList o.guard = gval (tt i) ops.toList o.guard := by
          cases hg : o.guard with
          | none => rfl
          | some q =>
            obtain ⟨g, want⟩ := q
            simp only [gval]
            cases hdg : dstOf ops.toList g with
            | none => rfl
            | some d =>
              simp only [gvd]
              rw [agT d]
              rw [dstOf_eq, Array.getElem?_toList] at hdg
              refine List.mem_append_right _ ?_
              rw [hg]; simp [hdg]
        obtain ⟨w1, w2⟩ := gval_sound (ops := ops) rfl (o := o) FR'
        have putd : ∀ v, (a.put o.dst v).defers = [] := by
          intro v
          cases o.dst with
          | none => exact hdf
          | some d => exact hdf
        -- the set with this one
        have hS' : ∀ j, Sb (listed.setIfInBounds i true) j = (decide (j = i) || Sb listed j) := by
          intro j
          by_cases hj : j = i
          · subst hj
            simp only [Sb, decide_true, Bool.true_or]
            simp [show j < listed.size from by rw [hsz]; exact him]
          · simp only [Sb, hj, decide_false, Bool.false_or]
            exact getD_set_ne false (Ne.symm hj)
        have cnt : (List.range m).countP (fun j => !Sb (listed.setIfInBounds i true) j) ≤ fuel := by
          have := countP_lt (p := fun j => !Sb listed j) (q := fun j => !Sb (listed.setIfInBounds i true) j) (List.range m) (fun j _ hj => by
            rw [hS'] at hj; simp at hj ⊢; exact hj.2) ⟨i, List.mem_range.2 him, by simp [hSi], by simp [hS']⟩
          omega
        have closed' : Closed (Sb (listed.setIfInBounds i true)) := by
          intro j oj hj hoj e he hb
          rw [hS'] at hj ⊢
          simp only [Bool.or_eq_true, decide_eq_true_eq] at hj ⊢
          rcases hj with rfl | hj
          · rw [ho] at hoj; injection hoj with hoj; subst hoj
            exact .inr (hpred e he hb)
          · exact .inr (hcl j oj hj hoj e he hb)
        have newT : ∀ wv, tt (i + 1) = setT (tt i) o.dst wv → TL (Sb (listed.setIfInBounds i true)) = setT (TL (Sb listed)) o.dst wv := by
          intro wv hwv
          apply List.ext_getElem?
          intro d
          by_cases hdt : d < t.length
          · have hr : (setT (TL (Sb listed)) o.dst wv)[d]? = some (getL (setT (TL (Sb listed)) o.dst wv) d) := getL_some (by rw [setT_length, TLlen]; exact hdt)
            rw [hr, mapRange_get, if_pos hdt, getL_setT]
            congr 1
            by_cases hdd : o.dst = some d
            · rw [if_pos ⟨hdd, by rw [TLlen]; exact hdt⟩]
              simp only [TS]
              rw [lastW_here (p := fun j => Sb (listed.setIfInBounds i true) j && (dst j == some d)) (i := i) (by simp [hS', dst_eq ho, hdd]) m him (fun j hj hjm => ?_)]
              · show getL (tt (i + 1)) d = wv
                rw [hwv, getL_setT, if_pos ⟨hdd, by rw [(lens i (by omega)).1]; exact hdt⟩]
              · cases hc : (dst j == some d) with
                | false => simp
                | true =>
                  have := (ordS j hjm (by omega) (D.ord i j o d ho (by omega) (by simpa using hc) (.inr hdd))).2 hj
                  simp [hS', this, show ¬ j = i from by omega]
            · rw [if_neg (by rintro ⟨a, _⟩; exact hdd a), getL_map _ _ _ hdt]
              simp only [TS]
              rw [lastW_congr (q := fun j => Sb listed j && (dst j == some d)) m fun j hj => ?_]
              rw [hS']
              by_cases hji : j = i
              · subst hji
                have : (dst j == some d) = false := by rw [dst_eq ho]; simpa using hdd
                rw [this]; simp
              · simp [hji]
          · rw [List.getElem?_eq_none (by rw [TLlen]; omega), List.getElem?_eq_none (by rw [setT_length, TLlen]; omega)]
        have keepH : tg i = [] → HL (Sb (listed.setIfInBounds i true)) = HL (Sb listed) := by
          intro hti
          apply List.map_congr_left
          intro b _
          simp only [HS]
          rw [lastW_congr (q := fun j => Sb listed j && inL b (tg j)) m fun j hj => ?_]
          rw [hS']
          by_cases hji : j = i
          · subst hji; rw [hti]; simp [inL]
          · simp [hji]
        have go : ∀ (E2 : Env) (a' : Act), HR E2 (HL (Sb (listed.setIfInBounds i true))) → FR E2 (TL (Sb (listed.setIfInBounds i true))) a'.tmps → a'.defers = [] → Ext0 E' (HL (Sb listed)) E2 (HL (Sb (listed.setIfInBounds i true))) →
            True → (∀ b, ¬ (ss i ≤ b ∧ b < ss (i + 1)) → E2.σ b = E'.σ b) → wpAny P .any ops Q fuel (listed.setIfInBounds i true) a' E2.w := by
          intro E2 a' g1 g2 g3 g4 g5 g6
          refine ih _ _ _ ⟨by simp [hsz], closed', g3, E2, rfl, g1, g2, X'.trans g4, trivial, fun b hb => ?_, fun j hj hSj b hb1 hb2 => ?_⟩ cnt
          · have := mono 0 i (by omega) (by omega)
            rw [g6 b (by omega)]; exact hold' b hb
          · have hji : j ≠ i := by rintro rfl; rw [hS'] at hSj; simp at hSj
            have hSj' : Sb listed j = false := by rw [hS'] at hSj; simp at hSj; exact hSj.2
            rw [g6 b (fun hc => by
              rcases Nat.lt_or_gt_of_ne hji with hlt | hgt
              · have := mono (j + 1) i (by omega) (by omega); omega
              · have := mono (i + 1) j (by omega) (by omega); omega)]
            exact hfree j hj hSj' b hb1 hb2
        unfold wpOp
        simp only [ho]
        rcases stp i o ho with ⟨t1, t2, t3, t4, x, t5⟩ | ⟨t1, t2, t3, v, wv, t5, t6, t9⟩ | ⟨v, hN, wv, t5, t6, t10, t11, t12, t13, t9⟩
        · rw [w2 false (by rw [hgv]; exact t4)]
          simp only [Bool.false_eq_true, if_false]
          refine go E' _ (by rw [keepH t1]; exact HR') (by rw [newT _ t5]; exact FR_put FR' (.opt_f x) o.dst) (putd _) (by rw [keepH t1]; exact ⟨rfl, rfl, rfl, fun _ _ h => h, fun _ h => h, Nat.le_refl _, fun k cs e h => ⟨cs, h, rfl⟩, fun _ _ _ => rfl, fun _ h => .inl h, fun _ h => .inl h⟩) trivial fun _ _ => rfl
        · have hwant : Region.wanted o (yielded ops a.tmps) = true := by
            rcases t5 with ⟨t5, _⟩ | ⟨t5, _⟩
            · exact w1 (by rw [hgv]; exact t5)
            · exact w2 true (by rw [hgv]; exact t5)
          rw [if_pos hwant]
          refine .inl ?_
          refine t6 E' a _ Q (by rw [← hmask]; exact mask_HR HR' (rs i)) FK fun r E1 X1 H1 hv => ?_
          rw [← hmask] at X1 H1
          obtain ⟨E2, hw2, g1, g2, g3, g4, g5, _⟩ := place_HR (s := 0) HR' X1 H1 (fun b _ hb => by rw [mask_length] at hb; omega) (fun hc => by rw [mask_length] at hc; omega)
          rw [place_mask] at g1 g2
          rw [← hw2]
          refine go E2 _ (by rw [keepH t1]; exact g1) ?_ (putd _) (by rw [keepH t1]; exact g2) g4 fun b hb => g3 b (by rw [mask_length]; omega)
          rw [newT _ t9]
          refine FR_put (FR_mono (g2.keep HR') FR') ?_ o.dst
          have hv2 := g5 (mask_length ..) _ _ hv
          rcases t5 with ⟨_, rfl⟩ | ⟨_, rfl⟩
          · exact hv2
          · exact .opt_t _ _ hv2
        · have hwant : Region.wanted o (yielded ops a.tmps) = true := by
            rcases t5 with ⟨t5, _⟩ | ⟨t5, _⟩
            · exact w1 (by rw [hgv]; exact t5)
            · exact w2 true (by rw [hgv]; exact t5)
          rw [if_pos hwant]
          refine .inl ?_
          refine t6 E' a _ Q (by rw [← hmask]; exact mask_HR HR' (rs i)) FK fun r E1 X1 H1 hv => ?_
          rw [← hmask] at X1
          have hm1 := mono (i + 1) m (by omega) (Nat.le_refl _)
          obtain ⟨E2, hw2, g1, g2, g3, g4, _, g5⟩ := place_HR (s := ss i) HR' X1 H1 (fun b hb1 hb2 => by
              rw [HLlen] at hb2 ⊢
              exact ⟨by omega, hfree i him hSi b hb1 (by omega)⟩) (fun hc => by
              rw [HLlen] at hc ⊢
              exact fun b x hb => nrH_get (t10 hc) hb)
          have hplace : place (rs i) (ss i) hN (HL (Sb listed)) = HL (Sb (listed.setIfInBounds i true)) := by
            apply List.ext_getElem?
            intro b
            by_cases hbL : b < L
            · have q1 : (HL (Sb listed))[b]? = some (HS (Sb listed) b) := by rw [mapRange_get, if_pos hbL]
              have q2 : (hh i)[b]? = some (geth (hh i) b) := by rw [geth_getD, List.getElem?_eq_getElem (by rw [(lens i (by omega)).2]; exact hbL)]; rfl
              rw [place_get, q1, mapRange_get, if_pos hbL]
              simp only [Option.map_some, Option.some.injEq, HLlen]
              cases hbt : inL b (tg i) with
              | true =>
                have hlast : HS (Sb (listed.setIfInBounds i true)) b = geth (hh (i + 1)) b := by
                  simp only [HS]
                  rw [lastW_here (p := fun j => Sb (listed.setIfInBounds i true) j && inL b (tg j)) (i := i) (by simp [hS', hbt]) m him (fun j hj hjm => ?_)]
                  · rfl
                  · cases hc : inL b (tg j) with
                    | false => simp
                    | true =>
                      have := (memS j hjm (by omega) (.inr (hit_of hc hbt))).2 hj
                      simp [hS', this, show ¬ j = i from by omega]
                rw [hlast, t12, geth_getD (place (rs i) (ss i) hN (hh i)), place_get, q2]
                rw [t11, inL_append, inL_slots, Bool.or_eq_true] at hbt
                simp only [Option.map_some, Option.getD_some, (lens i (by omega : i ≤ m)).2]
                rcases hbt with hbt | hbt
                · rw [hbt]; simp only [cond_true]
                · rw [hbt]; simp only [cond_true]
              | false =>
                have hkeep : HS (Sb (listed.setIfInBounds i true)) b = HS (Sb listed) b := by
                  simp only [HS]
                  rw [lastW_congr (q := fun j => Sb listed j && inL b (tg j)) m fun j hj => ?_]
                  rw [hS']
                  by_cases hji : j = i
                  · subst hji; rw [hbt]; simp
                  · simp [hji]
                rw [hkeep]
                rw [t11, inL_append, inL_slots, Bool.or_eq_false_iff] at hbt
                rw [hbt.2, hbt.1]; rfl
            · rw [List.getElem?_eq_none (by rw [place_length, HLlen]; omega), List.getElem?_eq_none (by rw [HLlen]; omega)]
          rw [hplace] at g1 g2
          rw [← hw2]
          refine go E2 _ g1 ?_ (putd _) g2 g4 fun b hb => g3 b (by rw [HLlen]; omega)
          rw [newT _ t9]
          refine FR_put (FR_mono (g2.keep HR') FR') ?_ o.dst
          have hv2 := g5 _ _ hv
          rw [HLlen] at hv2
          rcases t5 with ⟨_, rfl⟩ | ⟨_, rfl⟩
          · exact hv2
          · exact .opt_t _ _ hv2
  -- the beginning
  refine wp_region_any hm ?_
  have e0 : ∀ j, Sb (Array.replicate ops.size false) j = false := fun j => by
    simp only [Sb, Array.getD]
    split <;> simp
  have lw0 : ∀ (p : Nat → Bool) n, (∀ j, p j = false) → lastW p n = none := by
    intro p n hp
    induction n with
    | zero => rfl
    | succ n ih => simp only [lastW, hp, cond_false, ih]
  have hT0 : TL (Sb (Array.replicate ops.size false)) = t := by
    apply List.ext_getElem?
    intro d
    rw [mapRange_get]
    split
    · rename_i hdt
      simp only [TS]
      rw [lw0 _ _ fun j => by simp [e0]]
      exact (getL_some hdt).symm
    · rw [List.getElem?_eq_none (by omega)]
  have hH0 : HL (Sb (Array.replicate ops.size false)) = h0 := by
    apply List.ext_getElem?
    intro b
    rw [mapRange_get]
    split
    · rename_i hbL
      simp only [HS]
      rw [lw0 _ _ fun j => by simp [e0]]
      rw [List.getElem?_eq_getElem (by omega)]
      simp only [valW, Option.some.injEq]
      rw [geth_getD, List.getElem?_eq_getElem (by omega)]; rfl
    · rw [List.getElem?_eq_none (by omega)]
  obtain ⟨HD, XD⟩ := same_HR H0 { E.w with drawn := E.w.drawn + 1 } rfl rfl rfl rfl
  refine main ops.size _ _ _ ⟨by simp [hm'], (fun i o hi => by rw [e0] at hi; cases hi), hd, { E with w := { E.w with drawn := E.w.drawn + 1 } }, rfl, by rw [hH0]; exact HD, by rw [hT0]; exact FR_mono (XD.keep H0) F, by rw [hH0]; exact XD.zero, trivial, fun _ _ => rfl, fun i hi _ b hb1 hb2 => ?_⟩ ?_
  · have h1 := mono 0 i (by omega) (by omega)
    exact H.fresh b (by omega)
  · rw [hm']
    exact Nat.le_trans List.countP_le_length (by simp)
end Go.Am
