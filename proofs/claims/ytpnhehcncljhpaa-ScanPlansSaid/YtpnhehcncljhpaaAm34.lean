/-
  The abstract machine, part 34: contracts of functions that change the memory of a slice that they are given (its capacity is known inside).
-/
import Derived.Test.YtpnhehcncljhpaaAm33
import Derived.Laws.Externs
import Derived.Lib.Overlaps
namespace Go.Am
set_option linter.unusedVariables false
variable {P : Program} {E : Env} {h : List ABlk}

/-! ### slices.overlaps -/
/-- Where a slice's own block lies. -/
def atB (E : Env) (b es n : Nat) (u : Value) : Prop := ∃ a cap, u = .slice a n cap ∧ (0 < n → ∃ k off cs e, a = some ⟨k, off, none⟩ ∧ (∃ o, E.σ b = some (k, o)) ∧ E.w.heap[k]? = some (.cells cs e (0, 0)) ∧ (1 ≤ es → cs.size ≠ 0))
def slB : AV → Option (Nat × Nat × Nat)
  | .sl b es _ n _ => some (b, es, n)
  | .csl b es _ n _ => some (b, es, n)
  | _ => none
theorem slB_at {x : AV} {u : Value} {b es n : Nat} (hx : VR E x u) (hb : slB x = some (b, es, n)) : atB E b es n u := by
  have fit : ∀ {es cap o i z : Nat}, 0 < cap → o + i * es + cap * es ≤ z → 1 ≤ es → z ≠ 0 := by
    intro es cap o i z h1 h2 h3
    have := Nat.mul_le_mul_right es (show 1 ≤ cap from h1)
    omega
  cases hx <;> simp only [slB, Option.some.injEq, Prod.mk.injEq, reduceCtorEq] at hb
  case sl b' es i m nl a cap hn hcm hnl hz hc =>
    obtain ⟨rfl, rfl, rfl⟩ := hb
    exact ⟨a, cap, rfl, fun hp => by obtain ⟨k, o, cs, e, h1, h2, h3, h4⟩ := hc (by omega); exact ⟨k, _, cs, e, h2, ⟨o, h1⟩, h3, fit (by omega) h4⟩⟩
  case csl b' es i m c a hn hcm hc =>
    obtain ⟨rfl, rfl, rfl⟩ := hb
    exact ⟨a, c, rfl, fun hp => by obtain ⟨k, o, cs, e, h1, h2, h3, h4⟩ := hc (by omega); exact ⟨k, _, cs, e, h2, ⟨o, h1⟩, h3, fit (by omega) h4⟩⟩
theorem run_overlaps {t tr e : TypeId} {z b b' es es' n n' : Nat} {u v : Value} (ht : P.underlying t = some (.slice e)) (hz : tsz P e = some z)
    (H : HR E h) (hb : b ≠ b') (h1 : geth h b ≠ .dead) (h2 : geth h b' ≠ .dead) (hn : 0 < n) (hn' : 0 < n') (hes : 1 ≤ es') (hu : atB E b es n u) (hv : atB E b' es' n' v) :
    (Extern.SlicesOverlaps.overlaps #[t, t] #[tr] #[u, v]).run P E.w = .ok (.bool false) E.w := by
  obtain ⟨a, ca, rfl, ha⟩ := hu
  obtain ⟨a', ca', rfl, ha'⟩ := hv
  obtain ⟨k, off, cs, e1, rfl, ⟨o, g1⟩, g2, _⟩ := ha hn
  obtain ⟨k', off', cs', e1', rfl, ⟨o', g1'⟩, g2', g3'⟩ := ha' hn'
  have hk : k ≠ k' := by
    rintro rfl
    exact hb (H.inj b b' _ _ k o o' (geth_some h1) h1 (geth_some h2) h2 g1 g1')
  exact Go.Lib.run_overlaps_apart E.w t tr e ht z (run_sizeOf hz) ⟨k, off, none⟩ ⟨k', off', none⟩ n ca n' ca' hk e1 e1' cs.size cs'.size (by unfold World.shape?; simp only [g2]) (by unfold World.shape?; simp only [g2']) (g3' hes)
    (by unfold World.frozen?; simp only [g2]; simp) (by unfold World.frozen?; simp only [g2]; simp)
def ovC : List AV → List ABlk → AR
  | [x, y], h => match slB x with
    | some (b, es, n) => match slB y with
      | some (b', es', n') => .pure (b ≠ b' ∧ geth h b ≠ .dead ∧ geth h b' ≠ .dead ∧ 0 < n ∧ 0 < n' ∧ 1 ≤ es') (.bool false)
      | none => .fail
    | none => .fail
  | _, _ => .fail
theorem ov_ext {f : FuncId} {fn : Func} {t tr e : TypeId} {z : Nat} (hf : P.funcs[f]? = some fn) (hname : (fn.name == "runtime.NumGoroutine") = false) (hbd : fn.body.isNone = true) (hn : Extern.findNext fn = none)
    (he : Extern.find fn = some (Extern.SlicesOverlaps.overlaps #[t, t] #[tr])) (ht : tslice P t = some e) (hz : tsz P e = some z) : ExtOk P f ovC := by
  intro E h l vs H F
  refine ⟨fun ob v h' hc => ?_, fun ob v hc hob => ?_⟩
  · unfold ovC at hc
    split at hc
    · split at hc
      · split at hc <;> cases hc
      · cases hc
    · cases hc
  · unfold ovC at hc
    split at hc
    · rename_i x y
      split at hc
      · rename_i b es n q1
        split at hc
        · rename_i b' es' n' q2
          injection hc with r1 r2; subst r1 r2
          obtain ⟨o1, o2, o3, o4, o5, o6⟩ := hob
          obtain ⟨u1, u2, rfl, hu1, hu2⟩ := FR_two F
          refine ⟨.bool false, rfl, fun E' => .bool _, ?_⟩
          rw [run_callFunc_extern hf hname hbd hn he, run_overlaps (und_of_tslice ht) hz H o1 o2 o3 o4 o5 o6 (slB_at hu1 q1) (slB_at hu2 q2)]
          rfl
        · cases hc
      · cases hc
    · cases hc

/-! ### The heap behind what the caller sees -/
theorem geth_push (h : List ABlk) (x : ABlk) : geth (h ++ [x]) h.length = x := by
  rw [geth_getD]; simp
theorem geth_pre {h g : List ABlk} {b : Nat} (hb : b < h.length) : geth (h ++ g) b = geth h b := by
  rw [geth_getD, geth_getD, List.getElem?_append_left hb]
theorem seth_push (h : List ABlk) (x y : ABlk) : seth (h ++ [x]) h.length y = h ++ [y] := by
  rw [seth_set]; simp
theorem geth_seth {h : List ABlk} {b : Nat} {x : ABlk} (hb : b < h.length) : geth (seth h b x) b = x := by
  rw [geth_getD, seth_set, List.getElem?_set_self hb]; rfl
theorem geth_seth_ne {h : List ABlk} {b c : Nat} {x : ABlk} (hb : c ≠ b) : geth (seth h b x) c = geth h c := by
  rw [geth_getD, geth_getD, seth_set, List.getElem?_set_ne (Ne.symm hb)]
theorem seth_seth {h : List ABlk} {b : Nat} {x y : ABlk} : seth (seth h b x) b y = seth h b y := by
  rw [seth_set, seth_set, seth_set, List.set_set]
theorem seth_len {h : List ABlk} {b : Nat} {x : ABlk} : (seth h b x).length = h.length := by
  rw [seth_set, List.length_set]
theorem geth_lt {h : List ABlk} {b : Nat} (hb : geth h b ≠ .dead) : b < h.length := by
  rcases Nat.lt_or_ge b h.length with h' | h'
  · exact h'
  · exact absurd (geth_out h') hb

/-- A slice of unknown capacity, as one whose capacity is known. -/
theorem csl_of_sl {b es i n : Nat} {nl : Bool} {u : Value} (hx : VR E (.sl b es i n nl) u) : ∃ cap, n ≤ cap ∧ VR E (.csl b es i n cap) u := by
  cases hx with
  | sl _ _ _ _ _ a cap hn hcm hnl hz hc => exact ⟨cap, hn, .csl _ _ _ _ _ _ hn hcm hc⟩

/-- What a result with its heap says, said of another. -/
def ConvR (v : AV) (h' : List ABlk) (v1 : AV) (h1 : List ABlk) : Prop := ∀ (E1 : Env) (u : Value), HR E1 h1 → VR E1 v1 u → ∃ E', E'.w = E1.w ∧ Ext E1 h1 E' h' ∧ HR E' h' ∧ VR E' v u
theorem ConvR.refl (v : AV) (h : List ABlk) : ConvR v h v h := fun E1 u H V => ⟨E1, rfl, Ext.refl _ _, H, V⟩
/-- A slice of known capacity over a changed block, as a slice over a new block. -/
theorem conv_move {b es i m N cap : Nat} {e : TypeId} {c1 c : Nat → Nat → AV} {h1 : List ABlk} (hb : geth h1 b = .row e es N c1) (hcap : 0 < cap) (hN : i + m ≤ N) (hc : ∀ x y, x < m → y < es → c1 (i + x) y = c x y) :
    ConvR (.sl h1.length es 0 m false) (seth h1 b .dead ++ [.row e es m c]) (.csl b es i m cap) h1 := by
  intro E1 u H V
  cases V with
  | csl _ _ _ _ _ a hn hcm hc' =>
  obtain ⟨k, o, cs, e2, g1, rfl, g3, g4⟩ := hc' hcap
  have hne : (ABlk.row e es N c1) ≠ .dead := fun e => by cases e
  have hbs : h1[b]? = some (.row e es N c1) := by rw [geth_some (h := h1) (b := b) (by rw [hb]; exact hne), hb]
  have hlt : b < h1.length := geth_lt (by rw [hb]; exact hne)
  have hσ2 : ∀ (c' : Nat) (y : Nat × Nat), E1.σ c' = some y → upd E1.σ h1.length (some (k, o + i * es)) c' = some y := by
    intro c' y hc'
    rw [upd_ne, hc']
    rintro rfl
    rw [H.fresh _ (Nat.le_refl _)] at hc'
    cases hc'
  have K2 : Keep E1 { E1 with σ := upd E1.σ h1.length (some (k, o + i * es)) } := ⟨hσ2, fun _ h => h, fun _ _ => rfl, fun k cs e h => ⟨cs, h, rfl⟩⟩
  have hB := H.blk b _ hbs
  unfold BR at hB
  rw [g1] at hB
  obtain ⟨cs', q1, q2, q3⟩ := hB
  rw [g3] at q1
  injection q1 with q1
  injection q1 with q1a q1b
  subst q1a q1b
  obtain ⟨H2, X2⟩ := move_HR (o' := o + i * es) (x' := .row e2 es m c) H hbs hne g1 (by
    unfold BR
    rw [show ({ E1 with σ := upd E1.σ h1.length (some (k, o + i * es)) } : Env).σ h1.length = some (k, o + i * es) from upd_same _ _ _]
    refine ⟨cs, g3, ?_, fun x y hx hy => ?_⟩
    · have := Nat.mul_le_mul_right es hn
      omega
    · obtain ⟨v, a1, a2, a3⟩ := q3 (i + x) y (by omega) hy
      refine ⟨v, ?_, a2, ?_⟩
      · rw [← a1, Nat.add_mul]; congr 1; omega
      · rw [← hc x y hx hy]; exact a3.mono K2)
  rw [seth_set]
  exact ⟨{ E1 with σ := upd E1.σ h1.length (some (k, o + i * es)) }, rfl, X2, H2, .sl _ _ _ _ _ _ _ hn hcm (fun h => by cases h) (fun h => by cases h) fun _ => ⟨k, o + i * es, cs, e2, upd_same _ _ _, by simp, g3, by omega⟩⟩
/-- A block given up that no longer counts. -/
theorem conv_kill {b L es m : Nat} {h1 h' : List ABlk} {nl : Bool} (hh : seth h1 b .dead = h') : ConvR (.sl L es 0 m nl) h' (.sl L es 0 m nl) h1 := by
  intro E1 u H V
  obtain ⟨H1, X1⟩ := kill_HR H b
  rw [← seth_set, hh] at H1 X1
  exact ⟨E1, rfl, X1, H1, V⟩

/-- A function that changes memory that it is given. -/
theorem edit_fn {f : FuncId} {fn : Func} {code : Code} {sh : TypeId → Option (List Leaf)} {ct : Ct} (S : ShOk P sh) (C : CtOk P ct) (c : List AV → List ABlk → AR) {rs : List ResultVar}
    (hf : P.funcs[f]? = some fn) (hn : (fn.name == "runtime.NumGoroutine") = false) (hb : fn.body = some code) (hrs : fn.results.toList = rs) (hnp : ∀ l h ob v, c l h ≠ .pure ob v)
    (hw : ∀ (E : Env) (h : List ABlk) (l : List AV) (vs : Array Value) (ob : Prop) (v : AV) (h' : List ABlk), HR E h → FR E l vs → c l h = .heap ob v h' → ob → ∃ l', FR E l' vs ∧
      wpC P sh ct code (kRet P rs (ConvR v h')) (l' ++ List.replicate (fn.ntmps - l'.length) .top) h) : FnOk P f c := by
  subst hrs
  have tops : ∀ {E : Env} {l' : List AV} {vs : Array Value}, FR E l' vs → FR E (l' ++ List.replicate (fn.ntmps - l'.length) .top) (vs ++ Array.replicate (fn.ntmps - vs.size) undef) := by
    intro E l' vs F1
    refine FR_append F1 ⟨by simp [F1.1], fun i a v ha hv => ?_⟩
    rw [List.getElem?_replicate] at ha
    split at ha
    · injection ha with ha; subst ha; exact .top _
    · cases ha
  refine ⟨⟨fn, hf, hn, by rw [hb]; rfl⟩, fun E h l vs ob v h' H F hr hob => ?_, fun E h l vs ob v H F hr hob => absurd hr (hnp _ _ _ _)⟩
  cases hc : c l h with
  | fail => rw [hc] at hr; cases hr
  | pure a b => exact absurd hc (hnp _ _ _ _)
  | heap ob2 v2 h2 =>
    rw [hc] at hr
    simp only [AR.out, Option.some.injEq, Prod.mk.injEq] at hr
    obtain ⟨rfl, rfl, rfl⟩ := hr
    obtain ⟨l', g1, g3⟩ := hw E h l vs _ _ _ H F hc hob
    refine calls_of_wp hf hb ?_
    refine wpC_sound S C code _ _ _ g3 E _ _ H (tops g1) rfl fun e E1 a' t' h1 hk X1 H1 F' hd => ?_
    have done : retK P fn.results.toList (ConvR v2 h2) t' h1 → a'.defers = [] ∧ ∃ u, (results fn a'.tmps).run P E1.w = .ok u E1.w ∧ Ret E h h2 v2 (.returned u) E1.w := by
      intro hk
      obtain ⟨u, v', q1, q2, q3⟩ := ret_sound (P := P) H1 F' hk
      obtain ⟨E', w1, w2, w3, w4⟩ := q2 E1 u H1 q3
      exact ⟨hd, u, q1, u, E', rfl, w1, X1.trans w2, w3, w4⟩
    cases e with
    | normal => exact done hk
    | ret => exact done hk
    | exit id => exact hk.elim
    | goto l => exact hk.elim
end Go.Am
