/-
  The abstract machine, part 4: addresses, parts, slices, arithmetic: what they give is what the model's operations do.
-/
import Derived.Test.YtpnhehcncljhpaaAm3
namespace Go.Am
set_option linter.unusedVariables false
section
variable {P : Program} {E : Env} {h : List ABlk}

theorem tfld_some {t f ty off z : Nat} (hf : tfld P t f = some (ty, off, z)) : ∃ fs x, P.underlying t = some (.struct fs) ∧ fs[f]? = some x ∧ x.type = ty ∧ x.offset = off ∧ tsz P x.type = some z := by
  unfold tfld at hf
  split at hf
  · rename_i fs hu
    split at hf
    · rename_i x hx
      cases hz : tsz P x.type with
      | none => rw [hz] at hf; cases hf
      | some z' => rw [hz] at hf; simp at hf; obtain ⟨rfl, rfl, rfl⟩ := hf; exact ⟨fs, x, hu, hx, rfl, rfl, hz⟩
    · cases hf
  · cases hf

theorem fieldAddr_sound {s f : Nat} {p v : AV} {u : Value} {ob : Prop} (hp : VR E p u) (hr : evFieldAddr (tfld P s f) p = .pure ob v) (hob : ob) :
    ∃ r, (∀ W, (Instr.fieldAt s u f).run P W = .ok r W) ∧ VR E v r := by
  cases hf : tfld P s f with
  | none => rw [hf] at hr; cases hp <;> simp only [evFieldAddr] at hr <;> cases hr
  | some q =>
    obtain ⟨ty, off, z⟩ := q
    obtain ⟨fs, x, hu, hx, rfl, rfl, hz⟩ := tfld_some hf
    rw [hf] at hr
    have main : ∀ (a : Addr), z ≠ 0 → ∀ W, (Instr.fieldAt s (.pointer (some a)) f).run P W = .ok (.pointer (some (a.add x.offset))) W := by
      intro a hz0 W
      simp [Instr.fieldAt, run_underlying hu, hx, Instr.sureAddr, fieldPlace, run_sizeOf hz, hz0]
    cases hp with
    | ptr b es i j k o hs =>
      simp only [evFieldAddr, AR.pure.injEq] at hr
      obtain ⟨rfl, rfl⟩ := hr
      refine ⟨_, main _ hob, ?_⟩
      rw [add_none]
      have := VR.ptr (E := E) b es i (j + x.offset) k o hs
      rwa [show o + i * es + (j + x.offset) = o + i * es + j + x.offset from by omega] at this
    | rptr es n i j k o c us hpr hu' h1 hc hrf =>
      simp only [evFieldAddr, AR.pure.injEq] at hr
      obtain ⟨rfl, rfl⟩ := hr
      refine ⟨_, main _ hob, ?_⟩
      rw [add_none]
      have := VR.rptr (E := E) es n i (j + x.offset) k o c us hpr hu' h1 hc hrf
      rwa [show o + i * es + (j + x.offset) = o + i * es + j + x.offset from by omega] at this
    | _ => simp only [evFieldAddr] at hr; cases hr

theorem part_agg {t z off : Nat} {l : List AV} {cs : Array Value} (ht : tagg P t = some true) (hz : tsz P t = some z) (hv : VR E (.agg l) (.agg cs)) (ho : off + z ≤ l.length) :
    ∃ r, (∀ w, (part t cs off).run P w = .ok r w) ∧ VR E (.agg (tabF (getL l) off z)) r := by
  cases hv with
  | agg _ _ hl h1 h2 =>
    refine ⟨.agg (cs.extract off (off + z)), fun w => by simp [part, run_isAgg ht, run_sizeOf hz], ?_⟩
    have hg : ∀ i, i < z → (cs.extract off (off + z))[i]? = cs[off + i]? := by
      intro i hi
      rw [Array.getElem?_extract]
      rw [if_pos (by omega)]
    have hlt : ∀ {i : Nat} {v : Value}, (cs.extract off (off + z))[i]? = some v → i < z := by
      intro i v hv
      rcases Nat.lt_or_ge i z with h' | h'
      · exact h'
      · rw [Array.getElem?_eq_none (by simp; omega)] at hv; cases hv
    refine .agg _ _ (by simp [tabF_length]; omega) (fun i v hv => ?_) (fun i a v ha hv => ?_)
    · have hi := hlt hv
      rw [hg i hi] at hv
      exact h1 _ v hv
    · have hi := hlt hv
      rw [hg i hi] at hv
      rw [tabF_get _ _ _ _ hi] at ha
      injection ha with ha
      rw [← ha]
      exact h2 (off + i) _ v (getL_some (by omega)) hv
theorem part_one {t off : Nat} {l : List AV} {cs : Array Value} (ht : tagg P t = some false) (hv : VR E (.agg l) (.agg cs)) (ho : off < l.length) :
    ∃ r, (∀ w, (part t cs off).run P w = .ok r w) ∧ VR E (getL l off) r := by
  cases hv with
  | agg _ _ hl h1 h2 =>
    have hlt : off < cs.size := by omega
    exact ⟨cs[off], fun w => by simp [part, run_isAgg ht, Array.getElem?_eq_getElem hlt], h2 off _ _ (getL_some ho) (Array.getElem?_eq_getElem hlt)⟩

theorem field_sound {s f : Nat} {p v : AV} {u : Value} {ob : Prop} (hp : VR E p u) (hr : evField ((tfld P s f).bind fun x => tagg P x.1) (tfld P s f) p = .pure ob v) (hob : ob) :
    ∃ r, (∀ W, (Instr.field s u f).run P W = .ok r W) ∧ VR E v r := by
  cases hf : tfld P s f with
  | none => rw [hf] at hr; cases hp <;> simp only [evField, Option.bind_none] at hr <;> cases hr
  | some q =>
    obtain ⟨ty, off, z⟩ := q
    obtain ⟨fs, x, hu, hx, rfl, rfl, hz⟩ := tfld_some hf
    rw [hf] at hr
    simp only [Option.bind_some] at hr
    cases ht : tagg P x.type with
    | none => rw [ht] at hr; cases hp <;> simp only [evField] at hr <;> cases hr
    | some ag =>
      rw [ht] at hr
      cases hp with
      | agg l cs hl h1 h2 =>
        have hv : VR E (.agg l) (.agg cs) := .agg l cs hl h1 h2
        simp only [evField] at hr
        cases ag with
        | true =>
          simp only [cond_true, AR.pure.injEq] at hr
          obtain ⟨rfl, rfl⟩ := hr
          obtain ⟨r, q1, q2⟩ := part_agg ht hz hv hob
          exact ⟨r, fun W => by simp [Instr.field, run_underlying hu, hx, asAgg, q1], q2⟩
        | false =>
          simp only [cond_false, AR.pure.injEq] at hr
          obtain ⟨rfl, rfl⟩ := hr
          obtain ⟨r, q1, q2⟩ := part_one ht hv hob
          exact ⟨r, fun W => by simp [Instr.field, run_underlying hu, hx, asAgg, q1], q2⟩
      | _ => simp only [evField] at hr; cases hr

theorem VR_int {k : IntKind} {q : Int} {v : Value} (hv : VR E (.int k q) v) : v = .int k q := by cases hv; rfl

theorem mul_split (o i q es : Nat) : o + (i + q) * es + 0 = o + i * es + q * es := by rw [Nat.add_mul]; omega

theorem evIndexAddr_int {sl : Option TypeId} {ar : Option (Nat × TypeId)} {z : Option Nat} {x ix v : AV} {ob : Prop} (hr : evIndexAddr sl ar z x ix = .pure ob v) : ∃ k q, ix = .int k q := by
  unfold evIndexAddr at hr
  split at hr <;> first | exact ⟨_, _, rfl⟩ | cases hr

theorem indexAddr_sound {t : Nat} {x ix v : AV} {u ui : Value} {ob : Prop} (hx : VR E x u) (hi : VR E ix ui)
    (hr : evIndexAddr (tslice P t) (tarr P t) (((tslice P t).or ((tarr P t).map (·.2))).bind (tsz P)) x ix = .pure ob v) (hob : ob) :
    ∃ r, (∀ W, (Instr.indexAt t u ui).run P W = .ok r W) ∧ VR E v r := by
  obtain ⟨k, q, rfl⟩ := evIndexAddr_int hr
  · obtain rfl := VR_int hi
    cases hs : tslice P t with
    | some e =>
      rw [hs] at hr
      simp only [Option.some_or, Option.bind_some] at hr
      have hu := und_of_tslice hs
      cases hz : tsz P e with
      | none => rw [hz] at hr; simp only [evIndexAddr] at hr; cases hr
      | some z =>
        rw [hz] at hr
        have main : ∀ (a : Addr) (n cap : Nat), 0 ≤ q → q < n → ∀ W, (Instr.indexAt t (.slice (some a) n cap) (.int k q)).run P W = .ok (.pointer (some (a.add (q.toNat * z)))) W := by
          intro a n cap h0 h1 W
          simp [Instr.indexAt, asIntOf, run_underlying hu, run_sizeOf hz, h0, h1]
        cases hx with
        | sl b es i n nl a cap hn hcm hnl hz' hc =>
          simp only [evIndexAddr, AR.pure.injEq] at hr
          obtain ⟨rfl, rfl⟩ := hr
          obtain ⟨h0, h1, rfl⟩ := hob
          obtain ⟨k', o, cs, e', g1, g2, g3, g4⟩ := hc (by omega)
          subst g2
          refine ⟨_, main _ n cap h0 h1, ?_⟩
          rw [add_none, ← mul_split]
          exact .ptr b z (i + q.toNat) 0 k' o g1
        | isl b es i j z' n cap k' o hn hcm g1 =>
          simp only [evIndexAddr, AR.pure.injEq] at hr
          obtain ⟨rfl, rfl⟩ := hr
          obtain ⟨h0, h1, rfl⟩ := hob
          refine ⟨_, main _ n cap h0 h1, ?_⟩
          rw [add_none]
          have := VR.ptr (E := E) b es i (j + q.toNat * z') k' o g1
          rwa [show o + i * es + (j + q.toNat * z') = o + i * es + j + q.toNat * z' from by omega] at this
        | ro es n nl c a cap hn hcm hnl hz' us ha h1' hc hrf =>
          simp only [evIndexAddr, AR.pure.injEq] at hr
          obtain ⟨rfl, rfl⟩ := hr
          obtain ⟨h0, h1, rfl⟩ := hob
          obtain ⟨k', o, g1, g2, g3⟩ := ha (by omega)
          subst g1
          refine ⟨_, main _ n cap h0 h1, ?_⟩
          rw [add_none]
          exact .rptr z n q.toNat 0 k' o c us g2 g3 h1' hc hrf
        | _ => simp only [evIndexAddr] at hr; cases hr
    | none =>
      rw [hs] at hr
      simp only [Option.none_or] at hr
      cases ha : tarr P t with
      | none => rw [ha] at hr; cases hr
      | some q' =>
        obtain ⟨len, e⟩ := q'
        rw [ha] at hr
        simp only [Option.map_some, Option.bind_some] at hr
        have hu := und_of_tarr ha
        cases hz : tsz P e with
        | none => rw [hz] at hr; simp only [evIndexAddr] at hr; cases hr
        | some z =>
          rw [hz] at hr
          have main : ∀ (a : Addr), 0 ≤ q → q < len → ∀ W, (Instr.indexAt t (.pointer (some a)) (.int k q)).run P W = .ok (.pointer (some (a.add (q.toNat * z)))) W := by
            intro a h0 h1 W
            simp [Instr.indexAt, asIntOf, run_underlying hu, Instr.sureAddr, run_sizeOf hz, h0, h1]
          cases hx with
          | ptr b es i j k' o g1 =>
            simp only [evIndexAddr, AR.pure.injEq] at hr
            obtain ⟨rfl, rfl⟩ := hr
            refine ⟨_, main _ hob.1 hob.2, ?_⟩
            rw [add_none]
            have := VR.ptr (E := E) b es i (j + q.toNat * z) k' o g1
            rwa [show o + i * es + (j + q.toNat * z) = o + i * es + j + q.toNat * z from by omega] at this
          | rptr es n i j k' o c us hpr hu' h1 hc hrf =>
            simp only [evIndexAddr, AR.pure.injEq] at hr
            obtain ⟨rfl, rfl⟩ := hr
            refine ⟨_, main _ hob.1 hob.2, ?_⟩
            rw [add_none]
            have := VR.rptr (E := E) es n i (j + q.toNat * z) k' o c us hpr hu' h1 hc hrf
            rwa [show o + i * es + (j + q.toNat * z) = o + i * es + j + q.toNat * z from by omega] at this
          | _ => simp only [evIndexAddr] at hr; cases hr

theorem index_sound {t : Nat} {x ix v : AV} {u ui : Value} {ob : Prop} (hx : VR E x u) (hi : VR E ix ui)
    (hr : evIndex ((tarr P t).bind fun q => tagg P q.2) (tarr P t) ((tarr P t).bind fun q => tsz P q.2) x ix = .pure ob v) (hob : ob) :
    ∃ r, (∀ W, (Instr.index t u ui).run P W = .ok r W) ∧ VR E v r := by
  cases hx with
  | agg l cs hl h1 h2 =>
    have hv : VR E (.agg l) (.agg cs) := .agg l cs hl h1 h2
    cases hi with
    | int k q =>
      cases ha : tarr P t with
      | none => rw [ha] at hr; simp only [evIndex, Option.bind_none] at hr; cases hr
      | some q' =>
        obtain ⟨len, e⟩ := q'
        rw [ha] at hr
        simp only [Option.bind_some] at hr
        have hu := und_of_tarr ha
        cases hz : tsz P e with
        | none => rw [hz] at hr; cases ht : tagg P e <;> rw [ht] at hr <;> simp only [evIndex] at hr <;> cases hr
        | some z =>
          cases ht : tagg P e with
          | none => rw [ht] at hr; simp only [evIndex] at hr; cases hr
          | some ag =>
            rw [ht, hz] at hr
            simp only [evIndex] at hr
            cases ag with
            | true =>
              simp only [cond_true, AR.pure.injEq] at hr
              obtain ⟨rfl, rfl⟩ := hr
              obtain ⟨r, q1, q2⟩ := part_agg ht hz hv hob.2.2
              exact ⟨r, fun W => by simp [Instr.index, asIntOf, run_underlying hu, hob.1, hob.2.1, run_sizeOf hz, q1], q2⟩
            | false =>
              simp only [cond_false, AR.pure.injEq] at hr
              obtain ⟨rfl, rfl⟩ := hr
              obtain ⟨r, q1, q2⟩ := part_one ht hv hob.2.2
              exact ⟨r, fun W => by simp [Instr.index, asIntOf, run_underlying hu, hob.1, hob.2.1, run_sizeOf hz, q1], q2⟩
    | _ => simp only [evIndex] at hr; cases hr
  | _ => simp only [evIndex] at hr; cases hr

/-! ### Slices of slices -/
def VRO (E : Env) : Option AV → Option Value → Prop
  | none, none => True
  | some a, some v => VR E a v
  | _, _ => False

theorem bound_run {x : Option AV} {xv : Option Value} {d : Nat} {l : Int} (hx : VRO E x xv) (hb : evBound x d = some l) : (xv = none ∧ l = d) ∨ ∃ k, xv = some (.int k l) := by
  cases x with
  | none => cases xv with
    | none => simp only [evBound] at hb; injection hb with hb; exact .inl ⟨rfl, hb.symm⟩
    | some v => exact hx.elim
  | some a => cases xv with
    | none => exact hx.elim
    | some v =>
      cases a with
      | int k q =>
        simp only [evBound] at hb; injection hb with hb; subst hb
        exact .inr ⟨k, by rw [VR_int hx]⟩
      | _ => simp only [evBound] at hb; cases hb
theorem run_bound {k : IntKind} {q : Int} {y : Nat} {code : BoundsCode} (h : 0 ≤ q ∧ q ≤ y) (w : World) : (Instr.sliceBound (.int k q) y code).run P w = .ok q.toNat w := by
  simp [Instr.sliceBound, asIntOf, h.1, h.2]
/-- The bounds that the model finds. -/
theorem bounds_run {lo hi mx : Option AV} {lv hv mv : Option Value} {n len cap : Nat} {l u m : Int} {b : Bool} (hlo : VRO E lo lv) (hhi : VRO E hi hv) (hmx : VRO E mx mv)
    (e1 : evBound lo 0 = some l) (e2 : evBound hi len = some u) (e3 : evBound mx n = some m) (hok : (mx.isSome && hi.isNone) = false)
    (h0 : 0 ≤ l) (h1 : l ≤ u) (h2 : u ≤ m) (h3 : m ≤ cap) (hlen : len ≤ cap) :
    ∃ M : Nat, (∀ w, (Instr.sliceBounds b len cap lv hv mv).run P w = .ok (l.toNat, u.toNat, M) w) ∧ u.toNat ≤ M ∧ M ≤ cap ∧ (mx.isSome → M = m.toNat) := by
  have q1 := bound_run hlo e1
  have q2 := bound_run hhi e2
  have q3 := bound_run hmx e3
  unfold Instr.sliceBounds
  rcases q3 with ⟨rfl, rfl⟩ | ⟨k3, rfl⟩
  · have hmn : mx = none := by cases mx with
      | none => rfl
      | some a => exact hmx.elim
    subst hmn
    refine ⟨cap, fun w => ?_, by omega, Nat.le_refl _, fun h => by simp at h⟩
    rcases q2 with ⟨rfl, rfl⟩ | ⟨k2, rfl⟩ <;> rcases q1 with ⟨rfl, rfl⟩ | ⟨k1, rfl⟩
    · simp
    · simp only [Sem.run_bind, Sem.run_pure, Result.andThen_ok, run_bound (P := P) (show 0 ≤ l ∧ l ≤ (len : Int) from by omega)]
      simp
    · simp only [Sem.run_bind, Sem.run_pure, Result.andThen_ok, run_bound (P := P) (show 0 ≤ u ∧ u ≤ (cap : Int) from by omega)]
      simp
    · simp only [Sem.run_bind, Sem.run_pure, Result.andThen_ok, run_bound (P := P) (show 0 ≤ u ∧ u ≤ (cap : Int) from by omega), run_bound (P := P) (show 0 ≤ l ∧ l ≤ (u.toNat : Int) from by omega)]
  · have hms : mx.isSome = true := by cases mx with
      | none => exact hmx.elim
      | some a => rfl
    have hhs : hi.isNone = false := by rw [hms] at hok; simpa using hok
    refine ⟨m.toNat, fun w => ?_, by omega, by omega, fun _ => rfl⟩
    rcases q2 with ⟨rfl, rfl⟩ | ⟨k2, rfl⟩
    · cases hi with
      | none => simp at hhs
      | some a => exact hhi.elim
    · rcases q1 with ⟨rfl, rfl⟩ | ⟨k1, rfl⟩
      · simp only [Sem.run_bind, Sem.run_pure, Result.andThen_ok, run_bound (P := P) (show 0 ≤ m ∧ m ≤ (cap : Int) from by omega), run_bound (P := P) (show 0 ≤ u ∧ u ≤ (m.toNat : Int) from by omega)]
        simp
      · simp only [Sem.run_bind, Sem.run_pure, Result.andThen_ok, run_bound (P := P) (show 0 ≤ m ∧ m ≤ (cap : Int) from by omega), run_bound (P := P) (show 0 ≤ u ∧ u ≤ (m.toNat : Int) from by omega), run_bound (P := P) (show 0 ≤ l ∧ l ≤ (u.toNat : Int) from by omega)]

theorem maxLen_4096 {n : Nat} (h : n ≤ 4096) : n ≤ maxLen := by unfold maxLen; omega

theorem sub_fit {i l M cap z : Nat} (h1 : l ≤ M) (h2 : M ≤ cap) : (i + l) * z + (M - l) * z ≤ i * z + cap * z := by
  rw [← Nat.add_mul, ← Nat.add_mul]
  exact Nat.mul_le_mul_right z (by omega)

theorem slice_sound {t : Nat} {x v : AV} {u : Value} {lo hi mx : Option AV} {lv hv mv : Option Value} {ob : Prop} (hx : VR E x u) (hlo : VRO E lo lv) (hhi : VRO E hi hv) (hmx : VRO E mx mv)
    (hr : evSlice (tslice P t) (tarr P t) (((tslice P t).or ((tarr P t).map (·.2))).bind (tsz P)) x lo hi mx = .pure ob v) (hob : ob) :
    ∃ r, (∀ W, (Instr.sliceAt t u lv hv mv).run P W = .ok r W) ∧ VR E v r := by
  unfold evSlice at hr
  cases hok : (mx.isSome && hi.isNone) with
  | true => rw [hok] at hr; cases hr
  | false =>
  rw [hok] at hr
  simp only [cond_false] at hr
  cases hs : tslice P t with
  | some e =>
    rw [hs] at hr
    simp only [Option.some_or, Option.bind_some] at hr
    have hu := und_of_tslice hs
    cases hz : tsz P e with
    | none => rw [hz] at hr; cases hr
    | some z =>
      rw [hz] at hr
      have main : ∀ (a : Option Addr) (n cap : Nat) (l w M : Nat), (∀ W, (Instr.sliceBounds true n cap lv hv mv).run P W = .ok (l, w, M) W) →
          ∀ W, (Instr.sliceAt t (.slice a n cap) lv hv mv).run P W = .ok (.slice (if M = l then a else a.map (·.add (l * z))) (w - l) (M - l)) W := by
        intro a n cap l w M hb W
        simp [Instr.sliceAt, Instr.slice, run_underlying hu, hb, run_sizeOf hz]
      cases hx with
      | sl b es i n nl a cap hn hcm hnl hz' hc =>
        simp only at hr
        cases e1 : evBound lo 0 with
        | none => rw [e1] at hr; cases hr
        | some l =>
        cases e2 : evBound hi n with
        | none => rw [e1, e2] at hr; cases hr
        | some w =>
        cases e3 : evBound mx n with
        | none => rw [e1, e2, e3] at hr; cases hr
        | some m =>
          rw [e1, e2, e3] at hr
          simp only [AR.pure.injEq] at hr
          obtain ⟨rfl, rfl⟩ := hr
          obtain ⟨h0, h1, h2, h3, rfl⟩ := hob
          obtain ⟨M, hb, hM1, hM2, _⟩ := bounds_run (P := P) (b := true) (cap := cap) hlo hhi hmx e1 e2 e3 hok h0 h1 h2 (by omega) hn
          refine ⟨_, main a n cap _ _ _ hb, ?_⟩
          refine .sl b z (i + l.toNat) (w.toNat - l.toNat) nl _ (M - l.toNat) (by omega) (by omega) ?_ ?_ ?_
          · intro hq; rw [hnl hq]; split <;> rfl
          · intro ha
            have : a = none := by
              split at ha
              · exact ha
              · cases a with
                | none => rfl
                | some a => cases ha
            have := hz' this
            omega
          · intro hp
            have hne : ¬ M = l.toNat := by omega
            have hcp : 0 < cap := by omega
            have hf := sub_fit (i := i) (z := z) (show l.toNat ≤ M from by omega) hM2
            obtain ⟨k, o, cs, e', g1, g2, g3, g4⟩ := hc hcp
            subst g2
            refine ⟨k, o, cs, e', g1, ?_, g3, ?_⟩
            · rw [if_neg hne, Option.map_some, add_none, Nat.add_mul, Nat.add_assoc]
            · clear hb hc g3
              generalize (i + l.toNat) * z = A at *
              generalize (M - l.toNat) * z = B at *
              rw [Nat.add_assoc]
              exact Nat.le_trans (Nat.add_le_add_left hf o) (by rw [← Nat.add_assoc]; exact g4)
      | csl b es i n c a hn hcm hc =>
        simp only at hr
        cases e1 : evBound lo 0 with
        | none => rw [e1] at hr; cases hr
        | some l =>
        cases e2 : evBound hi n with
        | none => rw [e1, e2] at hr; cases hr
        | some w =>
        cases e3 : evBound mx c with
        | none => rw [e1, e2, e3] at hr; cases hr
        | some m =>
          rw [e1, e2, e3] at hr
          simp only [AR.pure.injEq] at hr
          obtain ⟨rfl, rfl⟩ := hr
          obtain ⟨h0, h1, h2, h3, rfl⟩ := hob
          obtain ⟨M, hb, hM1, hM2, hM3⟩ := bounds_run (P := P) (b := true) (cap := c) hlo hhi hmx e1 e2 e3 hok h0 h1 h2 h3 hn
          have hMm : M = m.toNat := by
            cases mx with
            | none =>
              have q3 := bound_run hmx e3
              have hmc : m = (c : Int) := by
                rcases q3 with ⟨_, q⟩ | ⟨k3, q⟩
                · exact q
                · simp only [evBound, Option.some.injEq] at e3; exact e3.symm
              have hb0 := hb default
              have hmv : mv = none := by cases mv with
                | none => rfl
                | some a => exact hmx.elim
              subst hmv
              have hM : M = c := by
                have q1 := bound_run hlo e1
                have q2 := bound_run hhi e2
                unfold Instr.sliceBounds at hb0
                rcases q2 with ⟨rfl, rfl⟩ | ⟨k2, rfl⟩ <;> rcases q1 with ⟨rfl, rfl⟩ | ⟨k1, rfl⟩
                · simp at hb0; omega
                · simp only [Sem.run_bind, Sem.run_pure, Result.andThen_ok, run_bound (P := P) (show 0 ≤ l ∧ l ≤ (n : Int) from by omega)] at hb0
                  simp at hb0; omega
                · simp only [Sem.run_bind, Sem.run_pure, Result.andThen_ok, run_bound (P := P) (show 0 ≤ w ∧ w ≤ (c : Int) from by omega)] at hb0
                  simp at hb0; omega
                · simp only [Sem.run_bind, Sem.run_pure, Result.andThen_ok, run_bound (P := P) (show 0 ≤ w ∧ w ≤ (c : Int) from by omega), run_bound (P := P) (show 0 ≤ l ∧ l ≤ (w.toNat : Int) from by omega)] at hb0
                  simp at hb0; omega
              omega
            | some a => exact hM3 rfl
          subst hMm
          refine ⟨_, main a n c _ _ _ hb, ?_⟩
          refine .csl b z (i + l.toNat) (w.toNat - l.toNat) (m.toNat - l.toNat) _ (by omega) (by omega) fun hp => ?_
          have hne : ¬ m.toNat = l.toNat := by omega
          have hml : (i + l.toNat) + (m.toNat - l.toNat) ≤ i + c := by clear hb; omega
          obtain ⟨k, o, cs, e', g1, g2, g3, g4⟩ := hc (by omega)
          subst g2
          refine ⟨k, o, cs, e', g1, by rw [if_neg hne, Option.map_some, add_none, Nat.add_mul, Nat.add_assoc], g3, ?_⟩
          have hf : (i + l.toNat) * z + (m.toNat - l.toNat) * z ≤ i * z + c * z := by
            rw [← Nat.add_mul, ← Nat.add_mul]
            exact Nat.mul_le_mul_right _ hml
          rw [Nat.add_assoc]
          rw [Nat.add_assoc] at g4
          exact Nat.le_trans (Nat.add_le_add_left hf o) g4
      | isl b es i j z' n cap k o hn hcm g1 =>
        simp only at hr
        cases e1 : evBound lo 0 with
        | none => rw [e1] at hr; cases hr
        | some l =>
        cases e2 : evBound hi n with
        | none => rw [e1, e2] at hr; cases hr
        | some w =>
        cases e3 : evBound mx n with
        | none => rw [e1, e2, e3] at hr; cases hr
        | some m =>
          rw [e1, e2, e3] at hr
          simp only [AR.pure.injEq] at hr
          obtain ⟨rfl, rfl⟩ := hr
          obtain ⟨h0, h1, h2, h3, rfl⟩ := hob
          obtain ⟨M, hb, hM1, hM2, _⟩ := bounds_run (P := P) (b := true) (cap := cap) hlo hhi hmx e1 e2 e3 hok h0 (by omega) h2 (by omega) hn
          refine ⟨_, main _ n cap _ _ _ hb, ?_⟩
          rw [if_neg (by omega), Option.map_some, add_none]
          have := VR.isl (E := E) b es i (j + l.toNat * z') z' (w.toNat - l.toNat) (M - l.toNat) k o (by omega) (by omega) g1
          rwa [show o + i * es + (j + l.toNat * z') = o + i * es + j + l.toNat * z' from by omega] at this
      | ro es n nl c a cap hn hcm hnl hz' us ha h1' hc hrf =>
        simp only at hr
        cases mx with
        | some m =>
          cases m with
          | int k q =>
            by_cases hq : q = 0
            · subst hq
              simp only at hr
              cases e1 : evBound lo 0 with
              | none => rw [e1] at hr; cases hr
              | some l =>
              cases e2 : evBound hi n with
              | none => rw [e1, e2] at hr; cases hr
              | some w =>
                rw [e1, e2] at hr
                simp only [AR.pure.injEq] at hr
                obtain ⟨rfl, rfl⟩ := hr
                obtain ⟨rfl, rfl⟩ := hob
                obtain ⟨M, hb, hM1, hM2, hM3⟩ := bounds_run (P := P) (b := true) (cap := cap) (n := n) hlo hhi hmx e1 e2 rfl hok (Int.le_refl _) (Int.le_refl _) (Int.le_refl _) (by omega) hn
                refine ⟨_, main a n cap _ _ _ hb, ?_⟩
                have hM := hM3 rfl
                subst hM
                exact .emp _
            · exfalso
              split at hr
              · rename_i k' heq; injection heq with heq; injection heq with _ heq; exact hq heq
              · rename_i heq; cases heq
              · cases hr
          | _ => simp only at hr; cases hr
        | none =>
          simp only at hr
          cases e1 : evBound lo 0 with
          | none => rw [e1] at hr; cases hr
          | some l =>
          cases e2 : evBound hi n with
          | none => rw [e1, e2] at hr; cases hr
          | some w =>
            rw [e1, e2] at hr
            simp only [AR.pure.injEq] at hr
            obtain ⟨rfl, rfl⟩ := hr
            obtain ⟨h0, h1, h2, rfl⟩ := hob
            obtain ⟨M, hb, hM1, hM2, _⟩ := bounds_run (P := P) (b := true) (cap := cap) (n := n) hlo hhi hmx e1 e2 rfl hok h0 h1 h2 (by omega) hn
            refine ⟨_, main a n cap _ _ _ hb, ?_⟩
            refine .ro z (w.toNat - l.toNat) nl _ _ (M - l.toNat) (by omega) (by omega) ?_ ?_ (fun x y => us (l.toNat + x) y) ?_ ?_ ?_ ?_
            · intro hq; rw [hnl hq]; split <;> rfl
            · intro ha
              have : a = none := by
                split at ha
                · exact ha
                · cases a with
                  | none => rfl
                  | some a => cases ha
              have := hz' this
              omega
            · intro hp
              obtain ⟨k, o, g1, g2, g3⟩ := ha (by omega)
              subst g1
              refine ⟨k, o + l.toNat * z, ?_, g2, fun x y hx hy => ?_⟩
              · rw [if_neg (by omega), Option.map_some, add_none]
              · have := g3 (l.toNat + x) y (by omega) hy
                rwa [Nat.add_mul, ← Nat.add_assoc] at this
            · exact fun x y hx hy => h1' _ _ (by omega) hy
            · exact fun x y hx hy => hc _ _ (by omega) hy
            · exact fun x y hx hy => hrf _ _ (by omega) hy
      | _ => simp only at hr; cases hr
  | none =>
    rw [hs] at hr
    simp only [Option.none_or] at hr
    cases hta : tarr P t with
    | none => rw [hta] at hr; cases hr
    | some q' =>
      obtain ⟨len, e⟩ := q'
      rw [hta] at hr
      simp only [Option.map_some, Option.bind_some] at hr
      have hu := und_of_tarr hta
      cases hz : tsz P e with
      | none => rw [hz] at hr; cases hr
      | some z =>
        rw [hz] at hr
        have main : ∀ (a : Addr) (l w M : Nat), (∀ W, (Instr.sliceBounds false len len lv hv mv).run P W = .ok (l, w, M) W) →
            ∀ W, (Instr.sliceAt t (.pointer (some a)) lv hv mv).run P W = .ok (.slice (some (if M = l then a else a.add (l * z))) (w - l) (M - l)) W := by
          intro a l w M hb W
          simp [Instr.sliceAt, run_underlying hu, Instr.sureAddr, hb, run_sizeOf hz]
        cases hx with
        | ptr b es i j k o g1 =>
          simp only at hr
          cases e1 : evBound lo 0 with
          | none => rw [e1] at hr; cases hr
          | some l =>
          cases e2 : evBound hi len with
          | none => rw [e1, e2] at hr; cases hr
          | some w =>
          cases mx with
          | some m => rw [e1, e2] at hr; cases hr
          | none =>
            rw [e1, e2] at hr
            simp only [AR.pure.injEq] at hr
            obtain ⟨rfl, rfl⟩ := hr
            obtain ⟨h0, h1, h2, h3⟩ := hob
            obtain ⟨M, hb, hM1, hM2, _⟩ := bounds_run (P := P) (b := false) (cap := len) (n := len) hlo hhi hmx e1 e2 rfl hok h0 (by omega) h2 (by omega) (Nat.le_refl _)
            refine ⟨_, main _ _ _ _ hb, ?_⟩
            rw [if_neg (by omega), add_none]
            have := VR.isl (E := E) b es i (j + l.toNat * z) z (w.toNat - l.toNat) (M - l.toNat) k o (by omega) (maxLen_4096 (by omega)) g1
            rwa [show o + i * es + (j + l.toNat * z) = o + i * es + j + l.toNat * z from by omega] at this
        | rptr es n i j k o c us hpr hu' h1' hc hrf =>
          simp only at hr
          cases e1 : evBound lo 0 with
          | none => rw [e1] at hr; cases hr
          | some l =>
          cases e2 : evBound hi len with
          | none => rw [e1, e2] at hr; cases hr
          | some w =>
          cases mx with
          | some m => rw [e1, e2] at hr; cases hr
          | none =>
            rw [e1, e2] at hr
            simp only [AR.pure.injEq] at hr
            obtain ⟨rfl, rfl⟩ := hr
            obtain ⟨h0, h1, h2, h3, h4, h5⟩ := hob
            obtain ⟨M, hb, hM1, hM2, _⟩ := bounds_run (P := P) (b := false) (cap := len) (n := len) hlo hhi hmx e1 e2 rfl hok h0 h1 h2 (by omega) (Nat.le_refl _)
            refine ⟨_, main _ _ _ _ hb, ?_⟩
            have bd : ∀ x y, x < w.toNat - l.toNat → y < z → j + l.toNat * z + x * z + y < es := by
              intro x y hx hy
              have q1 : (l.toNat + x + 1) * z ≤ len * z := Nat.mul_le_mul_right z (by omega)
              rw [Nat.add_mul, Nat.add_mul] at q1
              omega
            refine .ro z (w.toNat - l.toNat) false _ _ (M - l.toNat) (by omega) (maxLen_4096 (by omega)) (fun h => by cases h) (fun h => by cases h) (fun x y => us i (j + l.toNat * z + x * z + y)) ?_ ?_ ?_ ?_
            · intro hp
              refine ⟨k, o + i * es + j + l.toNat * z, by rw [if_neg (by omega), add_none], hpr, fun x y hx hy => ?_⟩
              have := hu' i (j + l.toNat * z + x * z + y) h3 (bd x y hx hy)
              rwa [show o + i * es + (j + l.toNat * z + x * z + y) = o + i * es + j + l.toNat * z + x * z + y from by omega] at this
            · exact fun x y hx hy => h1' _ _ h3 (bd x y hx hy)
            · exact fun x y hx hy => hc _ _ h3 (bd x y hx hy)
            · exact fun x y hx hy => hrf _ _ h3 (bd x y hx hy)
        | _ => simp only at hr; cases hr

/-! ### Arithmetic -/
theorem int_sound {op : BinOp} {k : IntKind} {x y : Int} {v : AV} {ob : Prop} {t : Nat} (hsh : op ≠ .shl ∧ op ≠ .shr) (hr : evInt op k x y = .pure ob v) (hob : ob) :
    ∃ r, (∀ w, (binOp op t (.int k x) (.int k y)).run P w = .ok r w) ∧ VR E v r := by
  cases op <;> simp only [evInt, AR.pure.injEq, reduceCtorEq] at hr <;> obtain ⟨rfl, rfl⟩ := hr
  case add => refine ⟨_, fun w => ?_, .int _ _⟩; simp [binOp, Op.intArith, wr]
  case sub => refine ⟨_, fun w => ?_, .int _ _⟩; simp [binOp, Op.intArith, wr]
  case mul => refine ⟨_, fun w => ?_, .int _ _⟩; simp [binOp, Op.intArith, wr]
  case quo => refine ⟨_, fun w => ?_, .int _ _⟩; simp [binOp, Op.intDiv, wr, hob]
  case rem => refine ⟨_, fun w => ?_, .int _ _⟩; simp [binOp, Op.intDiv, hob]
  case and => refine ⟨_, fun w => ?_, .int _ _⟩; simp [binOp, Op.intBits, andI]
  case or => refine ⟨_, fun w => ?_, .int _ _⟩; simp [binOp, Op.intBits, orI]
  case xor => refine ⟨_, fun w => ?_, .int _ _⟩; simp [binOp, Op.intBits, xorI]
  case andNot => refine ⟨_, fun w => ?_, .int _ _⟩; simp [binOp, Op.intBits, andNotI]
  case eql => refine ⟨_, fun w => ?_, .bool _⟩; simp [binOp, Op.intCmp, bEq]
  case neq => refine ⟨_, fun w => ?_, .bool _⟩; simp [binOp, Op.intCmp, bEq]; rfl
  case lss => refine ⟨_, fun w => ?_, .bool _⟩; simp [binOp, Op.intCmp, bLt]
  case leq => refine ⟨_, fun w => ?_, .bool _⟩; simp [binOp, Op.intCmp, bLe]
  case gtr => refine ⟨_, fun w => ?_, .bool _⟩; simp [binOp, Op.intCmp, bLt]
  case geq => refine ⟨_, fun w => ?_, .bool _⟩; simp [binOp, Op.intCmp, bLe]

theorem shl_sound {k k' : IntKind} {x y : Int} {t : Nat} (h0 : 0 ≤ y) (w : World) : (binOp .shl t (.int k x) (.int k' y)).run P w = .ok (.int k (shlI k x y)) w := by
  simp [binOp, Op.shift, shlI, show ¬ y < 0 from by omega]
theorem shr_sound {k k' : IntKind} {x y : Int} {t : Nat} (h0 : 0 ≤ y) (w : World) : (binOp .shr t (.int k x) (.int k' y)).run P w = .ok (.int k (shrI k x y)) w := by
  simp [binOp, Op.shift, shrI, show ¬ y < 0 from by omega]

theorem str_sound {op : BinOp} {x y : ByteArray} {v : AV} {ob : Prop} {t : Nat} (hr : evStr op x y = .pure ob v) (hob : ob) :
    ∃ r, (∀ w, (binOp op t (.string x) (.string y)).run P w = .ok r w) ∧ VR E v r := by
  cases op <;> simp only [evStr, AR.pure.injEq, reduceCtorEq] at hr <;> obtain ⟨rfl, rfl⟩ := hr
  case add =>
    refine ⟨_, fun w => ?_, .str _⟩
    have hm : ¬ (IntKind.i64.max < ((x.size + y.size : Nat) : Int)) := by
      have : IntKind.i64.max = 9223372036854775807 := by decide
      rw [this]; omega
    simp only [binOp, Op.stringOp, gt_iff_lt, if_neg hm]
    rfl
  case eql => exact ⟨_, fun _ => rfl, .bool _⟩
  case neq => exact ⟨_, fun _ => rfl, .bool _⟩
  case lss => exact ⟨_, fun _ => rfl, .bool _⟩
  case leq => exact ⟨_, fun _ => rfl, .bool _⟩
  case gtr => exact ⟨_, fun _ => rfl, .bool _⟩
  case geq => exact ⟨_, fun _ => rfl, .bool _⟩
end
end Go.Am
