/-
  The abstract machine, part 31: contracts of functions that end in an entry of the model's own; the entry that compares two rows of bytes.
-/
import Derived.Test.YtpnhehcncljhpaaAm30
import Derived.Lib.BytesEntry
import Derived.Laws.Externs
namespace Go.Am
set_option linter.unusedVariables false
variable {P : Program} {E : Env} {h : List ABlk}

theorem pure_ext {f : FuncId} (hen : Enters P f) (body : List AV → AR)
    (hw : ∀ (E : Env) (l : List AV) (vs : Array Value) (ob : Prop) (v : AV), body l = .pure ob v → ob → FR E l vs → ∃ u, conc v = some u ∧ Calls P f vs E.w fun e w' => e = .returned u ∧ w' = E.w) : FnOk P f (pureC body) := by
  have main : ∀ (E : Env) (h : List ABlk) (l : List AV) (vs : Array Value) (ob : Prop) (v : AV), HR E h → FR E l vs → pureC body l h = .pure ob v → ob → Calls P f vs E.w (RetP E.w v) := by
    intro E h l vs ob v H F hr hob
    unfold pureC at hr
    cases hbd : body (roL h l) with
    | fail => rw [hbd] at hr; cases hr
    | heap a b c => rw [hbd] at hr; cases hr
    | pure ob' v' =>
      rw [hbd] at hr
      simp only [pureR, AR.pure.injEq] at hr
      obtain ⟨rfl, rfl⟩ := hr
      have F0 : FR E.view (roL h l) vs := by
        refine ⟨by rw [roL_length]; exact F.1, fun i a v ha hv => ?_⟩
        rw [roL_get] at ha
        cases hi : l[i]? with
        | none => rw [hi] at ha; cases ha
        | some a0 =>
          rw [hi] at ha
          simp only [Option.map_some, Option.some.injEq] at ha
          subst ha
          exact ro_VR H (F.2 i a0 v hi hv) (roObL_get hob.1 hi)
      obtain ⟨u, hc, hC⟩ := hw _ _ _ _ _ hbd hob.2 F0
      refine Calls.mono hC ?_
      rintro e w' ⟨rfl, rfl⟩
      exact ⟨u, rfl, hc, rfl, rfl, rfl, Nat.le_refl _, fun _ _ => rfl⟩
  refine ⟨hen, fun E h l vs ob v h' H F hr hob => ?_, main⟩
  cases hc : pureC body l h with
  | fail => rw [hc] at hr; cases hr
  | heap a b c => exfalso; unfold pureC at hc; cases hbd : body (roL h l) <;> rw [hbd] at hc <;> cases hc
  | pure ob' v' =>
    rw [hc] at hr
    simp only [AR.out, Option.some.injEq, Prod.mk.injEq] at hr
    obtain ⟨rfl, rfl, rfl⟩ := hr
    refine (main E h l vs _ _ H F hc hob).mono ?_
    rintro e w' ⟨u, rfl, hu, hS⟩
    obtain ⟨H', X'⟩ := HR_same H hS
    exact ⟨u, _, rfl, rfl, X', H', conc_mk hu⟩

/-- A read-only row of bytes, as the model's entries read it. -/
theorem ro_bytesOf {n : Nat} {nl : Bool} {c : Nat → Nat → AV} {u : Value} (hx : VR E (.ro 1 n nl c) u) (hq : ∀ i, i < n → u8Q (c i 0)) : (Extern.Bytes.bytesOf u).run P E.w = .ok (bytesC n c) E.w := by
  cases hx with
  | ro _ _ _ _ a cap hn hcm hnl hz us ha h1 hc hrf =>
    cases n with
    | zero =>
      have e : bytesC 0 c = .empty := by unfold bytesC; rfl
      rw [e]
      cases a with
      | none => simp only [Extern.Bytes.bytesOf, Sem.run_pure]
      | some a => simp only [Extern.Bytes.bytesOf, Extern.Bytes.loadBytes, Sem.run_pure]
    | succ n =>
      obtain ⟨k, o, rfl, _, hcell⟩ := ha (by omega)
      obtain ⟨ns, e1, e2⟩ := bytesC_eq (n := n + 1) (c := c) (news := (List.range (n + 1)).map fun i => us i 0) (by simp) hq (fun q y hq' hy => by
        have hy0 : y = 0 := by omega
        subst hy0
        refine ⟨us q 0, ?_, h1 q 0 hq' (by omega), hc q 0 hq' (by omega)⟩
        simp [List.getElem?_range hq'])
      have hlen : ns.length = n + 1 := by
        have := congrArg List.length e1
        simpa using this.symm
      have hl := Go.Lib.run_loadBytesX (P := P) E.w ns ⟨k, o, none⟩ .empty (fun j x hj => by
        have hj' : j < n + 1 := by rw [← hlen]; exact (List.getElem?_eq_some_iff.mp hj).1
        have hz := hcell j 0 hj' (by omega)
        rw [Nat.mul_one, Nat.add_zero] at hz
        rw [Addr.add_lit, hz]
        have := congrArg (·[j]?) e1
        simp only [List.getElem?_map, List.getElem?_range hj', hj, Option.map_some, Option.some.injEq] at this
        rw [this])
      rw [hlen] at hl
      simp only [Extern.Bytes.bytesOf]
      rw [hl, e2]
      congr 1
      apply ByteArray.ext
      show #[] ++ (Go.Lib.bytesOf ns).toArray = _
      simp [strOfNums, Go.Lib.bytesOf]

theorem run_compareBytes {n m : Nat} {nl ml : Bool} {c d : Nat → Nat → AV} {u v : Value} (hx : VR E (.ro 1 n nl c) u) (hy : VR E (.ro 1 m ml d) v) (hq : ∀ i, i < n → u8Q (c i 0)) (hr : ∀ i, i < m → u8Q (d i 0)) :
    (Extern.BytealgCompare.compare #[u, v]).run P E.w = .ok (.int .i64 (Go.Lib.compareBytes (bytesC n c).data.toList (bytesC m d).data.toList)) E.w := by
  change Sem.run P (do pure (goInt (Extern.BytealgCompare.cmp (← Extern.Bytes.bytesOf u) (← Extern.Bytes.bytesOf v)))) E.w = _
  simp only [Sem.run_bind, ro_bytesOf hx hq, ro_bytesOf hy hr, Sem.run_pure, Result.andThen]
  rw [Go.Lib.cmp_eq]
  rfl
end Go.Am
