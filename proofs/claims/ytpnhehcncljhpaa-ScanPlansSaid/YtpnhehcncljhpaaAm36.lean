/-
  The abstract machine, part 36: slices.overlaps at a slice that is only read.
-/
import Derived.Test.YtpnhehcncljhpaaAm35
namespace Go.Am
set_option linter.unusedVariables false
variable {P : Program}

theorem run_bind2 {α β : Type} (x : Sem α) (f : α → Sem β) (w : World) : (x.bind f).run P w = (x.run P w).andThen fun a w' => (f a).run P w' := Sem.run_bind ..
theorem run_overlaps_r {t tr e ta tb : TypeId} {z na nb : Nat} (w : World) (ht : P.underlying t = some (.slice e)) (hz : ∀ w, (Go.sizeOf e).run P w = .ok z w) (a b : Addr) (n ca n' ca' : Nat) (hk : a.block ≠ b.block)
   (hsa : w.shape? a.block = some (ta, na)) (hna : na ≠ 0) (hsb : w.shape? b.block = some (tb, nb)) (hfb : ∀ x, w.frozen? ⟨b.block, x, none⟩ = false) (hb : b.spot = none) :
    (Extern.SlicesOverlaps.overlaps #[t, t] #[tr] #[.slice (some a) n ca, .slice (some b) n' ca']).run P w = .ok (.bool false) w := by
  have hfb' : w.frozen? b = false := by
    obtain ⟨bb, bo, bs⟩ := b
    simp only at hb; subst hb
    exact hfb bo
  have hnb : (a.block == b.block) = false := by simpa using hk
  conv => lhs; arg 2; whnf
  by_cases h0 : n = 0 ∨ n' = 0 ∨ z = 0
  · simp [Sem.run, ht, run_bind2, hz, h0]
  · cases na with
    | zero => exact absurd rfl hna
    | succ na =>
    cases hfa : w.frozen? a <;> cases hfe : w.frozen? { block := a.block, off := na + 1 } <;>
    simp [Sem.run, ht, run_bind2, hz, h0, hk, hnb, noView, viewAt, mayBeOne, stringish, hsa, hsb, hfa, hfe, hfb, hfb']
variable {E : Env} {h : List ABlk}
def ovC2 : List AV → List ABlk → AR
  | [.ro es n _ _, y], h => match slB y with
    | some (b', _, n') => .pure (0 < n ∧ 1 ≤ es ∧ geth h b' ≠ .dead ∧ 0 < n') (.bool false)
    | none => .fail
  | _, _ => .fail
theorem ov_ext2 {f : FuncId} {fn : Func} {t tr e : TypeId} {z : Nat} (hf : P.funcs[f]? = some fn) (hname : (fn.name == "runtime.NumGoroutine") = false) (hbd : fn.body.isNone = true) (hn : Extern.findNext fn = none)
    (he : Extern.find fn = some (Extern.SlicesOverlaps.overlaps #[t, t] #[tr])) (ht : tslice P t = some e) (hz : tsz P e = some z) : ExtOk P f ovC2 := by
  intro E h l vs H F
  refine ⟨fun ob v h' hc => ?_, fun ob v hc hob => ?_⟩
  · unfold ovC2 at hc
    split at hc
    · split at hc <;> cases hc
    · cases hc
  · unfold ovC2 at hc
    split at hc
    · rename_i es n nl c y
      split at hc
      · rename_i b' es' n' q2
        injection hc with r1 r2; subst r1 r2
        obtain ⟨o1, o2, o3, o4⟩ := hob
        obtain ⟨u1, u2, rfl, hu1, hu2⟩ := FR_two F
        refine ⟨.bool false, rfl, fun E' => .bool _, ?_⟩
        obtain ⟨a', ca', rfl, ha'⟩ := slB_at hu2 q2
        obtain ⟨k', off', cs', e1', rfl, ⟨o', g1'⟩, g2', _⟩ := ha' o4
        cases hu1 with
        | ro _ _ _ _ a cap hn' hcm hnl hz' us ha h1 hc hrf =>
        obtain ⟨k, o, rfl, g1, g2⟩ := ha o1
        have hk : k ≠ k' := by
          rintro rfl
          exact (H.prot k g1).2 ⟨b', _, o', geth_some o3, o3, g1'⟩
        have hcell := g2 0 0 o1 o2
        obtain ⟨ta, na, hsa, hna⟩ : ∃ ta na, E.w.shape? k = some (ta, na) ∧ na ≠ 0 := by
          unfold World.cell? at hcell
          unfold World.shape?
          simp only at hcell
          split at hcell
          · rename_i cs e' mk hkk
            refine ⟨e', cs.size, rfl, ?_⟩
            intro h0
            simp only [Option.isSome_none, Bool.false_eq_true, if_false] at hcell
            rw [Array.getElem?_eq_none (by omega)] at hcell
            cases hcell
          · cases hcell
        rw [run_callFunc_extern hf hname hbd hn he, run_overlaps_r (ta := ta) (tb := e1') (na := na) (nb := cs'.size) E.w (und_of_tslice ht) (run_sizeOf hz) ⟨k, o, none⟩ ⟨k', off', none⟩ n cap n' ca' hk hsa hna (by unfold World.shape?; simp only [g2'])
          (fun x => by unfold World.frozen?; simp only [g2']; simp) rfl]
        rfl
      · cases hc
    · cases hc

/-- The first block given up, the second told less. -/
theorem conv_two {x0 : ABlk} {e es m N : Nat} {nl : Bool} {c c' : Nat → Nat → AV} (hN : m ≤ N) (hc : ∀ x y, x < m → y < es → c x y = c' x y) : ConvR (.sl 1 es 0 m nl) [.dead, .row e es m c'] (.sl 1 es 0 m nl) [x0, .row e es N c] := by
  intro E1 u H V
  obtain ⟨H1, X1⟩ := kill_HR H 0
  have e1 : ([x0, .row e es N c] : List ABlk).set 0 .dead = [.dead, .row e es N c] := rfl
  rw [e1] at H1 X1
  have own : ∀ k, Own E1 [.dead, .row e es m c'] k → Own E1 [.dead, .row e es N c] k := by
    rintro k ⟨i, x, o, q1, q2, q3⟩
    match i with
    | 0 => simp at q1; exact absurd q1.symm q2
    | 1 => exact ⟨1, _, o, rfl, (by intro e; cases e), q3⟩
    | i + 2 => simp at q1
  refine ⟨E1, rfl, X1.trans ⟨rfl, rfl, rfl, fun _ _ h => h, fun _ h => h, Nat.le_refl _, fun k cs e h => ⟨cs, h, rfl⟩, fun _ _ _ => rfl, fun k h => .inl (own k h), by simp, fun _ _ => rfl, fun _ h => .inl h⟩,
    ⟨fun i x hi => ?_, fun i i' x x' k o o' h1 h2 h3 h4 h5 h6 => ?_, fun k hk => ⟨(H1.prot k hk).1, fun ho => (H1.prot k hk).2 (own k ho)⟩, fun i hi => H1.fresh i (by simpa using hi)⟩, V⟩
  · match i with
    | 0 => simp at hi; subst hi; trivial
    | 1 =>
      simp at hi; subst hi
      have hB := H1.blk 1 _ rfl
      unfold BR at hB ⊢
      cases hs : E1.σ 1 with
      | none => rw [hs] at hB; simp only at hB ⊢; omega
      | some p =>
        rw [hs] at hB
        obtain ⟨cs, r1, r2, r3⟩ := hB
        have := Nat.mul_le_mul_right es hN
        exact ⟨cs, r1, by omega, fun x y hx hy => by rw [← hc x y hx hy]; exact r3 x y (by omega) hy⟩
    | i + 2 => simp at hi
  · match i, i' with
    | 0, _ => simp at h1; exact absurd h1.symm h2
    | 1, 0 => simp at h3; exact absurd h3.symm h4
    | 1, 1 => rfl
    | i + 2, _ => simp at h1
    | 1, i' + 2 => simp at h3
end Go.Am
