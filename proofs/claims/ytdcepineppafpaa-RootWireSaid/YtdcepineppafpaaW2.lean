/-
  RootWire, RootCodes: the plain laws.
-/
import Derived.Test.YtdcepineppafpaaW
namespace Go.Proofs.Ytdcepineppafpaa
open Go.Am
set_option linter.unusedVariables false
set_option linter.unusedSimpArgs false
theorem same_ok (L : List Int) (h : L.length ≤ 1000) : F15 L L = some true := by
  obtain ⟨b, l1, l2⟩ := loop_forS (step := fun s => F15_L1 L L s) L.length (fun i => (i : Int)) (fun _ => True) (fun b => b = Sum.inl ()) trivial
    (fun i hi _ => by
      right
      unfold F15_L1
      rw [bif_t (by simp [bLt_eq]; omega), need_true (inb_nat hi), need_true (inb_nat hi), bif_f (by simp [bEq]), wr_add1 hi (by omega)]
      exact ⟨rfl, trivial⟩)
    (fun _ => ⟨_, by unfold F15_L1; rw [bif_f (by simp [bLt_eq])], rfl⟩)
  rw [l2] at l1
  unfold F15
  rw [bif_f (by simp [bEq])]
  exact lp_inl l1
theorem dec_cases {b : List Int} {r : TRootWord × Int} (h : dec b r) : (r.2 ≠ 0 ∧ r.1 = zw) ∨ (r = (msg b, 0) ∧ b.length = 20 ∧ Wd (msg b) ∧ gd b 19 ≤ 1) := by
  rcases h with ⟨h, rfl⟩ | ⟨h, rfl⟩ | ⟨h, _, rfl⟩ | ⟨h, h', rfl⟩
  · exact .inl ⟨by decide, rfl⟩
  · exact .inl ⟨by decide, rfl⟩
  · exact .inl ⟨by decide, rfl⟩
  · exact .inr ⟨rfl, h, h'.1, h'.2⟩
theorem dec_enc {w : TRootWord} (h : Wd w) {r : TRootWord × Int} (hr : dec (enc w) r) : r = (w, 0) := by
  obtain ⟨e1, e2⟩ := enc_msg w h
  have l := enc_len w
  rcases hr with ⟨h', rfl⟩ | ⟨h', rfl⟩ | ⟨_, h', rfl⟩ | ⟨_, _, rfl⟩
  · omega
  · omega
  · exact absurd ⟨by rw [e1]; exact h, e2⟩ h'
  · rw [e1]
/-- What is decoded is the encoding of what was given. -/
theorem back_ok (b : List Int) (hb : ∀ q ∈ b, 0 ≤ q ∧ q ≤ 255) (hn : b.length ≤ 1000) : ∃ r, F13 b = some r ∧ ((r.2 ≠ 0 ∧ r.1 = zw) ∨ (r.2 = 0 ∧ F11 r.1 = some (b, 0))) := by
  obtain ⟨r, r1, r2⟩ := decm_ok b hb hn
  refine ⟨r, r1, ?_⟩
  rcases dec_cases r2 with h | ⟨rfl, hl, hw, hg⟩
  · exact .inl h
  · refine .inr ⟨rfl, ?_⟩
    rcases encm_ok (msg b) with ⟨_, e⟩ | ⟨h, _⟩
    · rw [e, msg_enc b hb hl hg]
    · exact absurd hw h
theorem alive_ok : F36 = some true := by kernel_rfl
theorem law9 (w : TRootWord) (b : List Int) (hw : by6 w.Root) (hb : ∀ q ∈ b, 0 ≤ q ∧ q ≤ 255) : F9 w b = some true := by
  unfold F9
  rw [alive_ok, Option.bind_some]
  by_cases hn : b.length ≤ 100
  · rw [bif_f (by simp [bLt_eq]; omega)]
    obtain ⟨r, r1, r2⟩ := back_ok b hb (by omega)
    have second : ∀ k : TRootWord × Int → Option Bool, (r.2 = 0 → k r = some true) → ((F13 b).bind fun r7 => bif (!bEq r7.2 0) then (some (true && (bEq r7.1.Root.x0 0 && (bEq r7.1.Root.x1 0 && (bEq r7.1.Root.x2 0 && (bEq r7.1.Root.x3 0 && (bEq r7.1.Root.x4 0 && (bEq r7.1.Root.x5 0 && (bEq r7.1.Seq 0 && (bEq r7.1.Hops 0 && (bEq r7.1.Cost 0 && (bB r7.1.Gate false)))))))))))) else k r7) = some true := by
      intro k hk
      rw [r1, Option.bind_some]
      rcases r2 with ⟨h1, h2⟩ | ⟨h1, h2⟩
      · rw [bif_t (by simp [bEq, h1]), h2]; rfl
      · rw [bif_f (by simp [bEq, h1])]; exact hk h1
    have third : r.2 = 0 → ((F11 r.1).bind fun r9 => need (bif (true && (bEq r9.2 0)) then ((F15 b r9.1).isSome) else true) <| some ((true && (bEq r9.2 0)) && (gt (F15 b r9.1)))) = some true := by
      intro h0
      rcases r2 with ⟨h1, h2⟩ | ⟨h1, h2⟩
      · exact absurd h0 h1
      · rw [h2, Option.bind_some]
        simp only
        rw [same_ok b (by omega)]
        rfl
    rcases encm_ok w with ⟨h, e⟩ | ⟨h, e⟩
    · rw [e, Option.bind_some, bif_t (by simp [bEq])]
      obtain ⟨z, z1, z2⟩ := decm_ok (enc w) (enc_by w hw) (by rw [enc_len]; omega)
      have z3 := dec_enc h z2
      subst z3
      simp only
      rw [z1, Option.bind_some, bif_f (by
        rw [enc_len]
        cases hg : w.Gate <;> simp [bEq, bB, hg])]
      exact second _ third
    · rw [e, Option.bind_some, bif_f (by simp [bEq])]
      exact second _ third
  · rw [bif_t (by simp [bLt_eq]; omega)]
end Go.Proofs.Ytdcepineppafpaa
