/-
  ForwardBack: the plain law.
-/
import Derived.Test.YtbahnppiobafoaaFB
namespace Go.Proofs.Ytbahnppiobafoaa
open Go.Am
set_option linter.unusedVariables false
set_option linter.unusedSimpArgs false
theorem alive_ok : F26 = some true := by kernel_rfl
theorem F25_refl (m : TMeshFrame) (h : By m.Data) : F25 m m = some true := by
  have hu : u8b m.Data.length (enR c_u8 m.Data) = true := by rw [u8b_enR (f := c_u8) (fun _ => rfl)]; exact u8A_iff.2 h
  have e : F49 m.Data m.Data = some true := by
    unfold F49
    rw [need_true hu, need_true hu]
    simp [sEq]
  unfold F25
  rw [e, need_true (by simp), gt_some]
  simp [bEq_eq]
theorem at_of (a b c d : Int) (x : A6u8) (r : List Int) : at6 (a :: b :: c :: d :: (ad x ++ r)) 4 = x := rfl
theorem dec_enc (m : TMeshFrame) (hm : Fb m) (hv : Vm m) : Dc (enc m) (m, 0) := by
  obtain ⟨v1, v2, v3, v4, v5, v6⟩ := hv
  have hs : m.Seq % 256 + 256 * (m.Seq / 256) = m.Seq := by omega
  cases h6 : six m with
  | true =>
    have e : enc m = 1 :: m.Ttl :: m.Seq % 256 :: m.Seq / 256 :: (ad m.From ++ (ad m.To ++ (ad m.Enter ++ (ad m.Leave ++ (ad m.Source ++ (ad m.Target ++ m.Data)))))) := by unfold enc; rw [h6]; rfl
    have hd : dec1 (enc m) = m := by
      rw [e]
      show (⟨m.From, m.To, m.Enter, m.Leave, m.Source, m.Target, m.Seq % 256 + 256 * (m.Seq / 256), m.Ttl, m.Data⟩ : TMeshFrame) = m
      rw [hs]
    have := Dc.one (l := enc m) (by rw [e]; simp [ad]) (by rw [e]; rfl) (by rw [hd]; exact h6) (by rw [hd]; exact ⟨v1, v2, v3, v4, v5, v6⟩)
    rwa [hd] at this
  | false =>
    have e : enc m = 0 :: m.Ttl :: m.Seq % 256 :: m.Seq / 256 :: (ad m.From ++ (ad m.To ++ (ad m.Enter ++ (ad m.Leave ++ m.Data)))) := by unfold enc; rw [h6]; rfl
    have h2 : m.Source = m.Enter ∧ m.Target = m.Leave := by
      unfold six at h6
      simp only [Bool.or_eq_false_iff, Bool.not_eq_false'] at h6
      exact ⟨ae_iff.1 h6.1, ae_iff.1 h6.2⟩
    have hd : dec0 (enc m) = m := by
      rw [e]
      show (⟨m.From, m.To, m.Enter, m.Leave, m.Enter, m.Leave, m.Seq % 256 + 256 * (m.Seq / 256), m.Ttl, m.Data⟩ : TMeshFrame) = m
      rw [hs]
      obtain ⟨f, t, en, le, so, ta, sq, tt, d⟩ := m
      simp only at h2 ⊢
      rw [h2.1, h2.2]
    have := Dc.zero (l := enc m) (by rw [e]; simp [ad]) (by rw [e]; rfl) (by rw [hd]; exact ⟨v1, v2, v3, v4, v5, v6⟩)
    rwa [hd] at this
theorem By_enc (m : TMeshFrame) (hm : Fb m) (hv : Vm m) : By (enc m) := by
  obtain ⟨h1, h2, h3, h4, h5, h6, h7⟩ := hm
  obtain ⟨v1, v2, v3, v4, v5, v6⟩ := hv
  have ha : ∀ a, Ab a → By (ad a) := by
    intro a h q hq
    unfold Ab at h
    simp only [ad, List.mem_cons, List.not_mem_nil, or_false] at hq
    rcases hq with rfl | rfl | rfl | rfl | rfl | rfl <;> omega
  have ap : ∀ l r, By l → By r → By (l ++ r) := fun l r hl hr q hq => (List.mem_append.1 hq).elim (hl q) (hr q)
  have co : ∀ (x : Int) l, (0 ≤ x ∧ x ≤ 255) → By l → By (x :: l) := fun x l hx hl q hq => (List.mem_cons.1 hq).elim (fun e => by rw [e]; exact hx) (hl q)
  unfold enc
  cases six m
  · exact co _ _ (by omega) (co _ _ (by omega) (co _ _ (by omega) (co _ _ (by omega) (ap _ _ (ha _ h1) (ap _ _ (ha _ h2) (ap _ _ (ha _ h3) (ap _ _ (ha _ h4) h7)))))))
  · exact co _ _ (by omega) (co _ _ (by omega) (co _ _ (by omega) (co _ _ (by omega) (ap _ _ (ha _ h1) (ap _ _ (ha _ h2) (ap _ _ (ha _ h3) (ap _ _ (ha _ h4) (ap _ _ (ha _ h5) (ap _ _ (ha _ h6) h7)))))))))
theorem Dc_ok {l : List Int} {r : TMeshFrame × Int} (h : Dc l r) (hb : By l) (hl : l.length ≤ 2400) : (r.1 = Z ∧ r.2 ≠ 0) ∨ (r.2 = 0 ∧ Fb r.1 ∧ Vm r.1 ∧ enc r.1 = l ∧ r.1.Data.length ≤ 2400) := by
  cases h with
  | short => exact .inl ⟨rfl, by decide⟩
  | bad => exact .inl ⟨rfl, by decide⟩
  | zero h h0 hv => exact .inr ⟨rfl, Fb0 hb h, hv, enc0 hb h h0, by show (l.drop 28).length ≤ 2400; rw [List.length_drop]; omega⟩
  | one h h0 hs hv => exact .inr ⟨rfl, Fb1 hb h, hv, enc1 hb h h0 hs, by show (l.drop 40).length ≤ 2400; rw [List.length_drop]; omega⟩
theorem law8 (m : TMeshFrame) (b : List Int) (hm : Fb m) (hb : By b) : F8 m b = some true := by
  unfold F8
  simp only [eta_A6u8, eta_TMeshFrame]
  rw [alive_ok, Option.bind_some]
  by_cases hl : m.Data.length ≤ 2400 ∧ b.length ≤ 2400
  · obtain ⟨h1, h2⟩ := hl
    rw [bif_f (by simp [bLt_eq]; omega)]
    have first : ∃ x r k, F12 m = some x ∧ F14 x.1 = some r ∧ F23 m = some k ∧ bEq x.2 0 = bEq k 0 ∧ (bEq x.2 0 = true → r = (m, 0)) := by
      rcases F12_ok m hm h1 with ⟨hv, e⟩ | ⟨hv, e⟩
      · have hel : (enc m).length ≤ 2400 := by
          have := hv.2.2.2.2.2
          unfold enc
          cases six m <;> simp [ad] <;> omega
        obtain ⟨r, r1, r2⟩ := F14_ok (enc m) (By_enc m hm hv) hel
        have : r = (m, 0) := Dc_uniq r2 (dec_enc m hm hv)
        rcases F23_ok m hm with ⟨_, k⟩ | ⟨q, _⟩
        · exact ⟨_, r, _, e, r1, k, rfl, fun _ => this⟩
        · exact absurd hv q
      · obtain ⟨r, r1, r2⟩ := F14_ok [] (fun q hq => absurd hq (by simp)) (Nat.zero_le _)
        rcases F23_ok m hm with ⟨q, _⟩ | ⟨_, k⟩
        · exact absurd q hv
        · exact ⟨_, r, _, e, r1, k, rfl, fun q => absurd q (by decide)⟩
    obtain ⟨x, r, k, x1, r1, k1, xk, hr⟩ := first
    rw [x1, Option.bind_some, r1, Option.bind_some, k1, Option.bind_some, xk]
    have hF : need (bif (((!(!bB (bEq k 0) (bEq k 0))) && (bEq k 0)) && (!(!bEq r.2 0))) then ((F25 r.1 m).isSome) else true) (some ((!bB (bEq k 0) (bEq k 0)) || ((bEq k 0) && ((!bEq r.2 0) || (!(gt (F25 r.1 m))))))) = some false := by
      cases hk : bEq k 0 with
      | false => rfl
      | true =>
        have := hr (by rw [xk]; exact hk)
        subst this
        rw [F25_refl m hm.2.2.2.2.2.2]
        rfl
    obtain ⟨q1, q2⟩ := need_some.1 hF
    replace q2 := Option.some.inj q2
    rw [need_true q1, bif_f q2]
    obtain ⟨s, s1, s2⟩ := F14_ok b hb h2
    rw [s1, Option.bind_some]
    rcases Dc_ok s2 hb h2 with ⟨e1, e2⟩ | ⟨e2, e3, e4, e5, e6⟩
    · rw [bif_t (c := !bEq s.2 0) (by simp [bEq_eq, e2]), e1]
      have hz : F25 Z Z = some true := F25_refl Z (fun q hq => absurd hq (by simp [Z]))
      have hz' : F25 Z ⟨⟨0, 0, 0, 0, 0, 0⟩, ⟨0, 0, 0, 0, 0, 0⟩, ⟨0, 0, 0, 0, 0, 0⟩, ⟨0, 0, 0, 0, 0, 0⟩, ⟨0, 0, 0, 0, 0, 0⟩, ⟨0, 0, 0, 0, 0, 0⟩, 0, 0, []⟩ = some true := hz
      rw [hz']; rfl
    · rw [bif_f (c := !bEq s.2 0) (by simp [bEq_eq, e2])]
      rcases F12_ok s.1 e3 e6 with ⟨_, k2⟩ | ⟨q, _⟩
      · rcases F23_ok s.1 e3 with ⟨_, k3⟩ | ⟨q, _⟩
        · obtain ⟨c, c1, c2⟩ := F16_ok (enc s.1) b (by rw [e5]; omega)
          rw [k2, Option.bind_some, c1, c2.2 e5, k3]
          rfl
        · exact absurd e4 q
      · exact absurd e4 q
  · rw [bif_t (by simp [bLt_eq]; omega)]
end Go.Proofs.Ytbahnppiobafoaa
