/-
  What receiving gives, exactly.
-/
import Derived.Test.YtbahnppiobafoaaFK
namespace Go.Proofs.Ytbahnppiobafoaa
open Go.Am
set_option linter.unusedVariables false
set_option linter.unusedSimpArgs false
def zM : TMeshFrame := ⟨⟨0, 0, 0, 0, 0, 0⟩, ⟨0, 0, 0, 0, 0, 0⟩, ⟨0, 0, 0, 0, 0, 0⟩, ⟨0, 0, 0, 0, 0, 0⟩, ⟨0, 0, 0, 0, 0, 0⟩, ⟨0, 0, 0, 0, 0, 0⟩, 0, 0, []⟩
def rcv (s : TForward) (m : TMeshFrame) (u : A6u8 × Bool) : TForward × Int × TMeshFrame × Int :=
  bif ((!grp m.To && !ae m.To s.Own || ae m.Enter s.Own || ae m.From s.Own) || inM s.Seen ⟨m.Enter, m.Seq⟩) then (s, 0, zM, 0)
  else bif (ae m.Leave s.Own || (grp m.To && bEq m.Ttl 1)) then (rem s ⟨m.Enter, m.Seq⟩, 1, m, 0)
  else bif grp m.To then (rem s ⟨m.Enter, m.Seq⟩, 3, ⟨s.Own, m.To, m.Enter, m.Leave, m.Source, m.Target, m.Seq, m.Ttl - 1, m.Data⟩, 0)
  else bif bEq m.Ttl 1 then (rem s ⟨m.Enter, m.Seq⟩, 0, zM, 0)
  else bif u.2 then (rem s ⟨m.Enter, m.Seq⟩, 2, ⟨s.Own, u.1, m.Enter, m.Leave, m.Source, m.Target, m.Seq, m.Ttl - 1, m.Data⟩, 0)
  else (rem s ⟨m.Enter, m.Seq⟩, 4, m, 0)
theorem F20_ex (s : TForward) (m : TMeshFrame) (hs : Fw s) (hm : Fb m) (hv : Vf s) (hw : Vm m) (hl : s.Seen.length <= 100) (h3 : m.Data.length <= 2400) {u : A6u8 × Bool} (hu : F43 s m.Leave = some u) : F20 s m = some (rcv s m u) := by
  obtain ⟨v1, v2, v3, v4, v5, v6⟩ := id hv
  obtain ⟨w1, w2, w3, w4, w5, w6⟩ := id hw
  unfold F20 rcv
  simp only [eta_A6u8, eta_TForward, eta_TMeshFrame, eta_TForwardMark]
  rcases F27_ok s hs (by omega) (by omega) with ⟨_, e⟩ | ⟨n, _⟩
  · rcases F23_ok m hm with ⟨_, f⟩ | ⟨n, _⟩
    · rw [e, f, F39_ok hm.2.1, F40_ok _ _ (by omega), F41_ok s (by omega) (by omega), F42_ok s _ _ v3 (by omega), F37_ok _ h3]
      have u1 : F43 ⟨s.Own, s.Seq, rmb s ⟨m.Enter, m.Seq⟩, s.Nexts⟩ m.Leave = some u := by rw [← hu]; rfl
      simp only [Option.bind_some, Option.isSome_some, Bool.cond_self, need_true, gt_some, ae_def, u1]
      rw [bif_f (c := !bEq 0 0 || !bEq 0 0) (by rfl)]
      have hwr : wr .i64 (m.Ttl - 1) = m.Ttl - 1 := wr_in (by omega)
      rw [hwr]
      cases hd : ((!grp m.To && !ae m.To s.Own || ae m.Enter s.Own || ae m.From s.Own) || inM s.Seen ⟨m.Enter, m.Seq⟩)
      · have hn : (⟨m.Enter, m.Seq⟩ : TForwardMark) ∉ s.Seen := fun q => by
          rw [(inM_iff s.Seen _).2 q] at hd; simp at hd
        have hr : (⟨s.Own, s.Seq, rmb s ⟨m.Enter, m.Seq⟩, s.Nexts⟩ : TForward) = rem s ⟨m.Enter, m.Seq⟩ := by rw [rmb_new s _ hn hl]; rfl
        simp only [cond_false, ← hr]
        cases hle : ae m.Leave s.Own
        · cases hg : grp m.To
          · cases ht : bEq m.Ttl 1
            · cases hu : u.2 <;> rfl
            · rfl
          · cases ht : bEq m.Ttl 1 <;> rfl
        · rfl
      · rfl
    · exact absurd hw n
  · exact absurd hv n
/-! ### Next hops of a node that knows one way at most -/
theorem F43_nil (s : TForward) (a : A6u8) (h : s.Nexts = []) : F43 s a = some (⟨0, 0, 0, 0, 0, 0⟩, false) := by
  rcases F43_ok s a (by rw [h]; simp) with q | ⟨i, hi, _⟩
  · exact q
  · rw [h] at hi; simp at hi
theorem F43_one (s : TForward) (a n : A6u8) (h : s.Nexts = [⟨a, n⟩]) : F43 s a = some (n, true) := by
  unfold F43 F61_0
  rw [h]
  have : loopD (fun z => F61_0_L1 [⟨a, n⟩] a z) 0 = some (.inr 0) := by
    refine loopD_done ?_
    unfold F61_0_L1 F62_0
    simp only [eta_A6u8, eta_TForwardHop]
    rw [bif_t (c := bLt _ _) (by rfl), need_true (by rfl), Option.bind_some, ae_def, show ae (gd [(⟨a, n⟩ : TForwardHop)] (Int.toNat 0)).Dest a = true from ae_iff.2 rfl]
    rfl
  rw [lp_inr this]
  rfl
end Go.Proofs.Ytbahnppiobafoaa
