/-
  RootFresh: the plain law.
-/
import Derived.Test.YtdcepineppafpaaX12
namespace Go.Proofs.Ytdcepineppafpaa
open Go.Am
set_option linter.unusedVariables false
set_option linter.unusedSimpArgs false
theorem alive_ok : F36 = some true := by kernel_rfl
/-- Equal trees, as the program tests them. -/
def te (x y : TTree) : Bool := (bEq x.Root.x0 y.Root.x0 && (bEq x.Root.x1 y.Root.x1 && (bEq x.Root.x2 y.Root.x2 && (bEq x.Root.x3 y.Root.x3 && (bEq x.Root.x4 y.Root.x4 && (bEq x.Root.x5 y.Root.x5 && (bEq x.Parent.x0 y.Parent.x0 && (bEq x.Parent.x1 y.Parent.x1 && (bEq x.Parent.x2 y.Parent.x2 && (bEq x.Parent.x3 y.Parent.x3 && (bEq x.Parent.x4 y.Parent.x4 && (bEq x.Parent.x5 y.Parent.x5 && (bEq x.Seq y.Seq && (bEq x.Hops y.Hops && (bEq x.Cost y.Cost && (bB x.Gate y.Gate && (bEq x.Until y.Until)))))))))))))))))
theorem te_def (x y : TTree) : (bEq x.Root.x0 y.Root.x0 && (bEq x.Root.x1 y.Root.x1 && (bEq x.Root.x2 y.Root.x2 && (bEq x.Root.x3 y.Root.x3 && (bEq x.Root.x4 y.Root.x4 && (bEq x.Root.x5 y.Root.x5 && (bEq x.Parent.x0 y.Parent.x0 && (bEq x.Parent.x1 y.Parent.x1 && (bEq x.Parent.x2 y.Parent.x2 && (bEq x.Parent.x3 y.Parent.x3 && (bEq x.Parent.x4 y.Parent.x4 && (bEq x.Parent.x5 y.Parent.x5 && (bEq x.Seq y.Seq && (bEq x.Hops y.Hops && (bEq x.Cost y.Cost && (bB x.Gate y.Gate && (bEq x.Until y.Until))))))))))))))))) = te x y := rfl
theorem te_self (x : TTree) : te x x = true := by simp only [te, bEqr, bBr, Bool.and_self]
theorem law6 (r : TRoots) (w : TRootWord) (fr : A6u8) (cost now : Int) (hb : Abr r) (hw : Ab w.Root) (hf : Ab fr) : F6 r w fr cost now = some true := by
  unfold F6 F16
  rw [alive_ok, Option.bind_some, Option.bind_some]
  by_cases hg : r.Trees.length ≤ 20 ∧ r.Proxies.length ≤ 100
  · have hs : Sm r := ⟨by omega, by omega⟩
    rw [bif_f (c := _ || _) (by simp [bLt_eq]; omega)]
    obtain ⟨v, v1, v2⟩ := handle_sem r w fr cost now hb hw hf hs
    rw [v1, Option.bind_some]
    rcases v2 with ⟨q1, q2, q3, _⟩ | ⟨q0, hO, hown, hc, nv, nb, no, nm, nold, nnew, nout⟩
    · have e0 : F24 (TRoots.mk (A6u8.mk v.1.Own.x0 v.1.Own.x1 v.1.Own.x2 v.1.Own.x3 v.1.Own.x4 v.1.Own.x5) v.1.Root v.1.Gate v.1.Seq v.1.Trees v.1.Proxies) (TRoots.mk (A6u8.mk 0 0 0 0 0 0) false false 0 [] []) = some true := by
        rw [q2]; exact F24_ok zr ⟨by simp [zr], by simp [zr]⟩
      rw [bif_t (by simp [bEq_eq, q1]), e0, q3]
      rfl
    · rw [bif_f (by simp [bEq_eq, q0])]
      obtain ⟨hv, hW, hfo, hco, hno⟩ := hO
      have hW' := hW
      unfold Wd at hW'
      obtain ⟨n, out, code⟩ := v
      simp only at nv nb no nm nold nnew nout q0
      have hns := Vr_sm nv
      rw [wr_in (x := w.Hops + 1) (by omega), wr_in (x := w.Cost + cost) (by omega)]
      simp only [eta_A6u8, eta_TRoots, ae_def]
      have hnn : nT w fr cost now ∈ n.Trees := (nm _).2 (.inl rfl)
      have e34 : F34 n = some 0 := by
        rcases F34_ok n nb with ⟨_, e⟩ | ⟨h, _⟩
        · exact e
        · exact absurd nv h
      have f8 : F37 n w.Root = some (nT w fr cost now, true) := by
        rcases find_sem n w.Root hns.1 with ⟨q, h1, h2, h3⟩ | ⟨h1, _⟩
        · rw [h3, uniT nv h1 hnn h2]
        · exact absurd rfl (h1 _ hnn)
      -- the same announcement again
      have again : ∃ x, F20 n w fr cost now = some x ∧ x.2.2 = 21 := by
        obtain ⟨x, x1, x2⟩ := handle_sem n w fr cost now nb hw hf hns
        refine ⟨x, x1, ?_⟩
        rcases x2 with ⟨_, _, _, h | h⟩ | ⟨_, _, _, _, _, _, _, _, h, _⟩
        · exact h
        · exact absurd ⟨⟨nv, hW, by rw [no]; exact hfo, hco, hno⟩, by rw [no]; exact hown, _, hnn, rfl, rfl, rfl⟩ h
        · have := (h _ hnn rfl).1
          simp only [nT] at this
          omega
      obtain ⟨x, x1, x2⟩ := again
      -- the other trees
      have others : ∀ i : Nat, i < r.Trees.length → ∃ q, F37 n (gd r.Trees i).Root = some (q, true) ∧ ((gd r.Trees i).Root = w.Root ∨ q = gd r.Trees i) := by
        intro i hi
        have hm := gd_mem hi
        by_cases h : (gd r.Trees i).Root = w.Root
        · rw [h]; exact ⟨_, f8, .inl rfl⟩
        · have hin : gd r.Trees i ∈ n.Trees := (nm _).2 (.inr ⟨hm, h⟩)
          rcases find_sem n (gd r.Trees i).Root hns.1 with ⟨q, h1, h2, h3⟩ | ⟨h1, _⟩
          · exact ⟨q, h3, .inr (uniT nv h1 hin h2)⟩
          · exact absurd rfl (h1 _ hin)
      have l1 : loopD (fun s => F6_L1 r w (n, out, code) s) 0 = some (Sum.inl ()) := run_gen (step := fun s => F6_L1 r w (n, out, code) s) (E := Unit) (R := Bool) r.Trees.length (fun i => (i : Int)) () (fun i hi => by
        obtain ⟨q, o1, o2⟩ := others i hi
        unfold F6_L1
        simp only [Int.toNat_natCast, eta_A6u8, eta_TRoots, ae_def, te_def]
        rw [bif_t (c := bLt _ _) (by simp [bLt_eq]; omega), need_true (inb_nat hi), o1, Option.bind_some, wr_add1 hi (by omega)]
        simp only [inb_nat hi, Bool.cond_self, need_true]
        rw [bif_f]
        rcases o2 with h | rfl
        · rw [ae_iff.2 h]; rfl
        · rw [te_self]; simp) (by unfold F6_L1; rw [bif_f (by simp [bLt_eq])])
      have l2 : loopD (fun s => F6_L2 r w (n, out, code) s) 0 = some (Sum.inl ()) := run_gen (step := fun s => F6_L2 r w (n, out, code) s) (E := Unit) (R := Bool) r.Trees.length (fun i => (i : Int)) () (fun i hi => by
        obtain ⟨q, o1, o2⟩ := others i hi
        unfold F6_L2
        simp only [Int.toNat_natCast, eta_A6u8, eta_TRoots, ae_def, te_def]
        rw [bif_t (c := bLt _ _) (by simp [bLt_eq]; omega), need_true (inb_nat hi), o1, Option.bind_some, wr_add1 hi (by omega)]
        simp only [inb_nat hi, Bool.cond_self, need_true]
        rw [bif_f]
        rcases o2 with h | rfl
        · rw [ae_iff.2 h]; rfl
        · rw [te_self]; simp) (by unfold F6_L2; rw [bif_f (by simp [bLt_eq])])
      have last : ∀ k : Bool → Option Bool, k true = some true → (need (bif ((!((bEq (out.length : Nat) 0) && (bEq (nT w fr cost now).Hops 16))) && (bEq (out.length : Nat) 1)) then inb 0 out.length else true) (k (((bEq (out.length : Nat) 0) && (bEq (nT w fr cost now).Hops 16)) || ((bEq (out.length : Nat) 1) && (bEq (((gd out 0).Root).x0) (nT w fr cost now).Root.x0 && (bEq (((gd out 0).Root).x1) (nT w fr cost now).Root.x1 && (bEq (((gd out 0).Root).x2) (nT w fr cost now).Root.x2 && (bEq (((gd out 0).Root).x3) (nT w fr cost now).Root.x3 && (bEq (((gd out 0).Root).x4) (nT w fr cost now).Root.x4 && (bEq (((gd out 0).Root).x5) (nT w fr cost now).Root.x5 && (bEq ((gd out 0).Seq) (nT w fr cost now).Seq && (bEq ((gd out 0).Hops) (nT w fr cost now).Hops && (bEq ((gd out 0).Cost) (nT w fr cost now).Cost && (bB ((gd out 0).Gate) (nT w fr cost now).Gate)))))))))))))) = some true := by
        intro k hk
        by_cases h : w.Hops + 1 < 16
        · rw [if_pos h] at nout
          subst nout
          have e1 : gd [nW w cost] 0 = nW w cost := rfl
          rw [e1]
          simp only [nW, nT, bEqr, bBr, Bool.and_self, List.length_cons, List.length_nil]
          rw [need_true (by cases (bEq (((0 + 1 : Nat)) : Int) 0 && bEq (w.Hops + 1) 16) <;> rfl)]
          rw [show (bEq (((0 + 1 : Nat)) : Int) 0 && bEq (w.Hops + 1) 16 || bEq (((0 + 1 : Nat)) : Int) 1 && true) = true from by simp [bEq]]
          exact hk
        · rw [if_neg h] at nout
          subst nout
          have h16 : bEq (w.Hops + 1) 16 = true := by simp [bEq_eq]; omega
          simp only [nT, h16, List.length_nil]
          exact hk
      rw [f8, Option.bind_some]
      rcases find_sem r w.Root hs.1 with ⟨q, h1, h2, h3⟩ | ⟨h1, h3⟩
      · obtain ⟨p1, p2⟩ := nold q h1 h2
        rw [h3, Option.bind_some]
        unfold F38
        have hbt : (bLt q.Seq w.Seq || (bEq w.Seq q.Seq && bLt (w.Cost + cost) q.Cost)) = true := by
          simp only [bLt_eq, bEq_eq, Bool.or_eq_true, Bool.and_eq_true, decide_eq_true_eq]; exact p1
        have n1 : (nT w fr cost now).Seq = w.Seq := rfl
        have n2 : (nT w fr cost now).Cost = w.Cost + cost := rfl
        have n3 : (nT w fr cost now).Hops = w.Hops + 1 := rfl
        have n4 : (nT w fr cost now).Parent = fr := rfl
        simp only [Bool.not_true, cond_false, gt_some, Option.isSome_some, Bool.cond_self, need_true, n1, n2, n4, hbt, p2, ae_iff.2 rfl, bEqr, e34, Bool.and_false, Bool.false_or, Bool.or_self, Bool.true_and]
        rw [n3]
        simp only [bEqr, Bool.not_true, cond_false]
        rw [lp_inl l2, x1, Option.bind_some, x2]
        have := last (fun b => some (b && bEq 21 21)) rfl
        rw [n1, n2, n3] at this
        exact this
      · have p2 := nnew h1
        rw [h3, Option.bind_some]
        unfold F38
        have n1 : (nT w fr cost now).Seq = w.Seq := rfl
        have n2 : (nT w fr cost now).Cost = w.Cost + cost := rfl
        have n3 : (nT w fr cost now).Hops = w.Hops + 1 := rfl
        have n4 : (nT w fr cost now).Parent = fr := rfl
        have p3 : bEq (n.Trees.length : Nat) (wr .i64 ((r.Trees.length : Nat) + 1)) = true := by rw [wr_in (by omega), p2]; simp [bEq_eq]
        simp only [Bool.not_true, Bool.not_false, cond_true, cond_false, gt_some, Option.isSome_some, Bool.cond_self, need_true, n1, n2, n4, p3, ae_iff.2 rfl, bEqr, e34, Bool.and_false, Bool.false_and, Bool.false_or, Bool.or_self, Bool.true_and]
        rw [n3]
        simp only [bEqr, Bool.not_true, cond_false]
        rw [lp_inl l1, x1, Option.bind_some, x2]
        have := last (fun b => some (b && bEq 21 21)) rfl
        rw [n1, n2, n3] at this
        exact this
  · rw [bif_t (c := _ || _) (by simp [bLt_eq]; omega)]
end Go.Proofs.Ytdcepineppafpaa
