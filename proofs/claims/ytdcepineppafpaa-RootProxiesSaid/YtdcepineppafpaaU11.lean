/-
  RootProxies: the plain law.
-/
import Derived.Test.YtdcepineppafpaaU10
namespace Go.Proofs.Ytdcepineppafpaa
open Go.Am
set_option linter.unusedVariables false
set_option linter.unusedSimpArgs false
theorem alive_ok : F36 = some true := by kernel_rfl
theorem law8 (r : TRoots) (out via other : A6u8) (now : Int) (hb : Abr r) (ho : Ab out) (hvi : Ab via) (hot : Ab other) : F8 r out via other now = some true := by
  unfold F8 F16
  rw [alive_ok, Option.bind_some, Option.bind_some]
  by_cases hg : r.Trees.length ≤ 20 ∧ r.Proxies.length ≤ 100
  · have hs : Sm r := ⟨by omega, by omega⟩
    rw [bif_f (c := _ || _) (by simp [bLt_eq]; omega)]
    obtain ⟨v, v1, v2⟩ := learn_sem r out via now hb ho hvi hs
    rw [v1, Option.bind_some]
    rcases v2 with ⟨q1, q2⟩ | ⟨q0, hv, hn, nv, nb, nm⟩
    · have e0 : F24 (TRoots.mk (A6u8.mk v.1.Own.x0 v.1.Own.x1 v.1.Own.x2 v.1.Own.x3 v.1.Own.x4 v.1.Own.x5) v.1.Root v.1.Gate v.1.Seq v.1.Trees v.1.Proxies) (TRoots.mk (A6u8.mk 0 0 0 0 0 0) false false 0 [] []) = some true := by
        rw [q2]; exact F24_ok zr ⟨by simp [zr], by simp [zr]⟩
      rw [bif_t (by simp [bEq_eq, q1]), e0]
      rfl
    · rw [bif_f (by simp [bEq_eq, q0]), wr_in (x := now + 9000000) (by omega), wr_in (x := now + 9000000 - 1) (by omega)]
      simp only [eta_A6u8, eta_TRoots, ae_def]
      obtain ⟨n, n2⟩ := v
      simp only at nv nb nm ⊢
      generalize ht : TProxied.mk out via (now + 9000000) = t at nm
      have hto : t.Out = out := by rw [← ht]
      have htv : t.Via = via := by rw [← ht]
      have htu : t.Until = now + 9000000 := by rw [← ht]
      have htn : t ∈ n.Proxies := (nm t).2 (.inl rfl)
      -- what was learned is found
      have f1 : F31 n out = some (via, true) := by
        rcases lookup_sem n out nb ho nv with ⟨q, h1, h2, h3⟩ | ⟨h1, _⟩
        · rw [h3, uni nv h1 htn (by rw [h2, hto]), htv]
        · exact absurd hto (h1 t htn)
      -- the others
      have f2 : ∃ a b, F31 r other = some a ∧ F31 n other = some b ∧ (other = out ∨ a = b) := by
        rcases lookup_sem r other hb hot hv with ⟨q, h1, h2, h3⟩ | ⟨h1, h3⟩ <;> rcases lookup_sem n other nb hot nv with ⟨p, g1, g2, g3⟩ | ⟨g1, g3⟩
        · refine ⟨_, _, h3, g3, ?_⟩
          by_cases h : other = out
          · exact .inl h
          · refine .inr ?_
            have hqn : q ∈ n.Proxies := (nm q).2 (.inr ⟨h1, fun e => h (by rw [← h2, e])⟩)
            rw [uni nv g1 hqn (by rw [g2, h2])]
        · refine ⟨_, _, h3, g3, ?_⟩
          by_cases h : other = out
          · exact .inl h
          · exact absurd h2 (g1 q ((nm q).2 (.inr ⟨h1, fun e => h (by rw [← h2, e])⟩)))
        · refine ⟨_, _, h3, g3, ?_⟩
          by_cases h : other = out
          · exact .inl h
          · rcases (nm p).1 g1 with rfl | ⟨k1, _⟩
            · exact absurd (by rw [← g2, hto]) h
            · exact absurd g2 (h1 p k1)
        · exact ⟨_, _, h3, g3, .inr rfl⟩
      obtain ⟨a, b, fa, fb, fab⟩ := f2
      have m1 : 0 ≤ minI (now + 9000000) 1099511627776 ∧ minI (now + 9000000) 1099511627776 ≤ 1099511627776 := by unfold minI; split <;> omega
      have m2 : 0 ≤ minI (now + 9000000 - 1) 1099511627776 ∧ minI (now + 9000000 - 1) 1099511627776 ≤ 1099511627776 := by unfold minI; split <;> omega
      obtain ⟨L1, t1, w1, x1⟩ := tick_sem n _ nb nv m1
      obtain ⟨L2, t2, w2, x2⟩ := tick_sem n _ nb nv m2
      have f4 : ∃ c, F31 (TRoots.mk n.Own n.Root n.Gate n.Seq (n.Trees.filter fun q => !(oldT (minI (now + 9000000) 1099511627776) q)) (n.Proxies.filter fun q => !(oldP (minI (now + 9000000) 1099511627776) q))) out = some c ∧ (bLt 1099511627776 (now + 9000000) || (!c.2)) = true := by
        rcases lookup_sem _ out x1 ho w1 with ⟨q, h1, h2, h3⟩ | ⟨h1, h3⟩
        · refine ⟨_, h3, ?_⟩
          obtain ⟨k1, k2⟩ := List.mem_filter.1 h1
          rw [uni nv k1 htn (by rw [h2, hto])] at k2
          simp only [oldP, htu, bLe_eq, Bool.not_eq_true', decide_eq_false_iff_not] at k2
          have : 1099511627776 < now + 9000000 := by
            unfold minI at k2
            split at k2 <;> omega
          simp [bLt_eq, this]
        · exact ⟨_, h3, by simp⟩
      have f5 : F31 (TRoots.mk n.Own n.Root n.Gate n.Seq (n.Trees.filter fun q => !(oldT (minI (now + 9000000 - 1) 1099511627776) q)) (n.Proxies.filter fun q => !(oldP (minI (now + 9000000 - 1) 1099511627776) q))) out = some (via, true) := by
        have hin : t ∈ n.Proxies.filter fun q => !(oldP (minI (now + 9000000 - 1) 1099511627776) q) := by
          refine List.mem_filter.2 ⟨htn, ?_⟩
          simp only [oldP, htu, bLe_eq, Bool.not_eq_true', decide_eq_false_iff_not]
          unfold minI
          split <;> omega
        rcases lookup_sem _ out x2 ho w2 with ⟨q, h1, h2, h3⟩ | ⟨h1, _⟩
        · rw [h3, uni w2 h1 hin (by rw [h2, hto]), htv]
        · exact absurd hto (h1 t hin)
      obtain ⟨c, c1, c2⟩ := f4
      have e : F34 n = some 0 := by
        rcases F34_ok n nb with ⟨_, e⟩ | ⟨h, _⟩
        · exact e
        · exact absurd nv h
      have hab : (ae other out || (ae a.1 b.1 && bB a.2 b.2)) = true := by
        rcases fab with h | rfl
        · rw [ae_iff.2 h]; rfl
        · rw [ae_iff.2 rfl, bBr]; simp
      rw [f1, fa, fb, t1, t2]
      simp only [Option.bind_some]
      rw [c1, f5]
      simp only [Option.bind_some, e, gt_some, Option.isSome_some, Bool.cond_self, need_true, ae_iff.2 rfl, hab, c2, bEqr, Bool.and_self, Bool.true_and, Bool.and_true]
  · rw [bif_t (c := _ || _) (by simp [bLt_eq]; omega)]
end Go.Proofs.Ytdcepineppafpaa
