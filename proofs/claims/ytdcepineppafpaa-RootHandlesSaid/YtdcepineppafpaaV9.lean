/-
  RootHandles: growing old; the plain law.
-/
import Derived.Test.YtdcepineppafpaaV8
namespace Go.Proofs.Ytdcepineppafpaa
open Go.Am
set_option linter.unusedVariables false
set_option linter.unusedSimpArgs false
/-- What has grown old. -/
def oldT (now : Int) (q : TTree) : Bool := bLe q.Until now
def oldP (now : Int) (q : TProxied) : Bool := bLe q.Until now
theorem lost_len (l : List TTree) (now : Int) (i : Nat) (hl : l.length ≤ 1000) : (((l.take i).filter (oldT now)).map TTree.Root).length ≤ 1000 := by
  rw [List.length_map]
  have h1 := List.length_filter_le (oldT now) (l.take i)
  have h2 := List.length_take_le i l
  have h3 : (l.take i).length ≤ l.length := by rw [List.length_take]; omega
  omega
theorem fil_len {α : Type} (l : List α) (p : α → Bool) (i : Nat) (hl : l.length ≤ 1000) : ((l.take i).filter p).length ≤ 1000 := by
  have h1 := List.length_filter_le p (l.take i)
  have h3 : (l.take i).length ≤ l.length := by rw [List.length_take]; omega
  omega
theorem tick_ok (r : TRoots) (now : Int) (hb : Abr r) (hs : Sm r) : ∃ v, F22 r now = some v ∧ F23 r now = some v ∧ Sm v.1 ∧ v.2.1.length ≤ 1000 := by
  unfold F22 F23
  rcases F34_ok r hb with ⟨hv, e⟩ | ⟨hv, e⟩ <;> rcases F35_ok r hb with ⟨hv', e'⟩ | ⟨hv', e'⟩
  · rw [e, e', Option.bind_some, Option.bind_some, bif_f (by simp [bEq]), bif_f (c := !true) rfl]
    unfold F57 F60
    rw [Option.bind_some, Option.bind_some]
    cases hn : (bLe 0 now && bLe now 1099511627776) with
    | false =>
      rw [bif_t (c := !false) rfl, bif_t (c := !false) rfl]
      exact ⟨_, rfl, rfl, by simp [Sm], by simp⟩
    | true =>
      rw [bif_f (c := !true) rfl, bif_f (c := !true) rfl, F56_ok r hs, Option.bind_some]
      have h1 := hs.1
      have h2 := hs.2
      have lo := run_gen (step := fun s : List A6u8 × Int => F22_L1 now r s.1 s.2) (E := List A6u8) (R := TRoots × List A6u8 × Int) r.Trees.length (fun i => (((r.Trees.take i).filter (oldT now)).map TTree.Root, (i : Int))) ((r.Trees.filter (oldT now)).map TTree.Root)
        (fun i hi => by
          have hw := lost_len r.Trees now i h1
          rw [take_fil _ _ hi]
          generalize (r.Trees.take i).filter (oldT now) = L at hw ⊢
          unfold F22_L1
          simp only [Int.toNat_natCast]
          rw [bif_t (c := bLt _ (r.Trees.length : Int)) (by simp [bLt_eq]; omega), need_true (inb_nat hi), wr_add1 hi (by omega), need_true (capb_iff.2 (by omega))]
          unfold oldT
          cases bLe (gd r.Trees i).Until now
          · rfl
          · rw [cond_true, cond_true, List.map_append]; rfl)
        (by
          unfold F22_L1
          simp only [List.take_length]
          rw [bif_f (by simp [bLt_eq])])
      have lo' : loopD (fun s : List A6u8 × Int => F22_L1 now r s.1 s.2) ([], 0) = _ := lo
      have hd1 : F62_0 r.Trees now = some (r.Trees.filter fun q => !(oldT now q)) := by
        unfold F62_0 F91_0
        exact del_gen r.Trees (oldT now) (fun q => F63_0 q now) (by omega) (fun q _ => rfl) (fun _ => rfl) (fun _ => rfl)
      have hd2 : F64_0 r.Proxies now = some (r.Proxies.filter fun q => !(oldP now q)) := by
        unfold F64_0 F92_0
        exact del_gen r.Proxies (oldP now) (fun q => F65_0 q now) (by omega) (fun q _ => rfl) (fun _ => rfl) (fun _ => rfl)
      rw [lp_inl lo', hd1, Option.bind_some, hd2, Option.bind_some]
      have la := run_gen (step := fun s : List A6u8 × Int × List TTree => F23_L1 r now s.1 s.2.1 s.2.2) (E := List A6u8 × List TTree) (R := TRoots × List A6u8 × Int) r.Trees.length (fun i => (((r.Trees.take i).filter (oldT now)).map TTree.Root, (i : Int), (r.Trees.take i).filter fun q => !(oldT now q))) ((r.Trees.filter (oldT now)).map TTree.Root, r.Trees.filter fun q => !(oldT now q))
        (fun i hi => by
          have hw := lost_len r.Trees now i h1
          have hw2 := fil_len r.Trees (fun q => !(oldT now q)) i h1
          rw [take_fil _ _ hi, take_fil _ _ hi]
          generalize (r.Trees.take i).filter (oldT now) = L at hw ⊢
          generalize (r.Trees.take i).filter (fun q => !(oldT now q)) = M at hw2 ⊢
          unfold F23_L1
          simp only [Int.toNat_natCast, eta_TTree, eta_A6u8]
          rw [bif_t (c := bLt _ (r.Trees.length : Int)) (by simp [bLt_eq]; omega), need_true (inb_nat hi), wr_add1 hi (by omega), need_true (inb_nat hi), need_true (inb_nat hi), need_true (capb_iff.2 (by omega)), need_true (capb_iff.2 (by omega))]
          unfold oldT
          cases bLe (gd r.Trees i).Until now
          · rfl
          · rw [cond_true, cond_true, List.map_append]; rfl)
        (by
          unfold F23_L1
          simp only [List.take_length]
          rw [bif_f (by simp [bLt_eq])])
      have la' : loopD (fun s : List A6u8 × Int × List TTree => F23_L1 r now s.1 s.2.1 s.2.2) ([], 0, []) = _ := la
      have lb := run_gen (step := fun s : Int × List TProxied => F23_L2 r now s.1 s.2) (E := List TProxied) (R := TRoots × List A6u8 × Int) r.Proxies.length (fun i => ((i : Int), (r.Proxies.take i).filter fun q => !(oldP now q))) (r.Proxies.filter fun q => !(oldP now q))
        (fun i hi => by
          have hw2 := fil_len r.Proxies (fun q => !(oldP now q)) i h2
          rw [take_fil _ _ hi]
          generalize (r.Proxies.take i).filter (fun q => !(oldP now q)) = M at hw2 ⊢
          unfold F23_L2
          simp only [Int.toNat_natCast, eta_TProxied, eta_A6u8]
          rw [bif_t (c := bLt (i : Int) (r.Proxies.length : Int)) (by simp [bLt_eq]; omega), need_true (inb_nat hi), wr_add1 hi (by omega), need_true (inb_nat hi), need_true (capb_iff.2 (by omega))]
          have hx : bLt now (gd r.Proxies i).Until = !(oldP now (gd r.Proxies i)) := by
            unfold oldP
            rw [Bool.eq_iff_iff]
            simp only [bLt_eq, bLe_eq, Bool.not_eq_true', decide_eq_true_eq, decide_eq_false_iff_not]
            omega
          rw [hx]
          cases oldP now (gd r.Proxies i) <;> rfl)
        (by
          unfold F23_L2
          simp only [List.take_length]
          rw [bif_f (by simp [bLt_eq])])
      have lb' : loopD (fun s : Int × List TProxied => F23_L2 r now s.1 s.2) (0, []) = _ := lb
      rw [lp_inl la', lp_inl lb']
      refine ⟨_, rfl, rfl, ⟨?_, ?_⟩, ?_⟩
      · have := fil_len r.Trees (fun q => !(oldT now q)) r.Trees.length h1
        rwa [List.take_length] at this
      · have := fil_len r.Proxies (fun q => !(oldP now q)) r.Proxies.length h2
        rwa [List.take_length] at this
      · have := lost_len r.Trees now r.Trees.length h1
        rwa [List.take_length] at this
  · exact absurd hv hv'
  · exact absurd hv' hv
  · rw [e, e', Option.bind_some, Option.bind_some, bif_t (by simp [bEq]), bif_t (c := !false) rfl]
    exact ⟨_, rfl, rfl, by simp [Sm], by simp⟩
theorem F25_ok (l : List TRootWord) (h : l.length ≤ 1000) : F25 l l = some true := by
  have l1 := run_gen (step := fun s => F25_L1 l l s) (E := Unit) (R := Bool) l.length (fun i => (i : Int)) () (fun i hi => by
    unfold F25_L1
    rw [bif_t (by simp [bLt_eq]; omega), need_true (inb_nat hi), need_true (inb_nat hi), wr_add1 hi (by omega)]
    simp only [bEqr, bBr, Bool.and_self, Bool.not_true, cond_false]) (by unfold F25_L1; rw [bif_f (by simp [bLt_eq])])
  have m1 : loopD (fun s => F25_L1 l l s) 0 = some (Sum.inl ()) := l1
  unfold F25
  rw [bif_f (by simp [bEqr]), lp_inl m1]
theorem F26_ok (l : List A6u8) (h : l.length ≤ 1000) : F26 l l = some true := by
  have l1 := run_gen (step := fun s => F26_L1 l l s) (E := Unit) (R := Bool) l.length (fun i => (i : Int)) () (fun i hi => by
    unfold F26_L1
    rw [bif_t (by simp [bLt_eq]; omega), need_true (inb_nat hi), need_true (inb_nat hi), wr_add1 hi (by omega)]
    simp only [bEqr, bBr, Bool.and_self, Bool.not_true, cond_false]) (by unfold F26_L1; rw [bif_f (by simp [bLt_eq])])
  have m1 : loopD (fun s => F26_L1 l l s) 0 = some (Sum.inl ()) := l1
  unfold F26
  rw [bif_f (by simp [bEqr]), lp_inl m1]
theorem law4 (r : TRoots) (w : TRootWord) (fr : A6u8) (cost now : Int) (hb : Abr r) (hw : Ab w.Root) : F4 r w fr cost now = some true := by
  unfold F4 F16
  by_cases hg : r.Trees.length ≤ 20 ∧ r.Proxies.length ≤ 100
  · have hs : Sm r := ⟨by omega, by omega⟩
    rw [Option.bind_some, bif_f (by simp [bLt_eq]; omega), F17_ok r hs, Option.bind_some]
    obtain ⟨v, v1, v2, v3⟩ := announce_ok r hb hs
    obtain ⟨u, u1, u2, u3, u4⟩ := handle_ok r w fr cost now hb hw hs
    obtain ⟨z, z1, z2, z3, z4⟩ := tick_ok r now hb hs
    rw [v1, v2, u1, u2, z1, z2]
    simp only [Option.bind_some]
    have e0 : ∀ u : TRoots, Sm u → F24 (TRoots.mk (A6u8.mk u.Own.x0 u.Own.x1 u.Own.x2 u.Own.x3 u.Own.x4 u.Own.x5) u.Root u.Gate u.Seq u.Trees u.Proxies) (TRoots.mk (A6u8.mk u.Own.x0 u.Own.x1 u.Own.x2 u.Own.x3 u.Own.x4 u.Own.x5) u.Root u.Gate u.Seq u.Trees u.Proxies) = some true := fun u h => F24_ok u h
    have e1 : F24 r (TRoots.mk (A6u8.mk r.Own.x0 r.Own.x1 r.Own.x2 r.Own.x3 r.Own.x4 r.Own.x5) r.Root r.Gate r.Seq r.Trees r.Proxies) = some true := F24_ok r hs
    have l1 : loopD (fun s : Int × List TTree => F4_L1 s.1 s.2) (0, u.1.Trees) = some (Sum.inl ()) := set_gen (R := Bool) (fun q => TTree.mk q.Root q.Parent q.Seq q.Hops (-1) q.Gate q.Until) u.1.Trees (by have := u3.1; omega) (fun _ => rfl)
    have l2 : loopD (fun s : Int × List TProxied => F4_L2 s.1 s.2) (0, z.1.Proxies) = some (Sum.inl ()) := set_gen (R := Bool) (fun q => TProxied.mk q.Out q.Via (-1)) z.1.Proxies (by have := z3.2; omega) (fun _ => rfl)
    simp only [e0 _ v3, e0 _ u3, e0 _ z3, e1, F25_ok u.2.1 (by omega), F26_ok z.2.1 z4, bEqr, bBr, Bool.and_self, cond_true, gt_some, Option.isSome_some, need_true, lp_inl l1, lp_inl l2]
  · rw [Option.bind_some, bif_t (by simp [bLt_eq]; omega)]
end Go.Proofs.Ytdcepineppafpaa
