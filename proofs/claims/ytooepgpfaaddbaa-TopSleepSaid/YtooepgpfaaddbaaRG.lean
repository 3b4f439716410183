import Derived.Test.YtooepgpfaaddbaaRF
import Derived.Test.YtooepgpfaaddbaaB
namespace Go.Proofs.Ytooepgpfaaddbaa
open Go.Am Go.RowKit
def F56 (b : List Int) : Option (List Int) := bif b == [2, 0] then some [] else bif b == [2, 1, 9] then some [9] else none
noncomputable def body56 : List AV -> Nat -> AR
  | [v0], _ => .pure (lK k_u8 1 v0 /\ (F56 (lA vJ v0)).isSome = true) (.ro 1 ((gt (F56 (lA vJ v0))).length) false (enR yQ (gt (F56 (lA vJ v0)))))
  | _, _ => .fail
theorem fresh_row {E : Env} {h : List ABlk} {W : World} {v : Value} {xs : List Int} (H : HR E h) (hB : Below E.w.heap.size E.w W) (hrow : W.ownsRow E.w.heap.size 3 1 v xs.length (xs.map (Value.int .i64))) : Ret E h h (.ro 1 xs.length false (enR yQ xs)) (.returned v) W := by
  obtain ⟨h1, h2⟩ := hrow
  rcases h2 with ⟨rfl, hn⟩ | ⟨g, cap, cur, rfl, hg, hgb, hc1, hc2, hc3, hc4⟩
  · have K : Keep E { E with w := W } := ⟨fun _ _ h => h, fun _ h => h, fun k hk => hB.block k (H.prot k hk).1, fun k cs e hk => ⟨cs, (hB.block k (xG hk)).trans hk, rfl⟩⟩
    obtain ⟨H1, X1⟩ := HR_same H (w' := W) ⟨hB.os, hB.tape, hB.output, hB.size, hB.block⟩
    refine ⟨_, { E with w := W }, rfl, rfl, X1, H1, ?_⟩
    rw [hn]
    exact .ro 1 0 false _ none 0 (Nat.le_refl _) (by simp [maxLen]) (fun h => by cases h) (fun _ => rfl) (fun _ _ => undef) (fun h => by omega) (fun x y hx => by omega) (fun x y hx => by omega) (fun x y hx => by omega)
  · have K : Keep E { E with w := W, prot := fun k => E.prot k ∨ k = g } := ⟨fun _ _ h => h, fun _ h => .inl h, fun k hk => hB.block k (H.prot k hk).1, fun k cs e hk => ⟨cs, (hB.block k (xG hk)).trans hk, rfl⟩⟩
    have hgs : g < W.heap.size := xG hgb
    refine ⟨_, { E with w := W, prot := fun k => E.prot k ∨ k = g }, rfl, rfl, ⟨hB.os, hB.tape, hB.output, fun _ _ h => h, fun _ h => .inl h, hB.size, K.kind, fun k hk _ => hB.block k hk, fun k h => .inl h, Nat.le_refl _, fun _ _ => rfl, ?_⟩, ⟨?_, H.inj, ?_, H.fresh⟩, ?_⟩
    · rintro k (h | rfl)
      · exact .inl h
      · exact .inr (.inr hg)
    · intro b x hb
      by_cases hd : x = .dead
      · subst hd; trivial
      · exact (H.blk b x hb).mono K rfl fun k o hk => hB.block k ((H.blk b x hb).lt hd hk)
    · rintro k (hk | rfl)
      · exact ⟨Nat.lt_of_lt_of_le (H.prot k hk).1 hB.size, (H.prot k hk).2⟩
      · exact ⟨hgs, fun ho => absurd (H.own_lt ho) (by omega)⟩
    · have hcell : ∀ x, x < xs.length -> cur[x]? = some (.int .i64 (gd xs x)) := by
        intro x hx
        have := congrArg (fun l => l[x]?) hc4
        simp only [Nat.mul_one, List.getElem?_take, hx, if_true, List.getElem?_map] at this
        rw [← Array.getElem?_toList, this, List.getElem?_eq_getElem hx]
        simp [gd, hx]
      refine .ro 1 xs.length false _ _ cap hc1 hc2 (fun h => by cases h) (fun h => by cases h) (fun x _ => .int .i64 (gd xs x)) (fun _ => ⟨g, 0, rfl, .inr rfl, fun x y hx hy => ?_⟩) (fun x y hx hy => rfl) (fun x y hx hy => ?_) (fun x y hx hy => ?_)
      · obtain rfl : y = 0 := by omega
        simp only [World.cell?, hgb, Nat.zero_add, Nat.mul_one, Nat.add_zero]
        exact hcell x hx
      · obtain rfl : y = 0 := by omega
        exact .int .i64 _
      · obtain rfl : y = 0 := by omega
        simp only [enR, yQ, zR, nref]
theorem args1 {E : Env} {v0 : AV} {vs : Array Value} (F : FR E [v0] vs) : ∃ u, vs = #[u] /\ VR E v0 u := by
  obtain ⟨vs⟩ := vs
  have hs := F.1
  cases vs with
  | nil => simp at hs
  | cons u vs =>
    cases vs with
    | nil => exact ⟨u, rfl, F.2 0 v0 u rfl rfl⟩
    | cons _ _ => simp at hs
theorem slice_cells {E : Env} {l : List Int} {u : Value} (hv : VR E (.ro 1 l.length false (enR yG l)) u) (hl : 0 < l.length) : ∃ k o cap, u = .slice (some ⟨k, o, none⟩) l.length cap /\ l.length <= cap /\ E.prot k /\ ∀ x, x < l.length -> E.w.cell? ⟨k, o + x, none⟩ = some (.int .u8 (gd l x)) := by
  cases hv with
  | ro _ _ _ _ a cap hn hcm hnl hz us ha h1 hc hrf =>
    obtain ⟨k, o, rfl, hp, hcell⟩ := ha hl
    refine ⟨k, o, cap, rfl, hn, hp, fun x hx => ?_⟩
    have := hcell x 0 hx (by omega)
    simp only [Nat.mul_one, Nat.add_zero] at this
    rw [this]
    have q := hc x 0 hx (by omega)
    simp only [enR, yG, zR] at q
    generalize us x 0 = z at q
    cases q with
    | int => rfl
theorem ok56 : xZ Try.prog 56 (wE body56) := by
  refine ⟨⟨_, Try.func56, by kernel_rfl, by kernel_rfl⟩, fun E h l vs ob v h' H F hr hob => ?_, fun E h l vs ob v H F hr hob => ?_⟩
  · unfold wE body56 at hr
    split at hr
    · rename_i q v0
      simp only [genR, AR.out, Option.some.injEq, Prod.mk.injEq] at hr
      obtain ⟨rfl, rfl, rfl⟩ := hr
      obtain ⟨hnr, hk, hs⟩ := hob
      have hw := uP (fun r h => w_u8 h) hk
      generalize lA vJ v0 = p at hs hw ⊢
      obtain ⟨u, rfl, hu⟩ := args1 F
      have hu2 := hw.1 E u hu
      by_cases h1 : p = [2, 0]
      · subst h1
        obtain ⟨k, o, cap, rfl, hcap, hp, hc⟩ := slice_cells hu2 (by simp)
        refine (callsIn_wide.1 (readA_in Fence.wide 3 trivial trivial trivial rfl (Nat.le_refl _) E.w k o cap hcap (hc 0 (by simp)) (hc 1 (by simp)) (H.prot k hp).1)).mono ?_
        rintro e W ⟨v, rfl, hrow, rfl, hB⟩
        exact fresh_row (xs := []) H hB hrow
      · by_cases h2 : p = [2, 1, 9]
        · subst h2
          obtain ⟨k, o, cap, rfl, hcap, hp, hc⟩ := slice_cells hu2 (by simp)
          refine (callsIn_wide.1 (readB_in Fence.wide 3 trivial trivial trivial rfl (Nat.le_refl _) E.w k o cap hcap (hc 0 (by simp)) (hc 1 (by simp)) (hc 2 (by simp)) (H.prot k hp).1)).mono ?_
          rintro e W ⟨v, rfl, hrow, hB⟩
          exact fresh_row (xs := [9]) H hB hrow
        · exfalso
          have e1 : (p == [2, 0]) = false := by simpa using h1
          have e2 : (p == [2, 1, 9]) = false := by simpa using h2
          unfold F56 at hs
          rw [e1, e2] at hs
          cases hs
    · cases hr
  · unfold wE body56 at hr
    split at hr <;> cases hr
end Go.Proofs.Ytooepgpfaaddbaa
