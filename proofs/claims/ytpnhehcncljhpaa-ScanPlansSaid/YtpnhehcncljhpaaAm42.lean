/-
  The abstract machine, part 42: results that are memory of the caller's own.
-/
import Derived.Test.YtpnhehcncljhpaaAm41
namespace Go.Am
set_option linter.unusedVariables false
theorem rnN_0 (s : Nat) : rnN 0 s 0 = s := by simp [rnN]
theorem rnN_s (s k : Nat) : rnN 0 s (k + 1) = s + (k + 1) := by simp [rnN]
theorem RenB_row {α : Type} [Inhabited α] {s e es n : Nat} {f : α → List AV} {L : List α} (hr : ∀ a, nrefL (f a)) : RenB s (.row e es n (enR f L)) (.row e es n (enR f L)) :=
  ⟨rfl, rfl, rfl, fun x y _ _ => ren_nref _ (nfR_en hr)⟩
theorem CvB_row0 {α : Type} [Inhabited α] {f : α → List AV} {μ : Mu} {e es : Nat} {m : Option Nat} {c : Nat → Nat → AV} (hr : ∀ a, nrefL (f a)) :
    CvB μ (.row e es ([] : List α).length (enR f [])) m (.row e es 0 c) := by
  cases m with
  | none => exact CvB_none
  | some m => exact CvB_row (L := []) hr rfl (fun x y hx => by simp at hx)

/-! ### Delete, Insert at any content -/
variable {P : Program} {E : Env} {h : List ABlk}
theorem BR_val {b e es n : Nat} {c : Nat → Nat → AV} (hB : BR E b (.row e es n c)) :
    ∃ cv : Nat → Nat → AV, BR E b (.row e es n cv) ∧ (∀ x y, flatA (cv x y)) ∧ ∀ x y, x < n → y < es → ∀ E' v, VR E' (cv x y) v → VR E (c x y) v := by
  classical
  unfold BR at hB
  cases hs : E.σ b with
  | none =>
    rw [hs] at hB
    subst hB
    exact ⟨fun _ _ => .top, by unfold BR; rw [hs], fun x y => by simp [flatA, nref, noro], fun x y hx => by omega⟩
  | some p =>
    rw [hs] at hB
    obtain ⟨cs, h1, h2, h3⟩ := hB
    let cv : Nat → Nat → AV := fun x y => if hq : x < n ∧ y < es then .val (Classical.choose (h3 x y hq.1 hq.2)) else .top
    refine ⟨cv, ?_, fun x y => ?_, fun x y hx hy E' v hv => ?_⟩
    · unfold BR
      rw [hs]
      refine ⟨cs, h1, h2, fun x y hx hy => ?_⟩
      obtain ⟨q1, q2, q3⟩ := Classical.choose_spec (h3 x y hx hy)
      refine ⟨_, q1, q2, ?_⟩
      simp only [cv, dif_pos (And.intro hx hy)]
      exact .val _ q2
    · simp only [cv]
      split <;> simp [flatA, nref, noro]
    · simp only [cv, dif_pos (And.intro hx hy)] at hv
      obtain ⟨q1, q2, q3⟩ := Classical.choose_spec (h3 x y hx hy)
      cases hv
      exact q3
theorem BR_back {E' : Env} (K : Keep E E') {b e es n : Nat} {c cv : Nat → Nat → AV} (hB : BR E' b (.row e es n cv)) (hcv : ∀ x y, x < n → y < es → ∀ v, VR E' (cv x y) v → VR E (c x y) v) : BR E' b (.row e es n c) := by
  unfold BR at hB ⊢
  cases hs : E'.σ b with
  | none => rw [hs] at hB; exact hB
  | some p =>
    rw [hs] at hB
    obtain ⟨cs, h1, h2, h3⟩ := hB
    exact ⟨cs, h1, h2, fun x y hx hy => by obtain ⟨v, q1, q2, q3⟩ := h3 x y hx hy; exact ⟨v, q1, q2, (hcv x y hx hy v q3).mono K⟩⟩
theorem seth_get' (h : List ABlk) (b i : Nat) (x : ABlk) : (seth h b x)[i]? = if b = i ∧ b < h.length then some x else h[i]? := by
  rw [seth_set, List.getElem?_set]
  by_cases hb : b = i
  · subst hb
    by_cases hl : b < h.length
    · simp [hl]
    · simp [hl]
  · simp [hb]
theorem HR_put (H : HR E h) {b : Nat} {x : ABlk} (hg : geth h b ≠ .dead) (hB : BR E b x) : HR E (seth h b x) := by
  have hl := geth_lt hg
  have hgs := geth_some hg
  have back : ∀ {i : Nat} {y : ABlk}, (seth h b x)[i]? = some y → y ≠ .dead → ∃ y', h[i]? = some y' ∧ y' ≠ .dead := by
    intro i y hi hy
    rw [seth_get'] at hi
    split at hi
    · rename_i hq; obtain ⟨rfl, _⟩ := hq; exact ⟨_, hgs, hg⟩
    · exact ⟨y, hi, hy⟩
  refine ⟨fun i y hi => ?_, fun i j y z k o o' h1 h2 h3 h4 h5 h6 => ?_, fun k hk => ?_, fun i hi => H.fresh i (by rwa [seth_len] at hi)⟩
  · rw [seth_get'] at hi
    split at hi
    · rename_i hq; obtain ⟨rfl, _⟩ := hq; injection hi with hi; subst hi; exact hB
    · exact H.blk i y hi
  · obtain ⟨y', a1, a2⟩ := back h1 h2
    obtain ⟨z', b1, b2⟩ := back h3 h4
    exact H.inj i j y' z' k o o' a1 a2 b1 b2 h5 h6
  · obtain ⟨p1, p2⟩ := H.prot k hk
    refine ⟨p1, ?_⟩
    rintro ⟨i, y, o, q1, q2, q3⟩
    obtain ⟨y', a1, a2⟩ := back q1 q2
    exact p2 ⟨i, y', o, a1, a2, q3⟩
theorem Ret_back {h1 h' h1' : List ABlk} {v : AV} {e : Ending} {w : World} (H : HR E h1) (hlen : h1.length = h.length) (hlen' : h1'.length = h'.length)
    (hnd : ∀ (i : Nat) (x : ABlk), h1[i]? = some x → x ≠ .dead → ∃ x', h[i]? = some x' ∧ x' ≠ .dead)
    (hb : ∀ (i : Nat) (x : ABlk), h'[i]? = some x → x ≠ .dead → ∃ x1, h1'[i]? = some x1 ∧ x1 ≠ .dead ∧ ∀ E', Keep E E' → BR E' i x1 → BR E' i x)
    (R : Ret E h1 h1' v e w) : Ret E h h' v e w := by
  obtain ⟨u, E', r1, r2, X, H', V⟩ := R
  have K := X.keep H
  have own1 : ∀ k, Own E h1 k → Own E h k := by
    rintro k ⟨i, x, o, q1, q2, q3⟩
    obtain ⟨x', a1, a2⟩ := hnd i x q1 q2
    exact ⟨i, x', o, a1, a2, q3⟩
  have own2 : ∀ k, Own E' h' k → Own E' h1' k := by
    rintro k ⟨i, x, o, q1, q2, q3⟩
    obtain ⟨x', a1, a2, _⟩ := hb i x q1 q2
    exact ⟨i, x', o, a1, a2, q3⟩
  refine ⟨u, E', r1, r2, ⟨X.os, X.tape, X.output, X.σ, X.prot, X.size, X.kind, fun k hk hn => X.frame k hk fun ho => hn (own1 k ho), fun k ho => (X.own k (own2 k ho)).imp (own1 k) id, by have := X.len; omega, fun b hb => X.old b (by omega), fun k hk => ?_⟩, ⟨fun i x hi => ?_, fun i j y z k o o' q1 q2 q3 q4 q5 q6 => ?_, fun k hk => ?_, fun i hi => H'.fresh i (by omega)⟩, V⟩
  · rcases X.pro k hk with q | q | q
    · exact .inl q
    · exact .inr (.inl (own1 k q))
    · exact .inr (.inr q)
  · by_cases hd : x = .dead
    · subst hd; trivial
    · obtain ⟨x1, a1, a2, a3⟩ := hb i x hi hd
      exact a3 E' K (H'.blk i x1 a1)
  · obtain ⟨y', a1, a2, _⟩ := hb i y q1 q2
    obtain ⟨z', b1, b2, _⟩ := hb j z q3 q4
    exact H'.inj i j y' z' k o o' a1 a2 b1 b2 q5 q6
  · obtain ⟨p1, p2⟩ := H'.prot k hk
    exact ⟨p1, fun ho => p2 (own2 k ho)⟩
def delN (e es : Nat) (l : List AV) (h : List ABlk) : AR := match l with
  | [.sl b es' i n _, .int .i64 p, .int .i64 q] => match geth h b with
    | .row e' es2 N c => .heap (0 ≤ p ∧ p < q ∧ q ≤ n ∧ e' = e ∧ es' = es ∧ es2 = es ∧ i + n ≤ N) (.sl h.length es 0 (n - (q.toNat - p.toNat)) false) (seth h b .dead ++ [.row e es (n - (q.toNat - p.toNat)) (delA i p.toNat (q.toNat - p.toNat) c)])
    | _ => .fail
  | _ => .fail
def insN (e es : Nat) (l : List AV) (h : List ABlk) : AR := match l with
  | [.sl b es' i n _, .int .i64 p, .sl b2 es3 i2 m _] => match geth h b with
    | .row e' es2 N c => match geth h b2 with
      | .row _ es4 N2 d => .heap (0 ≤ p ∧ p ≤ n ∧ n + m ≤ 1000000 ∧ e' = e ∧ es' = es ∧ es2 = es ∧ es3 = es ∧ es4 = es ∧ b2 ≠ b ∧ i + n ≤ N ∧ i2 + m ≤ N2 ∧ m = 1)
          (.sl h.length es 0 (n + m) false) (seth h b .dead ++ [.row e es (n + m) (insA i p.toNat m c (subC i2 d))])
      | _ => .fail
    | _ => .fail
  | _ => .fail
theorem row_nd {e es n : Nat} {c : Nat → Nat → AV} : ABlk.row e es n c ≠ .dead := by intro h; cases h
theorem delN_ok {f : FuncId} {e es : Nat} (ok : FnOk P f (delF e es)) : FnOk P f (delN e es) := by
  refine ⟨ok.1, fun E h l vs ob v h' H F hr hob => ?_, fun E h l vs ob v H F hr hob => ?_⟩
  · unfold delN at hr
    split at hr
    · rename_i b es' i n nl p q
      split at hr
      · rename_i e' es2 N c hb
        simp only [AR.out, Option.some.injEq, Prod.mk.injEq] at hr
        obtain ⟨rfl, rfl, rfl⟩ := hr
        obtain ⟨h0, h1, h2, rfl, rfl, rfl, h3⟩ := hob
        have hnd : geth h b ≠ .dead := by rw [hb]; exact row_nd
        have hl := geth_lt hnd
        have hB := H.blk b _ (geth_some hnd)
        rw [hb] at hB
        obtain ⟨cv, g1, g2, g3⟩ := BR_val hB
        have H1 := HR_put H hnd g1
        obtain ⟨p, rfl⟩ := Int.eq_ofNat_of_zero_le h0
        obtain ⟨q, rfl⟩ := Int.eq_ofNat_of_zero_le (Int.le_of_lt (Int.lt_of_le_of_lt h0 h1))
        have hg1 : geth (seth h b (.row e' es2 N cv)) b = .row e' es2 N cv := geth_seth hl
        have hc : ∃ ob v h9, (delF e' es2 [.sl b es2 i n nl, .int .i64 (.ofNat p), .int .i64 (.ofNat q)] (seth h b (.row e' es2 N cv))).out (seth h b (.row e' es2 N cv)) = some (ob, v, h9) ∧ ob ∧ v = .sl h.length es2 0 (n - (q - p)) false ∧ h9 = seth h b .dead ++ [.row e' es2 (n - (q - p)) (delA i p (q - p) cv)] := by
          refine ⟨_, _, _, by simp only [delF, hg1, AR.out]; rfl, ?_, by rw [seth_len], by rw [seth_seth]⟩
          refine ⟨trivial, trivial, trivial, h3, by omega, by omega, fun x y _ _ => g2 x y⟩
        obtain ⟨ob, v, h9, c1, c2, rfl, rfl⟩ := hc
        refine (ok.2.1 E _ [.sl b es2 i n nl, .int .i64 (.ofNat p), .int .i64 (.ofNat q)] vs _ _ _ H1 F c1 c2).mono fun e1 w1 R => Ret_back H1 seth_len (by simp [seth_len]) (fun i x hi hx => ?_) (fun i x hi hx => ?_) R
        · rw [seth_get'] at hi
          split at hi
          · rename_i hq; obtain ⟨rfl, _⟩ := hq; exact ⟨_, geth_some hnd, hnd⟩
          · exact ⟨x, hi, hx⟩
        · rcases getElem?_snoc hi with ⟨hl1, hi⟩ | ⟨rfl, rfl⟩
          · exact ⟨x, by rw [List.getElem?_append_left hl1]; exact hi, hx, fun E' _ hB => hB⟩
          · refine ⟨_, List.getElem?_concat_length, row_nd, fun E' K hB => BR_back K hB fun x y hx hy v hv => ?_⟩
            simp only [Int.ofNat_eq_natCast, Int.toNat_natCast] at hx
            simp only [delA, Int.ofNat_eq_natCast, Int.toNat_natCast] at hv ⊢
            split
            · rename_i hq; rw [if_pos hq] at hv; exact g3 _ _ (by omega) hy _ _ hv
            · rename_i hq; rw [if_neg hq] at hv; exact g3 _ _ (by omega) hy _ _ hv
      · cases hr
    · cases hr
  · exfalso
    unfold delN at hr
    split at hr
    · split at hr <;> cases hr
    · cases hr
theorem insN_ok {f : FuncId} {e es : Nat} (ok : FnOk P f (insF e es)) : FnOk P f (insN e es) := by
  refine ⟨ok.1, fun E h l vs ob v h' H F hr hob => ?_, fun E h l vs ob v H F hr hob => ?_⟩
  · unfold insN at hr
    split at hr
    · rename_i b es' i n nl p b2 es3 i2 m nl2
      split at hr
      · rename_i e' es2 N c hb
        split at hr
        · rename_i e2 es4 N2 d hb2
          simp only [AR.out, Option.some.injEq, Prod.mk.injEq] at hr
          obtain ⟨rfl, rfl, rfl⟩ := hr
          obtain ⟨h0, h1, h2, rfl, rfl, rfl, rfl, rfl, hne, h3, h4, rfl⟩ := hob
          have hnd : geth h b ≠ .dead := by rw [hb]; exact row_nd
          have hnd2 : geth h b2 ≠ .dead := by rw [hb2]; exact row_nd
          have hl := geth_lt hnd
          have hl2 := geth_lt hnd2
          have hB := H.blk b _ (geth_some hnd)
          have hB2 := H.blk b2 _ (geth_some hnd2)
          rw [hb] at hB
          rw [hb2] at hB2
          obtain ⟨cv, g1, g2, g3⟩ := BR_val hB
          obtain ⟨dv, k1, k2, k3⟩ := BR_val hB2
          have H0 := HR_put H hnd g1
          have hgb2 : geth (seth h b (.row e' es4 N cv)) b2 = .row e2 es4 N2 d := by rw [geth_seth_ne hne, hb2]
          have H1 := HR_put H0 (b := b2) (by rw [hgb2]; exact row_nd) k1
          obtain ⟨p, rfl⟩ := Int.eq_ofNat_of_zero_le h0
          have hg1 : geth (seth (seth h b (.row e' es4 N cv)) b2 (.row e2 es4 N2 dv)) b = .row e' es4 N cv := by rw [geth_seth_ne (Ne.symm hne), geth_seth hl]
          have hg2 : geth (seth (seth h b (.row e' es4 N cv)) b2 (.row e2 es4 N2 dv)) b2 = .row e2 es4 N2 dv := geth_seth (by rw [seth_len]; exact hl2)
          have hc : ∃ ob v h9, (insF e' es4 [.sl b es4 i n nl, .int .i64 (.ofNat p), .sl b2 es4 i2 1 nl2] (seth (seth h b (.row e' es4 N cv)) b2 (.row e2 es4 N2 dv))).out (seth (seth h b (.row e' es4 N cv)) b2 (.row e2 es4 N2 dv)) = some (ob, v, h9) ∧ ob ∧ v = .sl h.length es4 0 (n + 1) false ∧
              h9 = seth (seth (seth h b (.row e' es4 N cv)) b2 (.row e2 es4 N2 dv)) b .dead ++ [.row e' es4 (n + 1) (insA i p 1 cv (subC i2 dv))] := by
            refine ⟨_, _, _, by simp only [insF, hg1, hg2, AR.out]; rfl, ?_, by rw [seth_len, seth_len], rfl⟩
            refine ⟨trivial, trivial, trivial, trivial, trivial, hne, h3, h4, ?_, trivial, h2, fun x y _ _ => g2 x y, fun x y _ _ => k2 x y⟩
            omega
          obtain ⟨ob, v, h9, c1, c2, rfl, rfl⟩ := hc
          refine (ok.2.1 E _ [.sl b es4 i n nl, .int .i64 (.ofNat p), .sl b2 es4 i2 1 nl2] vs _ _ _ H1 F c1 c2).mono fun e1 w1 R => Ret_back H1 (by rw [seth_len, seth_len]) (by simp [seth_len]) (fun i x hi hx => ?_) (fun i x hi hx => ?_) R
          · rw [seth_get'] at hi
            split at hi
            · rename_i hq; obtain ⟨rfl, _⟩ := hq; exact ⟨_, geth_some hnd2, hnd2⟩
            · rw [seth_get'] at hi
              split at hi
              · rename_i hq; obtain ⟨rfl, _⟩ := hq; exact ⟨_, geth_some hnd, hnd⟩
              · exact ⟨x, hi, hx⟩
          · rcases getElem?_snoc hi with ⟨hl1, hi⟩ | ⟨rfl, rfl⟩
            · rw [seth_get'] at hi
              split at hi
              · injection hi with hi; exact absurd hi.symm hx
              · rename_i hq
                by_cases h2i : b2 = i
                · subst h2i
                  rw [geth_some hnd2, hb2] at hi
                  injection hi with hi
                  subst hi
                  refine ⟨.row e2 es4 N2 dv, ?_, row_nd, fun E' K hB => BR_back K hB fun x y hx hy v hv => k3 x y hx hy _ _ hv⟩
                  rw [List.getElem?_append_left (by simp [seth_len]; exact hl2), seth_get', if_neg (by simp [seth_len]; intro hbb; exact absurd hbb.symm hne), seth_get', if_pos ⟨rfl, by rw [seth_len]; exact hl2⟩]
                · refine ⟨x, ?_, hx, fun E' _ hB => hB⟩
                  have hil := (List.getElem?_eq_some_iff.1 hi).1
                  rw [List.getElem?_append_left (by simp [seth_len]; exact hil), seth_get', if_neg (by simp [seth_len]; intro hbb; exact Nat.not_lt.1 fun h9 => hq ⟨hbb, h9⟩), seth_get', if_neg (by intro h9; exact h2i h9.1), seth_get', if_neg (by intro h9; exact hq ⟨h9.1, h9.2⟩)]
                  exact hi
            · refine ⟨.row e' es4 (n + 1) (insA i p 1 cv (subC i2 dv)), by simp [seth_len], row_nd, fun E' K hB => BR_back K hB fun x y hx hy v hv => ?_⟩
              simp only [insA, subC, Int.ofNat_eq_natCast, Int.toNat_natCast] at hv ⊢
              by_cases q1 : x < p
              · rw [if_pos q1] at hv ⊢; exact g3 _ _ (by omega) hy _ _ hv
              · rw [if_neg q1] at hv ⊢
                by_cases q2 : x < p + 1
                · rw [if_pos q2] at hv ⊢; exact k3 _ _ (by omega) hy _ _ hv
                · rw [if_neg q2] at hv ⊢; exact g3 _ _ (by omega) hy _ _ hv
        · cases hr
      · cases hr
    · cases hr
  · exfalso
    unfold insN at hr
    split at hr
    · split at hr
      · split at hr <;> cases hr
      · cases hr
    · cases hr

/-! ### Delete, Insert over typed rows -/
def delb (p q : Int) (n : Nat) : Bool := decide (0 ≤ p ∧ p < q ∧ q ≤ n)
theorem delb_iff {p q : Int} {n : Nat} : delb p q n = true ↔ 0 ≤ p ∧ p < q ∧ q ≤ n := by simp [delb]
def insb (p : Int) (n : Nat) : Bool := decide (0 ≤ p ∧ p ≤ n ∧ n + 1 ≤ 1000000)
theorem insb_iff {p : Int} {n : Nat} : insb p n = true ↔ 0 ≤ p ∧ p ≤ n ∧ n + 1 ≤ 1000000 := by simp [insb]
def delL {α : Type} (L : List α) (p q : Int) : List α := L.take p.toNat ++ L.drop q.toNat
def insL {α : Type} (L : List α) (p : Int) (d : List α) : List α := L.take p.toNat ++ d ++ L.drop p.toNat
theorem del_len {α : Type} {L : List α} {p q : Int} {n : Nat} (f : 0 ≤ p ∧ p < q ∧ q ≤ n) (hn : L.length = n) : (delL L p q).length = n - (q.toNat - p.toNat) := by
  simp only [delL, List.length_append, List.length_take, List.length_drop]; omega
theorem ins_len {α : Type} {L d : List α} {p : Int} {n : Nat} (f : 0 ≤ p ∧ p ≤ n ∧ n + 1 ≤ 1000000) (hn : L.length = n) (hd : d.length = 1 := by rfl) : (insL L p d).length = n + 1 := by
  simp only [insL, List.length_append, List.length_take, List.length_drop]; omega
theorem gd_take {α : Type} [Inhabited α] {L : List α} {p i : Nat} (h : i < p) : gd (L.take p) i = gd L i := by
  simp [gd, List.getD_eq_getElem?_getD, List.getElem?_take, h]
theorem gd_drop {α : Type} [Inhabited α] {L : List α} {p i : Nat} : gd (L.drop p) i = gd L (p + i) := by
  simp [gd, List.getD_eq_getElem?_getD, List.getElem?_drop]
theorem del_row {α : Type} [Inhabited α] {f : α → List AV} {L : List α} {p q : Int} {n es : Nat} {c : Nat → Nat → AV} (g : 0 ≤ p ∧ p < q ∧ q ≤ n) (hn : L.length = n) (h1 : ∀ x y, x < L.length → y < es → enR f L x y = c x y) :
    ∀ x y, x < (delL L p q).length → y < es → enR f (delL L p q) x y = delA 0 p.toNat (q.toNat - p.toNat) c x y := by
  intro x y hx hy
  rw [del_len g hn] at hx
  have hl : (L.take p.toNat).length = p.toNat := by simp; omega
  simp only [delA, Nat.zero_add]
  by_cases hp : x < p.toNat
  · rw [if_pos hp, ← h1 x y (by omega) hy]
    simp only [enR, delL]; rw [gd_app_lt (by omega), gd_take hp]
  · rw [if_neg hp, ← h1 _ y (by omega) hy]
    simp only [enR, delL]; rw [gd_app_ge (by omega), gd_drop, hl]
    congr 3; omega
theorem ins_row {α : Type} [Inhabited α] {f : α → List AV} {L d : List α} {p : Int} {n es : Nat} {c k : Nat → Nat → AV} (g : 0 ≤ p ∧ p ≤ n ∧ n + 1 ≤ 1000000) (hn : L.length = n) (h1 : ∀ x y, x < L.length → y < es → enR f L x y = c x y)
    (h2 : ∀ x y, x < d.length → y < es → enR f d x y = k x y) (hd : d.length = 1 := by rfl) :
    ∀ x y, x < (insL L p d).length → y < es → enR f (insL L p d) x y = insA 0 p.toNat 1 c k x y := by
  intro x y hx hy
  rw [ins_len g hn hd] at hx
  have hl : (L.take p.toNat).length = p.toNat := by simp; omega
  simp only [insA, Nat.zero_add]
  by_cases hp : x < p.toNat
  · rw [if_pos hp, ← h1 x y (by omega) hy]
    simp only [enR, insL]; rw [gd_app_lt (by simp; omega), gd_app_lt (by omega), gd_take hp]
  · rw [if_neg hp]
    by_cases hq : x < p.toNat + 1
    · rw [if_pos hq, ← h2 _ y (by omega) hy]
      simp only [enR, insL]; rw [gd_app_lt (by simp; omega), gd_app_ge (by omega), hl]
    · rw [if_neg hq, ← h1 _ y (by omega) hy]
      simp only [enR, insL]; rw [gd_app_ge (by simp; omega), gd_drop]
      congr 3; simp; omega
theorem nrR_ins {n i p m x y : Nat} {c d : Nat → Nat → AV} (h1 : ∀ x y, nr n (c x y)) (h2 : ∀ x y, nr n (d x y)) : nr n (insA i p m c d x y) := by
  simp only [insA]; split
  · exact h1 _ _
  · split
    · exact h2 _ _
    · exact h1 _ _
theorem nrR_del {n i p m x y : Nat} {c : Nat → Nat → AV} (h1 : ∀ x y, nr n (c x y)) : nr n (delA i p m c x y) := by
  simp only [delA]; split <;> exact h1 _ _
theorem nfR_ins {i p m x y : Nat} {c d : Nat → Nat → AV} (h1 : ∀ x y, nref (c x y)) (h2 : ∀ x y, nref (d x y)) : nref (insA i p m c d x y) := by
  simp only [insA]; split
  · exact h1 _ _
  · split
    · exact h2 _ _
    · exact h1 _ _
theorem nfR_del {i p m x y : Nat} {c : Nat → Nat → AV} (h1 : ∀ x y, nref (c x y)) : nref (delA i p m c x y) := by
  simp only [delA]; split <;> exact h1 _ _
theorem CvB_same {μ : Mu} {e es n m : Nat} {c : Nat → Nat → AV} (hr : ∀ x y, nref (c x y)) : CvB μ (.row e es n c) (some m) (.row e es n c) := by
  simp only [CvB]
  exact ⟨trivial, trivial, Nat.le_refl _, fun x y _ _ => Cv_refl _ (hr x y)⟩

/-! ### Arguments given up at the call -/
def obR (o : Prop) (h : List ABlk) : AR → AR
  | .pure ob v => .heap (o ∧ ob) v h
  | .heap ob v h' => .heap (o ∧ ob) v h'
  | .fail => .fail
def frC (c : List AV → List ABlk → AR) (l : List AV) (h : List ABlk) : AR := obR (fzObL h (refsL l) l ∧ fzObH h (refsL l) h) (fzH h (refsL l)) (c (fzL h (refsL l) l) (fzH h (refsL l)))
theorem fr_ok {f : FuncId} {c : List AV → List ABlk → AR} (ok : FnOk P f c) : FnOk P f (frC c) := by
  refine ⟨ok.1, fun E h l vs ob v h' H F hr hob => ?_, fun E h l vs ob v H F hr hob => ?_⟩
  · unfold frC at hr
    generalize refsL l = fz at hr
    have key : ∀ ob0 v0 h0, (c (fzL h fz l) (fzH h fz)).out (fzH h fz) = some (ob0, v0, h0) → fzObL h fz l ∧ fzObH h fz h → ob0 → Calls P f vs E.w (Ret E h h0 v0) := by
      intro ob0 v0 h0 hc ho h1
      obtain ⟨H1, X1⟩ := fz_HR H ho.2
      have F1 : FR (E.fz h fz) (fzL h fz l) vs := ⟨by rw [fzL_length]; exact F.1, fun i a v ha hv => by
        rw [fzL_get] at ha
        cases hl : l[i]? with
        | none => rw [hl] at ha; cases ha
        | some a0 =>
          rw [hl] at ha
          simp only [Option.map_some, Option.some.injEq] at ha
          subst ha
          exact fz_VR H (F.2 i a0 v hl hv) (fzObL_get ho.1 hl)⟩
      refine (ok.2.1 (E.fz h fz) _ _ vs ob0 v0 h0 H1 F1 hc h1).mono ?_
      rintro e w ⟨u, E', r1, r2, X, H', V⟩
      exact ⟨u, E', r1, r2, X1.trans X, H', V⟩
    cases hc : c (fzL h fz l) (fzH h fz) with
    | fail => rw [hc] at hr; cases hr
    | pure ob0 v0 =>
      rw [hc] at hr key
      simp only [obR, AR.out, Option.some.injEq, Prod.mk.injEq] at hr
      obtain ⟨rfl, rfl, rfl⟩ := hr
      exact key ob0 v0 _ rfl hob.1 hob.2
    | heap ob0 v0 h0 =>
      rw [hc] at hr key
      simp only [obR, AR.out, Option.some.injEq, Prod.mk.injEq] at hr
      obtain ⟨rfl, rfl, rfl⟩ := hr
      exact key ob0 v0 _ rfl hob.1 hob.2
  · exfalso
    unfold frC at hr
    cases hc : c (fzL h (refsL l) l) (fzH h (refsL l)) <;> rw [hc] at hr <;> cases hr
theorem deR_0 {α : Type} {g : (Nat → AV) → α} {c : Nat → Nat → AV} : deR g 0 c = [] := by simp [deR]
theorem Fit_0 {k : (Nat → AV) → Prop} {c : Nat → Nat → AV} : Fit k 0 c = True := by simp [Fit]
end Go.Am
