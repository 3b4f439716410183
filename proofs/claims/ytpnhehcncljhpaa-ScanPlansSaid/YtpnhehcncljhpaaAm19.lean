/-
  The abstract machine, part 19: one operation that sees only the blocks that it names, its new blocks put into places that were kept free.
-/
import Derived.Test.YtpnhehcncljhpaaAm18
namespace Go.Am
set_option linter.unusedVariables false
variable {P : Program} {E : Env} {h : List ABlk}

/-! ### The blocks that a value names; their numbers turned -/
mutual
def refs : AV → List Nat
  | .ptr b _ _ _ => [b]
  | .sl b _ _ _ _ => [b]
  | .isl b _ _ _ _ _ => [b]
  | .csl b _ _ _ _ => [b]
  | .agg l => refsL l
  | .tup l => refsL l
  | .fn _ l => refsL l
  | .opt _ v => refs v
  | .rptr _ _ _ _ _ => []
  | .ro _ _ _ _ => []
  | .top => []
  | .bool _ => []
  | .int _ _ => []
  | .str _ => []
  | .nilp => []
  | .emp => []
  | .nilf => []
  | .ub => []
  | .val _ => []
def refsL : List AV → List Nat
  | [] => []
  | a :: l => refs a ++ refsL l
end
def rnN (L s b : Nat) : Nat := bif decide (b < L) then b else s + (b - L)
mutual
def ren (L s : Nat) : AV → AV
  | .ptr b es i j => .ptr (rnN L s b) es i j
  | .sl b es i n nl => .sl (rnN L s b) es i n nl
  | .isl b es i j z n => .isl (rnN L s b) es i j z n
  | .csl b es i n c => .csl (rnN L s b) es i n c
  | .agg l => .agg (renL L s l)
  | .tup l => .tup (renL L s l)
  | .fn f l => .fn f (renL L s l)
  | .opt g v => .opt g (ren L s v)
  | .rptr es n i j c => .rptr es n i j c
  | .ro es n nl c => .ro es n nl c
  | .top => .top
  | .bool b => .bool b
  | .int k n => .int k n
  | .str s => .str s
  | .nilp => .nilp
  | .emp => .emp
  | .nilf => .nilf
  | .ub => .ub
  | .val v => .val v
def renL (L s : Nat) : List AV → List AV
  | [] => []
  | a :: l => ren L s a :: renL L s l
end
theorem renL_get (L s : Nat) (l : List AV) (i : Nat) : (renL L s l)[i]? = (l[i]?).map (ren L s) := by
  induction l generalizing i with
  | nil => simp [renL]
  | cons a l ih => cases i <;> simp [renL, ih]
theorem renL_length (L s : Nat) (l : List AV) : (renL L s l).length = l.length := by
  induction l with
  | nil => rfl
  | cons a l ih => simp [renL, ih]
theorem VR.ren {E' : Env} {L s : Nat} (hw : E'.w = E.w) (hp : E'.prot = E.prot) (hσ : ∀ b x, E.σ b = some x → E'.σ (rnN L s b) = some x) {a : AV} {v : Value} (h : VR E a v) : VR E' (ren L s a) v := by
  have vw : ∀ {a v}, VR E a v → nref a → VR E' a v := fun h hn => VR.view (E := E) (E' := E') (fun k hk => ⟨by rw [hp]; exact hk, by rw [hw]⟩) h hn
  have lst : ∀ (l : List AV) (vs : Array Value), l.length = vs.size → (∀ (i : Nat) (a : AV) (v : Value), l[i]? = some a → vs[i]? = some v → VR E' (Am.ren L s a) v) →
      (renL L s l).length = vs.size ∧ ∀ (i : Nat) (a : AV) (v : Value), (renL L s l)[i]? = some a → vs[i]? = some v → VR E' a v := by
    intro l vs hl ih
    refine ⟨by rw [renL_length, hl], fun i a v ha hv => ?_⟩
    rw [renL_get] at ha
    cases hi : l[i]? with
    | none => rw [hi] at ha; cases ha
    | some a0 =>
      rw [hi] at ha
      simp only [Option.map_some, Option.some.injEq] at ha
      subst ha
      exact ih i a0 v hi hv
  induction h with
  | top v => simp only [Am.ren]; exact .top v
  | bool b => simp only [Am.ren]; exact .bool b
  | int k n => simp only [Am.ren]; exact .int k n
  | str s => simp only [Am.ren]; exact .str s
  | nilp => simp only [Am.ren]; exact .nilp
  | ptr b es i j k o h => simp only [Am.ren]; exact .ptr _ es i j k o (hσ _ _ h)
  | rptr es m i j k o c u hp' hu h1 hc hrf ih => simp only [Am.ren]; exact vw (.rptr es m i j k o c u hp' hu h1 hc hrf) (by simp only [nref])
  | sl b es i m nl a cap hm hcm hnl hz hc =>
    simp only [Am.ren]
    refine .sl _ es i m nl a cap hm hcm hnl hz fun hp' => ?_
    obtain ⟨k, o, cs, e, g1, g2, g3, g4⟩ := hc hp'
    exact ⟨k, o, cs, e, hσ _ _ g1, g2, by rw [hw]; exact g3, g4⟩
  | isl b es i j z m cap k o hm hcm h => simp only [Am.ren]; exact .isl _ es i j z m cap k o hm hcm (hσ _ _ h)
  | csl b es i m c a hm hcm hc => simp only [Am.ren]; exact .csl _ es i m c a hm hcm fun hp => by obtain ⟨k, o, cs, e, h1, h2, h3, h4⟩ := hc hp; exact ⟨k, o, cs, e, hσ _ _ h1, h2, by rw [hw]; exact h3, h4⟩
  | ro es m nl c a cap hm hcm hnl hz u ha h1 hc hrf ih => simp only [Am.ren]; exact vw (.ro es m nl c a cap hm hcm hnl hz u ha h1 hc hrf) (by simp only [nref])
  | emp a => simp only [Am.ren]; exact .emp a
  | agg l vs hl h1 h ih => simp only [Am.ren]; obtain ⟨q1, q2⟩ := lst l vs hl ih; exact .agg _ vs q1 h1 q2
  | tup l vs hl h ih => simp only [Am.ren]; obtain ⟨q1, q2⟩ := lst l vs hl ih; exact .tup _ vs q1 q2
  | fn f l vs hl h ih => simp only [Am.ren]; obtain ⟨q1, q2⟩ := lst l vs hl ih; exact .fn f _ vs q1 q2
  | nilf => simp only [Am.ren]; exact .nilf
  | ub b => simp only [Am.ren]; exact .ub b
  | val v h1 => simp only [Am.ren]; exact .val v h1
  | opt_t a v h ih => simp only [Am.ren]; exact .opt_t _ v ih
  | opt_f a => simp only [Am.ren]; exact .opt_f _

/-! ### Only the named blocks -/
def inL (b : Nat) : List Nat → Bool
  | [] => false
  | a :: l => (b == a) || inL b l
def maskF (rs : List Nat) : Nat → List ABlk → List ABlk
  | _, [] => []
  | b, x :: r => (bif inL b rs then x else .dead) :: maskF rs (b + 1) r
def mask (rs : List Nat) (h : List ABlk) : List ABlk := maskF rs 0 h
def placeF (rs : List Nat) (s L k : Nat) (hh : List ABlk) : Nat → List ABlk → List ABlk
  | _, [] => []
  | b, x :: r => (bif decide (s ≤ b) && decide (b < s + k) then geth hh (L + (b - s)) else bif inL b rs then geth hh b else x) :: placeF rs s L k hh (b + 1) r
/-- The heap behind an operation that saw the blocks 'rs' only: its new blocks lie from place s on. -/
def place (rs : List Nat) (s : Nat) (hh h : List ABlk) : List ABlk := placeF rs s h.length (hh.length - h.length) hh 0 h
theorem maskF_length (rs : List Nat) (h : List ABlk) : ∀ b, (maskF rs b h).length = h.length := by
  induction h with
  | nil => intro b; rfl
  | cons x r ih => intro b; simp [maskF, ih]
theorem mask_length (rs : List Nat) (h : List ABlk) : (mask rs h).length = h.length := maskF_length rs h 0
theorem maskF_get (rs : List Nat) (h : List ABlk) : ∀ (b i : Nat), (maskF rs b h)[i]? = (h[i]?).map fun x => bif inL (b + i) rs then x else .dead := by
  induction h with
  | nil => intro b i; simp [maskF]
  | cons x r ih =>
    intro b i
    cases i with
    | zero => simp [maskF]
    | succ i => simp only [maskF, List.getElem?_cons_succ, ih]; congr 2; funext x; rw [show b + 1 + i = b + (i + 1) from by omega]
theorem mask_get (rs : List Nat) (h : List ABlk) (i : Nat) : (mask rs h)[i]? = (h[i]?).map fun x => bif inL i rs then x else .dead := by
  rw [mask, maskF_get]; simp
theorem placeF_length (rs : List Nat) (s L k : Nat) (hh h : List ABlk) : ∀ b, (placeF rs s L k hh b h).length = h.length := by
  induction h with
  | nil => intro b; rfl
  | cons x r ih => intro b; simp [placeF, ih]
theorem place_length (rs : List Nat) (s : Nat) (hh h : List ABlk) : (place rs s hh h).length = h.length := placeF_length ..
theorem placeF_get (rs : List Nat) (s L k : Nat) (hh h : List ABlk) : ∀ (b i : Nat), (placeF rs s L k hh b h)[i]? =
    (h[i]?).map fun x => bif decide (s ≤ b + i) && decide (b + i < s + k) then geth hh (L + (b + i - s)) else bif inL (b + i) rs then geth hh (b + i) else x := by
  induction h with
  | nil => intro b i; simp [placeF]
  | cons x r ih =>
    intro b i
    cases i with
    | zero => simp [placeF]
    | succ i => simp only [placeF, List.getElem?_cons_succ, ih]; congr 2; funext x; rw [show b + 1 + i = b + (i + 1) from by omega]
theorem place_get (rs : List Nat) (s : Nat) (hh h : List ABlk) (i : Nat) : (place rs s hh h)[i]? =
    (h[i]?).map fun x => bif decide (s ≤ i) && decide (i < s + (hh.length - h.length)) then geth hh (h.length + (i - s)) else bif inL i rs then geth hh i else x := by
  rw [place, placeF_get]; simp

theorem mask_HR (H : HR E h) (rs : List Nat) : HR E (mask rs h) := by
  have hget : ∀ {i : Nat} {y : ABlk}, (mask rs h)[i]? = some y → y ≠ .dead → h[i]? = some y ∧ inL i rs = true := by
    intro i y hi hy
    rw [mask_get] at hi
    cases hx : h[i]? with
    | none => rw [hx] at hi; cases hi
    | some x =>
      rw [hx] at hi
      simp only [Option.map_some, Option.some.injEq] at hi
      cases hc : inL i rs with
      | false => rw [hc] at hi; exact absurd hi.symm hy
      | true => rw [hc] at hi; exact ⟨by rw [← hi]; rfl, rfl⟩
  refine ⟨fun b x hb => ?_, fun b b' x x' k o o' h1 h2 h3 h4 h5 h6 => ?_, fun k hk => ?_, fun b hb => ?_⟩
  · by_cases hd : x = .dead
    · subst hd; trivial
    · exact H.blk b x (hget hb hd).1
  · exact H.inj b b' x x' k o o' (hget h1 h2).1 h2 (hget h3 h4).1 h4 h5 h6
  · refine ⟨(H.prot k hk).1, ?_⟩
    rintro ⟨b, x, o, h1, h2, h3⟩
    exact (H.prot k hk).2 ⟨b, x, o, (hget h1 h2).1, h2, h3⟩
  · rw [mask_length] at hb; exact H.fresh b hb

/-- Ext without the clause on the numbers of old. -/
structure Ext0 (E : Env) (h : List ABlk) (E' : Env) (h' : List ABlk) : Prop where
  os : E'.w.os = E.w.os
  tape : E'.w.tape = E.w.tape
  output : E'.w.output = E.w.output
  σ : ∀ (b : Nat) (x : Nat × Nat), E.σ b = some x → E'.σ b = some x
  prot : ∀ k, E.prot k → E'.prot k
  size : E.w.heap.size ≤ E'.w.heap.size
  kind : ∀ (k : Nat) cs e, E.w.heap[k]? = some (.cells cs e (0, 0)) → ∃ cs', E'.w.heap[k]? = some (.cells cs' e (0, 0)) ∧ cs'.size = cs.size
  frame : ∀ k, k < E.w.heap.size → ¬ Own E h k → E'.w.heap[k]? = E.w.heap[k]?
  own : ∀ k, Own E' h' k → Own E h k ∨ E.w.heap.size ≤ k
  pro : ∀ k, E'.prot k → E.prot k ∨ Own E h k ∨ E.w.heap.size ≤ k
theorem Ext.zero {E' : Env} {h' : List ABlk} (X : Ext E h E' h') : Ext0 E h E' h' := ⟨X.os, X.tape, X.output, X.σ, X.prot, X.size, X.kind, X.frame, X.own, X.pro⟩
theorem Ext0.trans {E E1 E2 : Env} {h h1 h2 : List ABlk} (a : Ext0 E h E1 h1) (b : Ext0 E1 h1 E2 h2) : Ext0 E h E2 h2 where
  os := b.os.trans a.os
  tape := b.tape.trans a.tape
  output := b.output.trans a.output
  σ := fun x y h => b.σ _ _ (a.σ _ _ h)
  prot := fun k h => b.prot _ (a.prot _ h)
  size := Nat.le_trans a.size b.size
  kind := fun k cs e h => by
    obtain ⟨c1, h1, e1⟩ := a.kind k cs e h
    obtain ⟨c2, h2, e2⟩ := b.kind k c1 e h1
    exact ⟨c2, h2, e2.trans e1⟩
  frame := fun k hk hn => by
    rw [b.frame k (Nat.lt_of_lt_of_le hk a.size) (fun ho => ?_), a.frame k hk hn]
    rcases a.own k ho with h | h
    · exact hn h
    · omega
  own := fun k h => by
    rcases b.own k h with h | h
    · exact a.own k h
    · exact .inr (Nat.le_trans a.size h)
  pro := fun k h => by
    rcases b.pro k h with h | h | h
    · exact a.pro k h
    · rcases a.own k h with h | h
      · exact .inr (.inl h)
      · exact .inr (.inr h)
    · exact .inr (.inr (Nat.le_trans a.size h))
theorem Ext0.keep {E' : Env} {h' : List ABlk} (x : Ext0 E h E' h') (hh : HR E h) : Keep E E' :=
  ⟨x.σ, x.prot, fun k hk => x.frame k (hh.prot k hk).1 (hh.prot k hk).2, x.kind⟩

def nrIn (L : Nat) (hh : List ABlk) : Prop := ∀ (b : Nat) (x : ABlk), hh[b]? = some x → nrB L x
/-- Behind an operation that saw the named blocks only: the others stand as they stood; its new blocks get the numbers from s on. -/
theorem place_HR {rs : List Nat} {s : Nat} {E1 : Env} {hh : List ABlk} (H : HR E h) (X : Ext E (mask rs h) E1 hh) (H1 : HR E1 hh) (hs : ∀ b, s ≤ b → b < s + (hh.length - h.length) → b < h.length ∧ E.σ b = none)
    (hnr : h.length < hh.length → nrIn h.length hh) :
    ∃ E2 : Env, E2.w = E1.w ∧ HR E2 (place rs s hh h) ∧ Ext0 E h E2 (place rs s hh h) ∧ (∀ b, ¬ (s ≤ b ∧ b < s + (hh.length - h.length)) → E2.σ b = E.σ b) ∧ True ∧ (hh.length = h.length → ∀ a v, VR E1 a v → VR E2 a v) ∧ ∀ a v, VR E1 a v → VR E2 (ren h.length s a) v := by
  have hlen : h.length ≤ hh.length := by rw [← mask_length rs h]; exact X.len
  have Hm := mask_HR H rs
  have K1 := X.keep Hm
  let σ2 : Nat → Option (Nat × Nat) := fun b => if s ≤ b ∧ b < s + (hh.length - h.length) then E1.σ (h.length + (b - s)) else E.σ b
  let E2 : Env := ⟨E1.w, σ2, E1.prot⟩
  have hold : ∀ b, b < h.length → E1.σ b = E.σ b := fun b hb => X.old b (by rw [mask_length]; exact hb)
  have hsl : ∀ b, s ≤ b ∧ b < s + (hh.length - h.length) → E2.σ b = E1.σ (h.length + (b - s)) := fun b hb => if_pos hb
  have hns : ∀ b, ¬ (s ≤ b ∧ b < s + (hh.length - h.length)) → E2.σ b = E.σ b := fun b hb => if_neg hb
  have hlt : ∀ b x, E.σ b = some x → b < h.length := by
    intro b x hb
    rcases Nat.lt_or_ge b h.length with h' | h'
    · exact h'
    · rw [H.fresh b h'] at hb; cases hb
  have KE2 : Keep E E2 := ⟨fun b x hb => by
      rw [hns b (fun hc => by rw [(hs b hc.1 hc.2).2] at hb; cases hb)]; exact hb, X.prot, K1.same, K1.kind⟩
  have hlen1 : ∀ b x, E1.σ b = some x → b < hh.length := by
    intro b x hb
    rcases Nat.lt_or_ge b hh.length with h' | h'
    · exact h'
    · rw [H1.fresh b h'] at hb; cases hb
  have hσr : ∀ b x, E1.σ b = some x → E2.σ (rnN h.length s b) = some x := by
    intro b x hb
    have hb1 := hlen1 b x hb
    unfold rnN
    by_cases hbl : b < h.length
    · simp only [hbl, decide_true, cond_true]
      have hb' := hb
      rw [hold b hbl] at hb'
      exact KE2.σ b x hb'
    · simp only [hbl, decide_false, cond_false]
      rw [hsl _ ⟨by omega, by omega⟩, show h.length + (s + (b - h.length) - s) = b from by omega]
      exact hb
  -- what is read in E1 and names no new block
  have V1 : ∀ {a : AV} {v : Value}, VR E1 a v → (h.length < hh.length → nr h.length a) → VR E2 a v := by
    intro a v hv hn
    by_cases hc : h.length < hh.length
    · have hcut := hv.cut (hn hc)
      refine VR.mono (E := E1.cut h.length) (E' := E2) ⟨fun b x hb => ?_, fun k hk => hk, fun _ _ => rfl, fun k cs e hk => ⟨cs, hk, rfl⟩⟩ hcut
      have hbl : b < h.length := by
        rcases Nat.lt_or_ge b h.length with h' | h'
        · exact h'
        · simp [Env.cut, Nat.not_lt.2 h'] at hb
      rw [cut_σ hbl, hold b hbl] at hb
      exact KE2.σ b x hb
    · refine VR.mono (E := E1) (E' := E2) ⟨fun b x hb => ?_, fun k hk => hk, fun _ _ => rfl, fun k cs e hk => ⟨cs, hk, rfl⟩⟩ hv
      have hbl : b < h.length := by have := hlen1 b x hb; omega
      rw [hold b hbl] at hb
      exact KE2.σ b x hb
  have B1 : ∀ (b b' : Nat) (x : ABlk), hh[b]? = some x → E2.σ b' = E1.σ b → BR E2 b' x := by
    intro b b' x hb hσ
    have hB := H1.blk b x hb
    have hN : h.length < hh.length → nrB h.length x := fun hc => hnr hc b x hb
    cases x with
    | dead => trivial
    | lit e l =>
      obtain ⟨k, o, cs, q1, q2, q3, q4⟩ := hB
      exact ⟨k, o, cs, hσ.trans q1, q2, q3, fun j a hj => by obtain ⟨v, r1, r2, r3⟩ := q4 j a hj; exact ⟨v, r1, r2, V1 r3 fun hc => nrL_get (hN hc) hj⟩⟩
    | row e es m c =>
      unfold BR at hB ⊢
      rw [hσ]
      cases hs' : E1.σ b with
      | none => rw [hs'] at hB; exact hB
      | some p =>
        rw [hs'] at hB
        obtain ⟨cs, q1, q2, q3⟩ := hB
        exact ⟨cs, q1, q2, fun x y hx hy => by obtain ⟨v, r1, r2, r3⟩ := q3 x y hx hy; exact ⟨v, r1, r2, V1 r3 fun hc => hN hc x y hx hy⟩⟩
  -- the three kinds of a block of the heap behind
  have hget : ∀ {i : Nat} {y : ABlk}, (place rs s hh h)[i]? = some y → y ≠ .dead →
      (∃ i1, hh[i1]? = some y ∧ E2.σ i = E1.σ i1 ∧ rnN h.length s i1 = i) ∨ (h[i]? = some y ∧ inL i rs = false ∧ E2.σ i = E.σ i) := by
    intro i y hi hy
    rw [place_get] at hi
    cases hx : h[i]? with
    | none => rw [hx] at hi; cases hi
    | some x =>
      have hil : i < h.length := by
        rcases Nat.lt_or_ge i h.length with h' | h'
        · exact h'
        · rw [List.getElem?_eq_none h'] at hx; cases hx
      rw [hx] at hi
      simp only [Option.map_some, Option.some.injEq] at hi
      by_cases hc : s ≤ i ∧ i < s + (hh.length - h.length)
      · have : (decide (s ≤ i) && decide (i < s + (hh.length - h.length))) = true := by simp [hc.1, hc.2]
        rw [this] at hi
        simp only [cond_true] at hi
        refine .inl ⟨h.length + (i - s), by rw [← hi]; exact geth_some (by rw [hi]; exact hy), hsl i hc, ?_⟩
        simp only [rnN, show ¬ (h.length + (i - s) < h.length) from by omega, decide_false, cond_false]
        omega
      · have : (decide (s ≤ i) && decide (i < s + (hh.length - h.length))) = false := by
          rw [← Bool.not_eq_true, Bool.and_eq_true, decide_eq_true_eq, decide_eq_true_eq]; exact hc
        rw [this] at hi
        simp only [cond_false] at hi
        cases hr : inL i rs with
        | true =>
          rw [hr] at hi
          simp only [cond_true] at hi
          exact .inl ⟨i, by rw [← hi]; exact geth_some (by rw [hi]; exact hy), by rw [hns i hc, hold i hil], by simp [rnN, hil]⟩
        | false =>
          rw [hr] at hi
          simp only [cond_false] at hi
          exact .inr ⟨by rw [hi], rfl, hns i hc⟩
  have hnm : ∀ {i : Nat} {y : ABlk} {k o : Nat}, h[i]? = some y → y ≠ .dead → inL i rs = false → E.σ i = some (k, o) → ¬ Own E (mask rs h) k := by
    rintro i y k o h1 h2 h3 h4 ⟨b, x, o', g1, g2, g3⟩
    rw [mask_get] at g1
    cases hx : h[b]? with
    | none => rw [hx] at g1; cases g1
    | some x' =>
      rw [hx] at g1
      simp only [Option.map_some, Option.some.injEq] at g1
      cases hc : inL b rs with
      | false => rw [hc] at g1; exact g2 g1.symm
      | true =>
        rw [hc] at g1
        simp only [cond_true] at g1
        subst g1
        have := H.inj i b y x' k o o' h1 h2 hx g2 h4 g3
        subst this
        rw [h3] at hc; cases hc
  have hom : ∀ k, Own E (mask rs h) k → Own E h k := by
    rintro k ⟨b, x, o, g1, g2, g3⟩
    rw [mask_get] at g1
    cases hx : h[b]? with
    | none => rw [hx] at g1; cases g1
    | some x' =>
      rw [hx] at g1
      simp only [Option.map_some, Option.some.injEq] at g1
      cases hc : inL b rs with
      | false => rw [hc] at g1; exact absurd g1.symm g2
      | true => rw [hc] at g1; simp only [cond_true] at g1; subst g1; exact ⟨b, x', o, hx, g2, g3⟩
  have hown : ∀ k, Own E2 (place rs s hh h) k → Own E h k ∨ E.w.heap.size ≤ k := by
    rintro k ⟨b, x, o, g1, g2, g3⟩
    rcases hget g1 g2 with ⟨i1, q1, q2, _⟩ | ⟨q1, q2, q3⟩
    · rw [q2] at g3
      rcases X.own k ⟨i1, x, o, q1, g2, g3⟩ with h' | h'
      · exact .inl (hom k h')
      · exact .inr h'
    · rw [q3] at g3; exact .inl ⟨b, x, o, q1, g2, g3⟩
  refine ⟨E2, rfl, ⟨fun b x hb => ?_, fun b b' x x' k o o' h1 h2 h3 h4 h5 h6 => ?_, fun k hk => ?_, fun b hb => ?_⟩,
    ⟨X.os, X.tape, X.output, KE2.σ, X.prot, X.size, X.kind, fun k hk hn => X.frame k hk fun ho => hn (hom k ho), hown, fun k hk => (X.pro k hk).imp (fun h => h) (Or.imp_left (hom k))⟩, hns, trivial, fun he a v hv => V1 hv fun hc => absurd hc (by omega),
    fun a v hv => VR.ren (E := E1) (E' := E2) rfl rfl hσr hv⟩
  · by_cases hd : x = .dead
    · subst hd; trivial
    rcases hget hb hd with ⟨i1, q1, q2, _⟩ | ⟨q1, q2, q3⟩
    · exact B1 i1 b x q1 q2
    · refine (H.blk b x q1).mono KE2 q3 fun k o hk => ?_
      exact X.frame k ((H.blk b x q1).lt hd hk) (hnm q1 hd q2 hk)
  · rcases hget h1 h2 with ⟨i1, q1, q2, q2'⟩ | ⟨q1, q2, q3⟩ <;> rcases hget h3 h4 with ⟨i3, r1, r2, r2'⟩ | ⟨r1, r2, r3⟩
    · rw [q2] at h5; rw [r2] at h6
      have := H1.inj i1 i3 x x' k o o' q1 h2 r1 h4 h5 h6
      rw [← q2', ← r2', this]
    · rw [q2] at h5; rw [r3] at h6
      have h8 := hnm r1 h4 r2 h6
      have h9 := (H.blk b' x' r1).lt h4 h6
      rcases X.own k ⟨i1, x, o, q1, h2, h5⟩ with h' | h'
      · exact absurd h' h8
      · omega
    · rw [q3] at h5; rw [r2] at h6
      have h8 := hnm q1 h2 q2 h5
      have h9 := (H.blk b x q1).lt h2 h5
      rcases X.own k ⟨i3, x', o', r1, h4, h6⟩ with h' | h'
      · exact absurd h' h8
      · omega
    · rw [q3] at h5; rw [r3] at h6
      exact H.inj b b' x x' k o o' q1 h2 r1 h4 h5 h6
  · obtain ⟨p1, p2⟩ := H1.prot k hk
    refine ⟨p1, ?_⟩
    rintro ⟨b, x, o, g1, g2, g3⟩
    rcases hget g1 g2 with ⟨i1, q1, q2, _⟩ | ⟨q1, q2, q3⟩
    · rw [q2] at g3; exact p2 ⟨i1, x, o, q1, g2, g3⟩
    · rw [q3] at g3
      rcases X.pro k hk with h' | h' | h'
      · exact (H.prot k h').2 ⟨b, x, o, q1, g2, g3⟩
      · exact hnm q1 g2 q2 g3 h'
      · have := (H.blk b x q1).lt g2 g3; omega
  · rw [place_length] at hb
    show σ2 b = none
    have : ¬ (s ≤ b ∧ b < s + (hh.length - h.length)) := fun hc => by have := (hs b hc.1 hc.2).1; omega
    show (if _ then _ else _) = none
    rw [if_neg this]
    exact H.fresh b hb
end Go.Am
