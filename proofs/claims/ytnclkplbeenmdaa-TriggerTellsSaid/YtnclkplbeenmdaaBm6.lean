/-
  The abstract machine, text 6: one abstract state that says no more than another, the own blocks numbered anew. loops whose rounds make memory; loops of a known number of rounds. contracts of functions that read their arguments and return memory of their own.
-/
import Derived.Test.YtnclkplbeenmdaaBm5
import Derived.LoopN
namespace Go.Am
set_option linter.unusedVariables false
variable {P : Program} {E : Env} {h : List ABlk}

/-- The number that block b of the weaker state has in the stronger one. -/
abbrev Mu := List (Option Nat)
def getM : Mu → Nat → Option Nat
  | [], _ => none
  | a :: _, 0 => a
  | _ :: l, n + 1 => getM l n
def isO (x : Option Nat) (b : Nat) : Prop := x = some b
mutual
/-- The first value says no more than the second. -/
def Cv (μ : Mu) : AV → AV → Prop
  | .top, _ => True
  | .ptr b es i j, .ptr b' es' i' j' => getM μ b = some b' ∧ es = es' ∧ i = i' ∧ j = j'
  | .sl b es i n nl, .sl b' es' i' n' nl' => getM μ b = some b' ∧ es = es' ∧ i = i' ∧ n = n' ∧ (nl = true → nl' = true)
  | .sl b es i n nl, .ro es' n' nl' c => n' = 0 ∧ nl' = true ∧ n = 0
  | .isl b es i j z n, .isl b' es' i' j' z' n' => getM μ b = some b' ∧ es = es' ∧ i = i' ∧ j = j' ∧ z = z' ∧ n = n'
  | .csl b es i n c, .csl b' es' i' n' c' => getM μ b = some b' ∧ es = es' ∧ i = i' ∧ n = n' ∧ c = c'
  | .agg l, .agg l' => CvL μ l l'
  | .tup l, .tup l' => CvL μ l l'
  | .fn f l, .fn f' l' => f = f' ∧ CvL μ l l'
  | .opt g v, .opt g' v' => g = g' ∧ (g = true → Cv μ v v')
  | .rptr es n i j c, .rptr es' n' i' j' c' => es = es' ∧ n = n' ∧ i = i' ∧ j = j' ∧ ∀ x y, x < n → y < es → c x y = c' x y
  | .ro es n nl c, .ro es' n' nl' c' => (n = 0 ∨ es = es') ∧ n = n' ∧ (nl = true → nl' = true) ∧ ∀ x y, x < n → y < es → c x y = c' x y
  | .bool b, .bool b' => b = b'
  | .int k n, .int k' n' => k = k' ∧ n = n'
  | .str s, .str s' => s = s'
  | .nilp, .nilp => True
  | .emp, .emp => True
  | .nilf, .nilf => True
  | .ub, .ub => True
  | .ub, .bool _ => True
  | .val v, .val v' => v = v'
  | .mp v, .mp v' => v = v'
  | _, _ => False
def CvL (μ : Mu) : List AV → List AV → Prop
  | [], [] => True
  | a :: l, b :: m => Cv μ a b ∧ CvL μ l m
  | _, _ => False
end
theorem CvL_get {μ : Mu} {l m : List AV} (hc : CvL μ l m) : l.length = m.length ∧ ∀ (i : Nat) (a b : AV), l[i]? = some a → m[i]? = some b → Cv μ a b := by
  induction l generalizing m with
  | nil =>
    cases m with
    | nil => exact ⟨rfl, fun i a b ha => by simp at ha⟩
    | cons b m => simp [CvL] at hc
  | cons a l ih =>
    cases m with
    | nil => simp [CvL] at hc
    | cons b m =>
      simp only [CvL] at hc
      obtain ⟨i1, i2⟩ := ih hc.2
      refine ⟨by simp [i1], fun i x y hx hy => ?_⟩
      cases i with
      | zero => simp at hx hy; subst hx hy; exact hc.1
      | succ i => exact i2 i x y (by simpa using hx) (by simpa using hy)

def Env.via (E : Env) (μ : Mu) : Env := ⟨E.w, fun b => (getM μ b).bind E.σ, E.prot⟩
theorem Cv_sound {μ : Mu} {a1 : AV} {v : Value} (hv : VR E a1 v) : ∀ a2, Cv μ a2 a1 → VR (E.via μ) a2 v := by
  have vw : ∀ {a v}, VR E a v → nref a → VR (E.via μ) a v := fun h hn => VR.view (E := E) (E' := E.via μ) (fun k hk => ⟨hk, rfl⟩) h hn
  have hσ : ∀ {b b' : Nat} {x : Nat × Nat}, getM μ b = some b' → E.σ b' = some x → (E.via μ).σ b = some x := by
    intro b b' x h1 h2
    show (getM μ b).bind E.σ = some x
    rw [h1]; exact h2
  have lst : ∀ (l l2 : List AV) (vs : Array Value), l.length = vs.size → (∀ (i : Nat) (a : AV) (v : Value), l[i]? = some a → vs[i]? = some v → ∀ a2, Cv μ a2 a → VR (E.via μ) a2 v) → CvL μ l2 l →
      l2.length = vs.size ∧ ∀ (i : Nat) (a : AV) (v : Value), l2[i]? = some a → vs[i]? = some v → VR (E.via μ) a v := by
    intro l l2 vs hl ih hc
    obtain ⟨q1, q2⟩ := CvL_get hc
    refine ⟨by rw [q1, hl], fun i a v ha hv => ?_⟩
    have hi : i < l.length := by
      rw [← q1]
      rcases Nat.lt_or_ge i l2.length with h' | h'
      · exact h'
      · rw [List.getElem?_eq_none h'] at ha; cases ha
    exact ih i l[i] v (List.getElem?_eq_getElem hi) hv a (q2 i a _ ha (List.getElem?_eq_getElem hi))
  induction hv with
  | top v => intro a2 hc; cases a2 <;> simp only [Cv] at hc; exact .top v
  | bool b => intro a2 hc; cases a2 <;> simp only [Cv] at hc; exact .top _; subst hc; exact .bool _; exact .ub _
  | int k n => intro a2 hc; cases a2 <;> simp only [Cv] at hc; exact .top _; obtain ⟨rfl, rfl⟩ := hc; exact .int _ _
  | str s => intro a2 hc; cases a2 <;> simp only [Cv] at hc; exact .top _; subst hc; exact .str _
  | nilp => intro a2 hc; cases a2 <;> simp only [Cv] at hc; exact .top _; exact .nilp
  | ptr b es i j k o h =>
    intro a2 hc; cases a2 <;> simp only [Cv] at hc
    · exact .top _
    · obtain ⟨q1, rfl, rfl, rfl⟩ := hc; exact .ptr _ _ _ _ k o (hσ q1 h)
  | rptr es m i j k o c u hp hu h1 hc hrf ih =>
    intro a2 hq; cases a2 <;> simp only [Cv] at hq
    · exact .top _
    · obtain ⟨rfl, rfl, rfl, rfl, q⟩ := hq
      exact vw (.rptr _ _ _ _ k o _ u hp hu h1 (fun x y hx hy => by rw [q x y hx hy]; exact hc x y hx hy) fun x y hx hy => by rw [q x y hx hy]; exact hrf x y hx hy) (by simp only [nref])
  | sl b es i m nl a cap hm hcm hnl hz hc =>
    intro a2 hq; cases a2 <;> simp only [Cv] at hq
    · exact .top _
    · obtain ⟨q1, rfl, rfl, rfl, qn⟩ := hq
      refine .sl _ _ _ _ _ a cap hm hcm (fun h => hnl (qn h)) hz fun hp => ?_
      obtain ⟨k, o, cs, e, g1, g2⟩ := hc hp
      exact ⟨k, o, cs, e, hσ q1 g1, g2⟩
  | csl b es i m c a hm hcm hc =>
    intro a2 hq; cases a2 <;> simp only [Cv] at hq
    · exact .top _
    · obtain ⟨q1, rfl, rfl, rfl, rfl⟩ := hq; exact .csl _ _ _ _ _ a hm hcm fun hp => by obtain ⟨k, o, cs, e, h1, h2⟩ := hc hp; exact ⟨k, o, cs, e, hσ q1 h1, h2⟩
  | isl b es i j z m cap k o hm hcm h =>
    intro a2 hq; cases a2 <;> simp only [Cv] at hq
    · exact .top _
    · obtain ⟨q1, rfl, rfl, rfl, rfl, rfl⟩ := hq; exact .isl _ _ _ _ _ _ cap k o hm hcm (hσ q1 h)
  | ro es m nl c a cap hm hcm hnl hz u ha h1 hc hrf ih =>
    intro a2 hq; cases a2 <;> simp only [Cv] at hq
    · exact .top _
    · obtain ⟨rfl, rfl, rfl⟩ := hq
      have ha' : a = none := hnl rfl
      have hc0 := hz ha'
      exact .sl _ _ _ _ _ a cap hm hcm (fun _ => ha') hz fun hp => by omega
    · obtain ⟨q0, rfl, qn, q⟩ := hq
      rename_i es2 n2 nl2 c2
      rcases q0 with q0 | rfl
      · subst q0
        exact .ro _ _ _ _ a cap hm hcm (fun h => hnl (qn h)) hz u (fun h => by omega) (fun x y hx => by omega) (fun x y hx => by omega) fun x y hx => by omega
      · exact vw (.ro _ _ _ _ a cap hm hcm (fun h => hnl (qn h)) hz u ha h1 (fun x y hx hy => by rw [q x y hx hy]; exact hc x y hx hy) fun x y hx hy => by rw [q x y hx hy]; exact hrf x y hx hy) (by simp only [nref])
  | emp a => intro a2 hc; cases a2 <;> simp only [Cv] at hc; exact .top _; exact .emp a
  | agg l vs hl h1 h ih =>
    intro a2 hq; cases a2 <;> simp only [Cv] at hq
    · exact .top _
    · obtain ⟨q1, q2⟩ := lst l _ vs hl ih hq; exact .agg _ vs q1 h1 q2
  | tup l vs hl h ih =>
    intro a2 hq; cases a2 <;> simp only [Cv] at hq
    · exact .top _
    · obtain ⟨q1, q2⟩ := lst l _ vs hl ih hq; exact .tup _ vs q1 q2
  | fn f l vs hl h ih =>
    intro a2 hq; cases a2 <;> simp only [Cv] at hq
    · exact .top _
    · obtain ⟨rfl, hq⟩ := hq; obtain ⟨q1, q2⟩ := lst l _ vs hl ih hq; exact .fn _ _ vs q1 q2
  | nilf => intro a2 hc; cases a2 <;> simp only [Cv] at hc; exact .top _; exact .nilf
  | ub b => intro a2 hc; cases a2 <;> simp only [Cv] at hc; exact .top _; exact .ub b
  | val v h1 => intro a2 hc; cases a2 <;> simp only [Cv] at hc; exact .top _; subst hc; exact .val _ h1
  | mp m r clock es hp hb he => intro a2 hc; cases a2 <;> simp only [Cv] at hc; exact .top _; subst hc; exact vw (.mp _ r clock es hp hb he) (by simp only [nref])
  | opt_t a v h ih =>
    intro a2 hq; cases a2 <;> simp only [Cv] at hq
    · exact .top _
    · obtain ⟨rfl, hq⟩ := hq; exact .opt_t _ v (ih _ (hq rfl))
  | opt_f a =>
    intro a2 hq; cases a2 <;> simp only [Cv] at hq
    · exact .top _
    · obtain ⟨rfl, _⟩ := hq; exact .opt_f _
mutual
theorem Cv_refl {μ : Mu} : ∀ a : AV, nref a → Cv μ a a
  | .top, _ => by simp only [Cv]
  | .bool _, _ => by simp only [Cv]
  | .int _ _, _ => by simp only [Cv]; exact ⟨trivial, trivial⟩
  | .str _, _ => by simp only [Cv]
  | .nilp, _ => by simp only [Cv]
  | .ptr _ _ _ _, h => by simp only [nref] at h
  | .rptr _ _ _ _ _, _ => by simp only [Cv]; exact ⟨trivial, trivial, trivial, trivial, fun _ _ _ _ => trivial⟩
  | .sl _ _ _ _ _, h => by simp only [nref] at h
  | .isl _ _ _ _ _ _, h => by simp only [nref] at h
  | .csl _ _ _ _ _, h => by simp only [nref] at h
  | .ro _ _ _ _, _ => by simp only [Cv]; exact ⟨.inr trivial, trivial, fun h => h, fun _ _ _ _ => trivial⟩
  | .emp, _ => by simp only [Cv]
  | .agg l, h => by simp only [Cv]; exact CvL_refl l (by simpa only [nref] using h)
  | .tup l, h => by simp only [Cv]; exact CvL_refl l (by simpa only [nref] using h)
  | .fn _ l, h => by simp only [Cv]; exact ⟨trivial, CvL_refl l (by simpa only [nref] using h)⟩
  | .nilf, _ => by simp only [Cv]
  | .ub, _ => by simp only [Cv]
  | .val _, _ => by simp only [Cv]
  | .mp _, _ => by simp only [Cv]
  | .opt _ v, h => by simp only [Cv]; exact ⟨trivial, fun _ => Cv_refl v (by simpa only [nref] using h)⟩
theorem CvL_refl {μ : Mu} : ∀ l : List AV, nrefL l → CvL μ l l
  | [], _ => by simp only [CvL]
  | a :: l, h => by simp only [nrefL] at h; simp only [CvL]; exact ⟨Cv_refl a h.1, CvL_refl l h.2⟩
end

/-! ### Blocks -/
def CvB (μ : Mu) : ABlk → Option Nat → ABlk → Prop
  | .dead, _, _ => True
  | .lit e l, some _, .lit e' l' => e = e' ∧ CvL μ l l'
  | .row e es n c, some _, .row e' es' n' c' => e = e' ∧ es = es' ∧ n ≤ n' ∧ ∀ x y, x < n → y < es → Cv μ (c x y) (c' x y)
  | .row _ _ n _, none, _ => n = 0
  | _, _, _ => False
def blkAt (h : List ABlk) : Option Nat → ABlk
  | none => .dead
  | some a => geth h a
def CvH (μ : Mu) (h : List ABlk) : List ABlk → Mu → Prop
  | [], [] => True
  | x :: l, m :: ms => CvB μ x m (blkAt h m) ∧ CvH μ h l ms
  | _, _ => False
/-- Own blocks keep their numbers apart. -/
def injM : Mu → Bool
  | [] => true
  | none :: l => injM l
  | some a :: l => !(l.contains (some a)) && injM l
/-- The numbers of the blocks that are not given up. -/
def liveM : Mu → List ABlk → Mu
  | _ :: ms, .dead :: l => none :: liveM ms l
  | m :: ms, .lit _ _ :: l => m :: liveM ms l
  | m :: ms, .row _ _ _ _ :: l => m :: liveM ms l
  | _, _ => []
theorem liveM_get {μ : Mu} {h : List ABlk} (hl : h.length = μ.length) {b : Nat} {x : ABlk} (hb : h[b]? = some x) (hx : x ≠ .dead) : getM (liveM μ h) b = getM μ b := by
  induction h generalizing μ b with
  | nil => simp at hb
  | cons y l ih => cases μ with
    | nil => simp at hl
    | cons m ms =>
      cases b with
      | zero =>
        simp at hb; subst hb
        cases y with
        | dead => exact absurd rfl hx
        | lit e l' => rfl
        | row e es n c => rfl
      | succ b =>
        have := ih (μ := ms) (by simpa using hl) (b := b) (by simpa using hb)
        cases y <;> simpa only [liveM, getM] using this
def idM : Nat → Nat → Mu → Bool
  | _, 0, _ => true
  | i, n + 1, m :: ms => (m == some i) && idM (i + 1) n ms
  | _, _ + 1, [] => false
theorem CvH_get {μ : Mu} {h h2 : List ABlk} {ms : Mu} (hc : CvH μ h h2 ms) : h2.length = ms.length ∧ ∀ (b : Nat) (x : ABlk), h2[b]? = some x → CvB μ x (getM ms b) (blkAt h (getM ms b)) := by
  induction h2 generalizing ms with
  | nil => cases ms with
    | nil => exact ⟨rfl, fun b x hb => by simp at hb⟩
    | cons m ms => simp [CvH] at hc
  | cons y l ih => cases ms with
    | nil => simp [CvH] at hc
    | cons m ms =>
      simp only [CvH] at hc
      obtain ⟨i1, i2⟩ := ih hc.2
      refine ⟨by simp [i1], fun b x hb => ?_⟩
      cases b with
      | zero => simp at hb; subst hb; exact hc.1
      | succ b => exact i2 b x (by simpa using hb)
theorem getM_out {μ : Mu} {b : Nat} (hb : μ.length ≤ b) : getM μ b = none := by
  induction μ generalizing b with
  | nil => rfl
  | cons m ms ih => cases b with
    | zero => simp at hb
    | succ b => exact ih (by simpa using hb)
theorem getM_mem {μ : Mu} {b a : Nat} (hb : getM μ b = some a) : some a ∈ μ := by
  induction μ generalizing b with
  | nil => cases hb
  | cons m ms ih => cases b with
    | zero => simp only [getM] at hb; subst hb; exact List.mem_cons_self ..
    | succ b => exact List.mem_cons_of_mem _ (ih hb)
theorem injM_get {μ : Mu} (hi : injM μ = true) : ∀ (b b' a : Nat), getM μ b = some a → getM μ b' = some a → b = b' := by
  induction μ with
  | nil => intro b b' a hb; cases hb
  | cons m ms ih =>
    intro b b' a hb hb'
    cases m with
    | none =>
      simp only [injM] at hi
      cases b with
      | zero => cases hb
      | succ b => cases b' with
        | zero => cases hb'
        | succ b' => rw [ih hi b b' a hb hb']
    | some q =>
      simp only [injM, Bool.and_eq_true, Bool.not_eq_true', List.contains_eq_mem, decide_eq_false_iff_not] at hi
      cases b with
      | zero =>
        simp only [getM, Option.some.injEq] at hb; subst hb
        cases b' with
        | zero => rfl
        | succ b' => simp only [getM] at hb'; exact absurd (getM_mem hb') hi.1
      | succ b => cases b' with
        | zero =>
          simp only [getM, Option.some.injEq] at hb'; subst hb'
          simp only [getM] at hb; exact absurd (getM_mem hb) hi.1
        | succ b' => rw [ih hi.2 b b' a hb hb']
theorem idM_get : ∀ (n i : Nat) (μ : Mu), idM i n μ = true → ∀ b, b < n → getM μ b = some (i + b)
  | 0, _, _, _, b, hb => by omega
  | n + 1, i, [], h, _, _ => by simp [idM] at h
  | n + 1, i, m :: ms, h, b, hb => by
    simp only [idM, Bool.and_eq_true, beq_iff_eq] at h
    cases b with
    | zero => simp only [getM, h.1, Nat.add_zero]
    | succ b => simp only [getM]; rw [idM_get n (i + 1) ms h.2 b (by omega)]; congr 1; omega
theorem via_HR {μ : Mu} {h2 : List ABlk} (H : HR E h) (hc : CvH μ h h2 μ) (hi : injM (liveM μ h2) = true) : HR (E.via μ) h2 ∧ ∀ k, Own (E.via μ) h2 k → Own E h k := by
  obtain ⟨c1, c2⟩ := CvH_get hc
  have src : ∀ (b : Nat) (x : ABlk) (p : Nat × Nat), h2[b]? = some x → x ≠ .dead → (E.via μ).σ b = some p → ∃ a, getM μ b = some a ∧ E.σ a = some p ∧ geth h a ≠ .dead := by
    intro b x p hb hx hp
    have hB := c2 b x hb
    have hp' : (getM μ b).bind E.σ = some p := hp
    cases hg : getM μ b with
    | none => rw [hg] at hp'; cases hp'
    | some a =>
      rw [hg] at hp' hB
      refine ⟨a, rfl, hp', fun hd => ?_⟩
      simp only [blkAt] at hB
      rw [hd] at hB
      cases x <;> simp only [CvB] at hB
      exact hx rfl
  have hown : ∀ k, Own (E.via μ) h2 k → Own E h k := by
    rintro k ⟨b, x, o, h1, h2', h3⟩
    obtain ⟨a, g1, g2, g3⟩ := src b x _ h1 h2' h3
    exact ⟨a, geth h a, o, geth_some g3, g3, g2⟩
  refine ⟨⟨fun b x hb => ?_, fun b b' x x' k o o' h1 h2 h3 h4 h5 h6 => ?_, fun k hk => ⟨(H.prot k hk).1, fun ho => (H.prot k hk).2 (hown k ho)⟩, fun b hb => ?_⟩, hown⟩
  · have hB := c2 b x hb
    cases x with
    | dead => trivial
    | lit e l =>
      cases hg : getM μ b with
      | none => rw [hg] at hB; simp only [blkAt, CvB] at hB
      | some a =>
        rw [hg] at hB
        simp only [blkAt] at hB
        cases hga : geth h a with
        | dead => rw [hga] at hB; simp only [CvB] at hB
        | row e' es n c => rw [hga] at hB; simp only [CvB] at hB
        | lit e' l' =>
          rw [hga] at hB
          simp only [CvB] at hB
          obtain ⟨rfl, hB⟩ := hB
          obtain ⟨q1, q2⟩ := CvL_get hB
          obtain ⟨k, o, cs, r1, r2, r3, r4⟩ := (show BR E a (.lit e l') from by rw [← hga]; exact H.blk a _ (geth_some (by rw [hga]; exact fun e => by cases e)))
          refine ⟨k, o, cs, by show (getM μ b).bind E.σ = _; rw [hg]; exact r1, r2, by rw [q1]; exact r3, fun j y hj => ?_⟩
          have hjl : j < l'.length := by
            rw [← q1]
            rcases Nat.lt_or_ge j l.length with h' | h'
            · exact h'
            · rw [List.getElem?_eq_none h'] at hj; cases hj
          obtain ⟨v, s1, s2, s3⟩ := r4 j _ (List.getElem?_eq_getElem hjl)
          exact ⟨v, s1, s2, Cv_sound s3 _ (q2 j _ _ hj (List.getElem?_eq_getElem hjl))⟩
    | row e es n c =>
      unfold BR
      cases hg : getM μ b with
      | none =>
        rw [hg] at hB
        simp only [blkAt, CvB] at hB
        have : (E.via μ).σ b = none := by show (getM μ b).bind E.σ = _; rw [hg]; rfl
        rw [this]; exact hB
      | some a =>
        rw [hg] at hB
        simp only [blkAt] at hB
        cases hga : geth h a with
        | dead => rw [hga] at hB; simp only [CvB] at hB
        | lit e' l' => rw [hga] at hB; simp only [CvB] at hB
        | row e' es' n' c' =>
          rw [hga] at hB
          simp only [CvB] at hB
          obtain ⟨rfl, rfl, hle, hB⟩ := hB
          have hR : BR E a (.row e es n' c') := by rw [← hga]; exact H.blk a _ (geth_some (by rw [hga]; exact fun e => by cases e))
          unfold BR at hR
          have : (E.via μ).σ b = E.σ a := by show (getM μ b).bind E.σ = _; rw [hg]; rfl
          rw [this]
          cases hs : E.σ a with
          | none => rw [hs] at hR; exact Nat.eq_zero_of_le_zero (hR ▸ hle)
          | some p =>
            rw [hs] at hR
            obtain ⟨cs, r1, r2, r3⟩ := hR
            exact ⟨cs, r1, Nat.le_trans (Nat.add_le_add_left (Nat.mul_le_mul_right _ hle) _) r2, fun x y hx hy => by obtain ⟨v, s1, s2, s3⟩ := r3 x y (Nat.lt_of_lt_of_le hx hle) hy; exact ⟨v, s1, s2, Cv_sound s3 _ (hB x y hx hy)⟩⟩
  · obtain ⟨a, g1, g2, g3⟩ := src b x _ h1 h2 h5
    obtain ⟨a', g1', g2', g3'⟩ := src b' x' _ h3 h4 h6
    have := H.inj a a' _ _ k o o' (geth_some g3) g3 (geth_some g3') g3' g2 g2'
    subst this
    exact injM_get hi b b' a ((liveM_get c1 h1 h2).trans g1) ((liveM_get c1 h3 h4).trans g1')
  · show (getM μ b).bind E.σ = none
    rw [getM_out (by rw [← c1]; exact hb)]; rfl
end Go.Am

namespace Go.Am
set_option linter.unusedVariables false
variable {P : Program} {E : Env} {h : List ABlk}

/-- The state (t2, h2) says no more than (t, h); the first n blocks keep their numbers. -/
def SubBy (μ : Mu) (n : Nat) (t : List AV) (h : List ABlk) (t2 : List AV) (h2 : List ABlk) : Prop := CvL μ t2 t ∧ CvH μ h h2 μ ∧ injM (liveM μ h2) = true ∧ idM 0 n μ = true
def Sub (n : Nat) (t : List AV) (h : List ABlk) (t2 : List AV) (h2 : List ABlk) : Prop := ∃ μ, SubBy μ n t h t2 h2
theorem idM_len : ∀ (n i : Nat) (μ : Mu), idM i n μ = true → n ≤ μ.length
  | 0, _, _, _ => Nat.zero_le _
  | n + 1, i, [], h => by simp [idM] at h
  | n + 1, i, m :: ms, h => by
    simp only [idM, Bool.and_eq_true] at h
    have := idM_len n (i + 1) ms h.2
    simp; omega
theorem via_FR {μ : Mu} {t t2 : List AV} {vs : Array Value} (F : FR E t vs) (hc : CvL μ t2 t) : FR (E.via μ) t2 vs := by
  obtain ⟨c1, c2⟩ := CvL_get hc
  refine ⟨c1.trans F.1, fun i a v ha hv => ?_⟩
  have hi : i < t.length := by
    rw [← c1]
    rcases Nat.lt_or_ge i t2.length with h' | h'
    · exact h'
    · rw [List.getElem?_eq_none h'] at ha; cases ha
  exact Cv_sound (F.2 i _ v (List.getElem?_eq_getElem hi) hv) _ (c2 i a _ ha (List.getElem?_eq_getElem hi))
theorem via_Ext {E0 : Env} {h0 h2 : List ABlk} {μ : Mu} (H0 : HR E0 h0) (H : HR E h) (X : Ext E0 h0 E h) (hc : CvH μ h h2 μ) (hi : injM (liveM μ h2) = true) (hd : idM 0 h0.length μ = true) : Ext E0 h0 (E.via μ) h2 := by
  have hid : ∀ b, b < h0.length → getM μ b = some b := fun b hb => by have := idM_get _ _ _ hd b hb; rwa [Nat.zero_add] at this
  have hσ : ∀ b, b < h0.length → (E.via μ).σ b = E.σ b := fun b hb => by show (getM μ b).bind E.σ = _; rw [hid b hb]; rfl
  obtain ⟨_, hown⟩ := via_HR H hc hi
  refine ⟨X.os, X.tape, X.output, fun b x hb => ?_, X.prot, X.size, X.kind, X.frame, fun k hk => X.own k (hown k hk), ?_, fun b hb => (hσ b hb).trans (X.old b hb), X.pro⟩
  · have hlt : b < h0.length := by
      rcases Nat.lt_or_ge b h0.length with h' | h'
      · exact h'
      · rw [H0.fresh b h'] at hb; cases hb
    rw [hσ b hlt]; exact X.σ b x hb
  · rw [(CvH_get hc).1]; exact idM_len _ _ _ hd
def Back2 {α : Type} (T : α → List AV) (Hp : α → List ABlk) (J : α → Prop) (μ : α → Nat) (n : Nat) (x : α) (t : List AV) (h : List ABlk) : Prop :=
  ∃ x', J x' ∧ μ x' < μ x ∧ Sub n t h (T x') (Hp x')
theorem loop_rule2 {α : Type} {sh : TypeId → Option (List Leaf)} {ct : Ct} (S : ShOk P sh) (C : CtOk P ct) (T : α → List AV) (Hp : α → List ABlk) (J : α → Prop) (μ : α → Nat) (x0 : α)
    {c : Code} {K : Kt} {t : List AV} (h0 : J x0) (init : Sub h.length t h (T x0) (Hp x0))
    (round : ∀ x, J x → wpC P sh ct c (kLp (Back2 T Hp J μ h.length x) K) (T x) (Hp x)) : Mean P (.loop c) K t h := by
  intro E a Q H F hd hQ
  let Inv (x : α) (a' : Act) (w' : World) : Prop := J x ∧ a'.defers = [] ∧ ∃ E', E'.w = w' ∧ HR E' (Hp x) ∧ FR E' (T x) a'.tmps ∧ Ext E h E' (Hp x)
  have hmin : ∀ a' w', ∃ m : Nat, (∃ x, Inv x a' w') → (∃ x, Inv x a' w' ∧ μ x = m) ∧ ∀ x, Inv x a' w' → m ≤ μ x := by
    intro a' w'
    by_cases hx : ∃ x, Inv x a' w'
    · obtain ⟨x, hx⟩ := hx
      obtain ⟨m, m1, m2⟩ := exists_min (p := fun m => ∃ x, Inv x a' w' ∧ μ x = m) ⟨μ x, x, hx, rfl⟩
      exact ⟨m, fun _ => ⟨m1, fun y hy => m2 _ ⟨y, hy, rfl⟩⟩⟩
    · exact ⟨0, fun h => absurd h hx⟩
  obtain ⟨ν, n1, n2, n3, n4⟩ := init
  refine wp_loop (fun a' w' => ∃ x, Inv x a' w') (fun a' w' => Classical.choose (hmin a' w')) ⟨x0, h0, hd, E.via ν, rfl, (via_HR H n2 n3).1, via_FR F n1, via_Ext H H (Ext.refl _ _) n2 n3 n4⟩ fun a1 w1 hI => ?_
  obtain ⟨⟨x, ⟨hJ, hd1, E1, rfl, H1, F1, X1⟩, hm1⟩, hm2⟩ := Classical.choose_spec (hmin a1 w1) hI
  refine wpC_sound S C c _ _ _ (round x hJ) E1 a1 _ H1 F1 hd1 fun e E2 a2 t2 h2 hk X2 H2 F2 hd2 => ?_
  cases e with
  | normal =>
    obtain ⟨x', hJ', hμ, ν', c1, c2, c3, c4⟩ := hk
    have hI2 : Inv x' a2 E2.w := ⟨hJ', hd2, E2.via ν', rfl, (via_HR H2 c2 c3).1, via_FR F2 c1, via_Ext H H2 (X1.trans X2) c2 c3 c4⟩
    refine ⟨⟨x', hI2⟩, ?_⟩
    have h1 := (Classical.choose_spec (hmin a2 E2.w) ⟨x', hI2⟩).2 x' hI2
    show Classical.choose (hmin a2 E2.w) < Classical.choose (hmin a1 E1.w)
    omega
  | exit id => exact hQ (.exit id) E2 a2 t2 h2 hk (X1.trans X2) H2 F2 hd2
  | ret => exact hQ .ret E2 a2 t2 h2 hk (X1.trans X2) H2 F2 hd2
  | goto l => exact hQ (.goto l) E2 a2 t2 h2 hk (X1.trans X2) H2 F2 hd2

/-- A loop of at most n rounds, each walked. -/
def Rnd (P : Program) (sh : TypeId → Option (List Leaf)) (ct : Ct) (c : Code) (K : Kt) : Nat → List AV → List ABlk → Prop
  | 0, _, _ => False
  | n + 1, t, h => wpC P sh ct c (kLp (Rnd P sh ct c K n) K) t h
theorem loop_rounds {sh : TypeId → Option (List Leaf)} {ct : Ct} (S : ShOk P sh) (C : CtOk P ct) (n : Nat) {c : Code} {K : Kt} {t : List AV} (hr : Rnd P sh ct c K n t h) : Mean P (.loop c) K t h := by
  intro E a Q H F hd hQ
  refine wp_loop_rounds n ?_
  induction n generalizing t h E a with
  | zero => exact hr.elim
  | succ n ih =>
    rw [rounds_succ]
    refine wpC_sound S C c _ _ _ hr E a _ H F hd fun e E2 a2 t2 h2 hk X2 H2 F2 hd2 => ?_
    cases e with
    | normal => exact ih hk E2 a2 H2 F2 hd2 fun e E3 a3 t3 h3 hk3 X3 H3 F3 hd3 => hQ e E3 a3 t3 h3 hk3 (X2.trans X3) H3 F3 hd3
    | exit id => exact hQ (.exit id) E2 a2 t2 h2 hk X2 H2 F2 hd2
    | ret => exact hQ .ret E2 a2 t2 h2 hk X2 H2 F2 hd2
    | goto l => exact hQ (.goto l) E2 a2 t2 h2 hk X2 H2 F2 hd2
theorem rnd_succ {sh : TypeId → Option (List Leaf)} {ct : Ct} {c : Code} {K : Kt} {n : Nat} {t : List AV} : Rnd P sh ct c K (n + 1) t h = wpC P sh ct c (kLp (Rnd P sh ct c K n) K) t h := rfl
/-- What is known may be forgotten ahead of any code. -/
theorem sub_mean {c : Code} {K : Kt} {t t2 : List AV} {h2 : List ABlk} (hs : Sub h.length t h t2 h2) (hm : Mean P c K t2 h2) : Mean P c K t h := by
  obtain ⟨μ, c1, c2, c3, c4⟩ := hs
  intro E a Q H F hd hQ
  refine hm (E.via μ) a Q (via_HR H c2 c3).1 (via_FR F c1) hd fun e E' a' t' h' hk X H' F' hd' => hQ e E' a' t' h' hk ((via_Ext H H (Ext.refl _ _) c2 c3 c4).trans X) H' F' hd'
end Go.Am

namespace Go.Am
set_option linter.unusedVariables false
variable {P : Program} {E : Env} {h : List ABlk}

mutual
/-- No memory that is only read. -/
def noro : AV → Prop
  | .ro _ n _ _ => n = 0
  | .rptr _ _ _ _ _ => False
  | .agg l => noroL l
  | .tup l => noroL l
  | .fn _ l => noroL l
  | .opt _ v => noro v
  | .ptr _ _ _ _ => True
  | .sl _ _ _ _ _ => True
  | .isl _ _ _ _ _ _ => True
  | .csl _ _ _ _ _ => True
  | .top => True
  | .bool _ => True
  | .int _ _ => True
  | .str _ => True
  | .nilp => True
  | .emp => True
  | .nilf => True
  | .ub => True
  | .val _ => True
  | .mp _ => False
def noroL : List AV → Prop
  | [] => True
  | a :: l => noro a ∧ noroL l
end
theorem noroL_get {l : List AV} (hn : noroL l) {i : Nat} {a : AV} (ha : l[i]? = some a) : noro a := by
  induction l generalizing i with
  | nil => simp at ha
  | cons b l ih =>
    simp only [noroL] at hn
    cases i with
    | zero => simp at ha; subst ha; exact hn.1
    | succ i => exact ih hn.2 (by simpa using ha)
/-- A value that names no memory at all. -/
def flatA (a : AV) : Prop := nref a ∧ noro a
theorem VR.exp {E' : Env} {L s : Nat} (hw : E'.w = E.w) (hσ : ∀ b x, E.σ b = some x → E'.σ (rnN L s b) = some x) {a : AV} {v : Value} (h : VR E a v) (hn : noro a) : VR E' (Am.ren L s a) v := by
  have lst : ∀ (l : List AV) (vs : Array Value), l.length = vs.size → noroL l → (∀ (i : Nat) (a : AV) (v : Value), l[i]? = some a → vs[i]? = some v → noro a → VR E' (Am.ren L s a) v) →
      (renL L s l).length = vs.size ∧ ∀ (i : Nat) (a : AV) (v : Value), (renL L s l)[i]? = some a → vs[i]? = some v → VR E' a v := by
    intro l vs hl hn ih
    refine ⟨by rw [renL_length, hl], fun i a v ha hv => ?_⟩
    rw [renL_get] at ha
    cases hi : l[i]? with
    | none => rw [hi] at ha; cases ha
    | some a0 =>
      rw [hi] at ha
      simp only [Option.map_some, Option.some.injEq] at ha
      subst ha
      exact ih i a0 v hi hv (noroL_get hn hi)
  induction h with
  | top v => simp only [Am.ren]; exact .top v
  | bool b => simp only [Am.ren]; exact .bool b
  | int k n => simp only [Am.ren]; exact .int k n
  | str s => simp only [Am.ren]; exact .str s
  | nilp => simp only [Am.ren]; exact .nilp
  | ptr b es i j k o h => simp only [Am.ren]; exact .ptr _ es i j k o (hσ _ _ h)
  | rptr es m i j k o c u hp' hu h1 hc hrf ih => simp only [noro] at hn
  | sl b es i m nl a cap hm hcm hnl hz hc =>
    simp only [Am.ren]
    refine .sl _ es i m nl a cap hm hcm hnl hz fun hp' => ?_
    obtain ⟨k, o, cs, e, g1, g2, g3, g4⟩ := hc hp'
    exact ⟨k, o, cs, e, hσ _ _ g1, g2, by rw [hw]; exact g3, g4⟩
  | isl b es i j z m cap k o hm hcm h => simp only [Am.ren]; exact .isl _ es i j z m cap k o hm hcm (hσ _ _ h)
  | csl b es i m c a hm hcm hc => simp only [Am.ren]; exact .csl _ es i m c a hm hcm fun hp => by obtain ⟨k, o, cs, e, h1, h2, h3, h4⟩ := hc hp; exact ⟨k, o, cs, e, hσ _ _ h1, h2, by rw [hw]; exact h3, h4⟩
  | ro es m nl c a cap hm hcm hnl hz u ha h1 hc hrf ih =>
    simp only [noro] at hn; subst hn
    simp only [Am.ren]; exact .ro es 0 nl c a cap hm hcm hnl hz u (fun h => by omega) (fun x y hx => by omega) (fun x y hx => by omega) fun x y hx => by omega
  | emp a => simp only [Am.ren]; exact .emp a
  | agg l vs hl h1 h ih => simp only [Am.ren]; simp only [noro] at hn; obtain ⟨q1, q2⟩ := lst l vs hl hn ih; exact .agg _ vs q1 h1 q2
  | tup l vs hl h ih => simp only [Am.ren]; simp only [noro] at hn; obtain ⟨q1, q2⟩ := lst l vs hl hn ih; exact .tup _ vs q1 q2
  | fn f l vs hl h ih => simp only [Am.ren]; simp only [noro] at hn; obtain ⟨q1, q2⟩ := lst l vs hl hn ih; exact .fn f _ vs q1 q2
  | nilf => simp only [Am.ren]; exact .nilf
  | ub b => simp only [Am.ren]; exact .ub b
  | val v h1 => simp only [Am.ren]; exact .val v h1
  | mp m r clock es hp hb he => simp only [noro] at hn
  | opt_t a v h ih => simp only [Am.ren]; simp only [noro] at hn; exact .opt_t _ v (ih hn)
  | opt_f a => simp only [Am.ren]; exact .opt_f _
mutual
theorem ren_nref {L s : Nat} : ∀ a : AV, nref a → ren L s a = a
  | .top, _ => by simp only [ren]
  | .bool _, _ => by simp only [ren]
  | .int _ _, _ => by simp only [ren]
  | .str _, _ => by simp only [ren]
  | .nilp, _ => by simp only [ren]
  | .ptr _ _ _ _, h => by simp only [nref] at h
  | .rptr _ _ _ _ _, _ => by simp only [ren]
  | .sl _ _ _ _ _, h => by simp only [nref] at h
  | .isl _ _ _ _ _ _, h => by simp only [nref] at h
  | .csl _ _ _ _ _, h => by simp only [nref] at h
  | .ro _ _ _ _, _ => by simp only [ren]
  | .emp, _ => by simp only [ren]
  | .agg l, h => by simp only [ren]; rw [renL_nref l (by simpa only [nref] using h)]
  | .tup l, h => by simp only [ren]; rw [renL_nref l (by simpa only [nref] using h)]
  | .fn _ l, h => by simp only [ren]; rw [renL_nref l (by simpa only [nref] using h)]
  | .nilf, _ => by simp only [ren]
  | .ub, _ => by simp only [ren]
  | .val _, _ => by simp only [ren]
  | .mp _, _ => by simp only [ren]
  | .opt _ v, h => by simp only [ren]; rw [ren_nref v (by simpa only [nref] using h)]
theorem renL_nref {L s : Nat} : ∀ l : List AV, nrefL l → renL L s l = l
  | [], _ => by simp only [renL]
  | a :: l, h => by simp only [nrefL] at h; simp only [renL]; rw [ren_nref a h.1, renL_nref l h.2]
end
theorem VR.flat {E' : Env} (hw : E'.w = E.w) {a : AV} {v : Value} (h : VR E a v) (hf : flatA a) : VR E' a v := by
  have h1 := VR.exp (E := ⟨E.w, fun _ => none, E.prot⟩) (E' := E') (L := 0) (s := 0) hw (fun b x hb => by cases hb) (VR.view (E := E) (E' := ⟨E.w, fun _ => none, E.prot⟩) (fun k hk => ⟨hk, rfl⟩) h hf.1) hf.2
  rwa [ren_nref a hf.1] at h1
def flatB : ABlk → Prop
  | .dead => True
  | .lit _ l => nrefL l ∧ noroL l
  | .row _ es n c => ∀ x y, x < n → y < es → flatA (c x y)
def flatH : List ABlk → Prop
  | [] => True
  | x :: l => flatB x ∧ flatH l
theorem flatH_get {l : List ABlk} (hn : flatH l) {i : Nat} {a : ABlk} (ha : l[i]? = some a) : flatB a := by
  induction l generalizing i with
  | nil => simp at ha
  | cons b l ih =>
    simp only [flatH] at hn
    cases i with
    | zero => simp at ha; subst ha; exact hn.1
    | succ i => exact ih hn.2 (by simpa using ha)

/-- A contract that sees its arguments only by their content; what it returns may be memory of its own, numbered from 0 on. -/
def freshR (o : Prop) (h : List ABlk) : AR → AR
  | .pure ob v => .pure (o ∧ ob) v
  | .heap ob v ns => .heap (o ∧ ob) (ren 0 h.length v) (h ++ ns)
  | .fail => .fail
def freshC (body : List AV → AR) (l : List AV) (h : List ABlk) : AR := freshR (roObL h l) h (body (roL h l))
def SubV (v : AV) (ns : List ABlk) (v' : AV) (hf : List ABlk) : Prop := ∃ ν : Mu, Cv ν v v' ∧ CvH ν hf ns ν ∧ injM (liveM ν ns) = true

theorem fresh_fn {f : FuncId} {fn : Func} {code : Code} {sh : TypeId → Option (List Leaf)} {ct : Ct} (S : ShOk P sh) (C : CtOk P ct) (body : List AV → AR) {rs : List ResultVar}
    (hf : P.funcs[f]? = some fn) (hn : (fn.name == "runtime.NumGoroutine") = false) (hb : fn.body = some code) (hrs : fn.results.toList = rs)
    (hwp : ∀ (l : List AV) (ob : Prop) (v : AV), body l = .pure ob v → ob → ∃ l' t, (∀ E vs, FR E l vs → FR E l' vs) ∧ (conc v).isSome = true ∧ t = l' ++ List.replicate (fn.ntmps - l'.length) .top ∧
      wpC P sh ct code (kRet P rs fun v' _ => v' = v) t [])
    (hwh : ∀ (l : List AV) (ob : Prop) (v : AV) (ns : List ABlk), body l = .heap ob v ns → ob → ∃ l' t, (∀ E vs, FR E l vs → FR E l' vs) ∧ noro v ∧ flatH ns ∧ t = l' ++ List.replicate (fn.ntmps - l'.length) .top ∧
      wpC P sh ct code (kRet P rs (SubV v ns)) t []) : FnOk P f (freshC body) := by
  subst hrs
  have view : ∀ (E : Env) (h : List ABlk) (l : List AV) (vs : Array Value), HR E h → FR E l vs → roObL h l → FR E.view (roL h l) vs := by
    intro E h l vs H F ho
    refine ⟨by rw [roL_length]; exact F.1, fun i a v ha hv => ?_⟩
    rw [roL_get] at ha
    cases hi : l[i]? with
    | none => rw [hi] at ha; cases ha
    | some a0 =>
      rw [hi] at ha
      simp only [Option.map_some, Option.some.injEq] at ha
      subst ha
      exact ro_VR H (F.2 i a0 v hi hv) (roObL_get ho hi)
  have tops : ∀ {E : Env} {l' : List AV} {vs : Array Value}, FR E l' vs → FR E (l' ++ List.replicate (fn.ntmps - l'.length) .top) (vs ++ Array.replicate (fn.ntmps - vs.size) undef) := by
    intro E l' vs F1
    refine FR_append F1 ⟨by simp [F1.1], fun i a v ha hv => ?_⟩
    rw [List.getElem?_replicate] at ha
    split at ha
    · injection ha with ha; subst ha; exact .top _
    · cases ha
  have main : ∀ (E : Env) (h : List ABlk) (l : List AV) (vs : Array Value) (ob : Prop) (v : AV), HR E h → FR E l vs → freshC body l h = .pure ob v → ob → Calls P f vs E.w (RetP E.w v) := by
    intro E h l vs ob v H F hr hob
    unfold freshC at hr
    cases hbd : body (roL h l) with
    | fail => rw [hbd] at hr; cases hr
    | heap a b c => rw [hbd] at hr; cases hr
    | pure ob' v' =>
      rw [hbd] at hr
      simp only [freshR, AR.pure.injEq] at hr
      obtain ⟨rfl, rfl⟩ := hr
      obtain ⟨l', t, g1, g2, rfl, g3⟩ := hwp _ _ _ hbd hob.2
      have F2 := tops (g1 _ _ (view E h l vs H F hob.1))
      refine calls_of_wp hf hb ?_
      refine wpC_sound S C code _ _ _ g3 E.view _ _ (view_HR E) F2 rfl fun e E' a' t' h' hk X H' F' hd => ?_
      have done : retK P fn.results.toList (fun w _ => w = v') t' h' → a'.defers = [] ∧ ∃ u, (results fn a'.tmps).run P E'.w = .ok u E'.w ∧ RetP E.w v' (.returned u) E'.w := by
        intro hk
        obtain ⟨u, v', q1, rfl, q3⟩ := ret_sound (P := P) H' F' hk
        refine ⟨hd, u, q1, u, rfl, ?_, ⟨X.os, X.tape, X.output, X.size, fun k hk => X.frame k hk ?_⟩⟩
        · cases hc : conc v' with
          | none => rw [hc] at g2; cases g2
          | some u0 => rw [conc_VR hc q3]
        · rintro ⟨b, x, o, hb, _⟩; simp at hb
      cases e with
      | normal => exact done hk
      | ret => exact done hk
      | exit id => exact hk.elim
      | goto l => exact hk.elim
  refine ⟨⟨fn, hf, hn, by rw [hb]; rfl⟩, fun E h l vs ob v h' H F hr hob => ?_, main⟩
  cases hc : freshC body l h with
  | fail => rw [hc] at hr; cases hr
  | pure ob' v' =>
    rw [hc] at hr
    simp only [AR.out, Option.some.injEq, Prod.mk.injEq] at hr
    obtain ⟨rfl, rfl, rfl⟩ := hr
    refine (main E h l vs _ _ H F hc hob).mono ?_
    rintro e w' ⟨u, rfl, hu, hS⟩
    obtain ⟨H', X'⟩ := HR_same H hS
    exact ⟨u, _, rfl, rfl, X', H', conc_mk hu⟩
  | heap ob' v' h2 =>
    rw [hc] at hr
    simp only [AR.out, Option.some.injEq, Prod.mk.injEq] at hr
    obtain ⟨rfl, rfl, rfl⟩ := hr
    unfold freshC at hc
    cases hbd : body (roL h l) with
    | fail => rw [hbd] at hc; cases hc
    | pure a b => rw [hbd] at hc; cases hc
    | heap ob2 v2 ns =>
      rw [hbd] at hc
      simp only [freshR, AR.heap.injEq] at hc
      obtain ⟨rfl, rfl, rfl⟩ := hc
      obtain ⟨l', t, g1, g2, g2', rfl, g3⟩ := hwh _ _ _ _ hbd hob.2
      have F2 := tops (g1 _ _ (view E h l vs H F hob.1))
      refine calls_of_wp hf hb ?_
      refine wpC_sound S C code _ _ _ g3 E.view _ _ (view_HR E) F2 rfl fun e E1 a' t' h1 hk X1 H1 F' hd => ?_
      have done : retK P fn.results.toList (SubV v2 ns) t' h1 → a'.defers = [] ∧ ∃ u, (results fn a'.tmps).run P E1.w = .ok u E1.w ∧ Ret E h (h ++ ns) (ren 0 h.length v2) (.returned u) E1.w := by
        intro hk
        obtain ⟨u, v', q1, ⟨ν, c1, c2, c3⟩, q3⟩ := ret_sound (P := P) H1 F' hk
        refine ⟨hd, u, q1, ?_⟩
        -- the callee's world, its new blocks numbered from 0 on
        have H3 : HR (E1.via ν) ns := (via_HR H1 c2 c3).1
        have hown3 : ∀ k, Own (E1.via ν) ns k → E.w.heap.size ≤ k := fun k hk => by
          rcases X1.own k ((via_HR H1 c2 c3).2 k hk) with h' | h'
          · obtain ⟨b, x, o, hb, _⟩ := h'; simp at hb
          · exact h'
        have hV : VR (E1.via ν) v2 u := Cv_sound q3 _ c1
        have hold : ∀ k, k < E.w.heap.size → E1.w.heap[k]? = E.w.heap[k]? := fun k hk => X1.frame k hk (by rintro ⟨b, x, o, hb, _⟩; simp at hb)
        generalize hE3 : E1.via ν = E3 at H3 hown3 hV
        have hw3 : E3.w = E1.w := by rw [← hE3]; rfl
        let σ2 : Nat → Option (Nat × Nat) := fun b => if b < h.length then E.σ b else E3.σ (b - h.length)
        let E2 : Env := ⟨E1.w, σ2, E.prot⟩
        have s1 : ∀ b, b < h.length → E2.σ b = E.σ b := fun b hb => if_pos hb
        have s2 : ∀ b, ¬ b < h.length → E2.σ b = E3.σ (b - h.length) := fun b hb => if_neg hb
        have hlt : ∀ b x, E.σ b = some x → b < h.length := by
          intro b x hb
          rcases Nat.lt_or_ge b h.length with h' | h'
          · exact h'
          · rw [H.fresh b h'] at hb; cases hb
        have K2 : Keep E E2 := ⟨fun b x hb => by rw [s1 b (hlt b x hb)]; exact hb, fun _ h => h, fun k hk => hold k (H.prot k hk).1, fun k cs e hk => ⟨cs, (hold k (lt_of_some hk)).trans hk, rfl⟩⟩
        have hget : ∀ {b : Nat} {x : ABlk}, (h ++ ns)[b]? = some x → (b < h.length ∧ h[b]? = some x) ∨ (¬ b < h.length ∧ ns[b - h.length]? = some x) := by
          intro b x hb
          by_cases hbl : b < h.length
          · rw [List.getElem?_append_left hbl] at hb; exact .inl ⟨hbl, hb⟩
          · rw [List.getElem?_append_right (by omega)] at hb; exact .inr ⟨hbl, hb⟩
        have hown : ∀ k, Own E2 (h ++ ns) k → Own E h k ∨ E.w.heap.size ≤ k := by
          rintro k ⟨b, x, o, q1, q2, q3⟩
          rcases hget q1 with ⟨hb, q1⟩ | ⟨hb, q1⟩
          · rw [s1 b hb] at q3; exact .inl ⟨b, x, o, q1, q2, q3⟩
          · rw [s2 b hb] at q3; exact .inr (hown3 k ⟨_, x, o, q1, q2, q3⟩)
        refine ⟨u, E2, rfl, rfl, ⟨X1.os, X1.tape, X1.output, K2.σ, fun _ h => h, X1.size, K2.kind, fun k hk _ => hold k hk, hown, by simp, s1, fun _ h => .inl h⟩, ⟨fun b x hb => ?_, fun b b' x x' k o o' h1 h2 h3 h4 h5 h6 => ?_, fun k hk => ?_, fun b hb => ?_⟩, ?_⟩
        · by_cases hd : x = .dead
          · subst hd; trivial
          rcases hget hb with ⟨hbl, hb'⟩ | ⟨hbl, hb'⟩
          · exact (H.blk b x hb').mono K2 (s1 b hbl) fun k o hk => hold k ((H.blk b x hb').lt hd hk)
          · have hB := H3.blk _ x hb'
            have hF := flatH_get g2' hb'
            cases x with
            | dead => trivial
            | lit e l =>
              obtain ⟨k, o, cs, r1, r2, r3, r4⟩ := hB
              exact ⟨k, o, cs, (s2 b hbl).trans r1, by rw [← hw3]; exact r2, r3, fun j a hj => by obtain ⟨v, y1, y2, y3⟩ := r4 j a hj; exact ⟨v, y1, y2, VR.flat (E := E3) (E' := E2) hw3.symm y3 ⟨nrefL_get hF.1 hj, noroL_get hF.2 hj⟩⟩⟩
            | row e es n c =>
              unfold BR at hB ⊢
              rw [s2 b hbl]
              cases hs : E3.σ (b - h.length) with
              | none => rw [hs] at hB; exact hB
              | some p =>
                rw [hs] at hB
                obtain ⟨cs, r1, r2, r3⟩ := hB
                exact ⟨cs, by rw [← hw3]; exact r1, r2, fun x y hx hy => by obtain ⟨v, y1, y2, y3⟩ := r3 x y hx hy; exact ⟨v, y1, y2, VR.flat (E := E3) (E' := E2) hw3.symm y3 (hF x y hx hy)⟩⟩
        · rcases hget h1 with ⟨b1, m1⟩ | ⟨b1, m1⟩ <;> rcases hget h3 with ⟨b3, m3⟩ | ⟨b3, m3⟩
          · rw [s1 b b1] at h5; rw [s1 b' b3] at h6; exact H.inj b b' x x' k o o' m1 h2 m3 h4 h5 h6
          · rw [s1 b b1] at h5; rw [s2 b' b3] at h6
            have := (H.blk b x m1).lt h2 h5
            have := hown3 k ⟨_, x', o', m3, h4, h6⟩
            omega
          · rw [s2 b b1] at h5; rw [s1 b' b3] at h6
            have := (H.blk b' x' m3).lt h4 h6
            have := hown3 k ⟨_, x, o, m1, h2, h5⟩
            omega
          · rw [s2 b b1] at h5; rw [s2 b' b3] at h6
            have := H3.inj _ _ x x' k o o' m1 h2 m3 h4 h5 h6
            omega
        · obtain ⟨p1, p2⟩ := H.prot k hk
          refine ⟨Nat.lt_of_lt_of_le p1 X1.size, fun ho => ?_⟩
          rcases hown k ho with h' | h'
          · exact p2 h'
          · omega
        · have hb1 : ¬ b < h.length := by simp at hb; omega
          rw [s2 b hb1]
          exact H3.fresh _ (by simp at hb; omega)
        · refine VR.exp (E := E3) (E' := E2) hw3.symm (fun b x hb => ?_) hV g2
          have : rnN 0 h.length b = h.length + b := by simp [rnN]
          rw [this, s2 _ (by omega), Nat.add_sub_cancel_left]; exact hb
      cases e with
      | normal => exact done hk
      | ret => exact done hk
      | exit id => exact hk.elim
      | goto l => exact hk.elim
end Go.Am
