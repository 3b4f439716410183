/-
  An abstract machine for the walks of this seat, part 1: abstract values, abstract blocks, and what they say of a world.
  'AV' stands for a Go value whose memory is told beside it: own blocks by number, memory that is only read by its content.
-/
import Derived.WalkKit
import Derived.OrdersHeld
namespace Go.Am
set_option linter.unusedVariables false

inductive AV where
  | top
  | bool (b : Bool)
  | int (k : IntKind) (n : Int)
  | str (s : ByteArray)
  | nilp
  | ptr (b es i j : Nat)
  | rptr (es n i j : Nat) (c : Nat → Nat → AV)
  | sl (b es i n : Nat) (nl : Bool)
  | isl (b es i j z n : Nat)
  | csl (b es i n c : Nat)
  | ro (es n : Nat) (nl : Bool) (c : Nat → Nat → AV)
  | emp
  | agg (l : List AV)
  | tup (l : List AV)
  | fn (f : FuncId) (cap : List AV)
  | nilf
  | opt (g : Bool) (v : AV)
  | ub
  | val (v : Value)
  deriving Inhabited

/-- An own block: written out cell by cell; a row of elements; given up. -/
inductive ABlk where
  | lit (e : TypeId) (l : List AV)
  | row (e : TypeId) (es n : Nat) (c : Nat → Nat → AV)
  | dead
  deriving Inhabited

structure Env where
  w : World
  σ : Nat → Option (Nat × Nat)
  prot : Nat → Prop


mutual
def nref : AV → Prop
  | .ptr _ _ _ _ => False
  | .sl _ _ _ _ _ => False
  | .isl _ _ _ _ _ _ => False
  | .csl _ _ _ _ _ => False
  | .rptr _ _ _ _ _ => True
  | .ro _ _ _ _ => True
  | .agg l => nrefL l
  | .tup l => nrefL l
  | .fn _ l => nrefL l
  | .opt _ v => nref v
  | .top => True
  | .bool _ => True
  | .int _ _ => True
  | .str _ => True
  | .nilp => True
  | .emp => True
  | .nilf => True
  | .ub => True
  | .val _ => True
def nrefL : List AV → Prop
  | [] => True
  | a :: l => nref a ∧ nrefL l
end
inductive VR (E : Env) : AV → Value → Prop
  | top (v : Value) : VR E .top v
  | bool (b : Bool) : VR E (.bool b) (.bool b)
  | int (k : IntKind) (n : Int) : VR E (.int k n) (.int k n)
  | str (s : ByteArray) : VR E (.str s) (.string s)
  | nilp : VR E .nilp (.pointer none)
  | ptr (b es i j k o : Nat) (h : E.σ b = some (k, o)) : VR E (.ptr b es i j) (.pointer (some ⟨k, o + i * es + j, none⟩))
  | rptr (es n i j k o : Nat) (c : Nat → Nat → AV) (u : Nat → Nat → Value) (hp : E.prot k)
      (hu : ∀ x y, x < n → y < es → E.w.cell? ⟨k, o + x * es + y, none⟩ = some (u x y)) (h1 : ∀ x y, x < n → y < es → (u x y).oneCell' = true) (hc : ∀ x y, x < n → y < es → VR E (c x y) (u x y)) (hrf : ∀ x y, x < n → y < es → nref (c x y)) :
      VR E (.rptr es n i j c) (.pointer (some ⟨k, o + i * es + j, none⟩))
  | sl (b es i n : Nat) (nl : Bool) (a : Option Addr) (cap : Nat) (hn : n ≤ cap) (hcm : cap ≤ maxLen) (hnl : nl = true → a = none) (hz : a = none → cap = 0)
      (hc : 0 < cap → ∃ k o cs e, E.σ b = some (k, o) ∧ a = some ⟨k, o + i * es, none⟩ ∧ E.w.heap[k]? = some (.cells cs e (0, 0)) ∧ o + i * es + cap * es ≤ cs.size) :
      VR E (.sl b es i n nl) (.slice a n cap)
  | isl (b es i j z n cap k o : Nat) (hn : n ≤ cap) (hcm : cap ≤ maxLen) (h : E.σ b = some (k, o)) : VR E (.isl b es i j z n) (.slice (some ⟨k, o + i * es + j, none⟩) n cap)
  | csl (b es i n c : Nat) (a : Option Addr) (hn : n ≤ c) (hcm : c ≤ maxLen) (hc : 0 < c → ∃ k o cs e, E.σ b = some (k, o) ∧ a = some ⟨k, o + i * es, none⟩ ∧ E.w.heap[k]? = some (.cells cs e (0, 0)) ∧ o + i * es + c * es ≤ cs.size) : VR E (.csl b es i n c) (.slice a n c)
  | ro (es n : Nat) (nl : Bool) (c : Nat → Nat → AV) (a : Option Addr) (cap : Nat) (hn : n ≤ cap) (hcm : cap ≤ maxLen) (hnl : nl = true → a = none) (hz : a = none → cap = 0)
      (u : Nat → Nat → Value)
      (ha : 0 < n → ∃ k o, a = some ⟨k, o, none⟩ ∧ E.prot k ∧ (∀ x y, x < n → y < es → E.w.cell? ⟨k, o + x * es + y, none⟩ = some (u x y)))
      (h1 : ∀ x y, x < n → y < es → (u x y).oneCell' = true) (hc : ∀ x y, x < n → y < es → VR E (c x y) (u x y)) (hrf : ∀ x y, x < n → y < es → nref (c x y)) :
      VR E (.ro es n nl c) (.slice a n cap)
  | emp (a : Option Addr) : VR E .emp (.slice a 0 0)
  | agg (l : List AV) (vs : Array Value) (hl : l.length = vs.size) (h1 : ∀ (i : Nat) (v : Value), vs[i]? = some v → v.oneCell' = true) (h : ∀ (i : Nat) (a : AV) (v : Value), l[i]? = some a → vs[i]? = some v → VR E a v) : VR E (.agg l) (.agg vs)
  | tup (l : List AV) (vs : Array Value) (hl : l.length = vs.size) (h : ∀ (i : Nat) (a : AV) (v : Value), l[i]? = some a → vs[i]? = some v → VR E a v) : VR E (.tup l) (.tuple vs)
  | fn (f : FuncId) (l : List AV) (vs : Array Value) (hl : l.length = vs.size) (h : ∀ (i : Nat) (a : AV) (v : Value), l[i]? = some a → vs[i]? = some v → VR E a v) : VR E (.fn f l) (.func (.func f) #[] vs)
  | nilf : VR E .nilf .nilFunc
  | opt_t (a : AV) (v : Value) (h : VR E a v) : VR E (.opt true a) v
  | opt_f (a : AV) : VR E (.opt false a) undef
  | ub (b : Bool) : VR E .ub (.bool b)
  | val (v : Value) (h1 : v.oneCell' = true) : VR E (.val v) v

/-- What one own block says of the world. -/
def BR (E : Env) (b : Nat) : ABlk → Prop
  | .dead => True
  | .lit e l => ∃ k o cs, E.σ b = some (k, o) ∧ E.w.heap[k]? = some (.cells cs e (0, 0)) ∧ o + l.length ≤ cs.size ∧ ∀ (j : Nat) (a : AV), l[j]? = some a → ∃ v, cs[o + j]? = some v ∧ v.oneCell' = true ∧ VR E a v
  | .row e es n c => match E.σ b with
    | none => n = 0
    | some (k, o) => ∃ cs, E.w.heap[k]? = some (.cells cs e (0, 0)) ∧ o + n * es ≤ cs.size ∧ ∀ x y, x < n → y < es → ∃ v, cs[o + x * es + y]? = some v ∧ v.oneCell' = true ∧ VR E (c x y) v

def Own (E : Env) (h : List ABlk) (k : Nat) : Prop := ∃ b blk o, h[b]? = some blk ∧ blk ≠ .dead ∧ E.σ b = some (k, o)

structure HR (E : Env) (h : List ABlk) : Prop where
  blk : ∀ (b : Nat) (x : ABlk), h[b]? = some x → BR E b x
  inj : ∀ (b b' : Nat) (x x' : ABlk) (k o o' : Nat), h[b]? = some x → x ≠ .dead → h[b']? = some x' → x' ≠ .dead → E.σ b = some (k, o) → E.σ b' = some (k, o') → b = b'
  prot : ∀ k, E.prot k → k < E.w.heap.size ∧ ¬ Own E h k
  fresh : ∀ b, h.length ≤ b → E.σ b = none

structure Ext (E : Env) (h : List ABlk) (E' : Env) (h' : List ABlk) : Prop where
  os : E'.w.os = E.w.os
  tape : E'.w.tape = E.w.tape
  output : E'.w.output = E.w.output
  σ : ∀ (b : Nat) (x : Nat × Nat), E.σ b = some x → E'.σ b = some x
  prot : ∀ k, E.prot k → E'.prot k
  size : E.w.heap.size ≤ E'.w.heap.size
  kind : ∀ (k : Nat) cs e, E.w.heap[k]? = some (.cells cs e (0, 0)) → ∃ cs', E'.w.heap[k]? = some (.cells cs' e (0, 0)) ∧ cs'.size = cs.size
  frame : ∀ k, k < E.w.heap.size → ¬ Own E h k → E'.w.heap[k]? = E.w.heap[k]?
  own : ∀ k, Own E' h' k → Own E h k ∨ E.w.heap.size ≤ k
  len : h.length ≤ h'.length
  old : ∀ b, b < h.length → E'.σ b = E.σ b
  pro : ∀ k, E'.prot k → E.prot k ∨ Own E h k ∨ E.w.heap.size ≤ k

theorem Ext.refl (E : Env) (h : List ABlk) : Ext E h E h :=
  ⟨rfl, rfl, rfl, fun _ _ h => h, fun _ h => h, Nat.le_refl _, fun k cs e h => ⟨cs, h, rfl⟩, fun _ _ _ => rfl, fun _ h => .inl h, Nat.le_refl _, fun _ _ => rfl, fun _ h => .inl h⟩

theorem Ext.trans {E E1 E2 : Env} {h h1 h2 : List ABlk} (a : Ext E h E1 h1) (b : Ext E1 h1 E2 h2) : Ext E h E2 h2 where
  os := b.os.trans a.os
  tape := b.tape.trans a.tape
  output := b.output.trans a.output
  σ := fun x y h => b.σ _ _ (a.σ _ _ h)
  prot := fun k h => b.prot _ (a.prot _ h)
  size := Nat.le_trans a.size b.size
  kind := fun k cs e h => by
    obtain ⟨c1, h1, e1⟩ := a.kind k cs e h
    obtain ⟨c2, h2, e2⟩ := b.kind k c1 e h1
    exact ⟨c2, h2, e2.trans e1⟩
  frame := fun k hk hn => by
    rw [b.frame k (Nat.lt_of_lt_of_le hk a.size) (fun ho => ?_), a.frame k hk hn]
    rcases a.own k ho with h | h
    · exact hn h
    · omega
  own := fun k h => by
    rcases b.own k h with h | h
    · exact a.own k h
    · exact .inr (Nat.le_trans a.size h)
  len := Nat.le_trans a.len b.len
  old := fun i hi => (b.old i (Nat.lt_of_lt_of_le hi a.len)).trans (a.old i hi)
  pro := fun k h => by
    rcases b.pro k h with h | h | h
    · exact a.pro k h
    · rcases a.own k h with h | h
      · exact .inr (.inl h)
      · exact .inr (.inr h)
    · exact .inr (.inr (Nat.le_trans a.size h))

/-- What is asked of a step so that values go on reading as they did. -/
structure Keep (E E' : Env) : Prop where
  σ : ∀ (b : Nat) (x : Nat × Nat), E.σ b = some x → E'.σ b = some x
  prot : ∀ k, E.prot k → E'.prot k
  same : ∀ k, E.prot k → E'.w.heap[k]? = E.w.heap[k]?
  kind : ∀ (k : Nat) cs e, E.w.heap[k]? = some (.cells cs e (0, 0)) → ∃ cs', E'.w.heap[k]? = some (.cells cs' e (0, 0)) ∧ cs'.size = cs.size

theorem Ext.keep {E E' : Env} {h h' : List ABlk} (x : Ext E h E' h') (hh : HR E h) : Keep E E' :=
  ⟨x.σ, x.prot, fun k hk => x.frame k (hh.prot k hk).1 (hh.prot k hk).2, x.kind⟩

theorem cell?_same {w w' : World} {a : Addr} (h : w'.heap[a.block]? = w.heap[a.block]?) : w'.cell? a = w.cell? a := by
  simp only [World.cell?, h]

theorem VR.mono {E E' : Env} (K : Keep E E') {a : AV} {v : Value} (h : VR E a v) : VR E' a v := by
  induction h with
  | top v => exact .top v
  | bool b => exact .bool b
  | int k n => exact .int k n
  | str s => exact .str s
  | nilp => exact .nilp
  | ptr b es i j k o h => exact .ptr b es i j k o (K.σ _ _ h)
  | rptr es n i j k o c u hp hu h1 hc hrf ih =>
    exact .rptr es n i j k o c u (K.prot _ hp) (fun x y hx hy => (cell?_same (K.same k hp)).trans (hu x y hx hy)) h1 ih hrf
  | sl b es i n nl a cap hn hcm hnl hz hc =>
    refine .sl b es i n nl a cap hn hcm hnl hz (fun hp => ?_)
    obtain ⟨k, o, cs, e, h1, h2, h3, h4⟩ := hc hp
    obtain ⟨cs', h5, h6⟩ := K.kind _ _ _ h3
    exact ⟨k, o, cs', e, K.σ _ _ h1, h2, h5, by rw [h6]; exact h4⟩
  | isl b es i j z n cap k o hn hcm h => exact .isl b es i j z n cap k o hn hcm (K.σ _ _ h)
  | csl b es i n c a hn hcm hc => exact .csl b es i n c a hn hcm fun hp => by obtain ⟨k, o, cs, e, h1, h2, h3, h4⟩ := hc hp; obtain ⟨cs', h5, h6⟩ := K.kind _ _ _ h3; exact ⟨k, o, cs', e, K.σ _ _ h1, h2, h5, by rw [h6]; exact h4⟩
  | ro es n nl c a cap hn hcm hnl hz u ha h1 hc hrf ih =>
    refine .ro es n nl c a cap hn hcm hnl hz u (fun hp => ?_) h1 ih hrf
    obtain ⟨k, o, h1, h2, h3⟩ := ha hp
    exact ⟨k, o, h1, K.prot _ h2, fun x y hx hy => (cell?_same (K.same k h2)).trans (h3 x y hx hy)⟩
  | emp a => exact .emp a
  | agg l vs hl h1 h ih => exact .agg l vs hl h1 ih
  | tup l vs hl h ih => exact .tup l vs hl ih
  | fn f l vs hl h ih => exact .fn f l vs hl ih
  | nilf => exact .nilf
  | opt_t a v h ih => exact .opt_t a v ih
  | opt_f a => exact .opt_f a
  | ub b => exact .ub b
  | val v h1 => exact .val v h1

/-! ### A new block -/
def upd (σ : Nat → Option (Nat × Nat)) (b : Nat) (x : Option (Nat × Nat)) : Nat → Option (Nat × Nat) := fun i => if i = b then x else σ i

theorem upd_same (σ : Nat → Option (Nat × Nat)) (b : Nat) (x : Option (Nat × Nat)) : upd σ b x b = x := by simp [upd]
theorem upd_ne {σ : Nat → Option (Nat × Nat)} {b i : Nat} {x : Option (Nat × Nat)} (h : i ≠ b) : upd σ b x i = σ i := by simp [upd, h]

theorem heap_alloc_new (w : World) (o : Obj) : (w.alloc o).heap[w.heap.size]? = some o := by
  show (w.heap.push o)[w.heap.size]? = some o
  simp
theorem heap_alloc_old (w : World) (o : Obj) {k : Nat} (h : k < w.heap.size) : (w.alloc o).heap[k]? = w.heap[k]? := by
  show (w.heap.push o)[k]? = w.heap[k]?
  rw [Array.getElem?_push, if_neg (by omega)]
theorem lt_of_some {w : World} {k : Nat} {o : Obj} (h : w.heap[k]? = some o) : k < w.heap.size := by
  rcases Nat.lt_or_ge k w.heap.size with h' | h'
  · exact h'
  · rw [Array.getElem?_eq_none h'] at h; cases h

/-- The environment behind a new block that the abstract heap knows under the next number. -/
def Env.push (E : Env) (h : List ABlk) (o : Obj) : Env := { E with w := E.w.alloc o, σ := upd E.σ h.length (some (E.w.heap.size, 0)) }

theorem BR.lt {E : Env} {b : Nat} {x : ABlk} {k o : Nat} (hx : x ≠ .dead) (h : BR E b x) (hs : E.σ b = some (k, o)) : k < E.w.heap.size := by
  cases x with
  | dead => exact absurd rfl hx
  | lit e l =>
    obtain ⟨k', o', cs, h1, h2, _⟩ := h
    rw [hs] at h1; cases h1
    exact lt_of_some h2
  | row e es n c =>
    simp only [BR, hs] at h
    obtain ⟨cs, h2, _⟩ := h
    exact lt_of_some h2

theorem HR.own_lt {E : Env} {h : List ABlk} (H : HR E h) {k : Nat} (ho : Own E h k) : k < E.w.heap.size := by
  obtain ⟨b, x, o, h1, h2, h3⟩ := ho
  exact (H.blk b x h1).lt h2 h3

/-- A block goes on saying what it said, where its concrete block is as it was. -/
theorem BR.mono {E E' : Env} (K : Keep E E') {b : Nat} {x : ABlk} (h : BR E b x) (hσ : E'.σ b = E.σ b) (hk : ∀ k o, E.σ b = some (k, o) → E'.w.heap[k]? = E.w.heap[k]?) : BR E' b x := by
  cases x with
  | dead => trivial
  | lit e l =>
    obtain ⟨k, o, cs, h1, h2, h3, h4⟩ := h
    exact ⟨k, o, cs, K.σ _ _ h1, (hk k o h1).trans h2, h3, fun j a hj => by obtain ⟨v, q1, q3, q2⟩ := h4 j a hj; exact ⟨v, q1, q3, q2.mono K⟩⟩
  | row e es n c =>
    unfold BR at h ⊢
    rw [hσ]
    cases hs : E.σ b with
    | none => rw [hs] at h; exact h
    | some p =>
      rw [hs] at h
      obtain ⟨cs, h2, h3, h4⟩ := h
      exact ⟨cs, (hk p.1 p.2 hs).trans h2, h3, fun x y hx hy => by obtain ⟨v, q1, q3, q2⟩ := h4 x y hx hy; exact ⟨v, q1, q3, q2.mono K⟩⟩

theorem keep_push {E : Env} {h : List ABlk} (H : HR E h) (o : Obj) : Keep E (E.push h o) where
  σ := fun b x hb => by
    rw [Env.push]; simp only
    rw [upd_ne, hb]
    rintro rfl
    rw [H.fresh _ (Nat.le_refl _)] at hb
    cases hb
  prot := fun k hk => hk
  same := fun k hk => heap_alloc_old _ _ (H.prot k hk).1
  kind := fun k cs e hk => ⟨cs, (heap_alloc_old _ _ (lt_of_some hk)).trans hk, rfl⟩

theorem getElem?_snoc {α : Type} {l : List α} {x y : α} {b : Nat} (h : (l ++ [x])[b]? = some y) : (b < l.length ∧ l[b]? = some y) ∨ (b = l.length ∧ y = x) := by
  rcases Nat.lt_or_ge b l.length with hb | hb
  · rw [List.getElem?_append_left hb] at h; exact .inl ⟨hb, h⟩
  · rw [List.getElem?_append_right hb] at h
    rcases Nat.eq_or_lt_of_le hb with e | e
    · rw [← e, Nat.sub_self] at h; simp at h; exact .inr ⟨e.symm, h.symm⟩
    · have : ([x] : List α)[b - l.length]? = none := by rw [List.getElem?_eq_none]; simp; omega
      rw [this] at h; cases h

theorem push_HR {E : Env} {h : List ABlk} (H : HR E h) (cs : Array Value) (e : TypeId) (x : ABlk) (hx : BR (E.push h (.cells cs e)) h.length x) :
    HR (E.push h (.cells cs e)) (h ++ [x]) ∧ Ext E h (E.push h (.cells cs e)) (h ++ [x]) := by
  have K := keep_push H (.cells cs e)
  have hσ : ∀ b, b < h.length → (E.push h (.cells cs e)).σ b = E.σ b := fun b hb => upd_ne (by omega)
  have hnew : (E.push h (.cells cs e)).σ h.length = some (E.w.heap.size, 0) := upd_same _ _ _
  have hold : ∀ {b : Nat} {y : ABlk} {k o : Nat}, h[b]? = some y → y ≠ .dead → E.σ b = some (k, o) → k < E.w.heap.size := fun h1 h2 h3 => (H.blk _ _ h1).lt h2 h3
  have hown : ∀ k, Own (E.push h (.cells cs e)) (h ++ [x]) k → Own E h k ∨ E.w.heap.size ≤ k := by
    rintro k ⟨b, y, o, h1, h2, h3⟩
    rcases getElem?_snoc h1 with ⟨hb, h1⟩ | ⟨rfl, rfl⟩
    · rw [hσ b hb] at h3; exact .inl ⟨b, y, o, h1, h2, h3⟩
    · rw [hnew] at h3; cases h3; exact .inr (Nat.le_refl _)
  refine ⟨⟨fun b y hb => ?_, fun b b' y y' k o o' h1 h2 h3 h4 h5 h6 => ?_, fun k hk => ?_, fun b hb => ?_⟩, ⟨rfl, rfl, rfl, K.σ, K.prot, by simp [Env.push], K.kind, fun k hk _ => heap_alloc_old _ _ hk, hown, by simp, hσ, fun _ h => .inl h⟩⟩
  · rcases getElem?_snoc hb with ⟨hl, hb⟩ | ⟨rfl, rfl⟩
    · by_cases hd : y = .dead
      · subst hd; trivial
      · exact (H.blk b y hb).mono K (hσ b hl) fun k o hk => heap_alloc_old _ _ (hold hb hd hk)
    · exact hx
  · rcases getElem?_snoc h1 with ⟨l1, g1⟩ | ⟨e1, e1'⟩ <;> rcases getElem?_snoc h3 with ⟨l3, g3⟩ | ⟨e3, e3'⟩
    · rw [hσ b l1] at h5; rw [hσ b' l3] at h6; exact H.inj b b' y y' k o o' g1 h2 g3 h4 h5 h6
    · rw [hσ b l1] at h5; rw [e3, hnew] at h6; cases h6; exact absurd (hold g1 h2 h5) (by omega)
    · rw [hσ b' l3] at h6; rw [e1, hnew] at h5; cases h5; exact absurd (hold g3 h4 h6) (by omega)
    · rw [e1, e3]
  · obtain ⟨h1, h2⟩ := H.prot k hk
    refine ⟨by simp [Env.push]; omega, fun ho => ?_⟩
    rcases hown k ho with h | h
    · exact h2 h
    · omega
  · rw [List.length_append, List.length_singleton] at hb
    exact (upd_ne (by omega)).trans (H.fresh b (by omega))

/-! ### A turned block -/
/-- The world behind a change of one row of cells. -/
def putRow (w : World) (k : Nat) (cs : Array Value) (e : TypeId) : World := { w with heap := w.heap.setIfInBounds k (.cells cs e (0, 0)) }

theorem putRow_same {w : World} {k : Nat} {cs : Array Value} {e : TypeId} (h : k < w.heap.size) : (putRow w k cs e).heap[k]? = some (.cells cs e (0, 0)) := by
  simp [putRow, h]
theorem putRow_other {w : World} {k i : Nat} {cs : Array Value} {e : TypeId} (h : i ≠ k) : (putRow w k cs e).heap[i]? = w.heap[i]? := by
  simp only [putRow]; rw [Array.getElem?_setIfInBounds_ne (Ne.symm h)]

theorem keep_put {E : Env} {h : List ABlk} (H : HR E h) {k : Nat} {cs cs' : Array Value} {e : TypeId} (ho : Own E h k) (hk : E.w.heap[k]? = some (.cells cs e (0, 0))) (hs : cs'.size = cs.size) :
    Keep E { E with w := putRow E.w k cs' e } where
  σ := fun _ _ h => h
  prot := fun _ h => h
  same := fun i hi => putRow_other (by rintro rfl; exact (H.prot _ hi).2 ho)
  kind := fun i c t hi => by
    by_cases hik : i = k
    · subst hik
      rw [hk] at hi; cases hi
      exact ⟨cs', putRow_same (lt_of_some hk), hs⟩
    · exact ⟨c, (putRow_other hik).trans hi, rfl⟩

theorem put_HR {E : Env} {h : List ABlk} (H : HR E h) {b k o : Nat} {x x' : ABlk} {cs cs' : Array Value} {e : TypeId} (hb : h[b]? = some x) (hx : x ≠ .dead) (hσ : E.σ b = some (k, o))
    (hk : E.w.heap[k]? = some (.cells cs e (0, 0))) (hs : cs'.size = cs.size) (hx' : BR { E with w := putRow E.w k cs' e } b x') :
    HR { E with w := putRow E.w k cs' e } (h.set b x') ∧ Ext E h { E with w := putRow E.w k cs' e } (h.set b x') := by
  have ho : Own E h k := ⟨b, x, o, hb, hx, hσ⟩
  have K := keep_put H ho hk hs
  have hlt : b < h.length := by
    rcases Nat.lt_or_ge b h.length with h' | h'
    · exact h'
    · rw [List.getElem?_eq_none h'] at hb; cases hb
  have hget : ∀ (i : Nat) (y : ABlk), (h.set b x')[i]? = some y → (i = b ∧ y = x') ∨ (i ≠ b ∧ h[i]? = some y) := by
    intro i y hi
    by_cases hib : i = b
    · subst hib; rw [List.getElem?_set_self hlt] at hi; exact .inl ⟨rfl, (by injection hi with hi; exact hi.symm)⟩
    · rw [List.getElem?_set_ne (Ne.symm hib)] at hi; exact .inr ⟨hib, hi⟩
  have hown : ∀ i, Own { E with w := putRow E.w k cs' e } (h.set b x') i → Own E h i := by
    rintro i ⟨c, y, q, h1, h2, h3⟩
    rcases hget c y h1 with ⟨rfl, rfl⟩ | ⟨hc, h1⟩
    · have h3' : E.σ c = some (i, q) := h3
      rw [hσ] at h3'; cases h3'; exact ho
    · exact ⟨c, y, q, h1, h2, h3⟩
  refine ⟨⟨fun c y hc => ?_, fun c c' y y' i q q' h1 h2 h3 h4 h5 h6 => ?_, fun i hi => ?_, fun c hc => ?_⟩, ⟨rfl, rfl, rfl, K.σ, K.prot, by simp [putRow], K.kind, fun i hi hn => putRow_other (by rintro rfl; exact hn ho), fun i hi => .inl (hown i hi), by simp, fun _ _ => rfl, fun _ h => .inl h⟩⟩
  · rcases hget c y hc with ⟨rfl, rfl⟩ | ⟨hcb, hc⟩
    · exact hx'
    · by_cases hd : y = .dead
      · subst hd; trivial
      · refine (H.blk c y hc).mono K rfl fun i q hi => putRow_other ?_
        rintro rfl
        exact hcb (H.inj c b y x i q o hc hd hb hx hi hσ)
  · have g : ∀ (c : Nat) (y : ABlk), (h.set b x')[c]? = some y → y ≠ .dead → ∃ y0, h[c]? = some y0 ∧ y0 ≠ .dead := by
      intro c y hc hy
      rcases hget c y hc with ⟨rfl, rfl⟩ | ⟨_, hc⟩
      · exact ⟨x, hb, hx⟩
      · exact ⟨y, hc, hy⟩
    obtain ⟨y0, a1, a2⟩ := g c y h1 h2
    obtain ⟨y1, b1, b2⟩ := g c' y' h3 h4
    exact H.inj c c' y0 y1 i q q' a1 a2 b1 b2 h5 h6
  · obtain ⟨h1, h2⟩ := H.prot i hi
    exact ⟨by simp [putRow]; exact h1, fun ho' => h2 (hown i ho')⟩
  · rw [List.length_set] at hc; exact H.fresh c hc

/-! ### A block given up; a number given anew -/
theorem kill_HR {E : Env} {h : List ABlk} (H : HR E h) (b : Nat) : HR E (h.set b .dead) ∧ Ext E h E (h.set b .dead) := by
  have hget : ∀ (i : Nat) (y : ABlk), (h.set b .dead)[i]? = some y → y ≠ .dead → h[i]? = some y ∧ i ≠ b := by
    intro i y hi hy
    by_cases hib : i = b
    · subst hib
      rcases Nat.lt_or_ge i h.length with hl | hl
      · rw [List.getElem?_set_self hl] at hi; injection hi with hi; exact absurd hi.symm hy
      · rw [List.getElem?_eq_none (by simp; exact hl)] at hi; cases hi
    · rw [List.getElem?_set_ne (Ne.symm hib)] at hi; exact ⟨hi, hib⟩
  have hown : ∀ k, Own E (h.set b .dead) k → Own E h k := by
    rintro k ⟨c, y, o, h1, h2, h3⟩
    exact ⟨c, y, o, (hget c y h1 h2).1, h2, h3⟩
  refine ⟨⟨fun c y hc => ?_, fun c c' y y' k o o' h1 h2 h3 h4 h5 h6 => ?_, fun k hk => ?_, fun c hc => ?_⟩, ⟨rfl, rfl, rfl, fun _ _ h => h, fun _ h => h, Nat.le_refl _, fun k cs e h => ⟨cs, h, rfl⟩, fun _ _ _ => rfl, fun k h => .inl (hown k h), by simp, fun _ _ => rfl, fun _ h => .inl h⟩⟩
  · by_cases hy : y = .dead
    · subst hy; trivial
    · exact H.blk c y (hget c y hc hy).1
  · exact H.inj c c' y y' k o o' (hget c y h1 h2).1 h2 (hget c' y' h3 h4).1 h4 h5 h6
  · obtain ⟨h1, h2⟩ := H.prot k hk
    exact ⟨h1, fun ho => h2 (hown k ho)⟩
  · rw [List.length_set] at hc; exact H.fresh c hc

/-- Block b is given up; what it held is known on as the next number (an append within the capacity). -/
theorem move_HR {E : Env} {h : List ABlk} (H : HR E h) {b k o o' : Nat} {x x' : ABlk} (hb : h[b]? = some x) (hx : x ≠ .dead) (hσ : E.σ b = some (k, o))
    (hx' : BR { E with σ := upd E.σ h.length (some (k, o')) } h.length x') :
    HR { E with σ := upd E.σ h.length (some (k, o')) } (h.set b .dead ++ [x']) ∧ Ext E h { E with σ := upd E.σ h.length (some (k, o')) } (h.set b .dead ++ [x']) := by
  have ho : Own E h k := ⟨b, x, o, hb, hx, hσ⟩
  have hlt : b < h.length := by
    rcases Nat.lt_or_ge b h.length with h' | h'
    · exact h'
    · rw [List.getElem?_eq_none h'] at hb; cases hb
  have hlen : (h.set b .dead).length = h.length := List.length_set
  have hσ0 : ∀ (c : Nat) (y : Nat × Nat), E.σ c = some y → upd E.σ h.length (some (k, o')) c = some y := by
    intro c y hc
    rw [upd_ne, hc]
    rintro rfl
    rw [H.fresh _ (Nat.le_refl _)] at hc
    cases hc
  have K : Keep E { E with σ := upd E.σ h.length (some (k, o')) } := ⟨hσ0, fun _ h => h, fun _ _ => rfl, fun k cs e h => ⟨cs, h, rfl⟩⟩
  have hget : ∀ (i : Nat) (y : ABlk), (h.set b .dead)[i]? = some y → y ≠ .dead → h[i]? = some y ∧ i ≠ b := by
    intro i y hi hy
    by_cases hib : i = b
    · subst hib
      rw [List.getElem?_set_self hlt] at hi; injection hi with hi; exact absurd hi.symm hy
    · rw [List.getElem?_set_ne (Ne.symm hib)] at hi; exact ⟨hi, hib⟩
  have hσ' : ∀ c, c < h.length → upd E.σ h.length (some (k, o')) c = E.σ c := fun c hc => upd_ne (by omega)
  have hnew : upd E.σ h.length (some (k, o')) h.length = some (k, o') := upd_same _ _ _
  have hown : ∀ i, Own { E with σ := upd E.σ h.length (some (k, o')) } (h.set b .dead ++ [x']) i → Own E h i := by
    rintro i ⟨c, y, q, h1, h2, h3⟩
    rcases getElem?_snoc h1 with ⟨hc, h1⟩ | ⟨rfl, rfl⟩
    · rw [hlen] at hc
      have h3' : upd E.σ h.length (some (k, o')) c = some (i, q) := h3
      rw [hσ' c hc] at h3'
      exact ⟨c, y, q, (hget c y h1 h2).1, h2, h3'⟩
    · rw [hlen] at h3
      have h3' : upd E.σ h.length (some (k, o')) h.length = some (i, q) := h3
      rw [hnew] at h3'; cases h3'; exact ho
  refine ⟨⟨fun c y hc => ?_, fun c c' y y' i q q' h1 h2 h3 h4 h5 h6 => ?_, fun i hi => ?_, fun c hc => ?_⟩, ⟨rfl, rfl, rfl, K.σ, K.prot, Nat.le_refl _, K.kind, fun _ _ _ => rfl, fun i hi => .inl (hown i hi), by simp, hσ', fun _ h => .inl h⟩⟩
  · rcases getElem?_snoc hc with ⟨hl, hc⟩ | ⟨rfl, rfl⟩
    · by_cases hd : y = .dead
      · subst hd; trivial
      · exact (H.blk c y (hget c y hc hd).1).mono K (hσ' c (by omega)) fun _ _ _ => rfl
    · rw [hlen]; exact hx'
  · have q5 : upd E.σ h.length (some (k, o')) c = some (i, q) := h5
    have q6 : upd E.σ h.length (some (k, o')) c' = some (i, q') := h6
    rcases getElem?_snoc h1 with ⟨l1, g1⟩ | ⟨e1, e1'⟩ <;> rcases getElem?_snoc h3 with ⟨l3, g3⟩ | ⟨e3, e3'⟩
    · rw [hσ' c (by omega)] at q5; rw [hσ' c' (by omega)] at q6
      exact H.inj c c' y y' i q q' (hget _ _ g1 h2).1 h2 (hget _ _ g3 h4).1 h4 q5 q6
    · rw [hσ' c (by omega)] at q5; rw [e3, hlen, hnew] at q6; cases q6
      exact absurd (H.inj c b y x k q o (hget _ _ g1 h2).1 h2 hb hx q5 hσ) (hget _ _ g1 h2).2
    · rw [hσ' c' (by omega)] at q6; rw [e1, hlen, hnew] at q5; cases q5
      exact absurd (H.inj c' b y' x k q' o (hget _ _ g3 h4).1 h4 hb hx q6 hσ) (hget _ _ g3 h4).2
    · rw [e1, e3]
  · obtain ⟨h1, h2⟩ := H.prot i hi
    exact ⟨h1, fun ho' => h2 (hown i ho')⟩
  · rw [List.length_append, List.length_singleton, hlen] at hc
    exact (upd_ne (by omega)).trans (H.fresh c (by omega))

/-- A draw of the tape, or another world with the same heap. -/
theorem same_HR {E : Env} {h : List ABlk} (H : HR E h) (w' : World) (hw : w'.heap = E.w.heap) (ho : w'.os = E.w.os) (ht : w'.tape = E.w.tape) (hp : w'.output = E.w.output) :
    HR { E with w := w' } h ∧ Ext E h { E with w := w' } h := by
  have K : Keep E { E with w := w' } := ⟨fun _ _ h => h, fun _ h => h, fun k _ => by simp only [hw], fun k cs e h => ⟨cs, by simp only [hw]; exact h, rfl⟩⟩
  exact ⟨⟨fun b x hb => (H.blk b x hb).mono K rfl fun k o _ => by simp only [hw], H.inj, fun k hk => ⟨by simp only [hw]; exact (H.prot k hk).1, (H.prot k hk).2⟩, H.fresh⟩,
    ⟨ho, ht, hp, K.σ, K.prot, by simp only [hw]; exact Nat.le_refl _, K.kind, fun k _ _ => by simp only [hw], fun k h => .inl h, Nat.le_refl _, fun _ _ => rfl, fun _ h => .inl h⟩⟩
end Go.Am
