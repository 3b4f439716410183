/-
  A machine that computes, part 1: values, blocks, frames and heaps that the kernel can run on; what they say in the abstract machine.
-/
import Derived.Test.YtiameicjjlfimaaAm33
namespace Go.Am
set_option linter.unusedVariables false

inductive CV where
  | top
  | bool (b : Bool)
  | int (k : IntKind) (n : Int)
  | str (l : List Nat)
  | nilp
  | ptr (b es i j : Nat)
  | rptr (es i j : Nat) (r : List (List CV))
  | sl (b es i n : Nat) (nl : Bool)
  | isl (b es i j z n : Nat)
  | ro (es : Nat) (nl : Bool) (r : List (List CV))
  | emp
  | agg (l : List CV)
  | tup (l : List CV)
  | fn (f : FuncId) (l : List CV)
  | nilf
  | opt (g : Bool) (v : CV)
  deriving Inhabited
inductive CB where
  | dead
  | lit (e : TypeId) (l : List CV)
  | row (e : TypeId) (es : Nat) (r : List (List CV))
  deriving Inhabited

def getR {α : Type} : List (List α) → Nat → List α
  | [], _ => []
  | a :: _, 0 => a
  | _ :: l, n + 1 => getR l n
def rC (r : List (List AV)) : Nat → Nat → AV := fun x y => getL (getR r x) y
def mkB (l : List Nat) : ByteArray := ⟨(l.map Nat.toUInt8).toArray⟩
mutual
def toAV : CV → AV
  | .top => .top
  | .bool b => .bool b
  | .int k n => .int k n
  | .str l => .str (mkB l)
  | .nilp => .nilp
  | .ptr b es i j => .ptr b es i j
  | .rptr es i j r => .rptr es r.length i j (rC (toAVR r))
  | .sl b es i n nl => .sl b es i n nl
  | .isl b es i j z n => .isl b es i j z n
  | .ro es nl r => .ro es r.length nl (rC (toAVR r))
  | .emp => .emp
  | .agg l => .agg (toAVL l)
  | .tup l => .tup (toAVL l)
  | .fn f l => .fn f (toAVL l)
  | .nilf => .nilf
  | .opt g v => .opt g (toAV v)
def toAVL : List CV → List AV
  | [] => []
  | a :: l => toAV a :: toAVL l
def toAVR : List (List CV) → List (List AV)
  | [] => []
  | a :: l => toAVL a :: toAVR l
end
def toB : CB → ABlk
  | .dead => .dead
  | .lit e l => .lit e (toAVL l)
  | .row e es r => .row e es r.length (rC (toAVR r))
theorem toAVL_map (l : List CV) : toAVL l = l.map toAV := by induction l with
  | nil => simp [toAVL]
  | cons a l ih => simp [toAVL, ih]
theorem toAVR_map (l : List (List CV)) : toAVR l = l.map toAVL := by induction l with
  | nil => simp [toAVR]
  | cons a l ih => simp [toAVR, ih]
theorem toAVL_length (l : List CV) : (toAVL l).length = l.length := by simp [toAVL_map]
theorem toAVR_length (l : List (List CV)) : (toAVR l).length = l.length := by simp [toAVR_map]
theorem toAVL_append (l m : List CV) : toAVL (l ++ m) = toAVL l ++ toAVL m := by simp [toAVL_map]
theorem toAVR_append (l m : List (List CV)) : toAVR (l ++ m) = toAVR l ++ toAVR m := by simp [toAVR_map]

/-! ### Frames and heaps: binary trees -/
inductive Tr (α : Type) where
  | e
  | lf (v : α)
  | nd (l r : Tr α)
  deriving Inhabited
def Tr.lft {α : Type} : Tr α → Tr α
  | .nd l _ => l
  | _ => .e
def Tr.rgt {α : Type} : Tr α → Tr α
  | .nd _ r => r
  | _ => .e
def Tr.get {α : Type} (d : α) : Nat → Tr α → Nat → α
  | 0, .lf v, _ => v
  | 0, _, _ => d
  | k + 1, .nd l r, i => match Nat.beq (Nat.mod i 2) 0 with
    | true => Tr.get d k l (Nat.div i 2)
    | false => Tr.get d k r (Nat.div i 2)
  | _ + 1, _, _ => d
def Tr.set {α : Type} (v : α) : Nat → Tr α → Nat → Tr α
  | 0, _, _ => .lf v
  | k + 1, t, i => match Nat.beq (Nat.mod i 2) 0 with
    | true => .nd (Tr.set v k t.lft (Nat.div i 2)) t.rgt
    | false => .nd t.lft (Tr.set v k t.rgt (Nat.div i 2))
theorem nbeq (a b : Nat) : Nat.beq a b = (a == b) := by
  rw [Bool.eq_iff_iff]; simp
theorem Tr.get_nd {α : Type} (d : α) (k : Nat) (t : Tr α) (i : Nat) : Tr.get d (k + 1) t i = bif i % 2 == 0 then Tr.get d k t.lft (i / 2) else Tr.get d k t.rgt (i / 2) := by
  have he : ∀ (k i : Nat), Tr.get d k (.e : Tr α) i = d := by
    intro k i
    cases k with
    | zero => simp [Tr.get]
    | succ k => simp [Tr.get]
  cases t with
  | e => simp only [Tr.get, Tr.lft, Tr.rgt, he]; cases (i % 2 == 0) <;> rfl
  | lf v => simp only [Tr.get, Tr.lft, Tr.rgt, he]; cases (i % 2 == 0) <;> rfl
  | nd l r =>
    simp only [Tr.get, Tr.lft, Tr.rgt, nbeq]
    show (match (i % 2 == 0) with | true => Tr.get d k l (i / 2) | false => Tr.get d k r (i / 2)) = _
    cases (i % 2 == 0) <;> rfl
theorem Tr.set_nd {α : Type} (v : α) (k : Nat) (t : Tr α) (i : Nat) : Tr.set v (k + 1) t i = bif i % 2 == 0 then .nd (Tr.set v k t.lft (i / 2)) t.rgt else .nd t.lft (Tr.set v k t.rgt (i / 2)) := by
  simp only [Tr.set, nbeq]
  show (match (i % 2 == 0) with | true => Tr.nd (Tr.set v k t.lft (i / 2)) t.rgt | false => Tr.nd t.lft (Tr.set v k t.rgt (i / 2))) = _
  cases (i % 2 == 0) <;> rfl
theorem Tr.get_set {α : Type} (d v : α) : ∀ (k : Nat) (t : Tr α) (i j : Nat), i < 2 ^ k → j < 2 ^ k → Tr.get d k (Tr.set v k t i) j = if i = j then v else Tr.get d k t j
  | 0, t, i, j, hi, hj => by
    have h1 : i = j := by simp at hi hj; omega
    rw [if_pos h1]; rfl
  | k + 1, t, i, j, hi, hj => by
    have hp : 2 ^ (k + 1) = 2 * 2 ^ k := by rw [Nat.pow_succ]; omega
    rw [Tr.get_nd, Tr.get_nd, Tr.set_nd]
    have ih := fun t => Tr.get_set d v k t (i / 2) (j / 2) (by omega) (by omega)
    rcases Nat.mod_two_eq_zero_or_one i with h1 | h1 <;> rcases Nat.mod_two_eq_zero_or_one j with h2 | h2 <;> simp only [h1, h2, beq_self_eq_true, cond_true, cond_false, Tr.lft, Tr.rgt, ih, show ((1 : Nat) == 0) = false from rfl]
    · by_cases h : i = j
      · rw [if_pos h, if_pos (by rw [h])]
      · rw [if_neg h, if_neg (by omega)]
    · rw [if_neg (by omega)]
    · rw [if_neg (by omega)]
    · by_cases h : i = j
      · rw [if_pos h, if_pos (by rw [h])]
      · rw [if_neg h, if_neg (by omega)]
theorem Tr.get_e {α : Type} (d : α) : ∀ (k i : Nat), Tr.get d k (.e : Tr α) i = d := by
  intro k i
  cases k with
  | zero => simp [Tr.get]
  | succ k => simp [Tr.get]

noncomputable def lftK {α : Type} (t : Tr α) : Tr α := @Tr.rec α (fun _ => Tr α) .e (fun _ => .e) (fun l _ _ _ => l) t
noncomputable def rgtK {α : Type} (t : Tr α) : Tr α := @Tr.rec α (fun _ => Tr α) .e (fun _ => .e) (fun _ r _ _ => r) t
theorem lftK_eq {α : Type} (t : Tr α) : lftK t = t.lft := by cases t <;> rfl
theorem rgtK_eq {α : Type} (t : Tr α) : rgtK t = t.rgt := by cases t <;> rfl
noncomputable def fkg0 (t : Tr CV) (_ : Nat) : CV := @Tr.rec CV (fun _ => CV) .top (fun v => v) (fun _ _ _ _ => .top) t
noncomputable def fks0 (_ : Tr CV) (_ : Nat) (v : CV) : Tr CV := .lf v
theorem fkg0_eq (t : Tr CV) (i j : Nat) : fkg0 t i = Tr.get .top 0 t j := by cases t <;> rfl
theorem fks0_eq (t : Tr CV) (i j : Nat) (v : CV) : fks0 t i v = Tr.set v 0 t j := rfl
noncomputable def fkg1 (t : Tr CV) (i : Nat) : CV := @Tr.rec CV (fun _ => CV) .top (fun _ => .top) (fun l r _ _ => @Bool.rec (fun _ => CV) (fkg0 r i) (fkg0 l i) (Nat.beq (Nat.mod (Nat.div i 512) 2) 0)) t
noncomputable def fks1 (t : Tr CV) (i : Nat) (v : CV) : Tr CV := @Bool.rec (fun _ => Tr CV) (.nd (lftK t) (fks0 (rgtK t) i v)) (.nd (fks0 (lftK t) i v) (rgtK t)) (Nat.beq (Nat.mod (Nat.div i 512) 2) 0)
theorem fkg1_eq (t : Tr CV) (i : Nat) : fkg1 t i = Tr.get .top 1 t (i / 512) := by
  cases t with
  | e => rfl
  | lf v => rfl
  | nd l r =>
    have hd : i / 512 / 2 = i / 1024 := by rw [Nat.div_div_eq_div_mul]
    rw [Tr.get_nd]
    show @Bool.rec (fun _ => CV) (fkg0 r i) (fkg0 l i) (Nat.beq (i / 512 % 2) 0) = _
    rw [fkg0_eq l i ((i / 512) / 2), fkg0_eq r i ((i / 512) / 2), nbeq]
    simp only [Tr.lft, Tr.rgt]
    cases (i / 512 % 2 == 0) <;> rfl
theorem fks1_eq (t : Tr CV) (i : Nat) (v : CV) : fks1 t i v = Tr.set v 1 t (i / 512) := by
  have hd : i / 512 / 2 = i / 1024 := by rw [Nat.div_div_eq_div_mul]
  rw [Tr.set_nd]
  show @Bool.rec (fun _ => Tr CV) (.nd (lftK t) (fks0 (rgtK t) i v)) (.nd (fks0 (lftK t) i v) (rgtK t)) (Nat.beq (i / 512 % 2) 0) = _
  rw [fks0_eq _ i ((i / 512) / 2), fks0_eq _ i ((i / 512) / 2), nbeq, lftK_eq, rgtK_eq]
  cases (i / 512 % 2 == 0) <;> rfl
noncomputable def fkg2 (t : Tr CV) (i : Nat) : CV := @Tr.rec CV (fun _ => CV) .top (fun _ => .top) (fun l r _ _ => @Bool.rec (fun _ => CV) (fkg1 r i) (fkg1 l i) (Nat.beq (Nat.mod (Nat.div i 256) 2) 0)) t
noncomputable def fks2 (t : Tr CV) (i : Nat) (v : CV) : Tr CV := @Bool.rec (fun _ => Tr CV) (.nd (lftK t) (fks1 (rgtK t) i v)) (.nd (fks1 (lftK t) i v) (rgtK t)) (Nat.beq (Nat.mod (Nat.div i 256) 2) 0)
theorem fkg2_eq (t : Tr CV) (i : Nat) : fkg2 t i = Tr.get .top 2 t (i / 256) := by
  cases t with
  | e => rfl
  | lf v => rfl
  | nd l r =>
    have hd : i / 256 / 2 = i / 512 := by rw [Nat.div_div_eq_div_mul]
    rw [Tr.get_nd]
    show @Bool.rec (fun _ => CV) (fkg1 r i) (fkg1 l i) (Nat.beq (i / 256 % 2) 0) = _
    rw [fkg1_eq l i, fkg1_eq r i, nbeq]
    simp only [Tr.lft, Tr.rgt, hd]
    cases (i / 256 % 2 == 0) <;> rfl
theorem fks2_eq (t : Tr CV) (i : Nat) (v : CV) : fks2 t i v = Tr.set v 2 t (i / 256) := by
  have hd : i / 256 / 2 = i / 512 := by rw [Nat.div_div_eq_div_mul]
  rw [Tr.set_nd]
  show @Bool.rec (fun _ => Tr CV) (.nd (lftK t) (fks1 (rgtK t) i v)) (.nd (fks1 (lftK t) i v) (rgtK t)) (Nat.beq (i / 256 % 2) 0) = _
  rw [fks1_eq, fks1_eq, nbeq, lftK_eq, rgtK_eq]
  simp only [hd]
  cases (i / 256 % 2 == 0) <;> rfl
noncomputable def fkg3 (t : Tr CV) (i : Nat) : CV := @Tr.rec CV (fun _ => CV) .top (fun _ => .top) (fun l r _ _ => @Bool.rec (fun _ => CV) (fkg2 r i) (fkg2 l i) (Nat.beq (Nat.mod (Nat.div i 128) 2) 0)) t
noncomputable def fks3 (t : Tr CV) (i : Nat) (v : CV) : Tr CV := @Bool.rec (fun _ => Tr CV) (.nd (lftK t) (fks2 (rgtK t) i v)) (.nd (fks2 (lftK t) i v) (rgtK t)) (Nat.beq (Nat.mod (Nat.div i 128) 2) 0)
theorem fkg3_eq (t : Tr CV) (i : Nat) : fkg3 t i = Tr.get .top 3 t (i / 128) := by
  cases t with
  | e => rfl
  | lf v => rfl
  | nd l r =>
    have hd : i / 128 / 2 = i / 256 := by rw [Nat.div_div_eq_div_mul]
    rw [Tr.get_nd]
    show @Bool.rec (fun _ => CV) (fkg2 r i) (fkg2 l i) (Nat.beq (i / 128 % 2) 0) = _
    rw [fkg2_eq l i, fkg2_eq r i, nbeq]
    simp only [Tr.lft, Tr.rgt, hd]
    cases (i / 128 % 2 == 0) <;> rfl
theorem fks3_eq (t : Tr CV) (i : Nat) (v : CV) : fks3 t i v = Tr.set v 3 t (i / 128) := by
  have hd : i / 128 / 2 = i / 256 := by rw [Nat.div_div_eq_div_mul]
  rw [Tr.set_nd]
  show @Bool.rec (fun _ => Tr CV) (.nd (lftK t) (fks2 (rgtK t) i v)) (.nd (fks2 (lftK t) i v) (rgtK t)) (Nat.beq (i / 128 % 2) 0) = _
  rw [fks2_eq, fks2_eq, nbeq, lftK_eq, rgtK_eq]
  simp only [hd]
  cases (i / 128 % 2 == 0) <;> rfl
noncomputable def fkg4 (t : Tr CV) (i : Nat) : CV := @Tr.rec CV (fun _ => CV) .top (fun _ => .top) (fun l r _ _ => @Bool.rec (fun _ => CV) (fkg3 r i) (fkg3 l i) (Nat.beq (Nat.mod (Nat.div i 64) 2) 0)) t
noncomputable def fks4 (t : Tr CV) (i : Nat) (v : CV) : Tr CV := @Bool.rec (fun _ => Tr CV) (.nd (lftK t) (fks3 (rgtK t) i v)) (.nd (fks3 (lftK t) i v) (rgtK t)) (Nat.beq (Nat.mod (Nat.div i 64) 2) 0)
theorem fkg4_eq (t : Tr CV) (i : Nat) : fkg4 t i = Tr.get .top 4 t (i / 64) := by
  cases t with
  | e => rfl
  | lf v => rfl
  | nd l r =>
    have hd : i / 64 / 2 = i / 128 := by rw [Nat.div_div_eq_div_mul]
    rw [Tr.get_nd]
    show @Bool.rec (fun _ => CV) (fkg3 r i) (fkg3 l i) (Nat.beq (i / 64 % 2) 0) = _
    rw [fkg3_eq l i, fkg3_eq r i, nbeq]
    simp only [Tr.lft, Tr.rgt, hd]
    cases (i / 64 % 2 == 0) <;> rfl
theorem fks4_eq (t : Tr CV) (i : Nat) (v : CV) : fks4 t i v = Tr.set v 4 t (i / 64) := by
  have hd : i / 64 / 2 = i / 128 := by rw [Nat.div_div_eq_div_mul]
  rw [Tr.set_nd]
  show @Bool.rec (fun _ => Tr CV) (.nd (lftK t) (fks3 (rgtK t) i v)) (.nd (fks3 (lftK t) i v) (rgtK t)) (Nat.beq (i / 64 % 2) 0) = _
  rw [fks3_eq, fks3_eq, nbeq, lftK_eq, rgtK_eq]
  simp only [hd]
  cases (i / 64 % 2 == 0) <;> rfl
noncomputable def fkg5 (t : Tr CV) (i : Nat) : CV := @Tr.rec CV (fun _ => CV) .top (fun _ => .top) (fun l r _ _ => @Bool.rec (fun _ => CV) (fkg4 r i) (fkg4 l i) (Nat.beq (Nat.mod (Nat.div i 32) 2) 0)) t
noncomputable def fks5 (t : Tr CV) (i : Nat) (v : CV) : Tr CV := @Bool.rec (fun _ => Tr CV) (.nd (lftK t) (fks4 (rgtK t) i v)) (.nd (fks4 (lftK t) i v) (rgtK t)) (Nat.beq (Nat.mod (Nat.div i 32) 2) 0)
theorem fkg5_eq (t : Tr CV) (i : Nat) : fkg5 t i = Tr.get .top 5 t (i / 32) := by
  cases t with
  | e => rfl
  | lf v => rfl
  | nd l r =>
    have hd : i / 32 / 2 = i / 64 := by rw [Nat.div_div_eq_div_mul]
    rw [Tr.get_nd]
    show @Bool.rec (fun _ => CV) (fkg4 r i) (fkg4 l i) (Nat.beq (i / 32 % 2) 0) = _
    rw [fkg4_eq l i, fkg4_eq r i, nbeq]
    simp only [Tr.lft, Tr.rgt, hd]
    cases (i / 32 % 2 == 0) <;> rfl
theorem fks5_eq (t : Tr CV) (i : Nat) (v : CV) : fks5 t i v = Tr.set v 5 t (i / 32) := by
  have hd : i / 32 / 2 = i / 64 := by rw [Nat.div_div_eq_div_mul]
  rw [Tr.set_nd]
  show @Bool.rec (fun _ => Tr CV) (.nd (lftK t) (fks4 (rgtK t) i v)) (.nd (fks4 (lftK t) i v) (rgtK t)) (Nat.beq (i / 32 % 2) 0) = _
  rw [fks4_eq, fks4_eq, nbeq, lftK_eq, rgtK_eq]
  simp only [hd]
  cases (i / 32 % 2 == 0) <;> rfl
noncomputable def fkg6 (t : Tr CV) (i : Nat) : CV := @Tr.rec CV (fun _ => CV) .top (fun _ => .top) (fun l r _ _ => @Bool.rec (fun _ => CV) (fkg5 r i) (fkg5 l i) (Nat.beq (Nat.mod (Nat.div i 16) 2) 0)) t
noncomputable def fks6 (t : Tr CV) (i : Nat) (v : CV) : Tr CV := @Bool.rec (fun _ => Tr CV) (.nd (lftK t) (fks5 (rgtK t) i v)) (.nd (fks5 (lftK t) i v) (rgtK t)) (Nat.beq (Nat.mod (Nat.div i 16) 2) 0)
theorem fkg6_eq (t : Tr CV) (i : Nat) : fkg6 t i = Tr.get .top 6 t (i / 16) := by
  cases t with
  | e => rfl
  | lf v => rfl
  | nd l r =>
    have hd : i / 16 / 2 = i / 32 := by rw [Nat.div_div_eq_div_mul]
    rw [Tr.get_nd]
    show @Bool.rec (fun _ => CV) (fkg5 r i) (fkg5 l i) (Nat.beq (i / 16 % 2) 0) = _
    rw [fkg5_eq l i, fkg5_eq r i, nbeq]
    simp only [Tr.lft, Tr.rgt, hd]
    cases (i / 16 % 2 == 0) <;> rfl
theorem fks6_eq (t : Tr CV) (i : Nat) (v : CV) : fks6 t i v = Tr.set v 6 t (i / 16) := by
  have hd : i / 16 / 2 = i / 32 := by rw [Nat.div_div_eq_div_mul]
  rw [Tr.set_nd]
  show @Bool.rec (fun _ => Tr CV) (.nd (lftK t) (fks5 (rgtK t) i v)) (.nd (fks5 (lftK t) i v) (rgtK t)) (Nat.beq (i / 16 % 2) 0) = _
  rw [fks5_eq, fks5_eq, nbeq, lftK_eq, rgtK_eq]
  simp only [hd]
  cases (i / 16 % 2 == 0) <;> rfl
noncomputable def fkg7 (t : Tr CV) (i : Nat) : CV := @Tr.rec CV (fun _ => CV) .top (fun _ => .top) (fun l r _ _ => @Bool.rec (fun _ => CV) (fkg6 r i) (fkg6 l i) (Nat.beq (Nat.mod (Nat.div i 8) 2) 0)) t
noncomputable def fks7 (t : Tr CV) (i : Nat) (v : CV) : Tr CV := @Bool.rec (fun _ => Tr CV) (.nd (lftK t) (fks6 (rgtK t) i v)) (.nd (fks6 (lftK t) i v) (rgtK t)) (Nat.beq (Nat.mod (Nat.div i 8) 2) 0)
theorem fkg7_eq (t : Tr CV) (i : Nat) : fkg7 t i = Tr.get .top 7 t (i / 8) := by
  cases t with
  | e => rfl
  | lf v => rfl
  | nd l r =>
    have hd : i / 8 / 2 = i / 16 := by rw [Nat.div_div_eq_div_mul]
    rw [Tr.get_nd]
    show @Bool.rec (fun _ => CV) (fkg6 r i) (fkg6 l i) (Nat.beq (i / 8 % 2) 0) = _
    rw [fkg6_eq l i, fkg6_eq r i, nbeq]
    simp only [Tr.lft, Tr.rgt, hd]
    cases (i / 8 % 2 == 0) <;> rfl
theorem fks7_eq (t : Tr CV) (i : Nat) (v : CV) : fks7 t i v = Tr.set v 7 t (i / 8) := by
  have hd : i / 8 / 2 = i / 16 := by rw [Nat.div_div_eq_div_mul]
  rw [Tr.set_nd]
  show @Bool.rec (fun _ => Tr CV) (.nd (lftK t) (fks6 (rgtK t) i v)) (.nd (fks6 (lftK t) i v) (rgtK t)) (Nat.beq (i / 8 % 2) 0) = _
  rw [fks6_eq, fks6_eq, nbeq, lftK_eq, rgtK_eq]
  simp only [hd]
  cases (i / 8 % 2 == 0) <;> rfl
noncomputable def fkg8 (t : Tr CV) (i : Nat) : CV := @Tr.rec CV (fun _ => CV) .top (fun _ => .top) (fun l r _ _ => @Bool.rec (fun _ => CV) (fkg7 r i) (fkg7 l i) (Nat.beq (Nat.mod (Nat.div i 4) 2) 0)) t
noncomputable def fks8 (t : Tr CV) (i : Nat) (v : CV) : Tr CV := @Bool.rec (fun _ => Tr CV) (.nd (lftK t) (fks7 (rgtK t) i v)) (.nd (fks7 (lftK t) i v) (rgtK t)) (Nat.beq (Nat.mod (Nat.div i 4) 2) 0)
theorem fkg8_eq (t : Tr CV) (i : Nat) : fkg8 t i = Tr.get .top 8 t (i / 4) := by
  cases t with
  | e => rfl
  | lf v => rfl
  | nd l r =>
    have hd : i / 4 / 2 = i / 8 := by rw [Nat.div_div_eq_div_mul]
    rw [Tr.get_nd]
    show @Bool.rec (fun _ => CV) (fkg7 r i) (fkg7 l i) (Nat.beq (i / 4 % 2) 0) = _
    rw [fkg7_eq l i, fkg7_eq r i, nbeq]
    simp only [Tr.lft, Tr.rgt, hd]
    cases (i / 4 % 2 == 0) <;> rfl
theorem fks8_eq (t : Tr CV) (i : Nat) (v : CV) : fks8 t i v = Tr.set v 8 t (i / 4) := by
  have hd : i / 4 / 2 = i / 8 := by rw [Nat.div_div_eq_div_mul]
  rw [Tr.set_nd]
  show @Bool.rec (fun _ => Tr CV) (.nd (lftK t) (fks7 (rgtK t) i v)) (.nd (fks7 (lftK t) i v) (rgtK t)) (Nat.beq (i / 4 % 2) 0) = _
  rw [fks7_eq, fks7_eq, nbeq, lftK_eq, rgtK_eq]
  simp only [hd]
  cases (i / 4 % 2 == 0) <;> rfl
noncomputable def fkg9 (t : Tr CV) (i : Nat) : CV := @Tr.rec CV (fun _ => CV) .top (fun _ => .top) (fun l r _ _ => @Bool.rec (fun _ => CV) (fkg8 r i) (fkg8 l i) (Nat.beq (Nat.mod (Nat.div i 2) 2) 0)) t
noncomputable def fks9 (t : Tr CV) (i : Nat) (v : CV) : Tr CV := @Bool.rec (fun _ => Tr CV) (.nd (lftK t) (fks8 (rgtK t) i v)) (.nd (fks8 (lftK t) i v) (rgtK t)) (Nat.beq (Nat.mod (Nat.div i 2) 2) 0)
theorem fkg9_eq (t : Tr CV) (i : Nat) : fkg9 t i = Tr.get .top 9 t (i / 2) := by
  cases t with
  | e => rfl
  | lf v => rfl
  | nd l r =>
    have hd : i / 2 / 2 = i / 4 := by rw [Nat.div_div_eq_div_mul]
    rw [Tr.get_nd]
    show @Bool.rec (fun _ => CV) (fkg8 r i) (fkg8 l i) (Nat.beq (i / 2 % 2) 0) = _
    rw [fkg8_eq l i, fkg8_eq r i, nbeq]
    simp only [Tr.lft, Tr.rgt, hd]
    cases (i / 2 % 2 == 0) <;> rfl
theorem fks9_eq (t : Tr CV) (i : Nat) (v : CV) : fks9 t i v = Tr.set v 9 t (i / 2) := by
  have hd : i / 2 / 2 = i / 4 := by rw [Nat.div_div_eq_div_mul]
  rw [Tr.set_nd]
  show @Bool.rec (fun _ => Tr CV) (.nd (lftK t) (fks8 (rgtK t) i v)) (.nd (fks8 (lftK t) i v) (rgtK t)) (Nat.beq (i / 2 % 2) 0) = _
  rw [fks8_eq, fks8_eq, nbeq, lftK_eq, rgtK_eq]
  simp only [hd]
  cases (i / 2 % 2 == 0) <;> rfl
noncomputable def fkg10 (t : Tr CV) (i : Nat) : CV := @Tr.rec CV (fun _ => CV) .top (fun _ => .top) (fun l r _ _ => @Bool.rec (fun _ => CV) (fkg9 r i) (fkg9 l i) (Nat.beq (Nat.mod (Nat.div i 1) 2) 0)) t
noncomputable def fks10 (t : Tr CV) (i : Nat) (v : CV) : Tr CV := @Bool.rec (fun _ => Tr CV) (.nd (lftK t) (fks9 (rgtK t) i v)) (.nd (fks9 (lftK t) i v) (rgtK t)) (Nat.beq (Nat.mod (Nat.div i 1) 2) 0)
theorem fkg10_eq (t : Tr CV) (i : Nat) : fkg10 t i = Tr.get .top 10 t (i / 1) := by
  cases t with
  | e => rfl
  | lf v => rfl
  | nd l r =>
    have hd : i / 1 / 2 = i / 2 := by rw [Nat.div_div_eq_div_mul]
    rw [Tr.get_nd]
    show @Bool.rec (fun _ => CV) (fkg9 r i) (fkg9 l i) (Nat.beq (i / 1 % 2) 0) = _
    rw [fkg9_eq l i, fkg9_eq r i, nbeq]
    simp only [Tr.lft, Tr.rgt, hd]
    cases (i / 1 % 2 == 0) <;> rfl
theorem fks10_eq (t : Tr CV) (i : Nat) (v : CV) : fks10 t i v = Tr.set v 10 t (i / 1) := by
  have hd : i / 1 / 2 = i / 2 := by rw [Nat.div_div_eq_div_mul]
  rw [Tr.set_nd]
  show @Bool.rec (fun _ => Tr CV) (.nd (lftK t) (fks9 (rgtK t) i v)) (.nd (fks9 (lftK t) i v) (rgtK t)) (Nat.beq (i / 1 % 2) 0) = _
  rw [fks9_eq, fks9_eq, nbeq, lftK_eq, rgtK_eq]
  simp only [hd]
  cases (i / 1 % 2 == 0) <;> rfl
noncomputable def fmg0 (t : Tr CV) (_ : Nat) : CV := @Tr.rec CV (fun _ => CV) .top (fun v => v) (fun _ _ _ _ => .top) t
noncomputable def fms0 (_ : Tr CV) (_ : Nat) (v : CV) : Tr CV := .lf v
theorem fmg0_eq (t : Tr CV) (i j : Nat) : fmg0 t i = Tr.get .top 0 t j := by cases t <;> rfl
theorem fms0_eq (t : Tr CV) (i j : Nat) (v : CV) : fms0 t i v = Tr.set v 0 t j := rfl
noncomputable def fmg1 (t : Tr CV) (i : Nat) : CV := @Tr.rec CV (fun _ => CV) .top (fun _ => .top) (fun l r _ _ => @Bool.rec (fun _ => CV) (fmg0 r i) (fmg0 l i) (Nat.beq (Nat.mod (Nat.div i 32) 2) 0)) t
noncomputable def fms1 (t : Tr CV) (i : Nat) (v : CV) : Tr CV := @Bool.rec (fun _ => Tr CV) (.nd (lftK t) (fms0 (rgtK t) i v)) (.nd (fms0 (lftK t) i v) (rgtK t)) (Nat.beq (Nat.mod (Nat.div i 32) 2) 0)
theorem fmg1_eq (t : Tr CV) (i : Nat) : fmg1 t i = Tr.get .top 1 t (i / 32) := by
  cases t with
  | e => rfl
  | lf v => rfl
  | nd l r =>
    have hd : i / 32 / 2 = i / 64 := by rw [Nat.div_div_eq_div_mul]
    rw [Tr.get_nd]
    show @Bool.rec (fun _ => CV) (fmg0 r i) (fmg0 l i) (Nat.beq (i / 32 % 2) 0) = _
    rw [fmg0_eq l i ((i / 32) / 2), fmg0_eq r i ((i / 32) / 2), nbeq]
    simp only [Tr.lft, Tr.rgt]
    cases (i / 32 % 2 == 0) <;> rfl
theorem fms1_eq (t : Tr CV) (i : Nat) (v : CV) : fms1 t i v = Tr.set v 1 t (i / 32) := by
  have hd : i / 32 / 2 = i / 64 := by rw [Nat.div_div_eq_div_mul]
  rw [Tr.set_nd]
  show @Bool.rec (fun _ => Tr CV) (.nd (lftK t) (fms0 (rgtK t) i v)) (.nd (fms0 (lftK t) i v) (rgtK t)) (Nat.beq (i / 32 % 2) 0) = _
  rw [fms0_eq _ i ((i / 32) / 2), fms0_eq _ i ((i / 32) / 2), nbeq, lftK_eq, rgtK_eq]
  cases (i / 32 % 2 == 0) <;> rfl
noncomputable def fmg2 (t : Tr CV) (i : Nat) : CV := @Tr.rec CV (fun _ => CV) .top (fun _ => .top) (fun l r _ _ => @Bool.rec (fun _ => CV) (fmg1 r i) (fmg1 l i) (Nat.beq (Nat.mod (Nat.div i 16) 2) 0)) t
noncomputable def fms2 (t : Tr CV) (i : Nat) (v : CV) : Tr CV := @Bool.rec (fun _ => Tr CV) (.nd (lftK t) (fms1 (rgtK t) i v)) (.nd (fms1 (lftK t) i v) (rgtK t)) (Nat.beq (Nat.mod (Nat.div i 16) 2) 0)
theorem fmg2_eq (t : Tr CV) (i : Nat) : fmg2 t i = Tr.get .top 2 t (i / 16) := by
  cases t with
  | e => rfl
  | lf v => rfl
  | nd l r =>
    have hd : i / 16 / 2 = i / 32 := by rw [Nat.div_div_eq_div_mul]
    rw [Tr.get_nd]
    show @Bool.rec (fun _ => CV) (fmg1 r i) (fmg1 l i) (Nat.beq (i / 16 % 2) 0) = _
    rw [fmg1_eq l i, fmg1_eq r i, nbeq]
    simp only [Tr.lft, Tr.rgt, hd]
    cases (i / 16 % 2 == 0) <;> rfl
theorem fms2_eq (t : Tr CV) (i : Nat) (v : CV) : fms2 t i v = Tr.set v 2 t (i / 16) := by
  have hd : i / 16 / 2 = i / 32 := by rw [Nat.div_div_eq_div_mul]
  rw [Tr.set_nd]
  show @Bool.rec (fun _ => Tr CV) (.nd (lftK t) (fms1 (rgtK t) i v)) (.nd (fms1 (lftK t) i v) (rgtK t)) (Nat.beq (i / 16 % 2) 0) = _
  rw [fms1_eq, fms1_eq, nbeq, lftK_eq, rgtK_eq]
  simp only [hd]
  cases (i / 16 % 2 == 0) <;> rfl
noncomputable def fmg3 (t : Tr CV) (i : Nat) : CV := @Tr.rec CV (fun _ => CV) .top (fun _ => .top) (fun l r _ _ => @Bool.rec (fun _ => CV) (fmg2 r i) (fmg2 l i) (Nat.beq (Nat.mod (Nat.div i 8) 2) 0)) t
noncomputable def fms3 (t : Tr CV) (i : Nat) (v : CV) : Tr CV := @Bool.rec (fun _ => Tr CV) (.nd (lftK t) (fms2 (rgtK t) i v)) (.nd (fms2 (lftK t) i v) (rgtK t)) (Nat.beq (Nat.mod (Nat.div i 8) 2) 0)
theorem fmg3_eq (t : Tr CV) (i : Nat) : fmg3 t i = Tr.get .top 3 t (i / 8) := by
  cases t with
  | e => rfl
  | lf v => rfl
  | nd l r =>
    have hd : i / 8 / 2 = i / 16 := by rw [Nat.div_div_eq_div_mul]
    rw [Tr.get_nd]
    show @Bool.rec (fun _ => CV) (fmg2 r i) (fmg2 l i) (Nat.beq (i / 8 % 2) 0) = _
    rw [fmg2_eq l i, fmg2_eq r i, nbeq]
    simp only [Tr.lft, Tr.rgt, hd]
    cases (i / 8 % 2 == 0) <;> rfl
theorem fms3_eq (t : Tr CV) (i : Nat) (v : CV) : fms3 t i v = Tr.set v 3 t (i / 8) := by
  have hd : i / 8 / 2 = i / 16 := by rw [Nat.div_div_eq_div_mul]
  rw [Tr.set_nd]
  show @Bool.rec (fun _ => Tr CV) (.nd (lftK t) (fms2 (rgtK t) i v)) (.nd (fms2 (lftK t) i v) (rgtK t)) (Nat.beq (i / 8 % 2) 0) = _
  rw [fms2_eq, fms2_eq, nbeq, lftK_eq, rgtK_eq]
  simp only [hd]
  cases (i / 8 % 2 == 0) <;> rfl
noncomputable def fmg4 (t : Tr CV) (i : Nat) : CV := @Tr.rec CV (fun _ => CV) .top (fun _ => .top) (fun l r _ _ => @Bool.rec (fun _ => CV) (fmg3 r i) (fmg3 l i) (Nat.beq (Nat.mod (Nat.div i 4) 2) 0)) t
noncomputable def fms4 (t : Tr CV) (i : Nat) (v : CV) : Tr CV := @Bool.rec (fun _ => Tr CV) (.nd (lftK t) (fms3 (rgtK t) i v)) (.nd (fms3 (lftK t) i v) (rgtK t)) (Nat.beq (Nat.mod (Nat.div i 4) 2) 0)
theorem fmg4_eq (t : Tr CV) (i : Nat) : fmg4 t i = Tr.get .top 4 t (i / 4) := by
  cases t with
  | e => rfl
  | lf v => rfl
  | nd l r =>
    have hd : i / 4 / 2 = i / 8 := by rw [Nat.div_div_eq_div_mul]
    rw [Tr.get_nd]
    show @Bool.rec (fun _ => CV) (fmg3 r i) (fmg3 l i) (Nat.beq (i / 4 % 2) 0) = _
    rw [fmg3_eq l i, fmg3_eq r i, nbeq]
    simp only [Tr.lft, Tr.rgt, hd]
    cases (i / 4 % 2 == 0) <;> rfl
theorem fms4_eq (t : Tr CV) (i : Nat) (v : CV) : fms4 t i v = Tr.set v 4 t (i / 4) := by
  have hd : i / 4 / 2 = i / 8 := by rw [Nat.div_div_eq_div_mul]
  rw [Tr.set_nd]
  show @Bool.rec (fun _ => Tr CV) (.nd (lftK t) (fms3 (rgtK t) i v)) (.nd (fms3 (lftK t) i v) (rgtK t)) (Nat.beq (i / 4 % 2) 0) = _
  rw [fms3_eq, fms3_eq, nbeq, lftK_eq, rgtK_eq]
  simp only [hd]
  cases (i / 4 % 2 == 0) <;> rfl
noncomputable def fmg5 (t : Tr CV) (i : Nat) : CV := @Tr.rec CV (fun _ => CV) .top (fun _ => .top) (fun l r _ _ => @Bool.rec (fun _ => CV) (fmg4 r i) (fmg4 l i) (Nat.beq (Nat.mod (Nat.div i 2) 2) 0)) t
noncomputable def fms5 (t : Tr CV) (i : Nat) (v : CV) : Tr CV := @Bool.rec (fun _ => Tr CV) (.nd (lftK t) (fms4 (rgtK t) i v)) (.nd (fms4 (lftK t) i v) (rgtK t)) (Nat.beq (Nat.mod (Nat.div i 2) 2) 0)
theorem fmg5_eq (t : Tr CV) (i : Nat) : fmg5 t i = Tr.get .top 5 t (i / 2) := by
  cases t with
  | e => rfl
  | lf v => rfl
  | nd l r =>
    have hd : i / 2 / 2 = i / 4 := by rw [Nat.div_div_eq_div_mul]
    rw [Tr.get_nd]
    show @Bool.rec (fun _ => CV) (fmg4 r i) (fmg4 l i) (Nat.beq (i / 2 % 2) 0) = _
    rw [fmg4_eq l i, fmg4_eq r i, nbeq]
    simp only [Tr.lft, Tr.rgt, hd]
    cases (i / 2 % 2 == 0) <;> rfl
theorem fms5_eq (t : Tr CV) (i : Nat) (v : CV) : fms5 t i v = Tr.set v 5 t (i / 2) := by
  have hd : i / 2 / 2 = i / 4 := by rw [Nat.div_div_eq_div_mul]
  rw [Tr.set_nd]
  show @Bool.rec (fun _ => Tr CV) (.nd (lftK t) (fms4 (rgtK t) i v)) (.nd (fms4 (lftK t) i v) (rgtK t)) (Nat.beq (i / 2 % 2) 0) = _
  rw [fms4_eq, fms4_eq, nbeq, lftK_eq, rgtK_eq]
  simp only [hd]
  cases (i / 2 % 2 == 0) <;> rfl
noncomputable def fmg6 (t : Tr CV) (i : Nat) : CV := @Tr.rec CV (fun _ => CV) .top (fun _ => .top) (fun l r _ _ => @Bool.rec (fun _ => CV) (fmg5 r i) (fmg5 l i) (Nat.beq (Nat.mod (Nat.div i 1) 2) 0)) t
noncomputable def fms6 (t : Tr CV) (i : Nat) (v : CV) : Tr CV := @Bool.rec (fun _ => Tr CV) (.nd (lftK t) (fms5 (rgtK t) i v)) (.nd (fms5 (lftK t) i v) (rgtK t)) (Nat.beq (Nat.mod (Nat.div i 1) 2) 0)
theorem fmg6_eq (t : Tr CV) (i : Nat) : fmg6 t i = Tr.get .top 6 t (i / 1) := by
  cases t with
  | e => rfl
  | lf v => rfl
  | nd l r =>
    have hd : i / 1 / 2 = i / 2 := by rw [Nat.div_div_eq_div_mul]
    rw [Tr.get_nd]
    show @Bool.rec (fun _ => CV) (fmg5 r i) (fmg5 l i) (Nat.beq (i / 1 % 2) 0) = _
    rw [fmg5_eq l i, fmg5_eq r i, nbeq]
    simp only [Tr.lft, Tr.rgt, hd]
    cases (i / 1 % 2 == 0) <;> rfl
theorem fms6_eq (t : Tr CV) (i : Nat) (v : CV) : fms6 t i v = Tr.set v 6 t (i / 1) := by
  have hd : i / 1 / 2 = i / 2 := by rw [Nat.div_div_eq_div_mul]
  rw [Tr.set_nd]
  show @Bool.rec (fun _ => Tr CV) (.nd (lftK t) (fms5 (rgtK t) i v)) (.nd (fms5 (lftK t) i v) (rgtK t)) (Nat.beq (i / 1 % 2) 0) = _
  rw [fms5_eq, fms5_eq, nbeq, lftK_eq, rgtK_eq]
  simp only [hd]
  cases (i / 1 % 2 == 0) <;> rfl
noncomputable def hkg0 (t : Tr CB) (_ : Nat) : CB := @Tr.rec CB (fun _ => CB) .dead (fun v => v) (fun _ _ _ _ => .dead) t
noncomputable def hks0 (_ : Tr CB) (_ : Nat) (v : CB) : Tr CB := .lf v
theorem hkg0_eq (t : Tr CB) (i j : Nat) : hkg0 t i = Tr.get .dead 0 t j := by cases t <;> rfl
theorem hks0_eq (t : Tr CB) (i j : Nat) (v : CB) : hks0 t i v = Tr.set v 0 t j := rfl
noncomputable def hkg1 (t : Tr CB) (i : Nat) : CB := @Tr.rec CB (fun _ => CB) .dead (fun _ => .dead) (fun l r _ _ => @Bool.rec (fun _ => CB) (hkg0 r i) (hkg0 l i) (Nat.beq (Nat.mod (Nat.div i 2048) 2) 0)) t
noncomputable def hks1 (t : Tr CB) (i : Nat) (v : CB) : Tr CB := @Bool.rec (fun _ => Tr CB) (.nd (lftK t) (hks0 (rgtK t) i v)) (.nd (hks0 (lftK t) i v) (rgtK t)) (Nat.beq (Nat.mod (Nat.div i 2048) 2) 0)
theorem hkg1_eq (t : Tr CB) (i : Nat) : hkg1 t i = Tr.get .dead 1 t (i / 2048) := by
  cases t with
  | e => rfl
  | lf v => rfl
  | nd l r =>
    have hd : i / 2048 / 2 = i / 4096 := by rw [Nat.div_div_eq_div_mul]
    rw [Tr.get_nd]
    show @Bool.rec (fun _ => CB) (hkg0 r i) (hkg0 l i) (Nat.beq (i / 2048 % 2) 0) = _
    rw [hkg0_eq l i ((i / 2048) / 2), hkg0_eq r i ((i / 2048) / 2), nbeq]
    simp only [Tr.lft, Tr.rgt]
    cases (i / 2048 % 2 == 0) <;> rfl
theorem hks1_eq (t : Tr CB) (i : Nat) (v : CB) : hks1 t i v = Tr.set v 1 t (i / 2048) := by
  have hd : i / 2048 / 2 = i / 4096 := by rw [Nat.div_div_eq_div_mul]
  rw [Tr.set_nd]
  show @Bool.rec (fun _ => Tr CB) (.nd (lftK t) (hks0 (rgtK t) i v)) (.nd (hks0 (lftK t) i v) (rgtK t)) (Nat.beq (i / 2048 % 2) 0) = _
  rw [hks0_eq _ i ((i / 2048) / 2), hks0_eq _ i ((i / 2048) / 2), nbeq, lftK_eq, rgtK_eq]
  cases (i / 2048 % 2 == 0) <;> rfl
noncomputable def hkg2 (t : Tr CB) (i : Nat) : CB := @Tr.rec CB (fun _ => CB) .dead (fun _ => .dead) (fun l r _ _ => @Bool.rec (fun _ => CB) (hkg1 r i) (hkg1 l i) (Nat.beq (Nat.mod (Nat.div i 1024) 2) 0)) t
noncomputable def hks2 (t : Tr CB) (i : Nat) (v : CB) : Tr CB := @Bool.rec (fun _ => Tr CB) (.nd (lftK t) (hks1 (rgtK t) i v)) (.nd (hks1 (lftK t) i v) (rgtK t)) (Nat.beq (Nat.mod (Nat.div i 1024) 2) 0)
theorem hkg2_eq (t : Tr CB) (i : Nat) : hkg2 t i = Tr.get .dead 2 t (i / 1024) := by
  cases t with
  | e => rfl
  | lf v => rfl
  | nd l r =>
    have hd : i / 1024 / 2 = i / 2048 := by rw [Nat.div_div_eq_div_mul]
    rw [Tr.get_nd]
    show @Bool.rec (fun _ => CB) (hkg1 r i) (hkg1 l i) (Nat.beq (i / 1024 % 2) 0) = _
    rw [hkg1_eq l i, hkg1_eq r i, nbeq]
    simp only [Tr.lft, Tr.rgt, hd]
    cases (i / 1024 % 2 == 0) <;> rfl
theorem hks2_eq (t : Tr CB) (i : Nat) (v : CB) : hks2 t i v = Tr.set v 2 t (i / 1024) := by
  have hd : i / 1024 / 2 = i / 2048 := by rw [Nat.div_div_eq_div_mul]
  rw [Tr.set_nd]
  show @Bool.rec (fun _ => Tr CB) (.nd (lftK t) (hks1 (rgtK t) i v)) (.nd (hks1 (lftK t) i v) (rgtK t)) (Nat.beq (i / 1024 % 2) 0) = _
  rw [hks1_eq, hks1_eq, nbeq, lftK_eq, rgtK_eq]
  simp only [hd]
  cases (i / 1024 % 2 == 0) <;> rfl
noncomputable def hkg3 (t : Tr CB) (i : Nat) : CB := @Tr.rec CB (fun _ => CB) .dead (fun _ => .dead) (fun l r _ _ => @Bool.rec (fun _ => CB) (hkg2 r i) (hkg2 l i) (Nat.beq (Nat.mod (Nat.div i 512) 2) 0)) t
noncomputable def hks3 (t : Tr CB) (i : Nat) (v : CB) : Tr CB := @Bool.rec (fun _ => Tr CB) (.nd (lftK t) (hks2 (rgtK t) i v)) (.nd (hks2 (lftK t) i v) (rgtK t)) (Nat.beq (Nat.mod (Nat.div i 512) 2) 0)
theorem hkg3_eq (t : Tr CB) (i : Nat) : hkg3 t i = Tr.get .dead 3 t (i / 512) := by
  cases t with
  | e => rfl
  | lf v => rfl
  | nd l r =>
    have hd : i / 512 / 2 = i / 1024 := by rw [Nat.div_div_eq_div_mul]
    rw [Tr.get_nd]
    show @Bool.rec (fun _ => CB) (hkg2 r i) (hkg2 l i) (Nat.beq (i / 512 % 2) 0) = _
    rw [hkg2_eq l i, hkg2_eq r i, nbeq]
    simp only [Tr.lft, Tr.rgt, hd]
    cases (i / 512 % 2 == 0) <;> rfl
theorem hks3_eq (t : Tr CB) (i : Nat) (v : CB) : hks3 t i v = Tr.set v 3 t (i / 512) := by
  have hd : i / 512 / 2 = i / 1024 := by rw [Nat.div_div_eq_div_mul]
  rw [Tr.set_nd]
  show @Bool.rec (fun _ => Tr CB) (.nd (lftK t) (hks2 (rgtK t) i v)) (.nd (hks2 (lftK t) i v) (rgtK t)) (Nat.beq (i / 512 % 2) 0) = _
  rw [hks2_eq, hks2_eq, nbeq, lftK_eq, rgtK_eq]
  simp only [hd]
  cases (i / 512 % 2 == 0) <;> rfl
noncomputable def hkg4 (t : Tr CB) (i : Nat) : CB := @Tr.rec CB (fun _ => CB) .dead (fun _ => .dead) (fun l r _ _ => @Bool.rec (fun _ => CB) (hkg3 r i) (hkg3 l i) (Nat.beq (Nat.mod (Nat.div i 256) 2) 0)) t
noncomputable def hks4 (t : Tr CB) (i : Nat) (v : CB) : Tr CB := @Bool.rec (fun _ => Tr CB) (.nd (lftK t) (hks3 (rgtK t) i v)) (.nd (hks3 (lftK t) i v) (rgtK t)) (Nat.beq (Nat.mod (Nat.div i 256) 2) 0)
theorem hkg4_eq (t : Tr CB) (i : Nat) : hkg4 t i = Tr.get .dead 4 t (i / 256) := by
  cases t with
  | e => rfl
  | lf v => rfl
  | nd l r =>
    have hd : i / 256 / 2 = i / 512 := by rw [Nat.div_div_eq_div_mul]
    rw [Tr.get_nd]
    show @Bool.rec (fun _ => CB) (hkg3 r i) (hkg3 l i) (Nat.beq (i / 256 % 2) 0) = _
    rw [hkg3_eq l i, hkg3_eq r i, nbeq]
    simp only [Tr.lft, Tr.rgt, hd]
    cases (i / 256 % 2 == 0) <;> rfl
theorem hks4_eq (t : Tr CB) (i : Nat) (v : CB) : hks4 t i v = Tr.set v 4 t (i / 256) := by
  have hd : i / 256 / 2 = i / 512 := by rw [Nat.div_div_eq_div_mul]
  rw [Tr.set_nd]
  show @Bool.rec (fun _ => Tr CB) (.nd (lftK t) (hks3 (rgtK t) i v)) (.nd (hks3 (lftK t) i v) (rgtK t)) (Nat.beq (i / 256 % 2) 0) = _
  rw [hks3_eq, hks3_eq, nbeq, lftK_eq, rgtK_eq]
  simp only [hd]
  cases (i / 256 % 2 == 0) <;> rfl
noncomputable def hkg5 (t : Tr CB) (i : Nat) : CB := @Tr.rec CB (fun _ => CB) .dead (fun _ => .dead) (fun l r _ _ => @Bool.rec (fun _ => CB) (hkg4 r i) (hkg4 l i) (Nat.beq (Nat.mod (Nat.div i 128) 2) 0)) t
noncomputable def hks5 (t : Tr CB) (i : Nat) (v : CB) : Tr CB := @Bool.rec (fun _ => Tr CB) (.nd (lftK t) (hks4 (rgtK t) i v)) (.nd (hks4 (lftK t) i v) (rgtK t)) (Nat.beq (Nat.mod (Nat.div i 128) 2) 0)
theorem hkg5_eq (t : Tr CB) (i : Nat) : hkg5 t i = Tr.get .dead 5 t (i / 128) := by
  cases t with
  | e => rfl
  | lf v => rfl
  | nd l r =>
    have hd : i / 128 / 2 = i / 256 := by rw [Nat.div_div_eq_div_mul]
    rw [Tr.get_nd]
    show @Bool.rec (fun _ => CB) (hkg4 r i) (hkg4 l i) (Nat.beq (i / 128 % 2) 0) = _
    rw [hkg4_eq l i, hkg4_eq r i, nbeq]
    simp only [Tr.lft, Tr.rgt, hd]
    cases (i / 128 % 2 == 0) <;> rfl
theorem hks5_eq (t : Tr CB) (i : Nat) (v : CB) : hks5 t i v = Tr.set v 5 t (i / 128) := by
  have hd : i / 128 / 2 = i / 256 := by rw [Nat.div_div_eq_div_mul]
  rw [Tr.set_nd]
  show @Bool.rec (fun _ => Tr CB) (.nd (lftK t) (hks4 (rgtK t) i v)) (.nd (hks4 (lftK t) i v) (rgtK t)) (Nat.beq (i / 128 % 2) 0) = _
  rw [hks4_eq, hks4_eq, nbeq, lftK_eq, rgtK_eq]
  simp only [hd]
  cases (i / 128 % 2 == 0) <;> rfl
noncomputable def hkg6 (t : Tr CB) (i : Nat) : CB := @Tr.rec CB (fun _ => CB) .dead (fun _ => .dead) (fun l r _ _ => @Bool.rec (fun _ => CB) (hkg5 r i) (hkg5 l i) (Nat.beq (Nat.mod (Nat.div i 64) 2) 0)) t
noncomputable def hks6 (t : Tr CB) (i : Nat) (v : CB) : Tr CB := @Bool.rec (fun _ => Tr CB) (.nd (lftK t) (hks5 (rgtK t) i v)) (.nd (hks5 (lftK t) i v) (rgtK t)) (Nat.beq (Nat.mod (Nat.div i 64) 2) 0)
theorem hkg6_eq (t : Tr CB) (i : Nat) : hkg6 t i = Tr.get .dead 6 t (i / 64) := by
  cases t with
  | e => rfl
  | lf v => rfl
  | nd l r =>
    have hd : i / 64 / 2 = i / 128 := by rw [Nat.div_div_eq_div_mul]
    rw [Tr.get_nd]
    show @Bool.rec (fun _ => CB) (hkg5 r i) (hkg5 l i) (Nat.beq (i / 64 % 2) 0) = _
    rw [hkg5_eq l i, hkg5_eq r i, nbeq]
    simp only [Tr.lft, Tr.rgt, hd]
    cases (i / 64 % 2 == 0) <;> rfl
theorem hks6_eq (t : Tr CB) (i : Nat) (v : CB) : hks6 t i v = Tr.set v 6 t (i / 64) := by
  have hd : i / 64 / 2 = i / 128 := by rw [Nat.div_div_eq_div_mul]
  rw [Tr.set_nd]
  show @Bool.rec (fun _ => Tr CB) (.nd (lftK t) (hks5 (rgtK t) i v)) (.nd (hks5 (lftK t) i v) (rgtK t)) (Nat.beq (i / 64 % 2) 0) = _
  rw [hks5_eq, hks5_eq, nbeq, lftK_eq, rgtK_eq]
  simp only [hd]
  cases (i / 64 % 2 == 0) <;> rfl
noncomputable def hkg7 (t : Tr CB) (i : Nat) : CB := @Tr.rec CB (fun _ => CB) .dead (fun _ => .dead) (fun l r _ _ => @Bool.rec (fun _ => CB) (hkg6 r i) (hkg6 l i) (Nat.beq (Nat.mod (Nat.div i 32) 2) 0)) t
noncomputable def hks7 (t : Tr CB) (i : Nat) (v : CB) : Tr CB := @Bool.rec (fun _ => Tr CB) (.nd (lftK t) (hks6 (rgtK t) i v)) (.nd (hks6 (lftK t) i v) (rgtK t)) (Nat.beq (Nat.mod (Nat.div i 32) 2) 0)
theorem hkg7_eq (t : Tr CB) (i : Nat) : hkg7 t i = Tr.get .dead 7 t (i / 32) := by
  cases t with
  | e => rfl
  | lf v => rfl
  | nd l r =>
    have hd : i / 32 / 2 = i / 64 := by rw [Nat.div_div_eq_div_mul]
    rw [Tr.get_nd]
    show @Bool.rec (fun _ => CB) (hkg6 r i) (hkg6 l i) (Nat.beq (i / 32 % 2) 0) = _
    rw [hkg6_eq l i, hkg6_eq r i, nbeq]
    simp only [Tr.lft, Tr.rgt, hd]
    cases (i / 32 % 2 == 0) <;> rfl
theorem hks7_eq (t : Tr CB) (i : Nat) (v : CB) : hks7 t i v = Tr.set v 7 t (i / 32) := by
  have hd : i / 32 / 2 = i / 64 := by rw [Nat.div_div_eq_div_mul]
  rw [Tr.set_nd]
  show @Bool.rec (fun _ => Tr CB) (.nd (lftK t) (hks6 (rgtK t) i v)) (.nd (hks6 (lftK t) i v) (rgtK t)) (Nat.beq (i / 32 % 2) 0) = _
  rw [hks6_eq, hks6_eq, nbeq, lftK_eq, rgtK_eq]
  simp only [hd]
  cases (i / 32 % 2 == 0) <;> rfl
noncomputable def hkg8 (t : Tr CB) (i : Nat) : CB := @Tr.rec CB (fun _ => CB) .dead (fun _ => .dead) (fun l r _ _ => @Bool.rec (fun _ => CB) (hkg7 r i) (hkg7 l i) (Nat.beq (Nat.mod (Nat.div i 16) 2) 0)) t
noncomputable def hks8 (t : Tr CB) (i : Nat) (v : CB) : Tr CB := @Bool.rec (fun _ => Tr CB) (.nd (lftK t) (hks7 (rgtK t) i v)) (.nd (hks7 (lftK t) i v) (rgtK t)) (Nat.beq (Nat.mod (Nat.div i 16) 2) 0)
theorem hkg8_eq (t : Tr CB) (i : Nat) : hkg8 t i = Tr.get .dead 8 t (i / 16) := by
  cases t with
  | e => rfl
  | lf v => rfl
  | nd l r =>
    have hd : i / 16 / 2 = i / 32 := by rw [Nat.div_div_eq_div_mul]
    rw [Tr.get_nd]
    show @Bool.rec (fun _ => CB) (hkg7 r i) (hkg7 l i) (Nat.beq (i / 16 % 2) 0) = _
    rw [hkg7_eq l i, hkg7_eq r i, nbeq]
    simp only [Tr.lft, Tr.rgt, hd]
    cases (i / 16 % 2 == 0) <;> rfl
theorem hks8_eq (t : Tr CB) (i : Nat) (v : CB) : hks8 t i v = Tr.set v 8 t (i / 16) := by
  have hd : i / 16 / 2 = i / 32 := by rw [Nat.div_div_eq_div_mul]
  rw [Tr.set_nd]
  show @Bool.rec (fun _ => Tr CB) (.nd (lftK t) (hks7 (rgtK t) i v)) (.nd (hks7 (lftK t) i v) (rgtK t)) (Nat.beq (i / 16 % 2) 0) = _
  rw [hks7_eq, hks7_eq, nbeq, lftK_eq, rgtK_eq]
  simp only [hd]
  cases (i / 16 % 2 == 0) <;> rfl
noncomputable def hkg9 (t : Tr CB) (i : Nat) : CB := @Tr.rec CB (fun _ => CB) .dead (fun _ => .dead) (fun l r _ _ => @Bool.rec (fun _ => CB) (hkg8 r i) (hkg8 l i) (Nat.beq (Nat.mod (Nat.div i 8) 2) 0)) t
noncomputable def hks9 (t : Tr CB) (i : Nat) (v : CB) : Tr CB := @Bool.rec (fun _ => Tr CB) (.nd (lftK t) (hks8 (rgtK t) i v)) (.nd (hks8 (lftK t) i v) (rgtK t)) (Nat.beq (Nat.mod (Nat.div i 8) 2) 0)
theorem hkg9_eq (t : Tr CB) (i : Nat) : hkg9 t i = Tr.get .dead 9 t (i / 8) := by
  cases t with
  | e => rfl
  | lf v => rfl
  | nd l r =>
    have hd : i / 8 / 2 = i / 16 := by rw [Nat.div_div_eq_div_mul]
    rw [Tr.get_nd]
    show @Bool.rec (fun _ => CB) (hkg8 r i) (hkg8 l i) (Nat.beq (i / 8 % 2) 0) = _
    rw [hkg8_eq l i, hkg8_eq r i, nbeq]
    simp only [Tr.lft, Tr.rgt, hd]
    cases (i / 8 % 2 == 0) <;> rfl
theorem hks9_eq (t : Tr CB) (i : Nat) (v : CB) : hks9 t i v = Tr.set v 9 t (i / 8) := by
  have hd : i / 8 / 2 = i / 16 := by rw [Nat.div_div_eq_div_mul]
  rw [Tr.set_nd]
  show @Bool.rec (fun _ => Tr CB) (.nd (lftK t) (hks8 (rgtK t) i v)) (.nd (hks8 (lftK t) i v) (rgtK t)) (Nat.beq (i / 8 % 2) 0) = _
  rw [hks8_eq, hks8_eq, nbeq, lftK_eq, rgtK_eq]
  simp only [hd]
  cases (i / 8 % 2 == 0) <;> rfl
noncomputable def hkg10 (t : Tr CB) (i : Nat) : CB := @Tr.rec CB (fun _ => CB) .dead (fun _ => .dead) (fun l r _ _ => @Bool.rec (fun _ => CB) (hkg9 r i) (hkg9 l i) (Nat.beq (Nat.mod (Nat.div i 4) 2) 0)) t
noncomputable def hks10 (t : Tr CB) (i : Nat) (v : CB) : Tr CB := @Bool.rec (fun _ => Tr CB) (.nd (lftK t) (hks9 (rgtK t) i v)) (.nd (hks9 (lftK t) i v) (rgtK t)) (Nat.beq (Nat.mod (Nat.div i 4) 2) 0)
theorem hkg10_eq (t : Tr CB) (i : Nat) : hkg10 t i = Tr.get .dead 10 t (i / 4) := by
  cases t with
  | e => rfl
  | lf v => rfl
  | nd l r =>
    have hd : i / 4 / 2 = i / 8 := by rw [Nat.div_div_eq_div_mul]
    rw [Tr.get_nd]
    show @Bool.rec (fun _ => CB) (hkg9 r i) (hkg9 l i) (Nat.beq (i / 4 % 2) 0) = _
    rw [hkg9_eq l i, hkg9_eq r i, nbeq]
    simp only [Tr.lft, Tr.rgt, hd]
    cases (i / 4 % 2 == 0) <;> rfl
theorem hks10_eq (t : Tr CB) (i : Nat) (v : CB) : hks10 t i v = Tr.set v 10 t (i / 4) := by
  have hd : i / 4 / 2 = i / 8 := by rw [Nat.div_div_eq_div_mul]
  rw [Tr.set_nd]
  show @Bool.rec (fun _ => Tr CB) (.nd (lftK t) (hks9 (rgtK t) i v)) (.nd (hks9 (lftK t) i v) (rgtK t)) (Nat.beq (i / 4 % 2) 0) = _
  rw [hks9_eq, hks9_eq, nbeq, lftK_eq, rgtK_eq]
  simp only [hd]
  cases (i / 4 % 2 == 0) <;> rfl
noncomputable def hkg11 (t : Tr CB) (i : Nat) : CB := @Tr.rec CB (fun _ => CB) .dead (fun _ => .dead) (fun l r _ _ => @Bool.rec (fun _ => CB) (hkg10 r i) (hkg10 l i) (Nat.beq (Nat.mod (Nat.div i 2) 2) 0)) t
noncomputable def hks11 (t : Tr CB) (i : Nat) (v : CB) : Tr CB := @Bool.rec (fun _ => Tr CB) (.nd (lftK t) (hks10 (rgtK t) i v)) (.nd (hks10 (lftK t) i v) (rgtK t)) (Nat.beq (Nat.mod (Nat.div i 2) 2) 0)
theorem hkg11_eq (t : Tr CB) (i : Nat) : hkg11 t i = Tr.get .dead 11 t (i / 2) := by
  cases t with
  | e => rfl
  | lf v => rfl
  | nd l r =>
    have hd : i / 2 / 2 = i / 4 := by rw [Nat.div_div_eq_div_mul]
    rw [Tr.get_nd]
    show @Bool.rec (fun _ => CB) (hkg10 r i) (hkg10 l i) (Nat.beq (i / 2 % 2) 0) = _
    rw [hkg10_eq l i, hkg10_eq r i, nbeq]
    simp only [Tr.lft, Tr.rgt, hd]
    cases (i / 2 % 2 == 0) <;> rfl
theorem hks11_eq (t : Tr CB) (i : Nat) (v : CB) : hks11 t i v = Tr.set v 11 t (i / 2) := by
  have hd : i / 2 / 2 = i / 4 := by rw [Nat.div_div_eq_div_mul]
  rw [Tr.set_nd]
  show @Bool.rec (fun _ => Tr CB) (.nd (lftK t) (hks10 (rgtK t) i v)) (.nd (hks10 (lftK t) i v) (rgtK t)) (Nat.beq (i / 2 % 2) 0) = _
  rw [hks10_eq, hks10_eq, nbeq, lftK_eq, rgtK_eq]
  simp only [hd]
  cases (i / 2 % 2 == 0) <;> rfl
noncomputable def hkg12 (t : Tr CB) (i : Nat) : CB := @Tr.rec CB (fun _ => CB) .dead (fun _ => .dead) (fun l r _ _ => @Bool.rec (fun _ => CB) (hkg11 r i) (hkg11 l i) (Nat.beq (Nat.mod (Nat.div i 1) 2) 0)) t
noncomputable def hks12 (t : Tr CB) (i : Nat) (v : CB) : Tr CB := @Bool.rec (fun _ => Tr CB) (.nd (lftK t) (hks11 (rgtK t) i v)) (.nd (hks11 (lftK t) i v) (rgtK t)) (Nat.beq (Nat.mod (Nat.div i 1) 2) 0)
theorem hkg12_eq (t : Tr CB) (i : Nat) : hkg12 t i = Tr.get .dead 12 t (i / 1) := by
  cases t with
  | e => rfl
  | lf v => rfl
  | nd l r =>
    have hd : i / 1 / 2 = i / 2 := by rw [Nat.div_div_eq_div_mul]
    rw [Tr.get_nd]
    show @Bool.rec (fun _ => CB) (hkg11 r i) (hkg11 l i) (Nat.beq (i / 1 % 2) 0) = _
    rw [hkg11_eq l i, hkg11_eq r i, nbeq]
    simp only [Tr.lft, Tr.rgt, hd]
    cases (i / 1 % 2 == 0) <;> rfl
theorem hks12_eq (t : Tr CB) (i : Nat) (v : CB) : hks12 t i v = Tr.set v 12 t (i / 1) := by
  have hd : i / 1 / 2 = i / 2 := by rw [Nat.div_div_eq_div_mul]
  rw [Tr.set_nd]
  show @Bool.rec (fun _ => Tr CB) (.nd (lftK t) (hks11 (rgtK t) i v)) (.nd (hks11 (lftK t) i v) (rgtK t)) (Nat.beq (i / 1 % 2) 0) = _
  rw [hks11_eq, hks11_eq, nbeq, lftK_eq, rgtK_eq]
  simp only [hd]
  cases (i / 1 % 2 == 0) <;> rfl

noncomputable def hmg0 (t : Tr CB) (_ : Nat) : CB := @Tr.rec CB (fun _ => CB) .dead (fun v => v) (fun _ _ _ _ => .dead) t
noncomputable def hms0 (_ : Tr CB) (_ : Nat) (v : CB) : Tr CB := .lf v
theorem hmg0_eq (t : Tr CB) (i j : Nat) : hmg0 t i = Tr.get .dead 0 t j := by cases t <;> rfl
theorem hms0_eq (t : Tr CB) (i j : Nat) (v : CB) : hms0 t i v = Tr.set v 0 t j := rfl
noncomputable def hmg1 (t : Tr CB) (i : Nat) : CB := @Tr.rec CB (fun _ => CB) .dead (fun _ => .dead) (fun l r _ _ => @Bool.rec (fun _ => CB) (hmg0 r i) (hmg0 l i) (Nat.beq (Nat.mod (Nat.div i 32) 2) 0)) t
noncomputable def hms1 (t : Tr CB) (i : Nat) (v : CB) : Tr CB := @Bool.rec (fun _ => Tr CB) (.nd (lftK t) (hms0 (rgtK t) i v)) (.nd (hms0 (lftK t) i v) (rgtK t)) (Nat.beq (Nat.mod (Nat.div i 32) 2) 0)
theorem hmg1_eq (t : Tr CB) (i : Nat) : hmg1 t i = Tr.get .dead 1 t (i / 32) := by
  cases t with
  | e => rfl
  | lf v => rfl
  | nd l r =>
    have hd : i / 32 / 2 = i / 64 := by rw [Nat.div_div_eq_div_mul]
    rw [Tr.get_nd]
    show @Bool.rec (fun _ => CB) (hmg0 r i) (hmg0 l i) (Nat.beq (i / 32 % 2) 0) = _
    rw [hmg0_eq l i ((i / 32) / 2), hmg0_eq r i ((i / 32) / 2), nbeq]
    simp only [Tr.lft, Tr.rgt]
    cases (i / 32 % 2 == 0) <;> rfl
theorem hms1_eq (t : Tr CB) (i : Nat) (v : CB) : hms1 t i v = Tr.set v 1 t (i / 32) := by
  have hd : i / 32 / 2 = i / 64 := by rw [Nat.div_div_eq_div_mul]
  rw [Tr.set_nd]
  show @Bool.rec (fun _ => Tr CB) (.nd (lftK t) (hms0 (rgtK t) i v)) (.nd (hms0 (lftK t) i v) (rgtK t)) (Nat.beq (i / 32 % 2) 0) = _
  rw [hms0_eq _ i ((i / 32) / 2), hms0_eq _ i ((i / 32) / 2), nbeq, lftK_eq, rgtK_eq]
  cases (i / 32 % 2 == 0) <;> rfl
noncomputable def hmg2 (t : Tr CB) (i : Nat) : CB := @Tr.rec CB (fun _ => CB) .dead (fun _ => .dead) (fun l r _ _ => @Bool.rec (fun _ => CB) (hmg1 r i) (hmg1 l i) (Nat.beq (Nat.mod (Nat.div i 16) 2) 0)) t
noncomputable def hms2 (t : Tr CB) (i : Nat) (v : CB) : Tr CB := @Bool.rec (fun _ => Tr CB) (.nd (lftK t) (hms1 (rgtK t) i v)) (.nd (hms1 (lftK t) i v) (rgtK t)) (Nat.beq (Nat.mod (Nat.div i 16) 2) 0)
theorem hmg2_eq (t : Tr CB) (i : Nat) : hmg2 t i = Tr.get .dead 2 t (i / 16) := by
  cases t with
  | e => rfl
  | lf v => rfl
  | nd l r =>
    have hd : i / 16 / 2 = i / 32 := by rw [Nat.div_div_eq_div_mul]
    rw [Tr.get_nd]
    show @Bool.rec (fun _ => CB) (hmg1 r i) (hmg1 l i) (Nat.beq (i / 16 % 2) 0) = _
    rw [hmg1_eq l i, hmg1_eq r i, nbeq]
    simp only [Tr.lft, Tr.rgt, hd]
    cases (i / 16 % 2 == 0) <;> rfl
theorem hms2_eq (t : Tr CB) (i : Nat) (v : CB) : hms2 t i v = Tr.set v 2 t (i / 16) := by
  have hd : i / 16 / 2 = i / 32 := by rw [Nat.div_div_eq_div_mul]
  rw [Tr.set_nd]
  show @Bool.rec (fun _ => Tr CB) (.nd (lftK t) (hms1 (rgtK t) i v)) (.nd (hms1 (lftK t) i v) (rgtK t)) (Nat.beq (i / 16 % 2) 0) = _
  rw [hms1_eq, hms1_eq, nbeq, lftK_eq, rgtK_eq]
  simp only [hd]
  cases (i / 16 % 2 == 0) <;> rfl
noncomputable def hmg3 (t : Tr CB) (i : Nat) : CB := @Tr.rec CB (fun _ => CB) .dead (fun _ => .dead) (fun l r _ _ => @Bool.rec (fun _ => CB) (hmg2 r i) (hmg2 l i) (Nat.beq (Nat.mod (Nat.div i 8) 2) 0)) t
noncomputable def hms3 (t : Tr CB) (i : Nat) (v : CB) : Tr CB := @Bool.rec (fun _ => Tr CB) (.nd (lftK t) (hms2 (rgtK t) i v)) (.nd (hms2 (lftK t) i v) (rgtK t)) (Nat.beq (Nat.mod (Nat.div i 8) 2) 0)
theorem hmg3_eq (t : Tr CB) (i : Nat) : hmg3 t i = Tr.get .dead 3 t (i / 8) := by
  cases t with
  | e => rfl
  | lf v => rfl
  | nd l r =>
    have hd : i / 8 / 2 = i / 16 := by rw [Nat.div_div_eq_div_mul]
    rw [Tr.get_nd]
    show @Bool.rec (fun _ => CB) (hmg2 r i) (hmg2 l i) (Nat.beq (i / 8 % 2) 0) = _
    rw [hmg2_eq l i, hmg2_eq r i, nbeq]
    simp only [Tr.lft, Tr.rgt, hd]
    cases (i / 8 % 2 == 0) <;> rfl
theorem hms3_eq (t : Tr CB) (i : Nat) (v : CB) : hms3 t i v = Tr.set v 3 t (i / 8) := by
  have hd : i / 8 / 2 = i / 16 := by rw [Nat.div_div_eq_div_mul]
  rw [Tr.set_nd]
  show @Bool.rec (fun _ => Tr CB) (.nd (lftK t) (hms2 (rgtK t) i v)) (.nd (hms2 (lftK t) i v) (rgtK t)) (Nat.beq (i / 8 % 2) 0) = _
  rw [hms2_eq, hms2_eq, nbeq, lftK_eq, rgtK_eq]
  simp only [hd]
  cases (i / 8 % 2 == 0) <;> rfl
noncomputable def hmg4 (t : Tr CB) (i : Nat) : CB := @Tr.rec CB (fun _ => CB) .dead (fun _ => .dead) (fun l r _ _ => @Bool.rec (fun _ => CB) (hmg3 r i) (hmg3 l i) (Nat.beq (Nat.mod (Nat.div i 4) 2) 0)) t
noncomputable def hms4 (t : Tr CB) (i : Nat) (v : CB) : Tr CB := @Bool.rec (fun _ => Tr CB) (.nd (lftK t) (hms3 (rgtK t) i v)) (.nd (hms3 (lftK t) i v) (rgtK t)) (Nat.beq (Nat.mod (Nat.div i 4) 2) 0)
theorem hmg4_eq (t : Tr CB) (i : Nat) : hmg4 t i = Tr.get .dead 4 t (i / 4) := by
  cases t with
  | e => rfl
  | lf v => rfl
  | nd l r =>
    have hd : i / 4 / 2 = i / 8 := by rw [Nat.div_div_eq_div_mul]
    rw [Tr.get_nd]
    show @Bool.rec (fun _ => CB) (hmg3 r i) (hmg3 l i) (Nat.beq (i / 4 % 2) 0) = _
    rw [hmg3_eq l i, hmg3_eq r i, nbeq]
    simp only [Tr.lft, Tr.rgt, hd]
    cases (i / 4 % 2 == 0) <;> rfl
theorem hms4_eq (t : Tr CB) (i : Nat) (v : CB) : hms4 t i v = Tr.set v 4 t (i / 4) := by
  have hd : i / 4 / 2 = i / 8 := by rw [Nat.div_div_eq_div_mul]
  rw [Tr.set_nd]
  show @Bool.rec (fun _ => Tr CB) (.nd (lftK t) (hms3 (rgtK t) i v)) (.nd (hms3 (lftK t) i v) (rgtK t)) (Nat.beq (i / 4 % 2) 0) = _
  rw [hms3_eq, hms3_eq, nbeq, lftK_eq, rgtK_eq]
  simp only [hd]
  cases (i / 4 % 2 == 0) <;> rfl
noncomputable def hmg5 (t : Tr CB) (i : Nat) : CB := @Tr.rec CB (fun _ => CB) .dead (fun _ => .dead) (fun l r _ _ => @Bool.rec (fun _ => CB) (hmg4 r i) (hmg4 l i) (Nat.beq (Nat.mod (Nat.div i 2) 2) 0)) t
noncomputable def hms5 (t : Tr CB) (i : Nat) (v : CB) : Tr CB := @Bool.rec (fun _ => Tr CB) (.nd (lftK t) (hms4 (rgtK t) i v)) (.nd (hms4 (lftK t) i v) (rgtK t)) (Nat.beq (Nat.mod (Nat.div i 2) 2) 0)
theorem hmg5_eq (t : Tr CB) (i : Nat) : hmg5 t i = Tr.get .dead 5 t (i / 2) := by
  cases t with
  | e => rfl
  | lf v => rfl
  | nd l r =>
    have hd : i / 2 / 2 = i / 4 := by rw [Nat.div_div_eq_div_mul]
    rw [Tr.get_nd]
    show @Bool.rec (fun _ => CB) (hmg4 r i) (hmg4 l i) (Nat.beq (i / 2 % 2) 0) = _
    rw [hmg4_eq l i, hmg4_eq r i, nbeq]
    simp only [Tr.lft, Tr.rgt, hd]
    cases (i / 2 % 2 == 0) <;> rfl
theorem hms5_eq (t : Tr CB) (i : Nat) (v : CB) : hms5 t i v = Tr.set v 5 t (i / 2) := by
  have hd : i / 2 / 2 = i / 4 := by rw [Nat.div_div_eq_div_mul]
  rw [Tr.set_nd]
  show @Bool.rec (fun _ => Tr CB) (.nd (lftK t) (hms4 (rgtK t) i v)) (.nd (hms4 (lftK t) i v) (rgtK t)) (Nat.beq (i / 2 % 2) 0) = _
  rw [hms4_eq, hms4_eq, nbeq, lftK_eq, rgtK_eq]
  simp only [hd]
  cases (i / 2 % 2 == 0) <;> rfl
noncomputable def hmg6 (t : Tr CB) (i : Nat) : CB := @Tr.rec CB (fun _ => CB) .dead (fun _ => .dead) (fun l r _ _ => @Bool.rec (fun _ => CB) (hmg5 r i) (hmg5 l i) (Nat.beq (Nat.mod (Nat.div i 1) 2) 0)) t
noncomputable def hms6 (t : Tr CB) (i : Nat) (v : CB) : Tr CB := @Bool.rec (fun _ => Tr CB) (.nd (lftK t) (hms5 (rgtK t) i v)) (.nd (hms5 (lftK t) i v) (rgtK t)) (Nat.beq (Nat.mod (Nat.div i 1) 2) 0)
theorem hmg6_eq (t : Tr CB) (i : Nat) : hmg6 t i = Tr.get .dead 6 t (i / 1) := by
  cases t with
  | e => rfl
  | lf v => rfl
  | nd l r =>
    have hd : i / 1 / 2 = i / 2 := by rw [Nat.div_div_eq_div_mul]
    rw [Tr.get_nd]
    show @Bool.rec (fun _ => CB) (hmg5 r i) (hmg5 l i) (Nat.beq (i / 1 % 2) 0) = _
    rw [hmg5_eq l i, hmg5_eq r i, nbeq]
    simp only [Tr.lft, Tr.rgt, hd]
    cases (i / 1 % 2 == 0) <;> rfl
theorem hms6_eq (t : Tr CB) (i : Nat) (v : CB) : hms6 t i v = Tr.set v 6 t (i / 1) := by
  have hd : i / 1 / 2 = i / 2 := by rw [Nat.div_div_eq_div_mul]
  rw [Tr.set_nd]
  show @Bool.rec (fun _ => Tr CB) (.nd (lftK t) (hms5 (rgtK t) i v)) (.nd (hms5 (lftK t) i v) (rgtK t)) (Nat.beq (i / 1 % 2) 0) = _
  rw [hms5_eq, hms5_eq, nbeq, lftK_eq, rgtK_eq]
  simp only [hd]
  cases (i / 1 % 2 == 0) <;> rfl
/-- A frame of n slots, n at most 1024; one of at most 64 slots is a smaller tree. -/
abbrev Fr := Tr CV
noncomputable def fget (n : Nat) (f : Fr) (i : Nat) : CV := @Bool.rec (fun _ => CV) (fkg10 f i) (fmg6 f i) (Nat.ble n 64)
noncomputable def fset (n : Nat) (f : Fr) (i : Nat) (v : CV) : Fr := @Bool.rec (fun _ => Fr) (fks10 f i v) (fms6 f i v) (Nat.ble n 64)
abbrev Hp := Tr CB
/-- The first 64 blocks lie in a small tree of their own. -/
noncomputable def hget (f : Hp) (i : Nat) : CB := @Bool.rec (fun _ => CB) (hkg12 (rgtK f) i) (hmg6 (lftK f) i) (Nat.blt i 64)
noncomputable def hset (f : Hp) (i : Nat) (v : CB) : Hp := @Bool.rec (fun _ => Hp) (.nd (lftK f) (hks12 (rgtK f) i v)) (.nd (hms6 (lftK f) i v) (rgtK f)) (Nat.blt i 64)
theorem fget_set (n : Nat) (f : Fr) (d i : Nat) (v : CV) (hn : n ≤ 1024) (hd : d < n) (hi : i < n) : fget n (fset n f d v) i = if d = i then v else fget n f i := by
  unfold fget fset
  cases hb : Nat.ble n 64 with
  | true =>
    have hb : n ≤ 64 := by simpa using hb
    simp only
    rw [fmg6_eq, fmg6_eq, fms6_eq, Nat.div_one, Nat.div_one]
    exact Tr.get_set _ _ 6 f d i (by omega) (by omega)
  | false =>
    simp only
    rw [fkg10_eq, fkg10_eq, fks10_eq, Nat.div_one, Nat.div_one]
    exact Tr.get_set _ _ 10 f d i (by omega) (by omega)
theorem hget_set0 (f : Hp) (d i : Nat) (v : CB) (hd : d < 4096) (hi : i < 4096) : hget (hset f d v) i = if d = i then v else hget f i := by
  unfold hget hset
  have g1 : ∀ (t : Tr CB) (j : Nat), hmg6 t j = Tr.get .dead 6 t j := fun t j => by rw [hmg6_eq, Nat.div_one]
  have g2 : ∀ (t : Tr CB) (j : Nat), hkg12 t j = Tr.get .dead 12 t j := fun t j => by rw [hkg12_eq, Nat.div_one]
  have s1 : ∀ (t : Tr CB) (j : Nat), hms6 t j v = Tr.set v 6 t j := fun t j => by rw [hms6_eq, Nat.div_one]
  have s2 : ∀ (t : Tr CB) (j : Nat), hks12 t j v = Tr.set v 12 t j := fun t j => by rw [hks12_eq, Nat.div_one]
  cases hb : Nat.blt d 64 with
  | true =>
    have hb : d < 64 := by simpa [Nat.blt, Nat.succ_le_iff] using hb
    cases hc : Nat.blt i 64 with
    | true =>
      have hc : i < 64 := by simpa [Nat.blt, Nat.succ_le_iff] using hc
      simp only [lftK, rgtK]
      rw [g1, g1, s1]
      exact Tr.get_set _ _ 6 _ d i (by omega) (by omega)
    | false =>
      have hc : ¬ i < 64 := by intro h; rw [show Nat.blt i 64 = true from by simpa [Nat.blt, Nat.succ_le_iff] using h] at hc; cases hc
      simp only [lftK, rgtK]
      rw [if_neg (by omega)]
  | false =>
    have hb : ¬ d < 64 := by intro h; rw [show Nat.blt d 64 = true from by simpa [Nat.blt, Nat.succ_le_iff] using h] at hb; cases hb
    cases hc : Nat.blt i 64 with
    | true =>
      have hc : i < 64 := by simpa [Nat.blt, Nat.succ_le_iff] using hc
      simp only [lftK, rgtK]
      rw [if_neg (by omega)]
    | false =>
      simp only [lftK, rgtK]
      rw [g2, g2, s2]
      exact Tr.get_set _ _ 12 _ d i (by omega) (by omega)
noncomputable def T (n : Nat) (f : Fr) : List AV := (List.range n).map fun i => toAV (fget n f i)
noncomputable def H (n : Nat) (f : Hp) : List ABlk := (List.range n).map fun i => toB (hget f i)
theorem T_length (n : Nat) (f : Fr) : (T n f).length = n := by simp [T]
theorem H_length (n : Nat) (f : Hp) : (H n f).length = n := by simp [H]
theorem T_get {n : Nat} {f : Fr} {i : Nat} (hi : i < n) : getL (T n f) i = toAV (fget n f i) := getL_map _ _ _ hi
theorem H_get {n : Nat} {f : Hp} {i : Nat} (hi : i < n) : geth (H n f) i = toB (hget f i) := geth_map _ _ _ hi
theorem H_ge {n : Nat} {f : Hp} {i : Nat} (hi : n ≤ i) : geth (H n f) i = .dead := geth_out (by rw [H_length]; exact hi)
theorem T_set {n : Nat} {f : Fr} {d : Nat} {v : CV} (hn : n ≤ 1024) (hd : d < n) : setL (T n f) d (toAV v) = T n (fset n f d v) := by
  apply List.ext_getElem?
  intro i
  rw [setL_get, T_length]
  by_cases hi : i < n
  · unfold T
    rw [mapRange_get, if_pos hi, mapRange_get, if_pos hi]
    rw [fget_set n f d i v hn hd hi]
    by_cases h : i = d
    · rw [if_pos ⟨h, hd⟩, if_pos h.symm]
    · rw [if_neg (by rintro ⟨a, _⟩; exact h a), if_neg (fun a => h a.symm)]
  · rw [if_neg (by rintro ⟨a, _⟩; omega)]
    rw [List.getElem?_eq_none (by rw [T_length]; omega), List.getElem?_eq_none (by rw [T_length]; omega)]
theorem H_set {n : Nat} {f : Hp} {d : Nat} {v : CB} (hn : n ≤ 4096) (hd : d < n) : seth (H n f) d (toB v) = H n (hset f d v) := by
  rw [seth_set]
  apply List.ext_getElem?
  intro i
  by_cases hi : i < n
  · rw [List.getElem?_set]
    unfold H
    rw [mapRange_get, if_pos hi, mapRange_get, if_pos hi]
    rw [hget_set0 f d i v (by omega) (by omega)]
    by_cases h : d = i
    · subst h; simp [hd]
    · simp [h]
  · rw [List.getElem?_eq_none (by rw [List.length_set, H_length]; omega), List.getElem?_eq_none (by rw [H_length]; omega)]
theorem H_push {n : Nat} {f : Hp} {v : CB} (hn : n < 4096) : H n f ++ [toB v] = H (n + 1) (hset f n v) := by
  apply List.ext_getElem?
  intro i
  by_cases hi : i < n
  · rw [List.getElem?_append_left (by rw [H_length]; exact hi)]
    unfold H
    rw [mapRange_get, if_pos hi, mapRange_get, if_pos (by omega)]
    rw [hget_set0 f n i v (by omega) (by omega), if_neg (by omega)]
  · rw [List.getElem?_append_right (by rw [H_length]; omega), H_length]
    by_cases he : i = n
    · subst he
      unfold H
      rw [mapRange_get, if_pos (by omega)]
      rw [hget_set0 f i i v (by omega) (by omega), if_pos rfl]
      simp
    · rw [List.getElem?_eq_none (by simp; omega), List.getElem?_eq_none (by rw [H_length]; omega)]

/-! ### Forgetting -/
/-- The first value says no more than the second. -/
def Wk (v v' : AV) : Prop := ∀ (E : Env) (u : Value), VR E v' u → VR E v u
theorem Wk.refl (v : AV) : Wk v v := fun _ _ h => h
def BWk (x y : ABlk) : Prop := (x ≠ .dead → y ≠ .dead) ∧ ∀ (E : Env) (b : Nat), BR E b y → BR E b x
theorem BWk.refl (x : ABlk) : BWk x x := ⟨id, fun _ _ h => h⟩
def HWk (h2 h : List ABlk) : Prop := h2.length = h.length ∧ ∀ i, i < h.length → BWk (geth h2 i) (geth h i)
theorem HWk.refl (h : List ABlk) : HWk h h := ⟨rfl, fun _ _ => .refl _⟩
theorem geth_of {h : List ABlk} {i : Nat} {x : ABlk} (hx : h[i]? = some x) : geth h i = x ∧ i < h.length := by
  refine ⟨by rw [geth_getD, hx]; rfl, ?_⟩
  rcases Nat.lt_or_ge i h.length with h' | h'
  · exact h'
  · rw [List.getElem?_eq_none h'] at hx; cases hx
theorem HWk.own {E : Env} {h2 h : List ABlk} (W : HWk h2 h) {k : Nat} (ho : Own E h2 k) : Own E h k := by
  obtain ⟨b, x, o, h1, h3, h4⟩ := ho
  obtain ⟨q1, q2⟩ := geth_of h1
  have := W.2 b (by rw [← W.1]; exact q2)
  rw [q1] at this
  have hy := this.1 h3
  exact ⟨b, _, o, geth_some hy, hy, h4⟩
theorem HWk.hr {E : Env} {h2 h : List ABlk} (W : HWk h2 h) (R : HR E h) : HR E h2 := by
  have key : ∀ {b : Nat} {x : ABlk}, h2[b]? = some x → b < h.length ∧ BWk x (geth h b) := by
    intro b x hb
    obtain ⟨q1, q2⟩ := geth_of hb
    have q3 : b < h.length := by rw [← W.1]; exact q2
    exact ⟨q3, by rw [← q1]; exact W.2 b q3⟩
  have some' : ∀ {b : Nat}, b < h.length → h[b]? = some (geth h b) := by
    intro b hb
    rw [geth_getD, List.getElem?_eq_getElem hb]; rfl
  refine ⟨fun b x hb => ?_, fun b b' x x' k o o' h1 h3 h4 h5 h6 h7 => ?_, fun k hk => ⟨(R.prot k hk).1, fun ho => (R.prot k hk).2 (W.own ho)⟩, fun b hb => R.fresh b (by rw [← W.1]; exact hb)⟩
  · obtain ⟨q1, q2⟩ := key hb
    exact q2.2 E b (R.blk b _ (some' q1))
  · obtain ⟨q1, q2⟩ := key h1
    obtain ⟨r1, r2⟩ := key h4
    exact R.inj b b' _ _ k o o' (some' q1) (q2.1 h3) (some' r1) (r2.1 h5) h6 h7
theorem HWk.ext {E E' : Env} {h h' h2 : List ABlk} (W : HWk h2 h') (X : Ext E h E' h') : Ext E h E' h2 :=
  ⟨X.os, X.tape, X.output, X.σ, X.prot, X.size, X.kind, X.frame, fun k hk => X.own k (W.own hk), by rw [W.1]; exact X.len, X.old, X.pro⟩
theorem Trip.of_ev {P : Program} {sh : TypeId → Option (List Leaf)} {ct : Ct} (S : ShOk P sh) (C : CtOk P ct) {o : Oper} {t : List AV} {h h' h2 : List ABlk} {ob : Prop} {v v2 : AV}
    (hr : (evO P sh ct t h o.op).out h = some (ob, v, h')) (hob : ob) (hog : ogOp t o.op) (hv : Wk v2 v) (hw : HWk h2 h') : Trip P o t h v2 h2 := by
  intro E a K Q R F next
  exact op_sound S C R F hr hob hog fun r E' X' R' V => next r E' (hw.ext X') (hw.hr R') (hv E' r V)
end Go.Am
