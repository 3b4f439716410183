/-
  The abstract machine, part 46: lists of bytes.
-/
import Derived.Test.YtpnhehcncljhpaaAm45
namespace Go.Am
set_option linter.unusedVariables false
def u8q (a : AV) : Bool := match a with
  | .int .u8 q => decide (0 ≤ q ∧ q ≤ 255)
  | _ => false
theorem u8q_iff {a : AV} : u8q a = true ↔ u8Q a := by
  unfold u8q u8Q
  split <;> simp
/-- The cells are bytes. -/
def u8b (n : Nat) (c : Nat → Nat → AV) : Bool := (List.range n).all fun i => u8q (c i 0)
theorem u8b_iff {n : Nat} {c : Nat → Nat → AV} : u8b n c = true ↔ ∀ i, i < n → u8Q (c i 0) := by
  unfold u8b
  rw [List.all_eq_true]
  constructor
  · intro h i hi; exact u8q_iff.1 (h i (List.mem_range.2 hi))
  · intro h i hi; exact u8q_iff.2 (h i (List.mem_range.1 hi))
def u8A (L : List Int) : Bool := L.all fun q => decide (0 ≤ q) && decide (q ≤ 255)
theorem u8A_iff {L : List Int} : u8A L = true ↔ ∀ q ∈ L, 0 ≤ q ∧ q ≤ 255 := by
  unfold u8A
  rw [List.all_eq_true]
  constructor
  · intro h q hq; simpa using h q hq
  · intro h q hq; simpa using h q hq
theorem u8A_gd {L : List Int} (h : u8A L = true) {i : Nat} (hi : i < L.length) : 0 ≤ gd L i ∧ gd L i ≤ 255 := u8A_iff.1 h _ (gd_mem hi)
theorem u8b_enR {f : Int → List AV} (hf : ∀ a, f a = [.int .u8 a]) (L : List Int) : u8b L.length (enR f L) = u8A L := by
  have h : u8b L.length (enR f L) = true ↔ u8A L = true := by
    rw [u8b_iff, u8A_iff]
    constructor
    · intro h q hq
      obtain ⟨i, hi, rfl⟩ := mem_gd hq
      have := h i hi
      simp only [enR, hf] at this
      exact this
    · intro h i hi
      simp only [enR, hf]
      exact h _ (gd_mem hi)
  cases h1 : u8b L.length (enR f L) <;> cases h2 : u8A L <;> simp_all
/-- A string of such bytes. -/
def strL (L : List Int) : ByteArray := ⟨(L.map fun q => q.toNat.toUInt8).toArray⟩
theorem bytesC_enR {f : Int → List AV} (hf : ∀ a, f a = [.int .u8 a]) (L : List Int) : bytesC L.length (enR f L) = strL L := by
  unfold bytesC strL
  congr 1
  congr 1
  apply List.ext_getElem?
  intro i
  rw [List.getElem?_map, List.getElem?_map]
  rcases Nat.lt_or_ge i L.length with hi | hi
  · rw [List.getElem?_range hi, List.getElem?_eq_getElem hi]
    simp only [Option.map_some, enR, hf]
    congr 1
    show (gd L i).toNat.toUInt8 = _
    simp [gd, List.getD_eq_getElem?_getD, hi]
  · rw [List.getElem?_eq_none (by simpa using hi), List.getElem?_eq_none hi]; rfl
theorem gd_bytesL {s : ByteArray} {i : Nat} (hi : i < s.size) : gd (bytesL s) i = byteAt s i := getD_bytesL hi
theorem strE_en {f : Int → List AV} (hf : ∀ a, f a = [.int .u8 a]) (s : ByteArray) : strE s = enR f (bytesL s) := by
  funext x y
  simp only [strE, enR, hf]; rfl
/-- The order of lists of bytes. -/
def cmpL : List Int → List Int → Int
  | [], [] => 0
  | [], _ :: _ => -1
  | _ :: _, [] => 1
  | x :: l, y :: m => if x < y then -1 else if y < x then 1 else cmpL l m
theorem u8_lt (x y : Int) (hx : 0 ≤ x ∧ x ≤ 255) (hy : 0 ≤ y ∧ y ≤ 255) : (x.toNat.toUInt8 < y.toNat.toUInt8) = (x < y) := by
  rw [UInt8.lt_iff_toNat_lt]
  simp only [Nat.toUInt8, UInt8.toNat_ofNat', eq_iff_iff]
  omega
theorem cmpL_eq : ∀ (L M : List Int), (∀ q ∈ L, 0 ≤ q ∧ q ≤ 255) → (∀ q ∈ M, 0 ≤ q ∧ q ≤ 255) → Go.Lib.compareBytes (L.map fun q => q.toNat.toUInt8) (M.map fun q => q.toNat.toUInt8) = cmpL L M
  | [], [], _, _ => rfl
  | [], _ :: _, _, _ => rfl
  | _ :: _, [], _, _ => rfl
  | x :: l, y :: m, h1, h2 => by
    simp only [List.map_cons, Go.Lib.compareBytes, cmpL]
    rw [cmpL_eq l m (fun q hq => h1 q (List.mem_cons_of_mem _ hq)) fun q hq => h2 q (List.mem_cons_of_mem _ hq)]
    simp only [u8_lt x y (h1 x (List.mem_cons_self ..)) (h2 y (List.mem_cons_self ..)), u8_lt y x (h2 y (List.mem_cons_self ..)) (h1 x (List.mem_cons_self ..))]
theorem deR_1 {α : Type} {g : (Nat → AV) → α} {c : Nat → Nat → AV} : deR g 1 c = [g (c 0)] := rfl
theorem deR_2 {α : Type} {g : (Nat → AV) → α} {c : Nat → Nat → AV} : deR g 2 c = [g (c 0), g (c 1)] := rfl
theorem deR_3 {α : Type} {g : (Nat → AV) → α} {c : Nat → Nat → AV} : deR g 3 c = [g (c 0), g (c 1), g (c 2)] := rfl
theorem deR_4 {α : Type} {g : (Nat → AV) → α} {c : Nat → Nat → AV} : deR g 4 c = [g (c 0), g (c 1), g (c 2), g (c 3)] := rfl
theorem deR_5 {α : Type} {g : (Nat → AV) → α} {c : Nat → Nat → AV} : deR g 5 c = [g (c 0), g (c 1), g (c 2), g (c 3), g (c 4)] := rfl
theorem deR_6 {α : Type} {g : (Nat → AV) → α} {c : Nat → Nat → AV} : deR g 6 c = [g (c 0), g (c 1), g (c 2), g (c 3), g (c 4), g (c 5)] := rfl
theorem deR_7 {α : Type} {g : (Nat → AV) → α} {c : Nat → Nat → AV} : deR g 7 c = [g (c 0), g (c 1), g (c 2), g (c 3), g (c 4), g (c 5), g (c 6)] := rfl
theorem deR_8 {α : Type} {g : (Nat → AV) → α} {c : Nat → Nat → AV} : deR g 8 c = [g (c 0), g (c 1), g (c 2), g (c 3), g (c 4), g (c 5), g (c 6), g (c 7)] := rfl
theorem deR_9 {α : Type} {g : (Nat → AV) → α} {c : Nat → Nat → AV} : deR g 9 c = [g (c 0), g (c 1), g (c 2), g (c 3), g (c 4), g (c 5), g (c 6), g (c 7), g (c 8)] := rfl
theorem deR_10 {α : Type} {g : (Nat → AV) → α} {c : Nat → Nat → AV} : deR g 10 c = [g (c 0), g (c 1), g (c 2), g (c 3), g (c 4), g (c 5), g (c 6), g (c 7), g (c 8), g (c 9)] := rfl
theorem deR_11 {α : Type} {g : (Nat → AV) → α} {c : Nat → Nat → AV} : deR g 11 c = [g (c 0), g (c 1), g (c 2), g (c 3), g (c 4), g (c 5), g (c 6), g (c 7), g (c 8), g (c 9), g (c 10)] := rfl
theorem deR_12 {α : Type} {g : (Nat → AV) → α} {c : Nat → Nat → AV} : deR g 12 c = [g (c 0), g (c 1), g (c 2), g (c 3), g (c 4), g (c 5), g (c 6), g (c 7), g (c 8), g (c 9), g (c 10), g (c 11)] := rfl
theorem litC_x0 {z y : Nat} {l : List AV} : litC z l 0 y = getL l (0 * z + y) := rfl
theorem litC_x1 {z y : Nat} {l : List AV} : litC z l 1 y = getL l (1 * z + y) := rfl
theorem litC_x2 {z y : Nat} {l : List AV} : litC z l 2 y = getL l (2 * z + y) := rfl
theorem litC_x3 {z y : Nat} {l : List AV} : litC z l 3 y = getL l (3 * z + y) := rfl
theorem litC_x4 {z y : Nat} {l : List AV} : litC z l 4 y = getL l (4 * z + y) := rfl
theorem litC_x5 {z y : Nat} {l : List AV} : litC z l 5 y = getL l (5 * z + y) := rfl
theorem litC_x6 {z y : Nat} {l : List AV} : litC z l 6 y = getL l (6 * z + y) := rfl
theorem litC_x7 {z y : Nat} {l : List AV} : litC z l 7 y = getL l (7 * z + y) := rfl
theorem litC_x8 {z y : Nat} {l : List AV} : litC z l 8 y = getL l (8 * z + y) := rfl
theorem litC_x9 {z y : Nat} {l : List AV} : litC z l 9 y = getL l (9 * z + y) := rfl
theorem litC_x10 {z y : Nat} {l : List AV} : litC z l 10 y = getL l (10 * z + y) := rfl
theorem litC_x11 {z y : Nat} {l : List AV} : litC z l 11 y = getL l (11 * z + y) := rfl
/-- A row told by other elements. -/
theorem row_cg {α : Type} [Inhabited α] {f : α → List AV} {L L' : List α} {c : Nat → Nat → AV} {es : Nat} (h : ∀ x y, x < L.length → y < es → enR f L x y = c x y) (e : L' = L) : ∀ x y, x < L'.length → y < es → enR f L' x y = c x y := by subst e; exact h
def stb (s : ByteArray) : Bool := decide ((s.size : Int) ≤ 140737488355328)
theorem stb_iff {s : ByteArray} : stb s = true ↔ (s.size : Int) ≤ 140737488355328 := by simp [stb]
def mkb (by_ : Nat) (n c : Int) : Bool := decide (0 ≤ n ∧ n ≤ c ∧ (by_ : Int) * c ≤ 140737488355328 ∧ c ≤ 140737488355328)
theorem mkb_iff {by_ : Nat} {n c : Int} : mkb by_ n c = true ↔ 0 ≤ n ∧ n ≤ c ∧ (by_ : Int) * c ≤ 140737488355328 ∧ c ≤ 140737488355328 := by simp [mkb]
theorem rep_row {α : Type} [Inhabited α] {f : α → List AV} {l : List AV} (n : Nat) (d : α) {es : Nat} (h : f d = l) : ∀ x y, x < (List.replicate n d).length → y < es → enR f (List.replicate n d) x y = (fun _ y => getL l y) x y := by
  intro x y hx _
  rw [List.length_replicate] at hx
  simp only [enR]
  rw [show gd (List.replicate n d) x = d from by simp [gd, List.getD_eq_getElem?_getD, hx], h]
theorem take_row {α : Type} [Inhabited α] {f : α → List AV} {L : List α} {n es : Nat} : ∀ x y, x < (List.take n L).length → y < es → enR f (List.take n L) x y = enR f L x y := by
  intro x y hx _
  rw [List.length_take] at hx
  simp only [enR]
  rw [gd_take (by omega)]
theorem app_len {α : Type} {L M : List α} {n m : Nat} (h1 : L.length = n) (h2 : M.length = m) : (L ++ M).length = n + m := by rw [List.length_append, h1, h2]
theorem app_row2 {α : Type} [Inhabited α] {f : α → List AV} {n : Nat} {L : List α} (hn : L.length = n) (L' M : List α) {es : Nat} {c d : Nat → Nat → AV} (h1 : ∀ x y, x < L'.length → y < es → enR f L' x y = c x y) (h2 : ∀ x y, x < M.length → y < es → enR f M x y = d x y) (e : L' = L := by rfl) :
    ∀ x y, x < (L' ++ M).length → y < es → enR f (L' ++ M) x y = appC n c d x y := by
  subst e hn
  exact app_row L' M h1 h2
end Go.Am
