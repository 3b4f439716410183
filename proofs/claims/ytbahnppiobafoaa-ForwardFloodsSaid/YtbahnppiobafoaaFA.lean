/-
  Forward: frames: which are valid, their bytes.
-/
import Derived.Test.YtbahnppiobafoaaY7
import Derived.Test.YtbahnppiobafoaaLK
namespace Go.Proofs.Ytbahnppiobafoaa
open Go.Am
set_option linter.unusedVariables false
set_option linter.unusedSimpArgs false
theorem nd_inb {α : Type} {i : Int} {n : Nat} {k : Option α} (h1 : 0 <= i) (h2 : i < n) : need (inb i n) k = k := need_true (inb_iff.2 ⟨h1, h2, by omega⟩)
theorem nd_slb {α : Type} {l u : Int} {n : Nat} {k : Option α} (h1 : 0 <= l) (h2 : l <= u) (h3 : u <= n) : need (slb l u n) k = k := need_true (slb_iff.2 ⟨h1, h2, h3⟩)
theorem nd_cap {α : Type} {b n : Nat} {k : Option α} (h1 : (n : Int) * b <= 140737488355328) (h2 : n <= 140737488355328) : need (capb b n) k = k := need_true (capb_iff.2 ⟨h1, h2⟩)
theorem nd_dec {α : Type} {p : Prop} [Decidable p] {k : Option α} (h : p) : need (decide p) k = k := need_true (by simp [h])
def Ab (a : A6u8) : Prop := (0 <= a.x0 /\ a.x0 <= 255) /\ (0 <= a.x1 /\ a.x1 <= 255) /\ (0 <= a.x2 /\ a.x2 <= 255) /\ (0 <= a.x3 /\ a.x3 <= 255) /\ (0 <= a.x4 /\ a.x4 <= 255) /\ (0 <= a.x5 /\ a.x5 <= 255)
def By (l : List Int) : Prop := ∀ q ∈ l, 0 <= q /\ q <= 255
def Fb (m : TMeshFrame) : Prop := Ab m.From /\ Ab m.To /\ Ab m.Enter /\ Ab m.Leave /\ Ab m.Source /\ Ab m.Target /\ By m.Data
def grp (a : A6u8) : Bool := decide (a.x0 % 2 = 1)
theorem F39_ok {a : A6u8} (h : Ab a) : F39 a = some (grp a) := by
  unfold F39 grp
  obtain ⟨n, hn⟩ := Int.eq_ofNat_of_zero_le h.1.1
  have h2 := h.1.2
  rw [hn] at h2 ⊢
  rw [show ((1 : Int)) = ((1 : Nat) : Int) from rfl, andI_nat .u8 rfl n 1 (by show n < 2 ^ 8; omega) (by decide), Nat.and_one_is_mod]
  rw [bEq_eq]
  exact congrArg some (decide_eq_decide.2 (by omega))
def Vm (m : TMeshFrame) : Prop := grp m.From = false /\ grp m.Enter = false /\ grp m.To = grp m.Leave /\ (0 <= m.Seq /\ m.Seq < 65536) /\ (1 <= m.Ttl /\ m.Ttl <= 31) /\ m.Data.length <= 2264
theorem F23_ok (m : TMeshFrame) (h : Fb m) : (Vm m /\ F23 m = some 0) ∨ (¬ Vm m /\ F23 m = some 8) := by
  obtain ⟨h1, h2, h3, h4, h5, h6, h7⟩ := h
  unfold F23 F48
  rw [F39_ok h1, F39_ok h2, F39_ok h3, F39_ok h4]
  simp only [Option.bind_some, Option.isSome_some, gt_some, Bool.cond_self, need_true]
  by_cases hv : Vm m
  · refine .inl ⟨hv, bif_f ?_⟩
    obtain ⟨v1, v2, v3, v4, v5, v6⟩ := hv
    rw [v1, v2, v3]
    simp only [bB_eq, bLe_eq, bLt_eq, decide_true, Bool.not_true, Bool.false_or, Bool.or_eq_false_iff, Bool.not_eq_false', Bool.and_eq_true, decide_eq_true_eq, decide_eq_false_iff_not]
    omega
  · refine .inr ⟨hv, bif_t ?_⟩
    unfold Vm at hv
    cases g1 : grp m.From <;> cases g2 : grp m.Enter <;> cases g3 : grp m.To <;> cases g4 : grp m.Leave <;>
      simp [g1, g2, g3, g4, bB_eq, bLe_eq, bLt_eq] at hv ⊢ <;> omega
def ae (x a : A6u8) : Bool := (bEq x.x0 a.x0 && (bEq x.x1 a.x1 && (bEq x.x2 a.x2 && (bEq x.x3 a.x3 && (bEq x.x4 a.x4 && (bEq x.x5 a.x5))))))
theorem ae_def (x a : A6u8) : (bEq x.x0 a.x0 && (bEq x.x1 a.x1 && (bEq x.x2 a.x2 && (bEq x.x3 a.x3 && (bEq x.x4 a.x4 && (bEq x.x5 a.x5)))))) = ae x a := rfl
theorem ae_iff {x a : A6u8} : ae x a = true ↔ x = a := by
  obtain ⟨x0, x1, x2, x3, x4, x5⟩ := x
  obtain ⟨a0, a1, a2, a3, a4, a5⟩ := a
  simp [ae, bEq_eq]
def ad (a : A6u8) : List Int := [a.x0, a.x1, a.x2, a.x3, a.x4, a.x5]
def six (m : TMeshFrame) : Bool := !ae m.Source m.Enter || !ae m.Target m.Leave
def enc (m : TMeshFrame) : List Int := bif six m then 1 :: m.Ttl :: m.Seq % 256 :: m.Seq / 256 :: (ad m.From ++ (ad m.To ++ (ad m.Enter ++ (ad m.Leave ++ (ad m.Source ++ (ad m.Target ++ m.Data)))))) else 0 :: m.Ttl :: m.Seq % 256 :: m.Seq / 256 :: (ad m.From ++ (ad m.To ++ (ad m.Enter ++ (ad m.Leave ++ m.Data))))
theorem wr_u8 {x : Int} (h : 0 <= x /\ x <= 255) : wr .u8 x = x := by
  obtain ⟨n, rfl⟩ := Int.eq_ofNat_of_zero_le h.1
  exact wrap_nat .u8 rfl n (by show n < 2 ^ 8; omega)
theorem sq_lo {x : Int} (h : 0 <= x) : wr .u8 x = x % 256 := by
  obtain ⟨n, rfl⟩ := Int.eq_ofNat_of_zero_le h
  show IntKind.wrap .u8 (n : Int) = _
  simp only [IntKind.wrap]
  rfl
theorem sq_hi {x : Int} (h : 0 <= x /\ x < 65536) : wr .u8 (shrI .i64 x 8) = x / 256 := by
  obtain ⟨n, rfl⟩ := Int.eq_ofNat_of_zero_le h.1
  rw [show ((8 : Int)) = ((8 : Nat) : Int) from rfl, shrI_nat .i64 n 8 (by decide), wr_u8 (by omega)]
  omega
end Go.Proofs.Ytbahnppiobafoaa
