/-
  The abstract machine, part 29: numbers without a sign, bit by bit; small equations for the walks.
-/
import Derived.Test.YtpnhehcncljhpaaAm28
import Derived.IntWalk
namespace Go.Am
set_option linter.unusedVariables false

theorem pureC_eq (body : List AV → AR) (l : List AV) (h : List ABlk) : pureC body l h = pureR (roObL h l) (body (roL h l)) := rfl
theorem freshC_eq (body : List AV → AR) (l : List AV) (h : List ABlk) : freshC body l h = freshR (roObL h l) h (body (roL h l)) := rfl
theorem wrap_nat (k : IntKind) (hs : k.signed = false) (n : Nat) (hn : n < 2 ^ k.bits) : k.wrap (n : Int) = n := by
  have h1 : ((n : Int) % (2 ^ k.bits : Int)) = n := by
    rw [show (2 ^ k.bits : Int) = ((2 ^ k.bits : Nat) : Int) from by simp, ← Int.natCast_emod, Nat.mod_eq_of_lt hn]
  simp only [IntKind.wrap, hs, Bool.false_and, Bool.false_eq_true, if_false, h1]
theorem ofInt_nat (k : IntKind) (n : Nat) (hn : n < 2 ^ k.bits) : (BitVec.ofInt k.bits (n : Int)).toNat = n := by
  rw [BitVec.toNat_ofInt, ← Int.natCast_emod, Int.toNat_natCast, Nat.mod_eq_of_lt hn]
theorem andI_nat (k : IntKind) (hs : k.signed = false) (m n : Nat) (hm : m < 2 ^ k.bits) (hn : n < 2 ^ k.bits) : andI k m n = ((m &&& n : Nat) : Int) := by
  unfold andI
  rw [BitVec.toNat_and, ofInt_nat k m hm, ofInt_nat k n hn, wrap_nat k hs _ (Nat.and_lt_two_pow m hn)]
theorem orI_nat (k : IntKind) (hs : k.signed = false) (m n : Nat) (hm : m < 2 ^ k.bits) (hn : n < 2 ^ k.bits) : orI k m n = ((m ||| n : Nat) : Int) := by
  unfold orI
  rw [BitVec.toNat_or, ofInt_nat k m hm, ofInt_nat k n hn, wrap_nat k hs _ (Nat.or_lt_two_pow hm hn)]
theorem xorI_nat (k : IntKind) (hs : k.signed = false) (m n : Nat) (hm : m < 2 ^ k.bits) (hn : n < 2 ^ k.bits) : xorI k m n = ((m ^^^ n : Nat) : Int) := by
  unfold xorI
  rw [BitVec.toNat_xor, ofInt_nat k m hm, ofInt_nat k n hn, wrap_nat k hs _ (Nat.xor_lt_two_pow hm hn)]
theorem shrI_nat (k : IntKind) (m s : Nat) (h : s ≤ k.bits) : shrI k m s = ((m / 2 ^ s : Nat) : Int) := by
  unfold shrI
  rw [Int.toNat_natCast, Nat.min_eq_left h, show (2 ^ s : Int) = ((2 ^ s : Nat) : Int) from by simp, Int.fdiv_eq_ediv_of_nonneg _ (Int.natCast_nonneg _), ← Int.natCast_ediv]
theorem shlI_nat (k : IntKind) (hs : k.signed = false) (m s : Nat) (h : s ≤ k.bits) (hm : m * 2 ^ s < 2 ^ k.bits) : shlI k m s = ((m * 2 ^ s : Nat) : Int) := by
  unfold shlI
  rw [Int.toNat_natCast, Nat.min_eq_left h, show ((m : Int) * 2 ^ s) = ((m * 2 ^ s : Nat) : Int) from by simp, wrap_nat k hs _ hm]
/-- A byte shifted in from the right. -/
theorem or_step (n c : Int) (h : 0 ≤ n) (h1 : n ≤ 72057594037927935) (hc : 0 ≤ c) (hc1 : c ≤ 255) : orI .u64 (shlI .u64 n 8) (wr .u64 c) = n * 256 + c := by
  obtain ⟨a, rfl⟩ := Int.eq_ofNat_of_zero_le h
  obtain ⟨b, rfl⟩ := Int.eq_ofNat_of_zero_le hc
  rw [show wr .u64 (b : Int) = b from wrap_nat .u64 rfl b (by show b < 2 ^ 64; omega)]
  rw [show shlI .u64 (a : Int) 8 = ((a * 2 ^ 8 : Nat) : Int) from shlI_nat .u64 rfl a 8 (by decide) (by show a * 2 ^ 8 < 2 ^ 64; omega)]
  rw [orI_nat .u64 rfl _ _ (by show a * 2 ^ 8 < 2 ^ 64; omega) (by show b < 2 ^ 64; omega)]
  rw [Nat.mul_comm, ← Nat.two_pow_add_eq_or_of_lt (show b < 2 ^ 8 by omega)]
  omega
end Go.Am
