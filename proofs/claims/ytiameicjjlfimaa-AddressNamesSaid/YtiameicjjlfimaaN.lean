/-
  The entry for bytes.Compare and the runs that the law AddressNames makes.
-/
import Derived.Test.YtiameicjjlfimaaCm13
import Derived.Test.YtiameicjjlfimaaAm31
import Derived.Test.YtiameicjjlfimaaProg
import Derived.WalkKit
namespace Go.Proofs.Ytiameicjjlfimaa
open Go.Am
set_option linter.unusedVariables false
set_option linter.unusedSimpArgs false
def body43 : List AV → AR
  | [.ro 1 n _ c, .ro 1 m _ d] => .pure ((∀ i, i < n → u8Q (c i 0)) ∧ ∀ i, i < m → u8Q (d i 0)) (.int .i64 (Go.Lib.compareBytes (bytesC n c).data.toList (bytesC m d).data.toList))
  | _ => .fail
theorem walk43 (u v : Value) (r : Int) (w : World) (hd : (callFunc 52 #[u, v]).run Try.prog w = .ok (.value (.int .i64 r)) w) : Calls Try.prog 43 #[u, v] w fun e w' => e = .returned (.int .i64 r) ∧ w' = w := by
  go_enter Try.func43, Try.ntmps43
  go_wp2
  go_ret
  exact ⟨rfl, rfl⟩
theorem ok43 : FnOk Try.prog 43 (pureC body43) := by
  refine pure_ext ⟨_, Try.func43, by kernel_rfl, by kernel_rfl⟩ body43 ?_
  intro E l vs ob x hb hob F
  unfold body43 at hb
  split at hb
  · rename_i n nl c m ml d
    injection hb with q1 q2; subst q1 q2
    obtain ⟨vs⟩ := vs
    match vs, F.1 with
    | [u, v], _ =>
      have hx := F.2 0 _ u rfl rfl
      have hy := F.2 1 _ v rfl rfl
      refine ⟨_, rfl, walk43 u v _ E.w ?_⟩
      rw [run_callFunc_extern Try.func52 (by kernel_rfl) (by kernel_rfl) (by kernel_rfl) (e := Extern.BytealgCompare.compare) (by kernel_rfl), run_compareBytes hx hy hob.1 hob.2]
      rfl
  · cases hb
noncomputable section
def shA (P : Program) (t : TypeId) : Option (List Leaf) := match tagg P t with
  | some true => match P.eqGuardType P.depth t with
    | false => shF P 9 t
    | true => none
  | _ => none
theorem shA_ok (P : Program) : ShOk P (shA P) := by
  refine shOk_of fun t l hl => ?_
  unfold shA at hl
  split at hl
  · rename_i ht
    split at hl
    · rename_i hg; exact ⟨hl, ht, hg⟩
    · cases hl
  · cases hl
theorem follows : Try.prog.follows .mixedOrders = true := by kernel_rfl
def csCmp : List Nat → List Nat → Int
  | [], [] => .ofNat 0
  | [], _ :: _ => .negSucc 0
  | _ :: _, [] => .ofNat 1
  | a :: x, b :: y => match Nat.blt (Nat.mod a 256) (Nat.mod b 256) with
    | true => .negSucc 0
    | false => match Nat.blt (Nat.mod b 256) (Nat.mod a 256) with
      | true => .ofNat 1
      | false => csCmp x y
theorem csCmp_ok : ∀ a b : List Nat, Go.Lib.compareBytes (mkB a).data.toList (mkB b).data.toList = csCmp a b := by
  intro a
  induction a with
  | nil => intro b; cases b <;> rfl
  | cons x a ih =>
    intro b
    cases b with
    | nil => rfl
    | cons y b =>
      have := ih b
      rw [mkB_data, mkB_data] at this
      rw [mkB_data, mkB_data]
      simp only [List.map_cons, Go.Lib.compareBytes, csCmp, this]
      rw [← u8_lt, ← u8_lt]
      by_cases h1 : x.toUInt8 < y.toUInt8
      · simp [h1]
      · by_cases h2 : y.toUInt8 < x.toUInt8
        · simp [h1, h2]
        · simp [h1, h2]
theorem rowsB {r : List (List CV)} {l : List Nat} (hl : rowsBytes r = some l) : bytesC r.length (rC (toAVR r)) = mkB l ∧ ∀ i, i < r.length → u8Q (rC (toAVR r) i 0) := by
  obtain ⟨l1, l2⟩ := rowsBytes_ok hl
  refine ⟨?_, fun i hi => ?_⟩
  · apply WideShapes.bytes_inj
    simp only [bytesC, mkB]
    apply List.ext_getElem?
    intro i
    simp only [List.getElem?_map]
    by_cases hi : i < r.length
    · rw [List.getElem?_range hi]
      simp only [Option.map_some, (l2 i hi).1, Int.toNat_natCast]
      rw [List.getElem?_eq_getElem (by omega)]
      simp [List.getD_eq_getElem?_getD, List.getElem?_eq_getElem (show i < l.length from by omega)]
    · rw [List.getElem?_eq_none (by simp; omega), List.getElem?_eq_none (by omega)]; rfl
  · rw [(l2 i hi).1]
    exact ⟨Int.natCast_nonneg _, by have := (l2 i hi).2; omega⟩
def xtC (args : List CV) : CRes := match args with
  | [.ro ea _ ra, .ro eb _ rb] => match Nat.beq ea 1 && Nat.beq eb 1 with
    | true => match rowsBytes ra, rowsBytes rb with
      | some la, some lb => .p (.int .i64 (csCmp la lb))
      | _, _ => .no
    | false => .no
  | _ => .no
def xt0 : Cl := fun k args n h => match Nat.beq k 43 with
  | true => xtC args
  | false => .no
theorem xt0_ok : ClOk Try.prog xt0 := by
  intro k args n h
  unfold xt0
  cases hk : Nat.beq k 43 with
  | false => trivial
  | true =>
    have hk := nbeq_iff.1 hk
    subst hk
    simp only
    unfold xtC
    split
    · trivial
    · rename_i v hv
      split at hv
      · rename_i ea na ra eb nb rb
        split at hv
        · rename_i he
          rw [Bool.and_eq_true, nbeq_iff, nbeq_iff] at he
          obtain ⟨rfl, rfl⟩ := he
          split at hv
          · rename_i la lb hla hlb
            injection hv with hv; subst hv
            refine ⟨Nat.le_refl _, ok43.1, fun E vs R F => ?_⟩
            obtain ⟨a1, a2⟩ := rowsB hla
            obtain ⟨b1, b2⟩ := rowsB hlb
            refine ok43.2.1 E (H n h) _ vs (roObL (H n h) (toAVL [CV.ro 1 na ra, CV.ro 1 nb rb]) ∧ ((∀ i, i < ra.length → u8Q (rC (toAVR ra) i 0)) ∧ ∀ i, i < rb.length → u8Q (rC (toAVR rb) i 0))) _ _ R F ?_ ⟨?_, a2, b2⟩
            · simp only [toAVL, toAV, pureC, roL, roV, body43, pureR, AR.out, a1, b1, csCmp_ok]
            · simp only [toAVL, toAV, roObL, roOb, and_self]
          · cases hv
        · cases hv
      · cases hv
    · rename_i v n' h' hv
      split at hv
      · split at hv
        · split at hv <;> cases hv
        · cases hv
      · cases hv
end
end Go.Proofs.Ytiameicjjlfimaa
