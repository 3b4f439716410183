/-
  The abstract machine, part 20: regions that draw their order, whatever they do: the order of the text serves for all.
-/
import Derived.Test.YtpnhehcncljhpaaAm19
namespace Go.Am
set_option linter.unusedVariables false
variable {P : Program} {E : Env} {h : List ABlk}

/-! ### What an operation looks at -/
def refsOp (t : List AV) : Op → List Nat
  | .load _ a => refs (rho t a)
  | .store _ a _ => refs (rho t a)
  | .call c => match c.callee with
    | .value f => refs (rho t f) ++ refsL (mapR t c.args.toList)
    | _ => refsL (mapR t c.args.toList)
  | _ => []
theorem rho_cg {t t' : List AV} {x : Operand} (hx : ∀ d, x = .tmp d → getL t d = getL t' d) : rho t x = rho t' x ∧ og t x = og t' x := by
  cases x with
  | tmp i => simp only [rho, og, hx i rfl]; exact ⟨trivial, trivial⟩
  | _ => exact ⟨rfl, rfl⟩
theorem mapR_cg {t t' : List AV} {l : List Operand} (hx : ∀ x ∈ l, rho t x = rho t' x ∧ og t x = og t' x) : mapR t l = mapR t' l ∧ ogL t l = ogL t' l := by
  induction l with
  | nil => exact ⟨rfl, rfl⟩
  | cons a l ih =>
    obtain ⟨h1, h2⟩ := hx a (List.mem_cons_self ..)
    obtain ⟨h3, h4⟩ := ih fun x hx' => hx x (List.mem_cons_of_mem _ hx')
    exact ⟨by simp only [mapR, h1, h3], by simp only [ogL, h2, h4]⟩
theorem place_cg {t t' : List AV} {l : List (Nat × Operand)} (hx : ∀ p ∈ l, rho t p.2 = rho t' p.2 ∧ og t p.2 = og t' p.2) :
    (∀ z, placeA z (rho t) l = placeA z (rho t') l) ∧ (∀ pl, placeS pl (rho t) l = placeS pl (rho t') l) ∧ ogP t l = ogP t' l := by
  induction l with
  | nil => exact ⟨fun _ => rfl, fun _ => rfl, rfl⟩
  | cons a l ih =>
    obtain ⟨i, x⟩ := a
    obtain ⟨h1, h2⟩ := hx (i, x) (List.mem_cons_self ..)
    obtain ⟨h3, h4, h5⟩ := ih fun x hx' => hx x (List.mem_cons_of_mem _ hx')
    simp only at h1 h2
    exact ⟨fun z => by simp only [placeA, h1, h3], fun pl => by simp only [placeS, h1, h4], by simp only [ogP, h2, h5]⟩
theorem rhoO_cg {t t' : List AV} {o : Option Operand} (hx : ∀ x, o = some x → rho t x = rho t' x ∧ og t x = og t' x) : rhoO t o = rhoO t' o ∧ ogO t o = ogO t' o := by
  cases o with
  | none => exact ⟨rfl, rfl⟩
  | some x => obtain ⟨h1, h2⟩ := hx x rfl; exact ⟨by simp only [rhoO, h1], by simp only [ogO, h2]⟩
theorem evO_cg {sh : TypeId → Option (List Leaf)} {ct : Ct} {t t' : List AV} {op : Op} (hx : ∀ x ∈ op.operands, rho t x = rho t' x ∧ og t x = og t' x) :
    evO P sh ct t h op = evO P sh ct t' h op ∧ ogOp t op = ogOp t' op ∧ refsOp t op = refsOp t' op := by
  cases op <;> simp only [Op.operands] at hx
  case build y ps =>
    obtain ⟨q1, q2, q3⟩ := place_cg (l := ps.toList) fun p hp => hx p.2 (by simp; exact ⟨p.1, by simpa using hp⟩)
    refine ⟨?_, q3, rfl⟩
    simp only [evO, evBuild, q1, q2]
  case buildSlice y n ps =>
    obtain ⟨q1, q2, q3⟩ := place_cg (l := ps.toList) fun p hp => hx p.2 (by simp; exact ⟨p.1, by simpa using hp⟩)
    refine ⟨?_, q3, rfl⟩
    simp only [evO, evBuildSlice, q1]
  case makeFunc fn first captured =>
    obtain ⟨q1, q2⟩ := mapR_cg (l := captured.toList) fun x hx' => hx x (by simp at hx' ⊢; exact .inr hx')
    refine ⟨?_, ?_, rfl⟩
    · simp only [evO, evFn, q1]
    · simp only [ogOp, q2]
  case slice y x lo hi mx =>
    have hX := hx x (by simp)
    obtain ⟨l1, l2⟩ := rhoO_cg (o := lo) fun z hz => hx z (by subst hz; simp)
    obtain ⟨m1, m2⟩ := rhoO_cg (o := hi) fun z hz => hx z (by subst hz; simp)
    obtain ⟨n1, n2⟩ := rhoO_cg (o := mx) fun z hz => hx z (by subst hz; simp)
    exact ⟨by simp only [evO, hX.1, l1, m1, n1], by simp only [ogOp, hX.2, l2, m2, n2], rfl⟩
  case call c =>
    obtain ⟨callee, args, ats⟩ := c
    simp only [Call.operands] at hx
    obtain ⟨q1, q2⟩ := mapR_cg (l := args.toList) fun x hx' => hx x (by simp at hx' ⊢; exact .inr hx')
    cases callee with
    | value f =>
      have hf := hx f (by simp)
      exact ⟨by simp only [evO, evCall, q1, hf.1], by simp only [ogOp, q2, hf.2], by simp only [refsOp, q1, hf.1]⟩
    | builtin b => exact ⟨by simp only [evO, evCall, q1], by simp only [ogOp, q2], by simp only [refsOp, q1]⟩
    | invoke r m => exact ⟨by simp only [evO, evCall], by simp only [ogOp, q2], by simp only [refsOp, q1]⟩
  case load y a => have h0 := hx a (by simp); exact ⟨by simp only [evO, h0.1], by simp only [ogOp, h0.2], by simp only [refsOp, h0.1]⟩
  case store y a x => have h0 := hx a (by simp); have h1 := hx x (by simp); exact ⟨by simp only [evO, h0.1, h1.1], by simp only [ogOp, h0.2, h1.2], by simp only [refsOp, h0.1]⟩
  case pick c a b =>
    have h0 := hx c (by simp); have h1 := hx a (by simp); have h2 := hx b (by simp)
    refine ⟨by simp only [evO, h0.1, h1.1, h2.1], ?_, rfl⟩
    simp only [ogOp, h0.1, h0.2]
    cases rho t' c <;> simp only [ogC, h1.2, h2.2]
  case move x => have h0 := hx x (by simp); exact ⟨by simp only [evO, h0.1], by simp only [ogOp, h0.2], rfl⟩
  case assign x => have h0 := hx x (by simp); exact ⟨by simp only [evO, h0.1], by simp only [ogOp, h0.2], rfl⟩
  case box y x => have h0 := hx x (by simp); exact ⟨by simp only [evO, h0.1], by simp only [ogOp, h0.2], rfl⟩
  case nilCheck x => have h0 := hx x (by simp); exact ⟨by simp only [evO, h0.1], by simp only [ogOp, h0.2], rfl⟩
  case unOp o y x => have h0 := hx x (by simp); exact ⟨by simp only [evO, h0.1], by simp only [ogOp, h0.2], rfl⟩
  case convert s d x => have h0 := hx x (by simp); exact ⟨by simp only [evO, h0.1], by simp only [ogOp, h0.2], rfl⟩
  case fieldAddr s x f => have h0 := hx x (by simp); exact ⟨by simp only [evO, h0.1], by simp only [ogOp, h0.2], rfl⟩
  case field s x f => have h0 := hx x (by simp); exact ⟨by simp only [evO, h0.1], by simp only [ogOp, h0.2], rfl⟩
  case extract x i => have h0 := hx x (by simp); exact ⟨by simp only [evO, h0.1], by simp only [ogOp, h0.2], rfl⟩
  case binOp o y a b w => have h0 := hx a (by simp); have h1 := hx b (by simp); exact ⟨by simp only [evO, h0.1, h1.1], by simp only [ogOp, h0.2, h1.2], rfl⟩
  case makeSlice y a b => have h0 := hx a (by simp); have h1 := hx b (by simp); exact ⟨by simp only [evO, h0.1, h1.1], by simp only [ogOp, h0.2, h1.2], rfl⟩
  case indexAddr y a b => have h0 := hx a (by simp); have h1 := hx b (by simp); exact ⟨by simp only [evO, h0.1, h1.1], by simp only [ogOp, h0.2, h1.2], rfl⟩
  case index y a b => have h0 := hx a (by simp); have h1 := hx b (by simp); exact ⟨by simp only [evO, h0.1, h1.1], by simp only [ogOp, h0.2, h1.2], rfl⟩
  all_goals first | exact ⟨rfl, rfl, rfl⟩ | (simp only [evO, ogOp, refsOp]; exact ⟨trivial, trivial, trivial⟩)

/-! ### Who must come before whom -/
def getA : List (List Nat) → Nat → List Nat
  | [], _ => []
  | a :: _, 0 => a
  | _ :: l, n + 1 => getA l n
def ancF : List Oper → List (List Nat) → List (List Nat)
  | [], acc => acc
  | o :: r, acc => ancF r (acc ++ [(o.after.toList.filter (Region.binds .any)).flatMap fun e => e.on :: getA acc e.on])
/-- For each operation those that have come up when it comes up. -/
def ancL (ops : Array Oper) : List (List Nat) := (ancF ops.toList []).map List.eraseDups
def anB (an : List (List Nat)) (i j : Nat) : Bool := inL j (getA an i)
def ordB (an : List (List Nat)) (i j : Nat) : Bool := bif decide (j < i) then anB an i j else anB an j i
/-- What is asked of a region's text. -/
def drawB (ops : Array Oper) (an : List (List Nat)) : Bool :=
  Region.noSelect ops &&
  (List.range ops.size).all fun i => match ops[i]? with
    | none => true
    | some o =>
      (getA an i).all (fun j => o.after.any fun e => Region.binds .any e && decide (e.on < i) && (e.on == j || inL j (getA an e.on))) &&
      o.after.all (fun e => !Region.binds .any e || decide (e.on < i)) &&
      (List.range ops.size).all fun j => j == i || match (ops[j]?).bind (·.dst) with
        | none => true
        | some d => !((o.looksAt ops).contains d || o.dst == some d) || ordB an i j
abbrev LogE := Nat × List Nat × List Nat
def hit : List Nat → List Nat → Bool
  | [], _ => false
  | a :: l, m => inL a m || hit l m
def pairOk (an : List (List Nat)) (i : Nat) (rs ts : List Nat) (e : LogE) : Bool := !(hit e.2.2 rs || hit e.2.2 ts || hit ts e.2.1) || anB an i e.1
def okLog (an : List (List Nat)) (i : Nat) (rs ts : List Nat) : List LogE → Bool
  | [] => true
  | e :: l => pairOk an i rs ts e && okLog an i rs ts l
def slotsF (s : Nat) : Nat → List Nat
  | 0 => []
  | k + 1 => s :: slotsF (s + 1) k
/-- What comes behind one operation. -/
def nxtD (an : List (List Nat)) (i L : Nat) (log : List LogE) (s : Nat) (g : GV) (r : AR) (og : Prop) (rs : List Nat) (d : Option Nat) (t : List AV) (h : List ABlk) (F : List LogE → Nat → List AV → List ABlk → Prop) : Prop := match g with
  | .none => match r with
    | .pure ob v => og ∧ ob ∧ okLog an i rs [] log = true ∧ F ((i, rs, []) :: log) s (setT t d v) h
    | .heap ob v h' => og ∧ ob ∧ okLog an i rs (rs ++ slotsF s (h'.length - L)) log = true ∧ (L < h'.length → nrH L h') ∧ F ((i, rs, rs ++ slotsF s (h'.length - L)) :: log) (s + (h'.length - L)) (setT t d (ren L s v)) (place rs s h' h)
    | .fail => False
  | .g b => match r with
    | .pure ob v => (b = true → og ∧ ob) ∧ okLog an i rs [] log = true ∧ F ((i, rs, []) :: log) s (setT t d (.opt b v)) h
    | .heap ob v h' => (b = true → og ∧ ob ∧ okLog an i rs (rs ++ slotsF s (h'.length - L)) log = true ∧ (L < h'.length → nrH L h') ∧ F ((i, rs, rs ++ slotsF s (h'.length - L)) :: log) (s + (h'.length - L)) (setT t d (.opt true (ren L s v))) (place rs s h' h)) ∧
      (b = false → F ((i, [], []) :: log) s (setT t d (.opt false .top)) h)
    | .fail => b = false ∧ F ((i, [], []) :: log) s (setT t d (.opt false .top)) h
  | .bad => False
def wpD (P : Program) (sh : TypeId → Option (List Leaf)) (ct : Ct) (an : List (List Nat)) (L : Nat) (all : List Oper) (K : Kt) : List Oper → Nat → List LogE → Nat → List AV → List ABlk → Prop
  | [], _, _, s, t, h => s ≤ L ∧ K .normal t h
  | o :: r, i, log, s, t, h => nxtD an i L log s (gval t all o.guard) (evO P sh ct t (mask (refsOp t o.op) h) o.op) (ogOp t o.op) (refsOp t o.op) o.dst t h (wpD P sh ct an L all K r (i + 1))
end Go.Am
