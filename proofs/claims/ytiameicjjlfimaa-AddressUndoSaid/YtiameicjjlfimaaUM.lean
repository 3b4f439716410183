/-
  The statement AddressUndoSaid: for every input the law returns true and its arguments read as before. No condition.
-/
import Derived.Test.YtiameicjjlfimaaAA
import Derived.Test.YtiameicjjlfimaaAm17
import Derived.Test.YtiameicjjlfimaaRows
import Derived.WalkKit
namespace Go.Proofs.Ytiameicjjlfimaa
open Go.ChangeShapes Go.WideShapes Go.ChangeAt Go.RowKit Go.Joins Go.Deep
set_option linter.unusedVariables false
section
variable {H : Type} {enc : TypeId × Value → H} {P : Program} {w : World} {base : Nat} {spare : Nat → Bool} {held : Bool}
theorem open_agg5 {r : Reach} {b0 : Nat} {t : TypeId} {f0 f1 f2 f3 f4 : Field} {v : Value} {d : DataW H} {p : List MemPlace} (hs : P.underlying t = some (.struct #[f0, f1, f2, f3, f4])) (hone : oneCellFields P #[f0, f1, f2, f3, f4] = true) (hC : P.cellsOf t = 5)
    (hv : Value.okWide P w r b0 t v) (h : DataW.Trod enc P w base spare held t v d p) :
    ∃ (v0 v1 v2 v3 v4 : Value) (y0 y1 y2 y3 y4 : DataW H × List MemPlace) (n : Nat), v = .agg #[v0, v1, v2, v3, v4] ∧ d = .agg [y0.1, y1.1, y2.1, y3.1, y4.1] ∧ p = y0.2 ++ (y1.2 ++ (y2.2 ++ (y3.2 ++ y4.2))) ∧
      DataW.trod enc P w base spare held n f0.type [v0] = some y0 ∧ DataW.trod enc P w base spare held n f1.type [v1] = some y1 ∧ DataW.trod enc P w base spare held n f2.type [v2] = some y2 ∧ DataW.trod enc P w base spare held n f3.type [v3] = some y3 ∧ DataW.trod enc P w base spare held n f4.type [v4] = some y4 := by
  obtain ⟨cs, rfl, hsz⟩ := okWide_struct hs hv
  obtain ⟨l⟩ := cs
  match l, hsz.trans hC with
  | [c0, c1, c2, c3, c4], _ =>
    obtain ⟨fuel, hf⟩ := h
    obtain ⟨xs, n, _, hx, _, hlen, hg⟩ := DataW.trod_struct hs hf
    obtain ⟨o0, k0⟩ := hone_of hone 0 f0 rfl
    obtain ⟨o1, k1⟩ := hone_of hone 1 f1 rfl
    obtain ⟨o2, k2⟩ := hone_of hone 2 f2 rfl
    obtain ⟨o3, k3⟩ := hone_of hone 3 f3 rfl
    obtain ⟨o4, k4⟩ := hone_of hone 4 f4 rfl
    match xs, hlen with
    | [y0, y1, y2, y3, y4], _ =>
      simp only [Prod.mk.injEq] at hx
      exact ⟨c0, c1, c2, c3, c4, y0, y1, y2, y3, y4, n, rfl, by simpa using hx.1, by simpa using hx.2, by simpa [Value.cells, o0, k0] using hg 0 f0 rfl, by simpa [Value.cells, o1, k1] using hg 1 f1 rfl, by simpa [Value.cells, o2, k2] using hg 2 f2 rfl, by simpa [Value.cells, o3, k3] using hg 3 f3 rfl, by simpa [Value.cells, o4, k4] using hg 4 f4 rfl⟩

end
section
variable {H : Type} {enc : TypeId × Value → H} {P : Program}
theorem post_of_below {f : Func} {s : ChangeSpec} {apart fresh handsOn again : Bool} {W W' : World} {args : Array Value} {v : Value} {ds gs : List (DataW H)} {before pa pv : List MemPlace}
    (hW : DataW.Whole enc P f.params.toList s.vars apart W args.toList ds gs before)
    (hres : ∀ (b : Nat) (sp : Nat → Bool) (hd : Bool), DataW.TrodAll enc P W' b sp hd f.resultTypes.toList (v.resultList f.resultTypes.size) (s.fn H (ds ++ gs)).results [])
    (hargs : ∀ sp : Nat → Bool, (∀ p ∈ before, sp p.block = true) → DataW.TrodAll enc P W' 0 sp true f.params.toList args.toList (s.fn H (ds ++ gs)).args pa)
    (hvars : ∀ sp : Nat → Bool, (∀ p ∈ before, sp p.block = true) → DataW.TrodVars enc P W' sp s.vars (s.fn H (ds ++ gs)).vars pv)
    (hps : before = pa ++ pv) (hb : Below W.heap.size W W')
    (hok : ∀ (j : Nat) (t : TypeId) (r : Value), f.resultTypes[j]? = some t → (v.resultList f.resultTypes.size)[j]? = some r → Value.okWide P W' .any 0 t r) :
    s.post enc P f apart fresh handsOn again W args v W' := by
  have hlt : ∀ p ∈ before, p.block < W.heap.size := fun p hp => hW.lt p hp
  have hold : ∀ p ∈ before, (fun b => decide (b < W.heap.size)) p.block = true := fun p hp => by simpa using hlt p hp
  refine ⟨ds, gs, before, [], pa, pv, hW, hres _ _ _, hargs _ hold, hvars _ hold, World.keptBut_mono (fun p hp => ⟨hp, ?_⟩) (hb.frame (· ∈ before)), fun _ => ?_⟩
  · rw [hps, List.mem_append] at hp
    exact Or.inr hp
  · obtain ⟨_, _, _, _, _, hz, hn⟩ := hW
    refine ⟨hok, _, _, ([] ++ pa) ++ pv, ⟨[] ++ pa, pv, trodAll_append (hargs _ (fun _ _ => rfl)) (hres _ _ _), hvars _ (fun _ _ => rfl), rfl, ?_, ?_⟩, ?_⟩
    · intro b off hp
      have hin : MemPlace.cell b off ∈ before := by rw [hps]; simpa using hp
      rw [hb.frozen (hlt _ hin)]
      exact hz b off hin
    · intro ha
      have := hn ha
      rw [hps] at this
      simpa using this
    · intro p hp _
      rw [hps]
      simpa using hp
end
theorem own : ownKnob Try.prog.godebug = none := by kernel_rfl
theorem lays : laidOutB Try.prog = true := by kernel_rfl
/-- An address as an argument. -/
theorem open_addr {H : Type} {enc : TypeId × Value → H} {w : World} {base : Nat} {spare : Nat → Bool} {held : Bool} {r : Reach} {b0 : Nat} {v : Value} {d : DataW H} {p : List MemPlace} (hv : Value.okWide Try.prog w r b0 23 v) (h : DataW.Trod enc Try.prog w base spare held 23 v d p) :
    ∃ i0 i1 i2 i3 i4 i5 : Int, v = .agg #[.int .u8 i0, .int .u8 i1, .int .u8 i2, .int .u8 i3, .int .u8 i4, .int .u8 i5] ∧ byt i0 i1 i2 i3 i4 i5 := by
  simp only [Value.okWide, Try.underlying23] at hv
  obtain ⟨cs, rfl, hsz, _⟩ := hv
  have hC : Try.prog.cellsOf 23 = 6 := by kernel_rfl
  have hE : Try.prog.cellsOf 5 = 1 := by kernel_rfl
  obtain ⟨l⟩ := cs
  match l, hsz.trans hC with
  | [c0, c1, c2, c3, c4, c5], _ =>
    obtain ⟨fuel, hf⟩ := h
    obtain ⟨xs, n, _, hx, _, hlen, hg⟩ := DataW.trod_array Try.underlying23 hf
    match xs, hlen with
    | [y0, y1, y2, y3, y4, y5], _ =>
      have g0 := hg 0 (by omega)
      have g1 := hg 1 (by omega)
      have g2 := hg 2 (by omega)
      have g3 := hg 3 (by omega)
      have g4 := hg 4 (by omega)
      have g5 := hg 5 (by omega)
      simp [hE, Value.cells] at g0 g1 g2 g3 g4 g5
      obtain ⟨i0, e0, _, w0⟩ := DataW.trod_int Try.underlying5 g0
      obtain ⟨i1, e1, _, w1⟩ := DataW.trod_int Try.underlying5 g1
      obtain ⟨i2, e2, _, w2⟩ := DataW.trod_int Try.underlying5 g2
      obtain ⟨i3, e3, _, w3⟩ := DataW.trod_int Try.underlying5 g3
      obtain ⟨i4, e4, _, w4⟩ := DataW.trod_int Try.underlying5 g4
      obtain ⟨i5, e5, _, w5⟩ := DataW.trod_int Try.underlying5 g5
      simp only [List.cons.injEq, and_true] at e0 e1 e2 e3 e4 e5
      subst e0 e1 e2 e3 e4 e5
      exact ⟨i0, i1, i2, i3, i4, i5, rfl, bounds_u8 w0, bounds_u8 w1, bounds_u8 w2, bounds_u8 w3, bounds_u8 w4, bounds_u8 w5⟩
/-- A list of addresses as an argument. -/
theorem open_addrs {H : Type} {enc : TypeId × Value → H} {w : World} {spare : Nat → Bool} {held : Bool} {r : Reach} {b0 : Nat} {v : Value} {d : DataW H} {p : List MemPlace} (hv : Value.okWide Try.prog w r b0 43 v) (h : DataW.Trod enc Try.prog w 0 spare held 43 v d p) :
    ∃ (n : Nat) (nl : Bool) (c : Nat → Nat → Am.AV), Am.VR (Am.top w) (.ro 6 n nl c) v ∧ adQ n c := by
  obtain ⟨a, len, cap, rfl⟩ := okWide_slice Try.underlying43 hv
  obtain ⟨fuel, hf⟩ := h
  have hC : Try.prog.cellsOf 23 = 6 := by kernel_rfl
  have hE : Try.prog.cellsOf 5 = 1 := by kernel_rfl
  rcases DataW.trod_slice Try.underlying43 hf with ⟨h0, _⟩ | ⟨a', len', cap', elems, rest, n, _, h1, _, hb, hl, hm, hlen, hi, _, _⟩
  · simp [Value.cells] at h0
    obtain ⟨rfl, rfl, rfl⟩ := h0
    exact ⟨0, true, fun _ _ => .top, .ro 6 0 true _ none 0 (Nat.le_refl _) (by decide) rfl (fun _ => rfl) (fun _ _ => .nilFunc) (fun h => absurd h (by omega)) (fun x y hx => absurd hx (by omega)) (fun x y hx => absurd hx (by omega)) (fun x y hx => absurd hx (by omega)), fun x y hx => absurd hx (by omega)⟩
  · simp [Value.cells] at h1
    obtain ⟨rfl, rfl, rfl⟩ := h1
    rw [hC] at hi
    have key : ∀ i, i < len → a'.block < w.heap.size ∧ ∀ y, y < 6 → ∃ q : Int, w.cell? ((a'.add (i * 6)).add y) = some (.int .u8 q) ∧ 0 ≤ q ∧ q ≤ 255 := by
      intro i hil
      have h2 := hi i hil
      rw [List.getElem?_eq_getElem (by omega)] at h2
      obtain ⟨cs, hcs, ht⟩ := Option.bind_eq_some_iff.mp h2
      refine ⟨by have hbl := World.cells?_block hcs (by omega); unfold Addr.add at hbl; split at hbl <;> exact hbl, fun y hy => ?_⟩
      obtain ⟨xs, m, _, _, hcl, hxl, hg⟩ := DataW.trod_array Try.underlying23 ht
      have hsome := World.cells?_some hcs
      have hg' := hg y hy
      rw [hE, Nat.mul_one, List.getElem?_eq_getElem (by omega)] at hg'
      rw [hC] at hcl
      have hcy : (cs.drop y).take 1 = [cs[y]] := by
        rw [List.drop_eq_getElem_cons (by omega)]; rfl
      rw [hcy] at hg'
      obtain ⟨q, e0, _, w0⟩ := DataW.trod_int Try.underlying5 hg'
      simp only [List.cons.injEq, and_true] at e0
      refine ⟨q, ?_, bounds_u8 w0⟩
      have h3 := (hsome.2.2 y hy)
      rw [h3, List.getElem?_eq_getElem (by omega), e0]
    by_cases h0 : len = 0
    · subst h0
      exact ⟨0, false, fun _ _ => .top, .ro 6 0 false _ (some a') cap hl hm rfl (by simp) (fun _ _ => .nilFunc) (fun h => absurd h (by omega)) (fun x y hx => absurd hx (by omega)) (fun x y hx => absurd hx (by omega)) (fun x y hx => absurd hx (by omega)), fun x y hx => absurd hx (by omega)⟩
    · have hsp : a'.spot = none := by
        obtain ⟨q, hq, _⟩ := (key 0 (by omega)).2 0 (by omega)
        have := World.cell?_spot hq
        simpa [Addr.add] using this
      obtain ⟨b, o, sp⟩ := a'
      simp only at hsp
      subst hsp
      have cell : ∀ x y, x < len → y < 6 → ∃ q : Int, w.cell? ⟨b, o + x * 6 + y, none⟩ = some (.int .u8 q) ∧ 0 ≤ q ∧ q ≤ 255 := by
        intro x y hx hy
        obtain ⟨q, h1, h2⟩ := (key x hx).2 y hy
        rw [Addr.add_lit, Addr.add_lit] at h1
        exact ⟨q, h1, h2⟩
      refine ⟨len, false, fun x y => match w.cell? ⟨b, o + x * 6 + y, none⟩ with | some (.int .u8 q) => .int .u8 q | _ => .top, .ro 6 len false _ (some ⟨b, o, none⟩) cap hl hm rfl (by simp) (fun x y => (w.cell? ⟨b, o + x * 6 + y, none⟩).getD .nilFunc) (fun _ => ⟨b, o, rfl, (key 0 (by omega)).1, fun x y hx hy => ?_⟩) (fun x y hx hy => ?_) (fun x y hx hy => ?_) (fun x y hx hy => ?_), fun x y hx hy => ?_⟩
      · obtain ⟨q, h1, _⟩ := cell x y hx hy
        rw [show (Am.top w).w = w from rfl, h1]; rfl
      · obtain ⟨q, h1, _⟩ := cell x y hx hy
        rw [h1]; rfl
      · obtain ⟨q, h1, _⟩ := cell x y hx hy
        rw [h1]; exact .int _ _
      · obtain ⟨q, h1, _⟩ := cell x y hx hy
        rw [h1]; simp only [Am.nref]
      · obtain ⟨q, h1, h2⟩ := cell x y hx hy
        show Am.u8Q (match w.cell? ⟨b, o + x * 6 + y, none⟩ with | some (.int .u8 q) => .int .u8 q | _ => .top)
        rw [h1]; exact h2
set_option maxRecDepth 100000 in
theorem lifted10 (os : Os) (started : os.Started) (H : Type) (enc : TypeId × Value → H) :
    ReturnsInHanded {} Try.checked os 10 .any (Rows.addressUndoSpec.pre6 enc Try.prog Try.f10 Rows.addressUndoRow.domain false) (Rows.addressUndoSpec.post enc Try.prog Try.f10 false true false false) := by
  refine returnsInHanded_of_change (C := Try.checked) own started (by kernel_rfl) Try.func10
    (ChangeSpec.witness6 (enc := enc) (C := Try.checked) false ⟨#[], #[.slice none 0 0, .agg #[.int .u8 0, .int .u8 0, .int .u8 0, .int .u8 0, .int .u8 0, .int .u8 0], .agg #[.int .u8 0, .int .u8 0, .int .u8 0, .int .u8 0, .int .u8 0, .int .u8 0]], []⟩ 8 (by kernel_rfl) (by kernel_rfl) (by kernel_rfl) (by kernel_rfl)) ?_
  intro W base args ds gs before hval0 hW hcnd _
  have hval : ∀ (j : Nat) t v, Try.f10.params[j]? = some t → args[j]? = some v → Value.okWide Try.prog W .any base t v := hval0
  have hW' := hW
  obtain ⟨p, q, hA0, hV, rfl, hfz, hnd⟩ := hW
  have hA : DataW.TrodAll enc Try.prog W 0 (fun _ => true) true Try.f10.params.toList args.toList ds p := hA0
  have hAll := hA
  have hlt : ∀ x ∈ p ++ q, x.block < W.heap.size := fun x hx => hW'.lt x hx
  rw [Try.params10] at hA hval
  obtain ⟨v0, vs0, d0, ds0, p0, q0, hargs, rfl, rfl, h0, r0⟩ := trodAll_cons hA
  obtain ⟨v1, vs1, d1, ds1, p1, q1, rfl, rfl, rfl, h1, r1⟩ := trodAll_cons r0
  obtain ⟨v2, vs2, d2, ds2, p2, q2, rfl, rfl, rfl, h2, r2⟩ := trodAll_cons r1
  obtain ⟨rfl, rfl, rfl⟩ := trodAll_nil r2
  obtain rfl : args = #[v0, v1, v2] := by cases args; simp_all
  obtain ⟨rfl, rfl⟩ := trodVars_none hV
  obtain ⟨n, nl, c, V0, k0⟩ := open_addrs (hval 0 43 v0 rfl rfl) h0
  obtain ⟨a0, a1, a2, a3, a4, a5, rfl, k1⟩ := open_addr (hval 1 23 v1 rfl rfl) h1
  obtain ⟨b0, b1, b2, b3, b4, b5, rfl, k2⟩ := open_addr (hval 2 23 v2 rfl rfl) h2
  refine (Am.law_call (l := [.ro 6 n nl c, .agg [.int .u8 a0, .int .u8 a1, .int .u8 a2, .int .u8 a3, .int .u8 a4, .int .u8 a5], .agg [.int .u8 b0, .int .u8 b1, .int .u8 b2, .int .u8 b3, .int .u8 b4, .int .u8 b5]]) ok10 ?_ rfl ?_).mono fun ed W' ⟨he, hg⟩ => ?_
  · exact Am.FR_list (Am.fl_cons (V0) (Am.fl_cons (Am.conc_mk rfl) (Am.fl_cons (Am.conc_mk rfl) Am.fl_nil)))
  · exact ⟨by simp [Am.roObL, Am.roOb], k0, k1, k2⟩
  subst he
  have hb := Am.below_of_same hg
  exact ⟨_, rfl, post_of_below (pa := _) (pv := []) hW' (fun _ _ _ => (trodAll_cons_mk (shut_bool Try.underlying4 _) trodAll_mk0))
    (fun sp hsp => Am.all_stays lays hb _ _ _ _ (by kernel_rfl) hAll (fun x hx => hlt x (List.mem_append_left _ hx)) fun x hx => hsp x (List.mem_append_left _ hx)) (fun _ _ => rfl) rfl hb (ok_one (by kernel_rfl) rfl (okWide_bool_mk Try.underlying4 _))⟩
theorem addressUndo : Rows.AddressUndoSaid :=
  OpenClaim.holds_of_wide 10 Try.f10 rfl rfl rfl rfl rfl rfl rfl ⟨rfl, rfl, rfl, rfl, rfl⟩ rfl rfl rfl rfl rfl (by kernel_rfl) Try.func10 (by kernel_rfl)
    (of_decide_eq_true (by kernel_rfl)) (by unfold Func.isWrapper; first | (rw [if_pos (by decide +kernel)]; kernel_rfl) | (rw [if_neg (by decide +kernel)]; exact ⟨rfl, rfl⟩))
    (fun os started H enc _ => lifted10 os started H enc)
#print axioms addressUndo
end Go.Proofs.Ytiameicjjlfimaa
