/-
  A machine that computes, part 12: functions, calls; a law without inputs.
-/
import Derived.Test.YtiameicjjlfimaaCm11
import Derived.Test.YtiameicjjlfimaaAm17
namespace Go.Am
noncomputable section
set_option linter.unusedVariables false
set_option linter.unusedSimpArgs false
variable {P : Program}

/-! ### Results -/
theorem pO_pure {r : AR} {ob : Prop} {v : AV} (h : r = .pure ob v) : pO r = .pure ob v := by rw [h]; rfl
theorem cResA_ok {m : Nat} {f : Fr} {n : Nat} {h : Hp} {r : ResultVar} {v : CV} (hr : cResA P m f n h r = some v) : ∃ ob, resA P (T m f) (H n h) r = .pure ob (toAV v) ∧ ob := by
  cases r with
  | tmp i =>
    simp only [cResA] at hr
    split at hr
    · rename_i hi
      have := cstrip_ok hr
      exact ⟨optOk (toAV (fget m f i)), by simp only [resA, T_get (nblt.1 hi), this.1], this.2⟩
    · cases hr
  | cell c ty =>
    simp only [cResA] at hr
    split at hr
    · rename_i hc
      split at hr
      · rename_i b es i j hp
        obtain ⟨ob, q1, q2⟩ := cLoad_ok hr
        refine ⟨ob, ?_, q2⟩
        simp only [resA, T_get (nblt.1 hc), hp, toAV, resC]
        simp only [toAV] at q1
        exact pO_pure q1
      · cases hr
    · cases hr
theorem cResL_ok {m : Nat} {f : Fr} {n : Nat} {h : Hp} : ∀ {rs : List ResultVar} {l : List CV}, cResL P m f n h rs = some l → ∃ ob, resL P (T m f) (H n h) rs = .pure ob (.tup (toAVL l)) ∧ ob := by
  intro rs
  induction rs with
  | nil => intro l hr; simp only [cResL, Option.some.injEq] at hr; subst hr; exact ⟨True, by simp only [resL, toAVL], trivial⟩
  | cons r rs ih =>
    intro l hr
    simp only [cResL] at hr
    split at hr
    · rename_i v hv
      split at hr
      · rename_i l' hl
        injection hr with hr; subst hr
        obtain ⟨o1, q1, q2⟩ := cResA_ok hv
        obtain ⟨o2, r1, r2⟩ := ih hl
        exact ⟨o1 ∧ o2, by simp only [resL, q1, r1, resCons, toAVL], q2, r2⟩
      · cases hr
    · cases hr
theorem cRet_ok {m : Nat} {f : Fr} {n : Nat} {h : Hp} {rs : List ResultVar} {v : CV} (hr : cRet P m f n h rs = some v) : retK P rs (fun w g => w = toAV v ∧ g = H n h) (T m f) (H n h) := by
  unfold cRet at hr
  unfold retK
  split at hr
  · obtain ⟨ob, q1, q2⟩ := cResA_ok hr
    simp only
    rw [q1]
    exact ⟨q2, rfl, rfl⟩
  · rename_i hne
    split at hr
    · rename_i l hl
      injection hr with hr; subst hr
      obtain ⟨ob, q1, q2⟩ := cResL_ok hl
      split
      · exact absurd rfl (hne _)
      · rw [q1]
        exact ⟨q2, by simp only [toAV], rfl⟩
    · cases hr

/-! ### A function's run -/
theorem mkFr_get {m : Nat} (hm : m ≤ 1024) : ∀ (l : List CV) (i : Nat) (f : Fr) (j : Nat), i + l.length ≤ m → j < m → fget m (mkFr m l i f) j = if i ≤ j ∧ j < i + l.length then l.getD (j - i) .top else fget m f j := by
  intro l
  induction l with
  | nil => intro i f j hi hj; simp only [mkFr]; rw [if_neg (by simp)]
  | cons a l ih =>
    intro i f j hi hj
    simp only [List.length_cons] at hi
    simp only [mkFr]
    rw [ih (i + 1) _ j (by omega) hj, fget_set m f i j a hm (by omega) hj]
    simp only [List.length_cons]
    by_cases h1 : i + 1 ≤ j ∧ j < i + 1 + l.length
    · rw [if_pos h1, if_pos (by omega), show j - i = (j - (i + 1)) + 1 from by omega]; rfl
    · rw [if_neg h1]
      by_cases h2 : i = j
      · subst h2; rw [if_pos rfl, if_pos (by omega), Nat.sub_self]; rfl
      · rw [if_neg h2, if_neg (by omega)]
theorem mkFr_T {m : Nat} (hm : m ≤ 1024) {l : List CV} (hl : l.length ≤ m) : T m (mkFr m l 0 .e) = toAVL l ++ List.replicate (m - l.length) .top := by
  apply List.ext_getElem?
  intro j
  by_cases hj : j < m
  · have e1 : (T m (mkFr m l 0 .e))[j]? = some (toAV (fget m (mkFr m l 0 .e) j)) := by unfold T; rw [mapRange_get, if_pos hj]
    rw [e1, mkFr_get hm l 0 .e j (by omega) hj, fget_e]
    by_cases h1 : j < l.length
    · rw [if_pos (by omega), List.getElem?_append_left (by rw [toAVL_length]; exact h1), toAVL_map, List.getElem?_map, List.getElem?_eq_getElem h1]
      simp [List.getD_eq_getElem?_getD, List.getElem?_eq_getElem h1]
    · rw [if_neg (by omega), List.getElem?_append_right (by rw [toAVL_length]; omega), toAVL_length, List.getElem?_replicate, if_pos (by omega)]
      simp only [toAV]
  · rw [List.getElem?_eq_none (by rw [T_length]; omega), List.getElem?_eq_none (by rw [List.length_append, toAVL_length, List.length_replicate]; omega)]
theorem cRun_ok {sh : TypeId → Option (List Leaf)} (S : ShOk P sh) {cl : Cl} (C : ClOk P cl) (hmo : P.follows .mixedOrders = true) {fuel : Nat} {k : FuncId} {args : List CV} {n : Nat} {h : Hp} {v : CV} {n' : Nat} {h' : Hp}
    (hr : cRun P sh cl fuel k args n h = some (v, n', h')) : n ≤ n' ∧ Enters P k ∧ ∀ (E : Env) (vs : Array Value), HR E (H n h) → FR E (toAVL args) vs →
      Calls P k vs E.w fun e w' => ∃ u E', e = .returned u ∧ E'.w = w' ∧ Ext E (H n h) E' (H n' h') ∧ HR E' (H n' h') ∧ VR E' (toAV v) u := by
  unfold cRun at hr
  split at hr
  · rename_i fn hf
    split at hr
    · rename_i code hb
      split at hr
      · rename_i hk
        simp only [Bool.or_eq_false_iff, Bool.not_eq_false', Bool.and_eq_true, nble_iff] at hk
        obtain ⟨hnm, hm, hal⟩ := hk
        have hen : Enters P k := ⟨fn, hf, hnm, by rw [hb]; rfl⟩
        have main : ∀ (ex : Ex) (f' : Fr), cC P sh cl fn.ntmps fuel code (mkFr fn.ntmps args 0 .e) n h = some (ex, f', n', h') → (ex = .normal ∨ ex = .ret) → cRet P fn.ntmps f' n' h' fn.results.toList = some v → n ≤ n' ∧ Enters P k ∧ ∀ (E : Env) (vs : Array Value), HR E (H n h) → FR E (toAVL args) vs →
            Calls P k vs E.w fun e w' => ∃ u E', e = .returned u ∧ E'.w = w' ∧ Ext E (H n h) E' (H n' h') ∧ HR E' (H n' h') ∧ VR E' (toAV v) u := by
          intro ex f' hc hex hv
          obtain ⟨a1, aM⟩ := (cC_ok S C hmo hm fuel).1 _ _ _ _ _ _ _ _ hc
          refine ⟨a1, hen, fun E vs R F => calls_of_wp hf hb ?_⟩
          have hsz : vs.size = args.length := by rw [← F.1, toAVL_length]
          have F2 : FR E (T fn.ntmps (mkFr fn.ntmps args 0 .e)) (vs ++ Array.replicate (fn.ntmps - vs.size) undef) := by
            rw [mkFr_T hm hal]
            refine FR_append F ⟨by simp [hsz], fun i a v ha hv => ?_⟩
            rw [List.getElem?_replicate] at ha
            split at ha
            · injection ha with ha; subst ha; exact .top _
            · cases ha
          refine aM E _ _ R F2 rfl fun e E' a' t' g' hk X R' F' hd => ?_
          obtain ⟨rfl, rfl, rfl⟩ := hk
          have done : a'.defers = [] ∧ ∃ u, (results fn a'.tmps).run P E'.w = .ok u E'.w ∧ ∃ u' E2, (Ending.returned u) = .returned u' ∧ E2.w = E'.w ∧ Ext E (H n h) E2 (H n' h') ∧ HR E2 (H n' h') ∧ VR E2 (toAV v) u' := by
            obtain ⟨u, v', q1, ⟨rfl, _⟩, q3⟩ := ret_sound (P := P) R' F' (cRet_ok hv)
            exact ⟨hd, u, q1, u, E', rfl, rfl, X, R', q3⟩
          rcases hex with rfl | rfl
          · exact done
          · exact done
        split at hr
        · rename_i f1 n1 h1 hc
          split at hr
          · rename_i w hw
            injection hr with hr; cases hr
            exact main _ _ hc (.inl rfl) hw
          · cases hr
        · rename_i f1 n1 h1 hc
          split at hr
          · rename_i w hw
            injection hr with hr; cases hr
            exact main _ _ hc (.inr rfl) hw
          · cases hr
        · cases hr
      · cases hr
    · cases hr
  · cases hr
theorem crefs_nil_cad {v v' : CV} {n : Nat} (h : cad [] n v = some v') : True := trivial
theorem Calls.wkn {k : FuncId} {vs : Array Value} {w : World} {A B : Ending → World → Prop} (h : Calls P k vs w A) (hab : ∀ e w', A e w' → B e w') : Calls P k vs w B := h.mono hab
theorem adoptC_ok {k : FuncId} {args : List CV} {n : Nat} {h : Hp} {v : CV} {n1 : Nat} {h1 : Hp} (he : Enters P k)
    (hc : ∀ (E : Env) (vs : Array Value), HR E (H n h) → FR E (toAVL args) vs → Calls P k vs E.w fun e w' => ∃ u E1, e = .returned u ∧ E1.w = w' ∧ Ext E.view [] E1 (H n1 h1) ∧ HR E1 (H n1 h1) ∧ VR E1 (toAV v) u) :
    match adoptC v n1 h1 n h with
    | .no => True
    | .p v' => CallsTo P k args n h v' n h
    | .w v' n' h' => CallsTo P k args n h v' n' h' := by
  have go : ∀ (ν : List Nat) (v' : CV) (h' : Hp), ν.Nodup → (∀ b ∈ ν, b < n1) → cad ν n v = some v' → layB ν n h1 ν n h = some h' → CallsTo P k args n h v' (n + ν.length) h' := by
    intro ν v' h' hnd hlt hcd hl
    refine ⟨by omega, he, fun E vs R F => (hc E vs R F).mono ?_⟩
    rintro e w' ⟨u, E1, rfl, rfl, X1, R1, V1⟩
    obtain ⟨E2, q1, q2, q3, q4⟩ := adopt R X1 R1 V1 hnd hlt hcd hl
    exact ⟨u, E2, rfl, q1, q2, q3, q4⟩
  unfold adoptC
  split
  · trivial
  · rename_i v' hv
    split at hv
    · split at hv
      · rename_i w hw
        injection hv with hv; subst hv
        exact go [] w h (by simp) (by simp) hw rfl
      · cases hv
    · simp only at hv
      split at hv
      · split at hv <;> cases hv
      · cases hv
  · rename_i v' n' h' hv
    split at hv
    · split at hv <;> cases hv
    · rename_i hne
      simp only at hv
      split at hv
      · rename_i w hlt hw
        split at hv
        · rename_i h2 hl
          injection hv with q1 q2 q3
          subst q1 q2 q3
          exact go _ _ _ (reach_nodup h1 1000 _ [] (by simp)) (ltAll_iff.1 hlt) hw hl
        · cases hv
      · cases hv
theorem FR_view_nil (E : Env) : H 0 Tr.e = [] := rfl
theorem cCall_ok {sh : TypeId → Option (List Leaf)} (S : ShOk P sh) {xt : Cl} (Cx : ClOk P xt) (hmo : P.follows .mixedOrders = true) (md : FuncId → Bool) : ∀ d, ClOk P (cCall P sh xt md d) := by
  intro d
  induction d with
  | zero => intro k args n h; trivial
  | succ d ih =>
    intro k args n h
    have hx := Cx k args n h
    simp only [cCall]
    cases hxt : xt k args n h with
    | p v => rw [hxt] at hx; exact hx
    | w v n' h' => rw [hxt] at hx; exact hx
    | no =>
      simp only
      cases hmd : md k with
      | true =>
        simp only
        cases hrun : cRun P sh (cCall P sh xt md d) 5000 k args n h with
        | none => trivial
        | some s =>
          obtain ⟨v, n', h'⟩ := s
          obtain ⟨q1, q2, q3⟩ := cRun_ok S ih hmo hrun
          exact ⟨q1, q2, q3⟩
      | false =>
        have hfe : args.map (croF n h) = args.map (croV n h 50) := List.map_congr_left fun a _ => croF_eq n h a
        have hx0 := Cx k (args.map (croV n h 50)) 0 .e
        simp only [hfe]
        cases hxr : xt k (args.map (croV n h 50)) 0 .e with
        | p v =>
          rw [hxr] at hx0
          simp only
          exact adoptC_ok hx0.2.1 fun E vs R F => hx0.2.2 E.view vs (view_HR E) (croL_ok R 50 F)
        | w v n1 h1 =>
          rw [hxr] at hx0
          simp only
          exact adoptC_ok hx0.2.1 fun E vs R F => hx0.2.2 E.view vs (view_HR E) (croL_ok R 50 F)
        | no =>
          simp only
          cases hrun : cRun P sh (cCall P sh xt md d) 5000 k (args.map (croV n h 50)) 0 .e with
          | none => trivial
          | some s =>
            obtain ⟨v, n1, h1⟩ := s
            obtain ⟨q1, q2, q3⟩ := cRun_ok S ih hmo hrun
            simp only
            exact adoptC_ok q2 fun E vs R F => q3 E.view vs (view_HR E) (croL_ok R 50 F)

/-! ### A law without inputs -/
theorem law_run {sh : TypeId → Option (List Leaf)} (S : ShOk P sh) {xt : Cl} (Cx : ClOk P xt) (hmo : P.follows .mixedOrders = true) {md : FuncId → Bool} {d : Nat} {k : FuncId} {b : Bool}
    (hr : cCall P sh xt md d k [] 0 .e = .p (.bool b)) (W : World) : Calls P k #[] W fun e W' => e = .returned (.bool b) ∧ Same W W' := by
  have hk := cCall_ok S Cx hmo md d k [] 0 .e
  rw [hr] at hk
  obtain ⟨_, _, hc⟩ := hk
  refine (hc (top W) #[] (top_HR W) FR_nil).mono ?_
  rintro e W' ⟨u, E', rfl, rfl, X, R, V⟩
  simp only [toAV] at V
  exact ⟨by rw [VR_bool V], ⟨X.os, X.tape, X.output, X.size, fun k hk => X.frame k hk (by rintro ⟨b, x, o, hb, _⟩; simp [H] at hb)⟩⟩
theorem xt_none : ClOk P (fun _ _ _ _ => .no) := fun _ _ _ _ => trivial
/-- A function without arguments that answers with a bool, as a contract. -/
theorem run_fn {sh : TypeId → Option (List Leaf)} (S : ShOk P sh) {xt : Cl} (Cx : ClOk P xt) (hmo : P.follows .mixedOrders = true) {md : FuncId → Bool} {d : Nat} {k : FuncId} {b : Bool}
    (hr : cCall P sh xt md d k [] 0 .e = .p (.bool b)) : FnOk P k (pureC fun l => match l with | [] => .pure True (.bool b) | _ => .fail) := by
  have hk := cCall_ok S Cx hmo md d k [] 0 .e
  rw [hr] at hk
  obtain ⟨_, he, _⟩ := hk
  have main : ∀ (E : Env) (h : List ABlk) (l : List AV) (vs : Array Value) (ob : Prop) (v : AV), HR E h → FR E l vs → pureC (fun l => match l with | [] => .pure True (.bool b) | _ => .fail) l h = .pure ob v → ob → Calls P k vs E.w (RetP E.w v) := by
    intro E h l vs ob v R F hp hob
    cases l with
    | cons a l => simp only [pureC, roL, pureR] at hp; cases hp
    | nil =>
      simp only [pureC, roL, pureR, AR.pure.injEq] at hp
      obtain ⟨_, rfl⟩ := hp
      have hvs : vs = #[] := by have := F.1; apply Array.eq_empty_of_size_eq_zero; simpa using this.symm
      subst hvs
      refine (law_run S Cx hmo hr E.w).mono ?_
      rintro e w' ⟨rfl, hs⟩
      exact ⟨_, rfl, rfl, hs⟩
  refine ⟨he, fun E h l vs ob v h' R F hp hob => ?_, main⟩
  cases hc : pureC (fun l => match l with | [] => .pure True (.bool b) | _ => .fail) l h with
  | fail => rw [hc] at hp; cases hp
  | heap a b c => exfalso; unfold pureC at hc; cases l with
    | nil => simp only [roL, pureR] at hc; cases hc
    | cons a l => simp only [roL, pureR] at hc; cases hc
  | pure ob' v' =>
    rw [hc] at hp
    simp only [AR.out, Option.some.injEq, Prod.mk.injEq] at hp
    obtain ⟨rfl, rfl, rfl⟩ := hp
    refine (main E h l vs _ _ R F hc hob).mono ?_
    rintro e w' ⟨u, rfl, hu, hS⟩
    obtain ⟨R', X'⟩ := HR_same R hS
    exact ⟨u, _, rfl, rfl, X', R', conc_mk hu⟩
end
end Go.Am
