/-
  The abstract machine, part 6: append, make, literals.
-/
import Derived.Test.YtpnhehcncljhpaaAm5
namespace Go.Am
set_option linter.unusedVariables false
section
variable {P : Program} {E : Env} {h : List ABlk}

theorem appC_zero (c d : Nat → Nat → AV) : appC 0 c d = d := by
  funext x y; simp [appC]

/-- A row of no elements and without memory is known under the next number. -/
theorem nil_HR (H : HR E h) (e z : Nat) (c : Nat → Nat → AV) : HR E (h ++ [.row e z 0 c]) ∧ Ext E h E (h ++ [.row e z 0 c]) := by
  have hn : E.σ h.length = none := H.fresh _ (Nat.le_refl _)
  have hown : ∀ k, Own E (h ++ [.row e z 0 c]) k → Own E h k := by
    rintro k ⟨b, y, o, h1, h2, h3⟩
    rcases getElem?_snoc h1 with ⟨hb, h1⟩ | ⟨rfl, rfl⟩
    · exact ⟨b, y, o, h1, h2, h3⟩
    · rw [hn] at h3; cases h3
  refine ⟨⟨fun b y hb => ?_, fun b b' y y' k o o' h1 h2 h3 h4 h5 h6 => ?_, fun k hk => ?_, fun b hb => ?_⟩, ⟨rfl, rfl, rfl, fun _ _ h => h, fun _ h => h, Nat.le_refl _, fun k cs e h => ⟨cs, h, rfl⟩, fun _ _ _ => rfl, fun k h => .inl (hown k h), by simp, fun _ _ => rfl, fun _ h => .inl h⟩⟩
  · rcases getElem?_snoc hb with ⟨_, hb⟩ | ⟨rfl, rfl⟩
    · exact H.blk b y hb
    · unfold BR; rw [hn]
  · rcases getElem?_snoc h1 with ⟨l1, g1⟩ | ⟨e1, e1'⟩ <;> rcases getElem?_snoc h3 with ⟨l3, g3⟩ | ⟨e3, e3'⟩
    · exact H.inj b b' y y' k o o' g1 h2 g3 h4 h5 h6
    · rw [e3, hn] at h6; cases h6
    · rw [e1, hn] at h5; cases h5
    · rw [e1, e3]
  · obtain ⟨h1, h2⟩ := H.prot k hk
    exact ⟨h1, fun ho => h2 (hown k ho)⟩
  · rw [List.length_append, List.length_singleton] at hb
    exact H.fresh b (by omega)

theorem info3 {e z zn by_ : Nat} (hz : tsz P e = some z) (hb : tby P e = some by_) (hn : tzn P e = some zn) : ∃ i zv, P.info? e = some i ∧ i.size = z ∧ i.bytes = by_ ∧ i.zero = some zv ∧ zv.cells.size = zn := by
  obtain ⟨i, hi, h1⟩ := info_of_tsz hz
  obtain ⟨i', hi', h2⟩ := info_of_tby hb
  rw [hi] at hi'; cases hi'
  unfold tzn at hn
  rw [hi] at hn
  cases hzv : i.zero with
  | none => simp only [hzv] at hn; cases hn
  | some zv => simp only [hzv] at hn; exact ⟨i, zv, hi, h1, h2, hzv, by simpa using hn⟩

theorem src_nil {z : Nat} (a : Option Addr) (c : Nat) : SrcRun P E.w z 0 (.slice a 0 c) [] := by
  refine ⟨by simp, fun W => rfl, fun W _ => ?_, fun v hv => by cases hv⟩
  cases a with
  | none => rfl
  | some a => simp [Builtin.firstCells, loadCells, loadCellsFrom]

theorem VR_new_sl {o : Obj} {cs : Array Value} {e z n cap : Nat} {nl : Bool} (ho : o = .cells cs e) (hs : cs.size = cap * z) (hn : n ≤ cap) (hc : cap ≤ maxLen) (hnl : nl = false) :
    VR (E.push h o) (.sl h.length z 0 n nl) (.slice (some ⟨E.w.heap.size, 0, none⟩) n cap) := by
  subst ho
  refine .sl _ _ _ _ _ _ _ hn hc (fun h => by rw [hnl] at h; cases h) (fun h => by cases h) (fun _ => ⟨E.w.heap.size, 0, cs, e, upd_same _ _ _, by simp, heap_alloc_new _ _, by omega⟩)

/-- m elements of a row written over. -/
theorem ovw_HR {b k o N es s m : Nat} {e e2 : TypeId} {c d : Nat → Nat → AV} {cs : Array Value} {news : List Value} (H : HR E h) (hb : geth h b = .row e es N c) (hσ : E.σ b = some (k, o)) (hk : E.w.heap[k]? = some (.cells cs e2 (0, 0)))
    (hl : news.length = m * es) (hs : s ≤ N) (hfit : o + s * es + m * es ≤ cs.size) (hn : ∀ q y, q < m → y < es → ∃ v, news[q * es + y]? = some v ∧ v.oneCell' = true ∧ VR E (d q y) v) :
    e2 = e ∧ HR { E with w := putRow E.w k (splice cs (o + s * es) news) e2 } (seth h b (.row e es (max N (s + m)) (ovwC s m c d))) ∧ Ext E h { E with w := putRow E.w k (splice cs (o + s * es) news) e2 } (seth h b (.row e es (max N (s + m)) (ovwC s m c d))) := by
  have hne : (ABlk.row e es N c) ≠ .dead := fun e => by cases e
  have hbs : h[b]? = some (.row e es N c) := by rw [geth_some (h := h) (b := b) (by rw [hb]; exact hne), hb]
  have hB := H.blk b _ hbs
  unfold BR at hB
  rw [hσ] at hB
  obtain ⟨cs', q1, q2, q3⟩ := hB
  rw [q1] at hk
  injection hk with hk
  injection hk with hk1 hk2
  subst hk1 hk2
  have hspl : (splice cs' (o + s * es) news).size = cs'.size := splice_size (by rw [hl]; exact hfit)
  have K := keep_put H (cs' := splice cs' (o + s * es) news) ⟨b, _, o, hbs, hne, hσ⟩ q1 hspl
  obtain ⟨H1, X1⟩ := put_HR (x' := .row e es (max N (s + m)) (ovwC s m c d)) H hbs hne hσ q1 hspl (by
    unfold BR
    rw [show (Env.mk (putRow E.w k (splice cs' (o + s * es) news) e) E.σ E.prot).σ b = some (k, o) from hσ]
    refine ⟨_, putRow_same (lt_of_some q1), ?_, fun x y hx hy => ?_⟩
    · rw [hspl]
      rcases Nat.le_total N (s + m) with h' | h'
      · rw [Nat.max_eq_right h', Nat.add_mul]; omega
      · rw [Nat.max_eq_left h']; exact q2
    rw [splice_get (by rw [hl]; exact hfit), hl]
    unfold ovwC
    by_cases hin : s ≤ x ∧ x < s + m
    · obtain ⟨v, a1, a2, a3⟩ := hn (x - s) y (by omega) hy
      have e1 : x * es = s * es + (x - s) * es := by rw [← Nat.add_mul]; congr 1; omega
      have hsl := split_lt (show x - s < m from by omega) hy
      rw [if_pos (by omega), if_pos hin]
      exact ⟨v, by rw [← a1]; congr 1; omega, a2, a3.mono K⟩
    · obtain ⟨v, a1, a2, a3⟩ := q3 x y (by omega) hy
      rw [if_neg hin]
      refine ⟨v, ?_, a2, a3.mono K⟩
      rw [if_neg, a1]
      rintro ⟨h1, h2⟩
      rcases Nat.lt_or_ge x s with h3 | h3
      · have := Nat.mul_le_mul_right es (show x + 1 ≤ s from h3)
        rw [Nat.succ_mul] at this; omega
      · have := Nat.mul_le_mul_right es (show s + m ≤ x from by omega)
        rw [Nat.add_mul] at this; omega)
  rw [← seth_set] at H1 X1
  exact ⟨rfl, H1, X1⟩
theorem append_sound {st xt ty : TypeId} {s x v : AV} {u ux : Value} {ob : Prop} {h' : List ABlk} (H : HR E h) (hu : VR E s u) (hux : VR E x ux)
    (hr : evAppend (tslice P st) (tnoint P xt) ((tslice P st).bind (tsz P)) ((tslice P st).bind (tby P)) ((tslice P st).bind (tzn P)) s x h = .heap ob v h') (hob : ob) :
    ∃ r E', (Builtin.append_ #[st, xt] ty #[u, ux]).run P E.w = .ok r E'.w ∧ Ext E h E' h' ∧ HR E' h' ∧ VR E' v r := by
  cases hst : tslice P st with
  | none => rw [hst] at hr; simp only [evAppend] at hr; cases hr
  | some e =>
  rw [hst] at hr
  simp only [Option.bind_some] at hr
  cases hz : tsz P e with
  | none => rw [hz] at hr; simp only [evAppend] at hr; cases hr
  | some z =>
  cases hby : tby P e with
  | none => rw [hz, hby] at hr; simp only [evAppend] at hr; cases hr
  | some by_ =>
  cases hzn : tzn P e with
  | none => rw [hz, hby, hzn] at hr; simp only [evAppend] at hr; cases hr
  | some zn =>
  rw [hz, hby, hzn] at hr
  simp only [evAppend] at hr
  cases hok : (tnoint P xt && decide (1 ≤ z) && zn == z) with
  | false => rw [hok] at hr; cases hr
  | true =>
  rw [hok] at hr
  simp only [cond_true] at hr
  simp only [Bool.and_eq_true, decide_eq_true_eq, beq_iff_eq] at hok
  obtain ⟨⟨hxt, hz1⟩, rfl⟩ := hok
  have ht := und_of_tslice hst
  obtain ⟨i, zv, hi, hiz, hib, hzv, hzs⟩ := info3 hz hby hzn
  cases hsrc : srcOf zn x h with
  | none => rw [hsrc] at hr; simp only [appRes] at hr; cases hr
  | some src =>
  rw [hsrc] at hr
  -- a new array behind nothing
  have fresh : ∀ (a : Option Addr), src.ob → (src.n : Int) * by_ ≤ 140737488355328 → src.n ≤ 140737488355328 → 0 < src.n →
      ∃ r E', (Builtin.append_ #[st, xt] ty #[.slice a 0 0, ux]).run P E.w = .ok r E'.w ∧ Ext E h E' (h ++ [.row e zn src.n src.c]) ∧ HR E' (h ++ [.row e zn src.n src.c]) ∧ VR E' (.sl h.length zn 0 src.n false) r := by
    intro a hso hb1 hb2 hp
    obtain ⟨news, hs1, hs2⟩ := src_sound hz1 H hux hsrc hso
    have hrun := run_app_grow (P := P) (ty := ty) ht hxt hi hiz hzv hs1 (src_nil (P := P) a 0) (by omega : 0 < 0 + src.n) (by omega) (by rw [hib, Nat.zero_add]; exact Int.ofNat_le.1 (by rw [Int.natCast_mul]; exact hb1))
    obtain ⟨H1, X1⟩ := drew_HR H
    have gb := grown_bounds E.w (0 + src.n) 0 e (by omega)
    obtain ⟨H2, X2, hsz⟩ := grow_HR (E := { E with w := E.w.drew }) (e := e) (zs := zv.cells) (c := fun _ _ => .top) (d := src.c) (olds := []) (cap := grownCap E.w (0 + src.n) 0 e) H1 (by simp : ([] : List Value).length = 0 * zn) hs1.len hzs gb.1 (fun q y hq => by omega)
      (fun q y hq hy => by obtain ⟨v, a1, a2, a3⟩ := hs2 q y hq hy; exact ⟨v, a1, a2, a3.mono (X1.keep H)⟩)
    rw [appC_zero, Nat.zero_add] at H2 X2
    rw [Nat.zero_add] at hrun gb hsz
    refine ⟨_, _, hrun, X1.trans X2, H2, ?_⟩
    exact VR_new_sl (E := { E with w := E.w.drew }) (h := h) (e := e) (n := src.n) rfl hsz gb.1 gb.2 rfl
  cases hu with
  | ro es n nl c a cap hn hcm hnl hz' us ha h1' hc hrf =>
    simp only [appRes] at hr
    split at hr
    · rename_i c' heq
      injection heq with e1 e2 e3 e4
      subst e1 e2 e3
      simp only [AR.heap.injEq] at hr
      obtain ⟨rfl, rfl, rfl⟩ := hr
      obtain ⟨hso, hb1, hb2⟩ := hob
      have ha0 : a = none := hnl rfl
      subst ha0
      obtain rfl := hz' rfl
      rcases Nat.eq_zero_or_pos src.n with h0 | hp
      · obtain ⟨news, hs1, hs2⟩ := src_sound hz1 H hux hsrc hso
        rw [h0] at hs1
        have hrun := run_app_zero (P := P) (ty := ty) (a := none) (n := 0) (cap := 0) ht hxt hi hiz hs1 (Nat.le_refl _)
        obtain ⟨H1, X1⟩ := nil_HR H e zn src.c
        rw [h0]
        exact ⟨_, E, hrun, X1, H1, .sl _ _ _ _ _ _ _ (Nat.le_refl _) (by simp [maxLen]) (fun _ => rfl) (fun _ => rfl) (fun h => absurd h (by omega))⟩
      · obtain ⟨r, E', q1, q2, q3, q4⟩ := fresh none hso hb1 hb2 hp
        have : (src.n == 0) = false := by simp; omega
        rw [this]
        exact ⟨r, E', q1, q2, q3, q4⟩
    · rename_i heq; cases heq
    · rename_i heq; cases heq
    · rename_i heq; cases heq
    · cases hr
  | emp a =>
    simp only [appRes, AR.heap.injEq] at hr
    obtain ⟨rfl, rfl, rfl⟩ := hr
    obtain ⟨hso, hb1, hp, hb2⟩ := hob
    exact fresh a hso hb1 hb2 hp
  | sl b es i' n nl a cap hn hcm hnl hz' hc =>
    simp only [appRes] at hr
    cases hb : geth h b with
    | lit e' l => rw [hb] at hr; cases hr
    | dead => rw [hb] at hr; cases hr
    | row e' es' N c =>
      rw [hb] at hr
      simp only [AR.heap.injEq] at hr
      obtain ⟨rfl, rfl, rfl⟩ := hr
      obtain ⟨hso, rfl, rfl, rfl, hN, hb1, hb2⟩ := hob
      rw [seth_set]
      have hbs : h[b]? = some (.row e' es' N c) := by rw [geth_some (h := h) (b := b) (by rw [hb]; exact fun e => by cases e), hb]
      have hne : (ABlk.row e' es' N c) ≠ .dead := fun e => by cases e
      obtain ⟨news, hs1, hs2⟩ := src_sound hz1 H hux hsrc hso
      have hlen : (h.set b .dead).length = h.length := List.length_set
      by_cases hcap : 0 < cap
      · obtain ⟨k, o, cs, e2, g1, rfl, g3, g4⟩ := hc hcap
        have hrow := own_row H hb g1
        have he2 : e2 = e' := by
          have hx := H.blk b _ hbs
          unfold BR at hx
          rw [g1] at hx
          obtain ⟨cs', q1, _⟩ := hx
          rw [q1] at g3
          injection g3 with g3
          injection g3 with _ g3
          exact g3.symm
        subst he2
        have hnlf : nl = false := by cases nl with | false => rfl | true => cases hnl rfl
        subst hnlf
        have holds : ∀ q y, q < n → y < es' → ∃ v, E.w.cell? ((⟨k, o + i' * es', none⟩ : Addr).add (q * es' + y)) = some v ∧ v.oneCell' = true ∧ VR E (subC i' c q y) v := by
          intro q y hq hy
          obtain ⟨v, a1, a2, a3⟩ := hrow (i' + q) y (by omega) hy
          refine ⟨v, ?_, a2, a3⟩
          rw [add_none, ← a1, Nat.add_mul]
          congr 2
          omega
        by_cases hroom : n + src.n ≤ cap
        · -- within the capacity
          have hfit : o + i' * es' + n * es' + src.n * es' ≤ cs.size := by
            have := Nat.mul_le_mul_right es' hroom
            rw [Nat.add_mul] at this
            omega
          have hrun := run_app_room (P := P) (ty := ty) (o := o + i' * es') ht hxt hi hiz hs1 hroom g3 hfit
          have hspl : (splice cs (o + i' * es' + n * es') news).size = cs.size := splice_size (by rw [hs1.len]; exact hfit)
          obtain ⟨H1, X1⟩ := put_HR (x' := .row e2 es' 0 c) H hbs hne g1 g3 hspl (by
            unfold BR
            rw [show (Env.mk (putRow E.w k (splice cs (o + i' * es' + n * es') news) e2) E.σ E.prot).σ b = some (k, o) from g1]
            exact ⟨_, putRow_same (lt_of_some g3), by rw [hspl]; omega, fun x y hx => by omega⟩)
          have hb1' : (h.set b (.row e2 es' 0 c))[b]? = some (.row e2 es' 0 c) := by
            have hlt : b < h.length := by
              rcases Nat.lt_or_ge b h.length with h' | h'
              · exact h'
              · rw [List.getElem?_eq_none h'] at hbs; cases hbs
            exact List.getElem?_set_self hlt
          have hlen1 : (h.set b (.row e2 es' 0 c)).length = h.length := List.length_set
          have K1 := X1.keep H
          obtain ⟨H2, X2⟩ := move_HR (o' := o + i' * es') (x' := .row e2 es' (n + src.n) (appC n (subC i' c) src.c)) H1 hb1' (fun e => by cases e) g1 (by
            unfold BR
            rw [show ({ (Env.mk (putRow E.w k (splice cs (o + i' * es' + n * es') news) e2) E.σ E.prot) with σ := upd E.σ (h.set b (.row e2 es' 0 c)).length (some (k, o + i' * es')) } : Env).σ (h.set b (.row e2 es' 0 c)).length = some (k, o + i' * es') from upd_same _ _ _]
            have hσ2 : ∀ (c' : Nat) (y : Nat × Nat), E.σ c' = some y → upd E.σ (h.set b (.row e2 es' 0 c)).length (some (k, o + i' * es')) c' = some y := by
              intro c' y hc'
              rw [upd_ne, hc']
              rintro rfl
              rw [hlen1, H.fresh _ (Nat.le_refl _)] at hc'
              cases hc'
            have K2 : Keep E { (Env.mk (putRow E.w k (splice cs (o + i' * es' + n * es') news) e2) E.σ E.prot) with σ := upd E.σ (h.set b (.row e2 es' 0 c)).length (some (k, o + i' * es')) } := ⟨hσ2, K1.prot, K1.same, K1.kind⟩
            refine ⟨_, putRow_same (lt_of_some g3), by rw [hspl, Nat.add_mul]; omega, fun x y hx hy => ?_⟩
            rw [splice_get (by rw [hs1.len]; exact hfit), hs1.len]
            unfold appC
            by_cases hxn : x < n
            · obtain ⟨v, a1, a2, a3⟩ := holds x y hxn hy
              have hsl := split_lt hxn hy
              rw [if_neg (by omega), if_pos hxn]
              rw [add_none, cell_of g3] at a1
              exact ⟨v, by rw [← a1]; congr 1; omega, a2, a3.mono K2⟩
            · obtain ⟨v, a1, a2, a3⟩ := hs2 (x - n) y (by omega) hy
              have hsl := split_lt (show x - n < src.n from by omega) hy
              have e1 : x * es' = n * es' + (x - n) * es' := by rw [← Nat.add_mul]; congr 1; omega
              rw [if_pos (by omega), if_neg hxn]
              exact ⟨v, by rw [← a1]; congr 1; omega, a2, a3.mono K2⟩)
          rw [hlen1, List.set_set] at H2 X2
          refine ⟨_, _, hrun, X1.trans X2, H2, ?_⟩
          refine .sl _ _ _ _ _ _ _ hroom hcm (fun h => by cases h) (fun h => by cases h) (fun _ => ⟨k, o + i' * es', _, e2, upd_same _ _ _, by simp, putRow_same (lt_of_some g3), by rw [hspl]; omega⟩)
        · -- a new array
          have hols : SrcRun P E.w es' n (.slice (some ⟨k, o + i' * es', none⟩) n cap) (cellsAt E.w ⟨k, o + i' * es', none⟩ (n * es')) := src_at (fun q hq => by
            obtain ⟨x, y, rfl, hy⟩ := div_mul_mod q es' hz1
            obtain ⟨v, a1, a2, _⟩ := holds x y (lt_of_split hq) hy
            exact ⟨v, a1, a2⟩)
          have hrun := run_app_grow (P := P) (ty := ty) ht hxt hi hiz hzv hs1 hols (by omega) (by omega) (by rw [hib]; exact Int.ofNat_le.1 (by rw [Int.natCast_mul]; exact hb1))
          obtain ⟨H1, X1⟩ := kill_HR H b
          obtain ⟨H2, X2⟩ := drew_HR H1
          have gb := grown_bounds E.w (n + src.n) cap e2 (by omega)
          obtain ⟨H3, X3, hsz⟩ := grow_HR (E := { E with w := E.w.drew }) (e := e2) (zs := zv.cells) (c := subC i' c) (d := src.c) (olds := cellsAt E.w ⟨k, o + i' * es', none⟩ (n * es')) (cap := grownCap E.w (n + src.n) cap e2) H2 (cellsAt_length _ _ _) hs1.len hzs gb.1
            (fun q y hq hy => by
              obtain ⟨v, a1, a2, a3⟩ := holds q y hq hy
              exact ⟨v, cellsAt_get (split_lt hq hy) a1, a2, a3.mono (X2.keep H1)⟩)
            (fun q y hq hy => by obtain ⟨v, a1, a2, a3⟩ := hs2 q y hq hy; exact ⟨v, a1, a2, a3.mono (X2.keep H1)⟩)
          refine ⟨_, _, hrun, (X1.trans X2).trans X3, H3, ?_⟩
          have := VR_new_sl (E := { E with w := E.w.drew }) (h := h.set b .dead) (e := e2) (n := n + src.n) rfl hsz gb.1 gb.2 rfl
          rw [hlen] at this
          exact this
      · -- no memory behind the slice
        have hc0 : cap = 0 := by omega
        subst hc0
        have hn0 : n = 0 := by omega
        subst hn0
        obtain ⟨H1, X1⟩ := kill_HR H b
        rcases Nat.eq_zero_or_pos src.n with h0 | hp
        · rw [h0] at hs1
          have hrun := run_app_zero (P := P) (ty := ty) (a := a) (n := 0) (cap := 0) ht hxt hi hiz hs1 (Nat.le_refl _)
          obtain ⟨H2, X2⟩ := nil_HR H1 e' es' (appC 0 (subC i' c) src.c)
          rw [h0]
          refine ⟨_, E, hrun, X1.trans X2, H2, .sl _ _ _ _ _ _ _ (Nat.le_refl _) (by simp [maxLen]) (by simpa using hnl) (fun _ => rfl) (fun h => absurd h (by omega))⟩
        · have hrun := run_app_grow (P := P) (ty := ty) ht hxt hi hiz hzv hs1 (src_nil (P := P) a 0) (by omega : 0 < 0 + src.n) (by omega) (by rw [hib]; exact Int.ofNat_le.1 (by rw [Int.natCast_mul]; exact hb1))
          obtain ⟨H2, X2⟩ := drew_HR H1
          have gb := grown_bounds E.w (0 + src.n) 0 e' (by omega)
          obtain ⟨H3, X3, hsz⟩ := grow_HR (E := { E with w := E.w.drew }) (e := e') (zs := zv.cells) (c := subC i' c) (d := src.c) (olds := []) (cap := grownCap E.w (0 + src.n) 0 e') H2 (by simp : ([] : List Value).length = 0 * es') hs1.len hzs gb.1
            (fun q y hq => by omega) (fun q y hq hy => by obtain ⟨v, a1, a2, a3⟩ := hs2 q y hq hy; exact ⟨v, a1, a2, a3.mono (X2.keep H1)⟩)
          have hfl : (nl && src.n == 0) = false := by
            have : (src.n == 0) = false := by simp; omega
            rw [this, Bool.and_false]
          rw [hfl]
          refine ⟨_, _, hrun, (X1.trans X2).trans X3, H3, ?_⟩
          have := VR_new_sl (E := { E with w := E.w.drew }) (h := h.set b .dead) (e := e') (n := 0 + src.n) rfl hsz gb.1 gb.2 rfl
          rw [hlen] at this
          exact this
  | csl b es i' n cc a hn hcm hc =>
    simp only [appRes] at hr
    cases hb : geth h b with
    | lit e' l => rw [hb] at hr; cases hr
    | dead => rw [hb] at hr; cases hr
    | row e' es' N c =>
      rw [hb] at hr
      simp only at hr
      have holdsAt : ∀ k o, E.σ b = some (k, o) → es = es' → i' + n ≤ N → ∀ q y, q < n → y < es' → ∃ v, E.w.cell? ((⟨k, o + i' * es', none⟩ : Addr).add (q * es' + y)) = some v ∧ v.oneCell' = true ∧ VR E (subC i' c q y) v := by
        intro k o g1 _ hN q y hq hy
        obtain ⟨v, a1, a2, a3⟩ := own_row H hb g1 (i' + q) y (by omega) hy
        refine ⟨v, ?_, a2, a3⟩
        rw [add_none, ← a1, Nat.add_mul]
        congr 2
        omega
      by_cases hroom : n + src.n ≤ cc
      · rw [show decide (n + src.n ≤ cc) = true from by simpa using hroom] at hr
        simp only [cond_true, AR.heap.injEq] at hr
        obtain ⟨rfl, rfl, rfl⟩ := hr
        obtain ⟨hso, rfl, rfl, rfl, hN⟩ := hob
        obtain ⟨news, hs1, hs2⟩ := src_sound hz1 H hux hsrc hso
        rcases Nat.eq_zero_or_pos src.n with h0 | hp
        · rw [h0] at hs1
          have hrun := run_app_zero (P := P) (ty := ty) (a := a) (n := n) (cap := cc) ht hxt hi hiz hs1 hn
          have hsame : seth h b (.row e' es' (max N (i' + n + src.n)) (ovwC (i' + n) src.n c src.c)) = h := by
            rw [show max N (i' + n + src.n) = N from by omega]
            have : ovwC (i' + n) src.n c src.c = c := by
              funext x y
              unfold ovwC
              rw [h0, if_neg (by omega)]
            rw [this, ← hb, seth_set]
            apply List.ext_getElem?
            intro j
            rw [List.getElem?_set]
            by_cases hj : b = j
            · subst hj
              have := geth_some (h := h) (b := b) (by rw [hb]; exact fun e => by cases e)
              rw [if_pos rfl, this]
              split
              · rfl
              · rename_i hlt; rw [List.getElem?_eq_none (by omega)] at this; cases this
            · rw [if_neg hj]
          rw [hsame]
          exact ⟨_, E, hrun, Ext.refl _ _, H, by rw [h0, Nat.add_zero]; exact .csl _ _ _ _ _ _ hn hcm hc⟩
        · obtain ⟨k, o, cs, e2, g1, rfl, g3, g4⟩ := hc (by omega)
          have hfit : o + (i' + n) * es' + src.n * es' ≤ cs.size := by
            have := Nat.mul_le_mul_right es' hroom
            rw [Nat.add_mul] at this ⊢
            omega
          have hfit2 : o + i' * es' + n * es' + src.n * es' ≤ cs.size := by
            have hf := hfit
            rw [Nat.add_mul] at hf
            omega
          obtain ⟨he2, H1, X1⟩ := ovw_HR (d := src.c) H hb g1 g3 hs1.len hN hfit hs2
          subst he2
          have hrun := run_app_room (P := P) (ty := ty) (o := o + i' * es') ht hxt hi hiz hs1 hroom g3 hfit2
          rw [show o + i' * es' + n * es' = o + (i' + n) * es' from by rw [Nat.add_mul]; omega] at hrun
          exact ⟨_, _, hrun, X1, H1, .csl _ _ _ _ _ _ hroom hcm fun _ => ⟨k, o, _, e2, g1, rfl, putRow_same (lt_of_some g3), by rw [splice_size (by rw [hs1.len]; exact hfit)]; exact g4⟩⟩
      · rw [show decide (n + src.n ≤ cc) = false from by simpa using hroom] at hr
        simp only [cond_false, AR.heap.injEq] at hr
        obtain ⟨rfl, rfl, rfl⟩ := hr
        obtain ⟨hso, rfl, rfl, rfl, hN, hb1, hb2⟩ := hob
        obtain ⟨news, hs1, hs2⟩ := src_sound hz1 H hux hsrc hso
        have fin : ∀ (olds : List Value), SrcRun P E.w es' n (.slice a n cc) olds → (∀ q y, q < n → y < es' → ∃ v, olds[q * es' + y]? = some v ∧ v.oneCell' = true ∧ VR E (subC i' c q y) v) →
            ∃ r E', (Builtin.append_ #[st, xt] ty #[.slice a n cc, ux]).run P E.w = .ok r E'.w ∧ Ext E h E' (h ++ [.row e' es' (n + src.n) (appC n (subC i' c) src.c)]) ∧ HR E' (h ++ [.row e' es' (n + src.n) (appC n (subC i' c) src.c)]) ∧ VR E' (.sl h.length es' 0 (n + src.n) false) r := by
          intro olds hols hov
          have hrun := run_app_grow (P := P) (ty := ty) ht hxt hi hiz hzv hs1 hols (by omega) (by omega) (by rw [hib]; exact Int.ofNat_le.1 (by rw [Int.natCast_mul]; exact hb1))
          obtain ⟨H2, X2⟩ := drew_HR H
          have gb := grown_bounds E.w (n + src.n) cc e' (by omega)
          obtain ⟨H3, X3, hsz⟩ := grow_HR (E := { E with w := E.w.drew }) (e := e') (zs := zv.cells) (c := subC i' c) (d := src.c) (olds := olds) (cap := grownCap E.w (n + src.n) cc e') H2 hols.len hs1.len hzs gb.1
            (fun q y hq hy => by obtain ⟨v, a1, a2, a3⟩ := hov q y hq hy; exact ⟨v, a1, a2, a3.mono (X2.keep H)⟩)
            (fun q y hq hy => by obtain ⟨v, a1, a2, a3⟩ := hs2 q y hq hy; exact ⟨v, a1, a2, a3.mono (X2.keep H)⟩)
          exact ⟨_, _, hrun, X2.trans X3, H3, VR_new_sl (E := { E with w := E.w.drew }) (h := h) (e := e') (n := n + src.n) rfl hsz gb.1 gb.2 rfl⟩
        rcases Nat.eq_zero_or_pos n with rfl | hp
        · exact fin [] (src_nil (P := P) a cc) fun q y hq => by omega
        · obtain ⟨k, o, cs, e2, g1, rfl, g3, g4⟩ := hc (by omega)
          have holds := holdsAt k o g1 rfl hN
          refine fin (cellsAt E.w ⟨k, o + i' * es', none⟩ (n * es')) (src_at (fun q hq => ?_)) fun q y hq hy => ?_
          · obtain ⟨x, y, rfl, hy⟩ := div_mul_mod q es' hz1
            obtain ⟨v, a1, a2, _⟩ := holds x y (lt_of_split hq) hy
            exact ⟨v, a1, a2⟩
          · obtain ⟨v, a1, a2, a3⟩ := holds q y hq hy
            exact ⟨v, cellsAt_get (split_lt hq hy) a1, a2, a3⟩
  | _ => simp only [appRes] at hr; cases hr
theorem appRes_np {e : TypeId} {z by_ : Nat} {s v : AV} {x : Option Src} {ob : Prop} : appRes e z by_ s x h ≠ .pure ob v := by
  intro he
  unfold appRes at he
  split at he
  · split at he
    · cases he
    · cases he
    · split at he <;> cases he
    · split at he
      · rename_i x' _ _ _ _ n cc _ _ _ _ _ _
        revert he
        cases decide (n + x'.n ≤ cc) <;> intro he <;> cases he
      · cases he
    · cases he
  · cases he
theorem evAppend_np {st : Option TypeId} {xi : Bool} {z by_ zn : Option Nat} {s x v : AV} {ob : Prop} : evAppend st xi z by_ zn s x h ≠ .pure ob v := by
  intro he
  unfold evAppend at he
  split at he
  · rename_i e z by_ zn
    cases hb : (xi && decide (1 ≤ z) && zn == z) with
    | false => rw [hb] at he; cases he
    | true => rw [hb] at he; exact appRes_np he
  · cases he
end
end Go.Am
