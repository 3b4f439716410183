/-
  The abstract machine, part 5: slices that are made and appended to; tests; parts put together.
-/
import Derived.Test.YtpnhehcncljhpaaAm4
namespace Go.Am
set_option linter.unusedVariables false
section
variable {P : Program} {E : Env} {h : List ABlk}

/-- What an append or a copy reads. -/
structure SrcRun (P : Program) (w : World) (z m : Nat) (u : Value) (news : List Value) : Prop where
  len : news.length = m * z
  lenOf : ∀ W, (Builtin.lenOf u).run P W = .ok m W
  first : ∀ W : World, (∀ k, k < w.heap.size → W.heap[k]? = w.heap[k]?) → (Builtin.firstCells z m u).run P W = .ok news.toArray W
  one : ∀ v ∈ news, v.oneCell' = true

/-- The cells from an address on, as a list. -/
def cellsAt (w : World) (a : Addr) (k : Nat) : List Value := (List.range k).map fun q => (w.cell? (a.add q)).getD undef
theorem cellsAt_length (w : World) (a : Addr) (k : Nat) : (cellsAt w a k).length = k := by simp [cellsAt]
theorem cellsAt_get {w : World} {a : Addr} {k q : Nat} {v : Value} (hq : q < k) (hv : w.cell? (a.add q) = some v) : (cellsAt w a k)[q]? = some v := by
  simp [cellsAt, List.getElem?_map, List.getElem?_range hq, hv]
theorem cellsAt_some {w : World} {a : Addr} {k q : Nat} {v : Value} (hv : (cellsAt w a k)[q]? = some v) : q < k ∧ v = (w.cell? (a.add q)).getD undef := by
  have hq : q < k := by
    rcases Nat.lt_or_ge q k with h' | h'
    · exact h'
    · rw [List.getElem?_eq_none (by rw [cellsAt_length]; exact h')] at hv; cases hv
  refine ⟨hq, ?_⟩
  simp [cellsAt, List.getElem?_map, List.getElem?_range hq] at hv
  exact hv.symm
theorem cell?_heap {w w' : World} (hw : w'.heap = w.heap) (a : Addr) : w'.cell? a = w.cell? a := cell?_same (by rw [hw])

theorem src_at {z m c : Nat} {a : Addr} (hc : ∀ q, q < m * z → ∃ v, E.w.cell? (a.add q) = some v ∧ v.oneCell' = true) : SrcRun P E.w z m (.slice (some a) m c) (cellsAt E.w a (m * z)) := by
  refine ⟨cellsAt_length _ _ _, fun W => rfl, fun W hW => ?_, fun v hv => ?_⟩
  · have hl := run_loadCells_list (P := P) W a (cellsAt E.w a (m * z)) (fun j v hj => by
      obtain ⟨hj', rfl⟩ := cellsAt_some hj
      obtain ⟨u, hu, _⟩ := hc j hj'
      have hk : (a.add j).block < E.w.heap.size := by
        rcases Nat.lt_or_ge (a.add j).block E.w.heap.size with h' | h'
        · exact h'
        · unfold World.cell? at hu; rw [Array.getElem?_eq_none h'] at hu; cases hu
      rw [cell?_same (w := E.w) (w' := W) (hW _ hk), hu]; rfl)
    rw [cellsAt_length] at hl
    exact hl
  · obtain ⟨q, hq⟩ := List.getElem?_of_mem hv
    obtain ⟨hq', rfl⟩ := cellsAt_some hq
    obtain ⟨u, hu, h1⟩ := hc q hq'
    rw [hu]; exact h1

theorem div_mul_mod (q z : Nat) (hz : 1 ≤ z) : ∃ x y, q = x * z + y ∧ y < z := ⟨q / z, q % z, by have := Nat.div_add_mod q z; rw [Nat.mul_comm] at this; omega, Nat.mod_lt _ hz⟩
theorem lt_of_split {x y z m : Nat} (h : x * z + y < m * z) : x < m := by
  rcases Nat.lt_or_ge x m with h' | h'
  · exact h'
  · have := Nat.mul_le_mul_right z h'
    omega
theorem split_lt {x y z m : Nat} (hx : x < m) (hy : y < z) : x * z + y < m * z := by
  have := Nat.mul_le_mul_right z (show x + 1 ≤ m from hx)
  rw [Nat.add_mul] at this
  omega

/-- What is read, element by element. -/
theorem src_sound {z : Nat} {x : AV} {u : Value} {s : Src} (hz : 1 ≤ z) (H : HR E h) (hx : VR E x u) (hs : srcOf z x h = some s) (hob : s.ob) :
    ∃ news, SrcRun P E.w z s.n u news ∧ ∀ q y, q < s.n → y < z → ∃ v, news[q * z + y]? = some v ∧ v.oneCell' = true ∧ VR E (s.c q y) v := by
  have main : ∀ (a : Addr) (m c : Nat) (C : Nat → Nat → AV), (∀ q y, q < m → y < z → ∃ v, E.w.cell? (a.add (q * z + y)) = some v ∧ v.oneCell' = true ∧ VR E (C q y) v) →
      ∃ news, SrcRun P E.w z m (.slice (some a) m c) news ∧ ∀ q y, q < m → y < z → ∃ v, news[q * z + y]? = some v ∧ v.oneCell' = true ∧ VR E (C q y) v := by
    intro a m c C hC
    refine ⟨_, src_at (fun q hq => ?_), fun q y hq hy => ?_⟩
    · obtain ⟨x, y, rfl, hy⟩ := div_mul_mod q z hz
      obtain ⟨v, h1, h2, _⟩ := hC x y (lt_of_split hq) hy
      exact ⟨v, h1, h2⟩
    · obtain ⟨v, h1, h2, h3⟩ := hC q y hq hy
      exact ⟨v, cellsAt_get (split_lt hq hy) h1, h2, h3⟩
  have zero : ∀ (a : Option Addr) (c : Nat), ∃ news, SrcRun P E.w z 0 (.slice a 0 c) news ∧ ∀ (C : Nat → Nat → AV) (q y : Nat), q < 0 → y < z → ∃ v, news[q * z + y]? = some v ∧ v.oneCell' = true ∧ VR E (C q y) v := by
    intro a c
    refine ⟨[], ⟨by simp, fun W => rfl, fun W _ => ?_, fun v hv => by cases hv⟩, fun C q y hq => by omega⟩
    cases a with
    | none => rfl
    | some a => simp [Builtin.firstCells, loadCells, loadCellsFrom]
  cases hx with
  | sl b es i n nl a cap hn hcm hnl hz' hc =>
    simp only [srcOf] at hs
    cases hb : geth h b with
    | row e es' N c =>
      rw [hb] at hs
      simp only [Option.some.injEq] at hs
      subst hs
      obtain ⟨rfl, rfl, hN⟩ := hob
      rcases Nat.eq_zero_or_pos n with rfl | hp
      · obtain ⟨news, h1, h2⟩ := zero a cap
        exact ⟨news, h1, h2 _⟩
      · obtain ⟨k, o, cs, e', g1, rfl, g3, g4⟩ := hc (by omega)
        refine main _ n cap _ (fun q y hq hy => ?_)
        obtain ⟨v, q1, q2, q3⟩ := own_row H hb g1 (i + q) y (by omega) hy
        refine ⟨v, ?_, q2, q3⟩
        rw [add_none, ← q1, Nat.add_mul]
        congr 2
        omega
    | lit e l => rw [hb] at hs; cases hs
    | dead => rw [hb] at hs; cases hs
  | csl b es i n cc a hn hcm hc =>
    simp only [srcOf] at hs
    cases hb : geth h b with
    | row e es' N c =>
      rw [hb] at hs
      simp only [Option.some.injEq] at hs
      subst hs
      obtain ⟨rfl, rfl, hN⟩ := hob
      rcases Nat.eq_zero_or_pos n with rfl | hp
      · obtain ⟨news, h1, h2⟩ := zero a cc
        exact ⟨news, h1, h2 _⟩
      · obtain ⟨k, o, cs, e', g1, rfl, g3, g4⟩ := hc (by omega)
        refine main _ n cc _ (fun q y hq hy => ?_)
        obtain ⟨v, q1, q2, q3⟩ := own_row H hb g1 (i + q) y (by omega) hy
        refine ⟨v, ?_, q2, q3⟩
        rw [add_none, ← q1, Nat.add_mul]
        congr 2
        omega
    | lit e l => rw [hb] at hs; cases hs
    | dead => rw [hb] at hs; cases hs
  | isl b es i j z' n cap k o hn hcm g1 =>
    simp only [srcOf] at hs
    cases hb : geth h b with
    | row e es' N c =>
      rw [hb] at hs
      simp only [Option.some.injEq] at hs
      subst hs
      obtain ⟨rfl, rfl, hN, hj⟩ := hob
      refine main _ n cap _ (fun q y hq hy => ?_)
      obtain ⟨v, q1, q2, q3⟩ := own_row H hb g1 i (j + q * z' + y) hN (by have := split_lt hq hy; omega)
      refine ⟨v, ?_, q2, q3⟩
      rw [add_none, ← q1]
      congr 2
      omega
    | lit e l =>
      rw [hb] at hs
      simp only [Option.some.injEq] at hs
      subst hs
      obtain ⟨rfl, hj⟩ := hob
      refine main _ n cap _ (fun q y hq hy => ?_)
      obtain ⟨v, q1, q2, q3⟩ := own_lit H hb g1 (i * es + j + q * z' + y) (by have := split_lt hq hy; omega)
      refine ⟨v, ?_, q2, q3⟩
      rw [add_none, ← q1]
      congr 2
      omega
    | dead => rw [hb] at hs; cases hs
  | ro es n nl c a cap hn hcm hnl hz' us ha h1' hc hrf =>
    simp only [srcOf, Option.some.injEq] at hs
    subst hs
    rcases Nat.eq_zero_or_pos n with rfl | hp
    · obtain ⟨news, h1, h2⟩ := zero a cap
      exact ⟨news, h1, h2 _⟩
    · obtain ⟨k, o, rfl, g2, g3⟩ := ha hp
      have hes : es = z := by
        rcases hob with h | h
        · omega
        · exact h
      subst hes
      refine main _ n cap _ (fun q y hq hy => ⟨us q y, ?_, h1' q y hq hy, hc q y hq hy⟩)
      rw [add_none, ← g3 q y hq hy]
      congr 2
      omega
  | emp a =>
    simp only [srcOf, Option.some.injEq] at hs
    subst hs
    obtain ⟨news, h1, h2⟩ := zero a 0
    exact ⟨news, h1, h2 _⟩
  | str s =>
    simp only [srcOf, Option.some.injEq] at hs
    subst hs
    simp only at hob
    subst hob
    have hlen : (s.data.toList.map fun b : UInt8 => Value.int .u8 (b.toNat : Int)).length = s.size := by
      rw [List.length_map, Array.length_toList]; rfl
    refine ⟨s.data.toList.map fun b : UInt8 => Value.int .u8 (b.toNat : Int), ⟨by rw [hlen, Nat.mul_one], fun W => rfl, fun W _ => ?_, fun v hv => ?_⟩, fun q y hq hy => ?_⟩
    · simp only [Builtin.firstCells, Sem.run_pure]
      congr 1
      have e1 : s.extract 0 s.size = s := by
        apply ByteArray.ext
        simp
      rw [e1]
      apply Array.ext'
      simp
    · simp only [List.mem_map] at hv
      obtain ⟨b, _, rfl⟩ := hv
      rfl
    · have hy0 : y = 0 := by omega
      subst hy0
      have hq' : q < s.data.size := hq
      refine ⟨.int .u8 (byteAt s q), ?_, rfl, .int _ _⟩
      simp [byteAt, List.getElem?_map, Array.getElem?_eq_getElem hq', Array.getD_eq_getD_getElem?]
  | _ => simp only [srcOf] at hs; cases hs

/-! ### append -/
theorem tnoint_und {t : TypeId} (ht : tnoint P t = true) : (∃ e, P.underlying t = some (.slice e)) ∨ P.underlying t = some .string := by
  unfold tnoint at ht
  split at ht
  · rename_i e hu; exact .inl ⟨e, hu⟩
  · rename_i hu; exact .inr hu
  · cases ht

theorem run_app_zero {st xt ty e z n cap : Nat} {a : Option Addr} {ux : Value} {news : List Value} {i : TypeInfo} {w : World} (ht : P.underlying st = some (.slice e)) (hx : tnoint P xt = true)
    (hi : P.info? e = some i) (hz : i.size = z) (hs : SrcRun P w z 0 ux news) (hn : n ≤ cap) :
    (Builtin.append_ #[st, xt] ty #[.slice a n cap, ux]).run P w = .ok (.slice a n cap) w := by
  have hnil : news = [] := List.eq_nil_of_length_eq_zero (by simpa using hs.len)
  have hf := hs.first w fun _ _ => rfl
  subst hnil
  rcases tnoint_und hx with ⟨e', h1⟩ | h1 <;> cases a <;> simp [Builtin.append_, run_underlying ht, run_underlying h1, sizeOf, typeInfo, hi, hz, hs.lenOf, hn, hf, storeCells]

theorem run_app_room {st xt ty e z n m cap k o : Nat} {ux : Value} {news : List Value} {i : TypeInfo} {w : World} {cur : Array Value} (ht : P.underlying st = some (.slice e)) (hx : tnoint P xt = true)
    (hi : P.info? e = some i) (hz : i.size = z) (hs : SrcRun P w z m ux news) (hn : n + m ≤ cap) (hk : w.heap[k]? = some (.cells cur e (0, 0))) (hfit : o + n * z + m * z ≤ cur.size) :
    (Builtin.append_ #[st, xt] ty #[.slice (some ⟨k, o, none⟩) n cap, ux]).run P w = .ok (.slice (some ⟨k, o, none⟩) (n + m) cap) (putRow w k (splice cur (o + n * z) news) e) := by
  have hf := hs.first w fun _ _ => rfl
  have hst := run_storeCells_at P k (o + n * z) e news 0 cur w hk (by rw [hs.len]; omega) hs.one
  rw [Nat.add_zero, setRow_putRow hk] at hst
  have hst' : (storeCells ⟨k, o + n * z, none⟩ news).run P w = .ok () (putRow w k (splice cur (o + n * z) news) e) := hst
  clear hst
  rcases tnoint_und hx with ⟨e', h1⟩ | h1 <;> simp [Builtin.append_, run_underlying ht, run_underlying h1, sizeOf, typeInfo, hi, hz, hs.lenOf, hn, hf, add_none, hst']

theorem run_app_grow {st xt ty e z n m cap : Nat} {a : Option Addr} {ux : Value} {olds news : List Value} {i : TypeInfo} {zv : Value} {w : World} (ht : P.underlying st = some (.slice e)) (hx : tnoint P xt = true)
    (hi : P.info? e = some i) (hz : i.size = z) (hzv : i.zero = some zv) (hs : SrcRun P w z m ux news) (ho : SrcRun P w z n (.slice a n cap) olds) (hn : cap < n + m)
    (h63 : n + m ≤ 140737488355328) (hby : (n + m) * i.bytes ≤ 140737488355328) :
    (Builtin.append_ #[st, xt] ty #[.slice a n cap, ux]).run P w =
      .ok (.slice (some ⟨w.heap.size, 0, none⟩) (n + m) (grownCap w (n + m) cap e)) (w.drew.alloc (.cells (olds.toArray ++ news.toArray ++ Builtin.zeroCells zv.cells (grownCap w (n + m) cap e - (n + m))) e)) := by
  have hf := hs.first w.drew fun _ _ => rfl
  have hfo := ho.first w.drew fun _ _ => rfl
  have hn' : ¬ (n + m ≤ cap) := by omega
  have h63' : ¬ (9223372036854775807 < ((n : Int) + (m : Int))) := by omega
  have h48' : ¬ (281474976710656 < Builtin.nextslicecap (n + m) cap * i.bytes) := by have := growslice_fits hn hby; omega
  rcases tnoint_und hx with ⟨e', h1⟩ | h1 <;>
    (simp [Builtin.append_, run_underlying ht, run_underlying h1, sizeOf, typeInfo, zeroValue, hi, hz, hzv, hs.lenOf, hn', h63', h48', Question.forced, hf, hfo, newRow, grownCap]
     apply congrArg
     congr 1
     apply Array.ext'
     simp [List.append_assoc])

/-- The zero cells behind what an append lays. -/
theorem zeroCells_size (zs : Array Value) (n : Nat) : (Builtin.zeroCells zs n).size = n * zs.size := by simp [Builtin.zeroCells]

theorem grown_bounds (w : World) (need old : Nat) (e : TypeId) (h : need ≤ 140737488355328) : need ≤ grownCap w need old e ∧ grownCap w need old e ≤ maxLen :=
  ⟨grownCap_ge w need old e, grownCap_le_maxLen w need old e (by simp only [maxLen]; omega)⟩

theorem drew_HR (H : HR E h) : HR { E with w := E.w.drew } h ∧ Ext E h { E with w := E.w.drew } h := same_HR H E.w.drew rfl rfl rfl rfl

/-- A new array for an append: block |h| is a row of n + m elements. -/
theorem grow_HR {z n m : Nat} {e : TypeId} {c d : Nat → Nat → AV} {olds news : List Value} {zs : Array Value} {cap : Nat} (H : HR E h)
    (lo : olds.length = n * z) (ln : news.length = m * z) (hz : zs.size = z) (hcap : n + m ≤ cap)
    (ho : ∀ q y, q < n → y < z → ∃ v, olds[q * z + y]? = some v ∧ v.oneCell' = true ∧ VR E (c q y) v)
    (hn : ∀ q y, q < m → y < z → ∃ v, news[q * z + y]? = some v ∧ v.oneCell' = true ∧ VR E (d q y) v) :
    let o := Obj.cells (olds.toArray ++ news.toArray ++ Builtin.zeroCells zs (cap - (n + m))) e
    HR (E.push h o) (h ++ [.row e z (n + m) (appC n c d)]) ∧ Ext E h (E.push h o) (h ++ [.row e z (n + m) (appC n c d)]) ∧
      (olds.toArray ++ news.toArray ++ Builtin.zeroCells zs (cap - (n + m))).size = cap * z := by
  intro o
  have hsz : (olds.toArray ++ news.toArray ++ Builtin.zeroCells zs (cap - (n + m))).size = cap * z := by
    rw [Array.size_append, Array.size_append, zeroCells_size, List.size_toArray, List.size_toArray, lo, ln, hz, ← Nat.add_mul, ← Nat.add_mul]
    congr 1
    omega
  obtain ⟨h1, h2⟩ := push_HR H (olds.toArray ++ news.toArray ++ Builtin.zeroCells zs (cap - (n + m))) e (.row e z (n + m) (appC n c d)) (by
    unfold BR
    rw [show (E.push h (Obj.cells (olds.toArray ++ news.toArray ++ Builtin.zeroCells zs (cap - (n + m))) e)).σ h.length = some (E.w.heap.size, 0) from upd_same _ _ _]
    refine ⟨_, heap_alloc_new _ _, ?_, fun x y hx hy => ?_⟩
    · rw [hsz, Nat.zero_add]; exact Nat.mul_le_mul_right z hcap
    · have K := keep_push H (.cells (olds.toArray ++ news.toArray ++ Builtin.zeroCells zs (cap - (n + m))) e)
      rw [Nat.zero_add]
      unfold appC
      by_cases hxn : x < n
      · obtain ⟨v, q1, q2, q3⟩ := ho x y hxn hy
        have hb := split_lt hxn hy
        refine ⟨v, ?_, q2, by rw [if_pos hxn]; exact q3.mono K⟩
        rw [Array.getElem?_append_left (by simp; omega), Array.getElem?_append_left (by simp; omega)]
        simpa using q1
      · obtain ⟨v, q1, q2, q3⟩ := hn (x - n) y (by omega) hy
        have hb := split_lt (show x - n < m from by omega) hy
        have e1 : x * z = n * z + (x - n) * z := by rw [← Nat.add_mul]; congr 1; omega
        refine ⟨v, ?_, q2, by rw [if_neg hxn]; exact q3.mono K⟩
        rw [Array.getElem?_append_left (by simp; omega), Array.getElem?_append_right (by simp; omega)]
        simp only [List.size_toArray, List.getElem?_toArray, lo]
        rw [show x * z + y - n * z = (x - n) * z + y from by omega]
        exact q1)
  exact ⟨h1, h2, hsz⟩
end
end Go.Am
