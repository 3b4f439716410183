/-
  The abstract machine, text 2: slices that are made and appended to; tests; parts put together. append, make, literals. literals, makes, tests, and small operations.
-/
import Derived.Test.YtefiemaoacmdkaaPm1
namespace Go.Am
set_option linter.unusedVariables false
section
variable {P:Program} {E:Env} {h:List ABlk}

structure SrcRun (P:Program) (w:World) (z m:Nat) (u:Value) (news:List Value):Prop where
 len:news.length=m * z
 lenOf:∀ W,(Builtin.lenOf u).run P W = .ok m W
 first:∀ W:World,(∀ k,k < w.heap.size->W.heap[k]? = w.heap[k]?)->(Builtin.firstCells z m u).run P W = .ok news.toArray W
 one:∀ v ∈ news,v.oneCell'=true

def qC (w:World) (a:Addr) (k:Nat):List Value:=(List.range k).map fun q=>(w.cell? (a.add q)).getD undef
theorem qT (w:World) (a:Addr) (k:Nat):(qC w a k).length=k:=by simp [qC]
theorem fA {w:World} {a:Addr} {k q:Nat} {v:Value} (hq:q < k) (hv:w.cell? (a.add q)=some v):(qC w a k)[q]? = some v:=by
 simp [qC,List.getElem?_map,List.getElem?_range hq,hv]
theorem cellsAt_some {w:World} {a:Addr} {k q:Nat} {v:Value} (hv:(qC w a k)[q]? = some v):q < k/\v=(w.cell? (a.add q)).getD undef:=by
 have hq:q < k:=by
  rcases Nat.lt_or_ge q k with h'|h'
  ·exact h'
  ·rw [List.getElem?_eq_none (by rw [qT];exact h')] at hv;cases hv
 refine ⟨hq,?_⟩
 simp [qC,List.getElem?_map,List.getElem?_range hq] at hv
 exact hv.symm
theorem src_at {z m c:Nat} {a:Addr} (hc:∀ q,q < m * z->∃ v,E.w.cell? (a.add q)=some v/\v.oneCell'=true):SrcRun P E.w z m (.slice (some a) m c) (qC E.w a (m * z)):=by
 refine ⟨qT _ _ _,fun W=>rfl,fun W hW=>?_,fun v hv=>?_⟩
 ·have hl:=run_loadCells_list (P:=P) W a (qC E.w a (m * z)) (fun j v hj=>by
   obtain ⟨hj',rfl⟩:=cellsAt_some hj
   obtain ⟨u,hu,_⟩:=hc j hj'
   have hk:(a.add j).block < E.w.heap.size:=by
    rcases Nat.lt_or_ge (a.add j).block E.w.heap.size with h'|h'
    ·exact h'
    ·unfold World.cell? at hu;rw [Array.getElem?_eq_none h'] at hu;cases hu
   rw [cell?_same (w:=E.w) (w':=W) (hW _ hk),hu];rfl)
  rw [qT] at hl
  exact hl
 ·obtain ⟨q,hq⟩:=List.getElem?_of_mem hv
  obtain ⟨hq',rfl⟩:=cellsAt_some hq
  obtain ⟨u,hu,h1⟩:=hc q hq'
  rw [hu];exact h1

theorem jC (q z:Nat) (hz:1 <= z):∃ x y,q=x * z+y/\y < z:=⟨q / z,q % z,by have:=Nat.div_add_mod q z;rw [Nat.mul_comm] at this;omega,Nat.mod_lt _ hz⟩
theorem jG {x y z m:Nat} (h:x * z+y < m * z):x < m:=by
 rcases Nat.lt_or_ge x m with h'|h'
 ·exact h'
 ·have:=Nat.mul_le_mul_right z h'
  omega
theorem wH {x y z m:Nat} (hx:x < m) (hy:y < z):x * z+y < m * z:=by
 have:=Nat.mul_le_mul_right z (show x+1 <= m from hx)
 rw [Nat.add_mul] at this
 omega

theorem qL {z:Nat} {x:AV} {u:Value} {s:Src} (hz:1 <= z) (H:HR E h) (hx:VR E x u) (hs:qK z x h=some s) (hob:s.ob) :
  ∃ news,SrcRun P E.w z s.n u news/\∀ q y,q < s.n->y < z->∃ v,news[q * z+y]? = some v/\v.oneCell'=true/\VR E (s.c q y) v:=by
 have main:∀ (a:Addr) (m c:Nat) (C:Nat->Nat->AV),(∀ q y,q < m->y < z->∃ v,E.w.cell? (a.add (q * z+y))=some v/\v.oneCell'=true/\VR E (C q y) v) ->
   ∃ news,SrcRun P E.w z m (.slice (some a) m c) news/\∀ q y,q < m->y < z->∃ v,news[q * z+y]? = some v/\v.oneCell'=true/\VR E (C q y) v:=by
  intro a m c C hC
  refine ⟨_,src_at (fun q hq=>?_),fun q y hq hy=>?_⟩
  ·obtain ⟨x,y,rfl,hy⟩:=jC q z hz
   obtain ⟨v,h1,h2,_⟩:=hC x y (jG hq) hy
   exact ⟨v,h1,h2⟩
  ·obtain ⟨v,h1,h2,h3⟩:=hC q y hq hy
   exact ⟨v,fA (wH hq hy) h1,h2,h3⟩
 have zero:∀ (a:Option Addr) (c:Nat),∃ news,SrcRun P E.w z 0 (.slice a 0 c) news/\∀ (C:Nat->Nat->AV) (q y:Nat),q < 0->y < z->∃ v,news[q * z+y]? = some v/\v.oneCell'=true/\VR E (C q y) v:=by
  intro a c
  refine ⟨[],⟨by simp,fun W=>rfl,fun W _=>?_,fun v hv=>by cases hv⟩,fun C q y hq=>by omega⟩
  cases a with
  | none=>rfl
  | some a=>simp [Builtin.firstCells,loadCells,loadCellsFrom]
 cases hx with
 | sl b es i n nl a cap hn hcm hnl hz' hc =>
  simp only [qK] at hs
  cases hb:geth h b with
  | row e es' N c =>
   rw [hb] at hs
   simp only [Option.some.injEq] at hs
   subst hs
   obtain ⟨rfl,rfl,hN⟩:=hob
   rcases Nat.eq_zero_or_pos n with rfl|hp
   ·obtain ⟨news,h1,h2⟩:=zero a cap
    exact ⟨news,h1,h2 _⟩
   ·obtain ⟨k,o,cs,e',g1,rfl,g3,g4⟩:=hc (by omega)
    refine main _ n cap _ (fun q y hq hy=>?_)
    obtain ⟨v,q1,q2,q3⟩:=uC H hb g1 (i+q) y (by omega) hy
    refine ⟨v,?_,q2,q3⟩
    rw [wB,← q1,Nat.add_mul]
    congr 2
    omega
  | lit e l=>rw [hb] at hs;cases hs
  | dead=>rw [hb] at hs;cases hs
 | csl b es i n cc a hn hcm hc =>
  simp only [qK] at hs
  cases hb:geth h b with
  | row e es' N c =>
   rw [hb] at hs
   simp only [Option.some.injEq] at hs
   subst hs
   obtain ⟨rfl,rfl,hN⟩:=hob
   rcases Nat.eq_zero_or_pos n with rfl|hp
   ·obtain ⟨news,h1,h2⟩:=zero a cc
    exact ⟨news,h1,h2 _⟩
   ·obtain ⟨k,o,cs,e',g1,rfl,g3,g4⟩:=hc (by omega)
    refine main _ n cc _ (fun q y hq hy=>?_)
    obtain ⟨v,q1,q2,q3⟩:=uC H hb g1 (i+q) y (by omega) hy
    refine ⟨v,?_,q2,q3⟩
    rw [wB,← q1,Nat.add_mul]
    congr 2
    omega
  | lit e l=>rw [hb] at hs;cases hs
  | dead=>rw [hb] at hs;cases hs
 | isl b es i j z' n cap k o hn hcm g1 =>
  simp only [qK] at hs
  cases hb:geth h b with
  | row e es' N c =>
   rw [hb] at hs
   simp only [Option.some.injEq] at hs
   subst hs
   obtain ⟨rfl,rfl,hN,hj⟩:=hob
   refine main _ n cap _ (fun q y hq hy=>?_)
   obtain ⟨v,q1,q2,q3⟩:=uC H hb g1 i (j+q * z'+y) hN (by have:=wH hq hy;omega)
   refine ⟨v,?_,q2,q3⟩
   rw [wB,← q1]
   congr 2
   omega
  | lit e l =>
   rw [hb] at hs
   simp only [Option.some.injEq] at hs
   subst hs
   obtain ⟨rfl,hj⟩:=hob
   refine main _ n cap _ (fun q y hq hy=>?_)
   obtain ⟨v,q1,q2,q3⟩:=jS H hb g1 (i * es+j+q * z'+y) (by have:=wH hq hy;omega)
   refine ⟨v,?_,q2,q3⟩
   rw [wB,← q1]
   congr 2
   omega
  | dead=>rw [hb] at hs;cases hs
 | ro es n nl c a cap hn hcm hnl hz' us ha h1' hc hrf =>
  simp only [qK,Option.some.injEq] at hs
  subst hs
  rcases Nat.eq_zero_or_pos n with rfl|hp
  ·obtain ⟨news,h1,h2⟩:=zero a cap
   exact ⟨news,h1,h2 _⟩
  ·obtain ⟨k,o,rfl,g2,g3⟩:=ha hp
   have hes:es=z:=by
    rcases hob with h|h
    ·omega
    ·exact h
   subst hes
   refine main _ n cap _ (fun q y hq hy=>⟨us q y,?_,h1' q y hq hy,hc q y hq hy⟩)
   rw [wB,← g3 q y hq hy]
   congr 2
   omega
 | emp a =>
  simp only [qK,Option.some.injEq] at hs
  subst hs
  obtain ⟨news,h1,h2⟩:=zero a 0
  exact ⟨news,h1,h2 _⟩
 | str s =>
  simp only [qK,Option.some.injEq] at hs
  subst hs
  simp only at hob
  subst hob
  have hlen:(s.data.toList.map fun b:UInt8=>Value.int .u8 (b.toNat:Int)).length=s.size:=by
   rw [List.length_map,Array.length_toList];rfl
  refine ⟨s.data.toList.map fun b:UInt8=>Value.int .u8 (b.toNat:Int),⟨by rw [hlen,Nat.mul_one],fun W=>rfl,fun W _=>?_,fun v hv=>?_⟩,fun q y hq hy=>?_⟩
  ·simp only [Builtin.firstCells,Sem.run_pure]
   congr 1
   have e1:s.extract 0 s.size=s:=by
    apply ByteArray.ext
    simp
   rw [e1]
   apply Array.ext'
   simp
  ·simp only [List.mem_map] at hv
   obtain ⟨b,_,rfl⟩:=hv
   rfl
  ·have hy0:y=0:=by omega
   subst hy0
   have hq':q < s.data.size:=hq
   refine ⟨.int .u8 (fQ s q),?_,rfl,.int _ _⟩
   simp [fQ,List.getElem?_map,Array.getElem?_eq_getElem hq',Array.getD_eq_getD_getElem?]
 | _=>simp only [qK] at hs;cases hs

/-! ### append -/
theorem tnoint_und {t:TypeId} (ht:tnoint P t=true):(∃ e,P.underlying t=some (.slice e)) ∨ P.underlying t=some .string:=by
 unfold tnoint at ht
 split at ht
 ·rename_i e hu;exact .inl ⟨e,hu⟩
 ·rename_i hu;exact .inr hu
 ·cases ht

theorem dO {st xt ty e z n cap:Nat} {a:Option Addr} {ux:Value} {news:List Value} {i:TypeInfo} {w:World} (ht:P.underlying st=some (.slice e)) (hx:tnoint P xt=true)
  (hi:P.info? e=some i) (hz:i.size=z) (hs:SrcRun P w z 0 ux news) (hn:n <= cap) :
  (Builtin.append_ #[st,xt] ty #[.slice a n cap,ux]).run P w = .ok (.slice a n cap) w:=by
 have hnil:news=[]:=List.eq_nil_of_length_eq_zero (by simpa using hs.len)
 have hf:=hs.first w fun _ _=>rfl
 subst hnil
 rcases tnoint_und hx with ⟨e',h1⟩|h1<;>cases a<;>simp [Builtin.append_,run_underlying ht,run_underlying h1,sizeOf,typeInfo,hi,hz,hs.lenOf,hn,hf,storeCells]

theorem run_app_room {st xt ty e z n m cap k o:Nat} {ux:Value} {news:List Value} {i:TypeInfo} {w:World} {cur:Array Value} (ht:P.underlying st=some (.slice e)) (hx:tnoint P xt=true)
  (hi:P.info? e=some i) (hz:i.size=z) (hs:SrcRun P w z m ux news) (hn:n+m <= cap) (hk:w.heap[k]? = some (.cells cur e (0,0))) (hfit:o+n * z+m * z <= cur.size) :
  (Builtin.append_ #[st,xt] ty #[.slice (some ⟨k,o,none⟩) n cap,ux]).run P w = .ok (.slice (some ⟨k,o,none⟩) (n+m) cap) (vE w k (splice cur (o+n * z) news) e):=by
 have hf:=hs.first w fun _ _=>rfl
 have hst:=run_storeCells_at P k (o+n * z) e news 0 cur w hk (by rw [hs.len];omega) hs.one
 rw [Nat.add_zero,kZ hk] at hst
 have hst':(storeCells ⟨k,o+n * z,none⟩ news).run P w = .ok () (vE w k (splice cur (o+n * z) news) e):=hst
 clear hst
 rcases tnoint_und hx with ⟨e',h1⟩|h1<;>simp [Builtin.append_,run_underlying ht,run_underlying h1,sizeOf,typeInfo,hi,hz,hs.lenOf,hn,hf,wB,hst']

theorem jV {st xt ty e z n m cap:Nat} {a:Option Addr} {ux:Value} {olds news:List Value} {i:TypeInfo} {zv:Value} {w:World} (ht:P.underlying st=some (.slice e)) (hx:tnoint P xt=true)
  (hi:P.info? e=some i) (hz:i.size=z) (hzv:i.zero=some zv) (hs:SrcRun P w z m ux news) (ho:SrcRun P w z n (.slice a n cap) olds) (hn:cap < n+m)
  (h63:n+m <= 140737488355328) (hby:(n+m) * i.bytes <= 140737488355328) :
  (Builtin.append_ #[st,xt] ty #[.slice a n cap,ux]).run P w =
   .ok (.slice (some ⟨w.heap.size,0,none⟩) (n+m) (grownCap w (n+m) cap e)) (w.drew.alloc (.cells (olds.toArray ++ news.toArray ++ Builtin.zeroCells zv.cells (grownCap w (n+m) cap e - (n+m))) e)):=by
 have hf:=hs.first w.drew fun _ _=>rfl
 have hfo:=ho.first w.drew fun _ _=>rfl
 have hn':¬ (n+m <= cap):=by omega
 have h63':¬ (9223372036854775807 < ((n:Int)+(m:Int))):=by omega
 have h48':¬ (281474976710656 < Builtin.nextslicecap (n+m) cap * i.bytes):=by have:=growslice_fits hn hby;omega
 rcases tnoint_und hx with ⟨e',h1⟩|h1 <;>
  (simp [Builtin.append_,run_underlying ht,run_underlying h1,sizeOf,typeInfo,zeroValue,hi,hz,hzv,hs.lenOf,hn',h63',h48',Question.forced,hf,hfo,newRow,grownCap]
   apply congrArg
   congr 1
   apply Array.ext'
   simp [List.append_assoc])

theorem gV (zs:Array Value) (n:Nat):(Builtin.zeroCells zs n).size=n * zs.size:=by simp [Builtin.zeroCells]

theorem tQ (w:World) (need old:Nat) (e:TypeId) (h:need <= 140737488355328):need <= grownCap w need old e/\grownCap w need old e <= maxLen :=
 ⟨grownCap_ge w need old e,grownCap_le_maxLen w need old e (by simp only [maxLen];omega)⟩

theorem drew_HR (H:HR E h):HR { E with w:=E.w.drew } h/\Ext E h { E with w:=E.w.drew } h:=same_HR H E.w.drew rfl rfl rfl rfl

theorem grow_HR {z n m:Nat} {e:TypeId} {c d:Nat->Nat->AV} {olds news:List Value} {zs:Array Value} {cap:Nat} (H:HR E h)
  (lo:olds.length=n * z) (ln:news.length=m * z) (hz:zs.size=z) (hcap:n+m <= cap)
  (ho:∀ q y,q < n->y < z->∃ v,olds[q * z+y]? = some v/\v.oneCell'=true/\VR E (c q y) v)
  (hn:∀ q y,q < m->y < z->∃ v,news[q * z+y]? = some v/\v.oneCell'=true/\VR E (d q y) v) :
  let o:=Obj.cells (olds.toArray ++ news.toArray ++ Builtin.zeroCells zs (cap - (n+m))) e
  HR (E.push h o) (h ++ [.row e z (n+m) (kF n c d)])/\Ext E h (E.push h o) (h ++ [.row e z (n+m) (kF n c d)]) /\
   (olds.toArray ++ news.toArray ++ Builtin.zeroCells zs (cap - (n+m))).size=cap * z:=by
 intro o
 have hsz:(olds.toArray ++ news.toArray ++ Builtin.zeroCells zs (cap - (n+m))).size=cap * z:=by
  rw [Array.size_append,Array.size_append,gV,List.size_toArray,List.size_toArray,lo,ln,hz,← Nat.add_mul,← Nat.add_mul]
  congr 1
  omega
 obtain ⟨h1,h2⟩:=push_HR H (olds.toArray ++ news.toArray ++ Builtin.zeroCells zs (cap - (n+m))) e (.row e z (n+m) (kF n c d)) (by
  unfold BR
  rw [show (E.push h (Obj.cells (olds.toArray ++ news.toArray ++ Builtin.zeroCells zs (cap - (n+m))) e)).σ h.length=some (E.w.heap.size,0) from vU _ _ _]
  refine ⟨_,tI _ _,?_,fun x y hx hy=>?_⟩
  ·rw [hsz,Nat.zero_add];exact Nat.mul_le_mul_right z hcap
  ·have K:=bZ H (.cells (olds.toArray ++ news.toArray ++ Builtin.zeroCells zs (cap - (n+m))) e)
   rw [Nat.zero_add]
   unfold kF
   by_cases hxn:x < n
   ·obtain ⟨v,q1,q2,q3⟩:=ho x y hxn hy
    have hb:=wH hxn hy
    refine ⟨v,?_,q2,by rw [if_pos hxn];exact q3.mono K⟩
    rw [Array.getElem?_append_left (by simp;omega),Array.getElem?_append_left (by simp;omega)]
    simpa using q1
   ·obtain ⟨v,q1,q2,q3⟩:=hn (x - n) y (by omega) hy
    have hb:=wH (show x - n < m from by omega) hy
    have e1:x * z=n * z+(x - n) * z:=by rw [← Nat.add_mul];congr 1;omega
    refine ⟨v,?_,q2,by rw [if_neg hxn];exact q3.mono K⟩
    rw [Array.getElem?_append_left (by simp;omega),Array.getElem?_append_right (by simp;omega)]
    simp only [List.size_toArray,List.getElem?_toArray,lo]
    rw [show x * z+y - n * z=(x - n) * z+y from by omega]
    exact q1)
 exact ⟨h1,h2,hsz⟩
end
end Go.Am

namespace Go.Am
set_option linter.unusedVariables false
section
variable {P:Program} {E:Env} {h:List ABlk}

theorem appC_zero (c d:Nat->Nat->AV):kF 0 c d=d:=by
 funext x y;simp [kF]

theorem nil_HR (H:HR E h) (e z:Nat) (c:Nat->Nat->AV):HR E (h ++ [.row e z 0 c])/\Ext E h E (h ++ [.row e z 0 c]):=by
 have hn:E.σ h.length=none:=H.fresh _ (Nat.le_refl _)
 have hown:∀ k,Own E (h ++ [.row e z 0 c]) k->Own E h k:=by
  rintro k ⟨b,y,o,h1,h2,h3⟩
  rcases getElem?_snoc h1 with ⟨hb,h1⟩|⟨rfl,rfl⟩
  ·exact ⟨b,y,o,h1,h2,h3⟩
  ·rw [hn] at h3;cases h3
 refine ⟨⟨fun b y hb=>?_,fun b b' y y' k o o' h1 h2 h3 h4 h5 h6=>?_,fun k hk=>?_,fun b hb=>?_⟩,⟨rfl,rfl,rfl,fun _ _ h=>h,fun _ h=>h,Nat.le_refl _,fun k cs e h=>⟨cs,h,rfl⟩,fun _ _ _=>rfl,fun k h=>.inl (hown k h),by simp,fun _ _=>rfl,fun _ h=>.inl h⟩⟩
 ·rcases getElem?_snoc hb with ⟨_,hb⟩|⟨rfl,rfl⟩
  ·exact H.blk b y hb
  ·unfold BR;rw [hn]
 ·rcases getElem?_snoc h1 with ⟨l1,g1⟩|⟨e1,e1'⟩<;>rcases getElem?_snoc h3 with ⟨l3,g3⟩|⟨e3,e3'⟩
  ·exact H.inj b b' y y' k o o' g1 h2 g3 h4 h5 h6
  ·rw [e3,hn] at h6;cases h6
  ·rw [e1,hn] at h5;cases h5
  ·rw [e1,e3]
 ·obtain ⟨h1,h2⟩:=H.prot k hk
  exact ⟨h1,fun ho=>h2 (hown k ho)⟩
 ·rw [List.length_append,List.length_singleton] at hb
  exact H.fresh b (by omega)

theorem info3 {e z zn by_:Nat} (hz:tsz P e=some z) (hb:tby P e=some by_) (hn:tzn P e=some zn):∃ i zv,P.info? e=some i/\i.size=z/\i.bytes=by_/\i.zero=some zv/\zv.cells.size=zn:=by
 obtain ⟨i,hi,h1⟩:=info_of_tsz hz
 obtain ⟨i',hi',h2⟩:=cR hb
 rw [hi] at hi';cases hi'
 unfold tzn at hn
 rw [hi] at hn
 cases hzv:i.zero with
 | none=>simp only [hzv] at hn;cases hn
 | some zv=>simp only [hzv] at hn;exact ⟨i,zv,hi,h1,h2,hzv,by simpa using hn⟩

theorem src_nil {z:Nat} (a:Option Addr) (c:Nat):SrcRun P E.w z 0 (.slice a 0 c) []:=by
 refine ⟨by simp,fun W=>rfl,fun W _=>?_,fun v hv=>by cases hv⟩
 cases a with
 | none=>rfl
 | some a=>simp [Builtin.firstCells,loadCells,loadCellsFrom]

theorem kE {o:Obj} {cs:Array Value} {e z n cap:Nat} {nl:Bool} (ho:o = .cells cs e) (hs:cs.size=cap * z) (hn:n <= cap) (hc:cap <= maxLen) (hnl:nl=false) :
  VR (E.push h o) (.sl h.length z 0 n nl) (.slice (some ⟨E.w.heap.size,0,none⟩) n cap):=by
 subst ho
 refine .sl _ _ _ _ _ _ _ hn hc (fun h=>by rw [hnl] at h;cases h) (fun h=>by cases h) (fun _=>⟨E.w.heap.size,0,cs,e,vU _ _ _,by simp,tI _ _,by omega⟩)

theorem ovw_HR {b k o N es s m:Nat} {e e2:TypeId} {c d:Nat->Nat->AV} {cs:Array Value} {news:List Value} (H:HR E h) (hb:geth h b = .row e es N c) (hσ:E.σ b=some (k,o)) (hk:E.w.heap[k]? = some (.cells cs e2 (0,0)))
  (hl:news.length=m * es) (hs:s <= N) (hfit:o+s * es+m * es <= cs.size) (hn:∀ q y,q < m->y < es->∃ v,news[q * es+y]? = some v/\v.oneCell'=true/\VR E (d q y) v) :
  e2=e/\HR { E with w:=vE E.w k (splice cs (o+s * es) news) e2 } (seth h b (.row e es (max N (s+m)) (jR s m c d)))/\Ext E h { E with w:=vE E.w k (splice cs (o+s * es) news) e2 } (seth h b (.row e es (max N (s+m)) (jR s m c d))):=by
 have hne:(ABlk.row e es N c) ≠ .dead:=fun e=>by cases e
 have hbs:h[b]? = some (.row e es N c):=by rw [yC (h:=h) (b:=b) (by rw [hb];exact hne),hb]
 have hB:=H.blk b _ hbs
 unfold BR at hB
 rw [hσ] at hB
 obtain ⟨cs',q1,q2,q3⟩:=hB
 rw [q1] at hk
 injection hk with hk
 injection hk with hk1 hk2
 subst hk1 hk2
 have hspl:(splice cs' (o+s * es) news).size=cs'.size:=vG (by rw [hl];exact hfit)
 have K:=cU H (cs':=splice cs' (o+s * es) news) ⟨b,_,o,hbs,hne,hσ⟩ q1 hspl
 obtain ⟨H1,X1⟩:=put_HR (x':=.row e es (max N (s+m)) (jR s m c d)) H hbs hne hσ q1 hspl (by
  unfold BR
  rw [show (Env.mk (vE E.w k (splice cs' (o+s * es) news) e) E.σ E.prot).σ b=some (k,o) from hσ]
  refine ⟨_,uD (xY q1),?_,fun x y hx hy=>?_⟩
  ·rw [hspl]
   rcases Nat.le_total N (s+m) with h'|h'
   ·rw [Nat.max_eq_right h',Nat.add_mul];omega
   ·rw [Nat.max_eq_left h'];exact q2
  rw [gU (by rw [hl];exact hfit),hl]
  unfold jR
  by_cases hin:s <= x/\x < s+m
  ·obtain ⟨v,a1,a2,a3⟩:=hn (x - s) y (by omega) hy
   have e1:x * es=s * es+(x - s) * es:=by rw [← Nat.add_mul];congr 1;omega
   have hsl:=wH (show x - s < m from by omega) hy
   rw [if_pos (by omega),if_pos hin]
   exact ⟨v,by rw [← a1];congr 1;omega,a2,a3.mono K⟩
  ·obtain ⟨v,a1,a2,a3⟩:=q3 x y (by omega) hy
   rw [if_neg hin]
   refine ⟨v,?_,a2,a3.mono K⟩
   rw [if_neg,a1]
   rintro ⟨h1,h2⟩
   rcases Nat.lt_or_ge x s with h3|h3
   ·have:=Nat.mul_le_mul_right es (show x+1 <= s from h3)
    rw [Nat.succ_mul] at this;omega
   ·have:=Nat.mul_le_mul_right es (show s+m <= x from by omega)
    rw [Nat.add_mul] at this;omega)
 rw [← wV] at H1 X1
 exact ⟨rfl,H1,X1⟩
theorem append_sound {st xt ty:TypeId} {s x v:AV} {u ux:Value} {ob:Prop} {h':List ABlk} (H:HR E h) (hu:VR E s u) (hux:VR E x ux)
  (hr:uU (tslice P st) (tnoint P xt) ((tslice P st).bind (tsz P)) ((tslice P st).bind (tby P)) ((tslice P st).bind (tzn P)) s x h = .heap ob v h') (hob:ob) :
  ∃ r E',(Builtin.append_ #[st,xt] ty #[u,ux]).run P E.w = .ok r E'.w/\Ext E h E' h'/\HR E' h'/\VR E' v r:=by
 cases hst:tslice P st with
 | none=>rw [hst] at hr;simp only [uU] at hr;cases hr
 | some e =>
 rw [hst] at hr
 simp only [Option.bind_some] at hr
 cases hz:tsz P e with
 | none=>rw [hz] at hr;simp only [uU] at hr;cases hr
 | some z =>
 cases hby:tby P e with
 | none=>rw [hz,hby] at hr;simp only [uU] at hr;cases hr
 | some by_ =>
 cases hzn:tzn P e with
 | none=>rw [hz,hby,hzn] at hr;simp only [uU] at hr;cases hr
 | some zn =>
 rw [hz,hby,hzn] at hr
 simp only [uU] at hr
 cases hok:(tnoint P xt && decide (1 <= z) && zn == z) with
 | false=>rw [hok] at hr;cases hr
 | true =>
 rw [hok] at hr
 simp only [cond_true] at hr
 simp only [Bool.and_eq_true,decide_eq_true_eq,beq_iff_eq] at hok
 obtain ⟨⟨hxt,hz1⟩,rfl⟩:=hok
 have ht:=xL hst
 obtain ⟨i,zv,hi,hiz,hib,hzv,hzs⟩:=info3 hz hby hzn
 cases hsrc:qK zn x h with
 | none=>rw [hsrc] at hr;simp only [fK] at hr;cases hr
 | some src =>
 rw [hsrc] at hr
 -- a new array behind nothing
 have fresh:∀ (a:Option Addr),src.ob->(src.n:Int) * by_ <= 140737488355328->src.n <= 140737488355328->0 < src.n ->
   ∃ r E',(Builtin.append_ #[st,xt] ty #[.slice a 0 0,ux]).run P E.w = .ok r E'.w/\Ext E h E' (h ++ [.row e zn src.n src.c])/\HR E' (h ++ [.row e zn src.n src.c])/\VR E' (.sl h.length zn 0 src.n false) r:=by
  intro a hso hb1 hb2 hp
  obtain ⟨news,hs1,hs2⟩:=qL hz1 H hux hsrc hso
  have hrun:=jV (P:=P) (ty:=ty) ht hxt hi hiz hzv hs1 (src_nil (P:=P) a 0) (by omega:0 < 0+src.n) (by omega) (by rw [hib,Nat.zero_add];exact Int.ofNat_le.1 (by rw [Int.natCast_mul];exact hb1))
  obtain ⟨H1,X1⟩:=drew_HR H
  have gb:=tQ E.w (0+src.n) 0 e (by omega)
  obtain ⟨H2,X2,hsz⟩:=grow_HR (E:={ E with w:=E.w.drew }) (e:=e) (zs:=zv.cells) (c:=fun _ _=>.top) (d:=src.c) (olds:=[]) (cap:=grownCap E.w (0+src.n) 0 e) H1 (by simp:([]:List Value).length=0 * zn) hs1.len hzs gb.1 (fun q y hq=>by omega)
   (fun q y hq hy=>by obtain ⟨v,a1,a2,a3⟩:=hs2 q y hq hy;exact ⟨v,a1,a2,a3.mono (X1.keep H)⟩)
  rw [appC_zero,Nat.zero_add] at H2 X2
  rw [Nat.zero_add] at hrun gb hsz
  refine ⟨_,_,hrun,X1.trans X2,H2,?_⟩
  exact kE (E:={ E with w:=E.w.drew }) (h:=h) (e:=e) (n:=src.n) rfl hsz gb.1 gb.2 rfl
 cases hu with
 | ro es n nl c a cap hn hcm hnl hz' us ha h1' hc hrf =>
  simp only [fK] at hr
  split at hr
  ·rename_i c' heq
   injection heq with e1 e2 e3 e4
   subst e1 e2 e3
   simp only [AR.heap.injEq] at hr
   obtain ⟨rfl,rfl,rfl⟩:=hr
   obtain ⟨hso,hb1,hb2⟩:=hob
   have ha0:a=none:=hnl rfl
   subst ha0
   obtain rfl:=hz' rfl
   rcases Nat.eq_zero_or_pos src.n with h0|hp
   ·obtain ⟨news,hs1,hs2⟩:=qL hz1 H hux hsrc hso
    rw [h0] at hs1
    have hrun:=dO (P:=P) (ty:=ty) (a:=none) (n:=0) (cap:=0) ht hxt hi hiz hs1 (Nat.le_refl _)
    obtain ⟨H1,X1⟩:=nil_HR H e zn src.c
    rw [h0]
    exact ⟨_,E,hrun,X1,H1,.sl _ _ _ _ _ _ _ (Nat.le_refl _) (by simp [maxLen]) (fun _=>rfl) (fun _=>rfl) (fun h=>absurd h (by omega))⟩
   ·obtain ⟨r,E',q1,q2,q3,q4⟩:=fresh none hso hb1 hb2 hp
    have:(src.n == 0)=false:=by simp;omega
    rw [this]
    exact ⟨r,E',q1,q2,q3,q4⟩
  ·rename_i heq;cases heq
  ·rename_i heq;cases heq
  ·rename_i heq;cases heq
  ·cases hr
 | emp a =>
  simp only [fK,AR.heap.injEq] at hr
  obtain ⟨rfl,rfl,rfl⟩:=hr
  obtain ⟨hso,hb1,hp,hb2⟩:=hob
  exact fresh a hso hb1 hb2 hp
 | sl b es i' n nl a cap hn hcm hnl hz' hc =>
  simp only [fK] at hr
  cases hb:geth h b with
  | lit e' l=>rw [hb] at hr;cases hr
  | dead=>rw [hb] at hr;cases hr
  | row e' es' N c =>
   rw [hb] at hr
   simp only [AR.heap.injEq] at hr
   obtain ⟨rfl,rfl,rfl⟩:=hr
   obtain ⟨hso,rfl,rfl,rfl,hN,hb1,hb2⟩:=hob
   rw [wV]
   have hbs:h[b]? = some (.row e' es' N c):=by rw [yC (h:=h) (b:=b) (by rw [hb];exact fun e=>by cases e),hb]
   have hne:(ABlk.row e' es' N c) ≠ .dead:=fun e=>by cases e
   obtain ⟨news,hs1,hs2⟩:=qL hz1 H hux hsrc hso
   have hlen:(h.set b .dead).length=h.length:=List.length_set
   by_cases hcap:0 < cap
   ·obtain ⟨k,o,cs,e2,g1,rfl,g3,g4⟩:=hc hcap
    have hrow:=uC H hb g1
    have he2:e2=e':=by
     have hx:=H.blk b _ hbs
     unfold BR at hx
     rw [g1] at hx
     obtain ⟨cs',q1,_⟩:=hx
     rw [q1] at g3
     injection g3 with g3
     injection g3 with _ g3
     exact g3.symm
    subst he2
    have hnlf:nl=false:=by cases nl with|false=>rfl|true=>cases hnl rfl
    subst hnlf
    have holds:∀ q y,q < n->y < es'->∃ v,E.w.cell? ((⟨k,o+i' * es',none⟩:Addr).add (q * es'+y))=some v/\v.oneCell'=true/\VR E (vC i' c q y) v:=by
     intro q y hq hy
     obtain ⟨v,a1,a2,a3⟩:=hrow (i'+q) y (by omega) hy
     refine ⟨v,?_,a2,a3⟩
     rw [wB,← a1,Nat.add_mul]
     congr 2
     omega
    by_cases hroom:n+src.n <= cap
    · -- within the capacity
     have hfit:o+i' * es'+n * es'+src.n * es' <= cs.size:=by
      have:=Nat.mul_le_mul_right es' hroom
      rw [Nat.add_mul] at this
      omega
     have hrun:=run_app_room (P:=P) (ty:=ty) (o:=o+i' * es') ht hxt hi hiz hs1 hroom g3 hfit
     have hspl:(splice cs (o+i' * es'+n * es') news).size=cs.size:=vG (by rw [hs1.len];exact hfit)
     obtain ⟨H1,X1⟩:=put_HR (x':=.row e2 es' 0 c) H hbs hne g1 g3 hspl (by
      unfold BR
      rw [show (Env.mk (vE E.w k (splice cs (o+i' * es'+n * es') news) e2) E.σ E.prot).σ b=some (k,o) from g1]
      exact ⟨_,uD (xY g3),by rw [hspl];omega,fun x y hx=>by omega⟩)
     have hb1':(h.set b (.row e2 es' 0 c))[b]? = some (.row e2 es' 0 c):=by
      have hlt:b < h.length:=by
       rcases Nat.lt_or_ge b h.length with h'|h'
       ·exact h'
       ·rw [List.getElem?_eq_none h'] at hbs;cases hbs
      exact List.getElem?_set_self hlt
     have hlen1:(h.set b (.row e2 es' 0 c)).length=h.length:=List.length_set
     have K1:=X1.keep H
     obtain ⟨H2,X2⟩:=move_HR (o':=o+i' * es') (x':=.row e2 es' (n+src.n) (kF n (vC i' c) src.c)) H1 hb1' (fun e=>by cases e) g1 (by
      unfold BR
      rw [show ({ (Env.mk (vE E.w k (splice cs (o+i' * es'+n * es') news) e2) E.σ E.prot) with σ:=upd E.σ (h.set b (.row e2 es' 0 c)).length (some (k,o+i' * es')) }:Env).σ (h.set b (.row e2 es' 0 c)).length=some (k,o+i' * es') from vU _ _ _]
      have hσ2:∀ (c':Nat) (y:Nat × Nat),E.σ c'=some y->upd E.σ (h.set b (.row e2 es' 0 c)).length (some (k,o+i' * es')) c'=some y:=by
       intro c' y hc'
       rw [jL,hc']
       rintro rfl
       rw [hlen1,H.fresh _ (Nat.le_refl _)] at hc'
       cases hc'
      have K2:Keep E { (Env.mk (vE E.w k (splice cs (o+i' * es'+n * es') news) e2) E.σ E.prot) with σ:=upd E.σ (h.set b (.row e2 es' 0 c)).length (some (k,o+i' * es')) }:=⟨hσ2,K1.prot,K1.same,K1.kind⟩
      refine ⟨_,uD (xY g3),by rw [hspl,Nat.add_mul];omega,fun x y hx hy=>?_⟩
      rw [gU (by rw [hs1.len];exact hfit),hs1.len]
      unfold kF
      by_cases hxn:x < n
      ·obtain ⟨v,a1,a2,a3⟩:=holds x y hxn hy
       have hsl:=wH hxn hy
       rw [if_neg (by omega),if_pos hxn]
       rw [wB,cell_of g3] at a1
       exact ⟨v,by rw [← a1];congr 1;omega,a2,a3.mono K2⟩
      ·obtain ⟨v,a1,a2,a3⟩:=hs2 (x - n) y (by omega) hy
       have hsl:=wH (show x - n < src.n from by omega) hy
       have e1:x * es'=n * es'+(x - n) * es':=by rw [← Nat.add_mul];congr 1;omega
       rw [if_pos (by omega),if_neg hxn]
       exact ⟨v,by rw [← a1];congr 1;omega,a2,a3.mono K2⟩)
     rw [hlen1,List.set_set] at H2 X2
     refine ⟨_,_,hrun,X1.trans X2,H2,?_⟩
     refine .sl _ _ _ _ _ _ _ hroom hcm (fun h=>by cases h) (fun h=>by cases h) (fun _=>⟨k,o+i' * es',_,e2,vU _ _ _,by simp,uD (xY g3),by rw [hspl];omega⟩)
    · -- a new array
     have hols:SrcRun P E.w es' n (.slice (some ⟨k,o+i' * es',none⟩) n cap) (qC E.w ⟨k,o+i' * es',none⟩ (n * es')):=src_at (fun q hq=>by
      obtain ⟨x,y,rfl,hy⟩:=jC q es' hz1
      obtain ⟨v,a1,a2,_⟩:=holds x y (jG hq) hy
      exact ⟨v,a1,a2⟩)
     have hrun:=jV (P:=P) (ty:=ty) ht hxt hi hiz hzv hs1 hols (by omega) (by omega) (by rw [hib];exact Int.ofNat_le.1 (by rw [Int.natCast_mul];exact hb1))
     obtain ⟨H1,X1⟩:=kill_HR H b
     obtain ⟨H2,X2⟩:=drew_HR H1
     have gb:=tQ E.w (n+src.n) cap e2 (by omega)
     obtain ⟨H3,X3,hsz⟩:=grow_HR (E:={ E with w:=E.w.drew }) (e:=e2) (zs:=zv.cells) (c:=vC i' c) (d:=src.c) (olds:=qC E.w ⟨k,o+i' * es',none⟩ (n * es')) (cap:=grownCap E.w (n+src.n) cap e2) H2 (qT _ _ _) hs1.len hzs gb.1
      (fun q y hq hy=>by
       obtain ⟨v,a1,a2,a3⟩:=holds q y hq hy
       exact ⟨v,fA (wH hq hy) a1,a2,a3.mono (X2.keep H1)⟩)
      (fun q y hq hy=>by obtain ⟨v,a1,a2,a3⟩:=hs2 q y hq hy;exact ⟨v,a1,a2,a3.mono (X2.keep H1)⟩)
     refine ⟨_,_,hrun,(X1.trans X2).trans X3,H3,?_⟩
     have:=kE (E:={ E with w:=E.w.drew }) (h:=h.set b .dead) (e:=e2) (n:=n+src.n) rfl hsz gb.1 gb.2 rfl
     rw [hlen] at this
     exact this
   · -- no memory behind the slice
    have hc0:cap=0:=by omega
    subst hc0
    have hn0:n=0:=by omega
    subst hn0
    obtain ⟨H1,X1⟩:=kill_HR H b
    rcases Nat.eq_zero_or_pos src.n with h0|hp
    ·rw [h0] at hs1
     have hrun:=dO (P:=P) (ty:=ty) (a:=a) (n:=0) (cap:=0) ht hxt hi hiz hs1 (Nat.le_refl _)
     obtain ⟨H2,X2⟩:=nil_HR H1 e' es' (kF 0 (vC i' c) src.c)
     rw [h0]
     refine ⟨_,E,hrun,X1.trans X2,H2,.sl _ _ _ _ _ _ _ (Nat.le_refl _) (by simp [maxLen]) (by simpa using hnl) (fun _=>rfl) (fun h=>absurd h (by omega))⟩
    ·have hrun:=jV (P:=P) (ty:=ty) ht hxt hi hiz hzv hs1 (src_nil (P:=P) a 0) (by omega:0 < 0+src.n) (by omega) (by rw [hib];exact Int.ofNat_le.1 (by rw [Int.natCast_mul];exact hb1))
     obtain ⟨H2,X2⟩:=drew_HR H1
     have gb:=tQ E.w (0+src.n) 0 e' (by omega)
     obtain ⟨H3,X3,hsz⟩:=grow_HR (E:={ E with w:=E.w.drew }) (e:=e') (zs:=zv.cells) (c:=vC i' c) (d:=src.c) (olds:=[]) (cap:=grownCap E.w (0+src.n) 0 e') H2 (by simp:([]:List Value).length=0 * es') hs1.len hzs gb.1
      (fun q y hq=>by omega) (fun q y hq hy=>by obtain ⟨v,a1,a2,a3⟩:=hs2 q y hq hy;exact ⟨v,a1,a2,a3.mono (X2.keep H1)⟩)
     have hfl:(nl && src.n == 0)=false:=by
      have:(src.n == 0)=false:=by simp;omega
      rw [this,Bool.and_false]
     rw [hfl]
     refine ⟨_,_,hrun,(X1.trans X2).trans X3,H3,?_⟩
     have:=kE (E:={ E with w:=E.w.drew }) (h:=h.set b .dead) (e:=e') (n:=0+src.n) rfl hsz gb.1 gb.2 rfl
     rw [hlen] at this
     exact this
 | csl b es i' n cc a hn hcm hc =>
  simp only [fK] at hr
  cases hb:geth h b with
  | lit e' l=>rw [hb] at hr;cases hr
  | dead=>rw [hb] at hr;cases hr
  | row e' es' N c =>
   rw [hb] at hr
   simp only at hr
   have holdsAt:∀ k o,E.σ b=some (k,o)->es=es'->i'+n <= N->∀ q y,q < n->y < es'->∃ v,E.w.cell? ((⟨k,o+i' * es',none⟩:Addr).add (q * es'+y))=some v/\v.oneCell'=true/\VR E (vC i' c q y) v:=by
    intro k o g1 _ hN q y hq hy
    obtain ⟨v,a1,a2,a3⟩:=uC H hb g1 (i'+q) y (by omega) hy
    refine ⟨v,?_,a2,a3⟩
    rw [wB,← a1,Nat.add_mul]
    congr 2
    omega
   by_cases hroom:n+src.n <= cc
   ·rw [show decide (n+src.n <= cc)=true from by simpa using hroom] at hr
    simp only [cond_true,AR.heap.injEq] at hr
    obtain ⟨rfl,rfl,rfl⟩:=hr
    obtain ⟨hso,rfl,rfl,rfl,hN⟩:=hob
    obtain ⟨news,hs1,hs2⟩:=qL hz1 H hux hsrc hso
    rcases Nat.eq_zero_or_pos src.n with h0|hp
    ·rw [h0] at hs1
     have hrun:=dO (P:=P) (ty:=ty) (a:=a) (n:=n) (cap:=cc) ht hxt hi hiz hs1 hn
     have hsame:seth h b (.row e' es' (max N (i'+n+src.n)) (jR (i'+n) src.n c src.c))=h:=by
      rw [show max N (i'+n+src.n)=N from by omega]
      have:jR (i'+n) src.n c src.c=c:=by
       funext x y
       unfold jR
       rw [h0,if_neg (by omega)]
      rw [this,← hb,wV]
      apply List.ext_getElem?
      intro j
      rw [List.getElem?_set]
      by_cases hj:b=j
      ·subst hj
       have:=yC (h:=h) (b:=b) (by rw [hb];exact fun e=>by cases e)
       rw [if_pos rfl,this]
       split
       ·rfl
       ·rename_i hlt;rw [List.getElem?_eq_none (by omega)] at this;cases this
      ·rw [if_neg hj]
     rw [hsame]
     exact ⟨_,E,hrun,Ext.refl _ _,H,by rw [h0,Nat.add_zero];exact .csl _ _ _ _ _ _ hn hcm hc⟩
    ·obtain ⟨k,o,cs,e2,g1,rfl,g3,g4⟩:=hc (by omega)
     have hfit:o+(i'+n) * es'+src.n * es' <= cs.size:=by
      have:=Nat.mul_le_mul_right es' hroom
      rw [Nat.add_mul] at this ⊢
      omega
     have hfit2:o+i' * es'+n * es'+src.n * es' <= cs.size:=by
      have hf:=hfit
      rw [Nat.add_mul] at hf
      omega
     obtain ⟨he2,H1,X1⟩:=ovw_HR (d:=src.c) H hb g1 g3 hs1.len hN hfit hs2
     subst he2
     have hrun:=run_app_room (P:=P) (ty:=ty) (o:=o+i' * es') ht hxt hi hiz hs1 hroom g3 hfit2
     rw [show o+i' * es'+n * es'=o+(i'+n) * es' from by rw [Nat.add_mul];omega] at hrun
     exact ⟨_,_,hrun,X1,H1,.csl _ _ _ _ _ _ hroom hcm fun _=>⟨k,o,_,e2,g1,rfl,uD (xY g3),by rw [vG (by rw [hs1.len];exact hfit)];exact g4⟩⟩
   ·rw [show decide (n+src.n <= cc)=false from by simpa using hroom] at hr
    simp only [cond_false,AR.heap.injEq] at hr
    obtain ⟨rfl,rfl,rfl⟩:=hr
    obtain ⟨hso,rfl,rfl,rfl,hN,hb1,hb2⟩:=hob
    obtain ⟨news,hs1,hs2⟩:=qL hz1 H hux hsrc hso
    have fin:∀ (olds:List Value),SrcRun P E.w es' n (.slice a n cc) olds->(∀ q y,q < n->y < es'->∃ v,olds[q * es'+y]? = some v/\v.oneCell'=true/\VR E (vC i' c q y) v) ->
      ∃ r E',(Builtin.append_ #[st,xt] ty #[.slice a n cc,ux]).run P E.w = .ok r E'.w/\Ext E h E' (h ++ [.row e' es' (n+src.n) (kF n (vC i' c) src.c)])/\HR E' (h ++ [.row e' es' (n+src.n) (kF n (vC i' c) src.c)])/\VR E' (.sl h.length es' 0 (n+src.n) false) r:=by
     intro olds hols hov
     have hrun:=jV (P:=P) (ty:=ty) ht hxt hi hiz hzv hs1 hols (by omega) (by omega) (by rw [hib];exact Int.ofNat_le.1 (by rw [Int.natCast_mul];exact hb1))
     obtain ⟨H2,X2⟩:=drew_HR H
     have gb:=tQ E.w (n+src.n) cc e' (by omega)
     obtain ⟨H3,X3,hsz⟩:=grow_HR (E:={ E with w:=E.w.drew }) (e:=e') (zs:=zv.cells) (c:=vC i' c) (d:=src.c) (olds:=olds) (cap:=grownCap E.w (n+src.n) cc e') H2 hols.len hs1.len hzs gb.1
      (fun q y hq hy=>by obtain ⟨v,a1,a2,a3⟩:=hov q y hq hy;exact ⟨v,a1,a2,a3.mono (X2.keep H)⟩)
      (fun q y hq hy=>by obtain ⟨v,a1,a2,a3⟩:=hs2 q y hq hy;exact ⟨v,a1,a2,a3.mono (X2.keep H)⟩)
     exact ⟨_,_,hrun,X2.trans X3,H3,kE (E:={ E with w:=E.w.drew }) (h:=h) (e:=e') (n:=n+src.n) rfl hsz gb.1 gb.2 rfl⟩
    rcases Nat.eq_zero_or_pos n with rfl|hp
    ·exact fin [] (src_nil (P:=P) a cc) fun q y hq=>by omega
    ·obtain ⟨k,o,cs,e2,g1,rfl,g3,g4⟩:=hc (by omega)
     have holds:=holdsAt k o g1 rfl hN
     refine fin (qC E.w ⟨k,o+i' * es',none⟩ (n * es')) (src_at (fun q hq=>?_)) fun q y hq hy=>?_
     ·obtain ⟨x,y,rfl,hy⟩:=jC q es' hz1
      obtain ⟨v,a1,a2,_⟩:=holds x y (jG hq) hy
      exact ⟨v,a1,a2⟩
     ·obtain ⟨v,a1,a2,a3⟩:=holds q y hq hy
      exact ⟨v,fA (wH hq hy) a1,a2,a3⟩
 | _=>simp only [fK] at hr;cases hr
theorem appRes_np {e:TypeId} {z by_:Nat} {s v:AV} {x:Option Src} {ob:Prop}:fK e z by_ s x h ≠ .pure ob v:=by
 intro he
 unfold fK at he
 split at he
 ·split at he
  ·cases he
  ·cases he
  ·split at he<;>cases he
  ·split at he
   ·rename_i x' _ _ _ _ n cc _ _ _ _ _ _
    revert he
    cases decide (n+x'.n <= cc)<;>intro he<;>cases he
   ·cases he
  ·cases he
 ·cases he
theorem evAppend_np {st:Option TypeId} {xi:Bool} {z by_ zn:Option Nat} {s x v:AV} {ob:Prop}:uU st xi z by_ zn s x h ≠ .pure ob v:=by
 intro he
 unfold uU at he
 split at he
 ·rename_i e z by_ zn
  cases hb:(xi && decide (1 <= z) && zn == z) with
  | false=>rw [hb] at he;cases he
  | true=>rw [hb] at he;exact appRes_np he
 ·cases he
end
end Go.Am

namespace Go.Am
set_option linter.unusedVariables false
section
variable {P:Program} {E:Env} {h:List ABlk}

/-! ### Parts put together -/
def CR (E:Env) (l:List AV) (cs:Array Value):Prop:=l.length=cs.size/\∀ (i:Nat) (a:AV) (v:Value),l[i]? = some a->cs[i]? = some v->v.oneCell'=true/\VR E a v

theorem uO (l:List AV) (k:Nat) (vs:List AV):(putL l k vs).length=l.length:=by
 induction vs generalizing l k with
 | nil=>rfl
 | cons v r ih=>simp only [putL,ih,setL_set,List.length_set]
theorem putL_get (l:List AV) (k:Nat) (vs:List AV) (i:Nat) (hi:i < l.length):(putL l k vs)[i]? = if k <= i/\i < k+vs.length then vs[i - k]? else l[i]?:=by
 induction vs generalizing l k with
 | nil=>simp only [putL];rw [if_neg (by simp only [List.length_nil];omega)]
 | cons v r ih =>
  simp only [putL]
  rw [ih _ _ (by rw [setL_set,List.length_set];exact hi),setL_set]
  by_cases h1:i=k
  ·subst h1
   rw [if_neg (by omega),if_pos (by simp),List.getElem?_set_self hi]
   simp
  ·rw [List.getElem?_set_ne (Ne.symm h1)]
   by_cases h2:k+1 <= i/\i < k+1+r.length
   ·rw [if_pos h2,if_pos (by simp;omega)]
    rw [show i - k=(i - (k+1))+1 from by omega,List.getElem?_cons_succ]
   ·rw [if_neg h2,if_neg (by simp;omega)]

def putA (off:Nat) (cs:Array Value) (vs:List Value) (j:Nat):Array Value:=(vs.zipIdx j).foldl (fun cs (c,j)=>cs.setIfInBounds (off+j) c) cs
theorem putA_get (off:Nat):∀ (vs:List Value) (j:Nat) (cs:Array Value),(putA off cs vs j).size=cs.size/\∀ i,i < cs.size->(putA off cs vs j)[i]? = if off+j <= i/\i < off+j+vs.length then vs[i - (off+j)]? else cs[i]?
 | [],j,cs=>by
  refine ⟨rfl,fun i hi=>?_⟩
  rw [if_neg (by simp only [List.length_nil];omega)];rfl
 | v::r,j,cs=>by
  obtain ⟨h1,h2⟩:=putA_get off r (j+1) (cs.setIfInBounds (off+j) v)
  have e:putA off cs (v::r) j=putA off (cs.setIfInBounds (off+j) v) r (j+1):=rfl
  rw [e]
  refine ⟨by rw [h1];simp,fun i hi=>?_⟩
  rw [h2 i (by simpa using hi)]
  by_cases h3:i=off+j
  ·subst h3
   rw [if_neg (by omega),if_pos (by simp),Array.getElem?_setIfInBounds_self_of_lt hi]
   simp
  ·rw [Array.getElem?_setIfInBounds_ne (Ne.symm h3)]
   by_cases h4:off+(j+1) <= i/\i < off+(j+1)+r.length
   ·rw [if_pos h4,if_pos (by simp;omega)]
    rw [show i - (off+j)=(i - (off+(j+1)))+1 from by omega,List.getElem?_cons_succ]
   ·rw [if_neg h4,if_neg (by simp;omega)]

theorem CR_put {l:List AV} {cs:Array Value} {off:Nat} {a:AV} {v:Value} (hc:CR E l cs) (ha:vcOk a=true) (hv:VR E a v):CR E (putL l off (vcells a)) (putA off cs v.cells.toList 0):=by
 obtain ⟨h1,h2⟩:=VR_cells ha hv
 obtain ⟨g1,g2⟩:=putA_get off v.cells.toList 0 cs
 refine ⟨by rw [uO,g1];exact hc.1,fun i x u hx hu=>?_⟩
 have hi:i < l.length:=by
  rcases Nat.lt_or_ge i l.length with h'|h'
  ·exact h'
  ·rw [List.getElem?_eq_none (by rw [uO];exact h')] at hx;cases hx
 rw [putL_get _ _ _ _ hi] at hx
 rw [g2 i (by rw [← hc.1];exact hi)] at hu
 rw [Nat.add_zero,Array.length_toList,h1] at hu
 by_cases hb:off <= i/\i < off+(vcells a).length
 ·rw [if_pos hb] at hx hu
  obtain ⟨u',q1,q2,q3⟩:=h2 (i - off) x hx
  rw [Array.getElem?_toList,q1] at hu
  injection hu with hu;subst hu
  exact ⟨q2,q3⟩
 ·rw [if_neg hb] at hx hu
  exact hc.2 i x u hx hu

inductive PR (E:Env) (place:Nat->Option (Nat × Nat)):List (Nat × Nat × AV)->List (Nat × Value)->Prop
 | nil:PR E place [] []
 | cons (off z i:Nat) (a:AV) (v:Value) (l:List (Nat × Nat × AV)) (m:List (Nat × Value)) (hp:place i=some (off,z)) (hv:VR E a v) (h:PR E place l m):PR E place ((off,z,a)::l) ((i,v)::m)

theorem fill_sound {place:Nat->Option (Nat × Nat)} {ps:List (Nat × Nat × AV)} {pv:List (Nat × Value)} (hp:PR E place ps pv) {l:List AV} {cs:Array Value} (hc:CR E l cs) (hok:dG l.length ps=true) :
  ∃ cs',Instr.fill place cs pv=some cs'/\CR E (fillA l ps) cs':=by
 induction hp generalizing l cs with
 | nil=>exact ⟨cs,rfl,hc⟩
 | cons off z i a v r m hpl hv hr ih =>
  simp only [dG,Bool.and_eq_true,beq_iff_eq,decide_eq_true_eq] at hok
  obtain ⟨⟨⟨hz,ha⟩,hb⟩,hok⟩:=hok
  obtain ⟨h1,_⟩:=VR_cells ha hv
  obtain ⟨cs',q1,q2⟩:=ih (CR_put (off:=off) hc ha hv) (by rw [uO];exact hok)
  refine ⟨cs',?_,q2⟩
  simp only [Instr.fill,hpl]
  have hsz:v.cells.size=z:=h1.trans hz
  have hle:off+v.cells.size <= cs.size:=by rw [hsz,← hc.1];exact hb
  rw [if_neg (by simp [hsz];omega)]
  rw [← q1]
  congr 1
  unfold putA
  rw [← Array.toList_zipIdx,← Array.foldl_toList]

theorem absL_CR {vs:List Value} {m:List AV} (hl:absL vs=some m):CR E m vs.toArray:=by
 obtain ⟨h1,h2⟩:=absL_sound (E:=E) hl
 refine ⟨by simpa using h1,fun i a v ha hv=>?_⟩
 obtain ⟨q1,q2⟩:=h2 i a v ha (by simpa using hv)
 exact ⟨VR_one q2 q1,q1⟩

theorem CR_agg {l:List AV} {cs:Array Value} (hc:CR E l cs):VR E (.agg l) (.agg cs):=by
 refine .agg l cs hc.1 (fun i v hv=>?_) (fun i a v ha hv=>(hc.2 i a v ha hv).2)
 have hi:i < l.length:=by
  rw [hc.1]
  rcases Nat.lt_or_ge i cs.size with h'|h'
  ·exact h'
  ·rw [Array.getElem?_eq_none h'] at hv;cases hv
 exact (hc.2 i _ v (List.getElem?_eq_getElem hi) hv).1

theorem getP_get (l:List (Nat × Nat)) (i:Nat):getP l i=l[i]?:=by
 induction l generalizing i with
 | nil=>rfl
 | cons a l ih=>cases i with
  | zero=>rfl
  | succ i=>simp only [getP,List.getElem?_cons_succ,ih]

theorem mapM_places {fs:List Field} {pl:List (Nat × Nat)} (hp:bM P fs=some pl) (w:World) :
  (fs.mapM fun f=>do pure (f.offset,← sizeOf f.type):Sem (List (Nat × Nat))).run P w = .ok pl w:=by
 induction fs generalizing pl with
 | nil=>simp only [bM] at hp;injection hp with hp;subst hp;rfl
 | cons f r ih =>
  simp only [bM] at hp
  split at hp
  ·rename_i z l hz hl
   injection hp with hp;subst hp
   rw [List.mapM_cons]
   simp only [Sem.run_bind,wD hz,Result.andThen_ok,Sem.run_pure,ih hl]
  ·cases hp

theorem PR_A {z:Nat} {ρ:Operand->AV} {η:Operand->Value}:∀ (ps:List (Nat × Operand)),(∀ p ∈ ps,VR E (ρ p.2) (η p.2)) ->
  PR E (fun i=>some (i * z,z)) (jK z ρ ps) (ps.map fun (i,x)=>(i,η x))
 | [],_=>.nil
 | (i,x)::r,hv=>.cons _ _ _ _ _ _ _ rfl (hv (i,x) (by simp)) (PR_A r fun p hp=>hv p (by simp [hp]))
theorem PR_S {pl:List (Nat × Nat)} {ρ:Operand->AV} {η:Operand->Value}:∀ (ps:List (Nat × Operand)) {qs:List (Nat × Nat × AV)},fU pl ρ ps=some qs->(∀ p ∈ ps,VR E (ρ p.2) (η p.2)) ->
  PR E (fun i=>(pl.toArray)[i]?) qs (ps.map fun (i,x)=>(i,η x))
 | [],qs,hq,_=>by simp only [fU] at hq;injection hq with hq;subst hq;exact .nil
 | (i,x)::r,qs,hq,hv=>by
  simp only [fU] at hq
  split at hq
  ·rename_i off z l h1 h2
   injection hq with hq;subst hq
   exact .cons _ _ _ _ _ _ _ (by rw [List.getElem?_toArray,← getP_get];exact h1) (hv (i,x) (by simp)) (PR_S r h2 fun p hp=>hv p (by simp [hp]))
  ·cases hq

theorem build_sound {t:TypeId} {ps:Array (Nat × Operand)} {ρ:Operand->AV} {η:Operand->Value} {ob:Prop} {v:AV} (hv:∀ p ∈ ps.toList,VR E (ρ p.2) (η p.2))
  (hr:fD (tplaces P t) (tarr P t) ((tarr P t).bind fun q=>tsz P q.2) (tzero P t) ρ ps.toList = .pure ob v) :
  ∃ r,(∀ W,(Instr.build t (ps.map fun (i,x)=>(i,η x))).run P W = .ok r W)/\VR E v r:=by
 have hmap:(ps.map fun (i,x)=>(i,η x)).toList=ps.toList.map fun (i,x)=>(i,η x):=by simp
 cases hz:tzero P t with
 | none =>
  rw [hz] at hr
  unfold fD at hr
  split at hr<;>first|(cases hr;done)|(simp only [gL] at hr;cases hr)
 | some l =>
  rw [hz] at hr
  obtain ⟨i,z,hi,hzv,hl⟩:=zero_of hz
  have hc:CR E l z.cells:=by simpa using absL_CR (E:=E) hl
  cases hpl:tplaces P t with
  | some pl =>
   rw [hpl] at hr
   simp only [fD] at hr
   cases hq:fU pl ρ ps.toList with
   | none=>rw [hq] at hr;simp only [gL] at hr;cases hr
   | some qs =>
    rw [hq] at hr
    simp only [gL] at hr
    cases hok:dG l.length qs with
    | false=>rw [hok] at hr;cases hr
    | true =>
     rw [hok] at hr
     simp only [cond_true,AR.pure.injEq] at hr
     obtain ⟨_,rfl⟩:=hr
     obtain ⟨cs',q1,q2⟩:=fill_sound (PR_S ps.toList hq hv) hc hok
     unfold tplaces at hpl
     split at hpl
     ·rename_i fs hu
      refine ⟨.agg cs',fun W=>?_,CR_agg q2⟩
      have hm:=mapM_places hpl W
      simp only [Instr.build,Sem.run_bind,uX hi hzv,Result.andThen_ok,run_underlying hu]
      rw [Array.mapM_eq_mapM_toList]
      simp only [Sem.run_map,hm,Result.andThen_ok,hmap]
      rw [show (fun (x:Nat)=>pl.toArray[x]?)=(fun i=>(pl.toArray)[i]?) from rfl,q1]
      rfl
     ·cases hpl
  | none =>
   rw [hpl] at hr
   cases ha:tarr P t with
   | none=>rw [ha] at hr;cases hr
   | some q =>
    obtain ⟨len,e⟩:=q
    rw [ha] at hr
    simp only [Option.bind_some] at hr
    cases hsz:tsz P e with
    | none=>rw [hsz] at hr;simp only [fD] at hr;cases hr
    | some sz =>
     rw [hsz] at hr
     simp only [fD,gL] at hr
     cases hok:dG l.length (jK sz ρ ps.toList) with
     | false=>rw [hok] at hr;cases hr
     | true =>
      rw [hok] at hr
      simp only [cond_true,AR.pure.injEq] at hr
      obtain ⟨_,rfl⟩:=hr
      obtain ⟨cs',q1,q2⟩:=fill_sound (PR_A (z:=sz) ps.toList hv) hc hok
      refine ⟨.agg cs',fun W=>?_,CR_agg q2⟩
      have hu:=fH ha
      simp only [Instr.build,Sem.run_bind,uX hi hzv,Result.andThen_ok,run_underlying hu,wD hsz,hmap]
      rw [q1]
      rfl

theorem tL (l:List AV) (n:Nat):(repL l n).length=n * l.length:=by
 induction n with
 | zero=>simp [repL]
 | succ n ih=>simp only [repL,List.length_append,ih,Nat.succ_mul];omega
theorem repL_get (l:List AV) (n i:Nat) (hl:0 < l.length) (hi:i < n * l.length):(repL l n)[i]? = l[i % l.length]?:=by
 induction n generalizing i with
 | zero=>omega
 | succ n ih =>
  simp only [repL]
  by_cases h1:i < l.length
  ·rw [List.getElem?_append_left h1,Nat.mod_eq_of_lt h1]
  ·rw [List.getElem?_append_right (by omega),ih _ (by rw [Nat.succ_mul] at hi;omega)]
   congr 1
   rw [Nat.mod_eq_sub_mod (by omega:i ≥ l.length)]

theorem rep_CR {l:List AV} {zs:Array Value} (hc:CR E l zs) (n m:Nat) (hm:m=n * l.length) (hl:0 < l.length):CR E (repL l n) ((Array.range m).map fun i=>zs[i % zs.size]!):=by
 subst hm
 refine ⟨by simp [tL],fun i a v ha hv=>?_⟩
 have hi:i < n * l.length:=by
  rcases Nat.lt_or_ge i (n * l.length) with h'|h'
  ·exact h'
  ·rw [List.getElem?_eq_none (by rw [tL];exact h')] at ha;cases ha
 rw [repL_get l n i hl hi] at ha
 have hlt:i % l.length < zs.size:=by rw [← hc.1];exact Nat.mod_lt _ hl
 have hv':v=zs[i % l.length]:=by
  rw [Array.getElem?_map,Array.getElem?_range,if_pos hi] at hv
  simp only [Option.map_some,Option.some.injEq] at hv
  rw [← hv,← hc.1,getElem!_pos zs _ hlt]
 exact hc.2 _ a v ha (by rw [hv'];exact Array.getElem?_eq_getElem hlt)

theorem row_of_CR {l:List AV} {cs:Array Value} {z n:Nat} (hc:CR E l cs) (hl:l.length=n * z) :
  n * z <= cs.size/\∀ x y,x < n->y < z->∃ v,cs[x * z+y]? = some v/\v.oneCell'=true/\VR E (dK z l x y) v:=by
 refine ⟨by rw [← hl,hc.1];exact Nat.le_refl _,fun x y hx hy=>?_⟩
 have h1:=wH hx hy
 have h2:x * z+y < l.length:=by omega
 have h3:x * z+y < cs.size:=by rw [← hc.1];exact h2
 obtain ⟨q1,q2⟩:=hc.2 _ _ _ (xV h2) (Array.getElem?_eq_getElem h3)
 exact ⟨_,Array.getElem?_eq_getElem h3,q1,q2⟩

theorem fillA_length (l:List AV) (ps:List (Nat × Nat × AV)):(fillA l ps).length=l.length:=by
 induction ps generalizing l with
 | nil=>rfl
 | cons p r ih=>obtain ⟨off,z,a⟩:=p;simp only [fillA,ih,uO]

theorem newRow_HR {e z n:Nat} {c:Nat->Nat->AV} {cs:Array Value} (H:HR E h) (hs:n * z <= cs.size) (hc:∀ x y,x < n->y < z->∃ v,cs[x * z+y]? = some v/\v.oneCell'=true/\VR E (c x y) v) :
  HR (E.push h (.cells cs e)) (h ++ [.row e z n c])/\Ext E h (E.push h (.cells cs e)) (h ++ [.row e z n c]):=by
 refine push_HR H cs e _ ?_
 unfold BR
 rw [show (E.push h (Obj.cells cs e)).σ h.length=some (E.w.heap.size,0) from vU _ _ _]
 refine ⟨cs,tI _ _,by omega,fun x y hx hy=>?_⟩
 obtain ⟨v,q1,q2,q3⟩:=hc x y hx hy
 exact ⟨v,by rw [Nat.zero_add];exact q1,q2,q3.mono (bZ H _)⟩

theorem buildSlice_sound {t:TypeId} {len:Nat} {ps:Array (Nat × Operand)} {ρ:Operand->AV} {η:Operand->Value} {ob:Prop} {v:AV} {h':List ABlk} (H:HR E h) (hv:∀ p ∈ ps.toList,VR E (ρ p.2) (η p.2))
  (hr:qU (tslice P t) ((tslice P t).bind (tsz P)) ((tslice P t).bind (tzero P)) len ρ ps.toList h = .heap ob v h') :
  ∃ r E',(Instr.buildSlice t len (ps.map fun (i,x)=>(i,η x))).run P E.w = .ok r E'.w/\Ext E h E' h'/\HR E' h'/\VR E' v r:=by
 have hmap:(ps.map fun (i,x)=>(i,η x)).toList=ps.toList.map fun (i,x)=>(i,η x):=by simp
 cases ht:tslice P t with
 | none=>rw [ht] at hr;cases hr
 | some e =>
 rw [ht] at hr
 simp only [Option.bind_some] at hr
 cases hz:tsz P e with
 | none=>rw [hz] at hr;cases hr
 | some z =>
 cases hl:tzero P e with
 | none=>rw [hz,hl] at hr;cases hr
 | some l =>
 rw [hz,hl] at hr
 simp only [qU] at hr
 cases hok:(l.length == z && decide (1 <= z) && decide (len * z <= 4096) && dG (len * z) (jK z ρ ps.toList)) with
 | false=>rw [hok] at hr;cases hr
 | true =>
 rw [hok] at hr
 simp only [cond_true,AR.heap.injEq] at hr
 obtain ⟨_,rfl,rfl⟩:=hr
 simp only [Bool.and_eq_true,beq_iff_eq,decide_eq_true_eq] at hok
 obtain ⟨⟨⟨rfl,hz1⟩,hlen⟩,hfill⟩:=hok
 obtain ⟨i,zv,hi,hzv,habs⟩:=zero_of hl
 have hu:=xL ht
 have hc:CR E l zv.cells:=by simpa using absL_CR (E:=E) habs
 have hrep:=rep_CR hc len (len * l.length) rfl (by omega)
 obtain ⟨cs',q1,q2⟩:=fill_sound (PR_A (z:=l.length) ps.toList hv) hrep (by rw [tL];exact hfill)
 have hlenF:(fillA (repL l len) (jK l.length ρ ps.toList)).length=len * l.length:=by rw [fillA_length,tL]
 obtain ⟨r1,r2⟩:=row_of_CR q2 hlenF
 obtain ⟨H1,X1⟩:=newRow_HR (e:=e) H r1 r2
 have hbig:¬ (len * l.length > 16777216):=by omega
 refine ⟨.slice (some ⟨E.w.heap.size,0,none⟩) len len,_,?_,X1,H1,kE rfl (by rw [← q2.1,hlenF]) (Nat.le_refl _) (cW ?_) rfl⟩
 ·by_cases h0:len * l.length=0
  ·have hcs:Instr.fill (fun i=>some (i * l.length,l.length)) ((Array.range (len * l.length)).map fun i=>(#[]:Array Value)[i % (#[]:Array Value).size]!) (ps.toList.map fun (i,x)=>(i,η x))=some cs':=by
    rw [← q1,h0];congr 1
    apply Array.ext
    ·simp
    ·intro i hi;simp at hi
   simp only [Instr.buildSlice,Sem.run_bind,run_underlying hu,Result.andThen_ok,wD hz,if_neg hbig,if_pos h0,Sem.run_pure,hmap,hcs]
   rfl
  ·simp only [Instr.buildSlice,Sem.run_bind,run_underlying hu,Result.andThen_ok,wD hz,if_neg hbig,if_neg h0,uX hi hzv,Sem.run_pure,hmap,q1]
   rfl
 ·have:=Nat.le_mul_of_pos_right len (show 0 < l.length from by omega)
  omega

theorem make_sound {t:TypeId} {n c v:AV} {un uc:Value} {ob:Prop} {h':List ABlk} (H:HR E h) (hn:VR E n un) (hc:VR E c uc)
  (hr:evMake (tslice P t) ((tslice P t).bind (tsz P)) ((tslice P t).bind (tby P)) ((tslice P t).bind (tzero P)) n c h = .heap ob v h') (hob:ob) :
  ∃ r E',(Instr.makeSlice t un uc).run P E.w = .ok r E'.w/\Ext E h E' h'/\HR E' h'/\VR E' v r:=by
 cases ht:tslice P t with
 | none=>rw [ht] at hr;cases hr
 | some e =>
 rw [ht] at hr
 simp only [Option.bind_some] at hr
 cases hz:tsz P e with
 | none=>rw [hz] at hr;cases hr
 | some z =>
 cases hb:tby P e with
 | none=>rw [hz,hb] at hr;cases hr
 | some by_ =>
 cases hl:tzero P e with
 | none=>rw [hz,hb,hl] at hr;cases hr
 | some l =>
 rw [hz,hb,hl] at hr
 unfold evMake at hr
 split at hr
 ·rename_i e' z' b' l' n c h1 h2 h3 h4
  injection h1 with h1;injection h2 with h2;injection h3 with h3;injection h4 with h4
  subst h1 h2 h3 h4
  cases hok:(l.length == z && decide (1 <= z)) with
  | false=>rw [hok] at hr;cases hr
  | true =>
  rw [hok] at hr
  simp only [cond_true,AR.heap.injEq] at hr
  obtain ⟨rfl,rfl,rfl⟩:=hr
  obtain ⟨o1,o2,o3,o4⟩:=hob
  simp only [Bool.and_eq_true,beq_iff_eq,decide_eq_true_eq] at hok
  obtain ⟨rfl,hz1⟩:=hok
  obtain rfl:=vP hn
  obtain rfl:=vP hc
  obtain ⟨i,zv,hi,hzv,habs⟩:=zero_of hl
  obtain ⟨i',hi',hby⟩:=cR hb
  rw [hi] at hi';cases hi'
  have hu:=xL ht
  have hcz:CR E l zv.cells:=by simpa using absL_CR (E:=E) habs
  have hrep:=rep_CR hcz c.toNat (c.toNat * l.length) rfl (by omega)
  have wn:IntKind.i64.wrap n=n:=IntWalk.i64_in _ (by omega)
  have wc:IntKind.i64.wrap c=c:=IntWalk.i64_in _ (by omega)
  have hrow:n.toNat * l.length <= ((Array.range (c.toNat * l.length)).map fun i=>zv.cells[i % zv.cells.size]!).size/\∀ x y,x < n.toNat->y < l.length->∃ v,((Array.range (c.toNat * l.length)).map fun i=>zv.cells[i % zv.cells.size]!)[x * l.length+y]? = some v/\v.oneCell'=true/\VR E (zL l y) v:=by
   refine ⟨by rw [← hrep.1,tL];exact Nat.mul_le_mul_right _ (by omega),fun x y hx hy=>?_⟩
   have h1:=wH (show x < c.toNat from by omega) hy
   have h3:x * l.length+y < ((Array.range (c.toNat * l.length)).map fun i=>zv.cells[i % zv.cells.size]!).size:=by rw [← hrep.1,tL];exact h1
   obtain ⟨q1,q2⟩:=hrep.2 (x * l.length+y) (zL l y) _ (by
    rw [repL_get _ _ _ (by omega) h1,Nat.mul_comm x,Nat.mul_add_mod,Nat.mod_eq_of_lt hy,xV hy]) (Array.getElem?_eq_getElem h3)
   exact ⟨_,Array.getElem?_eq_getElem h3,q1,q2⟩
  obtain ⟨H1,X1⟩:=newRow_HR (e:=e) (z:=l.length) (n:=n.toNat) (c:=fun _ y=>zL l y) H hrow.1 hrow.2
  refine ⟨.slice (some ⟨E.w.heap.size,0,none⟩) n.toNat c.toNat,_,?_,X1,H1,kE rfl (by rw [← hrep.1,tL]) (by omega) (by unfold maxLen;omega) rfl⟩
  have m1:¬ c < 0:=by omega
  have m2:¬ (281474976710656 < (i.bytes:Int) * c):=by rw [hby];omega
  have m3:¬ n < 0:=by omega
  have m4:¬ c < n:=by omega
  have m5:¬ (140737488355328 < c.toNat * i.bytes):=by
   rw [hby]
   have e1:((c.toNat * by_:Nat):Int)=(by_:Int) * c:=by rw [Int.natCast_mul,Int.toNat_of_nonneg (by omega),Int.mul_comm]
   omega
  have ms:i.size=l.length:=by
   have:=wD (w:=E.w) hz
   simpa [sizeOf,typeInfo,hi] using this
  have hx:c.toNat * l.length=0->((Array.range (c.toNat * l.length)).map fun _=>(default:Value))=((Array.range (c.toNat * l.length)).map fun i=>zv.cells[i % zv.cells.size]!):=by
   intro h0
   apply Array.ext
   ·simp
   ·intro i hi;simp [h0] at hi
  by_cases h0:c.toNat * l.length=0
  ·have hx:=hx h0
   rw [h0] at hx
   simp [Instr.makeSlice,run_underlying hu,asInt,asIntOf,typeInfo,hi,sizeOf,ms,wn,wc,m1,m2,m3,m4,h0,newRow,askRoom,roomBytes,Env.push,hx]
  ·simp [Instr.makeSlice,run_underlying hu,asInt,asIntOf,typeInfo,hi,sizeOf,ms,zeroValue,hzv,wn,wc,m1,m2,m3,m4,newRow,askRoom,roomBytes,Env.push]
   intro h1
   rw [hx h1]
 ·cases hr
end
end Go.Am
