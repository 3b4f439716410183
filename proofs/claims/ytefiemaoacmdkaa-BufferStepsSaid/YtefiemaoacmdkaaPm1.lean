/-
  The abstract machine, text 1: abstract values, abstract blocks, and what they say of a world.
  'AV' stands for a Go value whose memory is told beside it: own blocks by number, memory that is only read by its content. what one operation gives. what one operation gives is what the model's operation does: loads, stores, addresses, parts. addresses, parts, slices, arithmetic: what they give is what the model's operations do.
-/
import Derived.WalkKit
import Derived.OrdersHeld
namespace Go.Am
set_option linter.unusedVariables false

inductive AV where
 | top
 | bool (b:Bool)
 | int (k:IntKind) (n:Int)
 | str (s:ByteArray)
 | nilp
 | ptr (b es i j:Nat)
 | rptr (es n i j:Nat) (c:Nat->Nat->AV)
 | sl (b es i n:Nat) (nl:Bool)
 | isl (b es i j z n:Nat)
 | csl (b es i n c:Nat)
 | ro (es n:Nat) (nl:Bool) (c:Nat->Nat->AV)
 | emp
 | agg (l:List AV)
 | tup (l:List AV)
 | fn (f:FuncId) (cap:List AV)
 | mfn (f:FuncId) (cap:List AV)
 | nilf
 | opt (g:Bool) (v:AV)
 | ub
 | val (v:Value)
 | mp (m:List (Int × Value))
 deriving Inhabited

inductive ABlk where
 | lit (e:TypeId) (l:List AV)
 | row (e:TypeId) (es n:Nat) (c:Nat->Nat->AV)
 | mapb (k:Nat) (m:List (Int × Int))
 | dead
 deriving Inhabited

structure Env where
 w:World
 σ:Nat->Option (Nat × Nat)
 prot:Nat->Prop
 lo:Nat->Prop


mutual
def nref:AV->Prop
 | .ptr _ _ _ _=>False
 | .sl _ _ _ _ _=>False
 | .isl _ _ _ _ _ _=>False
 | .csl _ _ _ _ _=>False
 | .rptr _ _ _ _ _=>True
 | .ro _ _ _ _=>True
 | .agg l=>zX l
 | .tup l=>zX l
 | .fn _ l=>zX l
 | .mfn _ l=>zX l
 | .opt _ v=>nref v
 | .top=>True
 | .bool _=>True
 | .int _ _=>True
 | .str _=>True
 | .nilp=>True
 | .emp=>True
 | .nilf=>True
 | .ub=>True
 | .val _=>True
 | .mp _=>True
def zX:List AV->Prop
 | []=>True
 | a::l=>nref a/\zX l
end
def Fl (es:Nat) (c:Nat->Nat->AV):Prop:=∃ x,c x es = .emp
def Nw (w:World) (lo:Nat->Prop) (k:Nat):Prop:=¬ lo k/\∃ cs e,w.heap[k]? = some (.cells cs e (0,0))
def Zr (w:World) (lo:Nat->Prop) (es n:Nat) (c:Nat->Nat->AV) (a:Option Addr) (cap:Nat):Prop:=(a=none->cap=0)/\(0 < n->Fl es c->∀ k o,a=some ⟨k,o,none⟩->Nw w lo k)
inductive VR (E:Env):AV->Value->Prop
 | top (v:Value):VR E .top v
 | bool (b:Bool):VR E (.bool b) (.bool b)
 | int (k:IntKind) (n:Int):VR E (.int k n) (.int k n)
 | str (s:ByteArray):VR E (.str s) (.string s)
 | nilp:VR E .nilp (.pointer none)
 | ptr (b es i j k o:Nat) (h:E.σ b=some (k,o)):VR E (.ptr b es i j) (.pointer (some ⟨k,o+i * es+j,none⟩))
 | rptr (es n i j k o:Nat) (c:Nat->Nat->AV) (u:Nat->Nat->Value) (hp:E.prot k/\(Fl es c->Nw E.w E.lo k))
   (hu:∀ x y,x < n->y < es->E.w.cell? ⟨k,o+x * es+y,none⟩=some (u x y)) (h1:∀ x y,x < n->y < es->(u x y).oneCell'=true) (hc:∀ x y,x < n->y < es->VR E (c x y) (u x y)) (hrf:∀ x y,x < n->y < es->nref (c x y)) :
   VR E (.rptr es n i j c) (.pointer (some ⟨k,o+i * es+j,none⟩))
 | sl (b es i n:Nat) (nl:Bool) (a:Option Addr) (cap:Nat) (hn:n <= cap) (hcm:cap <= maxLen) (hnl:nl=true->a=none) (hz:a=none->cap=0)
   (hc:0 < cap->∃ k o cs e,E.σ b=some (k,o)/\a=some ⟨k,o+i * es,none⟩/\E.w.heap[k]? = some (.cells cs e (0,0))/\o+i * es+cap * es <= cs.size) :
   VR E (.sl b es i n nl) (.slice a n cap)
 | isl (b es i j z n cap k o:Nat) (hn:n <= cap) (hcm:cap <= maxLen) (h:E.σ b=some (k,o)):VR E (.isl b es i j z n) (.slice (some ⟨k,o+i * es+j,none⟩) n cap)
 | csl (b es i n c:Nat) (a:Option Addr) (hn:n <= c) (hcm:c <= maxLen) (hc:0 < c->∃ k o cs e,E.σ b=some (k,o)/\a=some ⟨k,o+i * es,none⟩/\E.w.heap[k]? = some (.cells cs e (0,0))/\o+i * es+c * es <= cs.size):VR E (.csl b es i n c) (.slice a n c)
 | ro (es n:Nat) (nl:Bool) (c:Nat->Nat->AV) (a:Option Addr) (cap:Nat) (hn:n <= cap) (hcm:cap <= maxLen) (hnl:nl=true->a=none) (hz:Zr E.w E.lo es n c a cap)
   (u:Nat->Nat->Value)
   (ha:0 < n->∃ k o,a=some ⟨k,o,none⟩/\E.prot k/\(∀ x y,x < n->y < es->E.w.cell? ⟨k,o+x * es+y,none⟩=some (u x y)))
   (h1:∀ x y,x < n->y < es->(u x y).oneCell'=true) (hc:∀ x y,x < n->y < es->VR E (c x y) (u x y)) (hrf:∀ x y,x < n->y < es->nref (c x y)) :
   VR E (.ro es n nl c) (.slice a n cap)
 | emp (a:Option Addr):VR E .emp (.slice a 0 0)
 | agg (l:List AV) (vs:Array Value) (hl:l.length=vs.size) (h1:∀ (i:Nat) (v:Value),vs[i]? = some v->v.oneCell'=true) (h:∀ (i:Nat) (a:AV) (v:Value),l[i]? = some a->vs[i]? = some v->VR E a v):VR E (.agg l) (.agg vs)
 | tup (l:List AV) (vs:Array Value) (hl:l.length=vs.size) (h:∀ (i:Nat) (a:AV) (v:Value),l[i]? = some a->vs[i]? = some v->VR E a v):VR E (.tup l) (.tuple vs)
 | fn (f:FuncId) (l:List AV) (vs:Array Value) (hl:l.length=vs.size) (h:∀ (i:Nat) (a:AV) (v:Value),l[i]? = some a->vs[i]? = some v->VR E a v):VR E (.fn f l) (.func (.func f) #[] vs)
 | mfn (f:FuncId) (l:List AV) (vs:Array Value) (hl:l.length=vs.size) (h:∀ (i:Nat) (a:AV) (v:Value),l[i]? = some a->vs[i]? = some v->VR E a v):VR E (.mfn f l) (.func (.func f) vs #[])
 | nilf:VR E .nilf .nilFunc
 | opt_t (a:AV) (v:Value) (h:VR E a v):VR E (.opt true a) v
 | opt_f (a:AV):VR E (.opt false a) undef
 | ub (b:Bool):VR E .ub (.bool b)
 | val (v:Value) (h1:v.oneCell'=true):VR E (.val v) v
 | mp (m:List (Int × Value)) (r clock:Nat) (es:Array MapEntry) (hp:E.prot r) (hb:E.w.heap[r]? = some (.map es clock)) (he:es.toList.map (fun e=>(e.key,e.val))=m.map (fun q=>(Value.int .u8 q.1,q.2))):VR E (.mp m) (.map (some r))

def Mfit (es:Array MapEntry) (m:List (Int × Int)):Prop:=es.toList.map (fun e=>(e.key,e.val))=m.map (fun q=>(Value.int .i64 q.1,Value.int .i64 q.2))/\(m.map Prod.fst).Nodup
def BR (E:Env) (b:Nat):ABlk->Prop
 | .dead=>True
 | .mapb k m=>E.σ b=some (k,0)/\∃ es clock,E.w.heap[k]? = some (.map es clock)/\Mfit es m/\m.length < 1000000000
 | .lit e l=>∃ k o cs,E.σ b=some (k,o)/\E.w.heap[k]? = some (.cells cs e (0,0))/\o+l.length <= cs.size/\∀ (j:Nat) (a:AV),l[j]? = some a->∃ v,cs[o+j]? = some v/\v.oneCell'=true/\VR E a v
 | .row e es n c=>match E.σ b with
  | none=>n=0
  | some (k,o)=>∃ cs,E.w.heap[k]? = some (.cells cs e (0,0))/\o+n * es <= cs.size/\∀ x y,x < n->y < es->∃ v,cs[o+x * es+y]? = some v/\v.oneCell'=true/\VR E (c x y) v

def Own (E:Env) (h:List ABlk) (k:Nat):Prop:=∃ b blk o,h[b]? = some blk/\blk ≠ .dead/\E.σ b=some (k,o)

structure HR (E:Env) (h:List ABlk):Prop where
 blk:∀ (b:Nat) (x:ABlk),h[b]? = some x->BR E b x
 inj:∀ (b b':Nat) (x x':ABlk) (k o o':Nat),h[b]? = some x->x ≠ .dead->h[b']? = some x'->x' ≠ .dead->E.σ b=some (k,o)->E.σ b'=some (k,o')->b=b'
 prot:∀ k,E.prot k->k < E.w.heap.size/\¬ Own E h k
 fresh:∀ b,h.length <= b->E.σ b=none
 lo:∀ k,E.lo k->E.prot k

def Wr (w:World) (k:Nat):Prop:=∃ cs e,w.heap[k]? = some (.cells cs e (0,0))
structure Ext (E:Env) (h:List ABlk) (E':Env) (h':List ABlk):Prop where
 os:E'.w.os=E.w.os
 tape:E'.w.tape=E.w.tape
 output:E'.w.output=E.w.output
 σ:∀ (b:Nat) (x:Nat × Nat),E.σ b=some x->E'.σ b=some x
 prot:∀ k,E.prot k->E'.prot k
 size:E.w.heap.size <= E'.w.heap.size
 kind:∀ (k:Nat) cs e,E.w.heap[k]? = some (.cells cs e (0,0))->∃ cs',E'.w.heap[k]? = some (.cells cs' e (0,0))/\cs'.size=cs.size
 frame:∀ k,k < E.w.heap.size->¬ Own E h k->E'.w.heap[k]? = E.w.heap[k]?
 own:∀ k,Own E' h' k->Own E h k ∨ E.w.heap.size <= k
 len:h.length <= h'.length
 old:∀ b,b < h.length->E'.σ b=E.σ b
 pro:∀ k,E'.prot k->E.prot k ∨ Own E h k ∨ E.w.heap.size <= k
 lo:E'.lo=E.lo
 wr:∀ k,E'.prot k->E.prot k ∨ Wr E'.w k

def cellB:ABlk->Prop
 | .lit _ _=>True
 | .row _ _ _ _=>True
 | .mapb _ _=>False
 | .dead=>False
theorem cellB.nd {x:ABlk} (h:cellB x):x ≠ .dead:=by rintro rfl;exact h
theorem HR.wr {E:Env} {h:List ABlk} (H:HR E h) {b k o:Nat} {x:ABlk} (hb:h[b]? = some x) (hx:cellB x) (hs:E.σ b=some (k,o)):Wr E.w k:=by
 have:=H.blk b x hb
 cases x with
 | lit e l=>obtain ⟨k',o',cs,h1,h2,_⟩:=this;rw [hs] at h1;cases h1;exact ⟨cs,e,h2⟩
 | row e es n c=>unfold BR at this;rw [hs] at this;obtain ⟨cs,h2,_⟩:=this;exact ⟨cs,e,h2⟩
 | mapb _ _=>exact hx.elim
 | dead=>exact hx.elim

theorem Ext.refl (E:Env) (h:List ABlk):Ext E h E h :=
 ⟨rfl,rfl,rfl,fun _ _ h=>h,fun _ h=>h,Nat.le_refl _,fun k cs e h=>⟨cs,h,rfl⟩,fun _ _ _=>rfl,fun _ h=>.inl h,Nat.le_refl _,fun _ _=>rfl,fun _ h=>.inl h,rfl,fun _ h=>.inl h⟩

theorem Ext.trans {E E1 E2:Env} {h h1 h2:List ABlk} (a:Ext E h E1 h1) (b:Ext E1 h1 E2 h2):Ext E h E2 h2 where
 os:=b.os.trans a.os
 tape:=b.tape.trans a.tape
 output:=b.output.trans a.output
 σ:=fun x y h=>b.σ _ _ (a.σ _ _ h)
 prot:=fun k h=>b.prot _ (a.prot _ h)
 size:=Nat.le_trans a.size b.size
 kind:=fun k cs e h=>by
  obtain ⟨c1,h1,e1⟩:=a.kind k cs e h
  obtain ⟨c2,h2,e2⟩:=b.kind k c1 e h1
  exact ⟨c2,h2,e2.trans e1⟩
 frame:=fun k hk hn=>by
  rw [b.frame k (Nat.lt_of_lt_of_le hk a.size) (fun ho=>?_),a.frame k hk hn]
  rcases a.own k ho with h|h
  ·exact hn h
  ·omega
 own:=fun k h=>by
  rcases b.own k h with h|h
  ·exact a.own k h
  ·exact .inr (Nat.le_trans a.size h)
 len:=Nat.le_trans a.len b.len
 old:=fun i hi=>(b.old i (Nat.lt_of_lt_of_le hi a.len)).trans (a.old i hi)
 pro:=fun k h=>by
  rcases b.pro k h with h|h|h
  ·exact a.pro k h
  ·rcases a.own k h with h|h
   ·exact .inr (.inl h)
   ·exact .inr (.inr h)
  ·exact .inr (.inr (Nat.le_trans a.size h))
 lo:=b.lo.trans a.lo
 wr:=fun k h=>by
  rcases b.wr k h with h|h
  ·rcases a.wr k h with h|⟨cs,e,h⟩
   ·exact .inl h
   ·obtain ⟨c2,h2,_⟩:=b.kind k cs e h
    exact .inr ⟨c2,e,h2⟩
  ·exact .inr h

structure Keep (E E':Env):Prop where
 σ:∀ (b:Nat) (x:Nat × Nat),E.σ b=some x->E'.σ b=some x
 prot:∀ k,E.prot k->E'.prot k
 same:∀ k,E.prot k->E'.w.heap[k]? = E.w.heap[k]?
 kind:∀ (k:Nat) cs e,E.w.heap[k]? = some (.cells cs e (0,0))->∃ cs',E'.w.heap[k]? = some (.cells cs' e (0,0))/\cs'.size=cs.size
 lo:E'.lo=E.lo

theorem Ext.keep {E E':Env} {h h':List ABlk} (x:Ext E h E' h') (hh:HR E h):Keep E E' :=
 ⟨x.σ,x.prot,fun k hk=>x.frame k (hh.prot k hk).1 (hh.prot k hk).2,x.kind,x.lo⟩
theorem HR.lo_own {E:Env} {h:List ABlk} (H:HR E h) {k:Nat} (ho:Own E h k):¬ E.lo k:=fun q=>(H.prot k (H.lo k q)).2 ho
theorem Nw.to {w w':World} {lo lo':Nat->Prop} {k:Nat} (h:Nw w lo k) (e:∀ k,lo' k->lo k) (hk:∀ cs e,w.heap[k]? = some (.cells cs e (0,0))->∃ cs',w'.heap[k]? = some (.cells cs' e (0,0))):Nw w' lo' k :=
 ⟨fun r=>h.1 (e k r),h.2.elim fun cs q=>q.elim fun t q=>(hk cs t q).elim fun cs' q=>⟨cs',t,q⟩⟩
theorem Zr.to {w w':World} {lo lo':Nat->Prop} {es n cap:Nat} {c:Nat->Nat->AV} {a:Option Addr} (h:Zr w lo es n c a cap) (e:∀ k,lo' k->lo k)
  (hk:∀ k o,0 < n->a=some ⟨k,o,none⟩->∀ cs e,w.heap[k]? = some (.cells cs e (0,0))->∃ cs',w'.heap[k]? = some (.cells cs' e (0,0))):Zr w' lo' es n c a cap:=⟨h.1,fun p f k o q=>(h.2 p f k o q).to e (hk k o p q)⟩
theorem zr0 {w:World} {lo:Nat->Prop} {es n cap:Nat} {c:Nat->Nat->AV} (h:cap=0):Zr w lo es n c none cap:=⟨fun _=>h,fun _ _ k o h=>by cases h⟩
theorem zrN {w:World} {lo:Nat->Prop} {es cap:Nat} {c:Nat->Nat->AV} {a:Option Addr} (h:a=none->cap=0):Zr w lo es 0 c a cap:=⟨h,fun p=>absurd p (Nat.lt_irrefl 0)⟩
theorem zrB {w:World} {lo:Nat->Prop} {es n cap k o:Nat} {c:Nat->Nat->AV} (h:Nw w lo k):Zr w lo es n c (some ⟨k,o,none⟩) cap:=⟨fun h=>(by cases h),fun _ _ k' o' q=>by cases q;exact h⟩
theorem zrU {w:World} {lo:Nat->Prop} {es n cap:Nat} {c:Nat->Nat->AV} {a:Option Addr} (h:a=none->cap=0) (e:¬ Fl es c):Zr w lo es n c a cap:=⟨h,fun _ f=>absurd f e⟩
theorem Zr.sub {w:World} {lo:Nat->Prop} {es n n' cap:Nat} {c c':Nat->Nat->AV} {a:Option Addr} (h:Zr w lo es n c a cap) (hn:n' <= n) (hf:0 < n'->Fl es c'->Fl es c):Zr w lo es n' c' a cap:=⟨h.1,fun p f=>h.2 (Nat.lt_of_lt_of_le p hn) (hf p f)⟩

theorem cell?_same {w w':World} {a:Addr} (h:w'.heap[a.block]? = w.heap[a.block]?):w'.cell? a=w.cell? a:=by
 simp only [World.cell?,h]

theorem VR.mono {E E':Env} (K:Keep E E') {a:AV} {v:Value} (h:VR E a v):VR E' a v:=by
 induction h with
 | top v=>exact .top v
 | bool b=>exact .bool b
 | int k n=>exact .int k n
 | str s=>exact .str s
 | nilp=>exact .nilp
 | ptr b es i j k o h=>exact .ptr b es i j k o (K.σ _ _ h)
 | rptr es n i j k o c u hp hu h1 hc hrf ih =>
  exact .rptr es n i j k o c u ⟨K.prot _ hp.1,fun f=>(hp.2 f).to (fun k h=>by rw [← K.lo];exact h) fun cs e q=>(K.kind k cs e q).elim fun cs' q=>⟨cs',q.1⟩⟩ (fun x y hx hy=>(cell?_same (K.same k hp.1)).trans (hu x y hx hy)) h1 ih hrf
 | sl b es i n nl a cap hn hcm hnl hz hc =>
  refine .sl b es i n nl a cap hn hcm hnl hz (fun hp=>?_)
  obtain ⟨k,o,cs,e,h1,h2,h3,h4⟩:=hc hp
  obtain ⟨cs',h5,h6⟩:=K.kind _ _ _ h3
  exact ⟨k,o,cs',e,K.σ _ _ h1,h2,h5,by rw [h6];exact h4⟩
 | isl b es i j z n cap k o hn hcm h=>exact .isl b es i j z n cap k o hn hcm (K.σ _ _ h)
 | csl b es i n c a hn hcm hc=>exact .csl b es i n c a hn hcm fun hp=>by obtain ⟨k,o,cs,e,h1,h2,h3,h4⟩:=hc hp;obtain ⟨cs',h5,h6⟩:=K.kind _ _ _ h3;exact ⟨k,o,cs',e,K.σ _ _ h1,h2,h5,by rw [h6];exact h4⟩
 | ro es n nl c a cap hn hcm hnl hz u ha h1 hc hrf ih =>
  refine .ro es n nl c a cap hn hcm hnl (hz.to (fun k h=>by rw [← K.lo];exact h) fun k o _ _ cs e q=>(K.kind k cs e q).elim fun cs' q=>⟨cs',q.1⟩) u (fun hp=>?_) h1 ih hrf
  obtain ⟨k,o,h1,h2,h3⟩:=ha hp
  exact ⟨k,o,h1,K.prot _ h2,fun x y hx hy=>(cell?_same (K.same k h2)).trans (h3 x y hx hy)⟩
 | emp a=>exact .emp a
 | agg l vs hl h1 h ih=>exact .agg l vs hl h1 ih
 | tup l vs hl h ih=>exact .tup l vs hl ih
 | fn f l vs hl h ih=>exact .fn f l vs hl ih
 | mfn f l vs hl h ih=>exact .mfn f l vs hl ih
 | nilf=>exact .nilf
 | opt_t a v h ih=>exact .opt_t a v ih
 | opt_f a=>exact .opt_f a
 | ub b=>exact .ub b
 | val v h1=>exact .val v h1
 | mp m r clock es hp hb he=>exact .mp m r clock es (K.prot _ hp) ((K.same r hp).trans hb) he

/-! ### A new block -/
def upd (σ:Nat->Option (Nat × Nat)) (b:Nat) (x:Option (Nat × Nat)):Nat->Option (Nat × Nat):=fun i=>if i=b then x else σ i

theorem vP (σ:Nat->Option (Nat × Nat)) (b:Nat) (x:Option (Nat × Nat)):upd σ b x b=x:=by simp [upd]
theorem jW {σ:Nat->Option (Nat × Nat)} {b i:Nat} {x:Option (Nat × Nat)} (h:i ≠ b):upd σ b x i=σ i:=by simp [upd,h]

theorem tB (w:World) (o:Obj):(w.alloc o).heap[w.heap.size]? = some o:=by
 show (w.heap.push o)[w.heap.size]? = some o
 simp
theorem kA (w:World) (o:Obj) {k:Nat} (h:k < w.heap.size):(w.alloc o).heap[k]? = w.heap[k]?:=by
 show (w.heap.push o)[k]? = w.heap[k]?
 rw [Array.getElem?_push,if_neg (by omega)]
theorem yY {w:World} {k:Nat} {o:Obj} (h:w.heap[k]? = some o):k < w.heap.size:=by
 rcases Nat.lt_or_ge k w.heap.size with h'|h'
 ·exact h'
 ·rw [Array.getElem?_eq_none h'] at h;cases h

def Env.push (E:Env) (h:List ABlk) (o:Obj):Env:={ E with w:=E.w.alloc o,σ:=upd E.σ h.length (some (E.w.heap.size,0)) }

theorem BR.lt {E:Env} {b:Nat} {x:ABlk} {k o:Nat} (hx:x ≠ .dead) (h:BR E b x) (hs:E.σ b=some (k,o)):k < E.w.heap.size:=by
 cases x with
 | dead=>exact absurd rfl hx
 | lit e l =>
  obtain ⟨k',o',cs,h1,h2,_⟩:=h
  rw [hs] at h1;cases h1
  exact yY h2
 | row e es n c =>
  simp only [BR,hs] at h
  obtain ⟨cs,h2,_⟩:=h
  exact yY h2
 | mapb k0 m =>
  obtain ⟨h1,es,cl,h2,_⟩:=h
  rw [hs] at h1;cases h1
  exact yY h2

theorem HR.own_lt {E:Env} {h:List ABlk} (H:HR E h) {k:Nat} (ho:Own E h k):k < E.w.heap.size:=by
 obtain ⟨b,x,o,h1,h2,h3⟩:=ho
 exact (H.blk b x h1).lt h2 h3

theorem BR.mono {E E':Env} (K:Keep E E') {b:Nat} {x:ABlk} (h:BR E b x) (hσ:E'.σ b=E.σ b) (hk:∀ k o,E.σ b=some (k,o)->E'.w.heap[k]? = E.w.heap[k]?):BR E' b x:=by
 cases x with
 | dead=>trivial
 | lit e l =>
  obtain ⟨k,o,cs,h1,h2,h3,h4⟩:=h
  exact ⟨k,o,cs,K.σ _ _ h1,(hk k o h1).trans h2,h3,fun j a hj=>by obtain ⟨v,q1,q3,q2⟩:=h4 j a hj;exact ⟨v,q1,q3,q2.mono K⟩⟩
 | row e es n c =>
  unfold BR at h ⊢
  rw [hσ]
  cases hs:E.σ b with
  | none=>rw [hs] at h;exact h
  | some p =>
   rw [hs] at h
   obtain ⟨cs,h2,h3,h4⟩:=h
   exact ⟨cs,(hk p.1 p.2 hs).trans h2,h3,fun x y hx hy=>by obtain ⟨v,q1,q3,q2⟩:=h4 x y hx hy;exact ⟨v,q1,q3,q2.mono K⟩⟩
 | mapb k0 m =>
  obtain ⟨h1,es,cl,h2,h3⟩:=h
  exact ⟨K.σ _ _ h1,es,cl,(hk _ _ h1).trans h2,h3⟩

theorem keep_push {E:Env} {h:List ABlk} (H:HR E h) (o:Obj):Keep E (E.push h o) where
 σ:=fun b x hb=>by
  rw [Env.push];simp only
  rw [jW,hb]
  rintro rfl
  rw [H.fresh _ (Nat.le_refl _)] at hb
  cases hb
 prot:=fun k hk=>hk
 same:=fun k hk=>kA _ _ (H.prot k hk).1
 kind:=fun k cs e hk=>⟨cs,(kA _ _ (yY hk)).trans hk,rfl⟩
 lo:=rfl

theorem getElem?_snoc {α:Type} {l:List α} {x y:α} {b:Nat} (h:(l ++ [x])[b]? = some y):(b < l.length/\l[b]? = some y) ∨ (b=l.length/\y=x):=by
 rcases Nat.lt_or_ge b l.length with hb|hb
 ·rw [List.getElem?_append_left hb] at h;exact .inl ⟨hb,h⟩
 ·rw [List.getElem?_append_right hb] at h
  rcases Nat.eq_or_lt_of_le hb with e|e
  ·rw [← e,Nat.sub_self] at h;simp at h;exact .inr ⟨e.symm,h.symm⟩
  ·have:([x]:List α)[b - l.length]? = none:=by rw [List.getElem?_eq_none];simp;omega
   rw [this] at h;cases h

theorem push_HR {E:Env} {h:List ABlk} (H:HR E h) (cs:Array Value) (e:TypeId) (x:ABlk) (hx:BR (E.push h (.cells cs e)) h.length x) :
  HR (E.push h (.cells cs e)) (h ++ [x])/\Ext E h (E.push h (.cells cs e)) (h ++ [x]):=by
 have K:=keep_push H (.cells cs e)
 have hσ:∀ b,b < h.length->(E.push h (.cells cs e)).σ b=E.σ b:=fun b hb=>jW (by omega)
 have hnew:(E.push h (.cells cs e)).σ h.length=some (E.w.heap.size,0):=vP _ _ _
 have hold:∀ {b:Nat} {y:ABlk} {k o:Nat},h[b]? = some y->y ≠ .dead->E.σ b=some (k,o)->k < E.w.heap.size:=fun h1 h2 h3=>(H.blk _ _ h1).lt h2 h3
 have hown:∀ k,Own (E.push h (.cells cs e)) (h ++ [x]) k->Own E h k ∨ E.w.heap.size <= k:=by
  rintro k ⟨b,y,o,h1,h2,h3⟩
  rcases getElem?_snoc h1 with ⟨hb,h1⟩|⟨rfl,rfl⟩
  ·rw [hσ b hb] at h3;exact .inl ⟨b,y,o,h1,h2,h3⟩
  ·rw [hnew] at h3;cases h3;exact .inr (Nat.le_refl _)
 refine ⟨⟨fun b y hb=>?_,fun b b' y y' k o o' h1 h2 h3 h4 h5 h6=>?_,fun k hk=>?_,fun b hb=>?_,H.lo⟩,⟨rfl,rfl,rfl,K.σ,K.prot,by simp [Env.push],K.kind,fun k hk _=>kA _ _ hk,hown,by simp,hσ,fun _ h=>.inl h,rfl,fun _ h=>.inl h⟩⟩
 ·rcases getElem?_snoc hb with ⟨hl,hb⟩|⟨rfl,rfl⟩
  ·by_cases hd:y = .dead
   ·subst hd;trivial
   ·exact (H.blk b y hb).mono K (hσ b hl) fun k o hk=>kA _ _ (hold hb hd hk)
  ·exact hx
 ·rcases getElem?_snoc h1 with ⟨l1,g1⟩|⟨e1,e1'⟩<;>rcases getElem?_snoc h3 with ⟨l3,g3⟩|⟨e3,e3'⟩
  ·rw [hσ b l1] at h5;rw [hσ b' l3] at h6;exact H.inj b b' y y' k o o' g1 h2 g3 h4 h5 h6
  ·rw [hσ b l1] at h5;rw [e3,hnew] at h6;cases h6;exact absurd (hold g1 h2 h5) (by omega)
  ·rw [hσ b' l3] at h6;rw [e1,hnew] at h5;cases h5;exact absurd (hold g3 h4 h6) (by omega)
  ·rw [e1,e3]
 ·obtain ⟨h1,h2⟩:=H.prot k hk
  refine ⟨by simp [Env.push];omega,fun ho=>?_⟩
  rcases hown k ho with h|h
  ·exact h2 h
  ·omega
 ·rw [List.length_append,List.length_singleton] at hb
  exact (jW (by omega)).trans (H.fresh b (by omega))

/-! ### A turned block -/
def wT (w:World) (k:Nat) (cs:Array Value) (e:TypeId):World:={ w with heap:=w.heap.setIfInBounds k (.cells cs e (0,0)) }

theorem vA {w:World} {k:Nat} {cs:Array Value} {e:TypeId} (h:k < w.heap.size):(wT w k cs e).heap[k]? = some (.cells cs e (0,0)):=by
 simp [wT,h]
theorem vV {w:World} {k i:Nat} {cs:Array Value} {e:TypeId} (h:i ≠ k):(wT w k cs e).heap[i]? = w.heap[i]?:=by
 simp only [wT];rw [Array.getElem?_setIfInBounds_ne (Ne.symm h)]

theorem keep_put {E:Env} {h:List ABlk} (H:HR E h) {k:Nat} {cs cs':Array Value} {e:TypeId} (ho:Own E h k) (hk:E.w.heap[k]? = some (.cells cs e (0,0))) (hs:cs'.size=cs.size) :
  Keep E { E with w:=wT E.w k cs' e } where
 σ:=fun _ _ h=>h
 prot:=fun _ h=>h
 same:=fun i hi=>vV (by rintro rfl;exact (H.prot _ hi).2 ho)
 kind:=fun i c t hi=>by
  by_cases hik:i=k
  ·subst hik
   rw [hk] at hi;cases hi
   exact ⟨cs',vA (yY hk),hs⟩
  ·exact ⟨c,(vV hik).trans hi,rfl⟩
 lo:=rfl

theorem put_HR {E:Env} {h:List ABlk} (H:HR E h) {b k o:Nat} {x x':ABlk} {cs cs':Array Value} {e:TypeId} (hb:h[b]? = some x) (hx:x ≠ .dead) (hσ:E.σ b=some (k,o))
  (hk:E.w.heap[k]? = some (.cells cs e (0,0))) (hs:cs'.size=cs.size) (hx':BR { E with w:=wT E.w k cs' e } b x') :
  HR { E with w:=wT E.w k cs' e } (h.set b x')/\Ext E h { E with w:=wT E.w k cs' e } (h.set b x'):=by
 have ho:Own E h k:=⟨b,x,o,hb,hx,hσ⟩
 have K:=keep_put H ho hk hs
 have hlt:b < h.length:=by
  rcases Nat.lt_or_ge b h.length with h'|h'
  ·exact h'
  ·rw [List.getElem?_eq_none h'] at hb;cases hb
 have hget:∀ (i:Nat) (y:ABlk),(h.set b x')[i]? = some y->(i=b/\y=x') ∨ (i ≠ b/\h[i]? = some y):=by
  intro i y hi
  by_cases hib:i=b
  ·subst hib;rw [List.getElem?_set_self hlt] at hi;exact .inl ⟨rfl,(by injection hi with hi;exact hi.symm)⟩
  ·rw [List.getElem?_set_ne (Ne.symm hib)] at hi;exact .inr ⟨hib,hi⟩
 have hown:∀ i,Own { E with w:=wT E.w k cs' e } (h.set b x') i->Own E h i:=by
  rintro i ⟨c,y,q,h1,h2,h3⟩
  rcases hget c y h1 with ⟨rfl,rfl⟩|⟨hc,h1⟩
  ·have h3':E.σ c=some (i,q):=h3
   rw [hσ] at h3';cases h3';exact ho
  ·exact ⟨c,y,q,h1,h2,h3⟩
 refine ⟨⟨fun c y hc=>?_,fun c c' y y' i q q' h1 h2 h3 h4 h5 h6=>?_,fun i hi=>?_,fun c hc=>?_,H.lo⟩,⟨rfl,rfl,rfl,K.σ,K.prot,by simp [wT],K.kind,fun i hi hn=>vV (by rintro rfl;exact hn ho),fun i hi=>.inl (hown i hi),by simp,fun _ _=>rfl,fun _ h=>.inl h,rfl,fun _ h=>.inl h⟩⟩
 ·rcases hget c y hc with ⟨rfl,rfl⟩|⟨hcb,hc⟩
  ·exact hx'
  ·by_cases hd:y = .dead
   ·subst hd;trivial
   ·refine (H.blk c y hc).mono K rfl fun i q hi=>vV ?_
    rintro rfl
    exact hcb (H.inj c b y x i q o hc hd hb hx hi hσ)
 ·have g:∀ (c:Nat) (y:ABlk),(h.set b x')[c]? = some y->y ≠ .dead->∃ y0,h[c]? = some y0/\y0 ≠ .dead:=by
   intro c y hc hy
   rcases hget c y hc with ⟨rfl,rfl⟩|⟨_,hc⟩
   ·exact ⟨x,hb,hx⟩
   ·exact ⟨y,hc,hy⟩
  obtain ⟨y0,a1,a2⟩:=g c y h1 h2
  obtain ⟨y1,b1,b2⟩:=g c' y' h3 h4
  exact H.inj c c' y0 y1 i q q' a1 a2 b1 b2 h5 h6
 ·obtain ⟨h1,h2⟩:=H.prot i hi
  exact ⟨by simp [wT];exact h1,fun ho'=>h2 (hown i ho')⟩
 ·rw [List.length_set] at hc;exact H.fresh c hc

/-! ### A block given up; a number given anew -/
theorem kill_HR {E:Env} {h:List ABlk} (H:HR E h) (b:Nat):HR E (h.set b .dead)/\Ext E h E (h.set b .dead):=by
 have hget:∀ (i:Nat) (y:ABlk),(h.set b .dead)[i]? = some y->y ≠ .dead->h[i]? = some y/\i ≠ b:=by
  intro i y hi hy
  by_cases hib:i=b
  ·subst hib
   rcases Nat.lt_or_ge i h.length with hl|hl
   ·rw [List.getElem?_set_self hl] at hi;injection hi with hi;exact absurd hi.symm hy
   ·rw [List.getElem?_eq_none (by simp;exact hl)] at hi;cases hi
  ·rw [List.getElem?_set_ne (Ne.symm hib)] at hi;exact ⟨hi,hib⟩
 have hown:∀ k,Own E (h.set b .dead) k->Own E h k:=by
  rintro k ⟨c,y,o,h1,h2,h3⟩
  exact ⟨c,y,o,(hget c y h1 h2).1,h2,h3⟩
 refine ⟨⟨fun c y hc=>?_,fun c c' y y' k o o' h1 h2 h3 h4 h5 h6=>?_,fun k hk=>?_,fun c hc=>?_,H.lo⟩,⟨rfl,rfl,rfl,fun _ _ h=>h,fun _ h=>h,Nat.le_refl _,fun k cs e h=>⟨cs,h,rfl⟩,fun _ _ _=>rfl,fun k h=>.inl (hown k h),by simp,fun _ _=>rfl,fun _ h=>.inl h,rfl,fun _ h=>.inl h⟩⟩
 ·by_cases hy:y = .dead
  ·subst hy;trivial
  ·exact H.blk c y (hget c y hc hy).1
 ·exact H.inj c c' y y' k o o' (hget c y h1 h2).1 h2 (hget c' y' h3 h4).1 h4 h5 h6
 ·obtain ⟨h1,h2⟩:=H.prot k hk
  exact ⟨h1,fun ho=>h2 (hown k ho)⟩
 ·rw [List.length_set] at hc;exact H.fresh c hc

theorem move_HR {E:Env} {h:List ABlk} (H:HR E h) {b k o o':Nat} {x x':ABlk} (hb:h[b]? = some x) (hx:x ≠ .dead) (hσ:E.σ b=some (k,o))
  (hx':BR { E with σ:=upd E.σ h.length (some (k,o')) } h.length x') :
  HR { E with σ:=upd E.σ h.length (some (k,o')) } (h.set b .dead ++ [x'])/\Ext E h { E with σ:=upd E.σ h.length (some (k,o')) } (h.set b .dead ++ [x']):=by
 have ho:Own E h k:=⟨b,x,o,hb,hx,hσ⟩
 have hlt:b < h.length:=by
  rcases Nat.lt_or_ge b h.length with h'|h'
  ·exact h'
  ·rw [List.getElem?_eq_none h'] at hb;cases hb
 have hlen:(h.set b .dead).length=h.length:=List.length_set
 have hσ0:∀ (c:Nat) (y:Nat × Nat),E.σ c=some y->upd E.σ h.length (some (k,o')) c=some y:=by
  intro c y hc
  rw [jW,hc]
  rintro rfl
  rw [H.fresh _ (Nat.le_refl _)] at hc
  cases hc
 have K:Keep E { E with σ:=upd E.σ h.length (some (k,o')) }:=⟨hσ0,fun _ h=>h,fun _ _=>rfl,fun k cs e h=>⟨cs,h,rfl⟩,rfl⟩
 have hget:∀ (i:Nat) (y:ABlk),(h.set b .dead)[i]? = some y->y ≠ .dead->h[i]? = some y/\i ≠ b:=by
  intro i y hi hy
  by_cases hib:i=b
  ·subst hib
   rw [List.getElem?_set_self hlt] at hi;injection hi with hi;exact absurd hi.symm hy
  ·rw [List.getElem?_set_ne (Ne.symm hib)] at hi;exact ⟨hi,hib⟩
 have hσ':∀ c,c < h.length->upd E.σ h.length (some (k,o')) c=E.σ c:=fun c hc=>jW (by omega)
 have hnew:upd E.σ h.length (some (k,o')) h.length=some (k,o'):=vP _ _ _
 have hown:∀ i,Own { E with σ:=upd E.σ h.length (some (k,o')) } (h.set b .dead ++ [x']) i->Own E h i:=by
  rintro i ⟨c,y,q,h1,h2,h3⟩
  rcases getElem?_snoc h1 with ⟨hc,h1⟩|⟨rfl,rfl⟩
  ·rw [hlen] at hc
   have h3':upd E.σ h.length (some (k,o')) c=some (i,q):=h3
   rw [hσ' c hc] at h3'
   exact ⟨c,y,q,(hget c y h1 h2).1,h2,h3'⟩
  ·rw [hlen] at h3
   have h3':upd E.σ h.length (some (k,o')) h.length=some (i,q):=h3
   rw [hnew] at h3';cases h3';exact ho
 refine ⟨⟨fun c y hc=>?_,fun c c' y y' i q q' h1 h2 h3 h4 h5 h6=>?_,fun i hi=>?_,fun c hc=>?_,H.lo⟩,⟨rfl,rfl,rfl,K.σ,K.prot,Nat.le_refl _,K.kind,fun _ _ _=>rfl,fun i hi=>.inl (hown i hi),by simp,hσ',fun _ h=>.inl h,rfl,fun _ h=>.inl h⟩⟩
 ·rcases getElem?_snoc hc with ⟨hl,hc⟩|⟨rfl,rfl⟩
  ·by_cases hd:y = .dead
   ·subst hd;trivial
   ·exact (H.blk c y (hget c y hc hd).1).mono K (hσ' c (by omega)) fun _ _ _=>rfl
  ·rw [hlen];exact hx'
 ·have q5:upd E.σ h.length (some (k,o')) c=some (i,q):=h5
  have q6:upd E.σ h.length (some (k,o')) c'=some (i,q'):=h6
  rcases getElem?_snoc h1 with ⟨l1,g1⟩|⟨e1,e1'⟩<;>rcases getElem?_snoc h3 with ⟨l3,g3⟩|⟨e3,e3'⟩
  ·rw [hσ' c (by omega)] at q5;rw [hσ' c' (by omega)] at q6
   exact H.inj c c' y y' i q q' (hget _ _ g1 h2).1 h2 (hget _ _ g3 h4).1 h4 q5 q6
  ·rw [hσ' c (by omega)] at q5;rw [e3,hlen,hnew] at q6;cases q6
   exact absurd (H.inj c b y x k q o (hget _ _ g1 h2).1 h2 hb hx q5 hσ) (hget _ _ g1 h2).2
  ·rw [hσ' c' (by omega)] at q6;rw [e1,hlen,hnew] at q5;cases q5
   exact absurd (H.inj c' b y' x k q' o (hget _ _ g3 h4).1 h4 hb hx q6 hσ) (hget _ _ g3 h4).2
  ·rw [e1,e3]
 ·obtain ⟨h1,h2⟩:=H.prot i hi
  exact ⟨h1,fun ho'=>h2 (hown i ho')⟩
 ·rw [List.length_append,List.length_singleton,hlen] at hc
  exact (jW (by omega)).trans (H.fresh c (by omega))

theorem same_HR {E:Env} {h:List ABlk} (H:HR E h) (w':World) (hw:w'.heap=E.w.heap) (ho:w'.os=E.w.os) (ht:w'.tape=E.w.tape) (hp:w'.output=E.w.output) :
  HR { E with w:=w' } h/\Ext E h { E with w:=w' } h:=by
 have K:Keep E { E with w:=w' }:=⟨fun _ _ h=>h,fun _ h=>h,fun k _=>by simp only [hw],fun k cs e h=>⟨cs,by simp only [hw];exact h,rfl⟩,rfl⟩
 exact ⟨⟨fun b x hb=>(H.blk b x hb).mono K rfl fun k o _=>by simp only [hw],H.inj,fun k hk=>⟨by simp only [hw];exact (H.prot k hk).1,(H.prot k hk).2⟩,H.fresh,H.lo⟩,
  ⟨ho,ht,hp,K.σ,K.prot,by simp only [hw];exact Nat.le_refl _,K.kind,fun k _ _=>by simp only [hw],fun k h=>.inl h,Nat.le_refl _,fun _ _=>rfl,fun _ h=>.inl h,rfl,fun _ h=>.inl h⟩⟩
end Go.Am

namespace Go.Am
set_option linter.unusedVariables false

def tsz (P:Program) (t:TypeId):Option Nat:=(P.info? t).map (·.size)
def tby (P:Program) (t:TypeId):Option Nat:=(P.info? t).map (·.bytes)
def tagg (P:Program) (t:TypeId):Option Bool:=(P.underlying t).map fun|.struct _|.array _ _=>true|_=>false
def tslice (P:Program) (t:TypeId):Option TypeId:=match P.underlying t with|some (.slice e)=>some e|_=>none
def tarr (P:Program) (t:TypeId):Option (Nat × TypeId):=match P.underlying t with|some (.array n e)=>some (n,e)|_=>none
def tfld (P:Program) (t:TypeId) (f:Nat):Option (TypeId × Nat × Nat):=match P.underlying t with
 | some (.struct fs)=>match fs[f]? with
  | some x=>(tsz P x.type).map fun z=>(x.type,x.offset,z)
  | none=>none
 | _=>none

def atom:AV->Bool
 | .top|.agg _|.tup _|.opt _ _=>false
 | _=>true

def absV:Value->Option AV
 | .bool b=>some (.bool b)
 | .int k n=>some (.int k n)
 | .string s=>some (.str s)
 | .pointer none=>some .nilp
 | .slice none 0 0=>some (.ro 0 0 true fun _ _=>.top)
 | .nilFunc=>some .nilf
 | .map none=>some (.val (.map none))
 | _=>none
def absL:List Value->Option (List AV)
 | []=>some []
 | v::r=>match absV v,absL r with
  | some a,some l=>some (a::l)
  | _,_=>none
def absC (v:Value):AV:=match v with
 | .agg cs=>match absL cs.toList with
  | some l=>.agg l
  | none=>.top
 | v=>(absV v).getD .top
def tzero (P:Program) (t:TypeId):Option (List AV):=match P.info? t with
 | some i=>match i.zero with
  | some z=>absL z.cells.toList
  | none=>none
 | none=>none

def vcells:AV->List AV
 | .agg l=>l
 | v=>[v]

def vcOk:AV->Bool
 | .agg _=>true
 | v=>atom v
def tabF (f:Nat->AV):Nat->Nat->List AV
 | _,0=>[]
 | k,m+1=>f k::tabF f (k+1) m

def zL:List AV->Nat->AV
 | [],_=>.top
 | a::_,0=>a
 | _::l,n+1=>zL l n
def kG:List AV->Nat->AV->List AV
 | [],_,_=>[]
 | _::l,0,v=>v::l
 | a::l,n+1,v=>a::kG l n v
def putL:List AV->Nat->List AV->List AV
 | l,_,[]=>l
 | l,k,v::r=>putL (kG l k v) (k+1) r

def upc (c:Nat->Nat->AV) (i j:Nat) (vs:List AV):Nat->Nat->AV:=fun x y=>if x=i/\j <= y/\y < j+vs.length then zL vs (y - j) else c x y
def kD (n:Nat) (c d:Nat->Nat->AV):Nat->Nat->AV:=fun x y=>if x < n then c x y else d (x - n) y
def cP (z:Nat) (l:List AV):Nat->Nat->AV:=fun x y=>zL l (x * z+y)
def wL (i:Nat) (c:Nat->Nat->AV):Nat->Nat->AV:=fun x y=>c (i+x) y
def gB (s m:Nat) (c d:Nat->Nat->AV):Nat->Nat->AV:=fun x y=>if s <= x/\x < s+m then d (x - s) y else c x y
def innC (i j z:Nat) (c:Nat->Nat->AV):Nat->Nat->AV:=fun x y=>if y < z then c i (j+x * z+y) else .top
theorem cN {i j z x y:Nat} {c:Nat->Nat->AV} (h:y < z):innC i j z c x y=c i (j+x * z+y):=if_pos h
theorem innC_fl {i j z:Nat} {c:Nat->Nat->AV}:¬ Fl z (innC i j z c):=fun ⟨x,h⟩=>by
 unfold innC at h
 rw [if_neg (Nat.lt_irrefl z)] at h
 cases h
theorem subC_fl {i es:Nat} {c:Nat->Nat->AV} (h:Fl es (wL i c)):Fl es c:=h.elim fun x q=>⟨i+x,q⟩

inductive AR where
 | fail
 | pure (ob:Prop) (v:AV)
 | heap (ob:Prop) (v:AV) (h:List ABlk)

def geth:List ABlk->Nat->ABlk
 | [],_=>.dead
 | a::_,0=>a
 | _::l,n+1=>geth l n
def seth:List ABlk->Nat->ABlk->List ABlk
 | [],_,_=>[]
 | _::l,0,v=>v::l
 | a::l,n+1,v=>a::seth l n v

/-! ### Memory -/
def ldB (x:ABlk) (ag:Bool) (m es i j:Nat):AR:=match x with
 | .lit _ l=>bif ag then .pure (i * es+j+m <= l.length) (.agg (tabF (zL l) (i * es+j) m)) else .pure (i * es+j < l.length) (zL l (i * es+j))
 | .row _ es' n c=>bif ag then .pure (es'=es/\i < n/\j+m <= es) (.agg (tabF (c i) j m)) else .pure (es'=es/\i < n/\j < es) (c i j)
 | .mapb _ _=>.fail
 | .dead=>.fail
def jT (ag:Option Bool) (z:Option Nat) (p:AV) (h:List ABlk):AR:=match ag,z,p with
 | some ag,some m,.ptr b es i j=>ldB (geth h b) ag m es i j
 | some ag,some m,.rptr es n i j c=>bif ag then .pure (i < n/\j+m <= es) (.agg (tabF (c i) j m)) else .pure (i < n/\j < es) (c i j)
 | _,_,_=>.fail
def stB (x:ABlk) (vs:List AV) (es i j:Nat):Option (Prop × ABlk):=match x with
 | .lit e l=>some (i * es+j+vs.length <= l.length,.lit e (putL l (i * es+j) vs))
 | .row e es' n c=>some (es'=es/\i < n/\j+vs.length <= es,.row e es n (upc c i j vs))
 | .mapb _ _=>none
 | .dead=>none
def stRes (b:Nat) (h:List ABlk) (ok:Bool):Option (Prop × ABlk)->AR
 | some (ob,x)=>bif ok then .heap ob .top (seth h b x) else .fail
 | none=>.fail
def evStore (z:Option Nat) (p v:AV) (h:List ABlk):AR:=match z,p with
 | some m,.ptr b es i j=>stRes b h ((vcells v).length == m && vcOk v) (stB (geth h b) (vcells v) es i j)
 | _,_=>.fail
def evBox (t:TypeId) (v:AV) (h:List ABlk):AR:=bif vcOk v then .heap True (.ptr h.length 0 0 0) (h ++ [.lit t (vcells v)]) else .fail
def evAlloc (t:TypeId) (z:Option (List AV)) (h:List ABlk):AR:=match z with
 | some l=>.heap True (.ptr h.length 0 0 0) (h ++ [.lit t l])
 | none=>.fail

/-! ### Addresses and parts -/
def uZ (fl:Option (TypeId × Nat × Nat)) (p:AV):AR:=match fl,p with
 | some (_,off,z),.ptr b es i j=>.pure (z ≠ 0) (.ptr b es i (j+off))
 | some (_,off,z),.rptr es n i j c=>.pure (z ≠ 0) (.rptr es n i (j+off) c)
 | _,_=>.fail
def cH (ag:Option Bool) (fl:Option (TypeId × Nat × Nat)) (v:AV):AR:=match ag,fl,v with
 | some ag,some (_,off,z),.agg l=>bif ag then .pure (off+z <= l.length) (.agg (tabF (zL l) off z)) else .pure (off < l.length) (zL l off)
 | _,_,_=>.fail
def wA (sl:Option TypeId) (ar:Option (Nat × TypeId)) (z:Option Nat) (x ix:AV):AR:=match sl,ar,z,ix with
 | some _,_,some z,.int _ q=>match x with
  | .sl b es i n nl=>.pure (0 <= q/\q < n/\z=es) (.ptr b es (i+q.toNat) 0)
  | .isl b es i j z' n=>.pure (0 <= q/\q < n/\z'=z) (.ptr b es i (j+q.toNat * z))
  | .ro es n nl c=>.pure (0 <= q/\q < n/\z=es) (.rptr es n q.toNat 0 c)
  | _=>.fail
 | none,some (len,_),some z,.int _ q=>match x with
  | .ptr b es i j=>.pure (0 <= q/\q < len) (bif es == z then .ptr b es (i+q.toNat) j else bif es == 1 then .ptr b es (i+q.toNat * z) j else .ptr b es i (j+q.toNat * z))
  | .rptr es n i j c=>.pure (0 <= q/\q < len) (.rptr es n i (j+q.toNat * z) c)
  | _=>.fail
 | _,_,_,_=>.fail
def byteAt (s:ByteArray) (i:Nat):Int:=((s.data.getD i 0).toNat:Int)
def evIndexS (st:Bool) (x ix:AV):AR:=match st,x,ix with
 | true,.str s,.int _ q=>.pure (0 <= q/\q < s.size) (.int .u8 (byteAt s q.toNat))
 | _,_,_=>.fail
def jZ (ag:Option Bool) (ar:Option (Nat × TypeId)) (z:Option Nat) (x ix:AV):AR:=match x,ix with
 | .agg l,.int _ q=>match ag,ar,z with
  | some ag,some (len,_),some z=>bif ag then .pure (0 <= q/\q < len/\q.toNat * z+z <= l.length) (.agg (tabF (zL l) (q.toNat * z) z)) else .pure (0 <= q/\q < len/\q.toNat * z < l.length) (zL l (q.toNat * z))
  | _,_,_=>.fail
 | _,_=>.fail
def yO (x:Option AV) (d:Nat):Option Int:=match x with
 | none=>some d
 | some (.int _ q)=>some q
 | _=>none
def evSlice (sl:Option TypeId) (ar:Option (Nat × TypeId)) (z:Option Nat) (x:AV) (lo hi mx:Option AV):AR:=bif mx.isSome && hi.isNone then .fail else match sl,ar,z with
 | some _,_,some z=>match x with
  | .sl b es i n nl=>match yO lo 0,yO hi n,yO mx n with
   | some l,some u,some m=>.pure (0 <= l/\l <= u/\u <= m/\m <= n/\z=es) (.sl b es (i+l.toNat) (u.toNat - l.toNat) nl)
   | _,_,_=>.fail
  | .isl b es i j z' n=>match yO lo 0,yO hi n,yO mx n with
   | some l,some u,some m=>.pure (0 <= l/\l < u/\u <= m/\m <= n/\z'=z) (.isl b es i (j+l.toNat * z) z (u.toNat - l.toNat))
   | _,_,_=>.fail
  | .csl b es i n c=>match yO lo 0,yO hi n,yO mx c with
   | some l,some u,some m=>.pure (0 <= l/\l <= u/\u <= m/\m <= c/\z=es) (.csl b es (i+l.toNat) (u.toNat - l.toNat) (m.toNat - l.toNat))
   | _,_,_=>.fail
  | .ro es n nl c=>match mx with
   | some (.int _ 0)=>match yO lo 0,yO hi n with
    | some l,some u=>.pure (l=0/\u=0) .emp
    | _,_=>.fail
   | none=>match yO lo 0,yO hi n with
    | some l,some u=>.pure (0 <= l/\l <= u/\u <= n/\z=es) (.ro es (u.toNat - l.toNat) nl (wL l.toNat c))
    | _,_=>.fail
   | _=>.fail
  | _=>.fail
 | none,some (len,_),some z=>match x with
  | .ptr b es i j=>match yO lo 0,yO hi len,mx with
   | some l,some u,none=>.pure (0 <= l/\l < u/\u <= len/\len <= 4096) (.isl b es i (j+l.toNat * z) z (u.toNat - l.toNat))
   | _,_,_=>.fail
  | .rptr es n i j c=>match yO lo 0,yO hi len,mx with
   | some l,some u,none=>.pure (0 <= l/\l <= u/\u <= len/\i < n/\j+len * z <= es/\len <= 4096) (.ro z (u.toNat - l.toNat) false (innC i (j+l.toNat * z) z c))
   | _,_,_=>.fail
  | _=>.fail
 | _,_,_=>.fail

/-! ### Arithmetic and tests -/
def bLe (x y:Int):Bool:=decide (x <= y)
def bLt (x y:Int):Bool:=decide (x < y)
def bEq (x y:Int):Bool:=x == y
def sEq (x y:ByteArray):Bool:=x.toList == y.toList
def sLt (x y:ByteArray):Bool:=Op.bytesLess x.toList y.toList
def andI (k:IntKind) (x y:Int):Int:=k.wrap ((BitVec.ofInt k.bits x &&& BitVec.ofInt k.bits y).toNat:Int)
def orI (k:IntKind) (x y:Int):Int:=k.wrap ((BitVec.ofInt k.bits x ||| BitVec.ofInt k.bits y).toNat:Int)
def xorI (k:IntKind) (x y:Int):Int:=k.wrap ((BitVec.ofInt k.bits x ^^^ BitVec.ofInt k.bits y).toNat:Int)
def andNotI (k:IntKind) (x y:Int):Int:=k.wrap ((BitVec.ofInt k.bits x &&& ~~~BitVec.ofInt k.bits y).toNat:Int)
def shlI (k:IntKind) (x y:Int):Int:=k.wrap (x * 2 ^ min y.toNat k.bits)
def shrI (k:IntKind) (x y:Int):Int:=x.fdiv (2 ^ min y.toNat k.bits)
def wr (k:IntKind) (x:Int):Int:=k.wrap x
def evInt (op:BinOp) (k:IntKind) (x y:Int):AR:=match op with
 | .add=>.pure True (.int k (wr k (x+y)))
 | .sub=>.pure True (.int k (wr k (x - y)))
 | .mul=>.pure True (.int k (wr k (x * y)))
 | .quo=>.pure (y ≠ 0) (.int k (wr k (x.tdiv y)))
 | .rem=>.pure (y ≠ 0) (.int k (x.tmod y))
 | .and=>.pure True (.int k (andI k x y))
 | .or=>.pure True (.int k (orI k x y))
 | .xor=>.pure True (.int k (xorI k x y))
 | .andNot=>.pure True (.int k (andNotI k x y))
 | .eql=>.pure True (.bool (bEq x y))
 | .neq=>.pure True (.bool (!bEq x y))
 | .lss=>.pure True (.bool (bLt x y))
 | .leq=>.pure True (.bool (bLe x y))
 | .gtr=>.pure True (.bool (bLt y x))
 | .geq=>.pure True (.bool (bLe y x))
 | _=>.fail
def evStr (op:BinOp) (x y:ByteArray):AR:=match op with
 | .add=>.pure (((x.size+y.size:Nat):Int) <= 9223372036854775807) (.str (x ++ y))
 | .eql=>.pure True (.bool (sEq x y))
 | .neq=>.pure True (.bool (!sEq x y))
 | .lss=>.pure True (.bool (sLt x y))
 | .leq=>.pure True (.bool (sLt x y || sEq x y))
 | .gtr=>.pure True (.bool (!(sLt x y || sEq x y)))
 | .geq=>.pure True (.bool (!sLt x y))
 | _=>.fail
def bB (x y:Bool):Bool:=x == y
inductive Leaf where
 | i (k:IntKind)
 | b
 | s
 deriving DecidableEq
def bM:List Leaf->List AV->List AV->Option Bool
 | [],[],[]=>some true
 | .i k::h,.int k1 x::l,.int k2 y::m=>match k1 == k && k2 == k,bM h l m with
  | true,some r=>some (bEq x y && r)
  | _,_=>none
 | .b::h,.bool x::l,.bool y::m=>match bM h l m with
  | some r=>some (bB x y && r)
  | none=>none
 | .s::h,.str x::l,.str y::m=>match bM h l m with
  | some r=>some (sEq x y && r)
  | none=>none
 | _,_,_=>none
def eqRes (neg:Bool):Option Bool->AR
 | some b=>.pure True (.bool (bif neg then !b else b))
 | none=>.fail
def nilR (n:Nat) (nl:Bool):Option Bool:=match nl with
 | true=>some true
 | false=>match n with
  | 0=>none
  | _+1=>some false
def evUn (op:UnOp) (x:AV):AR:=match op,x with
 | .neg,.int k n=>.pure True (.int k (wr k (0 - n)))
 | .not,.bool b=>.pure True (.bool (!b))
 | _,_=>.fail
def tint (P:Program) (t:TypeId):Option IntKind:=match P.underlying t with|some (.int k)=>some k|_=>none
def tnoint (P:Program) (t:TypeId):Bool:=match P.underlying t with|some (.slice _)=>true|some .string=>true|_=>false
def tstr (P:Program) (t:TypeId):Bool:=match P.underlying t with|some .string=>true|_=>false
def bytesC (n:Nat) (c:Nat->Nat->AV):ByteArray:=⟨((List.range n).map fun i=>match c i 0 with|.int _ q=>q.toNat.toUInt8|_=>0).toArray⟩
def strC (s:ByteArray):Nat->Nat->AV:=fun x _=>.int .u8 (byteAt s x)
def u8Q:AV->Prop
 | .int .u8 q=>0 <= q/\q <= 255
 | _=>False

def evIndex2 (st:Bool) (ag:Option Bool) (ar:Option (Nat × TypeId)) (z:Option Nat) (x ix:AV):AR:=match x with
 | .str s=>evIndexS st (.str s) ix
 | x=>jZ ag ar z x ix
def eX (st:Bool) (s:ByteArray):Option Int->Option Int->Option AV->AR
 | some l,some u,none=>bif st then .pure (0 <= l/\l <= u/\u <= s.size) (.str (s.extract l.toNat u.toNat)) else .fail
 | _,_,_=>.fail
def evSlice2 (st:Bool) (sl:Option TypeId) (ar:Option (Nat × TypeId)) (z:Option Nat) (x:AV) (lo hi mx:Option AV):AR:=match x with
 | .str s=>eX st s (yO lo 0) (yO hi s.size) mx
 | x=>evSlice sl ar z x lo hi mx
def tbytes (P:Program) (t:TypeId):Bool:=match P.underlying t with
 | some (.slice e)=>match P.underlying e with
  | some (.int .u8)=>true
  | _=>false
 | _=>false
def mrg (c:Bool):AV->AV->AR
 | .bool x,.bool y=>.pure True (.bool (bif c then x else y))
 | .bool x,_=>bif c then .pure True (.bool x) else .fail
 | _,.bool y=>bif c then .fail else .pure True (.bool y)
 | _,_=>.fail
def evPick (c x y:AV):AR:=match c with
 | .bool c=>mrg c x y
 | _=>.fail
def evExtract (x:AV) (i:Nat):AR:=match x with
 | .tup l=>.pure (i < l.length) (zL l i)
 | _=>.fail
def avFn:Value->AV
 | .func (.func f) args caps=>bif args.isEmpty && caps.isEmpty then .fn f [] else .top
 | _=>.top
def avM:Value->AV
 | .agg vs=>bif vs.toList.all Value.oneCell' then .agg (vs.toList.map avFn) else .top
 | v=>avFn v
def hasM:List (Int × Value)->Int->Bool
 | [],_=>false
 | (k,_)::r,n=>bif bEq n k then true else hasM r n
def lkM:List (Int × Value)->Int->AV
 | [],_=>.top
 | (k,v)::r,n=>bif bEq n k then avM v else lkM r n
def tmap8 (P:Program) (t:TypeId):Bool:=match P.underlying t with
 | some (.map k _)=>(match P.underlying k with|some (.int .u8)=>true|_=>false)
 | _=>false
def evLookup (ok:Bool) (x k:AV) (two:Bool):AR:=match ok,x,k,two with
 | true,.mp m,.int .u8 n,false=>.pure (hasM m n=true) (lkM m n)
 | _,_,_,_=>.fail
def evConv (src:Option Bool) (k:Option IntKind) (x:AV):AR:=match src,k,x with
 | some _,some k,.int _ n=>.pure True (.int k (wr k n))
 | _,_,_=>.fail
def evNil (x:AV):AR:=match x with
 | .ptr _ _ _ _=>.pure True x
 | .rptr _ _ _ _ _=>.pure True x
 | .fn _ _=>.pure True x
 | _=>.fail

/-! ### Building -/
def fillA:List AV->List (Nat × Nat × AV)->List AV
 | l,[]=>l
 | l,(off,_,v)::r=>fillA (putL l off (vcells v)) r
def cJ (n:Nat):List (Nat × Nat × AV)->Bool
 | []=>true
 | (off,z,v)::r=>(vcells v).length == z && vcOk v && decide (off+z <= n) && cJ n r
def tplacesL (P:Program):List Field->Option (List (Nat × Nat))
 | []=>some []
 | f::r=>match tsz P f.type,tplacesL P r with
  | some z,some l=>some ((f.offset,z)::l)
  | _,_=>none
def tplaces (P:Program) (t:TypeId):Option (List (Nat × Nat)):=match P.underlying t with
 | some (.struct fs)=>tplacesL P fs.toList
 | _=>none
def getP:List (Nat × Nat)->Nat->Option (Nat × Nat)
 | [],_=>none
 | a::_,0=>some a
 | _::l,n+1=>getP l n
def eP (pl:List (Nat × Nat)) (ρ:Operand->AV):List (Nat × Operand)->Option (List (Nat × Nat × AV))
 | []=>some []
 | (i,x)::r=>match getP pl i,eP pl ρ r with
  | some (off,z),some l=>some ((off,z,ρ x)::l)
  | _,_=>none
def jU (z:Nat) (ρ:Operand->AV):List (Nat × Operand)->List (Nat × Nat × AV)
 | []=>[]
 | (i,x)::r=>(i * z,z,ρ x)::jU z ρ r
def gU (zero:Option (List AV)) (ps:Option (List (Nat × Nat × AV))):AR:=match zero,ps with
 | some l,some ps=>bif cJ l.length ps then .pure True (.agg (fillA l ps)) else .fail
 | _,_=>.fail
def fT (pl:Option (List (Nat × Nat))) (ar:Option (Nat × TypeId)) (z:Option Nat) (zero:Option (List AV)) (ρ:Operand->AV) (ps:List (Nat × Operand)):AR:=match pl,ar,z with
 | some pl,_,_=>gU zero (eP pl ρ ps)
 | none,some _,some z=>gU zero (some (jU z ρ ps))
 | _,_,_=>.fail
def repL (l:List AV):Nat->List AV
 | 0=>[]
 | n+1=>l ++ repL l n
def qY (e:Option TypeId) (z:Option Nat) (zero:Option (List AV)) (len:Nat) (ρ:Operand->AV) (ps:List (Nat × Operand)) (h:List ABlk):AR:=match e,z,zero with
 | some e,some z,some l=>bif l.length == z && decide (1 <= z) && decide (len * z <= 4096) && cJ (len * z) (jU z ρ ps) then .heap True (.sl h.length z 0 len false) (h ++ [.row e z len (cP z (fillA (repL l len) (jU z ρ ps)))]) else .fail
 | _,_,_=>.fail
def evMake (e:Option TypeId) (z by_:Option Nat) (zero:Option (List AV)) (n c:AV) (h:List ABlk):AR:=match e,z,by_,zero,n,c with
 | some e,some z,some by_,some l,.int .i64 n,.int .i64 c=>bif l.length == z && decide (1 <= z) then .heap (0 <= n/\n <= c/\(by_:Int) * c <= 140737488355328/\c <= 140737488355328) (.sl h.length z 0 n.toNat false) (h ++ [.row e z n.toNat fun _ y=>zL l y]) else .fail
 | _,_,_,_,_,_=>.fail

/-! ### Slices' contents -/
structure Src where
 ob:Prop
 n:Nat
 c:Nat->Nat->AV
def qO (z:Nat) (x:AV) (h:List ABlk):Option Src:=match x with
 | .sl b es i n nl=>match geth h b with
  | .row _ es' N c=>some ⟨es=z/\es'=z/\i+n <= N,n,wL i c⟩
  | _=>none
 | .csl b es i n _=>match geth h b with
  | .row _ es' N c=>some ⟨es=z/\es'=z/\i+n <= N,n,wL i c⟩
  | _=>none
 | .isl b es i j z' n=>match geth h b with
  | .lit _ l=>some ⟨z'=z/\i * es+j+n * z <= l.length,n,fun x y=>zL l (i * es+j+x * z+y)⟩
  | .row _ es' N c=>bif es == 1 && z == 1 then some ⟨z'=z/\es'=es/\i+j+n <= N,n,wL (i+j) c⟩ else some ⟨z'=z/\es'=es/\i < N/\j+n * z <= es,n,innC i j z c⟩
  | .mapb _ _=>none
  | .dead=>none
 | .ro es n nl c=>some ⟨(n=0 ∨ es=z),n,c⟩
 | .emp=>some ⟨True,0,fun _ _=>.top⟩
 | .str s=>some ⟨z=1,s.size,strC s⟩
 | _=>none
def cvS:Option Src->AR
 | some x=>.pure (x.ob/\∀ i,i < x.n->u8Q (x.c i 0)) (.str (bytesC x.n x.c))
 | none=>.fail
def evConv2 (src:Option Bool) (k:Option IntKind) (sb ds:Bool) (x:AV) (h:List ABlk):AR:=match x with
 | .int kx n=>evConv src k (.int kx n)
 | .str _=>.fail
 | x=>bif sb && ds then cvS (qO 1 x h) else .fail
def eJ (e:TypeId) (z by_:Nat) (s:AV) (x:Option Src) (h:List ABlk):AR:=match x with
 | some x=>match s with
  | .ro 0 0 true _=>.heap (x.ob/\(x.n:Int) * by_ <= 140737488355328/\x.n <= 140737488355328) (.sl h.length z 0 x.n (x.n == 0)) (h ++ [.row e z x.n x.c])
  | .emp=>.heap (x.ob/\(x.n:Int) * by_ <= 140737488355328/\0 < x.n/\x.n <= 140737488355328) (.sl h.length z 0 x.n false) (h ++ [.row e z x.n x.c])
  | .sl b es i n nl=>match geth h b with
   | .row e' es' N c=>.heap (x.ob/\e'=e/\es=z/\es'=z/\i+n <= N/\((n+x.n:Nat):Int) * by_ <= 140737488355328/\n+x.n <= 140737488355328) (.sl h.length z 0 (n+x.n) (nl && x.n == 0)) (seth h b .dead ++ [.row e z (n+x.n) (kD n (wL i c) x.c)])
   | _=>.fail
  | .csl b es i n cc=>match geth h b with
   | .row e' es' N c=>bif decide (n+x.n <= cc) then .heap (x.ob/\e'=e/\es=z/\es'=z/\i+n <= N) (.csl b es i (n+x.n) cc) (seth h b (.row e' es' (max N (i+n+x.n)) (gB (i+n) x.n c x.c))) else .heap (x.ob/\e'=e/\es=z/\es'=z/\i+n <= N/\((n+x.n:Nat):Int) * by_ <= 140737488355328/\n+x.n <= 140737488355328) (.sl h.length z 0 (n+x.n) false) (h ++ [.row e z (n+x.n) (kD n (wL i c) x.c)])
   | _=>.fail
  | _=>.fail
 | none=>.fail
def tzn (P:Program) (t:TypeId):Option Nat:=match P.info? t with
 | some i=>i.zero.map fun v=>v.cells.size
 | none=>none
def uK (st:Option TypeId) (xi:Bool) (z by_ zn:Option Nat) (s x:AV) (h:List ABlk):AR:=match st,z,by_,zn with
 | some e,some z,some by_,some zn=>bif xi && decide (1 <= z) && zn == z then eJ e z by_ s (qO z x h) h else .fail
 | _,_,_,_=>.fail
def lenS:AV->Option Nat
 | .sl _ _ _ n _=>some n
 | .csl _ _ _ n _=>some n
 | .isl _ _ _ _ _ n=>some n
 | .ro _ n _ _=>some n
 | .emp=>some 0
 | _=>none
def cutS (k:Nat):AV->AV
 | .sl b es i _ nl=>.sl b es i k nl
 | .csl b es i _ c=>.csl b es i k c
 | .isl b es i j z _=>.isl b es i j z k
 | .ro es _ nl c=>.ro es k nl c
 | x=>x
def tM (z b es i n m:Nat) (x:AV) (h:List ABlk):AR:=match qO z (cutS (min m n) x) h with
 | some s=>match geth h b with
  | .row e' es' N c=>.heap (s.ob/\es=z/\es'=z/\i <= N) (.int .i64 (min m n:Nat)) (seth h b (.row e' es' (max N (i+min m n)) (gB i (min m n) c s.c)))
  | _=>.fail
 | none=>.fail
def tabR (c:Nat->Nat->AV) (z:Nat):Nat->Nat->List AV
 | _,0=>[]
 | x,n+1=>tabF (c x) 0 z ++ tabR c z (x+1) n
def evCopyL (z b es i j z' n m:Nat) (x:AV) (h:List ABlk):AR:=match qO z (cutS n x) h with
 | some s=>match geth h b with
  | .lit e' l=>.heap (s.ob/\z'=z/\n <= m/\i * es+j+n * z <= l.length) (.int .i64 n) (seth h b (.lit e' (putL l (i * es+j) (tabR s.c z 0 n))))
  | _=>.fail
 | none=>.fail
def qF (z:Option Nat) (d x:AV) (h:List ABlk):AR:=match z with
 | some z=>match lenS x with
  | some m=>bif decide (1 <= z) then (match d with
   | .sl b es i n _=>tM z b es i n m x h
   | .csl b es i n _=>tM z b es i n m x h
   | .isl b es i j z' n=>evCopyL z b es i j z' n m x h
   | _=>.fail) else .fail
  | none=>.fail
 | none=>.fail
def gV (b es i n:Nat) (l:List AV) (h:List ABlk):AR:=match geth h b with
 | .row e' es' N c=>.heap (es=l.length/\es'=l.length/\i <= N) .top (seth h b (.row e' es' (max N (i+n)) (gB i n c fun _ y=>zL l y)))
 | _=>.fail
def jE (l:Option (List AV)) (x:AV) (h:List ABlk):AR:=match l with
 | some l=>bif decide (1 <= l.length) then (match x with
  | .sl b es i n _=>gV b es i n l h
  | .csl b es i n _=>gV b es i n l h
  | _=>.fail) else .fail
 | none=>.fail
def evCap (st:Option TypeId) (x:AV):AR:=match st with
 | some _=>match x with
  | .csl _ _ _ _ c=>.pure True (.int .i64 c)
  | _=>.fail
 | none=>.fail
def jS (st:Option TypeId) (xi:Bool) (z by_:Option Nat) (zl:Option (List AV)) (s x:AV) (h:List ABlk):AR:=match st,z,by_,zl,s,x with
 | some e,some z,some by_,some l,.csl b es i n cc,.int .i64 m=>match geth h b with
  | .row e' es' N c=>bif xi && z == l.length && decide (1 <= l.length) && decide (cc < n+m.toNat) then .heap (0 <= m/\e'=e/\es=l.length/\es'=l.length/\i+n <= N/\((n+m.toNat:Nat):Int) * by_ <= 140737488355328/\n+m.toNat <= 140737488355328) (.sl h.length l.length 0 (n+m.toNat) false) (h ++ [.row e l.length (n+m.toNat) (kD n (wL i c) fun _ y=>zL l y)]) else .fail
  | _=>.fail
 | _,_,_,_,_,_=>.fail
def tintk (P:Program) (t:TypeId):Bool:=match P.underlying t with
 | some (.int _)=>true
 | _=>false
def minI (x y:Int):Int:=if y < x then y else x
def maxI (x y:Int):Int:=if y > x then y else x
end Go.Am

namespace Go.Am
set_option linter.unusedVariables false

theorem xG (k o q:Nat):(⟨k,o,none⟩:Addr).add q = ⟨k,o+q,none⟩:=by
 unfold Addr.add;split
 ·rename_i h;subst h;rfl
 ·rfl

theorem zP {h:List ABlk} {b:Nat} (hx:geth h b ≠ .dead):h[b]? = some (geth h b):=by
 induction h generalizing b with
 | nil=>exact absurd rfl hx
 | cons a l ih =>
  cases b with
  | zero=>rfl
  | succ b=>simp only [geth] at hx ⊢;rw [List.getElem?_cons_succ];exact ih hx
theorem wK (h:List ABlk) (b:Nat) (x:ABlk):seth h b x=h.set b x:=by
 induction h generalizing b with
 | nil=>rfl
 | cons a l ih=>cases b with
  | zero=>rfl
  | succ b=>simp only [seth,List.set_cons_succ,ih]
theorem yZ {l:List AV} {j:Nat} (h:j < l.length):l[j]? = some (zL l j):=by
 induction l generalizing j with
 | nil=>simp at h
 | cons a l ih=>cases j with
  | zero=>rfl
  | succ j=>simp only [zL,List.getElem?_cons_succ];exact ih (by simpa using h)
theorem cL {l:List AV} {j:Nat} {a:AV} (h:l[j]? = some a):zL l j=a:=by
 have hl:j < l.length:=by
  rcases Nat.lt_or_ge j l.length with h'|h'
  ·exact h'
  ·rw [List.getElem?_eq_none h'] at h;cases h
 rw [yZ hl] at h;injection h
theorem hY {l:List AV} {j:Nat} (h:l.length <= j):zL l j = .top:=by
 induction l generalizing j with
 | nil=>rfl
 | cons a l ih=>cases j with
  | zero=>simp at h
  | succ j=>simp only [zL];exact ih (by simpa using h)
theorem setL_set (l:List AV) (j:Nat) (v:AV):kG l j v=l.set j v:=by
 induction l generalizing j with
 | nil=>rfl
 | cons a l ih=>cases j with
  | zero=>rfl
  | succ j=>simp only [kG,List.set_cons_succ,ih]
theorem qQ (f:Nat->AV) (k m:Nat):(tabF f k m).length=m:=by
 induction m generalizing k with
 | zero=>rfl
 | succ m ih=>simp only [tabF,List.length_cons,ih]
theorem tabF_get (f:Nat->AV) (k m q:Nat) (h:q < m):(tabF f k m)[q]? = some (f (k+q)):=by
 induction m generalizing k q with
 | zero=>omega
 | succ m ih=>cases q with
  | zero=>rfl
  | succ q=>simp only [tabF,List.getElem?_cons_succ];rw [ih (k+1) q (by omega)];congr 2;omega

section
variable {P:Program} {E:Env} {h:List ABlk}

theorem und_of_tagg {t:TypeId} {b:Bool} (ht:tagg P t=some b):∃ d,P.underlying t=some d/\(match d with|.struct _|.array _ _=>true|_=>false)=b:=by
 unfold tagg at ht
 cases hu:P.underlying t with
 | none=>rw [hu] at ht;cases ht
 | some d=>rw [hu] at ht;exact ⟨d,rfl,by injection ht⟩
theorem run_isAgg {t:TypeId} {b:Bool} (ht:tagg P t=some b) (w:World):(isAgg t).run P w = .ok b w:=by
 obtain ⟨d,hu,hd⟩:=und_of_tagg ht
 unfold isAgg
 rw [Sem.run_bind,run_underlying hu w]
 cases d<;>simp_all
theorem xL {t:TypeId} {z:Nat} (ht:tsz P t=some z) (w:World):(sizeOf t).run P w = .ok z w:=by
 unfold tsz at ht
 cases hi:P.info? t with
 | none=>rw [hi] at ht;cases ht
 | some i=>rw [hi] at ht;simp [sizeOf,typeInfo,hi];injection ht
theorem info_of_tsz {t:TypeId} {z:Nat} (ht:tsz P t=some z):∃ i,P.info? t=some i/\i.size=z:=by
 unfold tsz at ht
 cases hi:P.info? t with
 | none=>rw [hi] at ht;cases ht
 | some i=>rw [hi] at ht;exact ⟨i,rfl,by injection ht⟩
theorem info_of_tby {t:TypeId} {z:Nat} (ht:tby P t=some z):∃ i,P.info? t=some i/\i.bytes=z:=by
 unfold tby at ht
 cases hi:P.info? t with
 | none=>rw [hi] at ht;cases ht
 | some i=>rw [hi] at ht;exact ⟨i,rfl,by injection ht⟩
theorem yT {t e:TypeId} (ht:tslice P t=some e):P.underlying t=some (.slice e):=by
 unfold tslice at ht
 split at ht
 ·injection ht with ht;subst ht;assumption
 ·cases ht
theorem eA {t e:TypeId} {n:Nat} (ht:tarr P t=some (n,e)):P.underlying t=some (.array n e):=by
 unfold tarr at ht
 split at ht
 ·injection ht with ht;cases ht;assumption
 ·cases ht

def readAt (w:World) (a:Addr) (m:Nat):Value:=.agg ((List.range m).map fun q=>(w.cell? (a.add q)).getD undef).toArray

theorem run_loadVar_agg {t:TypeId} {m:Nat} {a:Addr} {w:World} (ht:tagg P t=some true) (hz:tsz P t=some m) (hc:∀ q,q < m->∃ v,w.cell? (a.add q)=some v) :
  (loadVar t a).run P w = .ok (readAt w a m) w:=by
 have hl:=run_loadCells (P:=P) w a m (fun q=>(w.cell? (a.add q)).getD undef) (fun q hq=>by obtain ⟨v,hv⟩:=hc q hq;simp [hv])
 unfold loadVar
 simp [Sem.run_bind,run_isAgg ht,xL hz,hl,readAt]
theorem run_loadVar_one {t:TypeId} {a:Addr} {w:World} {v:Value} (ht:tagg P t=some false) (hc:w.cell? a=some v) :
  (loadVar t a).run P w = .ok v w:=by
 unfold loadVar
 simp [Sem.run_bind,run_isAgg ht,hc]

theorem run_loadAt_agg {t:TypeId} {m:Nat} {a:Addr} {w:World} (ht:tagg P t=some true) (hz:tsz P t=some m) (hc:∀ q,q < m->∃ v,w.cell? (a.add q)=some v) :
  (Instr.loadAt t (.pointer (some a))).run P w = .ok (readAt w a m) w:=by
 simp only [Instr.loadAt,Instr.sureAddr,Sem.run_bind,Sem.run_pure,Result.andThen_ok]
 exact run_loadVar_agg ht hz hc
theorem run_loadAt_one {t:TypeId} {a:Addr} {w:World} {v:Value} (ht:tagg P t=some false) (hc:w.cell? a=some v) :
  (Instr.loadAt t (.pointer (some a))).run P w = .ok v w:=by
 simp only [Instr.loadAt,Instr.sureAddr,Sem.run_bind,Sem.run_pure,Result.andThen_ok]
 exact run_loadVar_one ht hc

theorem VR_readAt {a:Addr} {m k:Nat} {f:Nat->AV} (hc:∀ q,q < m->∃ v,E.w.cell? (a.add q)=some v/\v.oneCell'=true/\VR E (f (k+q)) v):VR E (.agg (tabF f k m)) (readAt E.w a m):=by
 have hget:∀ (i:Nat) (v:Value),(((List.range m).map fun q=>(E.w.cell? (a.add q)).getD undef).toArray)[i]? = some v->i < m/\E.w.cell? (a.add i)=some v:=by
  intro i v hv
  rcases Nat.lt_or_ge i m with hi|hi
  ·obtain ⟨u,hu,_⟩:=hc i hi
   rw [List.getElem?_toArray,List.getElem?_map,List.getElem?_range hi,Option.map_some,hu] at hv
   simp at hv
   exact ⟨hi,by rw [hu,hv]⟩
  ·rw [List.getElem?_toArray,List.getElem?_eq_none (by simp;exact hi)] at hv;cases hv
 refine .agg _ _ (by simp [qQ]) (fun i v hv=>?_) (fun i x v hx hv=>?_)
 ·obtain ⟨hi,hv⟩:=hget i v hv
  obtain ⟨u,hu,h1,_⟩:=hc i hi
  rw [hu] at hv;injection hv with hv;rw [← hv];exact h1
 ·obtain ⟨hi,hv⟩:=hget i v hv
  obtain ⟨u,hu,_,h2⟩:=hc i hi
  rw [hu] at hv;injection hv with hv
  rw [tabF_get f k m i hi] at hx
  injection hx with hx
  rw [← hv,← hx];exact h2

theorem cell_of {w:World} {k o:Nat} {cs:Array Value} {e:TypeId} {fz:Nat × Nat} (hk:w.heap[k]? = some (.cells cs e fz)):w.cell? ⟨k,o,none⟩=cs[o]?:=by
 simp [World.cell?,hk]

theorem fX {b k o:Nat} {e:TypeId} {l:List AV} (H:HR E h) (hb:geth h b = .lit e l) (hs:E.σ b=some (k,o)) :
  ∀ q,q < l.length->∃ v,E.w.cell? ⟨k,o+q,none⟩=some v/\v.oneCell'=true/\VR E (zL l q) v:=by
 intro q hq
 have hx:=H.blk b _ (zP (h:=h) (b:=b) (by rw [hb];exact fun e=>by cases e))
 rw [hb] at hx
 obtain ⟨k',o',cs,h1,h2,h3,h4⟩:=hx
 rw [hs] at h1;cases h1
 obtain ⟨v,q1,q2,q3⟩:=h4 q _ (yZ hq)
 exact ⟨v,(cell_of h2).trans q1,q2,q3⟩
theorem vU {b k o n es:Nat} {e:TypeId} {c:Nat->Nat->AV} (H:HR E h) (hb:geth h b = .row e es n c) (hs:E.σ b=some (k,o)) :
  ∀ x y,x < n->y < es->∃ v,E.w.cell? ⟨k,o+x * es+y,none⟩=some v/\v.oneCell'=true/\VR E (c x y) v:=by
 intro x y hx hy
 have hr:=H.blk b _ (zP (h:=h) (b:=b) (by rw [hb];exact fun e=>by cases e))
 rw [hb] at hr
 unfold BR at hr
 rw [hs] at hr
 obtain ⟨cs,h2,h3,h4⟩:=hr
 obtain ⟨v,q1,q2,q3⟩:=h4 x y hx hy
 exact ⟨v,(cell_of h2).trans q1,q2,q3⟩

theorem cell_lt {w:World} {a:Addr} {v:Value} (h:w.cell? a=some v):a.block < w.heap.size:=by
 rcases Nat.lt_or_ge a.block w.heap.size with h'|h'
 ·exact h'
 ·simp [World.cell?,Array.getElem?_eq_none h'] at h
theorem run_loadAt_agg' {t:TypeId} {m:Nat} {a:Addr} {w w1:World} (ht:tagg P t=some true) (hz:tsz P t=some m) (hc:∀ q,q < m->∃ v,w.cell? (a.add q)=some v) (hs:∀ k,k < w.heap.size->w1.heap[k]? = w.heap[k]?) :
  (Instr.loadAt t (.pointer (some a))).run P w1 = .ok (readAt w a m) w1:=by
 have hc1:∀ q,q < m->w1.cell? (a.add q)=w.cell? (a.add q):=fun q hq=>by
  obtain ⟨v,hv⟩:=hc q hq
  exact cell?_same (hs _ (cell_lt hv))
 rw [show readAt w a m=readAt w1 a m from by
  unfold readAt
  congr 2
  apply List.map_congr_left
  intro q hq
  rw [hc1 q (List.mem_range.1 hq)]]
 exact run_loadAt_agg ht hz fun q hq=>by rw [hc1 q hq];exact hc q hq
theorem run_loadAt_one' {t:TypeId} {a:Addr} {w w1:World} {v:Value} (ht:tagg P t=some false) (hc:w.cell? a=some v) (hs:∀ k,k < w.heap.size->w1.heap[k]? = w.heap[k]?) :
  (Instr.loadAt t (.pointer (some a))).run P w1 = .ok v w1 :=
 run_loadAt_one ht ((cell?_same (hs _ (cell_lt hc))).trans hc)
theorem load_sound {t:TypeId} {p v:AV} {u:Value} {ob:Prop} (H:HR E h) (hp:VR E p u) (hr:jT (tagg P t) (tsz P t) p h = .pure ob v) (hob:ob) :
  ∃ r,(∀ w1,(∀ k,k < E.w.heap.size->w1.heap[k]? = E.w.heap[k]?)->(Instr.loadAt t u).run P w1 = .ok r w1)/\VR E v r:=by
 cases ht:tagg P t with
 | none=>rw [ht] at hr;simp only [jT] at hr;cases hr
 | some ag =>
 cases hz:tsz P t with
 | none=>rw [ht,hz] at hr;cases p<;>simp only [jT] at hr<;>cases hr
 | some m =>
 rw [ht,hz] at hr
 cases hp with
 | ptr b es i j k o hs =>
  simp only [jT,ldB] at hr
  cases hb:geth h b with
  | dead=>rw [hb] at hr;cases hr
  | mapb _ _=>rw [hb] at hr;cases hr
  | lit e l =>
   have hc:=fX H hb hs
   rw [hb] at hr
   cases ag with
   | true =>
    simp only [cond_true,AR.pure.injEq] at hr
    obtain ⟨rfl,rfl⟩:=hr
    have hq:∀ q,q < m->∃ v,E.w.cell? ((⟨k,o+i * es+j,none⟩:Addr).add q)=some v/\v.oneCell'=true/\VR E (zL l (i * es+j+q)) v:=fun q hq=>by
     rw [xG,show o+i * es+j+q=o+(i * es+j+q) from by omega]
     exact hc (i * es+j+q) (by omega)
    exact ⟨_,fun w1 hw=>run_loadAt_agg' ht hz (fun q h=>(hq q h).imp fun v h=>h.1) hw,VR_readAt hq⟩
   | false =>
    simp only [cond_false,AR.pure.injEq] at hr
    obtain ⟨rfl,rfl⟩:=hr
    obtain ⟨v,h1,h2,h3⟩:=hc (i * es+j) hob
    exact ⟨v,fun w1 hw=>run_loadAt_one' ht (by rw [show o+i * es+j=o+(i * es+j) from by omega];exact h1) hw,h3⟩
  | row e es' n c =>
   have hc:=vU H hb hs
   rw [hb] at hr
   cases ag with
   | true =>
    simp only [cond_true,AR.pure.injEq] at hr
    obtain ⟨rfl,rfl⟩:=hr
    obtain ⟨rfl,hi,hj⟩:=hob
    have hq:∀ q,q < m->∃ v,E.w.cell? ((⟨k,o+i * es'+j,none⟩:Addr).add q)=some v/\v.oneCell'=true/\VR E (c i (j+q)) v:=fun q hq=>by
     rw [xG,show o+i * es'+j+q=o+i * es'+(j+q) from by omega]
     exact hc i (j+q) hi (by omega)
    exact ⟨_,fun w1 hw=>run_loadAt_agg' ht hz (fun q h=>(hq q h).imp fun v h=>h.1) hw,VR_readAt hq⟩
   | false =>
    simp only [cond_false,AR.pure.injEq] at hr
    obtain ⟨rfl,rfl⟩:=hr
    obtain ⟨rfl,hi,hj⟩:=hob
    obtain ⟨v,h1,h2,h3⟩:=hc i j hi hj
    exact ⟨v,fun w1 hw=>run_loadAt_one' ht h1 hw,h3⟩
 | rptr es n i j k o c us hpr hu h1 hc hrf =>
  simp only [jT] at hr
  cases ag with
  | true =>
   simp only [cond_true,AR.pure.injEq] at hr
   obtain ⟨rfl,rfl⟩:=hr
   obtain ⟨hi,hj⟩:=hob
   have hq:∀ q,q < m->∃ v,E.w.cell? ((⟨k,o+i * es+j,none⟩:Addr).add q)=some v/\v.oneCell'=true/\VR E (c i (j+q)) v:=fun q hq=>by
    rw [xG,show o+i * es+j+q=o+i * es+(j+q) from by omega]
    exact ⟨_,hu i (j+q) hi (by omega),h1 _ _ hi (by omega),hc _ _ hi (by omega)⟩
   exact ⟨_,fun w1 hw=>run_loadAt_agg' ht hz (fun q h=>(hq q h).imp fun v h=>h.1) hw,VR_readAt hq⟩
  | false =>
   simp only [cond_false,AR.pure.injEq] at hr
   obtain ⟨rfl,rfl⟩:=hr
   obtain ⟨hi,hj⟩:=hob
   exact ⟨_,fun w1 hw=>run_loadAt_one' ht (hu i j hi hj) hw,hc i j hi hj⟩
 | _=>simp only [jT] at hr;cases hr

/-! ### Stores and new variables -/
theorem VR_one {a:AV} {v:Value} (ha:atom a=true) (hv:VR E a v):v.oneCell'=true:=by
 cases hv<;>first|rfl|assumption|(simp [atom] at ha)
theorem VR_cells {a:AV} {v:Value} (ha:vcOk a=true) (hv:VR E a v) :
  v.cells.size=(vcells a).length/\∀ (q:Nat) (x:AV),(vcells a)[q]? = some x->∃ u,v.cells[q]? = some u/\u.oneCell'=true/\VR E x u:=by
 have one:atom a=true->vcells a=[a]->v.cells = #[v]->v.cells.size=(vcells a).length/\∀ (q:Nat) (x:AV),(vcells a)[q]? = some x->∃ u,v.cells[q]? = some u/\u.oneCell'=true/\VR E x u:=by
  intro h1 h2 h3
  rw [h2,h3]
  refine ⟨rfl,fun q x hx=>?_⟩
  cases q with
  | zero=>simp at hx;subst hx;exact ⟨v,rfl,VR_one h1 hv,hv⟩
  | succ q=>simp at hx
 cases hv with
 | agg l vs hl h1 h2 =>
  refine ⟨hl.symm,fun q x hx=>?_⟩
  have hq:q < vs.size:=by
   rcases Nat.lt_or_ge q l.length with h'|h'
   ·omega
   ·have hx':l[q]? = some x:=hx
    rw [List.getElem?_eq_none h'] at hx';cases hx'
  exact ⟨vs[q],Array.getElem?_eq_getElem hq,h1 q _ (Array.getElem?_eq_getElem hq),h2 q x _ hx (Array.getElem?_eq_getElem hq)⟩
 | val v h1=>exact one rfl rfl (by cases v<;>first|rfl|(simp [Value.oneCell'] at h1))
 | _=>first|exact one rfl rfl rfl|(simp [vcOk,atom] at ha)

theorem box_HR {t:TypeId} {a:AV} {v:Value} (H:HR E h) (ha:vcOk a=true) (hv:VR E a v) :
  HR (E.push h (.cells v.cells t)) (h ++ [.lit t (vcells a)])/\Ext E h (E.push h (.cells v.cells t)) (h ++ [.lit t (vcells a)]):=by
 obtain ⟨h1,h2⟩:=VR_cells ha hv
 refine push_HR H v.cells t _ ⟨E.w.heap.size,0,v.cells,vP _ _ _,tB _ _,by omega,fun j x hj=>?_⟩
 obtain ⟨u,q1,q2,q3⟩:=h2 j x hj
 exact ⟨u,by rw [Nat.zero_add];exact q1,q2,q3.mono (keep_push H _)⟩

theorem VR_push_ptr {o:Obj}:VR (E.push h o) (.ptr h.length 0 0 0) (.pointer (some ⟨E.w.heap.size,0,none⟩)):=by
 have:=VR.ptr (E:=E.push h o) h.length 0 0 0 E.w.heap.size 0 (vP _ _ _)
 simpa using this

theorem run_box (t:TypeId) (v:Value) (w:World):(Instr.box t v).run P w = .ok (.pointer (some ⟨w.heap.size,0,none⟩)) (w.alloc (.cells v.cells t)):=rfl

theorem absV_sound {v:Value} {a:AV} (hv:absV v=some a):VR E a v/\atom a=true:=by
 unfold absV at hv
 split at hv<;>first|(injection hv with hv;subst hv)|cases hv
 ·exact ⟨.bool _,rfl⟩
 ·exact ⟨.int _ _,rfl⟩
 ·exact ⟨.str _,rfl⟩
 ·exact ⟨.nilp,rfl⟩
 ·exact ⟨.ro 0 0 true _ none 0 (Nat.le_refl _) (by simp [maxLen]) (fun _=>rfl) (zr0 rfl) (fun _ _=>undef) (fun h=>absurd h (by omega)) (fun x y hx=>absurd hx (by omega)) (fun x y hx=>absurd hx (by omega)) (fun x y hx=>absurd hx (by omega)),rfl⟩
 ·exact ⟨.nilf,rfl⟩
 ·exact ⟨.val _ rfl,rfl⟩
theorem absL_sound {l:List Value} {m:List AV} (hl:absL l=some m):m.length=l.length/\∀ (i:Nat) (a:AV) (v:Value),m[i]? = some a->l[i]? = some v->VR E a v/\atom a=true:=by
 induction l generalizing m with
 | nil=>simp only [absL] at hl;injection hl with hl;subst hl;exact ⟨rfl,fun i a v h=>by simp at h⟩
 | cons v r ih =>
  simp only [absL] at hl
  split at hl
  ·rename_i a l' ha hr
   injection hl with hl;subst hl
   obtain ⟨h1,h2⟩:=ih hr
   refine ⟨by simp [h1],fun i x y hx hy=>?_⟩
   cases i with
   | zero=>simp at hx hy;subst hx hy;exact absV_sound ha
   | succ i=>exact h2 i x y (by simpa using hx) (by simpa using hy)
  ·cases hl
theorem absC_sound (v:Value):VR E (absC v) v:=by
 unfold absC
 split
 ·rename_i cs
  cases hl:absL cs.toList with
  | none=>exact .top _
  | some l =>
   obtain ⟨h1,h2⟩:=absL_sound (E:=E) hl
   refine .agg _ _ (by simpa using h1) (fun i v hv=>?_) (fun i a v ha hv=>(h2 i a v ha (by simpa using hv)).1)
   have hi:i < l.length:=by
    rw [h1];rcases Nat.lt_or_ge i cs.toList.length with h'|h'
    ·exact h'
    ·have:cs.toList[i]? = some v:=by simpa using hv
     rw [List.getElem?_eq_none h'] at this;cases this
   have:=h2 i _ v (List.getElem?_eq_getElem hi) (by simpa using hv)
   exact VR_one this.2 this.1
 ·cases hv:absV v with
  | none=>exact .top _
  | some a=>exact (absV_sound hv).1

theorem zero_of {t:TypeId} {l:List AV} (hz:tzero P t=some l):∃ i z,P.info? t=some i/\i.zero=some z/\absL z.cells.toList=some l:=by
 unfold tzero at hz
 split at hz
 ·rename_i i hi
  split at hz
  ·rename_i z hz';exact ⟨i,z,hi,hz',hz⟩
  ·cases hz
 ·cases hz
theorem vX {t:TypeId} {i:TypeInfo} {z:Value} (hi:P.info? t=some i) (hz:i.zero=some z) (w:World):(zeroValue t).run P w = .ok z w:=by
 simp [zeroValue,typeInfo,hi,hz]

theorem alloc_HR {t:TypeId} {l:List AV} {z:Value} (H:HR E h) (hz:absL z.cells.toList=some l) :
  HR (E.push h (.cells z.cells t)) (h ++ [.lit t l])/\Ext E h (E.push h (.cells z.cells t)) (h ++ [.lit t l]):=by
 obtain ⟨h1,h2⟩:=absL_sound (E:=E.push h (.cells z.cells t)) hz
 refine push_HR H z.cells t _ ⟨E.w.heap.size,0,z.cells,vP _ _ _,tB _ _,by simp at h1;omega,fun j x hj=>?_⟩
 have hj':j < z.cells.toList.length:=by
  rw [← h1];rcases Nat.lt_or_ge j l.length with h'|h'
  ·exact h'
  ·rw [List.getElem?_eq_none h'] at hj;cases hj
 obtain ⟨q1,q2⟩:=h2 j x _ hj (List.getElem?_eq_getElem hj')
 refine ⟨z.cells.toList[j],?_,VR_one q2 q1,q1⟩
 rw [Nat.zero_add,← Array.getElem?_toList]
 exact List.getElem?_eq_getElem hj'

theorem run_alloc {t:TypeId} {i:TypeInfo} {z:Value} (hi:P.info? t=some i) (hz:i.zero=some z) (w:World) :
  (Instr.alloc t true (.tuple #[])).run P w = .ok (.pointer (some ⟨w.heap.size,0,none⟩)) (w.alloc (.cells z.cells t)):=by
 simp only [Instr.alloc,Sem.run_bind,vX hi hz,Result.andThen_ok]
 rfl

def splice (cs:Array Value) (o:Nat) (vs:List Value):Array Value:=(cs.toList.take o ++ vs ++ cs.toList.drop (o+vs.length)).toArray
theorem vD {cs:Array Value} {o:Nat} {vs:List Value} (h:o+vs.length <= cs.size):(splice cs o vs).size=cs.size:=by
 simp [splice];omega
theorem jC {cs:Array Value} {o:Nat} {vs:List Value} (h:o+vs.length <= cs.size) (i:Nat):(splice cs o vs)[i]? = if o <= i/\i < o+vs.length then vs[i - o]? else cs[i]?:=by
 simp only [splice,List.getElem?_toArray,List.append_assoc]
 by_cases h1:i < o
 ·rw [if_neg (by omega),List.getElem?_append_left (by simp;omega),List.getElem?_take,if_pos h1];simp
 ·by_cases h2:i < o+vs.length
  ·rw [if_pos (by omega),List.getElem?_append_right (by simp;omega),List.getElem?_append_left (by simp;omega)]
   congr 1;simp;omega
  ·rw [if_neg (by omega),List.getElem?_append_right (by simp;omega),List.getElem?_append_right (by simp;omega),List.getElem?_drop]
   simp
   congr 1
   omega

theorem jI {w:World} {k:Nat} {cs cs':Array Value} {e:TypeId} (hk:w.heap[k]? = some (.cells cs e (0,0))):w.setRow k cs'=wT w k cs' e:=by
 have hlt:=yY hk
 have hv:w.heap[k] = .cells cs e (0,0):=(Array.getElem?_eq_some_iff.1 hk).2
 unfold World.setRow wT
 congr 1
 apply Array.ext_getElem?
 intro i
 rw [Array.getElem?_modify,Array.getElem?_setIfInBounds]
 by_cases hi:k=i
 ·subst hi;simp [hlt,hv]
 ·simp [hi]

theorem run_storeVar {t:TypeId} {m k o:Nat} {v:Value} {cs:Array Value} {e:TypeId} {w:World} (hz:tsz P t=some m) (hm:v.cells.size=m)
  (hk:w.heap[k]? = some (.cells cs e (0,0))) (hl:o+v.cells.size <= cs.size) (h1:∀ u ∈ v.cells.toList,u.oneCell'=true) :
  (storeVar t ⟨k,o,none⟩ v).run P w = .ok () (wT w k (splice cs o v.cells.toList) e):=by
 have hs:=run_storeCells_at P k o e v.cells.toList 0 cs w hk (by simpa using hl) h1
 unfold storeVar
 simp only [Sem.run_bind,xL hz,Result.andThen_ok]
 rw [if_neg (by simp [hm])]
 rw [hs,Nat.add_zero,jI hk]
 rfl
end
end Go.Am

namespace Go.Am
set_option linter.unusedVariables false
section
variable {P:Program} {E:Env} {h:List ABlk}

theorem tfld_some {t f ty off z:Nat} (hf:tfld P t f=some (ty,off,z)):∃ fs x,P.underlying t=some (.struct fs)/\fs[f]? = some x/\x.type=ty/\x.offset=off/\tsz P x.type=some z:=by
 unfold tfld at hf
 split at hf
 ·rename_i fs hu
  split at hf
  ·rename_i x hx
   cases hz:tsz P x.type with
   | none=>rw [hz] at hf;cases hf
   | some z'=>rw [hz] at hf;simp at hf;obtain ⟨rfl,rfl,rfl⟩:=hf;exact ⟨fs,x,hu,hx,rfl,rfl,hz⟩
  ·cases hf
 ·cases hf

theorem cZ {s f:Nat} {p v:AV} {u:Value} {ob:Prop} (hp:VR E p u) (hr:uZ (tfld P s f) p = .pure ob v) (hob:ob) :
  ∃ r,(∀ W,(Instr.fieldAt s u f).run P W = .ok r W)/\VR E v r:=by
 cases hf:tfld P s f with
 | none=>rw [hf] at hr;cases hp<;>simp only [uZ] at hr<;>cases hr
 | some q =>
  obtain ⟨ty,off,z⟩:=q
  obtain ⟨fs,x,hu,hx,rfl,rfl,hz⟩:=tfld_some hf
  rw [hf] at hr
  have main:∀ (a:Addr),z ≠ 0->∀ W,(Instr.fieldAt s (.pointer (some a)) f).run P W = .ok (.pointer (some (a.add x.offset))) W:=by
   intro a hz0 W
   simp [Instr.fieldAt,run_underlying hu,hx,Instr.sureAddr,fieldPlace,xL hz,hz0]
  cases hp with
  | ptr b es i j k o hs =>
   simp only [uZ,AR.pure.injEq] at hr
   obtain ⟨rfl,rfl⟩:=hr
   refine ⟨_,main _ hob,?_⟩
   rw [xG]
   have:=VR.ptr (E:=E) b es i (j+x.offset) k o hs
   rwa [show o+i * es+(j+x.offset)=o+i * es+j+x.offset from by omega] at this
  | rptr es n i j k o c us hpr hu' h1 hc hrf =>
   simp only [uZ,AR.pure.injEq] at hr
   obtain ⟨rfl,rfl⟩:=hr
   refine ⟨_,main _ hob,?_⟩
   rw [xG]
   have:=VR.rptr (E:=E) es n i (j+x.offset) k o c us hpr hu' h1 hc hrf
   rwa [show o+i * es+(j+x.offset)=o+i * es+j+x.offset from by omega] at this
  | _=>simp only [uZ] at hr;cases hr

theorem part_agg {t z off:Nat} {l:List AV} {cs:Array Value} (ht:tagg P t=some true) (hz:tsz P t=some z) (hv:VR E (.agg l) (.agg cs)) (ho:off+z <= l.length) :
  ∃ r,(∀ w,(part t cs off).run P w = .ok r w)/\VR E (.agg (tabF (zL l) off z)) r:=by
 cases hv with
 | agg _ _ hl h1 h2 =>
  refine ⟨.agg (cs.extract off (off+z)),fun w=>by simp [part,run_isAgg ht,xL hz],?_⟩
  have hg:∀ i,i < z->(cs.extract off (off+z))[i]? = cs[off+i]?:=by
   intro i hi
   rw [Array.getElem?_extract]
   rw [if_pos (by omega)]
  have hlt:∀ {i:Nat} {v:Value},(cs.extract off (off+z))[i]? = some v->i < z:=by
   intro i v hv
   rcases Nat.lt_or_ge i z with h'|h'
   ·exact h'
   ·rw [Array.getElem?_eq_none (by simp;omega)] at hv;cases hv
  refine .agg _ _ (by simp [qQ];omega) (fun i v hv=>?_) (fun i a v ha hv=>?_)
  ·have hi:=hlt hv
   rw [hg i hi] at hv
   exact h1 _ v hv
  ·have hi:=hlt hv
   rw [hg i hi] at hv
   rw [tabF_get _ _ _ _ hi] at ha
   injection ha with ha
   rw [← ha]
   exact h2 (off+i) _ v (yZ (by omega)) hv
theorem part_one {t off:Nat} {l:List AV} {cs:Array Value} (ht:tagg P t=some false) (hv:VR E (.agg l) (.agg cs)) (ho:off < l.length) :
  ∃ r,(∀ w,(part t cs off).run P w = .ok r w)/\VR E (zL l off) r:=by
 cases hv with
 | agg _ _ hl h1 h2 =>
  have hlt:off < cs.size:=by omega
  exact ⟨cs[off],fun w=>by simp [part,run_isAgg ht,Array.getElem?_eq_getElem hlt],h2 off _ _ (yZ ho) (Array.getElem?_eq_getElem hlt)⟩

theorem field_sound {s f:Nat} {p v:AV} {u:Value} {ob:Prop} (hp:VR E p u) (hr:cH ((tfld P s f).bind fun x=>tagg P x.1) (tfld P s f) p = .pure ob v) (hob:ob) :
  ∃ r,(∀ W,(Instr.field s u f).run P W = .ok r W)/\VR E v r:=by
 cases hf:tfld P s f with
 | none=>rw [hf] at hr;cases hp<;>simp only [cH,Option.bind_none] at hr<;>cases hr
 | some q =>
  obtain ⟨ty,off,z⟩:=q
  obtain ⟨fs,x,hu,hx,rfl,rfl,hz⟩:=tfld_some hf
  rw [hf] at hr
  simp only [Option.bind_some] at hr
  cases ht:tagg P x.type with
  | none=>rw [ht] at hr;cases hp<;>simp only [cH] at hr<;>cases hr
  | some ag =>
   rw [ht] at hr
   cases hp with
   | agg l cs hl h1 h2 =>
    have hv:VR E (.agg l) (.agg cs):=.agg l cs hl h1 h2
    simp only [cH] at hr
    cases ag with
    | true =>
     simp only [cond_true,AR.pure.injEq] at hr
     obtain ⟨rfl,rfl⟩:=hr
     obtain ⟨r,q1,q2⟩:=part_agg ht hz hv hob
     exact ⟨r,fun W=>by simp [Instr.field,run_underlying hu,hx,asAgg,q1],q2⟩
    | false =>
     simp only [cond_false,AR.pure.injEq] at hr
     obtain ⟨rfl,rfl⟩:=hr
     obtain ⟨r,q1,q2⟩:=part_one ht hv hob
     exact ⟨r,fun W=>by simp [Instr.field,run_underlying hu,hx,asAgg,q1],q2⟩
   | _=>simp only [cH] at hr;cases hr

theorem vM {k:IntKind} {q:Int} {v:Value} (hv:VR E (.int k q) v):v = .int k q:=by cases hv;rfl

theorem mul_split (o i q es:Nat):o+(i+q) * es+0=o+i * es+q * es:=by rw [Nat.add_mul];omega

theorem evIndexAddr_int {sl:Option TypeId} {ar:Option (Nat × TypeId)} {z:Option Nat} {x ix v:AV} {ob:Prop} (hr:wA sl ar z x ix = .pure ob v):∃ k q,ix = .int k q:=by
 unfold wA at hr
 split at hr<;>first|exact ⟨_,_,rfl⟩|cases hr

theorem bE {t:Nat} {x ix v:AV} {u ui:Value} {ob:Prop} (hx:VR E x u) (hi:VR E ix ui)
  (hr:wA (tslice P t) (tarr P t) (((tslice P t).or ((tarr P t).map (·.2))).bind (tsz P)) x ix = .pure ob v) (hob:ob) :
  ∃ r,(∀ W,(Instr.indexAt t u ui).run P W = .ok r W)/\VR E v r:=by
 obtain ⟨k,q,rfl⟩:=evIndexAddr_int hr
 ·obtain rfl:=vM hi
  cases hs:tslice P t with
  | some e =>
   rw [hs] at hr
   simp only [Option.some_or,Option.bind_some] at hr
   have hu:=yT hs
   cases hz:tsz P e with
   | none=>rw [hz] at hr;simp only [wA] at hr;cases hr
   | some z =>
    rw [hz] at hr
    have main:∀ (a:Addr) (n cap:Nat),0 <= q->q < n->∀ W,(Instr.indexAt t (.slice (some a) n cap) (.int k q)).run P W = .ok (.pointer (some (a.add (q.toNat * z)))) W:=by
     intro a n cap h0 h1 W
     simp [Instr.indexAt,asIntOf,run_underlying hu,xL hz,h0,h1]
    cases hx with
    | sl b es i n nl a cap hn hcm hnl hz' hc =>
     simp only [wA,AR.pure.injEq] at hr
     obtain ⟨rfl,rfl⟩:=hr
     obtain ⟨h0,h1,rfl⟩:=hob
     obtain ⟨k',o,cs,e',g1,g2,g3,g4⟩:=hc (by omega)
     subst g2
     refine ⟨_,main _ n cap h0 h1,?_⟩
     rw [xG,← mul_split]
     exact .ptr b z (i+q.toNat) 0 k' o g1
    | isl b es i j z' n cap k' o hn hcm g1 =>
     simp only [wA,AR.pure.injEq] at hr
     obtain ⟨rfl,rfl⟩:=hr
     obtain ⟨h0,h1,rfl⟩:=hob
     refine ⟨_,main _ n cap h0 h1,?_⟩
     rw [xG]
     have:=VR.ptr (E:=E) b es i (j+q.toNat * z') k' o g1
     rwa [show o+i * es+(j+q.toNat * z')=o+i * es+j+q.toNat * z' from by omega] at this
    | ro es n nl c a cap hn hcm hnl hz' us ha h1' hc hrf =>
     simp only [wA,AR.pure.injEq] at hr
     obtain ⟨rfl,rfl⟩:=hr
     obtain ⟨h0,h1,rfl⟩:=hob
     obtain ⟨k',o,g1,g2,g3⟩:=ha (by omega)
     subst g1
     refine ⟨_,main _ n cap h0 h1,?_⟩
     rw [xG]
     exact .rptr z n q.toNat 0 k' o c us ⟨g2,fun f=>hz'.2 (by omega) f _ _ rfl⟩ g3 h1' hc hrf
    | _=>simp only [wA] at hr;cases hr
  | none =>
   rw [hs] at hr
   simp only [Option.none_or] at hr
   cases ha:tarr P t with
   | none=>rw [ha] at hr;cases hr
   | some q' =>
    obtain ⟨len,e⟩:=q'
    rw [ha] at hr
    simp only [Option.map_some,Option.bind_some] at hr
    have hu:=eA ha
    cases hz:tsz P e with
    | none=>rw [hz] at hr;simp only [wA] at hr;cases hr
    | some z =>
     rw [hz] at hr
     have main:∀ (a:Addr),0 <= q->q < len->∀ W,(Instr.indexAt t (.pointer (some a)) (.int k q)).run P W = .ok (.pointer (some (a.add (q.toNat * z)))) W:=by
      intro a h0 h1 W
      simp [Instr.indexAt,asIntOf,run_underlying hu,Instr.sureAddr,xL hz,h0,h1]
     cases hx with
     | ptr b es i j k' o g1 =>
      simp only [wA,AR.pure.injEq] at hr
      obtain ⟨rfl,rfl⟩:=hr
      refine ⟨_,main _ hob.1 hob.2,?_⟩
      rw [xG]
      cases hz':es == z with
      | true =>
       obtain rfl:es=z:=by simpa using hz'
       have:=VR.ptr (E:=E) b es (i+q.toNat) j k' o g1
       rw [cond_true]
       rwa [show o+(i+q.toNat) * es+j=o+i * es+j+q.toNat * es from by rw [Nat.add_mul];omega] at this
      | false =>
      rw [cond_false]
      cases hz1:es == 1 with
      | true =>
       obtain rfl:es=1:=by simpa using hz1
       have:=VR.ptr (E:=E) b 1 (i+q.toNat * z) j k' o g1
       rw [cond_true]
       rwa [show o+(i+q.toNat * z) * 1+j=o+i * 1+j+q.toNat * z from by omega] at this
      | false =>
      rw [cond_false]
      have:=VR.ptr (E:=E) b es i (j+q.toNat * z) k' o g1
      rwa [show o+i * es+(j+q.toNat * z)=o+i * es+j+q.toNat * z from by omega] at this
     | rptr es n i j k' o c us hpr hu' h1 hc hrf =>
      simp only [wA,AR.pure.injEq] at hr
      obtain ⟨rfl,rfl⟩:=hr
      refine ⟨_,main _ hob.1 hob.2,?_⟩
      rw [xG]
      have:=VR.rptr (E:=E) es n i (j+q.toNat * z) k' o c us hpr hu' h1 hc hrf
      rwa [show o+i * es+(j+q.toNat * z)=o+i * es+j+q.toNat * z from by omega] at this
     | _=>simp only [wA] at hr;cases hr

theorem index_sound {t:Nat} {x ix v:AV} {u ui:Value} {ob:Prop} (hx:VR E x u) (hi:VR E ix ui)
  (hr:jZ ((tarr P t).bind fun q=>tagg P q.2) (tarr P t) ((tarr P t).bind fun q=>tsz P q.2) x ix = .pure ob v) (hob:ob) :
  ∃ r,(∀ W,(Instr.index t u ui).run P W = .ok r W)/\VR E v r:=by
 cases hx with
 | agg l cs hl h1 h2 =>
  have hv:VR E (.agg l) (.agg cs):=.agg l cs hl h1 h2
  cases hi with
  | int k q =>
   cases ha:tarr P t with
   | none=>rw [ha] at hr;simp only [jZ,Option.bind_none] at hr;cases hr
   | some q' =>
    obtain ⟨len,e⟩:=q'
    rw [ha] at hr
    simp only [Option.bind_some] at hr
    have hu:=eA ha
    cases hz:tsz P e with
    | none=>rw [hz] at hr;cases ht:tagg P e<;>rw [ht] at hr<;>simp only [jZ] at hr<;>cases hr
    | some z =>
     cases ht:tagg P e with
     | none=>rw [ht] at hr;simp only [jZ] at hr;cases hr
     | some ag =>
      rw [ht,hz] at hr
      simp only [jZ] at hr
      cases ag with
      | true =>
       simp only [cond_true,AR.pure.injEq] at hr
       obtain ⟨rfl,rfl⟩:=hr
       obtain ⟨r,q1,q2⟩:=part_agg ht hz hv hob.2.2
       exact ⟨r,fun W=>by simp [Instr.index,asIntOf,run_underlying hu,hob.1,hob.2.1,xL hz,q1],q2⟩
      | false =>
       simp only [cond_false,AR.pure.injEq] at hr
       obtain ⟨rfl,rfl⟩:=hr
       obtain ⟨r,q1,q2⟩:=part_one ht hv hob.2.2
       exact ⟨r,fun W=>by simp [Instr.index,asIntOf,run_underlying hu,hob.1,hob.2.1,xL hz,q1],q2⟩
  | _=>simp only [jZ] at hr;cases hr
 | _=>simp only [jZ] at hr;cases hr

/-! ### Slices of slices -/
def VRO (E:Env):Option AV->Option Value->Prop
 | none,none=>True
 | some a,some v=>VR E a v
 | _,_=>False

theorem gG {x:Option AV} {xv:Option Value} {d:Nat} {l:Int} (hx:VRO E x xv) (hb:yO x d=some l):(xv=none/\l=d) ∨ ∃ k,xv=some (.int k l):=by
 cases x with
 | none=>cases xv with
  | none=>simp only [yO] at hb;injection hb with hb;exact .inl ⟨rfl,hb.symm⟩
  | some v=>exact hx.elim
 | some a=>cases xv with
  | none=>exact hx.elim
  | some v =>
   cases a with
   | int k q =>
    simp only [yO] at hb;injection hb with hb;subst hb
    exact .inr ⟨k,by rw [vM hx]⟩
   | _=>simp only [yO] at hb;cases hb
theorem vK {k:IntKind} {q:Int} {y:Nat} {code:BoundsCode} (h:0 <= q/\q <= y) (w:World):(Instr.sliceBound (.int k q) y code).run P w = .ok q.toNat w:=by
 simp [Instr.sliceBound,asIntOf,h.1,h.2]
theorem uX {lo hi mx:Option AV} {lv hv mv:Option Value} {n len cap:Nat} {l u m:Int} {b:Bool} (hlo:VRO E lo lv) (hhi:VRO E hi hv) (hmx:VRO E mx mv)
  (e1:yO lo 0=some l) (e2:yO hi len=some u) (e3:yO mx n=some m) (hok:(mx.isSome && hi.isNone)=false)
  (h0:0 <= l) (h1:l <= u) (h2:u <= m) (h3:m <= cap) (hlen:len <= cap) :
  ∃ M:Nat,(∀ w,(Instr.sliceBounds b len cap lv hv mv).run P w = .ok (l.toNat,u.toNat,M) w)/\u.toNat <= M/\M <= cap/\(mx.isSome->M=m.toNat):=by
 have q1:=gG hlo e1
 have q2:=gG hhi e2
 have q3:=gG hmx e3
 unfold Instr.sliceBounds
 rcases q3 with ⟨rfl,rfl⟩|⟨k3,rfl⟩
 ·have hmn:mx=none:=by cases mx with
   | none=>rfl
   | some a=>exact hmx.elim
  subst hmn
  refine ⟨cap,fun w=>?_,by omega,Nat.le_refl _,fun h=>by simp at h⟩
  rcases q2 with ⟨rfl,rfl⟩|⟨k2,rfl⟩<;>rcases q1 with ⟨rfl,rfl⟩|⟨k1,rfl⟩
  ·simp
  ·simp only [Sem.run_bind,Sem.run_pure,Result.andThen_ok,vK (P:=P) (show 0 <= l/\l <= (len:Int) from by omega)]
   simp
  ·simp only [Sem.run_bind,Sem.run_pure,Result.andThen_ok,vK (P:=P) (show 0 <= u/\u <= (cap:Int) from by omega)]
   simp
  ·simp only [Sem.run_bind,Sem.run_pure,Result.andThen_ok,vK (P:=P) (show 0 <= u/\u <= (cap:Int) from by omega),vK (P:=P) (show 0 <= l/\l <= (u.toNat:Int) from by omega)]
 ·have hms:mx.isSome=true:=by cases mx with
   | none=>exact hmx.elim
   | some a=>rfl
  have hhs:hi.isNone=false:=by rw [hms] at hok;simpa using hok
  refine ⟨m.toNat,fun w=>?_,by omega,by omega,fun _=>rfl⟩
  rcases q2 with ⟨rfl,rfl⟩|⟨k2,rfl⟩
  ·cases hi with
   | none=>simp at hhs
   | some a=>exact hhi.elim
  ·rcases q1 with ⟨rfl,rfl⟩|⟨k1,rfl⟩
   ·simp only [Sem.run_bind,Sem.run_pure,Result.andThen_ok,vK (P:=P) (show 0 <= m/\m <= (cap:Int) from by omega),vK (P:=P) (show 0 <= u/\u <= (m.toNat:Int) from by omega)]
    simp
   ·simp only [Sem.run_bind,Sem.run_pure,Result.andThen_ok,vK (P:=P) (show 0 <= m/\m <= (cap:Int) from by omega),vK (P:=P) (show 0 <= u/\u <= (m.toNat:Int) from by omega),vK (P:=P) (show 0 <= l/\l <= (u.toNat:Int) from by omega)]

theorem maxLen_4096 {n:Nat} (h:n <= 4096):n <= maxLen:=by unfold maxLen;omega

theorem sub_fit {i l M cap z:Nat} (h1:l <= M) (h2:M <= cap):(i+l) * z+(M - l) * z <= i * z+cap * z:=by
 rw [← Nat.add_mul,← Nat.add_mul]
 exact Nat.mul_le_mul_right z (by omega)

theorem slice_sound {t:Nat} {x v:AV} {u:Value} {lo hi mx:Option AV} {lv hv mv:Option Value} {ob:Prop} (hx:VR E x u) (hlo:VRO E lo lv) (hhi:VRO E hi hv) (hmx:VRO E mx mv)
  (hr:evSlice (tslice P t) (tarr P t) (((tslice P t).or ((tarr P t).map (·.2))).bind (tsz P)) x lo hi mx = .pure ob v) (hob:ob) :
  ∃ r,(∀ W,(Instr.sliceAt t u lv hv mv).run P W = .ok r W)/\VR E v r:=by
 unfold evSlice at hr
 cases hok:(mx.isSome && hi.isNone) with
 | true=>rw [hok] at hr;cases hr
 | false =>
 rw [hok] at hr
 simp only [cond_false] at hr
 cases hs:tslice P t with
 | some e =>
  rw [hs] at hr
  simp only [Option.some_or,Option.bind_some] at hr
  have hu:=yT hs
  cases hz:tsz P e with
  | none=>rw [hz] at hr;cases hr
  | some z =>
   rw [hz] at hr
   have main:∀ (a:Option Addr) (n cap:Nat) (l w M:Nat),(∀ W,(Instr.sliceBounds true n cap lv hv mv).run P W = .ok (l,w,M) W) ->
     ∀ W,(Instr.sliceAt t (.slice a n cap) lv hv mv).run P W = .ok (.slice (if M=l then a else a.map (·.add (l * z))) (w - l) (M - l)) W:=by
    intro a n cap l w M hb W
    simp [Instr.sliceAt,Instr.slice,run_underlying hu,hb,xL hz]
   cases hx with
   | sl b es i n nl a cap hn hcm hnl hz' hc =>
    simp only at hr
    cases e1:yO lo 0 with
    | none=>rw [e1] at hr;cases hr
    | some l =>
    cases e2:yO hi n with
    | none=>rw [e1,e2] at hr;cases hr
    | some w =>
    cases e3:yO mx n with
    | none=>rw [e1,e2,e3] at hr;cases hr
    | some m =>
     rw [e1,e2,e3] at hr
     simp only [AR.pure.injEq] at hr
     obtain ⟨rfl,rfl⟩:=hr
     obtain ⟨h0,h1,h2,h3,rfl⟩:=hob
     obtain ⟨M,hb,hM1,hM2,_⟩:=uX (P:=P) (b:=true) (cap:=cap) hlo hhi hmx e1 e2 e3 hok h0 h1 h2 (by omega) hn
     refine ⟨_,main a n cap _ _ _ hb,?_⟩
     refine .sl b z (i+l.toNat) (w.toNat - l.toNat) nl _ (M - l.toNat) (by omega) (by omega) ?_ ?_ ?_
     ·intro hq;rw [hnl hq];split<;>rfl
     ·intro ha
      have:a=none:=by
       split at ha
       ·exact ha
       ·cases a with
        | none=>rfl
        | some a=>cases ha
      have:=hz' this
      omega
     ·intro hp
      have hne:¬ M=l.toNat:=by omega
      have hcp:0 < cap:=by omega
      have hf:=sub_fit (i:=i) (z:=z) (show l.toNat <= M from by omega) hM2
      obtain ⟨k,o,cs,e',g1,g2,g3,g4⟩:=hc hcp
      subst g2
      refine ⟨k,o,cs,e',g1,?_,g3,?_⟩
      ·rw [if_neg hne,Option.map_some,xG,Nat.add_mul,Nat.add_assoc]
      ·clear hb hc g3
       generalize (i+l.toNat) * z=A at *
       generalize (M - l.toNat) * z=B at *
       rw [Nat.add_assoc]
       exact Nat.le_trans (Nat.add_le_add_left hf o) (by rw [← Nat.add_assoc];exact g4)
   | csl b es i n c a hn hcm hc =>
    simp only at hr
    cases e1:yO lo 0 with
    | none=>rw [e1] at hr;cases hr
    | some l =>
    cases e2:yO hi n with
    | none=>rw [e1,e2] at hr;cases hr
    | some w =>
    cases e3:yO mx c with
    | none=>rw [e1,e2,e3] at hr;cases hr
    | some m =>
     rw [e1,e2,e3] at hr
     simp only [AR.pure.injEq] at hr
     obtain ⟨rfl,rfl⟩:=hr
     obtain ⟨h0,h1,h2,h3,rfl⟩:=hob
     obtain ⟨M,hb,hM1,hM2,hM3⟩:=uX (P:=P) (b:=true) (cap:=c) hlo hhi hmx e1 e2 e3 hok h0 h1 h2 h3 hn
     have hMm:M=m.toNat:=by
      cases mx with
      | none =>
       have q3:=gG hmx e3
       have hmc:m=(c:Int):=by
        rcases q3 with ⟨_,q⟩|⟨k3,q⟩
        ·exact q
        ·simp only [yO,Option.some.injEq] at e3;exact e3.symm
       have hb0:=hb default
       have hmv:mv=none:=by cases mv with
        | none=>rfl
        | some a=>exact hmx.elim
       subst hmv
       have hM:M=c:=by
        have q1:=gG hlo e1
        have q2:=gG hhi e2
        unfold Instr.sliceBounds at hb0
        rcases q2 with ⟨rfl,rfl⟩|⟨k2,rfl⟩<;>rcases q1 with ⟨rfl,rfl⟩|⟨k1,rfl⟩
        ·simp at hb0;omega
        ·simp only [Sem.run_bind,Sem.run_pure,Result.andThen_ok,vK (P:=P) (show 0 <= l/\l <= (n:Int) from by omega)] at hb0
         simp at hb0;omega
        ·simp only [Sem.run_bind,Sem.run_pure,Result.andThen_ok,vK (P:=P) (show 0 <= w/\w <= (c:Int) from by omega)] at hb0
         simp at hb0;omega
        ·simp only [Sem.run_bind,Sem.run_pure,Result.andThen_ok,vK (P:=P) (show 0 <= w/\w <= (c:Int) from by omega),vK (P:=P) (show 0 <= l/\l <= (w.toNat:Int) from by omega)] at hb0
         simp at hb0;omega
       omega
      | some a=>exact hM3 rfl
     subst hMm
     refine ⟨_,main a n c _ _ _ hb,?_⟩
     refine .csl b z (i+l.toNat) (w.toNat - l.toNat) (m.toNat - l.toNat) _ (by omega) (by omega) fun hp=>?_
     have hne:¬ m.toNat=l.toNat:=by omega
     have hml:(i+l.toNat)+(m.toNat - l.toNat) <= i+c:=by clear hb;omega
     obtain ⟨k,o,cs,e',g1,g2,g3,g4⟩:=hc (by omega)
     subst g2
     refine ⟨k,o,cs,e',g1,by rw [if_neg hne,Option.map_some,xG,Nat.add_mul,Nat.add_assoc],g3,?_⟩
     have hf:(i+l.toNat) * z+(m.toNat - l.toNat) * z <= i * z+c * z:=by
      rw [← Nat.add_mul,← Nat.add_mul]
      exact Nat.mul_le_mul_right _ hml
     rw [Nat.add_assoc]
     rw [Nat.add_assoc] at g4
     exact Nat.le_trans (Nat.add_le_add_left hf o) g4
   | isl b es i j z' n cap k o hn hcm g1 =>
    simp only at hr
    cases e1:yO lo 0 with
    | none=>rw [e1] at hr;cases hr
    | some l =>
    cases e2:yO hi n with
    | none=>rw [e1,e2] at hr;cases hr
    | some w =>
    cases e3:yO mx n with
    | none=>rw [e1,e2,e3] at hr;cases hr
    | some m =>
     rw [e1,e2,e3] at hr
     simp only [AR.pure.injEq] at hr
     obtain ⟨rfl,rfl⟩:=hr
     obtain ⟨h0,h1,h2,h3,rfl⟩:=hob
     obtain ⟨M,hb,hM1,hM2,_⟩:=uX (P:=P) (b:=true) (cap:=cap) hlo hhi hmx e1 e2 e3 hok h0 (by omega) h2 (by omega) hn
     refine ⟨_,main _ n cap _ _ _ hb,?_⟩
     rw [if_neg (by omega),Option.map_some,xG]
     have:=VR.isl (E:=E) b es i (j+l.toNat * z') z' (w.toNat - l.toNat) (M - l.toNat) k o (by omega) (by omega) g1
     rwa [show o+i * es+(j+l.toNat * z')=o+i * es+j+l.toNat * z' from by omega] at this
   | ro es n nl c a cap hn hcm hnl hz' us ha h1' hc hrf =>
    simp only at hr
    cases mx with
    | some m =>
     cases m with
     | int k q =>
      by_cases hq:q=0
      ·subst hq
       simp only at hr
       cases e1:yO lo 0 with
       | none=>rw [e1] at hr;cases hr
       | some l =>
       cases e2:yO hi n with
       | none=>rw [e1,e2] at hr;cases hr
       | some w =>
        rw [e1,e2] at hr
        simp only [AR.pure.injEq] at hr
        obtain ⟨rfl,rfl⟩:=hr
        obtain ⟨rfl,rfl⟩:=hob
        obtain ⟨M,hb,hM1,hM2,hM3⟩:=uX (P:=P) (b:=true) (cap:=cap) (n:=n) hlo hhi hmx e1 e2 rfl hok (Int.le_refl _) (Int.le_refl _) (Int.le_refl _) (by omega) hn
        refine ⟨_,main a n cap _ _ _ hb,?_⟩
        have hM:=hM3 rfl
        subst hM
        exact .emp _
      ·exfalso
       split at hr
       ·rename_i k' heq;injection heq with heq;injection heq with _ heq;exact hq heq
       ·rename_i heq;cases heq
       ·cases hr
     | _=>simp only at hr;cases hr
    | none =>
     simp only at hr
     cases e1:yO lo 0 with
     | none=>rw [e1] at hr;cases hr
     | some l =>
     cases e2:yO hi n with
     | none=>rw [e1,e2] at hr;cases hr
     | some w =>
      rw [e1,e2] at hr
      simp only [AR.pure.injEq] at hr
      obtain ⟨rfl,rfl⟩:=hr
      obtain ⟨h0,h1,h2,rfl⟩:=hob
      obtain ⟨M,hb,hM1,hM2,_⟩:=uX (P:=P) (b:=true) (cap:=cap) (n:=n) hlo hhi hmx e1 e2 rfl hok h0 h1 h2 (by omega) hn
      refine ⟨_,main a n cap _ _ _ hb,?_⟩
      refine .ro z (w.toNat - l.toNat) nl _ _ (M - l.toNat) (by omega) (by omega) ?_ ?_ (fun x y=>us (l.toNat+x) y) ?_ ?_ ?_ ?_
      ·intro hq;rw [hnl hq];split<;>rfl
      ·refine ⟨fun ha=>?_,fun p f k o q=>?_⟩
       ·have:a=none:=by
         split at ha
         ·exact ha
         ·cases a with
          | none=>rfl
          | some a=>cases ha
        have:=hz'.1 this
        omega
       ·cases a with
        | none=>split at q<;>cases q
        | some a =>
         obtain ⟨k',o',g1,_⟩:=ha (by omega)
         cases g1
         have:k=k':=by
          split at q
          ·cases q;rfl
          ·rw [Option.map_some,xG] at q;cases q;rfl
         rw [this]
         exact hz'.2 (by omega) (subC_fl f) _ _ rfl
      ·intro hp
       obtain ⟨k,o,g1,g2,g3⟩:=ha (by omega)
       subst g1
       refine ⟨k,o+l.toNat * z,?_,g2,fun x y hx hy=>?_⟩
       ·rw [if_neg (by omega),Option.map_some,xG]
       ·have:=g3 (l.toNat+x) y (by omega) hy
        rwa [Nat.add_mul,← Nat.add_assoc] at this
      ·exact fun x y hx hy=>h1' _ _ (by omega) hy
      ·exact fun x y hx hy=>hc _ _ (by omega) hy
      ·exact fun x y hx hy=>hrf _ _ (by omega) hy
   | _=>simp only at hr;cases hr
 | none =>
  rw [hs] at hr
  simp only [Option.none_or] at hr
  cases hta:tarr P t with
  | none=>rw [hta] at hr;cases hr
  | some q' =>
   obtain ⟨len,e⟩:=q'
   rw [hta] at hr
   simp only [Option.map_some,Option.bind_some] at hr
   have hu:=eA hta
   cases hz:tsz P e with
   | none=>rw [hz] at hr;cases hr
   | some z =>
    rw [hz] at hr
    have main:∀ (a:Addr) (l w M:Nat),(∀ W,(Instr.sliceBounds false len len lv hv mv).run P W = .ok (l,w,M) W) ->
      ∀ W,(Instr.sliceAt t (.pointer (some a)) lv hv mv).run P W = .ok (.slice (some (if M=l then a else a.add (l * z))) (w - l) (M - l)) W:=by
     intro a l w M hb W
     simp [Instr.sliceAt,run_underlying hu,Instr.sureAddr,hb,xL hz]
    cases hx with
    | ptr b es i j k o g1 =>
     simp only at hr
     cases e1:yO lo 0 with
     | none=>rw [e1] at hr;cases hr
     | some l =>
     cases e2:yO hi len with
     | none=>rw [e1,e2] at hr;cases hr
     | some w =>
     cases mx with
     | some m=>rw [e1,e2] at hr;cases hr
     | none =>
      rw [e1,e2] at hr
      simp only [AR.pure.injEq] at hr
      obtain ⟨rfl,rfl⟩:=hr
      obtain ⟨h0,h1,h2,h3⟩:=hob
      obtain ⟨M,hb,hM1,hM2,_⟩:=uX (P:=P) (b:=false) (cap:=len) (n:=len) hlo hhi hmx e1 e2 rfl hok h0 (by omega) h2 (by omega) (Nat.le_refl _)
      refine ⟨_,main _ _ _ _ hb,?_⟩
      rw [if_neg (by omega),xG]
      have:=VR.isl (E:=E) b es i (j+l.toNat * z) z (w.toNat - l.toNat) (M - l.toNat) k o (by omega) (maxLen_4096 (by omega)) g1
      rwa [show o+i * es+(j+l.toNat * z)=o+i * es+j+l.toNat * z from by omega] at this
    | rptr es n i j k o c us hpr hu' h1' hc hrf =>
     simp only at hr
     cases e1:yO lo 0 with
     | none=>rw [e1] at hr;cases hr
     | some l =>
     cases e2:yO hi len with
     | none=>rw [e1,e2] at hr;cases hr
     | some w =>
     cases mx with
     | some m=>rw [e1,e2] at hr;cases hr
     | none =>
      rw [e1,e2] at hr
      simp only [AR.pure.injEq] at hr
      obtain ⟨rfl,rfl⟩:=hr
      obtain ⟨h0,h1,h2,h3,h4,h5⟩:=hob
      obtain ⟨M,hb,hM1,hM2,_⟩:=uX (P:=P) (b:=false) (cap:=len) (n:=len) hlo hhi hmx e1 e2 rfl hok h0 h1 h2 (by omega) (Nat.le_refl _)
      refine ⟨_,main _ _ _ _ hb,?_⟩
      have bd:∀ x y,x < w.toNat - l.toNat->y < z->j+l.toNat * z+x * z+y < es:=by
       intro x y hx hy
       have q1:(l.toNat+x+1) * z <= len * z:=Nat.mul_le_mul_right z (by omega)
       rw [Nat.add_mul,Nat.add_mul] at q1
       omega
      refine .ro z (w.toNat - l.toNat) false _ _ (M - l.toNat) (by omega) (maxLen_4096 (by omega)) (fun h=>by cases h) (zrU (fun h=>by cases h) innC_fl) (fun x y=>us i (j+l.toNat * z+x * z+y)) ?_ ?_ ?_ ?_
      ·intro hp
       refine ⟨k,o+i * es+j+l.toNat * z,by rw [if_neg (by omega),xG],hpr.1,fun x y hx hy=>?_⟩
       have:=hu' i (j+l.toNat * z+x * z+y) h3 (bd x y hx hy)
       rwa [show o+i * es+(j+l.toNat * z+x * z+y)=o+i * es+j+l.toNat * z+x * z+y from by omega] at this
      ·exact fun x y hx hy=>h1' _ _ h3 (bd x y hx hy)
      ·exact fun x y hx hy=>by rw [cN hy];exact hc _ _ h3 (bd x y hx hy)
      ·exact fun x y hx hy=>by rw [cN hy];exact hrf _ _ h3 (bd x y hx hy)
    | _=>simp only at hr;cases hr

/-! ### Arithmetic -/
theorem int_sound {op:BinOp} {k:IntKind} {x y:Int} {v:AV} {ob:Prop} {t:Nat} (hsh:op ≠ .shl/\op ≠ .shr) (hr:evInt op k x y = .pure ob v) (hob:ob) :
  ∃ r,(∀ w,(binOp op t (.int k x) (.int k y)).run P w = .ok r w)/\VR E v r:=by
 cases op<;>simp only [evInt,AR.pure.injEq,reduceCtorEq] at hr<;>obtain ⟨rfl,rfl⟩:=hr
 case add=>refine ⟨_,fun w=>?_,.int _ _⟩;simp [binOp,Op.intArith,wr]
 case sub=>refine ⟨_,fun w=>?_,.int _ _⟩;simp [binOp,Op.intArith,wr]
 case mul=>refine ⟨_,fun w=>?_,.int _ _⟩;simp [binOp,Op.intArith,wr]
 case quo=>refine ⟨_,fun w=>?_,.int _ _⟩;simp [binOp,Op.intDiv,wr,hob]
 case rem=>refine ⟨_,fun w=>?_,.int _ _⟩;simp [binOp,Op.intDiv,hob]
 case and=>refine ⟨_,fun w=>?_,.int _ _⟩;simp [binOp,Op.intBits,andI]
 case or=>refine ⟨_,fun w=>?_,.int _ _⟩;simp [binOp,Op.intBits,orI]
 case xor=>refine ⟨_,fun w=>?_,.int _ _⟩;simp [binOp,Op.intBits,xorI]
 case andNot=>refine ⟨_,fun w=>?_,.int _ _⟩;simp [binOp,Op.intBits,andNotI]
 case eql=>refine ⟨_,fun w=>?_,.bool _⟩;simp [binOp,Op.intCmp,bEq]
 case neq=>refine ⟨_,fun w=>?_,.bool _⟩;simp [binOp,Op.intCmp,bEq];rfl
 case lss=>refine ⟨_,fun w=>?_,.bool _⟩;simp [binOp,Op.intCmp,bLt]
 case leq=>refine ⟨_,fun w=>?_,.bool _⟩;simp [binOp,Op.intCmp,bLe]
 case gtr=>refine ⟨_,fun w=>?_,.bool _⟩;simp [binOp,Op.intCmp,bLt]
 case geq=>refine ⟨_,fun w=>?_,.bool _⟩;simp [binOp,Op.intCmp,bLe]

theorem shl_sound {k k':IntKind} {x y:Int} {t:Nat} (h0:0 <= y) (w:World):(binOp .shl t (.int k x) (.int k' y)).run P w = .ok (.int k (shlI k x y)) w:=by
 simp [binOp,Op.shift,shlI,show ¬ y < 0 from by omega]
theorem shr_sound {k k':IntKind} {x y:Int} {t:Nat} (h0:0 <= y) (w:World):(binOp .shr t (.int k x) (.int k' y)).run P w = .ok (.int k (shrI k x y)) w:=by
 simp [binOp,Op.shift,shrI,show ¬ y < 0 from by omega]

theorem str_sound {op:BinOp} {x y:ByteArray} {v:AV} {ob:Prop} {t:Nat} (hr:evStr op x y = .pure ob v) (hob:ob) :
  ∃ r,(∀ w,(binOp op t (.string x) (.string y)).run P w = .ok r w)/\VR E v r:=by
 cases op<;>simp only [evStr,AR.pure.injEq,reduceCtorEq] at hr<;>obtain ⟨rfl,rfl⟩:=hr
 case add =>
  refine ⟨_,fun w=>?_,.str _⟩
  have hm:¬ (IntKind.i64.max < ((x.size+y.size:Nat):Int)):=by
   have:IntKind.i64.max=9223372036854775807:=by decide
   rw [this];omega
  simp only [binOp,Op.stringOp,gt_iff_lt,if_neg hm]
  rfl
 case eql=>exact ⟨_,fun _=>rfl,.bool _⟩
 case neq=>exact ⟨_,fun _=>rfl,.bool _⟩
 case lss=>exact ⟨_,fun _=>rfl,.bool _⟩
 case leq=>exact ⟨_,fun _=>rfl,.bool _⟩
 case gtr=>exact ⟨_,fun _=>rfl,.bool _⟩
 case geq=>exact ⟨_,fun _=>rfl,.bool _⟩
end
end Go.Am
