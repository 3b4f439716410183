/-
  The table of the long check value.
-/
import Derived.WalkKit
import Derived.LoopTactic
import Derived.Laws.Rows
import Derived.Laws.Tables
import Derived.Laws.Shifts
import Derived.Laws.ShiftsVar
import Derived.Laws.ShiftsVarLaws
import Derived.Laws.BitsAll
import Derived.Laws.NewBlocks
import Derived.Laws.Alloc2
import Derived.Deep.WholeRow
import Derived.Test.YtooepgpfaaddbaaGreatB
namespace Go.Proofs.YtooepgpfaaddbaaGreat
open Go.RowKit
attribute [local go_sem] Oper.semAt_some
theorem sh_ok:∀ k:Fin 25,((128:Int) < 2 ^ (31 - k.1)->k.1 < 24/\(2:Int) ^ (31 - k.1) / 2=((2 ^ (31 - (k.1+1)):Nat):Int))/\((2:Int) ^ (31 - k.1) <= 128->k.1=24):=by decide +kernel
theorem shift_in (w:World):Calls Tryz.prog 101 #[.int .u32 2147483648] w fun e w'=>e = .returned (.int .i64 24)/\w'=w:=by
 go_enter Tryz.func101,Tryz.ntmps101
 go_wp2
 go_loop [3,4] (fun s v=>∃ k:Nat,k <= 24/\s = .int .i64 k/\v = .int .u32 ((2 ^ (31 - k):Nat):Int)) (fun s _=>match s with|.int _ m=>24 - m.toNat|_=>0)
 case atStart=>exact ⟨0,Nat.zero_le _,rfl,rfl⟩
 case round =>
  obtain ⟨k,hk,rfl,rfl⟩:=hrel
  obtain ⟨q1,q2⟩:=sh_ok ⟨k,by omega⟩
  simp only at q1 q2
  go_wp2
  ·obtain ⟨q3,q4⟩:=q1 (by assumption)
   refine ⟨⟨k+1,by omega,rfl,by rw [show 31 - (k+1)=30 - k from by omega];simp⟩,by simp only;omega⟩
  ·obtain rfl:=q2 (by omega)
   go_ret
   exact ⟨rfl,rfl⟩
def cr (r:Int):Int:=if bits .and .u32 r 2147483648 != 0 then bits .xor .u32 (r * 2 % 4294967296) 136331795 else r * 2 % 4294967296
def crN:Nat->Int->Int
 | 0,r=>r
 | n+1,r=>cr (crN n r)
def crT (i:Nat):Int:=crN 8 ((i:Int) * 16777216)
def crA (n:Nat):Array Value:=Array.ofFn fun i:Fin 256=>if i.1 < n then .int .u32 (crT i.1) else .int .u32 0
theorem crA_set (n:Nat) (h:n < 256):(crA n).setIfInBounds n (.int .u32 (crT n))=crA (n+1):=by
 apply Array.ext
 ·simp [crA]
 ·intro i h1 h2
  have hi:i < 256:=by simpa [crA] using h2
  rw [Array.getElem_setIfInBounds (by simpa [crA] using hi)]
  by_cases e:n=i
  ·subst e;simp [crA]
  ·simp only [crA,Array.getElem_ofFn,if_neg e]
   by_cases e2:i < n
   ·rw [if_pos e2,if_pos (by omega)]
   ·rw [if_neg e2,if_neg (by omega)]
section
variable (tb:Nat->Array Value) (T:Nat->Int->Int) (cr:Int->Int)
set_option maxRecDepth 100000 in
set_option maxHeartbeats 400000 in
theorem table_in' (h0:Tryz.zeroCells178=tb 0) (hz:∀ x,T 0 x=x) (hT:∀ n x,T (n+1) x=cr (T n x)) (hs:∀ n,n < 256->∃ old,(tb n)[n]? = some old) (ht:∀ n,n < 256->(tb n).setIfInBounds n (.int .u32 (T 8 ((n:Int) * 16777216)))=tb (n+1))
  (hn:∀ n,(tb n).size=256) (h1:∀ n,(tb n).all (·.oneCell')=true) (hc1:∀ r,(bits .and .u32 r 2147483648 != 0)=true->cr r=bits .xor .u32 (r * 2 % 4294967296) 136331795) (hc0:∀ r,(bits .and .u32 r 2147483648 != 0)=false->cr r=r * 2 % 4294967296) (w:World):Calls Tryz.prog 99 #[.int .u32 136331795,.int .u32 2147483648] w fun e w'=>e = .returned (.agg (tb 256))/\w'=w.alloc (.cells (tb 256) 178):=by
 go_enter Tryz.func99,Tryz.ntmps99
 go_wp2
 go_loopw [8] (fun c wr=>∃ k:Nat,c = .int .i64 k/\k <= 256/\wr=w.alloc (.cells (tb k) 178)) (fun c _=>match c with|.int _ k=>(256 - k).toNat|_=>0)
 case atStart=>exact ⟨0,rfl,by omega,rfl⟩
 case round =>
  obtain ⟨k,rfl,hk,rfl⟩:=hrel
  by_cases hk':k < 256
  ·obtain ⟨old,hold⟩:=hs k hk'
   have hset:=ht k hk'
   clear ht hs h1 hn
   go_wp2_with (go_at_call 101;refine (shift_in _).mono ?_;rintro e w' ⟨rfl,rfl⟩)
   go_loop [6,16] (fun r c=>∃ j:Nat,j <= 8/\c = .int .i64 j/\r = .int .u32 (T j ((k:Int) * 16777216))) (fun _ c=>match c with|.int _ j=>(8 - j).toNat|_=>0)
   case atStart=>exact ⟨0,by omega,rfl,by rw [hz]⟩
   case round =>
    obtain ⟨j,hj,rfl,rfl⟩:=hrel
    have hcr:=hT j ((k:Int) * 16777216)
    generalize hr:T j ((k:Int) * 16777216)=r at hcr ⊢
    clear hT hz
    go_wp2
    ·exact ⟨⟨j+1,by omega,rfl,by rw [hcr,hc1 r (by assumption)]⟩,by simp only;omega⟩
    ·exact ⟨⟨j+1,by omega,rfl,by rw [hcr,hc0 r (by assumption)]⟩,by simp only;omega⟩
    ·obtain rfl:j=8:=by omega
     rw [hr] at hset
     exact ⟨⟨k+1,rfl,by omega,by rw [hset]⟩,by simp only;omega⟩
  ·obtain rfl:k=256:=by omega
   have hL:=heap_alloc_new w (.cells (tb 256) 178)
   have e1:=hn 256
   have e2:=h1 256
   clear hT hz ht hs hc1 hc0 hk' hn h1
   generalize hc:tb 256=c at hL e1 e2 ⊢
   have e3:(Tryz.prog.info? 178).map (·.size)=some c.size:=by rw [e1];kernel_rfl
   go_wp2_with (first|(refine wpList_load_row rfl 178 _ rfl w.heap.size rfl 178 c (0,0) (.array 256 154) hL (by kernel_rfl) rfl e3 ?_)|(refine wpList_store_row rfl 178 _ _ rfl w.heap.size c rfl rfl 178 c hL e3 rfl e2 ?_;rw [World.setRow_alloc_new]))
   refine bodyPost_ret (v:=.agg c) ?_ ?_ ?_
   ·exact results_cell_row rfl _ _ w.heap.size 178 c (0,0) (.array 256 154) rfl hL (by kernel_rfl) rfl e3
   ·rfl
   ·exact ⟨by rw [hc],by rw [hc]⟩
end
theorem crA_size (n:Nat):(crA n).size=256:=by simp [crA]
theorem crA_get {n i:Nat} (h:i < 256):(crA n)[i]? = some (if i < n then .int .u32 (crT i) else .int .u32 0):=by
 simp [crA,h]
theorem crA_one {n:Nat}:(crA n).all (·.oneCell')=true:=by
 rw [Array.all_eq_true]
 intro i hi
 simp only [crA,Array.getElem_ofFn]
 split<;>rfl
theorem table_in (w:World):Calls Tryz.prog 99 #[.int .u32 136331795,.int .u32 2147483648] w fun e w'=>e = .returned (.agg (crA 256))/\w'=w.alloc (.cells (crA 256) 178) :=
 table_in' crA crN cr (by kernel_rfl) (fun _=>rfl) (fun _ _=>rfl) (fun n h=>⟨_,crA_get h⟩) crA_set crA_size (fun n=>crA_one) (fun r h=>by simp only [cr,h,if_true]) (fun r h=>by simp only [cr,h];rfl) w
def ext1 (s c:Int):Int:=bits .xor .u32 (s * 256 % 4294967296) (crT (bits .xor .u8 (s / 16777216 % 256) c).toNat)
theorem zero_size:Tryz.zeroCells178.size=256:=by kernel_rfl
set_option maxRecDepth 100000 in
set_option maxHeartbeats 400000 in
theorem ext_in' (c:Array Value) (F:Nat->Int) (fl:Int->List Int->Int) (hf0:∀ s,fl s []=s) (hf1:∀ (s:Int) (l:List Int) (i:Nat),i < l.length->fl s (l.take (i+1))=bits .xor .u32 (fl s (l.take i) * 256 % 4294967296) (F (bits .xor .u8 (fl s (l.take i) / 16777216 % 256) (l.getD i 0)).toNat))
  (hx:∀ x y,0 <= bits .xor .u8 x y/\bits .xor .u8 x y < 256) (hn:c.size=256) (h1:c.all (·.oneCell')=true) (hget:∀ i,i < 256->c[i]? = some (.int .u32 (F i)))
  (htab:∀ w,Calls Tryz.prog 99 #[.int .u32 136331795,.int .u32 2147483648] w fun e w'=>e = .returned (.agg c)/\w'=w.alloc (.cells c 178))
  (s:Int) (l:List Int) (a:Option Addr) (cap:Nat) (w:World) (hlen:l.length <= 5000) (hb:∀ i,i < l.length->∃ k o,a=some ⟨k,o,none⟩/\w.cell? ⟨k,o+i,none⟩=some (.int .u8 (l.getD i 0))/\k < w.heap.size) :
  Calls Tryz.prog 94 #[.int .u32 s,.slice a l.length cap] w fun e w'=>e = .returned (.int .u32 (fl s l))/\Below w.heap.size w w':=by
 have e3:(Tryz.prog.info? 178).map (·.size)=some c.size:=by rw [hn];kernel_rfl
 have hz:=zero_size
 generalize hzz:Tryz.zeroCells178=z at hz
 have hL:=heap_alloc_new (w.alloc (.cells c 178)) (.cells z 178)
 rw [World.size_alloc] at hL
 have hw2:=World.setRow_alloc_new (w.alloc (.cells c 178)) z c 178
 rw [World.size_alloc] at hw2
 go_enter Tryz.func94,Tryz.ntmps94
 go_wp2_with (first|(go_at_call 99;refine (htab _).mono ?_;rintro e w' ⟨rfl,rfl⟩)|(refine wpList_store_row rfl 178 _ _ rfl (w.heap.size+1) c rfl rfl 178 z (by first|exact hL|(rw [← hzz] at hL;exact hL)) e3 (hz.trans hn.symm) h1 ?_))
 have hbl:((w.alloc (.cells c 178)).alloc (.cells c 178)).heap[w.heap.size+1]? = some (.cells c 178 (0,0)):=by
  have:=heap_alloc_new (w.alloc (.cells c 178)) (.cells c 178)
  rwa [World.size_alloc] at this
 have hbe:Below w.heap.size w ((w.alloc (.cells c 178)).alloc (.cells c 178)):=((Below.refl _ w).alloc (Nat.le_refl _) _).alloc (by simp) _
 have hce:∀ i,i < l.length->∃ k o,a=some ⟨k,o,none⟩/\((w.alloc (.cells c 178)).alloc (.cells c 178)).cell? ⟨k,o+i,none⟩=some (.int .u8 (l.getD i 0)):=fun i hi=>by
  obtain ⟨k,o,e1,e2,e4⟩:=hb i hi
  refine ⟨k,o,e1,?_⟩
  rw [← e2]
  simp only [World.cell?]
  rw [hbe.block k e4]
 clear hb hL hw2 htab hzz
 generalize (w.alloc (.cells c 178)).alloc (.cells c 178)=W at *
 go_loop [0,11] (fun s' i'=>∃ i:Nat,i <= l.length/\i' = .int .i64 i/\s' = .int .u32 (fl s (l.take i))) (fun _ c=>match c with|.int _ i=>(l.length - i).toNat|_=>0)
 case atStart=>exact ⟨0,by omega,rfl,by rw [List.take_zero,hf0]⟩
 case round =>
  obtain ⟨i,hi,rfl,rfl⟩:=hrel
  by_cases hi':i < l.length
  ·obtain ⟨k,o,rfl,hc⟩:=hce i hi'
   have hst:=hf1 s l i hi'
   generalize fl s (l.take i)=s1 at hst ⊢
   generalize l.getD i 0=q at hst hc
   obtain ⟨x1,x2⟩:=hx (s1 / 16777216 % 256) q
   generalize hm:bits .xor .u8 (s1 / 16777216 % 256) q=m at hst x1 x2
   obtain ⟨m,rfl⟩:=Int.eq_ofNat_of_zero_le x1
   have hg:=hget m (by omega)
   have hcm:W.cell? ⟨w.heap.size+1,m,none⟩=some (.int .u32 (F m)):=by simp only [World.cell?,hbl];exact hg
   clear hce hget hf1 hf0 hx
   go_wp2
   exact ⟨⟨i+1,by omega,rfl,by rw [hst];rfl⟩,by simp only;omega⟩
  ·obtain rfl:i=l.length:=by omega
   rw [List.take_length]
   clear hf1 hf0 hx hget hce
   go_wp2
   go_ret
   exact ⟨rfl,hbe⟩
theorem ext_in (s:Int) (l:List Int) (a:Option Addr) (cap:Nat) (w:World) (hlen:l.length <= 5000) (hb:∀ i,i < l.length->∃ k o,a=some ⟨k,o,none⟩/\w.cell? ⟨k,o+i,none⟩=some (.int .u8 (l.getD i 0))/\k < w.heap.size) :
  Calls Tryz.prog 94 #[.int .u32 s,.slice a l.length cap] w fun e w'=>e = .returned (.int .u32 (l.foldl ext1 s))/\Below w.heap.size w w' :=
 ext_in' (crA 256) crT (fun s l=>l.foldl ext1 s) (fun _=>rfl) (fun s l i hi=>by
  rw [List.take_succ_eq_append_getElem hi,List.foldl_append]
  simp [ext1,hi]) (fun x y=>by
  have h:bits .xor .u8 x y=IntKind.u8.wrap ((BitVec.ofInt 8 x ^^^ BitVec.ofInt 8 y).toNat:Int):=rfl
  have h8:=(BitVec.ofInt 8 x ^^^ BitVec.ofInt 8 y).isLt
  rw [h,Am.wrap_nat .u8 rfl _ h8]
  omega) (crA_size _) crA_one (fun i hi=>by rw [crA_get hi,if_pos hi]) table_in s l a cap w hlen hb
end Go.Proofs.YtooepgpfaaddbaaGreat
namespace Go.Proofs.YtooepgpfaaddbaaGreat
open Go.Am Go.RowKit
def F94 (s:Int) (b:List Int):Option Int:=need (decide (b.length <= 5000)) <| some (b.foldl ext1 s)
noncomputable def body94:List AV->AR
 | [v0,v1]=>.pure (iK .u32 v0/\lK k_u8 1 v1/\(F94 (iA v0) (lA g_u8 v1)).isSome=true) (.int .u32 (gt (F94 (iA v0) (lA g_u8 v1))))
 | _=>.fail
theorem pure_below {P:Program} {f:FuncId} (hen:Enters P f) (body:List AV->AR)
  (hw:∀ (E:Env) (h:List ABlk) (l:List AV) (vs:Array Value) (ob:Prop) (v:AV),HR E h->body l = .pure ob v->ob->FR E l vs->∃ u,conc v=some u/\Calls P f vs E.w fun e w'=>e = .returned u/\Below E.w.heap.size E.w w'):FnOk P f (pureC body):=by
 have main:∀ (E:Env) (h:List ABlk) (l:List AV) (vs:Array Value) (ob:Prop) (v:AV),HR E h->FR E l vs->pureC body l h = .pure ob v->ob->Calls P f vs E.w (RetP E.w v):=by
  intro E h l vs ob v H F hr hob
  unfold pureC at hr
  cases hbd:body (roL h l) with
  | fail=>rw [hbd] at hr;cases hr
  | heap a b c=>rw [hbd] at hr;cases hr
  | pure ob' v' =>
   rw [hbd] at hr
   simp only [pureR,AR.pure.injEq] at hr
   obtain ⟨rfl,rfl⟩:=hr
   have F0:FR E.view (roL h l) vs:=by
    refine ⟨by rw [roL_length];exact F.1,fun i a v ha hv=>?_⟩
    rw [roL_get] at ha
    cases hi:l[i]? with
    | none=>rw [hi] at ha;cases ha
    | some a0 =>
     rw [hi] at ha
     simp only [Option.map_some,Option.some.injEq] at ha
     subst ha
     exact ro_VR H (F.2 i a0 v hi hv) (roObL_get hob.1 hi)
   obtain ⟨u,hc,hC⟩:=hw _ [] _ _ _ _ (view_HR E) hbd hob.2 F0
   refine Calls.mono hC ?_
   rintro e w' ⟨rfl,hB⟩
   exact ⟨u,rfl,hc,hB.os,hB.tape,hB.output,hB.size,hB.block⟩
 refine ⟨hen,fun E h l vs ob v h' H F hr hob=>?_,main⟩
 cases hc:pureC body l h with
 | fail=>rw [hc] at hr;cases hr
 | heap a b c=>exfalso;unfold pureC at hc;cases hbd:body (roL h l)<;>rw [hbd] at hc<;>cases hc
 | pure ob' v' =>
  rw [hc] at hr
  simp only [AR.out,Option.some.injEq,Prod.mk.injEq] at hr
  obtain ⟨rfl,rfl,rfl⟩:=hr
  refine (main E h l vs _ _ H F hc hob).mono ?_
  rintro e w' ⟨u,rfl,hu,hS⟩
  obtain ⟨H',X'⟩:=HR_same H hS
  exact ⟨u,_,rfl,rfl,X',H',conc_mk hu⟩
theorem ok94:FnOk Tryz.prog 94 (pureC body94):=by
 refine pure_below ⟨_,Tryz.func94,by kernel_rfl,by kernel_rfl⟩ body94 fun E h l vs ob v H hb hob F=>?_
 unfold body94 at hb
 split at hb
 ·rename_i v0 v1
  injection hb with q1 q2;subst q1 q2
  obtain ⟨k0,k1,hs⟩:=hob
  have hw0:=iK_wk k0
  have hw1:=lK_wk (fun r h=>w_u8 h) k1
  generalize iA v0=s at hs hw0 ⊢
  generalize lA g_u8 v1=b at hs hw1 ⊢
  obtain ⟨u1,u2,rfl,hu1,hu2⟩:=FR_two F
  obtain ⟨hl,e⟩:b.length <= 5000/\F94 s b=some (b.foldl ext1 s):=by
   unfold F94 at hs ⊢
   cases hd:decide (b.length <= 5000) with
   | false=>rw [hd] at hs;cases hs
   | true=>exact ⟨of_decide_eq_true hd,rfl⟩
  rw [e]
  have a1:=hw0.1 E u1 hu1
  have a2:=hw1.1 E u2 hu2
  refine ⟨_,rfl,?_⟩
  cases a1 with
  | int =>
   cases a2 with
   | ro _ _ _ _ a cap hn hcm hnl hz us ha h1 hc hrf =>
    refine ext_in s b a cap E.w hl fun i hi=>?_
    obtain ⟨k,o,rfl,hp,hcell⟩:=ha (by omega)
    refine ⟨k,o,rfl,?_,(H.prot k hp).1⟩
    have:=hcell i 0 hi (by omega)
    simp only [Nat.mul_one,Nat.add_zero] at this
    rw [this]
    have q:=hc i 0 hi (by omega)
    simp only [enR,c_u8,getL] at q
    generalize us i 0=z at q
    cases q with
    | int=>rfl
 ·cases hb
theorem fin_in (s:Int) (w:World):Calls Tryz.prog 93 #[.int .u32 s] w fun e w'=>e = .returned (.int .u32 (xorI .u32 4294967295 s))/\Below w.heap.size w w':=by
 go_enter Tryz.func93,Tryz.ntmps93
 go_wp2
 go_ret
 exact ⟨rfl,Below.refl _ w⟩
def F93 (s:Int):Option Int:=some (xorI .u32 4294967295 s)
noncomputable def body93:List AV->AR
 | [v0]=>.pure (iK .u32 v0/\(F93 (iA v0)).isSome=true) (.int .u32 (gt (F93 (iA v0))))
 | _=>.fail
theorem ok93:FnOk Tryz.prog 93 (pureC body93):=by
 refine pure_below ⟨_,Tryz.func93,by kernel_rfl,by kernel_rfl⟩ body93 fun E h l vs ob v H hb hob F=>?_
 unfold body93 at hb
 split at hb
 ·rename_i v0
  injection hb with q1 q2;subst q1 q2
  have hw0:=iK_wk hob.1
  generalize iA v0=s at hw0 ⊢
  obtain ⟨u1,rfl,hu1⟩:=FR_one F
  have a1:=hw0.1 E u1 hu1
  refine ⟨_,rfl,?_⟩
  cases a1 with
  | int=>exact fin_in s E.w
 ·cases hb
def hd (a:A6u8):THeader:=⟨0,13,false,false,false,false,false,false,false,0,⟨255,255,255,255,255,255⟩,a,⟨2,0,0,0,0,1⟩,⟨0,0,0,0,0,0⟩,0,0,0,0,false,false⟩
noncomputable def hdq (h:THeader):Bool:=@decide (h=hd h.A2) (Classical.propDecidable _)
theorem hdq_is {h:THeader} (q:hdq h=true):h=hd h.A2:=@of_decide_eq_true _ (Classical.propDecidable _) q
theorem hdq_hd (a:A6u8):hdq (hd a)=true:=@decide_eq_true _ (Classical.propDecidable _) rfl
end Go.Proofs.YtooepgpfaaddbaaGreat
