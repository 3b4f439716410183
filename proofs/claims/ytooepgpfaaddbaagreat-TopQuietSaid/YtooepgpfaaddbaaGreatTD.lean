/-
  The check value sees one changed bit.
-/
import Derived.Test.YtooepgpfaaddbaaGreatTC
namespace Go.Proofs.YtooepgpfaaddbaaGreat
open Go.Am
set_option linter.unusedVariables false
set_option linter.unusedSimpArgs false
def invL:List Nat:=[0,170,92,246,185,19,229,79,123,209,39,141,194,104,158,52,247,93,171,1,78,228,18,184,140,38,208,122,53,159,105,195,231,77,187,17,94,244,2,168,156,54,192,106,37,143,121,211,16,186,76,230,169,3,245,95,107,193,55,157,210,120,142,36,198,108,154,48,127,213,35,137,189,23,225,75,4,174,88,242,49,155,109,199,136,34,212,126,74,224,22,188,243,89,175,5,33,139,125,215,152,50,196,110,90,240,6,172,227,73,191,21,214,124,138,32,111,197,51,153,173,7,241,91,20,190,72,226,132,46,216,114,61,151,97,203,255,85,163,9,70,236,26,176,115,217,47,133,202,96,150,60,8,162,84,254,177,27,237,71,99,201,63,149,218,112,134,44,24,178,68,238,161,11,253,87,148,62,200,98,45,135,113,219,239,69,179,25,86,252,10,160,66,232,30,180,251,81,167,13,57,147,101,207,128,42,220,118,181,31,233,67,12,166,80,250,206,100,146,56,119,221,43,129,165,15,249,83,28,182,64,234,222,116,130,40,103,205,59,145,82,248,14,164,235,65,183,29,41,131,117,223,144,58,204,102]
def fc (n:Nat) (f:Nat->Nat):Nat:=Nat.rec (f 0) (fun m _=>f (m+1)) n
theorem fc_eq (n:Nat) (f:Nat->Nat):fc n f=f n:=by cases n<;>rfl
def crF:Nat->Nat->Nat
 | 0,r=>r
 | n+1,r=>fc (crF n r) fun x=>(cr (x:Int)).toNat
theorem cr_rng (x:Nat):∃ m:Nat,cr (x:Int)=m/\m < 4294967296:=by
 unfold cr
 split
 ·have h:=(BitVec.ofInt 32 ((x:Int) * 2 % 4294967296) ^^^ BitVec.ofInt 32 136331795).isLt
  exact ⟨_,wrap_nat .u32 rfl _ h,h⟩
 ·exact ⟨x * 2 % 4294967296,by omega,by omega⟩
theorem crF_ok:∀ (n r:Nat),r < 4294967296->crN n (r:Int)=crF n r/\crF n r < 4294967296
 | 0,r,h=>⟨rfl,h⟩
 | n+1,r,h=>by
  obtain ⟨h1,h2⟩:=crF_ok n r h
  obtain ⟨m,e,hm⟩:=cr_rng (crF n r)
  show cr (crN n r)=_/\_
  have e2:crF (n+1) r=m:=by
   show fc (crF n r) _=m
   rw [fc_eq,e];rfl
  rw [h1,e,e2]
  exact ⟨rfl,hm⟩
theorem inv_ok:∀ i:Fin 256,invL.getD (crF 8 (i.1 * 16777216) % 256) 0=i.1:=by decide +kernel
def tN (i:Nat):Nat:=crF 8 (i * 16777216)
theorem tN_ok {i:Nat} (h:i < 256):crT i=(tN i:Nat)/\tN i < 4294967296:=by
 have:=crF_ok 8 (i * 16777216) (by omega)
 unfold crT tN
 rw [← this.1]
 exact ⟨by rw [Int.natCast_mul];rfl,this.2⟩
theorem tN_inj {i j:Nat} (hi:i < 256) (hj:j < 256) (h:tN i % 256=tN j % 256):i=j:=by
 have a:=inv_ok ⟨i,hi⟩
 have b:=inv_ok ⟨j,hj⟩
 simp only at a b
 unfold tN at h
 rw [← a,← b,h]
def exN (s c:Nat):Nat:=(s * 256 % 4294967296) ^^^ tN ((s / 16777216) ^^^ c)
theorem x8 {s c:Nat} (hs:s < 4294967296) (hc:c < 256):(s / 16777216) ^^^ c < 256:=Nat.xor_lt_two_pow (n:=8) (by omega) hc
theorem exN_lt {s c:Nat} (hs:s < 4294967296) (hc:c < 256):exN s c < 4294967296:=Nat.xor_lt_two_pow (n:=32) (by omega) (tN_ok (x8 hs hc)).2
theorem eZ {s c:Nat} (hs:s < 4294967296) (hc:c < 256):ext1 s c=(exN s c:Nat):=by
 have e1:bits .xor .u8 ((s:Int) / 16777216 % 256) c=(((s / 16777216) ^^^ c:Nat):Int):=by
  have:((s:Int) / 16777216 % 256)=((s / 16777216:Nat):Int):=by omega
  rw [this]
  exact xorI_nat .u8 rfl _ _ (by show _ < 2 ^ 8;omega) (by show _ < 2 ^ 8;omega)
 unfold ext1
 rw [e1,Int.toNat_natCast,(tN_ok (x8 hs hc)).1]
 have e2:((s:Int) * 256 % 4294967296)=((s * 256 % 4294967296:Nat):Int):=by omega
 rw [e2]
 exact xorI_nat .u32 rfl _ _ (by show _ < 2 ^ 32;omega) (by show _ < 2 ^ 32;exact (tN_ok (x8 hs hc)).2)
theorem xor_can {a b c:Nat} (h:a ^^^ b=a ^^^ c):b=c:=by
 have:=congrArg (a ^^^ ·) h
 simpa [← Nat.xor_assoc] using this
theorem xor_can2 {a b c:Nat} (h:b ^^^ a=c ^^^ a):b=c:=xor_can (a:=a) (by rw [Nat.xor_comm,h,Nat.xor_comm])
theorem exN_key {s c s' c':Nat} (hs:s < 4294967296) (hc:c < 256) (hs':s' < 4294967296) (hc':c' < 256) (h:exN s c=exN s' c'):(s / 16777216) ^^^ c=(s' / 16777216) ^^^ c'/\s * 256 % 4294967296=s' * 256 % 4294967296:=by
 have hm:=congrArg (· % 2 ^ 8) h
 simp only [exN,Nat.xor_mod_two_pow] at hm
 have z:∀ x:Nat,x * 256 % 4294967296 % 2 ^ 8=0:=fun x=>by omega
 rw [z,z,Nat.zero_xor,Nat.zero_xor] at hm
 have e:=tN_inj (x8 hs hc) (x8 hs' hc') hm
 refine ⟨e,?_⟩
 unfold exN at h
 rw [e] at h
 exact xor_can2 h
theorem exN_state {s s' c:Nat} (hs:s < 4294967296) (hs':s' < 4294967296) (hc:c < 256) (h:exN s c=exN s' c):s=s':=by
 obtain ⟨h1,h2⟩:=exN_key hs hc hs' hc h
 have:=xor_can2 h1
 omega
theorem exN_byte {s c c':Nat} (hs:s < 4294967296) (hc:c < 256) (hc':c' < 256) (h:exN s c=exN s c'):c=c':=xor_can (exN_key hs hc hs hc' h).1
def By (l:List Int):Prop:=∀ q ∈ l,0 <= q/\q <= 255
theorem By_nat {q:Int} (h:0 <= q/\q <= 255):∃ c:Nat,q=c/\c < 256:=⟨q.toNat,by omega,by omega⟩
theorem fold_nat:∀ (l:List Int) (s:Nat),By l->s < 4294967296->∃ r:Nat,l.foldl ext1 (s:Int)=r/\r < 4294967296
 | [],s,_,hs=>⟨s,rfl,hs⟩
 | q::l,s,hb,hs=>by
  obtain ⟨c,rfl,hc⟩:=By_nat (hb q List.mem_cons_self)
  rw [List.foldl_cons,eZ hs hc]
  exact fold_nat l _ (fun x hx=>hb x (List.mem_cons_of_mem _ hx)) (exN_lt hs hc)
theorem fold_ne:∀ (l:List Int) (s s':Nat),By l->s < 4294967296->s' < 4294967296->s ≠ s'->l.foldl ext1 (s:Int) ≠ l.foldl ext1 (s':Int)
 | [],s,s',_,_,_,h=>fun e=>h (Int.ofNat.inj e)
 | q::l,s,s',hb,hs,hs',h=>by
  obtain ⟨c,rfl,hc⟩:=By_nat (hb q List.mem_cons_self)
  rw [List.foldl_cons,List.foldl_cons,eZ hs hc,eZ hs' hc]
  exact fold_ne l _ _ (fun x hx=>hb x (List.mem_cons_of_mem _ hx)) (exN_lt hs hc) (exN_lt hs' hc) fun e=>h (exN_state hs hs' hc e)
theorem fold_set:∀ (l:List Int) (i:Nat) (v:Int) (s:Nat),By l->(0 <= v/\v <= 255)->i < l.length->v ≠ gd l i->s < 4294967296->(l.set i v).foldl ext1 (s:Int) ≠ l.foldl ext1 (s:Int)
 | [],i,v,s,_,_,hi,_,_=>absurd hi (by simp)
 | q::l,0,v,s,hb,hv,_,hne,hs=>by
  obtain ⟨c,rfl,hc⟩:=By_nat (hb q List.mem_cons_self)
  obtain ⟨d,rfl,hd⟩:=By_nat hv
  rw [List.set_cons_zero,List.foldl_cons,List.foldl_cons,eZ hs hc,eZ hs hd]
  exact fold_ne l _ _ (fun x hx=>hb x (List.mem_cons_of_mem _ hx)) (exN_lt hs hd) (exN_lt hs hc) fun e=>hne (by
   show (d:Int)=(c:Int)
   rw [exN_byte hs hd hc e])
 | q::l,i+1,v,s,hb,hv,hi,hne,hs=>by
  obtain ⟨c,rfl,hc⟩:=By_nat (hb q List.mem_cons_self)
  rw [List.set_cons_succ,List.foldl_cons,List.foldl_cons,eZ hs hc]
  exact fold_set l i v _ (fun x hx=>hb x (List.mem_cons_of_mem _ hx)) hv (by simpa using hi) (by simpa [gd] using hne) (exN_lt hs hc)
theorem ck_nat {l:List Int} (h:By l):∃ r:Nat,l.foldl ext1 4294967295=r/\r < 4294967296/\ck l=((4294967295 ^^^ r:Nat):Int):=by
 obtain ⟨r,e,hr⟩:=fold_nat l 4294967295 h (by omega)
 have e:l.foldl ext1 4294967295=r:=e
 refine ⟨r,e,hr,?_⟩
 unfold ck
 rw [e]
 exact xorI_nat .u32 rfl 4294967295 r (by decide) hr
theorem ck_set {l:List Int} {i:Nat} {v:Int} (h:By l) (hv:0 <= v/\v <= 255) (hi:i < l.length) (hne:v ≠ gd l i):ck (l.set i v) ≠ ck l:=by
 have hb:By (l.set i v):=fun q hq=>by
  rcases List.mem_or_eq_of_mem_set hq with q1|rfl
  ·exact h q q1
  ·exact hv
 obtain ⟨r,e1,h1,c1⟩:=ck_nat h
 obtain ⟨r',e2,h2,c2⟩:=ck_nat hb
 rw [c1,c2]
 intro e
 have:=xor_can (Int.ofNat.inj e)
 exact fold_set l i v 4294967295 h hv hi hne (by omega) (by
  show (l.set i v).foldl ext1 4294967295=l.foldl ext1 4294967295
  rw [e1,e2,this])
theorem ck_rng {l:List Int} (h:By l):∃ n:Nat,ck l=n/\n < 4294967296:=by
 obtain ⟨r,_,h1,c1⟩:=ck_nat h
 exact ⟨_,c1,Nat.xor_lt_two_pow (n:=32) (by omega) h1⟩
theorem t4_nat {n:Nat} (h:n < 4294967296):t4 (n:Int)=[((n / 16777216:Nat):Int),((n / 65536 % 256:Nat):Int),((n / 256 % 256:Nat):Int),((n % 256:Nat):Int)]:=by
 unfold t4
 rw [show (24:Int)=((24:Nat):Int) from rfl,show (16:Int)=((16:Nat):Int) from rfl,show (8:Int)=((8:Nat):Int) from rfl]
 rw [bW .u32 n 24 (by decide),bW .u32 n 16 (by decide),bW .u32 n 8 (by decide),fQ (Int.natCast_nonneg _),fQ (Int.natCast_nonneg _),fQ (Int.natCast_nonneg _),fQ (Int.natCast_nonneg _)]
 simp only [List.cons.injEq,and_true]
 refine ⟨?_,?_,?_,?_⟩<;>omega
theorem t4_inj {l l':List Int} (h:By l) (h':By l') (e:t4 (ck l)=t4 (ck l')):ck l=ck l':=by
 obtain ⟨n,e1,hn⟩:=ck_rng h
 obtain ⟨m,e2,hm⟩:=ck_rng h'
 rw [e1,e2,t4_nat hn,t4_nat hm] at e
 rw [e1,e2]
 simp only [List.cons.injEq,and_true] at e
 omega
theorem bit_ne:∀ (q:Fin 256) (j:Fin 8),xorI .u8 (q.1:Int) (cE .u8 1 (j.1:Int)) ≠ q.1/\0 <= xorI .u8 (q.1:Int) (cE .u8 1 (j.1:Int))/\xorI .u8 (q.1:Int) (cE .u8 1 (j.1:Int)) <= 255:=by decide +kernel
end Go.Proofs.YtooepgpfaaddbaaGreat
