/-
  Buffers: what each step leaves.
-/
import Derived.Test.YtefiemaoacmdkaaBA
import Derived.Test.YtefiemaoacmdkaaBG
namespace Go.Proofs.Ytefiemaoacmdkaa
open Go.Am
set_option linter.unusedVariables false
set_option linter.unusedSimpArgs false
theorem vb_ng {b:TBuffer} (h:Vb b):Ng b:=by
 have h0:=h.1.1.1.2
 exact ⟨by have:=h.1.1.2.2;omega,by have:=h.2.1.1;omega,fun i hi=>by have:=(h.1.2 i hi).2.2.1.1;omega⟩
theorem vb_chk {b:TBuffer} (h:Vb b):F18 b=some 0:=by
 rcases cL b (vb_ng h) with h1|h1
 ·exact h1.2
 ·exact absurd h h1.1
def Oth (b n:TBuffer) (aid:Int):Prop:=∀ i:Nat,i < b.List.length->(gd b.List i).Aid=aid ∨ ∃ k:Nat,k < n.List.length/\gd n.List k=gd b.List i
def Lim (b n:TBuffer):Prop:=n.Limit=b.Limit/\n.Stay=b.Stay/\Vb n
theorem oth_self (b:TBuffer) (aid:Int):Oth b b aid:=fun i hi=>.inr ⟨i,hi,rfl⟩
theorem st_oth {b:TBuffer} {a:Nat} {s:Bool} {h:List TStored} (ha:a < b.List.length):Oth b (stB b a s h) (gd b.List a).Aid:=fun i hi=>by
 by_cases e:i=a
 ·subst e;exact .inl rfl
 ·exact .inr ⟨i,by rw [dO];exact hi,st_ne e⟩
theorem st_vbT {b:TBuffer} {a:Nat} {h:List TStored} (ha:a < b.List.length) (hv:Vb b) (hh:Qu h b.Limit 3):Vb (stB b a true h):=by
 refine ⟨⟨⟨hv.1.1.1,hv.1.1.2.1,by rw [dO];exact hv.1.1.2.2⟩,st_pe ha hv.1.2 hh (.inl rfl)⟩,hv.2.1,?_⟩
 exact .inr ⟨a,by rw [dO];exact ha,by rw [st_at ha]⟩
theorem st_held {b:TBuffer} {a:Nat} {w:List TStored} (hs:(gd b.List a).Asleep=true):stB b a true w={b with List:=b.List.set a {(gd b.List a) with Held:=w}}:=by
 show TBuffer.mk b.Limit b.Stay (b.List.set a ⟨(gd b.List a).Aid,true,w⟩) b.Group=TBuffer.mk b.Limit b.Stay (b.List.set a ⟨(gd b.List a).Aid,(gd b.List a).Asleep,w⟩) b.Group
 rw [hs]
theorem grp_vb {b:TBuffer} {g:List TStored} (hv:Vb b) (hq:Qu g b.Limit 0) (ha:g.length=0 ∨ Asl b):Vb {b with Group:=g}:=⟨hv.1,hq,ha⟩
theorem qu_nil {b:TBuffer} {top:Int} (hv:Vb b):Qu [] b.Limit top:=⟨by have:=hv.1.1.1.1;simp;omega,fun i hi=>by simp at hi⟩
/-! ### Sleep -/
theorem sleep_ok (b:TBuffer) (aid:Int) (hg:Ng b) (hq:Bq b) (hv:Vb b):∃ n e,F50 b aid=some (n,e)/\(n=zB/\e ≠ 0 ∨ e=0/\Lim b n/\Oth b n aid):=by
 have hc:=vb_chk hv
 have hl:=hg.1
 unfold F50
 rw [hc,Option.bind_some,yS (by rfl)]
 by_cases ha:1 <= aid/\aid <= 255
 ·rw [yS (by simp [yG];omega)]
  obtain ⟨a,P,pe⟩:=eN b hg hv aid (by omega)
  rw [pe,Option.bind_some]
  rcases Pl_at hv P with ⟨h1,h2⟩|⟨h1,h2⟩
  ·rw [decide_eq_true ⟨h1,h2⟩]
   simp only [Int.toNat_natCast]
   rw [yS (by rfl),fY b (Nb_of hg) hq,Option.bind_some,zR (yX h1)]
   refine ⟨stB b a true (gd b.List a).Held,0,rfl,.inr ⟨rfl,⟨rfl,rfl,st_vbT h1 hv (hv.1.2 a h1).2.2.1⟩,?_⟩⟩
   rw [← h2];exact st_oth h1
  ·rw [decide_eq_false h1,xA (by rfl)]
   exact ⟨_,_,rfl,.inl ⟨rfl,by omega⟩⟩
 ·rw [xA (by simp [yG];omega)]
  exact ⟨_,_,rfl,.inl ⟨rfl,by omega⟩⟩
/-! ### Join -/
theorem ins_gd {α:Type} [Inhabited α] {l:List α} {a i:Nat} {x:α} (ha:a <= l.length):gd (insL l (a:Int) [x]) i=if i < a then gd l i else if i=a then x else gd l (i - 1):=by
 have e:(l.take a).length=a:=by simp;omega
 unfold insL
 rw [Int.toNat_natCast,List.append_assoc]
 split
 ·rename_i h
  rw [uT (by omega),gd_take h]
 ·rename_i h
  rw [kA (by omega),e]
  split
  ·rename_i h2;subst h2;rw [Nat.sub_self];rfl
  ·rename_i h2
   obtain ⟨d,rfl⟩:∃ d,i=a+1+d:=⟨i - a - 1,by omega⟩
   rw [show a+1+d - a=d+1 by omega,show a+1+d - 1=a+d by omega,← gd_drop (L:=l) (p:=a) (i:=d)]
   rfl
theorem ins_len1 {α:Type} {l:List α} {a:Nat} {x:α} (ha:a <= l.length):(insL l (a:Int) [x]).length=l.length+1:=by unfold insL;simp;omega
def jnB (b:TBuffer) (a:Nat) (aid:Int):TBuffer:={b with List:=insL b.List (a:Int) [⟨aid,false,[]⟩]}
theorem jn_vb {b:TBuffer} {a:Nat} {aid:Int} (hv:Vb b) (P:Pl b aid a) (hn:∀ i,i < b.List.length->(gd b.List i).Aid ≠ aid) (ha:1 <= aid/\aid <= 255) (hl:b.List.length < 32):Vb (jnB b a aid):=by
 have q0:=qu_nil (top:=3) hv
 obtain ⟨p1,p2,p3⟩:=P
 obtain ⟨⟨⟨h1,h2,h3⟩,h4⟩,h5,h6⟩:=hv
 have hL:(jnB b a aid).List.length=b.List.length+1:=ins_len1 p1
 have hG:∀ i,gd (jnB b a aid).List i=if i < a then gd b.List i else if i=a then ⟨aid,false,[]⟩ else gd b.List (i - 1):=fun i=>ins_gd p1
 refine ⟨⟨⟨h1,h2,by rw [hL];omega⟩,fun i hi=>?_⟩,h5,?_⟩
 ·rw [hL] at hi
  unfold Pe kV
  rw [hG i,hG (i - 1)]
  by_cases c1:i < a
  ·obtain ⟨q1,q2,q3,q4⟩:=h4 i (by omega)
   unfold kV at q1
   rw [if_pos c1,if_pos (show i - 1 < a by omega)]
   exact ⟨q1,q2,q3,q4⟩
  ·by_cases c2:i=a
   ·subst c2
    rw [if_neg c1,if_pos rfl]
    refine ⟨?_,ha.2,q0,.inr rfl⟩
    by_cases c3:i=0
    ·rw [if_pos c3];show 0 < aid;omega
    ·rw [if_neg c3,if_pos (by omega)];exact p2 _ (by omega)
   ·rw [if_neg c1,if_neg c2,if_neg (show ¬ i=0 by omega),if_neg (show ¬ i - 1 < a by omega)]
    obtain ⟨q1,q2,q3,q4⟩:=h4 (i - 1) (by omega)
    refine ⟨?_,q2,q3,q4⟩
    by_cases c3:i - 1=a
    ·rw [if_pos c3]
     have:=p3 (i - 1) (by omega) (by omega)
     have:=hn (i - 1) (by omega)
     show aid < _
     omega
    ·rw [if_neg c3]
     unfold kV at q1
     rw [if_neg (by omega)] at q1
     exact q1
 ·rcases h6 with h|⟨i,i1,i2⟩
  ·exact .inl h
  ·refine .inr ?_
   by_cases c:i < a
   ·exact ⟨i,by rw [hL];omega,by rw [hG,if_pos c];exact i2⟩
   ·exact ⟨i+1,by rw [hL];omega,by rw [hG,if_neg (by omega),if_neg (by omega)];exact i2⟩
theorem jn_oth {b:TBuffer} {a:Nat} {aid:Int} (ha:a <= b.List.length):Oth b (jnB b a aid) aid:=fun i hi=>by
 have hL:(jnB b a aid).List.length=b.List.length+1:=ins_len1 ha
 have hG:∀ i,gd (jnB b a aid).List i=if i < a then gd b.List i else if i=a then ⟨aid,false,[]⟩ else gd b.List (i - 1):=fun i=>ins_gd ha
 refine .inr ?_
 by_cases c:i < a
 ·exact ⟨i,by rw [hL];omega,by rw [hG,if_pos c]⟩
 ·exact ⟨i+1,by rw [hL];omega,by rw [hG,if_neg (by omega),if_neg (by omega)];rfl⟩
theorem join_ok (b:TBuffer) (aid:Int) (hg:Ng b) (hq:Bq b) (hv:Vb b):∃ n e,F40 b aid=some (n,e)/\(n=zB/\e ≠ 0 ∨ e=0/\Lim b n/\Oth b n aid):=by
 have hc:=vb_chk hv
 have hl:=hg.1
 unfold F40
 rw [hc,Option.bind_some,yS (by rfl)]
 by_cases ha:1 <= aid/\aid <= 255
 ·rw [yS (by simp [yG];omega)]
  obtain ⟨a,P,pe⟩:=eN b hg hv aid (by omega)
  rw [pe,Option.bind_some]
  rcases Pl_at hv P with ⟨h1,h2⟩|⟨h1,h2⟩
  ·rw [decide_eq_true ⟨h1,h2⟩,xA (by rfl)]
   exact ⟨_,_,rfl,.inl ⟨rfl,by omega⟩⟩
  ·rw [decide_eq_false h1,yS (by rfl)]
   have hm:=hv.1.1.2.2
   by_cases hf:b.List.length=32
   ·rw [xA (by simp [xK];omega)]
    exact ⟨_,_,rfl,.inl ⟨rfl,by omega⟩⟩
   ·have hp:=P.1
    rw [yS (by simp [xK];omega),fY b (Nb_of hg) hq,Option.bind_some,zR (insb_iff.2 ⟨by omega,by simp only;omega,by omega⟩)]
    exact ⟨jnB b a aid,0,rfl,.inr ⟨rfl,⟨rfl,rfl,jn_vb hv P h2 ha (by omega)⟩,jn_oth hp⟩⟩
 ·rw [xA (by simp [yG];omega)]
  exact ⟨_,_,rfl,.inl ⟨rfl,by omega⟩⟩
/-! ### Leave -/
theorem sdel_ok (l:List TSleeper) (aid:Int) (hl:l.length <= 10000):F83_0 l aid=some (l.filter fun q=>!bEq q.Aid aid):=by
 unfold F83_0 F106_1
 exact del_gen l (fun q=>bEq q.Aid aid) (fun q=>F84_0 q aid) hl (fun q _=>rfl) (fun s=>rfl) (fun s=>rfl)
theorem aid_pw {b:TBuffer} (h:Vb b):b.List.Pairwise (fun x y=>x.Aid < y.Aid):=by
 rw [List.pairwise_iff_getElem]
 intro i j hi hj hij
 rw [jE hi,jE hj]
 exact aid_lt h hij hj
theorem fil_vb {b:TBuffer} (hv:Vb b) (p:TSleeper->Bool) (g:List TStored) (hq:Qu g b.Limit 0) (ha:g.length=0 ∨ Asl {b with List:=b.List.filter p}):Vb (TBuffer.mk b.Limit b.Stay (b.List.filter p) g):=by
 have hs:=(aid_pw hv).filter p
 rw [List.pairwise_iff_getElem] at hs
 have hl:=List.length_filter_le p b.List
 refine ⟨⟨⟨hv.1.1.1,hv.1.1.2.1,by have:=hv.1.1.2.2;show (b.List.filter p).length <= 32;omega⟩,fun i hi=>?_⟩,hq,ha⟩
 replace hi:i < (b.List.filter p).length:=hi
 have hm:=vD hi
 rw [List.mem_filter] at hm
 obtain ⟨j,hj,e⟩:=jA hm.1
 obtain ⟨q1,q2,q3,q4⟩:=hv.1.2 j hj
 have r:=aid_rng hv hj
 rw [e] at q2 q3 q4 r
 refine ⟨?_,q2,q3,q4⟩
 unfold kV
 split
 ·show 0 < (gd (b.List.filter p) i).Aid;omega
 ·rename_i h0
  have:=hs (i - 1) i (by omega) hi (by omega)
  rw [jE,jE] at this
  exact this
theorem fil_oth {b:TBuffer} {aid:Int} {n:TBuffer} (hn:n.List=b.List.filter fun q=>!bEq q.Aid aid):Oth b n aid:=fun i hi=>by
 by_cases e:(gd b.List i).Aid=aid
 ·exact .inl e
 ·have hm:gd b.List i ∈ b.List.filter fun q=>!bEq q.Aid aid:=List.mem_filter.2 ⟨vD hi,by simp [xK,e]⟩
  rw [← hn] at hm
  exact .inr (jA hm)
theorem leave_ok (b:TBuffer) (aid:Int) (hg:Ng b) (hq:Bq b) (hv:Vb b):∃ d n e,F42 b aid=some (d,n,e)/\(d=[]/\n=zB/\e ≠ 0 ∨ e=0/\Lim b n/\Oth b n aid):=by
 have hc:=vb_chk hv
 have hl:=hg.1
 unfold F42
 rw [hc,Option.bind_some,yS (by rfl)]
 by_cases ha:1 <= aid/\aid <= 255
 ·rw [yS (by simp [yG];omega)]
  obtain ⟨a,P,pe⟩:=eN b hg hv aid (by omega)
  rw [pe,Option.bind_some]
  rcases Pl_at hv P with ⟨h1,h2⟩|⟨h1,h2⟩
  ·rw [decide_eq_true ⟨h1,h2⟩]
   simp only [Int.toNat_natCast]
   have hh:=hg.2.2 a h1
   have h22:=hg.2.1
   have hfl:=List.length_filter_le (fun q:TSleeper=>!bEq q.Aid aid) b.List
   rw [yS (by rfl),fY b (Nb_of hg) hq,Option.bind_some,zR (yX h1),eH _ (by omega),Option.bind_some,sdel_ok _ _ (by omega),Option.bind_some]
   obtain ⟨q,q1,q2⟩:=aslp_ok {b with List:=b.List.filter fun q=>!bEq q.Aid aid} (by simp only;omega)
   rw [q1,Option.bind_some]
   cases q with
   | false =>
    rw [xA (by rfl),eH _ (by omega),Option.bind_some,tF (by simp;omega) (by simp;omega)]
    exact ⟨_,_,_,rfl,.inr ⟨rfl,⟨rfl,rfl,fil_vb hv _ [] (qu_nil hv) (.inl rfl)⟩,fil_oth rfl⟩⟩
   | true =>
    rw [yS (by rfl),tF (by simp;omega) (by simp;omega)]
    exact ⟨_,_,_,rfl,.inr ⟨rfl,⟨rfl,rfl,fil_vb hv _ b.Group hv.2.1 (.inr (q2.1 rfl))⟩,fil_oth rfl⟩⟩
  ·rw [decide_eq_false h1,xA (by rfl)]
   exact ⟨_,_,_,rfl,.inl ⟨rfl,rfl,by omega⟩⟩
 ·rw [xA (by simp [yG];omega)]
  exact ⟨_,_,_,rfl,.inl ⟨rfl,rfl,by omega⟩⟩
/-! ### Queues that grow -/
theorem late_ok (l:List TStored) (now:Int) {lim top:Int} (h:Qu l lim top) (hn:l.length <= 1000):∃ c,F62 l now=some c/\(c=false->∀ i:Nat,i < l.length->(gd l i).At <= now):=by
 unfold F62
 rcases Nat.eq_zero_or_pos l.length with h0|h0
 ·rw [zR (by rw [h0];rfl)]
  exact ⟨_,rfl,fun _ i hi=>by omega⟩
 ·have e:wr .i64 ((l.length:Nat) - 1)=((l.length - 1:Nat):Int):=by rw [jF (by omega)];omega
  have ep:bLt 0 ((l.length:Nat):Int)=true:=by simp [yG];omega
  rw [e,Int.toNat_natCast,zR (by rw [yX (by omega)];exact cself rfl),ep,Bool.true_and]
  refine ⟨_,rfl,fun hc i hi=>?_⟩
  have hb:(gd l (l.length - 1)).At <= now:=by
   simp only [yG,decide_eq_false_iff_not] at hc
   omega
  have pw:=adj_le (fun q=>q.At) l fun i hi h0=>(h.2 i hi).2.2 h0
  rw [List.pairwise_iff_getElem] at pw
  rcases Nat.lt_or_eq_of_le (show i <= l.length - 1 by omega) with q|q
  ·have:=pw i (l.length - 1) hi (by omega) q
   rw [jE,jE] at this
   omega
  ·rw [q];exact hb
theorem qu_snoc {l:List TStored} {x:TStored} {lim top:Int} (h:Qu l lim top) (hl:(l.length:Int) < lim) (hc:x.Cat <= top) (ht:0 <= x.At/\x.At <= 1099511627776) (ho:∀ i:Nat,i < l.length->(gd l i).At <= x.At):Qu (l ++ [x]) lim top:=by
 refine ⟨by simp;omega,fun i hi=>?_⟩
 simp at hi
 unfold Qe
 rcases Nat.lt_or_eq_of_le (Nat.le_of_lt_succ hi) with q|rfl
 ·rw [uT q,uT (show i - 1 < l.length by omega)]
  exact h.2 i q
 ·rw [kA (Nat.le_refl _),Nat.sub_self]
  refine ⟨hc,ht,fun h0=>?_⟩
  rw [uT (show l.length - 1 < l.length by omega)]
  exact ho _ (by omega)
theorem qu_full {l:List TStored} {k:Nat} {x:TStored} {lim top:Int} (hk:k < l.length) (h:Qu l lim top) (hc:x.Cat <= top) (ht:0 <= x.At/\x.At <= 1099511627776) (ho:∀ i:Nat,i < l.length->(gd l i).At <= x.At):Qu (eA l k ((k+1:Nat):Int) ++ [x]) lim top:=by
 refine qu_snoc (del_qu hk h) (by rw [eC hk];have:=h.1;omega) hc ht fun i hi=>?_
 obtain ⟨j,hj,e⟩:=jA (del_mem (vD hi))
 rw [← e]
 exact ho j hj
theorem mput_ok (r5:Int × Bool) (r8:TBuffer) (a:Nat) (e:r5.1=a) (l:List TStored) (el:(gd r8.List a).Held=l) (h0:0 < l.length) (hn:l.length <= 1000) :
  ∃ k:Nat,k < l.length/\xH (fun s=>F24_L1 r5 r8 s.1 s.2) ((1:Int),gd l 0)=some (.inl (gd l k)):=by
 obtain ⟨r,l1,l2⟩:=qQ (step:=fun s:Int × TStored=>F24_L1 r5 r8 s.1 s.2) (fun s=>∃ i k:Nat,s=((i:Int),gd l k)/\i <= l.length/\k < l.length)
  (fun r=>∃ k:Nat,r = .inl (gd l k)/\k < l.length) (fun s=>(l.length - s.1).toNat)
  (fun s hI=>by
   obtain ⟨i,k,rfl,h1,h2⟩:=hI
   unfold F24_L1 F90
   simp only [e,Int.toNat_natCast,el,cmp_ok,Option.bind_some]
   by_cases hi:i < l.length
   ·rw [xA (by simp [yG];omega),zR (yX hi),xL hi (by omega),zR (yX hi)]
    cases hc:bLt (if (gd l i).Cat < (gd l k).Cat then (-1:Int) else if (gd l k).Cat < (gd l i).Cat then 1 else 0) 0 with
    | true=>exact .inr ⟨_,rfl,⟨i+1,i,rfl,by omega,hi⟩,by simp only;omega⟩
    | false=>exact .inr ⟨_,rfl,⟨i+1,k,rfl,by omega,h2⟩,by simp only;omega⟩
   ·obtain rfl:i=l.length:=by omega
    rw [yS (by simp [yG])]
    exact .inl ⟨_,rfl,k,rfl,h2⟩)
  ((1:Int),gd l 0) ⟨1,0,rfl,h0,h0⟩
 obtain ⟨k,rfl,k1⟩:=l2
 exact ⟨k,k1,l1⟩
theorem mgrp_ok (r:TBuffer) (l:List TStored) (el:r.Group=l) (h0:0 < l.length) (hn:l.length <= 1000) :
  ∃ k:Nat,k < l.length/\xH (fun s=>F41_L1 r s.1 s.2) ((1:Int),gd l 0)=some (.inl (gd l k)):=by
 obtain ⟨r,l1,l2⟩:=qQ (step:=fun s:Int × TStored=>F41_L1 r s.1 s.2) (fun s=>∃ i k:Nat,s=((i:Int),gd l k)/\i <= l.length/\k < l.length)
  (fun r=>∃ k:Nat,r = .inl (gd l k)/\k < l.length) (fun s=>(l.length - s.1).toNat)
  (fun s hI=>by
   obtain ⟨i,k,rfl,h1,h2⟩:=hI
   unfold F41_L1 F90
   simp only [Int.toNat_natCast,el,cmp_ok,Option.bind_some]
   by_cases hi:i < l.length
   ·rw [xA (by simp [yG];omega),zR (yX hi),xL hi (by omega),zR (yX hi)]
    cases hc:bLt (if (gd l i).Cat < (gd l k).Cat then (-1:Int) else if (gd l k).Cat < (gd l i).Cat then 1 else 0) 0 with
    | true=>exact .inr ⟨_,rfl,⟨i+1,i,rfl,by omega,hi⟩,by simp only;omega⟩
    | false=>exact .inr ⟨_,rfl,⟨i+1,k,rfl,by omega,h2⟩,by simp only;omega⟩
   ·obtain rfl:i=l.length:=by omega
    rw [yS (by simp [yG])]
    exact .inl ⟨_,rfl,k,rfl,h2⟩)
  ((1:Int),gd l 0) ⟨1,0,rfl,h0,h0⟩
 obtain ⟨k,rfl,k1⟩:=l2
 exact ⟨k,k1,l1⟩
theorem pidx1_ok (l:List TStored) (c:Int) (k:Nat) (hk:k < l.length) (e:(gd l k).Cat=c) (hn:l.length <= 1000) :
  ∃ k:Nat,k < l.length/\F58_0 l c=some (k:Int):=by
 unfold F58_0
 obtain ⟨r,l1,l2⟩:=tV (step:=fun s=>F58_0_L1 l c s) l.length (fun n=>∀ j:Nat,j < n->(gd l j).Cat ≠ c)
  (fun r=>∃ k:Nat,r = .inr (k:Int)/\k < l.length) (fun i hi=>by omega)
  (fun i hi hI=>by
   unfold F58_0_L1 F91_0
   rw [xA (by simp [yG];omega),zR (yX hi),Int.toNat_natCast,Option.bind_some]
   by_cases hc:(gd l i).Cat=c
   ·rw [xA (by simp [xK,hc])]
    exact .inl ⟨_,rfl,i,rfl,hi⟩
   ·rw [yS (by simp [xK,hc]),xL hi (by omega)]
    refine .inr ⟨rfl,fun j hj=>?_⟩
    rcases Nat.lt_or_eq_of_le (Nat.le_of_lt_succ hj) with h|rfl
    ·exact hI j h
    ·exact hc)
  (fun hI=>absurd e (hI k hk))
 obtain ⟨k,rfl,k1⟩:=l2
 exact ⟨k,k1,fN l1⟩
/-! ### Put -/
theorem put_ok (b:TBuffer) (aid cat:Int) (f:TFrame) (t:Int) (hg:Ng b) (hq:Bq b) (hv:Vb b) (hf:Fq f):∃ o d n e,F24 b aid cat f t=some (o,d,n,e)/\(o=[]/\d=[]/\n=zB/\e ≠ 0 ∨ e=0/\Lim b n/\Oth b n aid):=by
 have hc:=vb_chk hv
 have hl:=hg.1
 unfold F24 F61
 rw [hc,Option.bind_some,yS (by rfl)]
 by_cases ha:1 <= aid/\aid <= 255
 ·rw [yS (by simp [yG];omega)]
  obtain ⟨a,P,pe⟩:=eN b hg hv aid (by omega)
  rw [pe,Option.bind_some]
  rcases Pl_at hv P with ⟨h1,h2⟩|⟨h1,h2⟩
  ·rw [decide_eq_true ⟨h1,h2⟩]
   simp only [Int.toNat_natCast]
   rw [yS (by rfl),btwinf_ok a b h1 (Nb_of hg) hq,Option.bind_some,zR (yX h1),zR (cself (by rfl))]
   simp only [yN]
   by_cases hm:cat <= 3/\0 <= t/\t <= 1099511627776
   ·rw [yS (by simp [yG,vY];omega)]
    have hQ:=(hv.1.2 a h1).2.2.1
    have hh:=hg.2.2 a h1
    have st:∀ {w:List TStored},(gd b.List a).Asleep=true->Qu w b.Limit 3->Lim b {b with List:=b.List.set a {(gd b.List a) with Held:=w}} /\ Oth b {b with List:=b.List.set a {(gd b.List a) with Held:=w}} aid:=fun {w} hs hw=>by
     have V:=st_vbT (h:=w) h1 hv hw
     have O:=st_oth (s:=true) (h:=w) h1
     rw [st_held hs] at V O
     rw [h2] at O
     exact ⟨⟨rfl,rfl,V⟩,O⟩
    obtain ⟨c,c1,c2⟩:=late_ok _ t hQ (by omega)
    rw [c1,Option.bind_some]
    cases c with
    | true=>exact ⟨_,_,_,_,rfl,.inl ⟨rfl,rfl,rfl,by omega⟩⟩
    | false =>
     have hold:=c2 rfl
     rw [cond_false,twin_ok f hf,Option.bind_some]
     rcases Bool.eq_false_or_eq_true (gd b.List a).Asleep with hs|hs
     case inr =>
      obtain ⟨r,r1,r2,_⟩:=hand_ok [f] (by simp)
      rw [yS hs,r1,Option.bind_some,Option.bind_some,set_gd]
      exact ⟨_,_,_,_,rfl,.inr ⟨rfl,⟨rfl,rfl,hv⟩,oth_self b aid⟩⟩
     case inl =>
      rw [xA hs]
      have h0:=hv.1.1.1.1
      by_cases hfull:((gd b.List a).Held.length:Int)=b.Limit
      ·rw [xA (by simp only [xK,decide_eq_true_eq];exact hfull),yS (by simp only [yG,decide_eq_false_iff_not];omega),zR (inb_0 (by omega))]
       obtain ⟨m,m1,m2⟩:=mput_ok ((a:Int),true) b a rfl (gd b.List a).Held rfl (by omega) (by omega)
       rw [vF m2]
       rcases Bool.eq_false_or_eq_true (bLt cat (gd (gd b.List a).Held m).Cat) with hlow|hlow
       ·rw [xA hlow,Option.bind_some,Option.bind_some,set_gd]
        exact ⟨_,_,_,_,rfl,.inr ⟨rfl,⟨rfl,rfl,hv⟩,oth_self b aid⟩⟩
       ·obtain ⟨k,k1,k2⟩:=pidx1_ok (gd b.List a).Held _ m m1 rfl (by omega)
        rw [yS hlow,k2,Option.bind_some,zR (yX k1),xL k1 (by omega),zR (by unfold delb;simp;omega),Option.bind_some,Option.bind_some,tF (by rw [eC k1];omega) (by rw [eC k1];omega),Option.bind_some,Option.bind_some,Option.bind_some]
        exact ⟨_,_,_,_,rfl,.inr ⟨rfl,st hs (qu_full k1 hQ hm.1 hm.2 hold)⟩⟩
      ·have:=hQ.1
       rw [yS (by simp only [xK,decide_eq_false_iff_not];exact hfull),tF (by omega) (by omega),Option.bind_some,Option.bind_some,Option.bind_some]
       exact ⟨_,_,_,_,rfl,.inr ⟨rfl,st hs (qu_snoc hQ (by omega) hm.1 hm.2 hold)⟩⟩
   ·rw [xA (by simp [yG,vY];omega)]
    exact ⟨_,_,_,_,rfl,.inl ⟨rfl,rfl,rfl,by omega⟩⟩
  ·rw [decide_eq_false h1,xA (by rfl)]
   exact ⟨_,_,_,_,rfl,.inl ⟨rfl,rfl,rfl,by omega⟩⟩
 ·rw [xA (by simp [yG];omega)]
  exact ⟨_,_,_,_,rfl,.inl ⟨rfl,rfl,rfl,by omega⟩⟩
theorem pgrp_ok (b:TBuffer) (f:TFrame) (t:Int) (aid:Int) (hg:Ng b) (hq:Bq b) (hv:Vb b) (hf:Fq f):∃ o d n e,F41 b f t=some (o,d,n,e)/\(o=[]/\d=[]/\n=zB/\e ≠ 0 ∨ e=0/\Lim b n/\Oth b n aid):=by
 have hc:=vb_chk hv
 have hl:=hg.1
 unfold F41 F61
 rw [hc,Option.bind_some,yS (by rfl),Option.bind_some]
 by_cases hm:0 <= t/\t <= 1099511627776
 ·rw [yS (by simp [vY];omega)]
  have hQ:=hv.2.1
  have hh:=hg.2.1
  obtain ⟨c,c1,c2⟩:=late_ok _ t hQ (by omega)
  rw [c1,Option.bind_some]
  cases c with
  | true=>exact ⟨_,_,_,_,rfl,.inl ⟨rfl,rfl,rfl,by omega⟩⟩
  | false =>
   have hold:=c2 rfl
   obtain ⟨q,q1,q2⟩:=aslp_ok b (by omega)
   rw [cond_false,fY b (Nb_of hg) hq,Option.bind_some,twin_ok f hf,Option.bind_some,q1,Option.bind_some]
   cases q with
   | false =>
    obtain ⟨r,r1,r2,_⟩:=hand_ok [f] (by simp)
    rw [cond_false,r1,Option.bind_some]
    exact ⟨_,_,_,_,rfl,.inr ⟨rfl,⟨rfl,rfl,hv⟩,oth_self b aid⟩⟩
   | true =>
    have hA:=q2.1 rfl
    rw [cond_true]
    have h0:=hv.1.1.1.1
    by_cases hfull:(b.Group.length:Int)=b.Limit
    ·rw [xA (by simp only [xK,decide_eq_true_eq];exact hfull),yS (by simp only [yG,decide_eq_false_iff_not];omega),zR (inb_0 (by omega))]
     obtain ⟨m,m1,m2⟩:=mgrp_ok b b.Group rfl (by omega) (by omega)
     rw [vF m2]
     rcases Bool.eq_false_or_eq_true (bLt 0 (gd b.Group m).Cat) with hlow|hlow
     ·rw [xA hlow]
      exact ⟨_,_,_,_,rfl,.inr ⟨rfl,⟨rfl,rfl,hv⟩,oth_self b aid⟩⟩
     ·obtain ⟨k,k1,k2⟩:=pidx1_ok b.Group _ m m1 rfl (by omega)
      rw [yS hlow,k2,Option.bind_some,zR (yX k1),xL k1 (by omega),zR (by unfold delb;simp;omega),Option.bind_some,Option.bind_some,tF (by rw [eC k1];omega) (by rw [eC k1];omega)]
      exact ⟨_,_,_,_,rfl,.inr ⟨rfl,⟨rfl,rfl,grp_vb hv (qu_full k1 hQ (by show (0:Int) <= 0;omega) hm hold) (.inr hA)⟩,fun i hi=>.inr ⟨i,hi,rfl⟩⟩⟩
    ·have:=hQ.1
     rw [yS (by simp only [xK,decide_eq_false_iff_not];exact hfull),tF (by omega) (by omega)]
     exact ⟨_,_,_,_,rfl,.inr ⟨rfl,⟨rfl,rfl,grp_vb hv (qu_snoc hQ (by omega) (by show (0:Int) <= 0;omega) hm hold) (.inr hA)⟩,fun i hi=>.inr ⟨i,hi,rfl⟩⟩⟩
 ·rw [xA (by simp [vY];omega)]
  exact ⟨_,_,_,_,rfl,.inl ⟨rfl,rfl,rfl,by omega⟩⟩
end Go.Proofs.Ytefiemaoacmdkaa
