/-
  Buffers: what each step leaves.
-/
import Derived.Test.YtefiemaoacmdkaaBA
import Derived.Test.YtefiemaoacmdkaaBG
namespace Go.Proofs.Ytefiemaoacmdkaa
open Go.Am
set_option linter.unusedVariables false
set_option linter.unusedSimpArgs false
theorem bN {b:TBuffer} (h:Vb b):Ng b:=by
 have h0:=h.1.1.1.2
 exact ⟨by have:=h.1.1.2.2;omega,by have:=h.2.1.1;omega,fun i hi=>by have:=(h.1.2 i hi).2.2.1.1;omega⟩
theorem dR {b:TBuffer} (h:Vb b):F18 b=some 0:=by
 rcases check_ok b (bN h) with h1|h1
 ·exact h1.2
 ·exact absurd h h1.1
theorem st_vbT {b:TBuffer} {a:Nat} {h:List TStored} (ha:a < b.List.length) (hv:Vb b) (hh:Qu h b.Limit 3):Vb (stB b a true h):=by
 refine ⟨⟨⟨hv.1.1.1,hv.1.1.2.1,by rw [fV];exact hv.1.1.2.2⟩,st_pe ha hv.1.2 hh (.inl rfl)⟩,hv.2.1,?_⟩
 exact .inr ⟨a,by rw [fV];exact ha,by rw [st_at ha]⟩
theorem st_held {b:TBuffer} {a:Nat} {w:List TStored} (hs:(gd b.List a).Asleep=true):stB b a true w={b with List:=b.List.set a {(gd b.List a) with Held:=w}}:=by
 show TBuffer.mk b.Limit b.Stay (b.List.set a ⟨(gd b.List a).Aid,true,w⟩) b.Group=TBuffer.mk b.Limit b.Stay (b.List.set a ⟨(gd b.List a).Aid,(gd b.List a).Asleep,w⟩) b.Group
 rw [hs]
theorem grp_vb {b:TBuffer} {g:List TStored} (hv:Vb b) (hq:Qu g b.Limit 0) (ha:g.length=0 ∨ Asl b):Vb {b with Group:=g}:=⟨hv.1,hq,ha⟩
theorem qu_nil {b:TBuffer} {top:Int} (hv:Vb b):Qu [] b.Limit top:=⟨by have:=hv.1.1.1.1;simp;omega,fun i hi=>by simp at hi⟩
/-! ### Sleep -/
/-! ### Join -/
theorem ins_gd {α:Type} [Inhabited α] {l:List α} {a i:Nat} {x:α} (ha:a <= l.length):gd (insL l (a:Int) [x]) i=if i < a then gd l i else if i=a then x else gd l (i - 1):=by
 have e:(l.take a).length=a:=by simp;omega
 unfold insL
 rw [Int.toNat_natCast,List.append_assoc]
 split
 ·rename_i h
  rw [vY (by omega),bX h]
 ·rename_i h
  rw [tP (by omega),e]
  split
  ·rename_i h2;subst h2;rw [Nat.sub_self];rfl
  ·rename_i h2
   obtain ⟨d,rfl⟩:∃ d,i=a+1+d:=⟨i - a - 1,by omega⟩
   rw [show a+1+d - a=d+1 by omega,show a+1+d - 1=a+d by omega,← gd_drop (L:=l) (p:=a) (i:=d)]
   rfl
theorem ins_len1 {α:Type} {l:List α} {a:Nat} {x:α} (ha:a <= l.length):(insL l (a:Int) [x]).length=l.length+1:=by unfold insL;simp;omega
def jnB (b:TBuffer) (a:Nat) (aid:Int):TBuffer:={b with List:=insL b.List (a:Int) [⟨aid,false,[]⟩]}
theorem jn_vb {b:TBuffer} {a:Nat} {aid:Int} (hv:Vb b) (P:Pl b aid a) (hn:∀ i,i < b.List.length->(gd b.List i).Aid ≠ aid) (ha:1 <= aid/\aid <= 255) (hl:b.List.length < 32):Vb (jnB b a aid):=by
 have q0:=qu_nil (top:=3) hv
 obtain ⟨p1,p2,p3⟩:=P
 obtain ⟨⟨⟨h1,h2,h3⟩,h4⟩,h5,h6⟩:=hv
 have hL:(jnB b a aid).List.length=b.List.length+1:=ins_len1 p1
 have hG:∀ i,gd (jnB b a aid).List i=if i < a then gd b.List i else if i=a then ⟨aid,false,[]⟩ else gd b.List (i - 1):=fun i=>ins_gd p1
 refine ⟨⟨⟨h1,h2,by rw [hL];omega⟩,fun i hi=>?_⟩,h5,?_⟩
 ·rw [hL] at hi
  unfold Pe jF
  rw [hG i,hG (i - 1)]
  by_cases c1:i < a
  ·obtain ⟨q1,q2,q3,q4⟩:=h4 i (by omega)
   unfold jF at q1
   rw [if_pos c1,if_pos (show i - 1 < a by omega)]
   exact ⟨q1,q2,q3,q4⟩
  ·by_cases c2:i=a
   ·subst c2
    rw [if_neg c1,if_pos rfl]
    refine ⟨?_,ha.2,q0,.inr rfl⟩
    by_cases c3:i=0
    ·rw [if_pos c3];show 0 < aid;omega
    ·rw [if_neg c3,if_pos (by omega)];exact p2 _ (by omega)
   ·rw [if_neg c1,if_neg c2,if_neg (show ¬ i=0 by omega),if_neg (show ¬ i - 1 < a by omega)]
    obtain ⟨q1,q2,q3,q4⟩:=h4 (i - 1) (by omega)
    refine ⟨?_,q2,q3,q4⟩
    by_cases c3:i - 1=a
    ·rw [if_pos c3]
     have:=p3 (i - 1) (by omega) (by omega)
     have:=hn (i - 1) (by omega)
     show aid < _
     omega
    ·rw [if_neg c3]
     unfold jF at q1
     rw [if_neg (by omega)] at q1
     exact q1
 ·rcases h6 with h|⟨i,i1,i2⟩
  ·exact .inl h
  ·refine .inr ?_
   by_cases c:i < a
   ·exact ⟨i,by rw [hL];omega,by rw [hG,if_pos c];exact i2⟩
   ·exact ⟨i+1,by rw [hL];omega,by rw [hG,if_neg (by omega),if_neg (by omega)];exact i2⟩
/-! ### Leave -/
theorem sdel_ok (l:List TSleeper) (aid:Int) (hl:l.length <= 10000):F83_0 l aid=some (l.filter fun q=>!bEq q.Aid aid):=by
 unfold F83_0 F106_1
 exact del_gen l (fun q=>bEq q.Aid aid) (fun q=>F84_0 q aid) hl (fun q _=>rfl) (fun s=>rfl) (fun s=>rfl)
theorem aid_pw {b:TBuffer} (h:Vb b):b.List.Pairwise (fun x y=>x.Aid < y.Aid):=by
 rw [List.pairwise_iff_getElem]
 intro i j hi hj hij
 rw [tV hi,tV hj]
 exact aid_lt h hij hj
theorem fil_vb {b:TBuffer} (hv:Vb b) (p:TSleeper->Bool) (g:List TStored) (hq:Qu g b.Limit 0) (ha:g.length=0 ∨ Asl {b with List:=b.List.filter p}):Vb (TBuffer.mk b.Limit b.Stay (b.List.filter p) g):=by
 have hs:=(aid_pw hv).filter p
 rw [List.pairwise_iff_getElem] at hs
 have hl:=List.length_filter_le p b.List
 refine ⟨⟨⟨hv.1.1.1,hv.1.1.2.1,by have:=hv.1.1.2.2;show (b.List.filter p).length <= 32;omega⟩,fun i hi=>?_⟩,hq,ha⟩
 replace hi:i < (b.List.filter p).length:=hi
 have hm:=xT hi
 rw [List.mem_filter] at hm
 obtain ⟨j,hj,e⟩:=uL hm.1
 obtain ⟨q1,q2,q3,q4⟩:=hv.1.2 j hj
 have r:=aid_rng hv hj
 rw [e] at q2 q3 q4 r
 refine ⟨?_,q2,q3,q4⟩
 unfold jF
 split
 ·show 0 < (gd (b.List.filter p) i).Aid;omega
 ·rename_i h0
  have:=hs (i - 1) i (by omega) hi (by omega)
  rw [tV,tV] at this
  exact this
/-! ### Queues that grow -/
theorem late_ok (l:List TStored) (now:Int) {lim top:Int} (h:Qu l lim top) (hn:l.length <= 1000):∃ c,F62 l now=some c/\(c=false->∀ i:Nat,i < l.length->(gd l i).At <= now):=by
 unfold F62
 rcases Nat.eq_zero_or_pos l.length with h0|h0
 ·rw [zP (by rw [h0];rfl)]
  exact ⟨_,rfl,fun _ i hi=>by omega⟩
 ·have e:wr .i64 ((l.length:Nat) - 1)=((l.length - 1:Nat):Int):=by rw [qB (by omega)];omega
  have ep:bLt 0 ((l.length:Nat):Int)=true:=by simp [yD];omega
  rw [e,Int.toNat_natCast,zP (by rw [yN (by omega)];exact cself rfl),ep,Bool.true_and]
  refine ⟨_,rfl,fun hc i hi=>?_⟩
  have hb:(gd l (l.length - 1)).At <= now:=by
   simp only [yD,decide_eq_false_iff_not] at hc
   omega
  have pw:=adj_le (fun q=>q.At) l fun i hi h0=>(h.2 i hi).2.2 h0
  rw [List.pairwise_iff_getElem] at pw
  rcases Nat.lt_or_eq_of_le (show i <= l.length - 1 by omega) with q|q
  ·have:=pw i (l.length - 1) hi (by omega) q
   rw [tV,tV] at this
   omega
  ·rw [q];exact hb
theorem qu_snoc {l:List TStored} {x:TStored} {lim top:Int} (h:Qu l lim top) (hl:(l.length:Int) < lim) (hc:x.Cat <= top) (ht:0 <= x.At/\x.At <= 1099511627776) (ho:∀ i:Nat,i < l.length->(gd l i).At <= x.At):Qu (l ++ [x]) lim top:=by
 refine ⟨by simp;omega,fun i hi=>?_⟩
 simp at hi
 unfold Qe
 rcases Nat.lt_or_eq_of_le (Nat.le_of_lt_succ hi) with q|rfl
 ·rw [vY q,vY (show i - 1 < l.length by omega)]
  exact h.2 i q
 ·rw [tP (Nat.le_refl _),Nat.sub_self]
  refine ⟨hc,ht,fun h0=>?_⟩
  rw [vY (show l.length - 1 < l.length by omega)]
  exact ho _ (by omega)
theorem qu_full {l:List TStored} {k:Nat} {x:TStored} {lim top:Int} (hk:k < l.length) (h:Qu l lim top) (hc:x.Cat <= top) (ht:0 <= x.At/\x.At <= 1099511627776) (ho:∀ i:Nat,i < l.length->(gd l i).At <= x.At):Qu (kH l k ((k+1:Nat):Int) ++ [x]) lim top:=by
 refine qu_snoc (del_qu hk h) (by rw [gI hk];have:=h.1;omega) hc ht fun i hi=>?_
 obtain ⟨j,hj,e⟩:=uL (del_mem (xT hi))
 rw [← e]
 exact ho j hj
theorem mput_ok (r5:Int × Bool) (r8:TBuffer) (a:Nat) (e:r5.1=a) (l:List TStored) (el:(gd r8.List a).Held=l) (h0:0 < l.length) (hn:l.length <= 1000) :
  ∃ k:Nat,k < l.length/\xC (fun s=>F24_L1 r5 r8 s.1 s.2) ((1:Int),gd l 0)=some (.inl (gd l k)):=by
 obtain ⟨r,l1,l2⟩:=uV (step:=fun s:Int × TStored=>F24_L1 r5 r8 s.1 s.2) (fun s=>∃ i k:Nat,s=((i:Int),gd l k)/\i <= l.length/\k < l.length)
  (fun r=>∃ k:Nat,r = .inl (gd l k)/\k < l.length) (fun s=>(l.length - s.1).toNat)
  (fun s hI=>by
   obtain ⟨i,k,rfl,h1,h2⟩:=hI
   unfold F24_L1 F90
   simp only [e,Int.toNat_natCast,el,cmp_ok,Option.bind_some]
   by_cases hi:i < l.length
   ·rw [yX (by simp [yD];omega),zP (yN hi),xO hi (by omega),zP (yN hi)]
    cases hc:bLt (if (gd l i).Cat < (gd l k).Cat then (-1:Int) else if (gd l k).Cat < (gd l i).Cat then 1 else 0) 0 with
    | true=>exact .inr ⟨_,rfl,⟨i+1,i,rfl,by omega,hi⟩,by simp only;omega⟩
    | false=>exact .inr ⟨_,rfl,⟨i+1,k,rfl,by omega,h2⟩,by simp only;omega⟩
   ·obtain rfl:i=l.length:=by omega
    rw [yR (by simp [yD])]
    exact .inl ⟨_,rfl,k,rfl,h2⟩)
  ((1:Int),gd l 0) ⟨1,0,rfl,h0,h0⟩
 obtain ⟨k,rfl,k1⟩:=l2
 exact ⟨k,k1,l1⟩
theorem mgrp_ok (r:TBuffer) (l:List TStored) (el:r.Group=l) (h0:0 < l.length) (hn:l.length <= 1000) :
  ∃ k:Nat,k < l.length/\xC (fun s=>F41_L1 r s.1 s.2) ((1:Int),gd l 0)=some (.inl (gd l k)):=by
 obtain ⟨r,l1,l2⟩:=uV (step:=fun s:Int × TStored=>F41_L1 r s.1 s.2) (fun s=>∃ i k:Nat,s=((i:Int),gd l k)/\i <= l.length/\k < l.length)
  (fun r=>∃ k:Nat,r = .inl (gd l k)/\k < l.length) (fun s=>(l.length - s.1).toNat)
  (fun s hI=>by
   obtain ⟨i,k,rfl,h1,h2⟩:=hI
   unfold F41_L1 F90
   simp only [Int.toNat_natCast,el,cmp_ok,Option.bind_some]
   by_cases hi:i < l.length
   ·rw [yX (by simp [yD];omega),zP (yN hi),xO hi (by omega),zP (yN hi)]
    cases hc:bLt (if (gd l i).Cat < (gd l k).Cat then (-1:Int) else if (gd l k).Cat < (gd l i).Cat then 1 else 0) 0 with
    | true=>exact .inr ⟨_,rfl,⟨i+1,i,rfl,by omega,hi⟩,by simp only;omega⟩
    | false=>exact .inr ⟨_,rfl,⟨i+1,k,rfl,by omega,h2⟩,by simp only;omega⟩
   ·obtain rfl:i=l.length:=by omega
    rw [yR (by simp [yD])]
    exact .inl ⟨_,rfl,k,rfl,h2⟩)
  ((1:Int),gd l 0) ⟨1,0,rfl,h0,h0⟩
 obtain ⟨k,rfl,k1⟩:=l2
 exact ⟨k,k1,l1⟩
theorem pidx1_ok (l:List TStored) (c:Int) (k:Nat) (hk:k < l.length) (e:(gd l k).Cat=c) (hn:l.length <= 1000) :
  ∃ k:Nat,k < l.length/\F58_0 l c=some (k:Int):=by
 unfold F58_0
 obtain ⟨r,l1,l2⟩:=gS (step:=fun s=>F58_0_L1 l c s) l.length (fun n=>∀ j:Nat,j < n->(gd l j).Cat ≠ c)
  (fun r=>∃ k:Nat,r = .inr (k:Int)/\k < l.length) (fun i hi=>by omega)
  (fun i hi hI=>by
   unfold F58_0_L1 F91_0
   rw [yX (by simp [yD];omega),zP (yN hi),Int.toNat_natCast,Option.bind_some]
   by_cases hc:(gd l i).Cat=c
   ·rw [yX (by simp [xJ,hc])]
    exact .inl ⟨_,rfl,i,rfl,hi⟩
   ·rw [yR (by simp [xJ,hc]),xO hi (by omega)]
    refine .inr ⟨rfl,fun j hj=>?_⟩
    rcases Nat.lt_or_eq_of_le (Nat.le_of_lt_succ hj) with h|rfl
    ·exact hI j h
    ·exact hc)
  (fun hI=>absurd e (hI k hk))
 obtain ⟨k,rfl,k1⟩:=l2
 exact ⟨k,k1,lp_inr l1⟩
/-! ### Put -/
end Go.Proofs.Ytefiemaoacmdkaa
