/-
  Buffers: what each step leaves.
-/
import Derived.Test.YtefiemaoacmdkaaBA
import Derived.Test.YtefiemaoacmdkaaBG
namespace Go.Proofs.Ytefiemaoacmdkaa
open Go.Am
set_option linter.unusedVariables false
set_option linter.unusedSimpArgs false
theorem qu_nil {b:TBuffer} {top:Int} (hv:Vb b):Qu [] b.Limit top:=⟨by have:=hv.1.1.1.1;simp;omega,fun i hi=>by simp at hi⟩
theorem ins_gd {α:Type} [Inhabited α] {l:List α} {a i:Nat} {x:α} (ha:a <= l.length):gd (insL l (a:Int) [x]) i=if i < a then gd l i else if i=a then x else gd l (i - 1):=by
 have e:(l.take a).length=a:=by simp;omega
 unfold insL
 rw [Int.toNat_natCast,List.append_assoc]
 split
 ·rename_i h
  rw [kX (by omega),gd_take h]
 ·rename_i h
  rw [gK (by omega),e]
  split
  ·rename_i h2;subst h2;rw [Nat.sub_self];rfl
  ·rename_i h2
   obtain ⟨d,rfl⟩:∃ d,i=a+1+d:=⟨i - a - 1,by omega⟩
   rw [show a+1+d - a=d+1 by omega,show a+1+d - 1=a+d by omega,← gd_drop (L:=l) (p:=a) (i:=d)]
   rfl
theorem ins_len1 {α:Type} {l:List α} {a:Nat} {x:α} (ha:a <= l.length):(insL l (a:Int) [x]).length=l.length+1:=by unfold insL;simp;omega
def jnB (b:TBuffer) (a:Nat) (aid:Int):TBuffer:={b with List:=insL b.List (a:Int) [⟨aid,false,[]⟩]}
theorem jn_vb {b:TBuffer} {a:Nat} {aid:Int} (hv:Vb b) (P:Pl b aid a) (hn:∀ i,i < b.List.length->(gd b.List i).Aid ≠ aid) (ha:1 <= aid/\aid <= 255) (hl:b.List.length < 32):Vb (jnB b a aid):=by
 have q0:=qu_nil (top:=3) hv
 obtain ⟨p1,p2,p3⟩:=P
 obtain ⟨⟨⟨h1,h2,h3⟩,h4⟩,h5,h6⟩:=hv
 have hL:(jnB b a aid).List.length=b.List.length+1:=ins_len1 p1
 have hG:∀ i,gd (jnB b a aid).List i=if i < a then gd b.List i else if i=a then ⟨aid,false,[]⟩ else gd b.List (i - 1):=fun i=>ins_gd p1
 refine ⟨⟨⟨h1,h2,by rw [hL];omega⟩,fun i hi=>?_⟩,h5,?_⟩
 ·rw [hL] at hi
  unfold Pe fE
  rw [hG i,hG (i - 1)]
  by_cases c1:i < a
  ·obtain ⟨q1,q2,q3,q4⟩:=h4 i (by omega)
   unfold fE at q1
   rw [if_pos c1,if_pos (show i - 1 < a by omega)]
   exact ⟨q1,q2,q3,q4⟩
  ·by_cases c2:i=a
   ·subst c2
    rw [if_neg c1,if_pos rfl]
    refine ⟨?_,ha.2,q0,.inr rfl⟩
    by_cases c3:i=0
    ·rw [if_pos c3];show 0 < aid;omega
    ·rw [if_neg c3,if_pos (by omega)];exact p2 _ (by omega)
   ·rw [if_neg c1,if_neg c2,if_neg (show ¬ i=0 by omega),if_neg (show ¬ i - 1 < a by omega)]
    obtain ⟨q1,q2,q3,q4⟩:=h4 (i - 1) (by omega)
    refine ⟨?_,q2,q3,q4⟩
    by_cases c3:i - 1=a
    ·rw [if_pos c3]
     have:=p3 (i - 1) (by omega) (by omega)
     have:=hn (i - 1) (by omega)
     show aid < _
     omega
    ·rw [if_neg c3]
     unfold fE at q1
     rw [if_neg (by omega)] at q1
     exact q1
 ·rcases h6 with h|⟨i,i1,i2⟩
  ·exact .inl h
  ·refine .inr ?_
   by_cases c:i < a
   ·exact ⟨i,by rw [hL];omega,by rw [hG,if_pos c];exact i2⟩
   ·exact ⟨i+1,by rw [hL];omega,by rw [hG,if_neg (by omega),if_neg (by omega)];exact i2⟩
theorem sdel_ok (l:List TSleeper) (aid:Int) (hl:l.length <= 10000):F83_0 l aid=some (l.filter fun q=>!bEq q.Aid aid):=by
 unfold F83_0 F106_1
 exact del_gen l (fun q=>bEq q.Aid aid) (fun q=>F84_0 q aid) hl (fun q _=>rfl) (fun s=>rfl) (fun s=>rfl)
theorem aid_pw {b:TBuffer} (h:Vb b):b.List.Pairwise (fun x y=>x.Aid < y.Aid):=by
 rw [List.pairwise_iff_getElem]
 intro i j hi hj hij
 rw [bD hi,bD hj]
 exact aid_lt h hij hj
theorem late_ok (l:List TStored) (now:Int) {lim top:Int} (h:Qu l lim top) (hn:l.length <= 1000):∃ c,F62 l now=some c/\(c=false->∀ i:Nat,i < l.length->(gd l i).At <= now):=by
 unfold F62
 rcases Nat.eq_zero_or_pos l.length with h0|h0
 ·rw [need_true (by rw [h0];rfl)]
  exact ⟨_,rfl,fun _ i hi=>by omega⟩
 ·have e:wr .i64 ((l.length:Nat) - 1)=((l.length - 1:Nat):Int):=by rw [wr_in (by omega)];omega
  have ep:bLt 0 ((l.length:Nat):Int)=true:=by simp [bLt_eq];omega
  rw [e,Int.toNat_natCast,need_true (by rw [inb_nat (by omega)];exact cself rfl),ep,Bool.true_and]
  refine ⟨_,rfl,fun hc i hi=>?_⟩
  have hb:(gd l (l.length - 1)).At <= now:=by
   simp only [bLt_eq,decide_eq_false_iff_not] at hc
   omega
  have pw:=adj_le (fun q=>q.At) l fun i hi h0=>(h.2 i hi).2.2 h0
  rw [List.pairwise_iff_getElem] at pw
  rcases Nat.lt_or_eq_of_le (show i <= l.length - 1 by omega) with q|q
  ·have:=pw i (l.length - 1) hi (by omega) q
   rw [bD,bD] at this
   omega
  ·rw [q];exact hb
end Go.Proofs.Ytefiemaoacmdkaa
