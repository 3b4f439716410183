/-
  TriggerBegins: both begin alike.
-/
import Derived.Test.YtnclkplbeenmdaaPB
namespace Go.Proofs.Ytnclkplbeenmdaa
open Go.Am
set_option linter.unusedVariables false
set_option linter.unusedSimpArgs false
def U8 (l:List TStored):Prop:=∀ q ∈ l,u8A q.Frame.Body=true
def U8b (b:TBuffer):Prop:=U8 b.Group/\∀ s ∈ b.List,U8 s.Held
theorem cself {c b:Bool} (h:b=true):(bif c then b else true)=true:=by subst h;cases c<;>rfl
theorem fsame_ok (a:TFrame) (h:u8A a.Body=true):F15 a a=some true:=by
 have q:u8b a.Body.length (enR c_u8 a.Body)=true:=(u8b_enR (f:=c_u8) (fun _=>rfl) a.Body).trans h
 unfold F15
 rw [need_true (cself q),need_true (cself q)]
 simp [bEq_eq,bB_eq,sEq]
theorem qsame_ok (l:List TStored) (hl:l.length <= 1000) (h:U8 l):F59 l l=some true:=by
 unfold F59
 rw [bif_f (by simp [bEq_eq])]
 have l1:=run_gen (step:=fun s=>F59_L1 l l s) (R:=Bool) l.length (fun i=>(i:Int)) () (fun i hi=>by
   show F59_L1 l l i=_
   unfold F59_L1
   rw [bif_t (by simp [bLt_eq];omega),Int.toNat_natCast,fsame_ok _ (h _ (gd_mem hi)),inb_nat hi]
   simp only [bEq_eq,decide_true,Bool.not_true,Bool.or_false,Bool.not_false,cond_true,Option.isSome_some,gt_some,need_true,cond_false,wr_add1 hi (show l.length < 4611686018427387904 by omega)])
  (by show F59_L1 l l _=_;unfold F59_L1;rw [bif_f (by simp [bLt_eq])])
 replace l1:loopD (fun s=>F59_L1 l l s) (0:Int)=some (.inl ()):=by simpa using l1
 rw [lp_inl l1]
theorem same_ok (b:TBuffer) (hn:Nb b) (h:U8b b):F31 b b=some true:=by
 obtain ⟨n1,n2,n3⟩:=hn
 unfold F31
 rw [qsame_ok _ n2 h.1]
 have l1:=run_gen (step:=fun s=>F31_L1 b b s) (R:=Bool) b.List.length (fun i=>(i:Int)) () (fun i hi=>by
   show F31_L1 b b i=_
   unfold F31_L1
   rw [bif_t (by simp [bLt_eq];omega),Int.toNat_natCast,qsame_ok _ (n3 _ (gd_mem hi)) (h.2 _ (gd_mem hi)),inb_nat hi]
   simp only [bEq_eq,bB_eq,decide_true,Bool.not_true,Bool.or_false,Bool.not_false,cond_true,Option.isSome_some,gt_some,need_true,cond_false,wr_add1 hi (show b.List.length < 4611686018427387904 by omega)])
  (by show F31_L1 b b _=_;unfold F31_L1;rw [bif_f (by simp [bLt_eq])])
 replace l1:loopD (fun s=>F31_L1 b b s) (0:Int)=some (.inl ()):=by simpa using l1
 rw [lp_inl l1]
 simp [bEq_eq,need_true,gt_some]
theorem find_ok (b:TBuffer) (aid:Int) (hn:b.List.length <= 1000):(∃ a:Nat,a < b.List.length/\(gd b.List a).Aid=aid/\(∀ j:Nat,j < a->(gd b.List j).Aid ≠ aid)/\F33 b aid=some (a:Int)) ∨ (∀ a:Nat,a < b.List.length->(gd b.List a).Aid ≠ aid)/\F33 b aid=some (-1):=by
 unfold F33
 obtain ⟨r,l1,l2⟩:=loop_for (step:=fun s=>F33_L1 b aid s) b.List.length (fun n=>∀ j:Nat,j < n->(gd b.List j).Aid ≠ aid)
  (fun r=>match r with|.inl _=>∀ j:Nat,j < b.List.length->(gd b.List j).Aid ≠ aid|.inr x=>∃ k:Nat,x=(k:Int)/\k < b.List.length/\(gd b.List k).Aid=aid/\∀ j:Nat,j < k->(gd b.List j).Aid ≠ aid) (fun i hi=>by omega)
  (fun i hi hI=>by
   unfold F33_L1
   rw [bif_t (by simp [bLt_eq];omega),need_true (inb_nat hi),Int.toNat_natCast]
   by_cases hc:(gd b.List i).Aid=aid
   ·rw [bif_t (by simp [bEq_eq,hc])]
    exact .inl ⟨_,rfl,i,rfl,hi,hc,hI⟩
   ·rw [bif_f (by simp [bEq_eq,hc]),wr_add1 hi (by omega)]
    refine .inr ⟨rfl,fun j hj=>?_⟩
    rcases Nat.lt_or_eq_of_le (Nat.le_of_lt_succ hj) with h|rfl
    ·exact hI j h
    ·exact hc)
  (fun hI=>by
   unfold F33_L1
   rw [bif_f (by simp [bLt_eq])]
   exact ⟨_,rfl,hI⟩)
 cases r with
 | inl u=>exact .inr ⟨l2,lp_inl l1⟩
 | inr x=>obtain ⟨k,rfl,k1,k2,k3⟩:=l2;exact .inl ⟨k,k1,k2,k3,lp_inr l1⟩
theorem rtwin_ok (f:TFrame) (h:Fq f):F17_0 f=some f:=by
 unfold Fq at h
 unfold F17_0
 rw [nd_cap (by omega) (by omega)]
 rfl
theorem rqueue_ok (l:List TStored) (hl:l.length <= 1000) (h:Sq l):F51 l=some l:=by
 unfold F51
 have l1:=run_gen (step:=fun s=>F51_L1 l s.1 s.2) (R:=List TStored) l.length (fun i=>(l.take i,(i:Int))) l (fun i hi=>by
   show F51_L1 l (l.take i) i=_
   unfold F51_L1
   have ht:(l.take i).length=i:=by simp;omega
   rw [bif_t (by simp [bLt_eq];omega),need_true (inb_nat hi),need_true (inb_nat hi),need_true (inb_nat hi),Int.toNat_natCast,show F17_0 _=_ from rtwin_ok (gd l i).Frame (h _ (gd_mem hi)),Option.bind_some,nd_cap (by omega) (by omega),wr_add1 hi (by omega),take_snoc hi])
  (by show F51_L1 l (l.take l.length) _=_;unfold F51_L1;rw [bif_f (by simp [bLt_eq]),List.take_length])
 replace l1:loopD (fun s=>F51_L1 l s.1 s.2) (([]:List TStored),(0:Int))=some (.inl l):=by simpa using l1
 rw [lp_inl l1]
theorem rqueue2_ok (l:List TStored) (hl:l.length <= 1000) (h:Sq l):F51_0 l=some l:=rqueue_ok l hl h
theorem rtwinb_ok (b:TBuffer) (hn:Nb b) (h:Bq b):F28 b=some b:=by
 obtain ⟨n1,n2,n3⟩:=hn
 unfold F28
 rw [rqueue_ok _ n2 h.1,Option.bind_some]
 have l1:=run_gen (step:=fun s=>F28_L1 b s.1 s.2) (R:=TBuffer) b.List.length (fun i=>((i:Int),b.List.take i)) b.List (fun i hi=>by
   show F28_L1 b i (b.List.take i)=_
   unfold F28_L1
   have ht:(b.List.take i).length=i:=by simp;omega
   rw [bif_t (by simp [bLt_eq];omega),need_true (inb_nat hi),Int.toNat_natCast,rqueue2_ok _ (n3 _ (gd_mem hi)) (h.2 _ (gd_mem hi)),Option.bind_some,nd_cap (by omega) (by omega),wr_add1 hi (by omega),take_snoc hi])
  (by show F28_L1 b _ (b.List.take b.List.length)=_;unfold F28_L1;rw [bif_f (by simp [bLt_eq]),List.take_length])
 replace l1:loopD (fun s=>F28_L1 b s.1 s.2) ((0:Int),([]:List TSleeper))=some (.inl b.List):=by simpa using l1
 rw [lp_inl l1]
theorem all_same (l:List TFrame) (hl:l.length <= 1000) (h:∀ i:Nat,i < l.length->u8A (gd l i).Body=true):F45 l l=some true:=by
 unfold F45
 rw [bif_f (by simp [bEq_eq])]
 rcases chk_gen (step:=fun s=>F45_L1 l l s) (R:=Bool) l.length (fun _=>True) false () (fun i hi=>by
   refine .inl ⟨trivial,?_⟩
   show F45_L1 l l i=_
   unfold F45_L1
   rw [bif_t (by simp [bLt_eq];omega),need_true (inb_nat hi),need_true (inb_nat hi),Int.toNat_natCast,fsame_ok _ (h i hi),Option.bind_some,bif_f (by rfl),wr_add1 hi (by omega)])
  (by show F45_L1 l l _=_;unfold F45_L1;rw [bif_f (by simp [bLt_eq])]) with ⟨_,h2⟩|⟨h1,_⟩
 ·rw [lp_inl h2]
 ·exact absurd (fun _ _=>trivial) h1
theorem per_same (y:TPeriod) (hl:y.Left.length <= 1000) (h:∀ i:Nat,i < y.Left.length->u8A (gd y.Left i).Body=true):F16 y y=some true:=by
 unfold F16
 have q:=all_same _ hl h
 rw [need_true (by simp [bEq_eq,q]),q]
 simp [bEq_eq,gt_some]
theorem gd_ext {α:Type} [Inhabited α] {l m:List α} (h:l.length=m.length) (e:∀ i:Nat,i < l.length->gd l i=gd m i):l=m:=by
 refine List.ext_getElem h fun i h1 h2=>?_
 have:=e i h1
 simpa [gd,List.getD_eq_getElem?_getD,h1,h2] using this
theorem fm_gd {d:Int} {H:List TStored} {n i:Nat} (h:i < n):gd (fm d H n) i=mF (ff d H i):=by simp [fm,gd,List.getD_eq_getElem?_getD,h]
theorem fg_gd {d:Int} {H:List TStored} {N n i:Nat} (h:i < n):gd (fg d H N n) i=gF (ff d H i) (decide (0 < cnt d (rs d H (i+1)))) (decide (i+1=N)):=by simp [fg,gd,List.getD_eq_getElem?_getD,h]
theorem last_ok {d:Int} {H:List TStored} {lim:Int} {N:Nat} (hn:H.length <= 1000) (h1:Qu H lim 3) (h3:C0 H) (hN:N <= cnt d H) (h0:0 < N) :
  ((fm d H N).set (N - 1) (e1 (gd (fm d H N) (N - 1)))).set (N - 1) (m1 (gd ((fm d H N).set (N - 1) (e1 (gd (fm d H N) (N - 1)))) (N - 1)) (decide (0 < cnt d (rs d H N))))=fg d H N N:=by
 refine gd_ext (by simp [fm_len,fg_len]) fun i hi=>?_
 simp only [List.length_set,fm_len] at hi
 rw [fg_gd hi]
 by_cases e:i=N - 1
 ·subst e
  have e':N - 1+1=N:=by omega
  rw [gd_set_eq (by simp [fm_len];omega),gd_set_eq (by simp [fm_len];omega),fm_gd (by omega),e',decide_eq_true rfl]
  rfl
 ·rw [gd_set_ne (Ne.symm e),gd_set_ne (Ne.symm e),fm_gd hi,decide_eq_false (show ¬ i+1=N by omega)]
  obtain ⟨a1,_⟩:=rs_ok (d:=d) hn h1 h3 (i+1) (by omega)
  rw [decide_eq_true (show 0 < cnt d (rs d H (i+1)) by omega)]
  rfl
def Rg (r:TPeriod × TBuffer × Int):Prop:=(r.1.Left.length <= 1000/\∀ i:Nat,i < r.1.Left.length->u8A (gd r.1.Left i).Body=true)/\Nb r.2.1/\U8b r.2.1
theorem Rg_err (c:Int):Rg (TPeriod.mk 0 [],zB,c):=⟨⟨Nat.zero_le _,fun i hi=>absurd hi (Nat.not_lt_zero _)⟩,⟨Nat.zero_le _,Nat.zero_le _,fun s hs=>(by cases hs)⟩,⟨fun q hq=>(by cases hq),fun q hq=>(by cases hq)⟩⟩
theorem stB_u8 {b:TBuffer} {a:Nat} {s:Bool} {l:List TStored} (hu:U8b b) (ha:a < b.List.length) (hl:∀ q ∈ l,q ∈ (gd b.List a).Held):U8b (stB b a s l):=by
 refine ⟨hu.1,fun x hx=>?_⟩
 rcases List.mem_or_eq_of_mem_set hx with h|rfl
 ·exact hu.2 x h
 ·exact fun q hq=>hu.2 _ (gd_mem ha) q (hl q hq)
theorem begins (b:TBuffer) (p:TTriggerPlan) (aid:Int) (x y:A6u8) (hg:Ng b) (hq:Bq b) (hu:U8b b) (hcg:∀ q ∈ b.Group,0 <= q.Cat/\q.Cat <= 255) (h0:∀ s ∈ b.List,∀ q ∈ s.Held,0 <= q.Cat/\q.Cat <= 255) (hp0:0 <= p.Start) (hp1:0 <= p.Deliver) :
  ∃ r,F29 b p aid x y=some r/\F30 b p aid x y=some r/\Rg r:=by
 have hl:=hg.1
 obtain ⟨v,v1,v2⟩:=valid_ok b hg ⟨fun i hi=>hcg _ (gd_mem hi),fun i hi j hj=>h0 _ (gd_mem hi) _ (gd_mem hj)⟩
 unfold F29 F30
 rw [v1,Option.bind_some]
 rcases check_ok b hg with ⟨hv,hc⟩|⟨hv,hc⟩
 ·obtain rfl:v=true:=v2.2 hv
  rw [hc,Option.bind_some]
  unfold F20 F21
  by_cases hp:((p.Start <= 15/\p.Deliver <= 15)/\0 <= p.Most)/\p.Most <= 16
  ·have ep:(((bLt 15 p.Start || bLt 15 p.Deliver) || bLt p.Most 0) || bLt 16 p.Most)=false:=by
    simp only [bLt_eq,Bool.or_eq_false_iff,decide_eq_false_iff_not];omega
   have eq:(((bLt p.Start 16 && bLt p.Deliver 16) && bLe 0 p.Most) && bLe p.Most 16)=true:=by
    simp only [bLt_eq,bLe_eq,Bool.and_eq_true,decide_eq_true_eq];omega
   rw [ep,eq]
   simp only [cond_false,cond_true,Option.isSome_some,gt_some,Bool.cond_self,show bEq (0:Int) 0=true from rfl,show bEq (8:Int) 0=false from rfl,Bool.not_true,Bool.not_false,Bool.or_false,Bool.false_or,Bool.or_true,Bool.true_or,need_true]
   by_cases ha:1 <= aid/\aid <= 255
   ·have ea:(bLt aid 1 || bLt 255 aid)=false:=by simp [bLt_eq];omega
    rw [ea,cond_false,cond_false]
    rcases look_ok b.List aid (by omega) with ⟨a,a1,a2,a3⟩|⟨a1,a3⟩
    ·have a4:F33 b aid=some (a:Int):=by
      rcases find_ok b aid (by omega) with ⟨a',c1,c2,_,c3⟩|⟨c1,_⟩
      ·rw [c3,aid_inj hv c1 a1 (by rw [c2,a2])]
      ·exact absurd a2 (c1 a a1)
     have n1:bLt (a:Int) 0=false:=by simp [bLt_eq]
     have n2:inb (a:Int) b.List.length=true:=inb_nat a1
     simp only [a3,a4,Option.bind_some,n1,cond_false,n2,need_true,Int.toNat_natCast]
     rcases Bool.eq_false_or_eq_true (gd b.List a).Asleep with hs|hs
     ·have n3:(!(gd b.List a).Asleep)=false:=by rw [hs];rfl
      simp only [n3,cond_false,btwinf_ok a b a1 (Nb_of hg) hq,rtwinb_ok b (Nb_of hg) hq,Option.bind_some,n2,need_true]
      have hh:=hg.2.2 a a1
      have hQ:=(hv.1.2 a a1).2.2.1
      have hC:C0 (gd b.List a).Held:=fun q hq=>(h0 _ (gd_mem a1) q hq).1
      have hC3:∀ q ∈ (gd b.List a).Held,0 <= q.Cat/\q.Cat <= 3:=fun q hq=>by
       obtain ⟨i,hi,rfl⟩:=mem_gd hq
       exact ⟨hC _ hq,(hQ.2 i hi).1⟩
      have hd:0 <= p.Deliver/\p.Deliver <= 15:=⟨hp1,hp.1.1.2⟩
      have eB:∀ l:List TStored,({b with List:=b.List.set a (TSleeper.mk (gd b.List a).Aid (gd b.List a).Asleep l)}:TBuffer)=stB b a true l:=fun l=>by rw [hs];rfl
      have hU:=hu.2 _ (gd_mem a1)
      have hng:∀ l:List TStored,l.length <= 70->Nb (stB b a true l):=fun l hl=>Nb_of (st_ng a1 hg hl)
      have hub:∀ l:List TStored,(∀ q ∈ l,q ∈ (gd b.List a).Held)->U8b (stB b a true l):=fun l hl=>stB_u8 hu a1 hl
      have hN:=Nt_le p (gd b.List a).Held
      have t1:=take_ok p b.Limit (gd b.List a).Held hp.1.2 (by omega) hQ hC
      obtain ⟨k,c1,c2⟩:=count_ok p.Deliver (gd b.List a).Held (by omega) (h0 _ (gd_mem a1))
      have c2:=c2 hd fun i hi=>(hC3 _ (gd_mem hi)).2
      subst c2
      obtain ⟨s1,s2,s3,s4,s5⟩:=rs_ok (d:=p.Deliver) (by omega) hQ hC (Nt p (gd b.List a).Held) hN
      have any:=any_ok (rs p.Deliver (gd b.List a).Held (Nt p (gd b.List a).Held)) p.Deliver (by omega) (fun q hq=>hC q (s3 q hq))
      -- what the reference answers
      have key:(bif bLt 0 p.Most then
        lp (loopD (fun s=>F30_L1 p ((cnt p.Deliver (gd b.List a).Held:Nat):Int) s.1 s.2.1 s.2.2) ((gd b.List a).Held,1,[])) (fun e1=>need (inb (a:Int) b.List.length) <| bif (bEq (minI ((cnt p.Deliver (gd b.List a).Held:Nat):Int) p.Most) 0) then ((F43 x y).bind fun r25=>some ((TPeriod.mk aid [r25]),(TBuffer.mk b.Limit b.Stay (b.List.set a (TSleeper.mk ((gd b.List a).Aid) ((gd b.List a).Asleep) e1.1)) b.Group),(0:Int))) else (some ((TPeriod.mk aid e1.2),(TBuffer.mk b.Limit b.Stay (b.List.set a (TSleeper.mk ((gd b.List a).Aid) ((gd b.List a).Asleep) e1.1)) b.Group),0))) some
       else
        lp (loopD (fun s=>F30_L2 p ((cnt p.Deliver (gd b.List a).Held:Nat):Int) s.1 s.2.1 s.2.2) ((gd b.List a).Held,1,[])) (fun e2=>need (inb (a:Int) b.List.length) <| bif (bEq ((cnt p.Deliver (gd b.List a).Held:Nat):Int) 0) then ((F43 x y).bind fun r40=>some ((TPeriod.mk aid [r40]),(TBuffer.mk b.Limit b.Stay (b.List.set a (TSleeper.mk ((gd b.List a).Aid) ((gd b.List a).Asleep) e2.1)) b.Group),(0:Int))) else (some ((TPeriod.mk aid e2.2),(TBuffer.mk b.Limit b.Stay (b.List.set a (TSleeper.mk ((gd b.List a).Aid) ((gd b.List a).Asleep) e2.1)) b.Group),0))) some) =
        some (TPeriod.mk aid (if Nt p (gd b.List a).Held=0 then [TFrame.mk (THeader.mk 2 12 false true false false false false false 0 x y y (A6u8.mk 0 0 0 0 0 0) 0 0 0 0 false true) []] else fg p.Deliver (gd b.List a).Held (Nt p (gd b.List a).Held) (Nt p (gd b.List a).Held)),stB b a true (rs p.Deliver (gd b.List a).Held (Nt p (gd b.List a).Held)),0):=by
       by_cases hm:p.Most=0
       ·have eN:Nt p (gd b.List a).Held=cnt p.Deliver (gd b.List a).Held:=by unfold Nt;rw [if_pos hm]
        rw [bif_f (by simp [bLt_eq];omega),lp_inl (ref2_ok p b.Limit _ _ (by rw [eN]) hd (by omega) hQ hC hC3),need_true (inb_nat a1)]
        by_cases hz:Nt p (gd b.List a).Held=0
        ·rw [bif_t (by simp only [bEq_eq,decide_eq_true_eq];omega),if_pos hz,← eB];rfl
        ·rw [bif_f (by simp only [bEq_eq,decide_eq_false_iff_not];omega),if_neg hz,← eB]
       ·have eN:Nt p (gd b.List a).Held=min (cnt p.Deliver (gd b.List a).Held) p.Most.toNat:=by unfold Nt;rw [if_neg hm]
        have em:minI ((cnt p.Deliver (gd b.List a).Held:Nat):Int) p.Most=((Nt p (gd b.List a).Held:Nat):Int):=by rw [eN];unfold minI;grind
        rw [bif_t (by simp [bLt_eq];omega),lp_inl (ref1_ok p b.Limit _ _ em hd (by omega) hQ hC hC3),need_true (inb_nat a1),em]
        by_cases hz:Nt p (gd b.List a).Held=0
        ·rw [bif_t (by simp only [bEq_eq,decide_eq_true_eq];omega),if_pos hz,← eB];rfl
        ·rw [bif_f (by simp only [bEq_eq,decide_eq_false_iff_not];omega),if_neg hz,← eB]
      simp only [n2,need_true] at key
      rw [c1,Option.bind_some,key,lp_inl t1]
      simp only
      rw [any,Option.bind_some,fm_len]
      by_cases hz:Nt p (gd b.List a).Held=0
      ·rw [bif_t (by simp only [bEq_eq,decide_eq_true_eq];omega),if_pos hz]
       refine ⟨_,?_,rfl,⟨by simp,fun i hi=>?_⟩,hng _ (by omega),hub _ s3⟩
       ·rw [← eB];rfl
       ·obtain rfl:i=0:=by simp at hi;omega
        rfl
      ·rw [bif_f (by simp only [bEq_eq,decide_eq_false_iff_not];omega),if_neg hz,wr_in (by omega),show ((Nt p (gd b.List a).Held:Nat):Int) - 1=((Nt p (gd b.List a).Held - 1:Nat):Int) by omega,need_true (inb_nat (by omega))]
       simp only [Int.toNat_natCast,Option.bind_some]
       refine ⟨_,?_,rfl,⟨by simp only [fg_len];omega,fun i hi=>?_⟩,hng _ (by omega),hub _ s3⟩
       ·rw [← eB,← last_ok (by omega) hQ hC hN (by omega)];rfl
       ·simp only [fg_len] at hi
        simp only
        rw [fg_gd hi]
        obtain ⟨q1,q2,q3,q4,q5⟩:=rs_ok (d:=p.Deliver) (by omega) hQ hC i (by omega)
        exact hU _ (q3 _ (gd_mem (q5 (by omega)).1))
     ·have n3:(!(gd b.List a).Asleep)=true:=by rw [hs];rfl
      simp only [n3,cond_true]
      exact ⟨_,rfl,rfl,Rg_err _⟩
    ·have a4:F33 b aid=some (-1):=by
      rcases find_ok b aid (by omega) with ⟨a',c1,c2,_,c3⟩|⟨_,c1⟩
      ·exact absurd c2 (a1 a' c1)
      ·exact c1
     rw [a3,a4,Option.bind_some,Option.bind_some,bif_t (by rfl),bif_t (by rfl)]
     exact ⟨_,rfl,rfl,Rg_err _⟩
   ·have ea:(bLt aid 1 || bLt 255 aid)=true:=by simp [bLt_eq];omega
    rw [ea,cond_true,cond_true]
    exact ⟨_,rfl,rfl,Rg_err _⟩
  ·have ep:(((bLt 15 p.Start || bLt 15 p.Deliver) || bLt p.Most 0) || bLt 16 p.Most)=true:=by
    simp only [bLt_eq,Bool.or_eq_true,decide_eq_true_eq];omega
   have eq:(((bLt p.Start 16 && bLt p.Deliver 16) && bLe 0 p.Most) && bLe p.Most 16)=false:=by
    simp only [bLt_eq,bLe_eq,Bool.and_eq_false_iff,decide_eq_false_iff_not];omega
   rw [ep,eq]
   simp only [cond_false,cond_true,Option.isSome_some,gt_some,Bool.cond_self,show bEq (0:Int) 0=true from rfl,show bEq (8:Int) 0=false from rfl,Bool.not_true,Bool.not_false,Bool.or_false,Bool.false_or,Bool.or_true,Bool.true_or,need_true]
   exact ⟨_,rfl,rfl,Rg_err _⟩
 ·obtain rfl:v=false:=by cases v with|false=>rfl|true=>exact absurd (v2.1 rfl) hv
  rw [hc,Option.bind_some,need_true (by rfl),bif_t (by rfl),need_true (by rfl),bif_t (by rfl)]
  exact ⟨_,rfl,rfl,Rg_err _⟩
theorem law5 (b:TBuffer) (p:TTriggerPlan) (aid:Int) (x y:A6u8) (hu:U8b b) (hcg:∀ q ∈ b.Group,0 <= q.Cat/\q.Cat <= 255) (h0:∀ s ∈ b.List,∀ q ∈ s.Held,0 <= q.Cat/\q.Cat <= 255) (hp0:0 <= p.Start) (hp1:0 <= p.Deliver):F5 b p aid x y=some true:=by
 unfold F5
 obtain ⟨r,e1,e2⟩:=great_ok b (TFrame.mk (THeader.mk 0 0 false false false false false false false 0 (A6u8.mk 0 0 0 0 0 0) (A6u8.mk 0 0 0 0 0 0) (A6u8.mk 0 0 0 0 0 0) (A6u8.mk 0 0 0 0 0 0) 0 0 0 0 false false) [])
 rw [e1,Option.bind_some]
 cases r with
 | true=>rfl
 | false =>
  obtain ⟨hg,hq,_⟩:=e2 rfl
  rw [bif_f (by rfl),rtwinb_ok b (Nb_of hg) hq,Option.bind_some]
  obtain ⟨r,f1,f2,⟨f3,f4⟩,f5,f6⟩:=begins b p aid x y hg hq hu hcg h0 hp0 hp1
  rw [f1,Option.bind_some,f2,Option.bind_some,per_same _ f3 f4,Option.bind_some,same_ok _ f5 f6,show F31 b (TBuffer.mk b.Limit b.Stay b.List b.Group)=some true from same_ok b (Nb_of hg) hu]
  simp [need_true,gt_some,bEq_eq]
end Go.Proofs.Ytnclkplbeenmdaa
