/-
  TriggerKeeps: what begins, with the places that are taken; copies, comparison.
-/
import Derived.Test.YtnclkplbeenmdaaLA
namespace Go.Proofs.Ytnclkplbeenmdaa
open Go.Am
set_option linter.unusedVariables false
set_option linter.unusedSimpArgs false
theorem outer3_ok (p:TTriggerPlan) (lim:Int) (H:List TStored) (hm:0 <= p.Most) (hn:H.length <= 1000) (h1:Qu H lim 3) (h2:Sq H) (h3:C0 H) :
  ∃ fr l T R,loopD (fun s=>F29_0_L1 p s.1 s.2) (([]:List TFrame),H)=some (.inl (fr,l))/\Bg p lim H fr l/\(cnt p.Deliver l=0 ∨ p.Most ≠ 0/\(fr.length:Int)=p.Most)/\TR p.Deliver H fr l T R:=by
 have e:F29_0_L1=F29_L1:=rfl
 rw [e]
 exact outer2_ok p lim H hm hn h1 h2 h3
theorem btwinf2_ok (gi:Nat) (b:TBuffer) (hg:gi < b.List.length) (hn:Nb b) (h:Bq b):F54_0f gi b=some b:=by
 have q:=btwinf_ok gi b hg hn h
 have e:F54_0f_L1=F54f_L1:=rfl
 unfold F54f at q
 unfold F54_0f
 rw [e]
 exact q
theorem begin2_ok (b:TBuffer) (p:TTriggerPlan) (aid:Int) (x y:A6u8) (hg:Ng b) (hq:Bq b) (h0:∀ s ∈ b.List,C0 s.Held) :
  (∃ c:Int,c ≠ 0/\¬ Gd b p aid/\F29_0 b p aid x y=some (TPeriod.mk 0 [],zB,c)) ∨
  ∃ (a:Nat) (L fr:List TFrame) (l:List TStored) (T R:List Nat),Gd b p aid/\a < b.List.length/\(gd b.List a).Aid=aid/\(gd b.List a).Asleep=true /\
   cnt p.Deliver l <= cnt p.Deliver (gd b.List a).Held/\Qu l b.Limit 3/\Sq l/\C0 l/\TR p.Deliver (gd b.List a).Held fr l T R /\
   ((T=[]/\L.length=1/\(gd L 0).Body=[]/\cnt p.Deliver l=0) ∨ (T ≠ []/\fr=L)) /\
   F29_0 b p aid x y=some (TPeriod.mk aid L,stB b a true l,0):=by
 unfold F29_0
 have hl:=hg.1
 rcases check_ok b hg with ⟨hv,hc⟩|⟨hv,hc⟩
 ·rw [hc,Option.bind_some]
  unfold F20
  by_cases hp:((p.Start <= 15/\p.Deliver <= 15)/\0 <= p.Most)/\p.Most <= 16
  ·have ep:(((bLt 15 p.Start || bLt 15 p.Deliver) || bLt p.Most 0) || bLt 16 p.Most)=false:=by
    simp only [bLt_eq,Bool.or_eq_false_iff,decide_eq_false_iff_not];omega
   rw [ep]
   simp only [cond_false,Option.isSome_some,gt_some,Bool.cond_self]
   rw [need_true rfl,bif_f (by rfl)]
   by_cases ha:1 <= aid/\aid <= 255
   ·rw [bif_f (by simp [bLt_eq];omega)]
    rcases look_ok b.List aid (by omega) with ⟨a,a1,a2,a3⟩|⟨a1,a3⟩
    ·rw [a3,Option.bind_some,bif_f (by simp [bLt_eq]),need_true (inb_nat a1)]
     simp only [Int.toNat_natCast]
     rcases Bool.eq_false_or_eq_true (gd b.List a).Asleep with hs|hs
     ·rw [bif_f (by rw [hs];rfl),btwinf2_ok a b a1 (Nb_of hg) hq,Option.bind_some,need_true (inb_nat a1)]
      have hh:=hg.2.2 a a1
      obtain ⟨fr,l,T,R,l1,⟨b1,b2,b3,b4,b5,b6,b7⟩,l3,tr⟩:=outer3_ok p b.Limit (gd b.List a).Held hp.1.2 (by omega) (hv.1.2 a a1).2.2.1 (hq.2 _ (gd_mem a1)) (h0 _ (gd_mem a1))
      rw [lp_inl l1,need_true (inb_nat a1)]
      simp only
      rw [any_ok l p.Deliver (by omega) b5,Option.bind_some]
      have eB:({b with List:=b.List.set a (TSleeper.mk (gd b.List a).Aid (gd b.List a).Asleep l)}:TBuffer)=stB b a true l:=by rw [hs];rfl
      by_cases hz:fr.length=0
      ·have c0:cnt p.Deliver l=0:=by
        rcases l3 with h|⟨h1,h2⟩
        ·exact h
        ·omega
       rw [bif_t (by simp only [bEq_eq,decide_eq_true_eq];omega)]
       have hT:T=[]:=List.eq_nil_of_length_eq_zero (by rw [← tr.tk];exact hz)
       refine .inr ⟨a,[TFrame.mk (THeader.mk 2 12 false true false false false false false 0 x y y (A6u8.mk 0 0 0 0 0 0) 0 0 0 0 false true) []],fr,l,T,R,⟨hv,hp,ha,a,a1,a2,hs⟩,a1,a2,hs,by omega,b3,b4,b5,tr,.inl ⟨hT,rfl,rfl,c0⟩,by rw [← eB];rfl⟩
      ·rw [bif_f (by simp only [bEq_eq,decide_eq_false_iff_not];omega),wr_in (by omega),show (fr.length:Int) - 1=((fr.length - 1:Nat):Int) by omega,need_true (inb_nat (by omega))]
       simp only [Int.toNat_natCast,Option.bind_some]
       have hT:T ≠ []:=fun e=>hz (by rw [tr.tk,e];rfl)
       refine .inr ⟨a,(fr.set (fr.length - 1) (e1 (gd fr (fr.length - 1)))).set (fr.length - 1) (m1 (gd (fr.set (fr.length - 1) (e1 (gd fr (fr.length - 1)))) (fr.length - 1)) (decide (0 < cnt p.Deliver l))),_,l,T,R,⟨hv,hp,ha,a,a1,a2,hs⟩,a1,a2,hs,by omega,b3,b4,b5,⟨by simp [tr.tk],fun j hj=>?_,tr.left,tr.rise,tr.inr,tr.intk,tr.apart,tr.ord,tr.dl,tr.next,tr.all⟩,.inr ⟨hT,rfl⟩,by rw [← eB];rfl⟩
       rw [← tr.bd j hj]
       have hj:j < fr.length:=by rw [tr.tk];exact hj
       by_cases e:j=fr.length - 1
       ·subst e
        rw [gd_set_eq (by simp;omega),gd_set_eq (by omega)];rfl
       ·rw [gd_set_ne (Ne.symm e),gd_set_ne (Ne.symm e)]
     ·rw [bif_t (by rw [hs];rfl)]
      exact .inl ⟨20,by omega,fun ⟨_,_,_,a',h1,h2,h3⟩=>(by rw [aid_inj hv h1 a1 (by rw [h2,a2]),hs] at h3;cases h3),rfl⟩
    ·rw [a3,Option.bind_some,bif_t (by rfl)]
     exact .inl ⟨6,by omega,fun ⟨_,_,_,a',h1,h2,h3⟩=>a1 a' h1 h2,rfl⟩
   ·rw [bif_t (by simp [bLt_eq];omega)]
    exact .inl ⟨2,by omega,fun h=>ha h.2.2.1,rfl⟩
  ·have ep:(((bLt 15 p.Start || bLt 15 p.Deliver) || bLt p.Most 0) || bLt 16 p.Most)=true:=by
    simp only [bLt_eq,Bool.or_eq_true,decide_eq_true_eq];omega
   rw [ep]
   simp only [cond_true,Option.isSome_some,gt_some,Bool.cond_self]
   rw [need_true rfl,bif_t (by rfl)]
   exact .inl ⟨8,by omega,fun h=>hp h.2.1,rfl⟩
 ·rw [hc,Option.bind_some,need_true (by rfl),bif_t (by rfl)]
  exact .inl ⟨8,by omega,fun h=>hv h.1,rfl⟩
def U8 (l:List TStored):Prop:=∀ q ∈ l,u8A q.Frame.Body=true
def U8b (b:TBuffer):Prop:=U8 b.Group/\∀ s ∈ b.List,U8 s.Held
theorem cself {c b:Bool} (h:b=true):(bif c then b else true)=true:=by subst h;cases c<;>rfl
theorem fsame_ok (a:TFrame) (h:u8A a.Body=true):F15 a a=some true:=by
 have q:u8b a.Body.length (enR c_u8 a.Body)=true:=(u8b_enR (f:=c_u8) (fun _=>rfl) a.Body).trans h
 unfold F15
 rw [need_true (cself q),need_true (cself q)]
 simp [bEq_eq,bB_eq,sEq]
theorem qsame_ok (l:List TStored) (hl:l.length <= 1000) (h:U8 l):F59 l l=some true:=by
 unfold F59
 rw [bif_f (by simp [bEq_eq])]
 have l1:=run_gen (step:=fun s=>F59_L1 l l s) (R:=Bool) l.length (fun i=>(i:Int)) () (fun i hi=>by
   show F59_L1 l l i=_
   unfold F59_L1
   rw [bif_t (by simp [bLt_eq];omega),Int.toNat_natCast,fsame_ok _ (h _ (gd_mem hi)),inb_nat hi]
   simp only [bEq_eq,decide_true,Bool.not_true,Bool.or_false,Bool.not_false,cond_true,Option.isSome_some,gt_some,need_true,cond_false,wr_add1 hi (show l.length < 4611686018427387904 by omega)])
  (by show F59_L1 l l _=_;unfold F59_L1;rw [bif_f (by simp [bLt_eq])])
 replace l1:loopD (fun s=>F59_L1 l l s) (0:Int)=some (.inl ()):=by simpa using l1
 rw [lp_inl l1]
theorem same_ok (b:TBuffer) (hn:Nb b) (h:U8b b):F31 b b=some true:=by
 obtain ⟨n1,n2,n3⟩:=hn
 unfold F31
 rw [qsame_ok _ n2 h.1]
 have l1:=run_gen (step:=fun s=>F31_L1 b b s) (R:=Bool) b.List.length (fun i=>(i:Int)) () (fun i hi=>by
   show F31_L1 b b i=_
   unfold F31_L1
   rw [bif_t (by simp [bLt_eq];omega),Int.toNat_natCast,qsame_ok _ (n3 _ (gd_mem hi)) (h.2 _ (gd_mem hi)),inb_nat hi]
   simp only [bEq_eq,bB_eq,decide_true,Bool.not_true,Bool.or_false,Bool.not_false,cond_true,Option.isSome_some,gt_some,need_true,cond_false,wr_add1 hi (show b.List.length < 4611686018427387904 by omega)])
  (by show F31_L1 b b _=_;unfold F31_L1;rw [bif_f (by simp [bLt_eq])])
 replace l1:loopD (fun s=>F31_L1 b b s) (0:Int)=some (.inl ()):=by simpa using l1
 rw [lp_inl l1]
 simp [bEq_eq,need_true,gt_some]
theorem find_ok (b:TBuffer) (aid:Int) (hn:b.List.length <= 1000):(∃ a:Nat,a < b.List.length/\(gd b.List a).Aid=aid/\(∀ j:Nat,j < a->(gd b.List j).Aid ≠ aid)/\F33 b aid=some (a:Int)) ∨ (∀ a:Nat,a < b.List.length->(gd b.List a).Aid ≠ aid)/\F33 b aid=some (-1):=by
 unfold F33
 obtain ⟨r,l1,l2⟩:=loop_for (step:=fun s=>F33_L1 b aid s) b.List.length (fun n=>∀ j:Nat,j < n->(gd b.List j).Aid ≠ aid)
  (fun r=>match r with|.inl _=>∀ j:Nat,j < b.List.length->(gd b.List j).Aid ≠ aid|.inr x=>∃ k:Nat,x=(k:Int)/\k < b.List.length/\(gd b.List k).Aid=aid/\∀ j:Nat,j < k->(gd b.List j).Aid ≠ aid) (fun i hi=>by omega)
  (fun i hi hI=>by
   unfold F33_L1
   rw [bif_t (by simp [bLt_eq];omega),need_true (inb_nat hi),Int.toNat_natCast]
   by_cases hc:(gd b.List i).Aid=aid
   ·rw [bif_t (by simp [bEq_eq,hc])]
    exact .inl ⟨_,rfl,i,rfl,hi,hc,hI⟩
   ·rw [bif_f (by simp [bEq_eq,hc]),wr_add1 hi (by omega)]
    refine .inr ⟨rfl,fun j hj=>?_⟩
    rcases Nat.lt_or_eq_of_le (Nat.le_of_lt_succ hj) with h|rfl
    ·exact hI j h
    ·exact hc)
  (fun hI=>by
   unfold F33_L1
   rw [bif_f (by simp [bLt_eq])]
   exact ⟨_,rfl,hI⟩)
 cases r with
 | inl u=>exact .inr ⟨l2,lp_inl l1⟩
 | inr x=>obtain ⟨k,rfl,k1,k2,k3⟩:=l2;exact .inl ⟨k,k1,k2,k3,lp_inr l1⟩
theorem rtwin_ok (f:TFrame) (h:Fq f):F17_0 f=some f:=by
 unfold Fq at h
 unfold F17_0
 rw [nd_cap (by omega) (by omega)]
 rfl
theorem rqueue_ok (l:List TStored) (hl:l.length <= 1000) (h:Sq l):F51 l=some l:=by
 unfold F51
 have l1:=run_gen (step:=fun s=>F51_L1 l s.1 s.2) (R:=List TStored) l.length (fun i=>(l.take i,(i:Int))) l (fun i hi=>by
   show F51_L1 l (l.take i) i=_
   unfold F51_L1
   have ht:(l.take i).length=i:=by simp;omega
   rw [bif_t (by simp [bLt_eq];omega),need_true (inb_nat hi),need_true (inb_nat hi),need_true (inb_nat hi),Int.toNat_natCast,show F17_0 _=_ from rtwin_ok (gd l i).Frame (h _ (gd_mem hi)),Option.bind_some,nd_cap (by omega) (by omega),wr_add1 hi (by omega),take_snoc hi])
  (by show F51_L1 l (l.take l.length) _=_;unfold F51_L1;rw [bif_f (by simp [bLt_eq]),List.take_length])
 replace l1:loopD (fun s=>F51_L1 l s.1 s.2) (([]:List TStored),(0:Int))=some (.inl l):=by simpa using l1
 rw [lp_inl l1]
theorem rqueue2_ok (l:List TStored) (hl:l.length <= 1000) (h:Sq l):F51_0 l=some l:=rqueue_ok l hl h
theorem rtwinf_ok (gi:Nat) (b:TBuffer) (hg:gi < b.List.length) (hn:Nb b) (h:Bq b):F28f gi b=some b:=by
 obtain ⟨n1,n2,n3⟩:=hn
 unfold F28f
 rw [rqueue_ok _ n2 h.1,Option.bind_some]
 have l1:=run_gen (step:=fun s=>F28_L1 b s.1 s.2) (R:=TBuffer) b.List.length (fun i=>((i:Int),b.List.take i)) b.List (fun i hi=>by
   show F28_L1 b i (b.List.take i)=_
   unfold F28_L1
   have ht:(b.List.take i).length=i:=by simp;omega
   rw [bif_t (by simp [bLt_eq];omega),need_true (inb_nat hi),Int.toNat_natCast,rqueue2_ok _ (n3 _ (gd_mem hi)) (h.2 _ (gd_mem hi)),Option.bind_some,nd_cap (by omega) (by omega),wr_add1 hi (by omega),take_snoc hi])
  (by show F28_L1 b _ (b.List.take b.List.length)=_;unfold F28_L1;rw [bif_f (by simp [bLt_eq]),List.take_length])
 replace l1:loopD (fun s=>F28_L1 b s.1 s.2) ((0:Int),([]:List TSleeper))=some (.inl b.List):=by simpa using l1
 rw [lp_inl l1,need_true (by simp [bLt_eq];omega)]
theorem alive_ok:F32=some true:=by kernel_rfl
end Go.Proofs.Ytnclkplbeenmdaa
