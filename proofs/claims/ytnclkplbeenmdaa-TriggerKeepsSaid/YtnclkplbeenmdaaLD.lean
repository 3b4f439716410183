/-
  TriggerKeeps: the law.
-/
import Derived.Test.YtnclkplbeenmdaaLC
namespace Go.Proofs.Ytnclkplbeenmdaa
open Go.Am
set_option linter.unusedVariables false
set_option linter.unusedSimpArgs false
theorem Pr_irr {H:List TStored} {s:Nat}:¬ Pr H s s:=fun h=>by unfold Pr at h;omega
theorem take_mem {α:Type} [Inhabited α] {l:List α} {k:Nat} {x:α} (h:x ∈ l.take k):∃ j,j < k/\j < l.length/\gd l j=x:=by
 obtain ⟨j,hj,e⟩:=List.mem_iff_getElem.1 h
 rw [List.length_take] at hj
 refine ⟨j,by omega,by omega,?_⟩
 rw [List.getElem_take] at e
 rw [← e,← gd_at (by omega)]
theorem ord_gd {H:List TStored} {T:List Nat} (h:T.Pairwise (Pr H)) {i j:Nat} (hij:i < j) (hj:j < T.length):Pr H (gd T i) (gd T j):=by
 have:=List.pairwise_iff_getElem.1 h i j (by omega) hj hij
 rwa [gd_at,gd_at] at this
theorem MK_cat {H:List TStored} {k:Nat} (h:k < H.length):(gd (MK H) k).Cat=(gd H k).Cat:=by rw [MK_gd h];rfl
theorem MK_body {H:List TStored} {k:Nat} (h:k < H.length):(gd (MK H) k).Frame.Body=[(k:Int),7]:=by rw [MK_gd h];rfl
theorem L2_ok (p:TTriggerPlan) (b:TBuffer) (H:List TStored) (w:List TSleeper) (aid:Int) (L:List TFrame) (nx:TBuffer) (l:List TStored) (T R:List Nat) (tr:TR p.Deliver (MK H) L l T R) (hn:H.length <= 100)
  (hd:0 <= p.Deliver/\p.Deliver <= 15) (hc:∀ k,k < H.length->0 <= (gd H k).Cat/\(gd H k).Cat <= 3) :
  loopD (fun s=>F6_L2 p true b (MK H) w (TPeriod.mk aid L,nx,0) s.1 s.2.1 s.2.2.1 s.2.2.2) (seenL [],(3:Int),(-1:Int),(0:Int))=some (.inl (seenL T)):=by
 have hT:∀ k,k < T.length->gd T k < H.length:=fun k hk=>by have:=tr.intk _ (gd_mem hk);rwa [MK_len] at this
 have hL:L.length=T.length:=tr.tk
 have hTl:T.length <= H.length:=by have:=tr.all;rw [MK_len] at this;omega
 have l1:=run_gen (step:=fun s=>F6_L2 p true b (MK H) w (TPeriod.mk aid L,nx,0) s.1 s.2.1 s.2.2.1 s.2.2.2) (R:=Bool) T.length
  (fun k:Nat=>(seenL (T.take k),(if k=0 then (3:Int) else (gd (MK H) (gd T (k - 1))).Cat),(if k=0 then (-1:Int) else ((gd T (k - 1):Nat):Int)),(k:Int))) (seenL T) (fun k hk=>by
   have ht:=hT k hk
   have h100:gd T k < 100:=by omega
   show F6_L2 p true b (MK H) w (TPeriod.mk aid L,nx,0) _ _ _ (k:Int)=_
   rw [L2_go p b (MK H) w (TPeriod.mk aid L,nx,0) _ _ _ k (gd T k) (by show k < L.length;omega) (by show L.length <= 1000;omega) (by
     show (gd L k).Body=_
     rw [tr.bd k hk,MK_body ht]) (by rw [MK_len];exact ht) h100 (by
     rw [seen_gd h100,decide_eq_false_iff_not]
     intro hm
     obtain ⟨j,j1,j2,j3⟩:=take_mem hm
     have:=ord_gd tr.ord j1 hk
     rw [j3] at this
     exact Pr_irr this) (seen_len _) (by
     rw [MK_cat ht]
     by_cases k0:k=0
     ·rw [if_pos k0];exact (hc _ ht).2
     ·rw [if_neg k0]
      have:=ord_gd tr.ord (i:=k - 1) (j:=k) (by omega) hk
      unfold Pr at this
      rw [MK_cat ht] at this
      show (gd H (gd T k)).Cat <= (gd (MK H) (gd T (k - 1))).Cat
      omega) (by
     by_cases k0:k=0
     ·rw [if_pos k0,if_pos k0]
      show ¬ (_/\((gd T k:Nat):Int) <= -1)
      omega
     ·rw [if_neg k0,if_neg k0]
      have:=ord_gd tr.ord (i:=k - 1) (j:=k) (by omega) hk
      unfold Pr at this
      show ¬ ((gd (MK H) (gd T k)).Cat=(gd (MK H) (gd T (k - 1))).Cat/\((gd T k:Nat):Int) <= ((gd T (k - 1):Nat):Int))
      omega) (by
     rw [bit_ok p.Deliver _ hd (by rw [MK_cat ht];exact hc _ ht)]
     exact congrArg some (tr.dl _ (gd_mem hk))),seen_set h100,take_snoc hk,if_neg (Nat.succ_ne_zero k),if_neg (Nat.succ_ne_zero k)]
   rfl)
  (by
   show F6_L2 p true b (MK H) w (TPeriod.mk aid L,nx,0) _ _ _ (T.length:Int)=_
   unfold F6_L2
   rw [bif_f (by show bLt (T.length:Int) (L.length:Int)=false;simp [bLt_eq];omega),List.take_length])
 exact l1
theorem L3_ok (a:Nat) (H:List TStored) (x:TPeriod × TBuffer × Int) (L:List TFrame) (d:Int) (l:List TStored) (T R:List Nat) (tr:TR d (MK H) L l T R) (hx:(gd x.2.1.List a).Held=l) (hn:H.length <= 100) :
  loopD (fun s=>F6_L3 (a:Int) (MK H) x s.1 s.2) (seenL T,(0:Int))=some (.inl ()):=by
 have hR:∀ k,k < R.length->gd R k < H.length:=fun k hk=>by have:=tr.inr _ (gd_mem hk);rwa [MK_len] at this
 have hl:l.length=R.length:=by rw [tr.left,List.length_map]
 have hRl:R.length <= H.length:=by have:=tr.all;rw [MK_len] at this;omega
 have l1:=run_gen (step:=fun s=>F6_L3 (a:Int) (MK H) x s.1 s.2) (R:=Bool) R.length (fun k:Nat=>(seenL (T ++ R.take k),(k:Int))) () (fun k hk=>by
   have ht:=hR k hk
   have h100:gd R k < 100:=by omega
   have e:gd (gd x.2.1.List a).Held k=gd (MK H) (gd R k):=by rw [hx,tr.left,gd_map _ hk]
   have hb:(gd (MK H) (gd R k)).Frame.Body=[((gd R k:Nat):Int),7]:=MK_body ht
   show F6_L3 (a:Int) (MK H) x _ (k:Int)=_
   rw [L3_go (MK H) x a _ k (gd R k) (by rw [hx,hl];exact hk) (by rw [hx];omega) (by rw [e,hb]) (by rw [MK_len];exact ht) h100 (by
     rw [seen_gd h100,decide_eq_false_iff_not]
     intro hm
     rcases List.mem_append.1 hm with q|q
     ·exact tr.apart _ q (gd_mem hk)
     ·obtain ⟨j,j1,j2,j3⟩:=take_mem q
      have:=(rise_inj tr.rise (i:=j) (j:=k) j2 hk).1 j1
      omega) (seen_len _) (by
     rw [e]
     refine fsame_ok _ ?_
     rw [hb]
     simp [u8A]
     omega),seen_set h100,List.append_assoc,← take_snoc hk])
  (by
   show F6_L3 (a:Int) (MK H) x _ (R.length:Int)=_
   unfold F6_L3
   rw [bif_f (by rw [Int.toNat_natCast,hx,hl];simp [bLt_eq])])
 have e0:seenL (T ++ R.take 0)=seenL T:=by rw [List.take_zero,List.append_nil]
 simp only [e0] at l1
 exact l1
theorem rise_all {R:List Nat} {n:Nat} (h:R.Pairwise (· < ·)) (hi:∀ x ∈ R,x < n) (hl:R.length=n):R=List.range n:=by
 have lo:∀ i,i < R.length->i <= gd R i:=fun i=>by
  induction i with
  | zero=>intro _;exact Nat.zero_le _
  | succ i ih =>
   intro hi2
   have:=ih (by omega)
   have:=(rise_inj h (i:=i) (j:=i+1) (by omega) hi2).1 (Nat.lt_succ_self i)
   omega
 have up:∀ k i,i < R.length->R.length - i=k->gd R i+k <= n:=fun k=>by
  induction k with
  | zero=>intro i h1 h2;omega
  | succ k ih =>
   intro i h1 h2
   by_cases e:i+1 < R.length
   ·have:=ih (i+1) e (by omega)
    have:=(rise_inj h (i:=i) (j:=i+1) h1 e).1 (Nat.lt_succ_self i)
    omega
   ·have:=hi _ (gd_mem h1)
    omega
 apply List.ext_getElem (by simp [hl])
 intro i h1 h2
 rw [List.getElem_range,gd_at h1]
 have:=lo i h1
 have:=up _ i h1 rfl
 omega
theorem L2_none (p:TTriggerPlan) (b:TBuffer) (M:List TStored) (w:List TSleeper) (x:TPeriod × TBuffer × Int) (seen:List Bool) (cat last:Int) (hl:x.1.Left.length=1) (hB:(gd x.1.Left 0).Body=[]) (h1:F31 x.2.1 {b with List:=w} = some true) (h2:F35 M p.Deliver=some 0) :
  F6_L2 p true b M w x seen cat last 0=some (.done (.inr true)):=by
 unfold F6_L2
 rw [bif_t (c:=bLt _ _) (by rw [hl];rfl),need_true (by rw [hl];rfl)]
 have h6:∀ z:List Int,z=[]->bEq ((z.length:Nat):Int) 0=true:=fun z e=>by rw [e];rfl
 simp only [show Int.toNat 0=0 from rfl]
 rw [bif_t (c:=bEq _ _) (h6 _ hB)]
 have h1':F31 (TBuffer.mk x.2.1.Limit x.2.1.Stay x.2.1.List x.2.1.Group) (TBuffer.mk b.Limit b.Stay w b.Group)=some true:=h1
 have h7:bEq ((x.1.Left.length:Nat):Int) 1=true:=by rw [hl];rfl
 simp only [h1',h2,h7,Option.isSome_some,gt_some,Bool.cond_self,need_true,Bool.true_and,cond_true]
 rfl
theorem law6 (b:TBuffer) (p:TTriggerPlan) (aid:Int) (x y:A6u8) (h0:∀ s ∈ b.List,C0 s.Held) (hu:U8b b) (hd:0 <= p.Deliver):F6 b p aid x y=some true:=by
 unfold F6
 rw [alive_ok,Option.bind_some]
 obtain ⟨r,e1,e2⟩:=great_ok b (TFrame.mk (THeader.mk 0 0 false false false false false false false 0 (A6u8.mk 0 0 0 0 0 0) (A6u8.mk 0 0 0 0 0 0) (A6u8.mk 0 0 0 0 0 0) (A6u8.mk 0 0 0 0 0 0) 0 0 0 0 false false) [])
 rw [e1,Option.bind_some]
 cases r with
 | true=>rfl
 | false =>
  obtain ⟨hg,hq,_⟩:=e2 rfl
  have hl:=hg.1
  rw [bif_f (by rfl)]
  rcases find_ok b aid (by omega) with ⟨a,a1,a2,_,ef⟩|⟨_,ef⟩
  ·rw [ef,Option.bind_some]
   rcases check_ok b hg with ⟨hv,ec⟩|⟨_,ec⟩
   ·rw [ec,need_true (by simp),bif_f (by show (bLt (a:Int) 0 || !bEq (0:Int) 0)=false;simp [bLt_eq,bEq_eq])]
    simp only [Int.toNat_natCast]
    rw [rtwinf_ok a b a1 (Nb_of hg) hq,Option.bind_some,need_true (inb_nat a1)]
    have hH:=hg.2.2 a a1
    generalize hHd:(gd b.List a).Held=H at *
    rw [lp_inl (mark_ok H (by omega)),Option.bind_some]
    have hC:∀ k,k < H.length->0 <= (gd H k).Cat/\(gd H k).Cat <= 3:=fun k hk=>⟨h0 _ (gd_mem a1) _ (by rw [hHd];exact gd_mem hk),by have:=((hv.1.2 a a1).2.2.1.2 k (by rw [hHd];exact hk)).1;rwa [hHd] at this⟩
    have hMu:U8 (MK H):=fun q hq=>by
     obtain ⟨k,hk,rfl⟩:=mem_gd hq
     rw [MK_len] at hk
     rw [MK_body hk]
     simp [u8A]
     omega
    have hMs:Sq (MK H):=fun q hq=>by
     obtain ⟨k,hk,rfl⟩:=mem_gd hq
     rw [MK_len] at hk
     unfold Fq
     rw [MK_body hk]
     simp
    have hMc:C0 (MK H):=fun q hq=>by
     obtain ⟨k,hk,rfl⟩:=mem_gd hq
     rw [MK_len] at hk
     rw [MK_cat hk];exact (hC k hk).1
    have eb:({b with List:=b.List.set a (TSleeper.mk (gd b.List a).Aid (gd b.List a).Asleep (MK H))}:TBuffer)=stB b a (gd b.List a).Asleep (MK H):=rfl
    have hg':Ng (stB b a (gd b.List a).Asleep (MK H)):=st_ng a1 hg (by rw [MK_len];exact hH)
    have hq':Bq (stB b a (gd b.List a).Asleep (MK H)):=st_bq a1 hq hMs
    have ea:gd (stB b a (gd b.List a).Asleep (MK H)).List a={(gd b.List a) with Asleep:=(gd b.List a).Asleep,Held:=MK H}:=st_at a1
    have hmem:∀ (P:List TStored->Prop),P (MK H)->(∀ s ∈ b.List,P s.Held)->∀ s ∈ (stB b a (gd b.List a).Asleep (MK H)).List,P s.Held:=fun P p1 p2 s hs=>by
     obtain ⟨i,hi,rfl⟩:=mem_gd hs
     rw [st_len] at hi
     by_cases e:i=a
     ·rw [e,ea];exact p1
     ·rw [st_ne e];exact p2 _ (gd_mem hi)
    have h0':=hmem C0 hMc h0
    have hu':U8b (stB b a (gd b.List a).Asleep (MK H)):=⟨hu.1,hmem U8 hMu hu.2⟩
    rcases begin2_ok (stB b a (gd b.List a).Asleep (MK H)) p aid x y hg' hq' h0' with ⟨c,c1,_,e⟩|⟨a',L,fr,l,T,R,gd',a1',a2',as',cl,ql,sl,c0l,tr,hTL,e⟩
    ·rw [show F29_0 ({b with List:=b.List.set a (TSleeper.mk (gd b.List a).Aid (gd b.List a).Asleep (MK H))}:TBuffer) p aid x y=_ from e,Option.bind_some,bif_t (by simp [bEq_eq,c1])]
    ·rw [show F29_0 ({b with List:=b.List.set a (TSleeper.mk (gd b.List a).Aid (gd b.List a).Asleep (MK H))}:TBuffer) p aid x y=_ from e,Option.bind_some,bif_f (by show (!bEq (0:Int) 0)=false;rfl),Option.bind_some,seen_0]
     have haa:a'=a:=aid_inj gd'.1 a1' (by rw [st_len];exact a1) (by rw [a2',ea];exact a2.symm)
     subst haa
     rw [ea] at as' tr cl
     simp only at as' tr cl
     obtain ⟨B,hB⟩:∃ B,B=stB b a' (gd b.List a').Asleep (MK H):=⟨_,rfl⟩
     have w1:b.List.set a' (TSleeper.mk (gd b.List a').Aid (gd b.List a').Asleep (MK H))=B.List:=by rw [hB];rfl
     have w2:TBuffer.mk b.Limit b.Stay B.List b.Group=B:=by rw [hB];rfl
     have aB:a' < B.List.length:=by rw [hB,st_len];exact a1
     rw [← hB] at hg' hq' ea hu' gd' a1' a2' e ⊢
     have asB:(gd B.List a').Asleep=true:=by rw [ea];exact as'
     have hdB:(gd B.List a').Held=MK H:=by rw [ea]
     have hlB:(gd B.List a').Aid=(gd b.List a').Aid:=by rw [ea]
     have nxa:gd (stB B a' true l).List a'={(gd B.List a') with Asleep:=true,Held:=l}:=st_at aB
     have hdl:0 <= p.Deliver/\p.Deliver <= 15:=⟨hd,gd'.2.1.1.1.2⟩
     have hll:l.length <= H.length:=by
      have:=tr.all
      rw [tr.left,List.length_map,MK_len] at *
      omega
     have lU:U8 l:=fun q hq=>by
      rw [tr.left] at hq
      obtain ⟨k,hk,rfl⟩:=List.mem_map.1 hq
      exact hMu _ (gd_mem (tr.inr k hk))
     have nxg:Ng (stB B a' true l):=st_ng aB hg' (by omega)
     have nxu:U8b (stB B a' true l):=⟨hu'.1,fun s hs=>by
      obtain ⟨i,hi,rfl⟩:=mem_gd hs
      rw [st_len] at hi
      by_cases e:i=a'
      ·rw [e,nxa];exact lU
      ·rw [st_ne e];exact hu'.2 _ (gd_mem hi)⟩
     have sameN:=same_ok (stB B a' true l) (Nb_of nxg) nxu
     simp only [w1]
     rcases hTL with ⟨rfl,L1,Lb,c0⟩|⟨hT,rfl⟩
     ·have hR:R=List.range (MK H).length:=rise_all tr.rise tr.inr (by have:=tr.all;simpa using this)
      have hlM:l=MK H:=by rw [tr.left,hR];exact range_map _
      have eN:stB B a' true l=B:=by
       unfold stB
       rw [hlM,← hdB,show ({(gd B.List a') with Asleep:=true,Held:=(gd B.List a').Held}:TSleeper)=gd B.List a' from by rw [← asB]]
       rw [set_gd]
      obtain ⟨k,k1,k2⟩:=count_ok p.Deliver (MK H) (by rw [MK_len];omega) (fun q hq=>by
       obtain ⟨j,hj,rfl⟩:=mem_gd hq
       rw [MK_len] at hj
       rw [MK_cat hj]
       have:=hC j hj
       omega)
      have k3:k=0:=by
       rw [k2 hdl (fun j hj=>by rw [MK_len] at hj;rw [MK_cat hj];exact (hC j hj).2),← hlM,c0];rfl
      rw [k3] at k1
      rw [lp_inr (loopD_done (L2_none p b (MK H) B.List (TPeriod.mk aid L,stB B a' true l,0) _ _ _ L1 Lb (by
       show F31 (stB B a' true l) (TBuffer.mk b.Limit b.Stay B.List b.Group)=_
       rw [w2,eN]
       rw [eN] at sameN
       exact sameN) k1))]
     ·have trl:=tr.left
      rw [lp_inl (L2_ok p b H B.List aid fr (stB B a' true l) l T R tr (by omega) hdl hC)]
      rw [bif_f (by show (!bEq ((stB B a' true l).List.length:Int) (B.List.length:Int))=false;rw [st_len];simp [bEq_eq]),need_true (by show inb (a':Int) (stB B a' true l).List.length=true;rw [st_len];exact inb_nat aB)]
      rw [lp_inl (L3_ok a' H (TPeriod.mk aid fr,stB B a' true l,0) fr p.Deliver l T R tr (by show (gd (stB B a' true l).List a').Held=l;rw [nxa]) (by omega)),need_true (inb_nat aB),Option.bind_some]
      have w3:TBuffer.mk b.Limit b.Stay (B.List.set a' (TSleeper.mk (gd B.List a').Aid (gd B.List a').Asleep (gd (stB B a' true l).List a').Held)) b.Group=stB B a' true l:=by
       rw [nxa,asB]
       rw [show stB B a' true l=TBuffer.mk B.Limit B.Stay (B.List.set a' (TSleeper.mk (gd B.List a').Aid true l)) B.Group from rfl]
       rw [hB];rfl
      have w4:bEq (wr .i64 ((fr.length:Int)+((gd (stB B a' true l).List a').Held.length:Int))) ((MK H).length:Int)=true:=by
       rw [nxa]
       have h1:=tr.all
       have h2:l.length=R.length:=by rw [trl,List.length_map]
       have h3:=tr.tk
       rw [MK_len] at h1 ⊢
       show bEq (wr .i64 ((fr.length:Int)+(l.length:Int))) (H.length:Int)=true
       rw [wr_in (by omega)]
       simp only [bEq_eq,decide_eq_true_eq]
       omega
      have w5:F34 (stB B a' true l)=some 0:=by
       rcases check_ok (stB B a' true l) nxg with ⟨_,h⟩|⟨h,_⟩
       ·exact h
       ·exact absurd (st_vb aB gd'.1 asB (by rw [hB];exact ql)) h
      have w6:TBuffer.mk (stB B a' true l).Limit (stB B a' true l).Stay (stB B a' true l).List (stB B a' true l).Group=stB B a' true l:=rfl
      simp only [w3,w4,w6,sameN,w5,Option.isSome_some,gt_some,Bool.cond_self,need_true,Bool.true_and]
      rfl
   ·rw [ec,need_true (by simp),bif_t (by simp [bEq_eq,gt_some])]
  ·rw [ef,Option.bind_some]
   rcases check_ok b hg with ⟨_,ec⟩|⟨_,ec⟩<;>rw [ec]<;>rfl
end Go.Proofs.Ytnclkplbeenmdaa
