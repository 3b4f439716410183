/-
  Buffers: putting and polling, with numbered frames.
-/
import Derived.Test.YtefiemaoacmdkaaBS
namespace Go.Proofs.Ytefiemaoacmdkaa
open Go.Am
set_option linter.unusedVariables false
set_option linter.unusedSimpArgs false
theorem fN_fq (n:Nat):Fq (fN n):=by show ([_,_]:List Int).length <= 2400;simp
theorem nq_mk {i:Nat} (hi:i < 302) (c t:Int):nq ⟨c,t,fN i⟩=i:=(tabN hi).2.1
theorem pl_st {b:TBuffer} {P:Nat->Int} {i r a:Nat} {cat:Int} (hv:Vb b) (hw:W b P i) (ha:a < b.List.length) (hc:0 <= cat/\cat <= 3) (hr:r ∈ hl b) (e:P r=4 * (gd b.List a).Aid+cat):∃ q ∈ (gd b.List a).Held,nq q=r/\q.Cat=cat:=by
 have:=aid_rng hv ha
 rcases hl_mem hr with ⟨s,hs,q,hq,rfl⟩|⟨q,hq,rfl⟩
 ·obtain ⟨j,hj,rfl⟩:=uL hs
  obtain ⟨_,_,h1,h2⟩:=(hw.1 _ hs).1 q hq
  dsimp only at h1
  have c1:q.Cat <= 3:=by obtain ⟨x,hx,rfl⟩:=uL hq;exact ((hv.1.2 j hj).2.2.1.2 x hx).1
  obtain rfl:=aid_inj hv hj ha (by omega)
  exact ⟨q,hq,rfl,by omega⟩
 ·have:=pl_grp hw hq
  omega
theorem hand1 (i:Nat):∃ r,gY [fN i]=some r/\r.map (·.Body)=([i].map fun n:Nat=>(fN n).Body):=by
 obtain ⟨r,r1,r2,_⟩:=hand_b [fN i] (by simp)
 exact ⟨r,r1,r2⟩
theorem put_sp (b:TBuffer) (aid cat:Int) (t:Int) {P:Nat->Int} {i:Nat} (hv:Vb b) (hw:W b P (i+1)) (hlt:∀ n ∈ hl b,n < i) (hi:i < 302) (hc0:0 <= cat) (hP:P i=4 * aid+cat) :
  ∃ o d n e,F24 b aid cat (fN i) t=some (o,d,n,e)/\(e ≠ 0 ∨ (1 <= aid/\aid <= 255/\cat <= 3)/\Sp b P i [i] (o,d,n,e)):=by
 have hc:=dR hv
 have hg:=bN hv
 have hq:=W_bq hw
 have hl':=hg.1
 unfold F24 F61
 rw [hc,Option.bind_some,yR (by rfl)]
 by_cases ha:1 <= aid/\aid <= 255
 ·rw [yR (by simp [yD];omega)]
  obtain ⟨a,Q,pe⟩:=eS b hg hv aid (by omega)
  rw [pe,Option.bind_some]
  rcases Pl_at hv Q with ⟨h1,h2⟩|⟨h1,h2⟩
  ·rw [decide_eq_true ⟨h1,h2⟩]
   simp only [Int.toNat_natCast]
   rw [yR (by rfl),btwinf_ok a b h1 (Nb_of hg) hq,Option.bind_some,zP (yN h1),zP (cself (by rfl))]
   simp only [yQ]
   by_cases hm:cat <= 3/\0 <= t/\t <= 1099511627776
   ·rw [yR (by simp [yD,vQ];omega)]
    have hQ:=(hv.1.2 a h1).2.2.1
    have hh:=hg.2.2 a h1
    have hR:=hw.1 _ (xT h1)
    have hx:nq ⟨cat,t,fN i⟩=i/\(⟨cat,t,fN i⟩:TStored).Frame=fN (nq ⟨cat,t,fN i⟩)/\P (nq ⟨cat,t,fN i⟩)=4 * (gd b.List a).Aid+cat/\0 <= cat:=by
     rw [nq_mk hi,hP,h2]
     exact ⟨rfl,rfl,rfl,hc0⟩
    have hlq:∀ q ∈ (gd b.List a).Held,nq q < i:=fun q hq=>hlt _ (List.mem_append_left _ (List.mem_flatMap.2 ⟨_,xT h1,List.mem_map.2 ⟨q,hq,rfl⟩⟩))
    have nx:[(⟨cat,t,fN i⟩:TStored)].map nq=[i]:=by rw [List.map_cons,nq_mk hi];rfl
    obtain ⟨c,c1,c2⟩:=late_ok _ t hQ (by omega)
    rw [c1,Option.bind_some]
    cases c with
    | true=>exact ⟨_,_,_,_,rfl,.inl (by omega)⟩
    | false =>
     have hold:=c2 rfl
     rw [cond_false,twin_ok _ (fN_fq i),Option.bind_some]
     rcases Bool.eq_false_or_eq_true (gd b.List a).Asleep with hs|hs
     case inr =>
      obtain ⟨r,r1,r2⟩:=hand1 i
      rw [yR hs,r1,Option.bind_some,Option.bind_some,set_gd]
      have hz:(gd b.List a).Held.length=0:=by
       rcases (hv.1.2 a h1).2.2.2 with h|h
       ·rw [h] at hs;cases hs
       ·exact h
      refine ⟨_,_,_,_,rfl,.inr ⟨⟨ha.1,ha.2,hm.1⟩,rfl,hv,[i],[],r2,rfl,fun n=>?_,hw,by simp,fun r hr n hn e=>?_⟩⟩
      ·show _=(hl b).count n+_
       rw [List.count_append,List.count_nil,Nat.add_zero]
      ·obtain rfl:=List.mem_singleton.1 hn
       obtain ⟨q,hq,_⟩:=pl_st hv hw h1 ⟨hc0,hm.1⟩ hr (by rw [← e,hP,h2])
       rw [List.length_eq_zero_iff.1 hz] at hq
       cases hq
     case inl =>
      rw [yX hs]
      have h0:=hv.1.1.1.1
      by_cases hfull:((gd b.List a).Held.length:Int)=b.Limit
      ·rw [yX (by simp only [xJ,decide_eq_true_eq];exact hfull),yR (by simp only [yD,decide_eq_false_iff_not];omega),zP (inb_0 (by omega))]
       obtain ⟨m,m1,m2⟩:=mput_ok ((a:Int),true) b a rfl (gd b.List a).Held rfl (by omega) (by omega)
       rw [wZ m2]
       rcases Bool.eq_false_or_eq_true (bLt cat (gd (gd b.List a).Held m).Cat) with hlow|hlow
       ·rw [yX hlow,Option.bind_some,Option.bind_some,set_gd]
        refine ⟨_,_,_,_,rfl,.inr ⟨⟨ha.1,ha.2,hm.1⟩,rfl,hv,[],[i],rfl,rfl,fun n=>?_,hw,by simp,fun r hr n hn=>by cases hn⟩⟩
        show _=(hl b).count n+_
        rw [List.count_append,List.count_nil,Nat.zero_add]
       ·obtain ⟨k,k1,k2⟩:=pidx1_ok (gd b.List a).Held _ m m1 rfl (by omega)
        rw [yR hlow,k2,Option.bind_some,zP (yN k1),xO k1 (by omega),zP (by unfold delb;simp;omega),Option.bind_some,Option.bind_some,uR (by rw [gI k1];omega) (by rw [gI k1];omega),Option.bind_some,Option.bind_some,Option.bind_some]
        have V:=st_vbT h1 hv (qu_full (x:=⟨cat,t,fN i⟩) k1 hQ hm.1 hm.2 hold)
        have Z:=W_st (s:=true) hw h1 (Qk_snoc (Qk_sub hR (del_sub (k:=k))) (fun q hq=>hlq q (del_mem hq)) hx)
        have C:=fun n=>st_cnt (s:=true) (h:=kH (gd b.List a).Held k ((k+1:Nat):Int) ++ [⟨cat,t,fN i⟩]) h1 n
        have D:=fun n=>del_cnt k1 n
        rw [st_held hs] at V Z C
        have K:∀ n,(hl b ++ [i]).count n=(hl {b with List:=b.List.set a {(gd b.List a) with Held:=kH (gd b.List a).Held k ((k+1:Nat):Int) ++ [⟨cat,t,fN i⟩]}}).count n+(([]:List Nat).count n + [nq (gd (gd b.List a).Held k)].count n):=fun n=>by
         have c1:=C n
         have d1:=D n
         rw [List.map_append,nx,List.count_append] at c1
         rw [List.count_append,List.count_nil,Nat.zero_add]
         omega
        refine ⟨_,_,_,_,rfl,.inr ⟨⟨ha.1,ha.2,hm.1⟩,rfl,V,[],[nq (gd (gd b.List a).Held k)],rfl,?_,K,Z,by simp,fun r hr n hn=>by cases hn⟩⟩
        show [(gd (gd b.List a).Held k).Frame]=[fN (nq (gd (gd b.List a).Held k))]
        rw [← (hR.1 _ (xT k1)).2.1]
      ·have:=hQ.1
       rw [yR (by simp only [xJ,decide_eq_false_iff_not];exact hfull),uR (by omega) (by omega),Option.bind_some,Option.bind_some,Option.bind_some]
       have V:=st_vbT h1 hv (qu_snoc (x:=⟨cat,t,fN i⟩) hQ (by omega) hm.1 hm.2 hold)
       have Z:=W_st (s:=true) hw h1 (Qk_snoc hR hlq hx)
       have C:=fun n=>st_cnt (s:=true) (h:=(gd b.List a).Held ++ [⟨cat,t,fN i⟩]) h1 n
       rw [st_held hs] at V Z C
       have K:∀ n,(hl b ++ [i]).count n=(hl {b with List:=b.List.set a {(gd b.List a) with Held:=(gd b.List a).Held ++ [⟨cat,t,fN i⟩]}}).count n+(([]:List Nat).count n+([]:List Nat).count n):=fun n=>by
        have c1:=C n
        rw [List.map_append,nx,List.count_append] at c1
        rw [List.count_append,List.count_nil]
        omega
       exact ⟨_,_,_,_,rfl,.inr ⟨⟨ha.1,ha.2,hm.1⟩,rfl,V,[],[],rfl,rfl,K,Z,by simp,fun r hr n hn=>by cases hn⟩⟩
   ·rw [yX (by simp [yD,vQ];omega)]
    exact ⟨_,_,_,_,rfl,.inl (by omega)⟩
  ·rw [decide_eq_false h1,yX (by rfl)]
   exact ⟨_,_,_,_,rfl,.inl (by omega)⟩
 ·rw [yX (by simp [yD];omega)]
  exact ⟨_,_,_,_,rfl,.inl (by omega)⟩
theorem grp_cnt {b:TBuffer} {g:List TStored} (n:Nat):(hl b).count n+(g.map nq).count n=(hl {b with Group:=g}).count n+(b.Group.map nq).count n:=by
 show (hlB b.List ++ b.Group.map nq).count n+_=(hlB b.List ++ g.map nq).count n+_
 simp only [List.count_append]
 omega
theorem pgrp_sp (b:TBuffer) (t:Int) {P:Nat->Int} {i:Nat} (hv:Vb b) (hw:W b P (i+1)) (hlt:∀ n ∈ hl b,n < i) (hi:i < 302) (hP:P i=0) :
  ∃ o d n e,F41 b (fN i) t=some (o,d,n,e)/\(e ≠ 0 ∨ Sp b P i [i] (o,d,n,e)):=by
 have hc:=dR hv
 have hg:=bN hv
 have hq:=W_bq hw
 have hl':=hg.1
 unfold F41 F61
 rw [hc,Option.bind_some,yR (by rfl),Option.bind_some]
 by_cases hm:0 <= t/\t <= 1099511627776
 ·rw [yR (by simp [vQ];omega)]
  have hQ:=hv.2.1
  have hh:=hg.2.1
  have hR:=hw.2
  have hx:nq ⟨0,t,fN i⟩=i/\(⟨0,t,fN i⟩:TStored).Frame=fN (nq ⟨0,t,fN i⟩)/\P (nq ⟨0,t,fN i⟩)=0/\(0:Int) <= 0:=by
   rw [nq_mk hi,hP]
   exact ⟨rfl,rfl,rfl,by omega⟩
  have hlq:∀ q ∈ b.Group,nq q < i:=fun q hq=>hlt _ (List.mem_append_right _ (List.mem_map.2 ⟨q,hq,rfl⟩))
  have nx:[(⟨0,t,fN i⟩:TStored)].map nq=[i]:=by rw [List.map_cons,nq_mk hi];rfl
  obtain ⟨c,c1,c2⟩:=late_ok _ t hQ (by omega)
  rw [c1,Option.bind_some]
  cases c with
  | true=>exact ⟨_,_,_,_,rfl,.inl (by omega)⟩
  | false =>
   have hold:=c2 rfl
   obtain ⟨q,q1,q2⟩:=aslp_ok b (by omega)
   rw [cond_false,eG b (Nb_of hg) hq,Option.bind_some,twin_ok _ (fN_fq i),Option.bind_some,q1,Option.bind_some]
   cases q with
   | false =>
    obtain ⟨r,r1,r2⟩:=hand1 i
    rw [cond_false,r1,Option.bind_some]
    have hz:b.Group=[]:=by
     rcases hv.2.2 with h|h
     ·exact List.length_eq_zero_iff.1 h
     ·exact absurd (q2.2 h) (by simp)
    refine ⟨_,_,_,_,rfl,.inr ⟨rfl,hv,[i],[],r2,rfl,fun n=>?_,hw,by simp,fun r hr n hn e=>?_⟩⟩
    ·show _=(hl b).count n+_
     rw [List.count_append,List.count_nil,Nat.add_zero]
    ·obtain rfl:=List.mem_singleton.1 hn
     rw [hP] at e
     rcases hl_mem hr with ⟨s,hs,q,hq,rfl⟩|⟨q,hq,rfl⟩
     ·obtain ⟨j,hj,rfl⟩:=uL hs
      have:=pl_pos hv hw hj hq
      omega
     ·rw [hz] at hq;cases hq
   | true =>
    have hA:=q2.1 rfl
    rw [cond_true]
    have h0:=hv.1.1.1.1
    by_cases hfull:(b.Group.length:Int)=b.Limit
    ·rw [yX (by simp only [xJ,decide_eq_true_eq];exact hfull),yR (by simp only [yD,decide_eq_false_iff_not];omega),zP (inb_0 (by omega))]
     obtain ⟨m,m1,m2⟩:=mgrp_ok b b.Group rfl (by omega) (by omega)
     rw [wZ m2]
     rcases Bool.eq_false_or_eq_true (bLt 0 (gd b.Group m).Cat) with hlow|hlow
     ·rw [yX hlow]
      refine ⟨_,_,_,_,rfl,.inr ⟨rfl,hv,[],[i],rfl,rfl,fun n=>?_,hw,by simp,fun r hr n hn=>by cases hn⟩⟩
      show _=(hl b).count n+_
      rw [List.count_append,List.count_nil,Nat.zero_add]
     ·obtain ⟨k,k1,k2⟩:=pidx1_ok b.Group _ m m1 rfl (by omega)
      rw [yR hlow,k2,Option.bind_some,zP (yN k1),xO k1 (by omega),zP (by unfold delb;simp;omega),Option.bind_some,Option.bind_some,uR (by rw [gI k1];omega) (by rw [gI k1];omega)]
      have C:=fun n=>grp_cnt (b:=b) (g:=kH b.Group k ((k+1:Nat):Int) ++ [⟨0,t,fN i⟩]) n
      have D:=fun n=>del_cnt k1 n
      have K:∀ n,(hl b ++ [i]).count n=(hl {b with Group:=kH b.Group k ((k+1:Nat):Int) ++ [⟨0,t,fN i⟩]}).count n+(([]:List Nat).count n + [nq (gd b.Group k)].count n):=fun n=>by
       have c1:=C n
       have d1:=D n
       rw [List.map_append,nx,List.count_append] at c1
       rw [List.count_append,List.count_nil,Nat.zero_add]
       omega
      refine ⟨_,_,_,_,rfl,.inr ⟨rfl,grp_vb hv (qu_full k1 hQ (by show (0:Int) <= 0;omega) hm hold) (.inr hA),[],[nq (gd b.Group k)],rfl,?_,K,⟨hw.1,Qk_snoc (Qk_sub hR (del_sub (k:=k))) (fun q hq=>hlq q (del_mem hq)) hx⟩,by simp,fun r hr n hn=>by cases hn⟩⟩
      show [(gd b.Group k).Frame]=[fN (nq (gd b.Group k))]
      rw [← (hR.1 _ (xT k1)).2.1]
    ·have:=hQ.1
     rw [yR (by simp only [xJ,decide_eq_false_iff_not];exact hfull),uR (by omega) (by omega)]
     have C:=fun n=>grp_cnt (b:=b) (g:=b.Group ++ [⟨0,t,fN i⟩]) n
     have K:∀ n,(hl b ++ [i]).count n=(hl {b with Group:=b.Group ++ [⟨0,t,fN i⟩]}).count n+(([]:List Nat).count n+([]:List Nat).count n):=fun n=>by
      have c1:=C n
      rw [List.map_append,nx,List.count_append] at c1
      rw [List.count_append,List.count_nil]
      omega
     exact ⟨_,_,_,_,rfl,.inr ⟨rfl,grp_vb hv (qu_snoc hQ (by omega) (by show (0:Int) <= 0;omega) hm hold) (.inr hA),[],[],rfl,rfl,K,⟨hw.1,Qk_snoc hR hlq hx⟩,by simp,fun r hr n hn=>by cases hn⟩⟩
 ·rw [yX (by simp [vQ];omega)]
  exact ⟨_,_,_,_,rfl,.inl (by omega)⟩
/-! ### Polling -/
theorem poll_sp (b:TBuffer) (aid:Int) {P:Nat->Int} {i:Nat} (hv:Vb b) (hw:W b P (i+1)):∃ f n e,F23 b aid=some (f,n,e)/\(e ≠ 0 ∨ Sp b P i [] ([f],[],n,e)):=by
 have hc:=dR hv
 have hg:=bN hv
 have hl':=hg.1
 unfold F23
 rw [hc,Option.bind_some,yR (by rfl)]
 by_cases ha:1 <= aid/\aid <= 255
 ·rw [yR (by simp [yD];omega)]
  obtain ⟨a,Q,pe⟩:=eS b hg hv aid (by omega)
  rw [pe,Option.bind_some]
  rcases Pl_at hv Q with ⟨h1,h2⟩|⟨h1,h2⟩
  ·rw [decide_eq_true ⟨h1,h2⟩]
   simp only [Int.toNat_natCast]
   rw [yR (by rfl),btwinf_ok a b h1 (Nb_of hg) (W_bq hw),Option.bind_some,zP (yN h1)]
   rcases Bool.eq_false_or_eq_true (gd b.List a).Asleep with hs|hs
   case inr =>
    rw [yX (by rw [hs];rfl)]
    exact ⟨_,_,_,rfl,.inl (by omega)⟩
   case inl =>
    rw [yR (by rw [hs];rfl)]
    by_cases h0:(gd b.List a).Held.length=0
    ·rw [yX (by simp only [xJ,decide_eq_true_eq];omega)]
     exact ⟨_,_,_,rfl,.inl (by omega)⟩
    ·have hh:=hg.2.2 a h1
     rw [yR (by simp only [xJ,decide_eq_false_iff_not];omega),yR (by simp only [yD,decide_eq_false_iff_not];omega),zP (inb_0 (by omega))]
     obtain ⟨m,m1,m2,m3⟩:=pmax_ok ((a:Int),true) b a rfl (gd b.List a).Held rfl (by omega) (by omega)
     rw [wZ m3]
     obtain ⟨k,k1,k2,k3,k4⟩:=pidx_ok (gd b.List a).Held _ m m1 rfl (by omega)
     rw [k4,Option.bind_some,zP (yN k1),xO k1 (by omega),zP (by unfold delb;simp;omega)]
     have hR:=hw.1 _ (xT h1)
     have V:=st_vbT h1 hv (del_qu k1 (hv.1.2 a h1).2.2.1)
     have Z:=W_st (s:=true) hw h1 (Qk_sub hR (del_sub (k:=k)))
     have C:=fun n=>st_cnt (s:=true) (h:=kH (gd b.List a).Held k ((k+1:Nat):Int)) h1 n
     have D:=fun n=>del_cnt k1 n
     have R:=fun r=>st_rem (s:=true) (h:=kH (gd b.List a).Held k ((k+1:Nat):Int)) (r:=r) (q:=gd (gd b.List a).Held k) hv hw h1
     rw [st_held hs] at V Z C R
     have K:∀ n,(hl b ++ []).count n=(hl {b with List:=b.List.set a {(gd b.List a) with Held:=kH (gd b.List a).Held k ((k+1:Nat):Int)}}).count n+([nq (gd (gd b.List a).Held k)].count n+([]:List Nat).count n):=fun n=>by
      have c1:=C n
      have d1:=D n
      rw [List.append_nil,List.count_nil,Nat.add_zero]
      omega
     refine ⟨_,_,_,rfl,.inr ⟨rfl,V,[nq (gd (gd b.List a).Held k)],[],?_,rfl,K,Z,by simp,fun r hr n hn e=>?_⟩⟩
     ·show [(gd (gd b.List a).Held k).Frame.Body]=[(fN (nq (gd (gd b.List a).Held k))).Body]
      rw [← (hR.1 _ (xT k1)).2.1]
     ·obtain rfl:=List.mem_singleton.1 hn
      obtain ⟨q',hq',rfl⟩:=R r hr (xT k1) e
      obtain ⟨_,_,p1,_⟩:=hR.1 _ (xT k1)
      obtain ⟨_,_,p2,_⟩:=hR.1 _ (del_mem hq')
      dsimp only at p1 p2
      have ec:q'.Cat=(gd (gd b.List a).Held k).Cat:=by omega
      obtain ⟨j,hj,ej⟩:=uL hq'
      rw [gI k1] at hj
      rw [del_gd k1] at ej
      by_cases hjk:j < k
      ·rw [if_pos hjk] at ej
       exact absurd (by rw [ej,ec,k2]) (k3 j hjk)
      ·rw [if_neg hjk] at ej
       have pw:=hR.2
       rw [List.pairwise_iff_getElem] at pw
       have:=pw k (j+1) (by simpa using k1) (by simp;omega) (by omega)
       rw [List.getElem_map,List.getElem_map,tV k1,tV (show j+1 < (gd b.List a).Held.length by omega),ej] at this
       exact this
  ·rw [decide_eq_false h1,yX (by rfl)]
   exact ⟨_,_,_,rfl,.inl (by omega)⟩
 ·rw [yX (by simp [yD];omega)]
  exact ⟨_,_,_,rfl,.inl (by omega)⟩
end Go.Proofs.Ytefiemaoacmdkaa
