/-
  Buffers: each step, with numbered frames.
-/
import Derived.Test.YtefiemaoacmdkaaBO
namespace Go.Proofs.Ytefiemaoacmdkaa
open Go.Am
set_option linter.unusedVariables false
set_option linter.unusedSimpArgs false
theorem pw_im {P:Nat->Int} {l:List Nat} (h:l.Pairwise (· < ·)):l.Pairwise (fun x y=>P x=P y->x < y):=by
 refine h.imp ?_
 intro a b h _
 exact h
/-! ### Places -/
theorem pl_ne {b:TBuffer} {P:Nat->Int} {i j k:Nat} {q q':TStored} (hv:Vb b) (hw:W b P i) (hj:j < b.List.length) (hk:k < b.List.length) (hq:q ∈ (gd b.List j).Held) (hq':q' ∈ (gd b.List k).Held) (e:P (nq q)=P (nq q')):j=k/\q.Cat=q'.Cat:=by
 obtain ⟨_,_,h1,h2⟩:=(hw.1 _ (xT hj)).1 q hq
 obtain ⟨_,_,h3,h4⟩:=(hw.1 _ (xT hk)).1 q' hq'
 have c1:q.Cat <= 3:=by obtain ⟨x,hx,rfl⟩:=uL hq;exact ((hv.1.2 j hj).2.2.1.2 x hx).1
 have c2:q'.Cat <= 3:=by obtain ⟨x,hx,rfl⟩:=uL hq';exact ((hv.1.2 k hk).2.2.1.2 x hx).1
 rw [h1,h3] at e
 dsimp only at e
 exact ⟨aid_inj hv hj hk (by omega),by omega⟩
theorem pl_pos {b:TBuffer} {P:Nat->Int} {i j:Nat} {q:TStored} (hv:Vb b) (hw:W b P i) (hj:j < b.List.length) (hq:q ∈ (gd b.List j).Held):4 <= P (nq q):=by
 obtain ⟨_,_,h1,h2⟩:=(hw.1 _ (xT hj)).1 q hq
 have:=aid_rng hv hj
 rw [h1];dsimp only;omega
theorem pl_grp {b:TBuffer} {P:Nat->Int} {i:Nat} {q:TStored} (hw:W b P i) (hq:q ∈ b.Group):P (nq q)=0:=(hw.2.1 q hq).2.2.1
theorem st_cnt {b:TBuffer} {a:Nat} {s:Bool} {h:List TStored} (ha:a < b.List.length) (n:Nat):(hl b).count n+(h.map nq).count n=(hl (stB b a s h)).count n+((gd b.List a).Held.map nq).count n:=by
 obtain ⟨A,h1,h2⟩:=hlB_set ha
 have e1:=h1.count_eq n
 have e2:=(h2 ⟨(gd b.List a).Aid,s,h⟩).count_eq n
 show (hlB b.List ++ b.Group.map nq).count n+_=(hlB (b.List.set a ⟨(gd b.List a).Aid,s,h⟩) ++ b.Group.map nq).count n+_
 simp only [List.count_append] at *
 omega
theorem W_st {b:TBuffer} {a:Nat} {s:Bool} {h:List TStored} {P:Nat->Int} {i:Nat} (hw:W b P i) (ha:a < b.List.length) (hh:Qk P i (fun q=>4 * (gd b.List a).Aid+q.Cat) h):W (stB b a s h) P i:=W_set (x:=⟨(gd b.List a).Aid,s,h⟩) hw ha hh
theorem st_rem {b:TBuffer} {a:Nat} {s:Bool} {h:List TStored} {P:Nat->Int} {i r:Nat} {q:TStored} (hv:Vb b) (hw:W b P i) (ha:a < b.List.length) (hr:r ∈ hl (stB b a s h)) (hq:q ∈ (gd b.List a).Held) (e:P (nq q)=P r):∃ q' ∈ h,nq q'=r:=by
 rcases hl_mem hr with ⟨s',hs,q',hq',rfl⟩|⟨q',hq',rfl⟩
 ·obtain ⟨j,hj,rfl⟩:=uL hs
  rw [fV] at hj
  by_cases c:j=a
  ·subst c;rw [st_at ha] at hq';exact ⟨q',hq',rfl⟩
  ·rw [st_ne c] at hq'
   exact absurd (pl_ne hv hw ha hj hq hq' e).1 (fun h=>c h.symm)
 ·have:=pl_pos hv hw ha hq
  have:=pl_grp hw (show q' ∈ b.Group from hq')
  omega
theorem sp_quiet {b n:TBuffer} {P:Nat->Int} {i:Nat} (hv:Vb n) (hw:W n P (i+1)) (hc:∀ m,(hl b).count m=(hl n).count m):Sp b P i [] ([],[],n,0) :=
 ⟨rfl,hv,[],[],rfl,rfl,fun m=>by simp [hc m],hw,by simp,fun r hr n hn=>by cases hn⟩
theorem sleep_sp (b:TBuffer) (aid:Int) {P:Nat->Int} {i:Nat} (hv:Vb b) (hw:W b P (i+1)):∃ n e,F50 b aid=some (n,e)/\(e ≠ 0 ∨ Sp b P i [] ([],[],n,e)):=by
 have hc:=dR hv
 have hg:=bN hv
 have hl:=hg.1
 unfold F50
 rw [hc,Option.bind_some,yR (by rfl)]
 by_cases ha:1 <= aid/\aid <= 255
 ·rw [yR (by simp [yD];omega)]
  obtain ⟨a,Q,pe⟩:=eS b hg hv aid (by omega)
  rw [pe,Option.bind_some]
  rcases Pl_at hv Q with ⟨h1,h2⟩|⟨h1,h2⟩
  ·rw [decide_eq_true ⟨h1,h2⟩]
   simp only [Int.toNat_natCast]
   rw [yR (by rfl),eG b (Nb_of hg) (W_bq hw),Option.bind_some,zP (yN h1)]
   exact ⟨stB b a true (gd b.List a).Held,0,rfl,.inr (sp_quiet (st_vbT h1 hv (hv.1.2 a h1).2.2.1) (W_st hw h1 (hw.1 _ (xT h1))) fun m=>by have:=st_cnt (s:=true) (h:=(gd b.List a).Held) h1 m;omega)⟩
  ·rw [decide_eq_false h1,yX (by rfl)]
   exact ⟨_,_,rfl,.inl (by omega)⟩
 ·rw [yX (by simp [yD];omega)]
  exact ⟨_,_,rfl,.inl (by omega)⟩
theorem join_sp (b:TBuffer) (aid:Int) {P:Nat->Int} {i:Nat} (hv:Vb b) (hw:W b P (i+1)):∃ n e,F40 b aid=some (n,e)/\(e ≠ 0 ∨ Sp b P i [] ([],[],n,e)):=by
 have hc:=dR hv
 have hg:=bN hv
 have hl:=hg.1
 unfold F40
 rw [hc,Option.bind_some,yR (by rfl)]
 by_cases ha:1 <= aid/\aid <= 255
 ·rw [yR (by simp [yD];omega)]
  obtain ⟨a,Q,pe⟩:=eS b hg hv aid (by omega)
  rw [pe,Option.bind_some]
  rcases Pl_at hv Q with ⟨h1,h2⟩|⟨h1,h2⟩
  ·rw [decide_eq_true ⟨h1,h2⟩,yX (by rfl)]
   exact ⟨_,_,rfl,.inl (by omega)⟩
  ·rw [decide_eq_false h1,yR (by rfl)]
   have hm:=hv.1.1.2.2
   by_cases hf:b.List.length=32
   ·rw [yX (by simp [xJ];omega)]
    exact ⟨_,_,rfl,.inl (by omega)⟩
   ·have hp:=Q.1
    rw [yR (by simp [xJ];omega),eG b (Nb_of hg) (W_bq hw),Option.bind_some,zP (insb_iff.2 ⟨by omega,by simp only;omega,by omega⟩)]
    have eL:(jnB b a aid).List=b.List.take a ++ [⟨aid,false,[]⟩] ++ b.List.drop a:=by
     show insL b.List (a:Int) _=_
     unfold insL
     rw [Int.toNat_natCast]
    refine ⟨jnB b a aid,0,rfl,.inr (sp_quiet (jn_vb hv Q h2 ha (by omega)) ⟨fun s hs=>?_,hw.2⟩ fun m=>?_)⟩
    ·rw [eL] at hs
     rcases List.mem_append.1 hs with hs|hs
     ·rcases List.mem_append.1 hs with hs|hs
      ·exact hw.1 s (List.mem_of_mem_take hs)
      ·obtain rfl:=List.mem_singleton.1 hs
       exact Qk_nil
     ·exact hw.1 s (List.mem_of_mem_drop hs)
    ·show (hlB b.List ++ b.Group.map nq).count m=(hlB (jnB b a aid).List ++ b.Group.map nq).count m
     rw [eL]
     have:hlB b.List=hlB (b.List.take a) ++ hlB (b.List.drop a):=by
      unfold hlB
      rw [← List.flatMap_append,List.take_append_drop]
     rw [this]
     unfold hlB
     simp
 ·rw [yX (by simp [yD];omega)]
  exact ⟨_,_,rfl,.inl (by omega)⟩
/-! ### Leave -/
theorem hlB_fil (p:TSleeper->Bool) (L:List TSleeper) (n:Nat):(hlB L).count n=(hlB (L.filter p)).count n+(hlB (L.filter fun s=>!p s)).count n:=by
 induction L with
 | nil=>simp [hlB]
 | cons s L ih =>
  have e:∀ (x:TSleeper) (M:List TSleeper),hlB (x::M)=x.Held.map nq ++ hlB M:=fun x M=>by unfold hlB;rw [List.flatMap_cons]
  rw [e,List.count_append]
  cases hp:p s<;>simp only [List.filter_cons,hp,Bool.not_true,Bool.not_false,if_true,if_false,Bool.false_eq_true,e,List.count_append]<;>omega
theorem fil_one {b:TBuffer} {a:Nat} {aid:Int} (hv:Vb b) (h1:a < b.List.length) (h2:(gd b.List a).Aid=aid):(b.List.filter fun s=>!!bEq s.Aid aid)=[gd b.List a]:=by
 have e:=spl h1
 have hx:∀ j,j < b.List.length->j ≠ a->bEq (gd b.List j).Aid aid=false:=fun j hj hne=>by
  rw [xJ,decide_eq_false_iff_not]
  exact fun h=>hne (aid_inj hv hj h1 (by rw [h,h2]))
 have t1:(b.List.take a).filter (fun s=>!!bEq s.Aid aid)=[]:=List.filter_eq_nil_iff.2 fun s hs=>by
  obtain ⟨j,hj,rfl⟩:=uL hs
  simp only [List.length_take] at hj
  rw [bX (by omega),hx j (by omega) (by omega)]
  simp
 have t2:(b.List.drop (a+1)).filter (fun s=>!!bEq s.Aid aid)=[]:=List.filter_eq_nil_iff.2 fun s hs=>by
  obtain ⟨j,hj,rfl⟩:=uL hs
  simp only [List.length_drop] at hj
  rw [gd_drop,hx (a+1+j) (by omega) (by omega)]
  simp
 have t3:(!!bEq (gd b.List a).Aid aid)=true:=by simp [xJ,h2]
 have:(b.List.filter fun s=>!!bEq s.Aid aid)=(b.List.take a ++ gd b.List a::b.List.drop (a+1)).filter (fun s=>!!bEq s.Aid aid):=by rw [← e]
 rw [this,List.filter_append,t1,List.filter_cons,if_pos t3,t2]
 rfl
theorem leave_sp (b:TBuffer) (aid:Int) {P:Nat->Int} {i:Nat} (hv:Vb b) (hw:W b P (i+1)):∃ d n e,F42 b aid=some (d,n,e)/\(e ≠ 0 ∨ Sp b P i [] ([],d,n,e)):=by
 have hc:=dR hv
 have hg:=bN hv
 have hl':=hg.1
 unfold F42
 rw [hc,Option.bind_some,yR (by rfl)]
 by_cases ha:1 <= aid/\aid <= 255
 ·rw [yR (by simp [yD];omega)]
  obtain ⟨a,Q,pe⟩:=eS b hg hv aid (by omega)
  rw [pe,Option.bind_some]
  rcases Pl_at hv Q with ⟨h1,h2⟩|⟨h1,h2⟩
  ·rw [decide_eq_true ⟨h1,h2⟩]
   simp only [Int.toNat_natCast]
   have hh:=hg.2.2 a h1
   have h22:=hg.2.1
   have hfl:=List.length_filter_le (fun q:TSleeper=>!bEq q.Aid aid) b.List
   rw [yR (by rfl),eG b (Nb_of hg) (W_bq hw),Option.bind_some,zP (yN h1),eM _ (by omega),Option.bind_some,sdel_ok _ _ (by omega),Option.bind_some]
   obtain ⟨q,q1,q2⟩:=aslp_ok {b with List:=b.List.filter fun q=>!bEq q.Aid aid} (by simp only;omega)
   rw [q1,Option.bind_some]
   have cnt:∀ n,(hlB b.List).count n=(hlB (b.List.filter fun q=>!bEq q.Aid aid)).count n+((gd b.List a).Held.map nq).count n:=fun n=>by
    rw [hlB_fil (fun q=>!bEq q.Aid aid) b.List n,fil_one hv h1 h2]
    simp [hlB]
   have wl:∀ s ∈ b.List.filter (fun q=>!bEq q.Aid aid),Qk P (i+1) (fun q=>4 * s.Aid+q.Cat) s.Held:=fun s hs=>hw.1 s (List.mem_filter.1 hs).1
   have hQ:=hw.1 _ (xT h1)
   cases q with
   | false =>
    rw [yX (by rfl),eM _ (by omega),Option.bind_some,uR (by simp;omega) (by simp;omega)]
    refine ⟨_,_,_,rfl,.inr ⟨rfl,fil_vb hv _ [] (qu_nil hv) (.inl rfl),[],(gd b.List a).Held.map nq ++ b.Group.map nq,rfl,?_,fun n=>?_,⟨wl,Qk_nil⟩,by simp,fun r hr n hn=>by cases hn⟩⟩
    ·show _=_
     rw [List.map_append,← Qk_fr hQ,← Qk_fr hw.2]
    ·show ((hlB b.List ++ b.Group.map nq) ++ []).count n=(hlB (b.List.filter fun q=>!bEq q.Aid aid) ++ []).count n+_
     have:=cnt n
     simp only [List.count_append,List.count_nil,List.append_nil]
     omega
   | true =>
    rw [yR (by rfl),uR (by simp;omega) (by simp;omega)]
    refine ⟨_,_,_,rfl,.inr ⟨rfl,fil_vb hv _ b.Group hv.2.1 (.inr (q2.1 rfl)),[],(gd b.List a).Held.map nq,rfl,?_,fun n=>?_,⟨wl,hw.2⟩,by simp,fun r hr n hn=>by cases hn⟩⟩
    ·show _ ++ []=_
     rw [List.append_nil,← Qk_fr hQ]
    ·show ((hlB b.List ++ b.Group.map nq) ++ []).count n=(hlB (b.List.filter fun q=>!bEq q.Aid aid) ++ b.Group.map nq).count n+_
     have:=cnt n
     simp only [List.count_append,List.count_nil,List.append_nil]
     omega
  ·rw [decide_eq_false h1,yX (by rfl)]
   exact ⟨_,_,_,rfl,.inl (by omega)⟩
 ·rw [yX (by simp [yD];omega)]
  exact ⟨_,_,_,rfl,.inl (by omega)⟩
/-! ### Wake -/
theorem wake_sp (b:TBuffer) (aid:Int) {P:Nat->Int} {i:Nat} (hv:Vb b) (hw:W b P (i+1)):∃ o n e,F21 b aid=some (o,n,e)/\(e ≠ 0 ∨ Sp b P i [] (o,[],n,e)):=by
 have hc:=dR hv
 have hg:=bN hv
 have hq:=W_bq hw
 have hl':=hg.1
 unfold F21
 rw [hc,Option.bind_some,yR (by rfl)]
 by_cases ha:1 <= aid/\aid <= 255
 ·rw [yR (by simp [yD];omega)]
  obtain ⟨a,Q,pe⟩:=eS b hg hv aid (by omega)
  rw [pe,Option.bind_some]
  rcases Pl_at hv Q with ⟨h1,h2⟩|⟨h1,h2⟩
  ·rw [decide_eq_true ⟨h1,h2⟩]
   simp only [Int.toNat_natCast]
   have hh:=hg.2.2 a h1
   obtain ⟨r1,x1,x2,x3⟩:=hand_b ((gd b.List a).Held.map (·.Frame)) (by simp;omega)
   rw [yR (by rfl),eG b (Nb_of hg) hq,Option.bind_some,zP (yN h1),eM _ (by omega),Option.bind_some,x1,Option.bind_some,Option.bind_some]
   have eB:(b.List.set a {(gd b.List a) with Asleep:=false}).set a {(gd (b.List.set a {(gd b.List a) with Asleep:=false}) a) with Held:=[]} = (stB b a false []).List:=by
    rw [uJ h1,List.set_set]
    rfl
   rw [eB]
   have hn2:(stB b a false []).List.length <= 1000:=by rw [fV];omega
   obtain ⟨q,q1,q2⟩:=aslp_ok {b with List:=(stB b a false []).List} hn2
   rw [q1,Option.bind_some]
   have hx:r1.length=(gd b.List a).Held.length:=by rw [x3];simp
   have h22:=hg.2.1
   have hQ:=hw.1 _ (xT h1)
   have cnt:=fun n=>st_cnt (s:=false) (h:=[]) h1 n
   have wq:W (stB b a false []) P (i+1):=W_st hw h1 Qk_nil
   have rem:∀ r ∈ hl (stB b a false []),∀ n ∈ (gd b.List a).Held.map nq,P n=P r->n < r:=fun r hr n hn e=>by
    obtain ⟨x,hx,rfl⟩:=List.mem_map.1 hn
    obtain ⟨y,hy,_⟩:=st_rem hv hw h1 hr hx e
    cases hy
   have b1:r1.map (·.Body)=((gd b.List a).Held.map nq).map (fun n:Nat=>(fN n).Body):=by rw [x2,Qk_body hQ]
   cases q with
   | false =>
    obtain ⟨r2,y1,y2,y3⟩:=hand_b (b.Group.map (·.Frame)) (by simp;omega)
    have hy:r2.length=b.Group.length:=by rw [y3];simp
    rw [yX (by rfl),eM _ (by omega),Option.bind_some,y1,Option.bind_some,uR (by omega) (by omega)]
    refine ⟨_,_,_,rfl,.inr ⟨rfl,(wk_good h1 hg hq hv (.inl rfl)).2.2,(gd b.List a).Held.map nq ++ b.Group.map nq,[],?_,rfl,fun n=>?_,⟨wq.1,Qk_nil⟩,?_,fun r hr n hn e=>?_⟩⟩
    ·show (r1 ++ r2).map (·.Body)=_
     rw [List.map_append,List.map_append,b1,y2,Qk_body hw.2]
    ·have:=cnt n
     show ((hlB b.List ++ b.Group.map nq) ++ []).count n=(hlB (stB b a false []).List ++ []).count n+_
     have e2:(hl (stB b a false [])).count n=(hlB (stB b a false []).List).count n+(b.Group.map nq).count n:=by unfold hl;rw [List.count_append];rfl
     have e3:(hl b).count n=(hlB b.List ++ b.Group.map nq).count n:=rfl
     simp only [List.count_append,List.count_nil,List.append_nil,List.map_nil] at *
     omega
    ·rw [List.pairwise_append]
     refine ⟨pw_im hQ.2,pw_im hw.2.2,fun x hx y hy e=>?_⟩
     obtain ⟨qx,hqx,rfl⟩:=List.mem_map.1 hx
     obtain ⟨qy,hqy,rfl⟩:=List.mem_map.1 hy
     have:=pl_pos hv hw h1 hqx
     have:=pl_grp hw hqy
     omega
    ·have hr':r ∈ hlB (stB b a false []).List:=by
      have:r ∈ hlB (stB b a false []).List ++ []:=hr
      simpa using this
     have hr2:r ∈ hl (stB b a false []):=List.mem_append_left _ hr'
     rcases List.mem_append.1 hn with hn|hn
     ·exact rem r hr2 n hn e
     ·obtain ⟨qy,hqy,rfl⟩:=List.mem_map.1 hn
      have e0:=pl_grp hw hqy
      unfold hlB at hr'
      obtain ⟨s,hs,hr3⟩:=List.mem_flatMap.1 hr'
      obtain ⟨qr,hqr,rfl⟩:=List.mem_map.1 hr3
      obtain ⟨_,_,p1,p2⟩:=(wq.1 s hs).1 qr hqr
      dsimp only at p1
      obtain ⟨j,hj,rfl⟩:=uL hs
      have:=st_aid (s:=false) (h:=[]) (i:=j) h1
      rw [fV] at hj
      have:=aid_rng hv hj
      omega
   | true =>
    rw [yR (by rfl),show F52_1=some [] from rfl,Option.bind_some,uR (by simp;omega) (by simp;omega)]
    refine ⟨_,_,_,rfl,.inr ⟨rfl,(wk_good h1 hg hq hv (.inr ⟨rfl,q2.1 rfl⟩)).2.2,(gd b.List a).Held.map nq,[],?_,rfl,fun n=>?_,wq,pw_im hQ.2,rem⟩⟩
    ·show (r1 ++ ([]:List TFrame)).map (·.Body)=_
     rw [List.append_nil,b1]
    ·have:=cnt n
     show (hl b ++ []).count n=(hl (stB b a false [])).count n+_
     simp only [List.count_append,List.count_nil,List.append_nil,List.map_nil] at *
     omega
  ·rw [decide_eq_false h1,yX (by rfl)]
   exact ⟨_,_,_,rfl,.inl (by omega)⟩
 ·rw [yX (by simp [yD];omega)]
  exact ⟨_,_,_,rfl,.inl (by omega)⟩
/-! ### Flush, Age -/
theorem flush_sp (b:TBuffer) {P:Nat->Int} {i:Nat} (hv:Vb b) (hw:W b P (i+1)):∃ o n e,F26 b=some (o,n,e)/\Sp b P i [] (o,[],n,e):=by
 have hc:=dR hv
 have hg:=bN hv
 have h2:=hg.2.1
 unfold F26
 obtain ⟨r,r1,r2,r3⟩:=hand_b (b.Group.map (·.Frame)) (by simp;omega)
 rw [hc,Option.bind_some,yR (by rfl),eG b (Nb_of hg) (W_bq hw),Option.bind_some,eM _ (by omega),Option.bind_some,r1,Option.bind_some]
 refine ⟨_,_,_,rfl,rfl,grp_vb hv (qu_nil hv) (.inl rfl),b.Group.map nq,[],?_,rfl,fun n=>?_,⟨hw.1,Qk_nil⟩,pw_im hw.2.2,fun r hr n hn e=>?_⟩
 ·show r.map (·.Body)=_
  rw [r2,Qk_body hw.2]
 ·show ((hlB b.List ++ b.Group.map nq) ++ []).count n=(hlB b.List ++ []).count n+_
  simp only [List.count_append,List.count_nil,List.append_nil]
  omega
 ·have hr':r ∈ hlB b.List:=by
   have:r ∈ hlB b.List ++ []:=hr
   simpa using this
  obtain ⟨qy,hqy,rfl⟩:=List.mem_map.1 hn
  have e0:=pl_grp hw hqy
  unfold hlB at hr'
  obtain ⟨s,hs,hr3⟩:=List.mem_flatMap.1 hr'
  obtain ⟨qr,hqr,rfl⟩:=List.mem_map.1 hr3
  obtain ⟨j,hj,rfl⟩:=uL hs
  have:=pl_pos hv hw hj hqr
  omega
theorem fil_cnt (p:TStored->Bool) (l:List TStored) (n:Nat):(l.map nq).count n=((l.filter p).map nq).count n+((l.filter fun q=>!p q).map nq).count n:=by
 induction l with
 | nil=>simp
 | cons q l ih =>
  cases hp:p q<;>simp only [List.filter_cons,hp,Bool.not_true,Bool.not_false,if_true,if_false,Bool.false_eq_true,List.map_cons,List.count_cons]<;>omega
theorem age_sp (b:TBuffer) (t:Int) {P:Nat->Int} {i:Nat} (hv:Vb b) (hw:W b P (i+1)):∃ d n e,F25 b t=some (d,n,e)/\(e ≠ 0 ∨ Sp b P i [] ([],d,n,e)):=by
 have hc:=dR hv
 have hg:=bN hv
 by_cases hm:0 <= t/\t <= 1099511627776
 ·have A:=age_ok b t hc (Nb_of hg) (W_bq hw) ⟨by have:=hv.1.1.2.1;omega,hv.1.1.2.1.2⟩ (vb_aq hv) hm hg.1 (fun s hs=>by obtain ⟨i,hi,rfl⟩:=uL hs;exact hg.2.2 i hi)
  refine ⟨_,_,_,A,.inr ⟨rfl,vb_aged hv,[],(b.List.flatMap fun s=>(s.Held.filter fun q=>!yg b.Stay t q).map nq) ++ (b.Group.filter fun q=>!yg b.Stay t q).map nq,rfl,?_,fun n=>?_,⟨fun s hs=>?_,Qk_sub hw.2 List.filter_sublist⟩,by simp,fun r hr n hn=>by cases hn⟩⟩
  ·have o1:∀ {l:List TStored} {pl:TStored->Int},Qk P (i+1) pl l->olds b.Stay t l=((l.filter fun q=>!yg b.Stay t q).map nq).map (fun n:Nat=>fN n):=fun h=>Qk_fr (Qk_sub h List.filter_sublist)
   show drops b t=_
   unfold drops
   rw [List.map_append,← o1 hw.2,List.map_flatMap]
   congr 1
   have:∀ L:List TSleeper,(∀ s ∈ L,Qk P (i+1) (fun q=>4 * s.Aid+q.Cat) s.Held)->(L.flatMap fun s=>olds b.Stay t s.Held)=L.flatMap fun s=>((s.Held.filter fun q=>!yg b.Stay t q).map nq).map (fun n:Nat=>fN n):=fun L hL=>by
    induction L with
    | nil=>rfl
    | cons s L ih=>rw [List.flatMap_cons,List.flatMap_cons,o1 (hL s (List.mem_cons_self ..)),ih fun s hs=>hL s (List.mem_cons_of_mem _ hs)]
   exact this _ hw.1
  ·have hL:∀ L:List TSleeper,(hlB L).count n=(hlB (L.map (yngs b.Stay t))).count n+(L.flatMap fun s=>(s.Held.filter fun q=>!yg b.Stay t q).map nq).count n:=fun L=>by
    induction L with
    | nil=>simp [hlB]
    | cons s L ih =>
     have e:∀ (x:TSleeper) (M:List TSleeper),hlB (x::M)=x.Held.map nq ++ hlB M:=fun x M=>by unfold hlB;rw [List.flatMap_cons]
     rw [List.map_cons,e,e,List.flatMap_cons]
     have:=fil_cnt (yg b.Stay t) s.Held n
     simp only [List.count_append,yngs] at *
     omega
   have h1:=hL b.List
   have h2:=fil_cnt (yg b.Stay t) b.Group n
   show ((hlB b.List ++ b.Group.map nq) ++ []).count n=(hlB (b.List.map (yngs b.Stay t)) ++ (b.Group.filter (yg b.Stay t)).map nq).count n+_
   simp only [List.count_append,List.count_nil,List.append_nil] at *
   omega
  ·obtain ⟨s0,h0,rfl⟩:=List.mem_map.1 hs
   exact Qk_sub (hw.1 s0 h0) List.filter_sublist
 ·have A:F25 b t=some ([],TBuffer.mk 0 0 [] [],2):=by
   unfold F25 F61
   rw [hc,Option.bind_some,yR (by simp [xJ]),Option.bind_some,yX (by simp [vQ];omega)]
  exact ⟨_,_,_,A,.inl (by omega)⟩
end Go.Proofs.Ytefiemaoacmdkaa
