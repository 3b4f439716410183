/-
  A sleeping station's wakes: Age, the map, the polls.
-/
import Derived.Test.YtooepgpfaaddbaaSD
namespace Go.Proofs.Ytooepgpfaaddbaa
open Go.Am
set_option linter.unusedVariables false
set_option linter.unusedSimpArgs false
set_option maxRecDepth 4000
theorem encE (b:Bool):∃ x s,F30 ⟨false,bif b then [] else [9]⟩=some (x,0)/\F31 x=some (s,0)/\F18 s 9=some (!b):=by
 have key:∀ (t:TTraffic) (r:Bool),(F30 t).bind (fun r=>(F31 r.1).bind fun s=>(F18 s.1 9).bind fun t=>some (r.2,s.2,t))=some (0,0,r)->∃ x s,F30 t=some (x,0)/\F31 x=some (s,0)/\F18 s 9=some r:=fun t r h=>by
  obtain ⟨⟨x,a⟩,h1,h⟩:=Option.bind_eq_some_iff.1 h
  obtain ⟨⟨s,b⟩,h2,h⟩:=Option.bind_eq_some_iff.1 h
  obtain ⟨u,h3,h⟩:=Option.bind_eq_some_iff.1 h
  injection h with h
  obtain ⟨rfl,rfl,rfl⟩:a=0/\b=0/\u=r:=by
   injection h with q1 h
   injection h with q2 q3
   exact ⟨q1,q2,q3⟩
  exact ⟨x,s,h1,h2,h3⟩
 cases b with
 | true=>exact key _ _ enc0
 | false=>exact key _ _ enc1
theorem fil_seq {i:Nat} {H:List TStored} {F C l:List Int} (p:TStored->Bool) (I:Iv i H F C l):((H.filter p).map (·.Frame)).Pairwise (fun a b=>a.Head.Seq < b.Head.Seq)/\∀ f ∈ (H.filter p).map (·.Frame),∃ n:Nat,n < F.length/\f.Head.Seq=(n:Int)/\gd F n=0:=by
 refine ⟨List.pairwise_map.2 (I.hs.sublist List.filter_sublist),fun f hf=>?_⟩
 obtain ⟨q,hq,rfl⟩:=List.mem_map.1 hf
 obtain ⟨n,n1,n2,_,n4,_⟩:=I.hH q (List.mem_filter.1 hq).1
 exact ⟨n,by rw [I.lF];exact n1,n2,n4⟩
theorem rouse4 {lim stay now:Int} {H:List TStored} {F C l:List Int} {i:Nat} {r:Int × Bool} (hL:Lm lim stay) (hq:Qs lim now H) (hn:now <= 1099511627776) (I:Iv i H F C l) (ha:0 <= r.1/\r.1 <= 1099511627776) :
  ∃ F' l',Iv i [] F' C l'/\F3_L4 C lim stay [⟨9,true,H⟩] [] F (gd l 0) (gd l 1) (gd l 2) (gd l 3) r=some (.done (.inl (true,lim,stay,[⟨9,true,[]⟩],[],F',gd l' 0,gd l' 1,gd l' 2,gd l' 3))):=by
 have i6:=I.n60
 unfold F3_L4
 rw [show TBuffer.mk lim stay [⟨9,true,H⟩] []=Bf lim stay H from rfl,ageB hL hq hn ha,Option.bind_some,yT (by rfl)]
 generalize eD:((H.filter (old stay r.1)).map (·.Frame),Bf lim stay (H.filter fun q=>!old stay r.1 q),(0:Int))=X
 have x1:X.1=(H.filter (old stay r.1)).map (·.Frame):=by rw [← eD]
 have x2:X.2.1=Bf lim stay (H.filter fun q=>!old stay r.1 q):=by rw [← eD]
 obtain ⟨d1,d2⟩:=fil_seq (old stay r.1) I
 rw [← x1] at d1 d2
 obtain ⟨G,g1,g2,g3⟩:=drop_gen (step:=fun s=>F3_L6 X s.1 s.2) X.1 (fun j G=>(j,G)) (fun G=>G) F d1 d2 (fun j n G hj hG hn e0 e1=>by
  show F3_L6 X j G=_
  unfold F3_L6
  rw [vI (by simp [yS];omega),zS (xW hj),Int.toNat_natCast,e0,Int.toNat_natCast,e1,xW (show n < G.length by omega),zS (by simp),yT (by simp [yS,eO,uY];omega),zS (by rfl),vO hj (by
   have:=I.lF
   have:X.1.length <= H.length:=by rw [x1,List.length_map];exact List.length_filter_le ..
   have:=hq.1
   have:=hL.1.2
   omega)]) (fun G=>by
  show F3_L6 X (X.1.length:Nat) G=_
  unfold F3_L6
  rw [yT (by simp [yS])])
 have l5:yN (fun _=>F3_L5 F X) ()=some (.inl (true,G)):=yX (by unfold F3_L5;rw [wH g3])
 rw [wH l5,yT (by rfl)]
 rw [x1] at g2
 have I1:=I.age g1 g2
 have q1:Qs lim now (H.filter fun q=>!old stay r.1 q):=Qs_sub hq List.filter_sublist
 rw [x2]
 generalize (H.filter fun q=>!old stay r.1 q)=H' at I1 q1
 obtain ⟨x,s,s1,s2,s3⟩:=encE H'.isEmpty
 rw [mapB hL q1 hn,Option.bind_some]
 dsimp only
 rw [s1,Option.bind_some]
 dsimp only
 rw [s2,Option.bind_some,yT (by rfl)]
 dsimp only
 rw [s3,Option.bind_some]
 obtain ⟨F',l',I',e⟩:=poll_gen (step:=fun s=>F3_L7 C s.1 s.2.1 s.2.2.1 s.2.2.2.1 s.2.2.2.2.1 s.2.2.2.2.2.1 s.2.2.2.2.2.2.1 s.2.2.2.2.2.2.2.1 s.2.2.2.2.2.2.2.2.1 s.2.2.2.2.2.2.2.2.2) (lim:=lim) (now:=now) (C:=C) (i:=i) (fun b H F l=>(b,lim,stay,[⟨9,true,H⟩],[],F,gd l 0,gd l 1,gd l 2,gd l 3)) (fun H F l=>(lim,stay,[⟨9,true,H⟩],[],F,gd l 0,gd l 1,gd l 2,gd l 3)) (fun H F l hq I h0=>by
  obtain ⟨k,k1,k2,k3⟩:=pollB hL hq hn h0
  obtain ⟨n,n1,n2,n3,n4,n5⟩:=I.hH _ (gd_mem k1)
  obtain ⟨⟨c0,c1⟩,_⟩:=hq.2.1 _ (gd_mem k1)
  refine ⟨k,n,k1,k2,n2,n1,?_⟩
  show F3_L7 C true lim stay [⟨9,true,H⟩] [] F (gd l 0) (gd l 1) (gd l 2) (gd l 3)=_
  have f4:=four I.ll
  have lF:=I.lF
  have lC:=I.lC
  unfold F3_L7
  rw [vI (by rfl),show TBuffer.mk lim stay [⟨9,true,H⟩] []=Bf lim stay H from rfl,k3,Option.bind_some,f4]
  dsimp only
  rw [show (gd H k).Frame.Head.Seq=(n:Int) from n2,Int.toNat_natCast,n4,n3,xW (show n < F.length by omega),xW (show n < C.length by omega),zS (by simp),yT (by simp [yS,eO,uY];omega),zS (by rfl),zS (uG.2 (by omega)),yT (by simp [yS];omega),zS (uG.2 (by omega)),zS (by rfl)]
  rfl) (fun F l=>by
  show F3_L7 C false lim stay [⟨9,true,[]⟩] [] F (gd l 0) (gd l 1) (gd l 2) (gd l 3)=_
  unfold F3_L7
  rfl) _ H' G l rfl q1 I1
 refine ⟨F',l',I',?_⟩
 have e8:yN (fun s=>F3_L8 lim stay [⟨9,true,[]⟩] [] F' (gd l' 0) (gd l' 1) (gd l' 2) (gd l' 3) s) 0=some (.inl ()):=run_gen (step:=fun s=>F3_L8 lim stay [⟨9,true,[]⟩] [] F' (gd l' 0) (gd l' 1) (gd l' 2) (gd l' 3) s) i (fun j=>(j:Int)) () (fun j hj=>by
  have lF:=I'.lF
  show F3_L8 lim stay [⟨9,true,[]⟩] [] F' (gd l' 0) (gd l' 1) (gd l' 2) (gd l' 3) j=_
  unfold F3_L8
  rw [vI (by simp [yS];omega),zS (xW (by omega)),Int.toNat_natCast,yT (by
   rw [uY,decide_eq_false_iff_not]
   intro h
   obtain ⟨q,hq,_⟩:=I'.hA j hj h
   cases hq),vO hj (by omega)]) (by
  have lF:=I'.lF
  show F3_L8 lim stay [⟨9,true,[]⟩] [] F' (gd l' 0) (gd l' 1) (gd l' 2) (gd l' 3) (i:Nat)=_
  unfold F3_L8
  rw [yT (by simp [yS];omega)])
 refine (wH e).trans ?_
 exact wH e8
theorem rouse11 {lim stay now:Int} {H:List TStored} {F C l:List Int} {i:Nat} {r:Int × Bool} (hL:Lm lim stay) (hq:Qs lim now H) (hn:now <= 1099511627776) (I:Iv i H F C l) (ha:0 <= r.1/\r.1 <= 1099511627776) :
  ∃ F' l',Iv i [] F' C l'/\F3_L11 lim stay [⟨9,true,H⟩] [] F (gd l 0) (gd l 1) (gd l 2) (gd l 3) C r=some (.done (.inl true)):=by
 have i6:=I.n60
 unfold F3_L11
 rw [show TBuffer.mk lim stay [⟨9,true,H⟩] []=Bf lim stay H from rfl,ageB hL hq hn ha,Option.bind_some,yT (by rfl)]
 generalize eD:((H.filter (old stay r.1)).map (·.Frame),Bf lim stay (H.filter fun q=>!old stay r.1 q),(0:Int))=X
 have x1:X.1=(H.filter (old stay r.1)).map (·.Frame):=by rw [← eD]
 have x2:X.2.1=Bf lim stay (H.filter fun q=>!old stay r.1 q):=by rw [← eD]
 obtain ⟨d1,d2⟩:=fil_seq (old stay r.1) I
 rw [← x1] at d1 d2
 obtain ⟨G,g1,g2,g3⟩:=drop_gen (step:=fun s=>F3_L13 X s.1 s.2) X.1 (fun j G=>(j,G)) (fun G=>G) F d1 d2 (fun j n G hj hG hn e0 e1=>by
  show F3_L13 X j G=_
  unfold F3_L13
  rw [vI (by simp [yS];omega),zS (xW hj),Int.toNat_natCast,e0,Int.toNat_natCast,e1,xW (show n < G.length by omega),zS (by simp),yT (by simp [yS,eO,uY];omega),zS (by rfl),vO hj (by
   have:=I.lF
   have:X.1.length <= H.length:=by rw [x1,List.length_map];exact List.length_filter_le ..
   have:=hq.1
   have:=hL.1.2
   omega)]) (fun G=>by
  show F3_L13 X (X.1.length:Nat) G=_
  unfold F3_L13
  rw [yT (by simp [yS])])
 have l5:yN (fun _=>F3_L12 F X) ()=some (.inl (true,G)):=yX (by unfold F3_L12;rw [wH g3])
 rw [wH l5,yT (by rfl)]
 rw [x1] at g2
 have I1:=I.age g1 g2
 have q1:Qs lim now (H.filter fun q=>!old stay r.1 q):=Qs_sub hq List.filter_sublist
 rw [x2]
 generalize (H.filter fun q=>!old stay r.1 q)=H' at I1 q1
 obtain ⟨x,s,s1,s2,s3⟩:=encE H'.isEmpty
 rw [mapB hL q1 hn,Option.bind_some]
 dsimp only
 rw [s1,Option.bind_some]
 dsimp only
 rw [s2,Option.bind_some,yT (by rfl)]
 dsimp only
 rw [s3,Option.bind_some]
 obtain ⟨F',l',I',e⟩:=poll_gen (step:=fun s=>F3_L14 C s.1 s.2.1 s.2.2.1 s.2.2.2.1 s.2.2.2.2.1 s.2.2.2.2.2.1 s.2.2.2.2.2.2.1 s.2.2.2.2.2.2.2.1 s.2.2.2.2.2.2.2.2.1 s.2.2.2.2.2.2.2.2.2) (lim:=lim) (now:=now) (C:=C) (i:=i) (fun b H F l=>(b,lim,stay,[⟨9,true,H⟩],[],F,gd l 0,gd l 1,gd l 2,gd l 3)) (fun H F l=>(lim,stay,[⟨9,true,H⟩],[],F,gd l 0,gd l 1,gd l 2,gd l 3)) (fun H F l hq I h0=>by
  obtain ⟨k,k1,k2,k3⟩:=pollB hL hq hn h0
  obtain ⟨n,n1,n2,n3,n4,n5⟩:=I.hH _ (gd_mem k1)
  obtain ⟨⟨c0,c1⟩,_⟩:=hq.2.1 _ (gd_mem k1)
  refine ⟨k,n,k1,k2,n2,n1,?_⟩
  show F3_L14 C true lim stay [⟨9,true,H⟩] [] F (gd l 0) (gd l 1) (gd l 2) (gd l 3)=_
  have f4:=four I.ll
  have lF:=I.lF
  have lC:=I.lC
  unfold F3_L14
  rw [vI (by rfl),show TBuffer.mk lim stay [⟨9,true,H⟩] []=Bf lim stay H from rfl,k3,Option.bind_some,f4]
  dsimp only
  rw [show (gd H k).Frame.Head.Seq=(n:Int) from n2,Int.toNat_natCast,n4,n3,xW (show n < F.length by omega),xW (show n < C.length by omega),zS (by simp),yT (by simp [yS,eO,uY];omega),zS (by rfl),zS (uG.2 (by omega)),yT (by simp [yS];omega),zS (uG.2 (by omega)),zS (by rfl)]
  rfl) (fun F l=>by
  show F3_L14 C false lim stay [⟨9,true,[]⟩] [] F (gd l 0) (gd l 1) (gd l 2) (gd l 3)=_
  unfold F3_L14
  rfl) _ H' G l rfl q1 I1
 refine ⟨F',l',I',?_⟩
 have e8:yN (fun s=>F3_L15 F' s) 0=some (.inl ()):=run_gen (step:=fun s=>F3_L15 F' s) i (fun j=>(j:Int)) () (fun j hj=>by
  have lF:=I'.lF
  show F3_L15 F' j=_
  unfold F3_L15
  rw [vI (by simp [yS];omega),zS (xW (by omega)),Int.toNat_natCast,yT (by
   rw [uY,decide_eq_false_iff_not]
   intro h
   obtain ⟨q,hq,_⟩:=I'.hA j hj h
   cases hq),vO hj (by omega)]) (by
  have lF:=I'.lF
  show F3_L15 F' (i:Nat)=_
  unfold F3_L15
  rw [yT (by simp [yS];omega)])
 refine (wH e).trans ?_
 exact wH e8
end Go.Proofs.Ytooepgpfaaddbaa
