/-
  RootSettled: settling, to its end.
-/
import Derived.Test.YtdcepineppafpaaSE
namespace Go.Proofs.Ytdcepineppafpaa
open Go.Am
set_option linter.unusedVariables false
set_option linter.unusedSimpArgs false
theorem pick_ok (p2:List Int) (st:Nat):∃ x,yP (fun _:Unit=>F40_L3 p2 (st:Int)) ()=some (.inl x):=by
 by_cases h:st < p2.length
 ·refine ⟨gd p2 st,wB ?_⟩
  unfold F40_L3
  simp only [Int.toNat_natCast]
  rw [xI (by simp only [yH,decide_eq_true_eq];omega),zJ (yK h)]
 ·refine ⟨0,wB ?_⟩
  unfold F40_L3
  rw [yR (by simp only [yH,decide_eq_false_iff_not];omega)]
theorem pos_ok (x:Int):∃ y,0 <= y/\yP (fun _:Unit=>F40_L5 x) ()=some (.inl y):=by
 by_cases h:x < 0
 ·refine ⟨0,by omega,wB ?_⟩
  unfold F40_L5
  rw [xI (by simp only [yH,decide_eq_true_eq];omega)]
 ·refine ⟨x,by omega,wB ?_⟩
  unfold F40_L5
  rw [yR (by simp only [yH,decide_eq_false_iff_not];omega)]
theorem at_split {α:Type} (l:List α) (j:Nat) (h:j < l.length):l=l.take j ++ l[j]::l.drop (j+1):=by
 rw [← List.drop_eq_getElem_cons h,List.take_append_drop]
def NS (w:List Int) (m0:Int) (s:Int × List TRoots × List Tmessage × Int):Prop:=∃ (M:List (Tmessage × List Nat)) (s0:Int) (st:Nat),s.2.2.1=M.map Prod.fst/\Inv (lkw w) s.2.1 M s0/\s.1+s0=m0/\0 <= s.1/\s.2.2.2=st/\st+ph M+95900 * s.1.toNat <= 479500
def End (w:List Int) (m0:Int) (L:List TRoots):Prop:=∃ s0,Inv (lkw w) L [] s0/\1 <= s0/\(s0=m0 ∨ ∀ k,k < 8->k ≠ 0->¬ 0 < lkw w 0 k)
theorem step_ok {w:List Int} (hw:w.length=64) (l:Lk (lkw w)) (p2:List Int) {m0:Int} (hm:1 <= m0/\m0 <= 5) (s:Int × List TRoots × List Tmessage × Int) (h:NS w m0 s) :
  (∃ b,F40_L2 p2 w s.1 s.2.1 s.2.2.1 s.2.2.2=some (.done b)/\∃ L,b = .inr (a8 L,true)/\End w m0 L) ∨ ∃ s',F40_L2 p2 w s.1 s.2.1 s.2.2.1 s.2.2.2=some (.next s')/\NS w m0 s'/\1000000 - s'.2.2.2.toNat < 1000000 - s.2.2.2.toNat:=by
 obtain ⟨many,L,ms,stp⟩:=s
 obtain ⟨M,s0,st,rfl,I,e1,e2,rfl,hst⟩:=h
 simp only at I e1 e2 hst ⊢
 obtain ⟨pk,hpk⟩:=pick_ok p2 st
 obtain ⟨many',L',M',s0',t1,t2,t3,t4,t5,t6⟩:=turn_ok hw l (pick:=pk) I e1 e2 hm (by omega)
 unfold F40_L2
 rw [xI (by simp only [yH,decide_eq_true_eq];omega),wX hpk,wX t1]
 simp only [fI,qG,uA,gE]
 by_cases hM:M'=[]
 ·subst hM
  refine .inl ⟨_,?_,L',rfl,s0',t2,(t6 rfl).1,?_⟩
  ·rw [xI (by simp [xV]),zJ (decide_eq_true t2.len)]
  ·rcases (t6 rfl).2 with h|h
   ·exact .inl (by omega)
   ·exact .inr h
 ·obtain ⟨x5,x5a,x5b⟩:=pos_ok pk
  have hlen:0 < M'.length:=List.length_pos_iff.2 hM
  have hlm:(M'.map Prod.fst).length=M'.length:=List.length_map _
  have hpl:=ph_len M'
  obtain ⟨j,hj,hj2⟩:∃ j:Nat,x5.tmod ((M'.map Prod.fst).length:Nat)=j/\j < M'.length:=by
   have h1:=Int.tmod_nonneg (b:=((M'.map Prod.fst).length:Nat)) (a:=x5) x5a
   have h2:=Int.tmod_lt_of_pos (b:=((M'.map Prod.fst).length:Nat)) x5 (by omega)
   exact ⟨(x5.tmod ((M'.map Prod.fst).length:Nat)).toNat,by omega,by omega⟩
  have hsp:=at_split M' j hj2
  obtain ⟨p,k,v,d1,d2,d3,d4,d5,d6⟩:=deliver_ok hw l (A:=M'.take j) (B:=M'.drop (j+1)) (x:=M'[j]) (L:=L') (s0:=s0') (by rw [← hsp];exact t2) st (by omega)
  have hgd:gd (M'.map Prod.fst) j=(M'[j]).1:=by rw [← jH (by omega),List.getElem_map]
  have hph:ph (M'.take j ++ M'.drop (j+1))+wt M'[j]=ph M':=by
   have:ph M'=ph (M'.take j)+(wt M'[j]+ph (M'.drop (j+1))):=(congrArg ph hsp).trans (by rw [ph_app];simp only [ph,List.map_cons,List.sum_cons])
   rw [ph_app];omega
  have hwt:=wt_pos M'[j]
  have hrest:(([] ++ List.take j (M'.map Prod.fst)) ++ List.take ((M'.map Prod.fst).length - (j+1)) (List.drop (j+1) (M'.map Prod.fst)))=(M'.take j ++ M'.drop (j+1)).map Prod.fst:=by
   have q:List.take ((M'.map Prod.fst).length - (j+1)) (List.drop (j+1) (M'.map Prod.fst))=List.drop (j+1) (M'.map Prod.fst):=List.take_of_length_le (by simp)
   rw [q,List.nil_append,List.map_append,List.map_take,List.map_drop]
  rw [yR (by simp only [xV,decide_eq_false_iff_not];omega),wX x5b]
  simp only [hj,Int.toNat_natCast,wM hj2 (show M'.length < 4611686018427387904 by omega),hgd]
  rw [zJ (by simp only [xV,Bool.not_eq_true',decide_eq_false_iff_not];omega),zJ (yK (by omega)),zJ (slb_iff.2 (by omega)),zJ (qM.2 (by omega)),zJ (slb_iff.2 (by omega)),zJ (qM.2 (by omega)),hrest]
  simp only [Option.bind_some,d1,d2,Int.toNat_natCast]
  rw [zJ (yK d4),zJ (yK (by rw [t2.len];exact d4)),F42_ok d3,Option.bind_some,zJ (yK d3),zJ (yK d4),zJ (decide_eq_true (by omega)),d5,Option.bind_some,wM (n:=1000000) (i:=st) (by omega) (by omega)]
  rcases d6 with ⟨f1,f2⟩|⟨f1,tw,f2,f3,f4⟩
  ·refine .inr ⟨_,xI (by simp only [xV,Bool.not_eq_true',decide_eq_false_iff_not];exact f1),⟨_,s0',st+1,rfl,f2,t3,t4,rfl,?_⟩,?_⟩
   ·simp only;omega
   ·simp only [Int.toNat_natCast];omega
  ·rw [yR (by simp only [xV,Bool.not_eq_false',decide_eq_true_eq];exact f1),zJ (yK d4),zJ (yK (by rw [t2.len];exact d4))]
   have hl2:((M'.take j ++ M'.drop (j+1)).map Prod.fst).length <= 10000000:=by
    rw [List.length_map]
    have:=ph_len (M'.take j ++ M'.drop (j+1));omega
   have sp:=spread_ok ((M'.take j ++ M'.drop (j+1)).map Prod.fst) w hw k d4 tw hl2
   have l6:yP (fun s:List Tmessage × Int=>F40_L6 w (M'.map Prod.fst) x5 v s.1 s.2) ((M'.take j ++ M'.drop (j+1)).map Prod.fst,0)=some (.inl ((M'.take j ++ M'.drop (j+1)).map Prod.fst ++ snd (lkw w) k tw)):=by
    refine (fO (s':=((M'.take j ++ M'.drop (j+1)).map Prod.fst ++ snd (lkw w) k tw,1)) ?_).trans (wB ?_)
    ·unfold F40_L6
     simp only [hj,Int.toNat_natCast,hgd,d2,f2,fI,uA,gE]
     rw [xI (by simp [yH]),zJ (decide_eq_true hw),zJ (by simp [yX])]
     refine (congrArg (Option.bind · _) sp).trans ?_
     rfl
    ·unfold F40_L6
     rw [yR (by simp [yH,f2])]
   rw [wX l6]
   have im:=improves_ok f3
   refine .inr ⟨(many',L'.set k v.1,(M'.take j ++ M'.drop (j+1)).map Prod.fst ++ snd (lkw w) k tw,((st+1:Nat):Int)),?_,⟨_,s0',st+1,by simp only [List.map_append,sndQ_fst],f3,t3,t4,rfl,?_⟩,?_⟩
   ·refine (zJ (decide_eq_true f3.len)).trans ((congrArg (Option.bind · _) im).trans ?_)
    rw [Option.bind_some,yR (by simp)]
   ·rw [ph_app];simp only;omega
   ·simp only [Int.toNat_natCast];omega
theorem init_ok:∃ L,yP (fun s:List TRoots × Int=>F40_L1 s.1 s.2) ([TRoots.mk (A6u8.mk 0 0 0 0 0 0) false false 0 [] [],TRoots.mk (A6u8.mk 0 0 0 0 0 0) false false 0 [] [],TRoots.mk (A6u8.mk 0 0 0 0 0 0) false false 0 [] [],TRoots.mk (A6u8.mk 0 0 0 0 0 0) false false 0 [] [],TRoots.mk (A6u8.mk 0 0 0 0 0 0) false false 0 [] [],TRoots.mk (A6u8.mk 0 0 0 0 0 0) false false 0 [] [],TRoots.mk (A6u8.mk 0 0 0 0 0 0) false false 0 [] [],TRoots.mk (A6u8.mk 0 0 0 0 0 0) false false 0 [] []],0)=some (.inl L)/\L.length=8/\∀ j,j < 8->gd L j=TRoots.mk (nd j) (bEq (j:Int) 0) false 0 [] []:=by
 obtain ⟨b,h1,h2⟩:=uP (step:=fun s:List TRoots × Int=>F40_L1 s.1 s.2) (fun s=>∃ i:Nat,s.2=i/\i <= 8/\s.1.length=8/\∀ j,j < i->gd s.1 j=TRoots.mk (nd j) (bEq (j:Int) 0) false 0 [] []) (fun b=>∃ L,b = .inl L/\L.length=8/\∀ j,j < 8->gd L j=TRoots.mk (nd j) (bEq (j:Int) 0) false 0 [] []) (fun s=>8 - s.2.toNat) (fun s hI=>by
  obtain ⟨u,x⟩:=s
  obtain ⟨i,rfl,g1,g2,g3⟩:=hI
  simp only at g2 g3 ⊢
  by_cases hi:i=8
  ·subst hi
   refine .inl ⟨.inl u,?_,u,rfl,g2,g3⟩
   unfold F40_L1
   rw [yR (by simp [yH])]
  ·have h8:i < 8:=by omega
   refine .inr ⟨(u.set i (TRoots.mk (nd i) (bEq (i:Int) 0) false 0 [] []),((i+1:Nat):Int)),?_,⟨i+1,rfl,by omega,by simp [g2],fun j hj=>?_⟩,?_⟩
   ·unfold F40_L1
    simp only [uA,qG,Int.toNat_natCast]
    rw [xI (by simp only [yH,decide_eq_true_eq];omega),F42_ok h8,Option.bind_some,new_ok h8,Option.bind_some,zJ (yK h8),zJ (yK (by omega)),wM (n:=8) h8 (by omega)]
   ·by_cases e:j=i
    ·subst e;exact uS (by omega)
    ·rw [vB (Ne.symm e)];exact g3 j (by omega)
   ·simp only [Int.toNat_natCast];omega) ([TRoots.mk (A6u8.mk 0 0 0 0 0 0) false false 0 [] [],TRoots.mk (A6u8.mk 0 0 0 0 0 0) false false 0 [] [],TRoots.mk (A6u8.mk 0 0 0 0 0 0) false false 0 [] [],TRoots.mk (A6u8.mk 0 0 0 0 0 0) false false 0 [] [],TRoots.mk (A6u8.mk 0 0 0 0 0 0) false false 0 [] [],TRoots.mk (A6u8.mk 0 0 0 0 0 0) false false 0 [] [],TRoots.mk (A6u8.mk 0 0 0 0 0 0) false false 0 [] [],TRoots.mk (A6u8.mk 0 0 0 0 0 0) false false 0 [] []],0) ⟨0,rfl,by omega,rfl,fun j hj=>absurd hj (by omega)⟩
 obtain ⟨L,rfl,h3⟩:=h2
 exact ⟨L,h1,h3⟩
theorem settle_ok {w:List Int} (hw:w.length=64) (l:Lk (lkw w)) (p2:List Int) {m0:Int} (hm:1 <= m0/\m0 <= 5):∃ L,F40 (mat w) m0 p2=some (a8 L,true)/\End w m0 L:=by
 obtain ⟨L0,i1,i2,i3⟩:=init_ok
 have I:Inv (lkw w) L0 [] 0:=by
  refine ⟨i2,by omega,by rw [i3 0 (by omega)];rfl,fun i h1 h2=>?_,fun i t h1 h2 h=>?_,fun x hx=>(by cases hx),fun p k y h1 h2 h3 h4 h5 h6 h7=>?_⟩
  ·rw [i3 i h2,show bEq (i:Int) 0=false from by simp only [xV,decide_eq_false_iff_not];omega]
   exact new_Nd h2
  ·rw [i3 i h2] at h;cases h
  ·by_cases hp:p=0
   ·subst hp
    rw [ky_0,i3 0 (by omega)] at h6
    cases h6
    exact absurd h7 (by simp)
   ·rw [ky_nil (by omega) (by rw [i3 p h1])] at h6;cases h6
 obtain ⟨b,h1,h2⟩:=uP (step:=fun s:Int × List TRoots × List Tmessage × Int=>F40_L2 p2 w s.1 s.2.1 s.2.2.1 s.2.2.2) (NS w m0) (fun b=>∃ L,b = .inr (a8 L,true)/\End w m0 L) (fun s=>1000000 - s.2.2.2.toNat) (fun s hs=>step_ok hw l p2 hm s hs) (m0,L0,[],0) ⟨[],0,0,rfl,I,by simp,by simp only;omega,rfl,by simp only [ph,List.map_nil,List.sum_nil];omega⟩
 obtain ⟨L,rfl,h3⟩:=h2
 refine ⟨L,?_,h3⟩
 unfold F40
 show (some (mcells (mat w))).bind _=_
 rw [gY hw,Option.bind_some,Option.bind_some,wX i1,lp_inr h1]
end Go.Proofs.Ytdcepineppafpaa
