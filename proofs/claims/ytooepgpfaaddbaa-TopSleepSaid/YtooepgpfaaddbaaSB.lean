/-
  One station that sleeps: join, sleep, put, poll, map.
-/
import Derived.Test.YtooepgpfaaddbaaSA
namespace Go.Proofs.Ytooepgpfaaddbaa
open Go.Am
set_option linter.unusedVariables false
set_option linter.unusedSimpArgs false
theorem newB (lim stay:Int):∃ b e,F6 lim stay=some (b,e)/\(e=0->b = ⟨lim,stay,[],[]⟩/\Lm lim stay):=by
 unfold F6
 by_cases h:Lm lim stay
 ·rw [chk0 h]
  exact ⟨_,_,rfl,fun _=>⟨rfl,h⟩⟩
 ·have l:yN (fun s=>F19_L1 ⟨lim,stay,[],[]⟩ s.1 s.2.1 s.2.2) (false,0,0)=some (.inl false):=yX rfl
  have:F19 ⟨lim,stay,[],[]⟩=some 8:=by
   unfold F19
   rw [show ((((bLe 1 lim && bLe lim 64) && bLe 1 stay) && bLe stay 1073741824) && bLe (([]:List TSleeper).length:Nat) 32)=false from by
    unfold Lm at h
    simp [eO]
    omega,wH l]
   rfl
  rw [this]
  exact ⟨_,_,rfl,fun h=>(by cases h)⟩
theorem joinB {lim stay:Int} (hL:Lm lim stay):F7 ⟨lim,stay,[],[]⟩ 9=some (⟨lim,stay,[⟨9,false,[]⟩],[]⟩,0):=by
 unfold F7
 rw [chk0 hL,Option.bind_some,yT (by rfl),yT (by rfl)]
 have p:F20 ⟨lim,stay,[],[]⟩ 9=some (0,false):=by
  unfold F20 F42_0
  have:yN (fun s=>F42_0_L1 [] 9 s.1 s.2) (0,(([]:List TSleeper).length:Nat))=some (.inl 0):=yX rfl
  rw [wH this]
  rfl
 have t:F21 ⟨lim,stay,[],[]⟩=some ⟨lim,stay,[],[]⟩:=by
  unfold F21 F44
  rw [zS (tI.2 (by simp)),Option.bind_some]
  have:yN (fun s=>F21_L1 [] s.1 s.2) (0,[])=some (.inl []):=yX rfl
  rw [wH this,twg]
  rfl
 rw [p,t]
 rfl
theorem sleepB {lim stay:Int} (hL:Lm lim stay):F8 ⟨lim,stay,[⟨9,false,[]⟩],[]⟩ 9=some (Bf lim stay [],0):=by
 unfold F8
 have c:F19 ⟨lim,stay,[⟨9,false,[]⟩],[]⟩=some 0:=by
  obtain ⟨⟨l1,l2⟩,s1,s2⟩:=hL
  unfold F19
  have l:yN (fun s=>F19_L1 ⟨lim,stay,[⟨9,false,[]⟩],[]⟩ s.1 s.2.1 s.2.2) (true,0,0)=some (.inl true):=by
   rw [tG (s':=(true,9,1)) (by
    show F19_L1 ⟨lim,stay,[⟨9,false,[]⟩],[]⟩ true 0 0=_
    unfold F19_L1
    rw [show gd (TBuffer.List ⟨lim,stay,[⟨9,false,[]⟩],[]⟩) (0:Int).toNat = ⟨9,false,[]⟩ from rfl]
    simp only
    rw [chkq (lim:=lim) (now:=0) (Qs_nil (by omega)) (by omega) l2]
    rfl)]
   exact yX rfl
  rw [show ((((bLe 1 lim && bLe lim 64) && bLe 1 stay) && bLe stay 1073741824) && bLe (([⟨9,false,[]⟩]:List TSleeper).length:Nat) 32)=true from by simp [eO,l1,l2,s1,s2],wH l,chkg (show 0 <= lim by omega)]
  rfl
 rw [c,Option.bind_some,yT (by rfl),yT (by rfl),plc,Option.bind_some,yT (by rfl),cln,Option.bind_some,zS (by rfl),zS (by rfl),show gd ([⟨9,false,[]⟩]:List TSleeper) 0 = ⟨9,false,[]⟩ from rfl,twg,Option.bind_some,zS (by rfl),Option.bind_some]
 rfl
theorem ext_gen {R:Type} {step:Int × TStored->Option (Lp (Int × TStored) (TStored ⊕ R))} (H:List TStored) (h1:1 <= H.length) (hn:H.length <= 64)
  (hs:∀ (i:Nat) (x:TStored),i < H.length->step (i,x)=some (.next (((i+1:Nat):Int),gd H i)) ∨ step (i,x)=some (.next (((i+1:Nat):Int),x))) (he:∀ x,step ((H.length:Nat),x)=some (.done (.inl x))) :
  ∃ q ∈ H,yN step (1,gd H 0)=some (.inl q):=by
 obtain ⟨b,l1,q,hq,rfl⟩:=loop_inv (step:=step) (fun s=>∃ i:Nat,s.1=i/\i <= H.length/\s.2 ∈ H) (fun b=>∃ q ∈ H,b = .inl q) (fun s=>(H.length - s.1).toNat) (fun s hS=>by
  obtain ⟨x,y⟩:=s
  obtain ⟨i,rfl,hi,hy⟩:=hS
  by_cases h:i < H.length
  ·rcases hs i y h with e|e
   ·exact .inr ⟨_,e,⟨i+1,rfl,by omega,gd_mem h⟩,by simp only;omega⟩
   ·exact .inr ⟨_,e,⟨i+1,rfl,by omega,hy⟩,by simp only;omega⟩
  ·obtain rfl:i=H.length:=by omega
   exact .inl ⟨_,he y,y,hy,rfl⟩) (1,gd H 0) ⟨1,rfl,h1,gd_mem (by omega)⟩
 exact ⟨q,hq,l1⟩
theorem fst_gen {R:Type} {step:Int->Option (Lp Int (Unit ⊕ Int))} (H:List TStored) {q:TStored} (hq:q ∈ H)
  (hs:∀ i:Nat,i < H.length->step i=bif bEq (gd H i).Cat q.Cat then some (.done (.inr (i:Int))) else some (.next ((i+1:Nat):Int))) (he:step (H.length:Nat)=some (.done (.inl ()))) :
  ∃ k:Nat,k < H.length/\(∀ j,j < k->(gd H j).Cat ≠ (gd H k).Cat)/\(lp (yN step 0) (fun _=>some (-1)) some:Option Int)=some (k:Int):=by
 rcases first_gen (step:=step) H.length (fun i=>(gd H i).Cat=q.Cat) (fun i=>(i:Int)) () (fun i hi _=>by
   rw [hs i hi]
   by_cases h:(gd H i).Cat=q.Cat
   ·exact .inr ⟨h,by rw [vI (by simp [uY,h])]⟩
   ·exact .inl ⟨h,by rw [yT (by simp [uY,h])]⟩) he with ⟨h,l⟩|⟨k,h1,h2,h3,l⟩
 ·obtain ⟨j,hj,rfl⟩:=mem_gd hq
  exact absurd rfl (h j hj)
 ·exact ⟨k,h1,fun j hj=>by rw [h2];exact h3 j hj,lp_inr l⟩
theorem idx1 (H:List TStored) (hn:H.length <= 64) {q:TStored} (hq:q ∈ H):∃ k:Nat,k < H.length/\(∀ j,j < k->(gd H j).Cat ≠ (gd H k).Cat)/\F35_0 H q.Cat=some (k:Int):=by
 obtain ⟨k,h1,h2,h3⟩:=fst_gen (R:=Unit) (step:=fun s=>F35_0_L1 H q.Cat s) H hq (fun i hi=>by
  unfold F35_0_L1 F50_0
  rw [vI (by simp [yS];omega),zS (xW hi),Int.toNat_natCast,Option.bind_some,vO hi (by omega)]) (by
  unfold F35_0_L1
  rw [yT (by simp [yS])])
 exact ⟨k,h1,h2,h3⟩
theorem idx2 (H:List TStored) (hn:H.length <= 64) {q:TStored} (hq:q ∈ H):∃ k:Nat,k < H.length/\(∀ j,j < k->(gd H j).Cat ≠ (gd H k).Cat)/\F35_1 H q.Cat=some (k:Int):=by
 obtain ⟨k,h1,h2,h3⟩:=fst_gen (R:=Unit) (step:=fun s=>F35_1_L1 H q.Cat s) H hq (fun i hi=>by
  unfold F35_1_L1 F36_0
  rw [vI (by simp [yS];omega),zS (xW hi),Int.toNat_natCast,Option.bind_some,vO hi (by omega)]) (by
  unfold F35_1_L1
  rw [yT (by simp [yS])])
 exact ⟨k,h1,h2,h3⟩
theorem pollB {lim stay now:Int} {H:List TStored} (hL:Lm lim stay) (h:Qs lim now H) (hn:now <= 1099511627776) (h0:H ≠ []):∃ k:Nat,k < H.length/\(∀ j,j < k->(gd H j).Cat ≠ (gd H k).Cat) /\
  F17 (Bf lim stay H) 9=some (⟨{(gd H k).Frame.Head with MoreData:=bLt 0 ((delL H k ((k+1:Nat):Int)).length:Nat)},(gd H k).Frame.Body⟩,Bf lim stay (delL H k ((k+1:Nat):Int)),0):=by
 have h1:=List.length_pos_iff.2 h0
 have h2:=h.1
 have h3:=hL.1.2
 unfold F17
 rw [chk hL h hn,Option.bind_some,yT (by rfl),yT (by rfl),show Bf lim stay H = ⟨lim,stay,[⟨9,true,H⟩],[]⟩ from rfl,plc,Option.bind_some,yT (by rfl),cln,Option.bind_some,zS (by rfl),zS (by rfl),show gd ([⟨9,true,H⟩]:List TSleeper) 0 = ⟨9,true,H⟩ from rfl,twq h h3,Option.bind_some,zS (by rfl),twg,Option.bind_some,vI (by rfl),zS (by rfl),yT (by rfl),yT (by simp [uY];omega),yT (by simp [yS];omega),zS (by have:=xW h1;exact this)]
 obtain ⟨q,hq,l⟩:=ext_gen (step:=fun s=>F17_L1 H s.1 s.2) (R:=TFrame × TBuffer × Int) H h1 (by omega) (fun i x hi=>by
  obtain ⟨r,hr⟩:=cmp_some (gd H i).Cat x.Cat
  show F17_L1 H i x=_ ∨ F17_L1 H i x=_
  unfold F17_L1 F33
  rw [vI (by simp [yS];omega),zS (xW hi),Int.toNat_natCast,hr,Option.bind_some,Option.bind_some,vO hi (by omega)]
  cases bLt 0 r
  ·exact .inr rfl
  ·exact .inl (by rw [vI (by rfl),zS (xW hi)])) (fun x=>by
  show F17_L1 H (H.length:Nat) x=_
  unfold F17_L1
  rw [yT (by simp [yS])])
 obtain ⟨k,k1,k2,k3⟩:=idx2 H (by omega) hq
 rw [wH l,k3,Option.bind_some,zS (xW k1),vO k1 (by omega),zS (delb_iff.2 (by omega)),Int.toNat_natCast,Option.bind_some]
 exact ⟨k,k1,k2,rfl⟩
theorem putB {lim stay now t cat:Int} {H:List TStored} {f:TFrame} (hL:Lm lim stay) (h:Qs lim now H) (hn:now <= t) (h0:0 <= now) (ht:t <= 1099511627776) (hc:cat <= 3) (hf:f.Body=[]) :
  ∃ d H',F12 (Bf lim stay H) 9 cat f t=some ([],d,Bf lim stay H',0)/\(((H.length:Int) < lim/\d=[]/\H'=H ++ [⟨cat,t,f⟩]) ∨ (d=[f]/\H'=H) ∨ ∃ k:Nat,k < H.length/\d=[(gd H k).Frame]/\H'=delL H k ((k+1:Nat):Int) ++ [⟨cat,t,f⟩]):=by
 have h2:=h.1
 have h3:=hL.1
 have tf:F26 f=some f:=by
  unfold F26
  rw [zS (tI.2 (by rw [hf];simp))]
  rfl
 have mo:F24 t=some true:=by
  unfold F24
  rw [show (bLe 0 t && bLe t 1099511627776)=true from by simp [eO];omega]
 unfold F12
 rw [chk hL h (by omega),Option.bind_some,yT (by rfl),yT (by rfl),show Bf lim stay H = ⟨lim,stay,[⟨9,true,H⟩],[]⟩ from rfl,plc,Option.bind_some,yT (by rfl),cln,Option.bind_some,zS (by rfl),zS (by rfl),show gd ([⟨9,true,H⟩]:List TSleeper) 0 = ⟨9,true,H⟩ from rfl,twq h h3.2,Option.bind_some,zS (by rfl),twg,Option.bind_some,vI (by rfl),zS (by rfl),mo,show bLt 3 cat=false from by simp [yS];omega,zS (by rfl),yT (by rfl),lateF h h3.2 hn,Option.bind_some,yT (by rfl),tf,Option.bind_some,vI (by rfl)]
 by_cases hl:(H.length:Int)=lim
 ·have h1:1 <= H.length:=by omega
  rw [vI (by simp [uY,hl]),yT (by simp [yS];omega),zS (by have:=xW h1;exact this)]
  obtain ⟨q,hq,l⟩:=ext_gen (step:=fun s=>F12_L1 H s.1 s.2) (R:=List TFrame × List TFrame × TBuffer × Int) H h1 (by omega) (fun i x hi=>by
   obtain ⟨r,hr⟩:=cmp_some (gd H i).Cat x.Cat
   show F12_L1 H i x=_ ∨ F12_L1 H i x=_
   unfold F12_L1 F49
   rw [vI (by simp [yS];omega),zS (xW hi),Int.toNat_natCast,hr,Option.bind_some,Option.bind_some,vO hi (by omega)]
   cases bLt r 0
   ·exact .inr rfl
   ·exact .inl (by rw [vI (by rfl),zS (xW hi)])) (fun x=>by
   show F12_L1 H (H.length:Nat) x=_
   unfold F12_L1
   rw [yT (by simp [yS])])
  rw [wH l]
  cases bLt cat q.Cat with
  | true=>exact ⟨_,_,rfl,.inr (.inl ⟨rfl,rfl⟩)⟩
  | false =>
   obtain ⟨k,k1,k2,k3⟩:=idx1 H (by omega) hq
   have:(delL H k ((k+1:Nat):Int)).length <= H.length:=by unfold delL;simp;omega
   rw [yT (by rfl),k3,Option.bind_some,zS (xW k1),vO k1 (by omega),zS (delb_iff.2 (by omega)),Int.toNat_natCast,Option.bind_some,Option.bind_some,zS (tI.2 (by omega))]
   exact ⟨_,_,rfl,.inr (.inr ⟨k,k1,rfl,rfl⟩)⟩
 ·rw [yT (by simp [uY,hl]),zS (tI.2 (by simp;omega))]
  exact ⟨_,_,rfl,.inl ⟨by omega,rfl,rfl⟩⟩
theorem mapB {lim stay now:Int} {H:List TStored} (hL:Lm lim stay) (h:Qs lim now H) (hn:now <= 1099511627776):F16 (Bf lim stay H)=some (⟨false,bif H.isEmpty then [] else [9]⟩,0):=by
 unfold F16
 rw [chk hL h hn,Option.bind_some,yT (by rfl)]
 have l:yN (fun s=>F16_L1 (Bf lim stay H) s.1 s.2) (0,[])=some (.inl (bif H.isEmpty then [] else [9])):=by
  cases H with
  | nil =>
   rw [tG (s':=(1,[])) (by rfl)]
   exact yX rfl
  | cons a H =>
   rw [tG (s':=(1,[9])) (by
    show F16_L1 (Bf lim stay (a::H)) 0 []=_
    unfold F16_L1
    rw [show gd (Bf lim stay (a::H)).List (0:Int).toNat = ⟨9,true,a::H⟩ from rfl,vI (by rfl),zS (by rfl),vI (by simp [yS])]
    rfl)]
   exact yX rfl
 rw [wH l]
 rfl
end Go.Proofs.Ytooepgpfaaddbaa
