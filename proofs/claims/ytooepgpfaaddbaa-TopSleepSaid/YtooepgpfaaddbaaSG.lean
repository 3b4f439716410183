/-
  TopSleep, the law.
-/
import Derived.Test.YtooepgpfaaddbaaSF
namespace Go.Proofs.Ytooepgpfaaddbaa
open Go.Am
set_option linter.unusedVariables false
set_option linter.unusedSimpArgs false
set_option maxRecDepth 4000
theorem mainB {p:TWakeRule} {lim stay:Int} {P:List TComing} (hr:Ru p) (h0:F5 p=some 0) (hL:Lm lim stay) (hP:P.length <= 60) (hc:∀ q ∈ P,0 <= q.Cat) :
  ∃ r,yN (fun s=>F3_L1 p P s.1 s.2.1 s.2.2.1 s.2.2.2.1 s.2.2.2.2.1 s.2.2.2.2.2.1 s.2.2.2.2.2.2.1 s.2.2.2.2.2.2.2.1 s.2.2.2.2.2.2.2.2.1 s.2.2.2.2.2.2.2.2.2.1 s.2.2.2.2.2.2.2.2.2.2.1 s.2.2.2.2.2.2.2.2.2.2.2.1 s.2.2.2.2.2.2.2.2.2.2.2.2.1 s.2.2.2.2.2.2.2.2.2.2.2.2.2) (0,0,lim,stay,[⟨9,true,[]⟩],[],-1,[],0,[],0,0,0,0)=some r /\
   (r = .inr true ∨ ∃ (i:Nat) (now wake wakes:Int) (H:List TStored) (F C l:List Int),r = .inl (now,lim,stay,[⟨9,true,H⟩],[],wake,F,wakes,gd l 0,gd l 1,gd l 2,gd l 3,C)/\Iv i H F C l/\Qs lim now H/\now <= 1099511627776):=by
 refine loop_inv (step:=fun s=>F3_L1 p P s.1 s.2.1 s.2.2.1 s.2.2.2.1 s.2.2.2.2.1 s.2.2.2.2.2.1 s.2.2.2.2.2.2.1 s.2.2.2.2.2.2.2.1 s.2.2.2.2.2.2.2.2.1 s.2.2.2.2.2.2.2.2.2.1 s.2.2.2.2.2.2.2.2.2.2.1 s.2.2.2.2.2.2.2.2.2.2.2.1 s.2.2.2.2.2.2.2.2.2.2.2.2.1 s.2.2.2.2.2.2.2.2.2.2.2.2.2)
  (fun s=>∃ (i:Nat) (now wake wakes:Int) (H:List TStored) (F C l:List Int),s=(now,(i:Int),lim,stay,[⟨9,true,H⟩],[],wake,F,wakes,C,gd l 0,gd l 1,gd l 2,gd l 3)/\i <= P.length/\(0 <= now/\now <= i * 1048576)/\Iv i H F C l/\Qs lim now H/\(0 <= wakes/\wakes <= 301))
  _ (fun s=>(P.length - s.2.1).toNat) (fun s hS=>?_) _ ⟨0,0,-1,0,[],[],[],[0,0,0,0],rfl,Nat.zero_le _,by omega,⟨by omega,rfl,rfl,rfl,fun n hn=>absurd hn (by omega),fun c hc=>by
   match c,hc with
   | 0,_|1,_|2,_|3,_=>exact Int.le_refl 0,fun q hq=>(by cases hq),List.Pairwise.nil,fun n hn=>absurd hn (by omega)⟩,Qs_nil (by have:=hL.1;omega),by omega⟩
 obtain ⟨i,now,wake,wakes,H,F,C,l,rfl,hi,hn,I,hq,hw⟩:=hS
 show (∃ b,F3_L1 p P now i lim stay [⟨9,true,H⟩] [] wake F wakes C (gd l 0) (gd l 1) (gd l 2) (gd l 3)=_/\_) ∨ ∃ s',F3_L1 p P now i lim stay [⟨9,true,H⟩] [] wake F wakes C (gd l 0) (gd l 1) (gd l 2) (gd l 3)=_/\_
 unfold F3_L1
 by_cases h:i < P.length
 ·have nb:=xW h
  rw [vI (by simp [yS];omega),zS nb,Int.toNat_natCast,nb,zS (by simp),zS (by simp)]
  generalize hb:((bLt (gd P i).Wait 0 || bLt 1048576 (gd P i).Wait) || bLt 3 (gd P i).Cat)=c
  cases c with
  | true=>exact .inl ⟨_,rfl,.inl rfl⟩
  | false =>
   simp [yS] at hb
   have c0:=hc _ (gd_mem h)
   rw [yT (by rfl),zS (by rfl)]
   obtain ⟨few,H1,F1,l1,wake1,wakes1,I1,q1,w1,e1⟩:=untilB (P:=P) (wake:=wake) (a:=now) (b:=i) hr h0 hL hq (by omega) I hw
   rw [wH e1]
   dsimp only
   cases few with
   | false=>exact .inl ⟨_,rfl,.inl rfl⟩
   | true =>
    rw [yT (by rfl)]
    have lF:=I1.lF
    have lC:=I1.lC
    unfold F10 F11
    rw [Option.bind_some,Option.bind_some,zS (tI.2 (by omega)),zS (by rfl),zS (tI.2 (by omega)),zS (by rfl),wr_in (x:=now+(gd P i).Wait) (by omega)]
    obtain ⟨d,H',p1,p2⟩:=putB (cat:=(gd P i).Cat) (t:=now+(gd P i).Wait) (f:=TFrame.mk (THeader.mk 2 8 false true false false false false false 0 (A6u8.mk 2 0 0 0 0 2) (A6u8.mk 2 0 0 0 0 1) (A6u8.mk 2 0 0 0 0 1) (A6u8.mk 0 0 0 0 0 0) i 0 0 0 false false) []) hL q1 (by omega) hn.1 (by omega) (by omega) rfl
    rw [show TBuffer.mk lim stay [⟨9,true,H1⟩] []=Bf lim stay H1 from rfl,p1,Option.bind_some,yT (by rfl)]
    obtain ⟨G,I2,q2,e2⟩:=dropB (P:=P) (b:=Bf lim stay H') hL q1 hn.1 (by omega) I1 (by omega) rfl rfl (by omega) rfl p2
    rw [wH e2,yT (by rfl),vO h (by omega)]
    refine .inr ⟨_,rfl,⟨i+1,now+(gd P i).Wait,wake1,wakes1,H',G,C ++ [(gd P i).Cat],l1,rfl,by omega,by omega,I2,q2,w1⟩,by simp only;omega⟩
 ·rw [yT (by simp [yS];omega)]
  exact .inl ⟨_,rfl,.inr ⟨i,now,wake,wakes,H,F,C,l,rfl,I,hq,by omega⟩⟩
theorem law3 (p:TWakeRule) (lim stay:Int) (P:List TComing) (hc:∀ q ∈ P,0 <= q.Cat):F3 p lim stay P=some true:=by
 unfold F3
 rw [nap,Option.bind_some,yT (by rfl)]
 obtain ⟨e,e1,e2⟩:=rule_ok p
 rw [e1,Option.bind_some]
 generalize hb:((!bEq e 0 || bLt p.Every 1) || bLt 60 (P.length:Nat))=c
 cases c with
 | true=>rfl
 | false =>
  simp [yS,uY] at hb
  rw [yT (by rfl)]
  obtain ⟨b,f,f1,f2⟩:=newB lim stay
  rw [f1,Option.bind_some]
  by_cases hf:f=0
  ·obtain ⟨rfl,hL⟩:=f2 hf
   rw [yT (by simp [uY,hf]),joinB hL,Option.bind_some,sleepB hL,Option.bind_some,yT (by rfl)]
   have hr:=e2 hb.1.1 (by omega)
   rw [hb.1.1] at e1
   obtain ⟨r,r1,r2⟩:=mainB hr e1 hL (by omega) hc
   rw [show (Bf lim stay [],(0:Int)).1.Limit=lim from rfl,show (Bf lim stay [],(0:Int)).1.Stay=stay from rfl,show (Bf lim stay [],(0:Int)).1.List=[⟨9,true,[]⟩] from rfl,show (Bf lim stay [],(0:Int)).1.Group=[] from rfl]
   rcases r2 with rfl|⟨i,now,wake,wakes,H,F,C,l,rfl,I,hq,hn⟩
   ·exact lp_inr r1
   ·rw [wH r1]
    dsimp only
    obtain ⟨at',is,n1,n2⟩:=nxt hr e1 (maxI now wake)
    rw [n1,Option.bind_some]
    dsimp only
    generalize hd:(!is || _:Bool)=c
    cases c with
    | true=>rfl
    | false =>
     have hi:is=true:=by cases is with|true=>rfl|false=>cases hd
     obtain ⟨F',l',I',e⟩:=rouse11 (r:=(at',is)) hL hq hn I (n2 hi)
     have e4:=yX (step:=fun (_:Unit)=>F3_L11 lim stay [⟨9,true,H⟩] [] F (gd l 0) (gd l 1) (gd l 2) (gd l 3) C (at',is)) (s:=()) e
     rw [yT (by rfl),wH e4]
  ·rw [vI (by simp [uY,hf])]
end Go.Proofs.Ytooepgpfaaddbaa
