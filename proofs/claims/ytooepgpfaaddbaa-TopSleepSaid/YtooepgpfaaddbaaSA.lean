/-
  One station that sleeps: what the buffer's functions give.
-/
import Derived.Test.YtooepgpfaaddbaaY3
import Derived.Test.YtooepgpfaaddbaaLK
namespace Go.Proofs.Ytooepgpfaaddbaa
open Go.Am
set_option linter.unusedVariables false
set_option linter.unusedSimpArgs false
theorem nap:F4=some true:=by kernel_rfl
theorem enc0:(F30 ⟨false,[]⟩).bind (fun r=>(F31 r.1).bind fun s=>(F18 s.1 9).bind fun t=>some (r.2,s.2,t))=some (0,0,false):=by kernel_rfl
theorem enc1:(F30 ⟨false,[9]⟩).bind (fun r=>(F31 r.1).bind fun s=>(F18 s.1 9).bind fun t=>some (r.2,s.2,t))=some (0,0,true):=by kernel_rfl
def Qs (lim now:Int) (H:List TStored):Prop:=(H.length:Int) <= lim/\(∀ q ∈ H,(0 <= q.Cat/\q.Cat <= 3)/\(0 <= q.At/\q.At <= now)/\q.Frame.Body=[])/\H.Pairwise (fun a b=>a.At <= b.At)
def Lm (lim stay:Int):Prop:=(1 <= lim/\lim <= 64)/\1 <= stay/\stay <= 1073741824
def Bf (lim stay:Int) (H:List TStored):TBuffer:=⟨lim,stay,[⟨9,true,H⟩],[]⟩
theorem Qs_nil {lim now:Int} (h:0 <= lim):Qs lim now []:=⟨h,fun q hq=>(by cases hq),List.Pairwise.nil⟩
theorem Qs_sub {lim now:Int} {H H':List TStored} (h:Qs lim now H) (s:List.Sublist H' H):Qs lim now H':=⟨by have:=s.length_le;have:=h.1;omega,fun q hq=>h.2.1 q (s.subset hq),h.2.2.sublist s⟩
theorem Qs_mono {lim now t:Int} {H:List TStored} (h:Qs lim now H) (e:now <= t):Qs lim t H:=⟨h.1,fun q hq=>by have:=h.2.1 q hq;exact ⟨this.1,⟨this.2.1.1,by omega⟩,this.2.2⟩,h.2.2⟩
theorem Qs_snoc {lim now t:Int} {H:List TStored} {x:TStored} (h:Qs lim now H) (hl:(H.length:Int) < lim) (e:now <= t) (hx:(0 <= x.Cat/\x.Cat <= 3)/\0 <= t/\x.At=t/\x.Frame.Body=[]):Qs lim t (H ++ [x]):=by
 refine ⟨by simp;omega,fun q hq=>?_,List.pairwise_append.2 ⟨h.2.2,by simp,fun a ha b hb=>?_⟩⟩
 ·rcases List.mem_append.1 hq with hq|hq
  ·exact (Qs_mono h e).2.1 q hq
  ·obtain rfl:=List.mem_singleton.1 hq
   exact ⟨hx.1,by omega,hx.2.2.2⟩
 ·obtain rfl:=List.mem_singleton.1 hb
  have:=(h.2.1 a ha).2.1
  omega
theorem chkq {lim now:Int} {H:List TStored} (h:Qs lim now H) (hn:now <= 1099511627776) (hl:lim <= 64):F40 H lim 3=some true:=by
 have h1:=h.1
 unfold F40
 rw [yT (by simp [yS];omega)]
 have:=run_gen (step:=fun s=>F40_L1 H 3 s) H.length (fun i=>(i:Int)) () (fun i hi=>by
  obtain ⟨⟨c0,c1⟩,⟨a0,a1⟩,_⟩:=h.2.1 _ (gd_mem hi)
  unfold F40_L1 F24
  rw [vI (by simp [yS];omega),zS (xW hi),Int.toNat_natCast]
  have e1:bLt 3 (gd H i).Cat=false:=by simp [yS];omega
  have e2:(bLe 0 (gd H i).At && bLe (gd H i).At 1099511627776)=true:=by simp [eO];omega
  simp only [Option.isSome_some,yD,Bool.cond_self,e1,e2]
  rw [zS (by rfl)]
  by_cases h0:0 < i
  ·have:=List.pairwise_iff_getElem.1 h.2.2 (i - 1) i (by omega) hi (by omega)
   rw [gd_at,gd_at] at this
   rw [show wr .i64 ((i:Int) - 1)=((i - 1:Nat):Int) from by rw [wr_in (by omega)];omega,Int.toNat_natCast,zS (by rw [xW (show i - 1 < H.length by omega)];simp),yT (by simp [yS];omega),vO hi (by omega)]
  ·have a4:bLt 0 (i:Int)=false:=by simp [yS];omega
   rw [a4,zS (by simp),yT (by simp),vO hi (by omega)])
  (by unfold F40_L1;rw [yT (by simp [yS])])
 exact wH this
theorem chkg {lim:Int} (hl:0 <= lim):F40 [] lim 0=some true:=by
 unfold F40
 rw [yT (by simp [yS];omega)]
 exact wH (yX (by unfold F40_L1;rw [yT (by simp [yS])]))
theorem chk {lim stay now:Int} {H:List TStored} (hL:Lm lim stay) (h:Qs lim now H) (hn:now <= 1099511627776):F19 (Bf lim stay H)=some 0:=by
 obtain ⟨⟨l1,l2⟩,s1,s2⟩:=hL
 unfold F19
 have l:yN (fun s=>F19_L1 (Bf lim stay H) s.1 s.2.1 s.2.2) (true,0,0)=some (.inl true):=by
  rw [tG (s':=(true,9,1)) (by
   show F19_L1 (Bf lim stay H) true 0 0=_
   unfold F19_L1
   rw [show gd (Bf lim stay H).List (0:Int).toNat = ⟨9,true,H⟩ from rfl,show (Bf lim stay H).Limit=lim from rfl]
   simp only
   rw [chkq h hn l2]
   rfl)]
  exact yX rfl
 rw [show ((((bLe 1 (Bf lim stay H).Limit && bLe (Bf lim stay H).Limit 64) && bLe 1 (Bf lim stay H).Stay) && bLe (Bf lim stay H).Stay 1073741824) && bLe ((Bf lim stay H).List.length:Nat) 32)=true from by
  show ((((bLe 1 lim && bLe lim 64) && bLe 1 stay) && bLe stay 1073741824) && bLe (1:Nat) 32)=true
  simp [eO,l1,l2,s1,s2],wH l,show F40 (Bf lim stay H).Group (Bf lim stay H).Limit 0=some true from chkg (by show 0 <= lim;omega)]
 rfl
theorem chk0 {lim stay:Int} (hL:Lm lim stay):F19 ⟨lim,stay,[],[]⟩=some 0:=by
 obtain ⟨⟨l1,l2⟩,s1,s2⟩:=hL
 unfold F19
 have l:yN (fun s=>F19_L1 ⟨lim,stay,[],[]⟩ s.1 s.2.1 s.2.2) (true,0,0)=some (.inl true):=yX rfl
 rw [show ((((bLe 1 lim && bLe lim 64) && bLe 1 stay) && bLe stay 1073741824) && bLe (([]:List TSleeper).length:Nat) 32)=true from by simp [eO,l1,l2,s1,s2],wH l,chkg (show 0 <= lim by omega)]
 rfl
theorem plc {lim stay:Int} {H:List TStored} {b:Bool}:F20 ⟨lim,stay,[⟨9,b,H⟩],[]⟩ 9=some (0,true):=by
 unfold F20 F42_0
 have:yN (fun s=>F42_0_L1 [⟨9,b,H⟩] 9 s.1 s.2) (0,(([⟨9,b,H⟩]:List TSleeper).length:Nat))=some (.inl 0):=by
  rw [tG (s':=(0,0)) (by kernel_rfl)]
  exact yX rfl
 rw [wH this]
 rfl
theorem cln (l:TSleeper):F44 [l]=some [l]:=by
 unfold F44
 exact zS (tI.2 (by simp))
theorem twq {lim now:Int} {H:List TStored} (h:Qs lim now H) (hl:lim <= 64):F45 H=some H:=by
 have h1:=h.1
 unfold F45
 have:=run_gen (step:=fun s=>F45_L1 H s.1 s.2) H.length (fun i=>(H.take i,(i:Int))) H (fun i hi=>by
  obtain ⟨_,_,hb⟩:=h.2.1 _ (gd_mem hi)
  simp only
  unfold F45_L1 F26
  rw [vI (by simp [yS];omega),zS (xW hi),Int.toNat_natCast,zS (tI.2 (by rw [hb];simp)),Option.bind_some,zS (tI.2 (by simp;omega)),vO hi (by omega),take_snoc hi]
  rw [show ({(gd H i) with Frame:=TFrame.mk (gd H i).Frame.Head ([] ++ (gd H i).Frame.Body)}:TStored)=gd H i from rfl])
  (by unfold F45_L1;simp only;rw [yT (by simp [yS]),List.take_length])
 exact wH this
theorem twg:F45 []=some []:=twq (Qs_nil (lim:=0) (now:=0) (by omega)) (by omega)
theorem cmp_some (x y:Int):∃ r,F34 x y=some r:=by
 unfold F34 F58
 simp only [Option.bind_some]
 cases (!bEq x x)<;>cases (!bEq y y)<;>cases bLt x y<;>cases bLt y x<;>exact ⟨_,rfl⟩
theorem lateF {lim now t:Int} {H:List TStored} (h:Qs lim now H) (hl:lim <= 64) (ht:now <= t):F25 H t=some false:=by
 have h1:=h.1
 unfold F25
 by_cases h0:0 < H.length
 ·rw [show wr .i64 ((H.length:Nat) - 1:Int)=((H.length - 1:Nat):Int) from by rw [wr_in (by omega)];omega,Int.toNat_natCast,xW (show H.length - 1 < H.length by omega),zS (by simp)]
  have:=(h.2.1 _ (gd_mem (show H.length - 1 < H.length by omega))).2.1
  rw [show bLt t (gd H (H.length - 1)).At=false from by simp [yS];omega,Bool.and_false]
 ·rw [show bLt 0 (H.length:Nat)=false from by simp only [yS,decide_eq_false_iff_not];omega]
  rfl
end Go.Proofs.Ytooepgpfaaddbaa
