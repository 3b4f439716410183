/-
  Root: a node that knows one tree at most: what is done to it.
-/
import Derived.Test.YtdcepineppafpaaX12
namespace Go.Proofs.Ytdcepineppafpaa
open Go.Am
set_option linter.unusedVariables false
set_option linter.unusedSimpArgs false
def nd (i:Nat):A6u8:=A6u8.mk ((i+1:Nat):Int) 0 0 0 0 0
theorem nd_inj {i j:Nat} (h:nd i=nd j):i=j:=by
 unfold nd at h
 injection h with h
 omega
theorem nd_Ab {i:Nat} (h:i < 8):Ab (nd i):=by unfold Ab nd;simp only;omega
theorem F42_ok {i:Nat} (h:i < 8):F42 (i:Int)=some (nd i):=by
 unfold F42 nd
 rw [kB (by omega),show wr .u8 ((i:Int)+1)=(i:Int)+1 from wrap_nat .u8 rfl (i+1) (by show i+1 < 2 ^ 8;omega)]
 simp
def Nd (i:Nat) (r:TRoots):Prop:=r.Own=nd i/\Vr r/\Abr r/\(r.Trees=[] ∨ ∃ t,r.Trees=[t]/\t.Root=nd 0)
theorem handle_up (r:TRoots) (w:TRootWord) (fr:A6u8) (cost now:Int) (hb:Abr r) (hw:Ab w.Root) (hf:Ab fr) (hO:Ok r w fr cost now) (hown:w.Root ≠ r.Own) (hc:w.Cost+cost <= 1099511627776) (hh:w.Hops+1 < 16)
  (ht:r.Trees=[] ∨ ∃ q,r.Trees=[q]/\q.Root=w.Root/\(q.Seq < w.Seq ∨ (w.Seq=q.Seq/\w.Cost+cost < q.Cost))) :
  ∃ v,F20 r w fr cost now=some v/\v.2.2=0/\v.2.1=[nW w cost]/\v.1.Own=r.Own/\Vr v.1/\Abr v.1/\v.1.Trees=[nT w fr cost now]:=by
 obtain ⟨hv,k1,k2,k3,k4⟩:=hO
 have hs:=Vr_sm hv
 have pos:∃ v,F20 r w fr cost now=some v/\v.2.2=0:=by
  have k1':=k1
  unfold Wd at k1'
  unfold F20
  rcases F34_ok r hb with ⟨_,e⟩|⟨hv',_⟩
  ·rw [e,Option.bind_some,yR (by simp [bEq])]
   obtain ⟨d,d1,d2⟩:=F43_ok w
   rw [d1,Option.bind_some]
   unfold F57
   simp only [Option.isSome_some,Bool.cond_self,zJ,zU,ae_def,uA,qH]
   rw [d2.2 k1,dR.2 k2,yR (by simp [wW];omega)]
   obtain ⟨b,b1,b2⟩:=F58_ok r w.Root hb hw hs [] r.Trees rfl (by simp) (fun q hq=>by
    rcases ht with h|⟨q',h,h1,_⟩
    ·rw [h] at hq;simp at hq
    ·rw [h] at hq;rw [List.mem_singleton.1 hq,h1];exact Int.le_refl _)
   rw [b1,Option.bind_some]
   rw [dR.2 hown,cond_false,F56_ok r hs,kB (x:=w.Hops+1) (by omega),kB (x:=w.Cost+cost) (by omega),kB (x:=now+5000000) (by omega)]
   simp only [Option.bind_some,List.length_nil,Int.toNat_natCast]
   rcases ht with h|⟨q,h,h1,h2⟩
   ·have hbf:b=false:=by
     cases hbb:b with
     | false=>rfl
     | true=>obtain ⟨q,B',h3,_⟩:=b2.1 hbb;rw [h] at h3;cases h3
    rw [hbf,h]
    simp only [Bool.false_and,cond_false,zJ,Bool.not_false,Bool.true_and]
    rw [yR (by simp [yH];omega),yR (by simp [xV]),zJ (insb_iff.2 (by simp)),xI (by simp [yH,hh])]
    exact ⟨_,rfl,rfl⟩
   ·have hbt:b=true:=b2.2 ⟨q,[],h,by rw [h1]⟩
    have hg:gd r.Trees 0=q:=by rw [h];rfl
    have hin:∀ c:Bool,(bif c then inb ((0:Nat):Int) r.Trees.length else true)=true:=fun c=>by rw [yK (by rw [h];simp)];cases c<;>rfl
    rw [hbt,hg]
    simp only [Bool.true_and,yK (show 0 < r.Trees.length by rw [h];simp),Bool.cond_self,zJ,Bool.not_true,Bool.false_and,cond_false,cond_true]
    rw [yR (by simp only [yH,xV,wW,Bool.or_eq_false_iff,Bool.and_eq_false_iff,decide_eq_false_iff_not];omega),yR (by simp [yH];omega),xI (by simp [yH,hh])]
    exact ⟨_,rfl,rfl⟩
  ·exact absurd hv hv'
 obtain ⟨v,v1,v2⟩:=pos
 obtain ⟨v',w1,w2⟩:=cL r w fr cost now hb hw hf hs
 rw [v1] at w1
 cases w1
 rcases w2 with ⟨h,_⟩|⟨_,_,_,_,g1,g2,g3,g4,g5,g6,g7⟩
 ·exact absurd v2 h
 ·have hnil:∀ q ∈ v.1.Trees,q=nT w fr cost now:=fun q hq=>by
   rcases (g4 q).1 hq with h|⟨h,h'⟩
   ·exact h
   ·rcases ht with h0|⟨q',h0,h1,_⟩
    ·rw [h0] at h;simp at h
    ·rw [h0] at h;rw [List.mem_singleton.1 h] at h';exact absurd h1 h'
  have hl:v.1.Trees.length=1:=by
   rcases ht with h0|⟨q',h0,h1,_⟩
   ·rw [g6 (by rw [h0];simp),h0];rfl
   ·rw [(g5 q' (by rw [h0];simp) h1).2,h0];rfl
  refine ⟨v,v1,v2,by rw [g7,if_pos hh],g3,g1,g2,?_⟩
  obtain ⟨x,hx⟩:=List.length_eq_one_iff.1 hl
  rw [hx,hnil x (by rw [hx];simp)]
theorem handle_own (r:TRoots) (w:TRootWord) (fr:A6u8) (cost now:Int) (hb:Abr r) (hw:Ab w.Root) (hf:Ab fr) (hs:Sm r) (h:w.Root=r.Own):∃ v,F20 r w fr cost now=some v/\v.2.2 ≠ 0:=by
 obtain ⟨v,w1,w2⟩:=cL r w fr cost now hb hw hf hs
 rcases w2 with ⟨h1,_⟩|⟨_,_,h1,_⟩
 ·exact ⟨v,w1,h1⟩
 ·exact absurd h h1
theorem handle_no (r:TRoots) (w:TRootWord) (fr:A6u8) (cost now:Int) (hb:Abr r) (hw:Ab w.Root) (hf:Ab fr) (hs:Sm r) (q:TTree) (hq:r.Trees=[q]) (h1:q.Root=w.Root) (h:¬ (q.Seq < w.Seq ∨ (w.Seq=q.Seq/\w.Cost+cost < q.Cost))):∃ v,F20 r w fr cost now=some v/\v.2.2 ≠ 0:=by
 obtain ⟨v,w1,w2⟩:=cL r w fr cost now hb hw hf hs
 rcases w2 with ⟨h2,_⟩|⟨_,_,_,_,_,_,_,_,g5,_⟩
 ·exact ⟨v,w1,h2⟩
 ·exact absurd (g5 q (by rw [hq];simp) h1).1 h
def rt (s:Int):TRoots:=TRoots.mk (nd 0) true false s [] []
theorem rt_V {s:Int} (h:0 <= s/\s <= 2147483647):Vr (rt s)/\Abr (rt s):=by
 refine ⟨(Vr_iff _).2 ⟨⟨by simp [rt],h,by simp [rt],by simp [rt]⟩,by simp [rt],by simp [rt],by simp [rt],by simp [rt]⟩,cX.2 ⟨nd_Ab (by omega),by simp [rt],by simp [rt]⟩⟩
theorem announce_ok {s:Int} (h:0 <= s/\s < 2147483647):F18 (rt s)=some (TRootWord.mk (nd 0) (s+1) 0 0 false,rt (s+1),0):=by
 obtain ⟨h1,h2⟩:=rt_V (s:=s) (by omega)
 unfold F18
 rcases F34_ok (rt s) h2 with ⟨_,e⟩|⟨hv,_⟩
 ·rw [e,Option.bind_some,yR (by simp [bEq]),yR (by simp [rt]),yR (by simp [rt,xV];omega),F56_ok _ (Vr_sm h1),Option.bind_some]
  simp only [rt,kB (x:=s+1) (by omega)]
 ·exact absurd h1 hv
theorem new_ok {i:Nat} (h:i < 8) (b:Bool):F33 (nd i) b false=some (TRoots.mk (nd i) b false 0 [] [],0):=by
 unfold F33
 rw [yR (by simp)]
theorem new_Nd {i:Nat} (h:i < 8):Nd i (TRoots.mk (nd i) false false 0 [] []):=by
 refine ⟨rfl,(Vr_iff _).2 ⟨⟨by simp,by simp,by simp,by simp⟩,by simp,by simp,by simp,by simp⟩,cX.2 ⟨nd_Ab h,by simp,by simp⟩,.inl rfl⟩
theorem find_no {r:TRoots} (h:r.Trees=[]):F37 r (nd 0)=some (zt,false):=by
 rcases find_sem r (nd 0) (by rw [h];simp) with ⟨q,hq,_⟩|⟨_,e⟩
 ·rw [h] at hq;cases hq
 ·exact e
theorem find_one {r:TRoots} {t:TTree} (h:r.Trees=[t]) (h0:t.Root=nd 0):F37 r (nd 0)=some (t,true):=by
 rcases find_sem r (nd 0) (by rw [h];simp) with ⟨q,hq,_,e⟩|⟨e,_⟩
 ·rw [h] at hq;rw [List.mem_singleton.1 hq] at e;exact e
 ·exact absurd h0 (e t (by rw [h];simp))
theorem best_no {r:TRoots} (hv:Vr r) (hb:Abr r) (h:r.Trees=[]):F27 r false=some (zt,false):=by
 unfold F27
 rcases F34_ok r hb with ⟨_,e⟩|⟨hv',_⟩
 ·rw [e,Option.bind_some,yR (by simp [bEq])]
  have f1:F66 r.Trees=some []:=by rw [h];unfold F66;rw [zJ (qM.2 (by simp))]
  have l:yP (fun s=>kY [] false s) 0=some (.inl ()):=wB (by unfold kY;rw [yR (by simp [yH])])
  have f2:dQ [] false=some []:=by
   unfold dQ F91_0
   rw [wX l,Option.bind_some,xI (by simp [xV])]
  rw [f1,Option.bind_some,f2,Option.bind_some,xI (by simp [xV])];rfl
 ·exact absurd hv hv'
theorem best_one {r:TRoots} {t:TTree} (hv:Vr r) (hb:Abr r) (h:r.Trees=[t]):F27 r false=some (t,true):=by
 unfold F27
 rcases F34_ok r hb with ⟨_,e⟩|⟨hv',_⟩
 ·rw [e,Option.bind_some,yR (by simp [bEq])]
  have f1:F66 r.Trees=some [t]:=by rw [h];unfold F66;rw [zJ (qM.2 (by simp))]
  have l:yP (fun s=>kY [t] false s) 0=some (.inl ()):=by
   refine (fO (s':=1) ?_).trans (wB ?_)
   ·unfold kY F67_0
    rw [xI (by simp [yH]),zJ (by simp [yX])]
    simp only [Option.bind_some,Bool.false_and,cond_false]
    rfl
   ·unfold kY;rw [yR (by simp [yH])]
  have f2:dQ [t] false=some [t]:=by
   unfold dQ F91_0
   rw [wX l,Option.bind_some,xI (by simp [xV])]
  have l3:yP (fun s:Int × TTree=>cZ [t] s.1 s.2) (1,gd [t] 0)=some (.inl t):=wB (by unfold cZ;rw [yR (by simp [yH])];rfl)
  have f3:uW [t]=some t:=by
   unfold uW
   rw [yR (by simp [yH]),zJ (by simp [yX])]
   simp only [qH,uA]
   rw [wX l3]
  rw [f1,Option.bind_some,f2,Option.bind_some,yR (by simp [xV]),f3,Option.bind_some]
 ·exact absurd hv hv'
end Go.Proofs.Ytdcepineppafpaa
