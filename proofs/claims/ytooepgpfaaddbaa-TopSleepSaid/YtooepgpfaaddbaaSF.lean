/-
  TopSleep: each frame is delivered or dropped at the first wake after it came.
-/
import Derived.Test.YtooepgpfaaddbaaSE
namespace Go.Proofs.Ytooepgpfaaddbaa
open Go.Am
set_option linter.unusedVariables false
set_option linter.unusedSimpArgs false
set_option maxRecDepth 4000
def Ru (p:TWakeRule):Prop:=(0 <= p.Start/\p.Start <= 1099511627776)/\1 <= p.Every/\p.Every <= 4294967296
theorem rule_ok (p:TWakeRule):∃ e,F5 p=some e/\(e=0->1 <= p.Every->Ru p):=by
 unfold F5
 generalize hc:(_ || _:Bool)=c
 cases c with
 | true=>exact ⟨_,rfl,fun h=>(by cases h)⟩
 | false =>
  refine ⟨_,rfl,fun _ h=>?_⟩
  simp [eO,yS,uY] at hc
  unfold Ru
  omega
theorem nxt {p:TWakeRule} (hr:Ru p) (h0:F5 p=some 0) (w:Int):∃ at' is,F14 p w=some (at',is)/\(is=true->0 <= at'/\at' <= 1099511627776):=by
 obtain ⟨⟨s1,s2⟩,e1,e2⟩:=hr
 unfold F14
 rw [h0,Option.bind_some,yT (by rfl)]
 by_cases h:p.Start <= w
 ·rw [vI (by simp [eO,h])]
  by_cases h2:w <= 1099511627776
  ·rw [yT (by simp [uY,yS];omega),zS (by simp [uY];omega)]
   obtain ⟨d,hd⟩:=Int.eq_ofNat_of_zero_le (show 0 <= w - p.Start by omega)
   obtain ⟨e,he⟩:=Int.eq_ofNat_of_zero_le (show 0 <= p.Every by omega)
   rw [wr_in (x:=w - p.Start) (by omega),hd,he]
   obtain ⟨g,hg⟩:∃ g,g=d / e:=⟨_,rfl⟩
   have q:((d:Int).tdiv (e:Int))=(g:Int):=by rw [hg];rfl
   have m:g * e <= d:=by rw [hg];exact Nat.div_mul_le_self d e
   have dd:g <= d:=by rw [hg];exact Nat.div_le_self d e
   obtain ⟨z,hz⟩:∃ z,z=g * e:=⟨_,rfl⟩
   have k:((g:Int)+1) * (e:Int)=((z+e:Nat):Int):=by
    rw [Int.add_mul,Int.one_mul,hz]
    push_cast
    rfl
   rw [← hz] at m
   rw [q,wr_in (x:=(g:Int)) (by omega),wr_in (x:=(g:Int)+1) (by omega),k,wr_in (x:=((z+e:Nat):Int)) (by omega),wr_in (by omega)]
   by_cases h3:p.Start+((z+e:Nat):Int) <= 1099511627776
   ·rw [yT (by simp only [yS,decide_eq_false_iff_not];omega)]
    exact ⟨_,_,rfl,fun _=>by omega⟩
   ·rw [vI (by simp only [yS,decide_eq_true_eq];omega)]
    exact ⟨_,_,rfl,fun h=>by cases h⟩
  ·rw [vI (by simp [yS];omega)]
   exact ⟨_,_,rfl,fun h=>by cases h⟩
 ·rw [yT (by simp [eO];omega),yT (by simp [yS];omega)]
  exact ⟨_,_,rfl,fun _=>by omega⟩
theorem untilB {p:TWakeRule} {lim stay now wake wakes a b:Int} {P:List TComing} {H:List TStored} {F C l:List Int} {i:Nat} (hr:Ru p) (h0:F5 p=some 0) (hL:Lm lim stay) (hq:Qs lim now H) (hn:now <= 1099511627776) (I:Iv i H F C l) (hw:0 <= wakes/\wakes <= 301) :
  ∃ few H' F' l' wake' wakes',Iv i H' F' C l'/\Qs lim now H'/\(0 <= wakes'/\wakes' <= 301) /\
   yN (fun _=>F3_L2 p P a b lim stay [⟨9,true,H⟩] [] wake F wakes C (gd l 0) (gd l 1) (gd l 2) (gd l 3)) ()=some (.inl (true,few,lim,stay,[⟨9,true,H'⟩],[],wake',F',wakes',gd l' 0,gd l' 1,gd l' 2,gd l' 3)):=by
 obtain ⟨r,l1,few,H',F',l',wake',wakes',rfl,I',q',w'⟩:=loop_inv (step:=fun s=>F3_L3 p P a b C s.1 s.2.1 s.2.2.1 s.2.2.2.1 s.2.2.2.2.1 s.2.2.2.2.2.1 s.2.2.2.2.2.2.1 s.2.2.2.2.2.2.2.1 s.2.2.2.2.2.2.2.2.1 s.2.2.2.2.2.2.2.2.2.1 s.2.2.2.2.2.2.2.2.2.2)
  (fun s=>∃ (H:List TStored) (F l:List Int) (wake wakes:Int),s=(lim,stay,[⟨9,true,H⟩],[],wake,F,wakes,gd l 0,gd l 1,gd l 2,gd l 3)/\Iv i H F C l/\Qs lim now H/\(0 <= wakes/\wakes <= 301))
  (fun r=>∃ (few:Bool) (H:List TStored) (F l:List Int) (wake wakes:Int),r = .inr (.done (.inl (true,few,lim,stay,[⟨9,true,H⟩],[],wake,F,wakes,gd l 0,gd l 1,gd l 2,gd l 3)))/\Iv i H F C l/\Qs lim now H/\(0 <= wakes/\wakes <= 301))
  (fun s=>(302 - s.2.2.2.2.2.2.1).toNat)
  (fun s hS=>by
   obtain ⟨H,F,l,wake,wakes,rfl,I,hq,hw⟩:=hS
   show (∃ b',F3_L3 p P a b C lim stay [⟨9,true,H⟩] [] wake F wakes (gd l 0) (gd l 1) (gd l 2) (gd l 3)=_/\_) ∨ ∃ s',F3_L3 p P a b C lim stay [⟨9,true,H⟩] [] wake F wakes (gd l 0) (gd l 1) (gd l 2) (gd l 3)=_/\_
   unfold F3_L3
   obtain ⟨at',is,n1,n2⟩:=nxt hr h0 wake
   rw [n1,Option.bind_some]
   dsimp only
   generalize hc:(!is || _:Bool)=c
   cases c with
   | true=>exact .inl ⟨_,rfl,true,H,F,l,wake,wakes,rfl,I,hq,hw⟩
   | false =>
    have hi:is=true:=by cases is with|true=>rfl|false=>cases hc
    rw [yT (by rfl)]
    by_cases h3:300 < wakes
    ·rw [vI (by simp [yS,h3])]
     exact .inl ⟨_,rfl,false,H,F,l,wake,wakes,rfl,I,hq,hw⟩
    ·rw [yT (by simp [yS];omega)]
     obtain ⟨F',l',I',e⟩:=rouse4 (r:=(at',is)) hL hq hn I (n2 hi)
     have e4:=yX (step:=fun (_:Unit)=>F3_L4 C lim stay [⟨9,true,H⟩] [] F (gd l 0) (gd l 1) (gd l 2) (gd l 3) (at',is)) (s:=()) e
     rw [wH e4,yT (by rfl),wr_in (x:=wakes+1) (by omega)]
     exact .inr ⟨_,rfl,⟨[],F',l',at',wakes+1,rfl,I',Qs_nil (by have:=hL.1;omega),by omega⟩,by simp only;omega⟩) (lim,stay,[⟨9,true,H⟩],[],wake,F,wakes,gd l 0,gd l 1,gd l 2,gd l 3) ⟨H,F,l,wake,wakes,rfl,I,hq,hw⟩
 exact ⟨few,H',F',l',wake',wakes',I',q',w',yX (by unfold F3_L2;exact lp_inr l1)⟩
theorem gd_ext {A B:List Int} (h:A.length=B.length) (e:∀ n:Nat,gd A n=gd B n):A=B:=List.ext_getElem h fun n h1 h2=>by
 have:=e n
 rw [← gd_at h1,← gd_at h2] at this
 exact this
theorem dropB {P:List TComing} {lim stay now t cat:Int} {H:List TStored} {F C l:List Int} {i:Nat} {f:TFrame} {b:TBuffer} (hL:Lm lim stay) (hq:Qs lim now H) (h0:0 <= now) (hn:now <= t) (I:Iv i H F C l) (hi:i < 60) (hf:f.Head.Seq=i) (hb:f.Body=[]) (hc:0 <= cat/\cat <= 3) (hP:(gd P i).Cat=cat) {d:List TFrame} {H':List TStored}
  (h:((H.length:Int) < lim/\d=[]/\H'=H ++ [⟨cat,t,f⟩]) ∨ (d=[f]/\H'=H) ∨ ∃ k:Nat,k < H.length/\d=[(gd H k).Frame]/\H'=delL H k ((k+1:Nat):Int) ++ [⟨cat,t,f⟩]) :
  ∃ G,Iv (i+1) H' G (C ++ [cat]) l/\Qs lim t H'/\yN (fun _=>F3_L9 P i C F ([],d,b,0)) ()=some (.inl (true,G,C ++ [cat])):=by
 have I1:=I.snoc (x:=⟨cat,t,f⟩) hi hf hc
 have lF:=I1.lF
 have hd:d.Pairwise (fun a b=>a.Head.Seq < b.Head.Seq)/\d.length <= 1/\∀ f ∈ d,∃ n:Nat,n < (F ++ [0]).length/\f.Head.Seq=(n:Int)/\gd (F ++ [0]) n=0:=by
  rcases h with ⟨_,rfl,_⟩|⟨rfl,_⟩|⟨k,k1,rfl,_⟩
  ·exact ⟨List.Pairwise.nil,by simp,fun f hf=>by cases hf⟩
  ·refine ⟨by simp,by simp,fun g hg=>?_⟩
   obtain rfl:=List.mem_singleton.1 hg
   obtain ⟨n,n1,n2,_,n4,_⟩:=I1.hH ⟨cat,t,g⟩ (by simp)
   exact ⟨n,by omega,n2,n4⟩
  ·refine ⟨by simp,by simp,fun g hg=>?_⟩
   obtain rfl:=List.mem_singleton.1 hg
   obtain ⟨n,n1,n2,_,n4,_⟩:=I1.hH (gd H k) (List.mem_append_left _ (gd_mem k1))
   exact ⟨n,by omega,n2,n4⟩
 obtain ⟨d1,d3,d2⟩:=hd
 generalize eX:(([],d,b,0):List TFrame × List TFrame × TBuffer × Int)=X
 have x1:X.2.1=d:=by rw [← eX]
 rw [← x1] at d1 d2 d3
 obtain ⟨G,g1,g2,g3⟩:=drop_gen (step:=fun s=>F3_L10 X s.1 s.2.1 s.2.2) X.2.1 (fun j G=>(j,G,C ++ [cat])) (fun G=>(G,C ++ [cat])) (F ++ [0]) d1 d2 (fun j n G hj hG hn e0 e1=>by
  show F3_L10 X j G (C ++ [cat])=_
  unfold F3_L10
  rw [vI (by simp [yS];omega),zS (xW hj),Int.toNat_natCast,e0,Int.toNat_natCast,e1,xW (show n < G.length by omega),zS (by simp),yT (by simp [yS,eO,uY];omega),zS (by rfl),vO hj (by omega)]) (fun G=>by
  show F3_L10 X (X.2.1.length:Nat) G (C ++ [cat])=_
  unfold F3_L10
  rw [yT (by simp [yS])])
 rw [x1] at g2
 have one:∀ (y:TFrame) (n:Nat),d=[y]->y.Head.Seq=(n:Int)->n < i+1->G=(F ++ [0]).set n 2:=fun y n e0 e1 hn=>by
  refine gd_ext (by rw [g1,List.length_set]) fun m=>?_
  rw [g2,gd_set (by omega),e0]
  have:(∃ f ∈ [y],f.Head.Seq=(m:Int)) ↔ m=n:=by
   constructor
   ·rintro ⟨g,hg,e⟩
    obtain rfl:=List.mem_singleton.1 hg
    omega
   ·rintro rfl
    exact ⟨y,by simp,e1⟩
  by_cases c:m=n
  ·rw [if_pos (this.2 c),if_pos c]
  ·rw [if_neg (fun h=>c (this.1 h)),if_neg c]
 refine ⟨G,?_⟩
 have fin:yN (fun _=>F3_L9 P i C F X) ()=some (.inl (true,G,C ++ [cat])):=yX (by
  unfold F3_L9
  rw [Int.toNat_natCast,hP,wH g3])
 rcases h with ⟨h1,e1,rfl⟩|⟨e1,rfl⟩|⟨k,k1,e1,rfl⟩
 ·have:G=F ++ [0]:=gd_ext g1 fun m=>by rw [g2,e1,if_neg (by rintro ⟨f,hf,_⟩;cases hf)]
  rw [this] at fin ⊢
  exact ⟨I1,Qs_snoc hq h1 hn ⟨hc,by omega,rfl,hb⟩,fin⟩
 ·have e:=one f i e1 hf (by omega)
  have kl:H'.length < (H' ++ [(⟨cat,t,f⟩:TStored)]).length:=by simp
  have gl:gd (H' ++ [(⟨cat,t,f⟩:TStored)]) H'.length = ⟨cat,t,f⟩:=by rw [gd_app2 (Nat.le_refl _),Nat.sub_self];rfl
  have:=I1.del (x:=2) kl (by rw [gl];exact hf) (show i < i+1 by omega) (by decide)
  rw [delE,List.take_left,List.drop_of_length_le (by simp),List.append_nil] at this
  exact ⟨by rw [e];exact this,Qs_mono hq hn,fin⟩
 ·obtain ⟨n,n1,n2,_,n4,_⟩:=I.hH (gd H k) (gd_mem k1)
  have e:=one _ n e1 n2 (by omega)
  have kl:k < (H ++ [(⟨cat,t,f⟩:TStored)]).length:=by simp;omega
  have gl:gd (H ++ [(⟨cat,t,f⟩:TStored)]) k=gd H k:=gd_app1 k1
  have:=I1.del (x:=2) kl (by rw [gl];exact n2) (show n < i+1 by omega) (by decide)
  rw [delE,List.take_append_of_le_length (by omega),List.drop_append_of_le_length (by omega),← List.append_assoc,← delE] at this
  have dl:=del_len k1
  have:=hq.1
  exact ⟨by rw [e];assumption,Qs_snoc (Qs_sub hq del_sub) (by omega) hn ⟨hc,by omega,rfl,hb⟩,fin⟩
end Go.Proofs.Ytooepgpfaaddbaa
