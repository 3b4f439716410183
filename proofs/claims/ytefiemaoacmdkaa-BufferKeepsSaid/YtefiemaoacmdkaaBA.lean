/-
  Buffers: valid ones again; comparison; waking; what is put for someone awake.
-/
import Derived.Test.YtefiemaoacmdkaaBP
namespace Go.Proofs.Ytefiemaoacmdkaa
open Go.Am
set_option linter.unusedVariables false
set_option linter.unusedSimpArgs false
/-! ### One station changed -/
def stB (b:TBuffer) (a:Nat) (s:Bool) (h:List TStored):TBuffer:={b with List:=b.List.set a {(gd b.List a) with Asleep:=s,Held:=h}}
theorem dO (b:TBuffer) (a:Nat) (s:Bool) (h:List TStored):(stB b a s h).List.length=b.List.length:=by simp [stB]
theorem st_at {b:TBuffer} {a:Nat} {s:Bool} {h:List TStored} (ha:a < b.List.length):gd (stB b a s h).List a={(gd b.List a) with Asleep:=s,Held:=h}:=jW ha
theorem st_ne {b:TBuffer} {a i:Nat} {s:Bool} {h:List TStored} (hi:i ≠ a):gd (stB b a s h).List i=gd b.List i:=jX (Ne.symm hi)
theorem st_aid {b:TBuffer} {a i:Nat} {s:Bool} {h:List TStored} (ha:a < b.List.length):(gd (stB b a s h).List i).Aid=(gd b.List i).Aid:=by
 by_cases e:i=a
 ·subst e;rw [st_at ha]
 ·rw [st_ne e]
theorem st_pe {b:TBuffer} {a:Nat} {s:Bool} {h:List TStored} (ha:a < b.List.length) (hv:∀ i:Nat,i < b.List.length->Pe b i) (hh:Qu h b.Limit 3) (hs:s=true ∨ h.length=0):∀ i:Nat,i < (stB b a s h).List.length->Pe (stB b a s h) i:=by
 intro i hi
 rw [dO] at hi
 obtain ⟨h1,h2,h3,h4⟩:=hv i hi
 have hl:kV (stB b a s h) i=kV b i:=by unfold kV;rw [st_aid ha]
 refine ⟨by rw [hl,st_aid ha];exact h1,by rw [st_aid ha];exact h2,?_,?_⟩
 ·by_cases e:i=a
  ·subst e;rw [st_at ha];exact hh
  ·rw [st_ne e];exact h3
 ·by_cases e:i=a
  ·subst e;rw [st_at ha];exact hs
  ·rw [st_ne e];exact h4
theorem st_ng {b:TBuffer} {a:Nat} {s:Bool} {h:List TStored} (ha:a < b.List.length) (hg:Ng b) (hh:h.length <= 70):Ng (stB b a s h):=by
 refine ⟨by rw [dO];exact hg.1,hg.2.1,fun i hi=>?_⟩
 by_cases e:i=a
 ·subst e;rw [st_at ha];exact hh
 ·rw [st_ne e];rw [dO] at hi;exact hg.2.2 i hi
theorem st_bq {b:TBuffer} {a:Nat} {s:Bool} {h:List TStored} (ha:a < b.List.length) (hq:Bq b) (hh:Sq h):Bq (stB b a s h):=by
 refine ⟨hq.1,fun q hm=>?_⟩
 obtain ⟨i,hi,rfl⟩:=jA hm
 by_cases e:i=a
 ·subst e;rw [st_at ha];exact hh
 ·rw [st_ne e];rw [dO] at hi;exact hq.2 _ (vD hi)
/-! ### One thing less -/
theorem del_gd {α:Type} [Inhabited α] {l:List α} {k i:Nat} (hk:k < l.length):gd (eA l k ((k+1:Nat):Int)) i=if i < k then gd l i else gd l (i+1):=by
 unfold eA
 simp only [Int.toNat_natCast]
 split
 ·rename_i h
  rw [uT (by simp;omega),gd_take h]
 ·rename_i h
  rw [kA (by simp;omega),gd_drop]
  congr 1
  simp
  omega
theorem del_mem {α:Type} {l:List α} {k:Nat} {x:α} (h:x ∈ eA l k ((k+1:Nat):Int)):x ∈ l:=by
 unfold eA at h
 rcases List.mem_append.1 h with h|h
 ·exact List.mem_of_mem_take h
 ·exact List.mem_of_mem_drop h
theorem del_qu {l:List TStored} {k:Nat} {lim top:Int} (hk:k < l.length) (h:Qu l lim top):Qu (eA l k ((k+1:Nat):Int)) lim top:=by
 have hl:=eC hk
 refine ⟨by rw [hl];have:=h.1;omega,fun i hi=>?_⟩
 rw [hl] at hi
 unfold Qe
 rw [del_gd hk,del_gd hk]
 by_cases h1:i < k
 ·rw [if_pos h1,if_pos (by omega)]
  exact h.2 i (by omega)
 ·rw [if_neg h1]
  obtain ⟨q1,q2,q3⟩:=h.2 (i+1) (by omega)
  refine ⟨q1,q2,fun h0=>?_⟩
  have q4:=q3 (by omega)
  rw [show i+1 - 1=i from rfl] at q4
  by_cases h2:i - 1 < k
  ·rw [if_pos h2]
   obtain rfl:i=k:=by omega
   have:=(h.2 i hk).2.2 h0
   omega
  ·rw [if_neg h2,show i - 1+1=i by omega]
   exact q4
/-! ### Comparison -/
def U8 (l:List TStored):Prop:=∀ q ∈ l,u8A q.Frame.Body=true
def U8b (b:TBuffer):Prop:=U8 b.Group/\∀ s ∈ b.List,U8 s.Held
theorem cself {c b:Bool} (h:b=true):(bif c then b else true)=true:=by subst h;cases c<;>rfl
theorem fsame_ok (a:TFrame) (h:u8A a.Body=true):F36 a a=some true:=by
 have q:u8b a.Body.length (enR xJ a.Body)=true:=(u8b_enR (f:=xJ) (fun _=>rfl) a.Body).trans h
 unfold F36
 rw [zR (cself q),zR (cself q)]
 simp [xK,bB_eq,sEq]
theorem qsame_ok (l:List TStored) (hl:l.length <= 1000) (h:U8 l):F45 l l=some true:=by
 unfold F45
 rw [yS (by simp [xK])]
 have l1:=qS (step:=fun s=>cE l l s) (R:=Bool) l.length (fun i=>(i:Int)) () (fun i hi=>by
   show cE l l i=_
   unfold cE
   rw [xA (by simp [yG];omega),Int.toNat_natCast,fsame_ok _ (h _ (vD hi)),yX hi]
   simp only [xK,decide_true,Bool.not_true,Bool.or_false,Bool.not_false,cond_true,Option.isSome_some,yN,zR,cond_false,xL hi (show l.length < 4611686018427387904 by omega)])
  (by show cE l l _=_;unfold cE;rw [yS (by simp [yG])])
 replace l1:xH (fun s=>cE l l s) (0:Int)=some (.inl ()):=by simpa using l1
 rw [vF l1]
theorem same_ok (b:TBuffer) (hn:Nb b) (h:U8b b):F16 b b=some true:=by
 obtain ⟨n1,n2,n3⟩:=hn
 unfold F16
 rw [qsame_ok _ n2 h.1]
 have l1:=qS (step:=fun s=>cB b b s) (R:=Bool) b.List.length (fun i=>(i:Int)) () (fun i hi=>by
   show cB b b i=_
   unfold cB
   rw [xA (by simp [yG];omega),Int.toNat_natCast,qsame_ok _ (n3 _ (vD hi)) (h.2 _ (vD hi)),yX hi]
   simp only [xK,bB_eq,decide_true,Bool.not_true,Bool.or_false,Bool.not_false,cond_true,Option.isSome_some,yN,zR,cond_false,xL hi (show b.List.length < 4611686018427387904 by omega)])
  (by show cB b b _=_;unfold cB;rw [yS (by simp [yG])])
 replace l1:xH (fun s=>cB b b s) (0:Int)=some (.inl ()):=by simpa using l1
 rw [vF l1]
 simp [xK,zR,yN]
/-! ### Waking -/
def wkB (b:TBuffer) (a:Nat) (g:List TStored):TBuffer:={stB b a false [] with Group:=g}
def Hd (r:List TFrame):Prop:=∀ i:Nat,i < r.length->(gd r i).Head.MoreData=decide (i+1 < r.length)
theorem hand_hd (l:List TFrame) (hn:l.length <= 1000):∃ r,fR l=some r/\r.length=l.length/\Hd r:=by
 obtain ⟨r,r1,r2,r3⟩:=hand_ok l hn
 refine ⟨r,r1,r2,fun i hi=>?_⟩
 rw [r3 i (by omega),r2]
 rfl
theorem wake_ok (b:TBuffer) (aid:Int) (hg:Ng b) (hq:Bq b) (hv:Vb b) :
  (∃ (a:Nat) (r1 r2:List TFrame) (g:List TStored),a < b.List.length/\(gd b.List a).Aid=aid/\r1.length=(gd b.List a).Held.length/\Hd r1/\Hd r2/\r2.length <= 100/\(g=[] ∨ g=b.Group/\Asl (stB b a false []))/\F21 b aid=some (r1 ++ r2,wkB b a g,0)) ∨
  ∃ c:Int,c ≠ 0/\F21 b aid=some ([],zB,c):=by
 have hc:F18 b=some 0:=by
  rcases cL b hg with h|h
  ·exact h.2
  ·exact absurd hv h.1
 have hl:=hg.1
 unfold F21
 rw [hc,Option.bind_some,yS (by rfl)]
 by_cases ha:1 <= aid/\aid <= 255
 ·rw [yS (by simp [yG];omega)]
  obtain ⟨a,P,pe⟩:=eN b hg hv aid (by omega)
  rw [pe,Option.bind_some]
  rcases Pl_at hv P with ⟨h1,h2⟩|⟨h1,h2⟩
  ·rw [decide_eq_true ⟨h1,h2⟩]
   simp only [Int.toNat_natCast]
   have hh:=hg.2.2 a h1
   obtain ⟨r1,x1,x2,x3⟩:=hand_hd ((gd b.List a).Held.map (·.Frame)) (by simp;omega)
   rw [yS (by rfl),fY b (Nb_of hg) hq,Option.bind_some,zR (yX h1),eH _ (by omega),Option.bind_some,x1,Option.bind_some,Option.bind_some]
   have eB:(b.List.set a {(gd b.List a) with Asleep:=false}).set a {(gd (b.List.set a {(gd b.List a) with Asleep:=false}) a) with Held:=[]} = (stB b a false []).List:=by
    rw [jW h1,List.set_set]
    rfl
   rw [eB]
   have hn2:(stB b a false []).List.length <= 1000:=by rw [dO];omega
   obtain ⟨q,q1,q2⟩:=aslp_ok {b with List:=(stB b a false []).List} hn2
   rw [q1,Option.bind_some]
   have hx:r1.length=(gd b.List a).Held.length:=by rw [x2];simp
   have h22:=hg.2.1
   cases q with
   | false =>
    obtain ⟨r2,y1,y2,y3⟩:=hand_hd (b.Group.map (·.Frame)) (by simp;omega)
    have hy:r2.length=b.Group.length:=by rw [y2];simp
    rw [xA (by rfl),eH _ (by omega),Option.bind_some,y1,Option.bind_some,tF (by omega) (by omega)]
    exact .inl ⟨a,r1,r2,[],h1,h2,hx,x3,y3,by omega,.inl rfl,rfl⟩
   | true =>
    rw [yS (by rfl),show F52_1=some [] from rfl,Option.bind_some,tF (by simp;omega) (by simp;omega)]
    exact .inl ⟨a,r1,[],b.Group,h1,h2,hx,x3,fun i hi=>by simp at hi,by simp,.inr ⟨rfl,q2.1 rfl⟩,rfl⟩
  ·rw [decide_eq_false h1,xA (by rfl)]
   exact .inr ⟨6,by omega,rfl⟩
 ·rw [xA (by simp [yG];omega)]
  exact .inr ⟨2,by omega,rfl⟩
theorem wk_good {b:TBuffer} {a:Nat} {g:List TStored} (ha:a < b.List.length) (hg:Ng b) (hq:Bq b) (hv:Vb b) (h:g=[] ∨ g=b.Group/\Asl (stB b a false [])):Ng (wkB b a g)/\Bq (wkB b a g)/\Vb (wkB b a g):=by
 have e1:=st_ng (s:=false) (h:=[]) ha hg (by simp)
 have e2:=st_bq (s:=false) (h:=[]) ha hq (fun q hq=>by cases hq)
 have l0:=hv.1.1.1
 have e3:=st_pe (s:=false) (h:=[]) ha hv.1.2 ⟨by simp;omega,fun i hi=>by simp at hi⟩ (.inr rfl)
 refine ⟨⟨e1.1,?_,e1.2.2⟩,⟨?_,e2.2⟩,⟨⟨hv.1.1.1,hv.1.1.2.1,by have:=hv.1.1.2.2;rw [← dO b a false []] at this;exact this⟩,fun i hi=>e3 i hi⟩,?_,?_⟩
 ·rcases h with rfl|⟨rfl,_⟩
  ·show ([]:List TStored).length <= 70
   simp
  ·exact hg.2.1
 ·rcases h with rfl|⟨rfl,_⟩
  ·exact fun q hq=>by cases hq
  ·exact hq.1
 ·rcases h with rfl|⟨rfl,_⟩
  ·exact ⟨by show ((0:Nat):Int) <= b.Limit;omega,fun i hi=>by simp [wkB] at hi⟩
  ·exact hv.2.1
 ·rcases h with rfl|⟨rfl,h⟩
  ·exact .inl rfl
  ·exact .inr h
/-! ### For someone awake -/
end Go.Proofs.Ytefiemaoacmdkaa
