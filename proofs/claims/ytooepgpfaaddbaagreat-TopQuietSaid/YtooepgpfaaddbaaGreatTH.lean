/-
  Regulate over the air: deliveries, ticks and looks.
-/
import Derived.Test.YtooepgpfaaddbaaGreatTG
namespace Go.Proofs.YtooepgpfaaddbaaGreat
open Go.Am
set_option linter.unusedVariables false
set_option linter.unusedSimpArgs false
section
theorem L14_ok (tb:List TRegulateChannel) (hn:NR tb) (l:List TMove) (i:Nat) (now t:Int) (ht:wr .i64 (now+(gd l i).Wait)=t) (mt:Mo t) (hbig:t <= 1000000000) (K:Nat) (hK:K <= 800) (hp:0 <= (gd l i).N) (w:TRegulateWord) (b:Bool) (f la:Nat) (hf:f <= la) (hla:la <= 3) {all:List TRegulate} {air:List (List Int)} {sent:List TRegulateWord} {stop:List (Int × Int)} (hw:w ∈ sent) (I:In tb t all air sent stop K) :
  ∃ r,yF (fun s=>jK l i now la (w,b) s.1 s.2.1 s.2.2.1 s.2.2.2.1 s.2.2.2.2) (true,(f:Int),all,air,stop)=some r/\∃ all' air' stop' sent',r = .inl (true,all',air',stop')/\In tb t all' air' sent' stop' (K+4):=by
 refine kG (step:=fun s=>jK l i now la (w,b) s.1 s.2.1 s.2.2.1 s.2.2.2.1 s.2.2.2.2) (fun s=>s.1=true/\∃ j:Nat,s.2.1=j/\j <= la+1/\∃ sent',w ∈ sent'/\In tb t s.2.2.1 s.2.2.2.1 sent' s.2.2.2.2 (K+j)) _ (fun s=>(la+1 - s.2.1).toNat) ?_ _ ⟨rfl,f,rfl,by omega,sent,hw,I.mono (by omega)⟩
 rintro ⟨k,z,all,air,stop⟩ ⟨e1,j,e2,hj,sent,hw,I⟩
 simp only at e1 e2 I
 subst e1 e2
 show (∃ b',jK l i now la (w,b) true (j:Int) all air stop=some (.done b')/\_) ∨ ∃ s',jK l i now la (w,b) true (j:Int) all air stop=some (.next s')/\_
 unfold jK
 have h4:=I.n4
 by_cases hc:j <= la
 ·have hja:j < all.length:=by omega
  have hS:=(I.ce.st j hja).1
  rw [xS (c:=bLe _ _ && true) (by simp [vB];omega),zD (xG hja)]
  simp only [Int.toNat_natCast,ht]
  rcases han_is hn sent (gd all j) w (gd l i).N t hS mt hp (I.ce.wd w hw) hw with ⟨x,e⟩|⟨nx,out,e,hx⟩
  ·rw [e,Option.bind_some,xS (c:=bEq _ 21) (by rfl),vA (n:=4) (by omega) (by omega)]
   refine .inr ⟨_,rfl,⟨rfl,j+1,rfl,by omega,sent,hw,I.mono (by omega)⟩,?_⟩
   show ((la:Int)+1 - ((j+1:Nat):Int)).toNat < ((la:Int)+1 - (j:Int)).toNat
   omega
  ·obtain ⟨_,_,x3,x4⟩:=Nx_keep hx hS mt I.ce.wd
   have k1:=I.ks
   have k2:=I.km
   have k3:=I.fr.1
   rw [e,Option.bind_some,yO (c:=bEq _ 21) (by rfl),xS (c:=bEq _ 0) (by rfl),wE (L15_ok l i now t all air stop ht (by omega) (by omega) (by omega) j hja nx out x3 (fun v hv=>(x4 v hv).1)),vA (n:=4) (by omega) (by omega)]
   refine .inr ⟨_,rfl,⟨rfl,j+1,rfl,by omega,sent ++ out,List.mem_append_left _ hw,I.step mt hbig (.mvd j hja nx out hx) (I.fr.app (ad_ok (by omega)))⟩,?_⟩
   show ((la:Int)+1 - ((j+1:Nat):Int)).toNat < ((la:Int)+1 - (j:Int)).toNat
   omega
 ·rw [yO (c:=bLe _ _ && true) (by simp [vB];omega)]
  exact .inl ⟨_,rfl,all,air,stop,sent,rfl,I.mono (by omega)⟩
theorem L19_ok (tb:List TRegulateChannel) (hn:NR tb) (l:List TMove) (i:Nat) (now t:Int) (ht:wr .i64 (now+(gd l i).Wait)=t) (mt:Mo t) (hbig:t <= 1000000000) (K:Nat) (hK:K <= 800) {all:List TRegulate} {air:List (List Int)} {sent:List TRegulateWord} {stop:List (Int × Int)} (I:In tb t all air sent stop K) :
  ∃ r,yF (fun s=>fR l i now 3 s.1 s.2.1 s.2.2.1 s.2.2.2.1 s.2.2.2.2) (true,0,all,air,stop)=some r/\∃ all' air' stop' sent',r = .inl (true,all',air',stop')/\In tb t all' air' sent' stop' (K+4):=by
 refine kG (step:=fun s=>fR l i now 3 s.1 s.2.1 s.2.2.1 s.2.2.2.1 s.2.2.2.2) (fun s=>s.1=true/\∃ j:Nat,s.2.1=j/\j <= 4/\∃ sent',In tb t s.2.2.1 s.2.2.2.1 sent' s.2.2.2.2 (K+j)) _ (fun s=>(4 - s.2.1).toNat) ?_ _ ⟨rfl,0,rfl,by omega,sent,I⟩
 rintro ⟨k,z,all,air,stop⟩ ⟨e1,j,e2,hj,sent,I⟩
 simp only at e1 e2 I
 subst e1 e2
 show (∃ b',fR l i now 3 true (j:Int) all air stop=some (.done b')/\_) ∨ ∃ s',fR l i now 3 true (j:Int) all air stop=some (.next s')/\_
 unfold fR
 have h4:=I.n4
 by_cases hc:j <= 3
 ·have hja:j < all.length:=by omega
  have hS:=(I.ce.st j hja).1
  rw [xS (c:=bLe _ _ && true) (by simp [vB];omega),zD (xG hja)]
  simp only [Int.toNat_natCast,ht]
  rcases F14_ok (gd all j) t (Gr_of (S3_gr hn hS)) with ⟨q,_⟩|⟨_,q,_⟩|⟨_,_,e⟩
  ·exact absurd hS.1 q
  ·exact absurd mt q
  ·have hx:Nx sent t (gd all j) (tik (gd all j) t) (tiw (gd all j) t):=.tick
   obtain ⟨_,_,x3,x4⟩:=Nx_keep hx hS mt I.ce.wd
   have k1:=I.ks
   have k2:=I.km
   have k3:=I.fr.1
   rw [e,Option.bind_some,xS (c:=bEq _ 0) (by rfl),wE (L20_ok l i now t all air stop ht (by omega) (by omega) (by omega) j hja _ _ x3 (fun v hv=>(x4 v hv).1)),vA (n:=4) (by omega) (by omega)]
   refine .inr ⟨_,rfl,⟨rfl,j+1,rfl,by omega,_,I.step mt hbig (.mvd j hja _ _ hx) (I.fr.app (ad_ok (by omega)))⟩,?_⟩
   show ((4:Int) - ((j+1:Nat):Int)).toNat < ((4:Int) - (j:Int)).toNat
   omega
 ·rw [yO (c:=bLe _ _ && true) (by simp [vB];omega)]
  exact .inl ⟨_,rfl,all,air,stop,sent,rfl,I.mono (by omega)⟩
theorem L24_ok (tb:List TRegulateChannel) (hn:NR tb) (l:List TMove) (i:Nat) (now t:Int) (ht:wr .i64 (now+(gd l i).Wait)=t) (mt:Mo t) (hbig:t <= 1000000000) (K:Nat) (hK:K <= 800) {all:List TRegulate} {air:List (List Int)} {sent:List TRegulateWord} {stop:List (Int × Int)} (I:In tb t all air sent stop K) :
  yF (fun s=>F3_L24 l i now all stop s.1 s.2) (true,0)=some (.inl true):=by
 refine run_gen (step:=fun s=>F3_L24 l i now all stop s.1 s.2) 4 (fun j=>(true,(j:Int))) true (fun j hj=>?_) ?_
 ·show F3_L24 l i now all stop true (j:Int)=_
  unfold F3_L24
  have h4:=I.n4
  have hja:j < all.length:=by omega
  have hS:=(I.ce.st j hja).1
  rw [xS (c:=bLt _ _ && true) (by simp [yW];omega),zD (xG hja),zD (xG hja)]
  simp only [Int.toNat_natCast,ht]
  rcases F10_ok (gd all j) 0 t (Gr_of (S3_gr hn hS)) with ⟨q,_⟩|⟨_,q,_⟩|⟨_,_,k⟩
  ·exact absurd hS.1 q
  ·exact absurd mt q
  ·obtain ⟨cc,hc,ec⟩:=hS.1.2.1
   obtain ⟨b,e,eb⟩:=k cc hc ec
   rw [e,Option.bind_some]
   have hf:((((lkp stop (gd all j).Channel).isSome && b) && (bLt (wr .i64 (((lkp stop (gd all j).Channel).getD 0)+500000)) t)))=false:=by
    cases b with
    | false=>simp
    | true =>
     cases hk:lkp stop (gd all j).Channel with
     | none=>rfl
     | some T =>
      have hb:=I.hT _ _ hk
      obtain ⟨m1,m2,m3,m4⟩:=eb.1 rfl
      have q:=I.qu.st _ _ hk
      have:t <= T+500000:=by
       by_cases j0:j=0
       ·subst j0
        have:=q.own rfl
        rw [m1] at this;exact Bool.noConfusion this
       ·have q2:=q.mem j hja j0 rfl
        rcases m3 with m3|m3
        ·exact absurd ((I.ce.st j hja).2.1 m3) j0
        ·omega
      simp only [Option.getD_some]
      rw [uV (by omega)]
      simp [yW]
      omega
   simp only [hf]
   rw [vA (n:=4) hj (by omega)]
   rfl
 ·rfl
end
end Go.Proofs.YtooepgpfaaddbaaGreat
