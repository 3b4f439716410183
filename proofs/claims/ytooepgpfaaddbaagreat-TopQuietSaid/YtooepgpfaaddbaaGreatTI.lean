/-
  Regulate over the air: the moves.
-/
import Derived.Test.YtooepgpfaaddbaaGreatTH
namespace Go.Proofs.YtooepgpfaaddbaaGreat
open Go.Am
set_option linter.unusedVariables false
set_option linter.unusedSimpArgs false
theorem F11_ok:F11=some (A6u8.mk 2 0 0 0 0 1):=rfl
theorem flip2 {w:TRegulateWord} {a:A6u8} (hW:Wd w) (ha:Ad a) {k:Nat} (hk:k < 336):F12 ((frm w a).set (k / 8) (xorI .u8 (gd (frm w a) (k / 8)) (cE .u8 1 ((k % 8:Nat):Int))))=some (⟨0,0,0,0⟩,false):=by
 obtain ⟨c,hc,hc2⟩:=By_nat (frm_by hW ha _ (vZ (i:=k / 8) (by rw [frm_len];omega)))
 have hb:=bit_ne ⟨c,hc2⟩ ⟨k % 8,Nat.mod_lt k (by decide)⟩
 rw [hc]
 exact flip_ok hW ha (by omega) hb.2 (by rw [hc];exact hb.1)
section
theorem who3 (l:List TMove) (i:Nat) (hp:0 <= (gd l i).N):∃ w:Nat,(1 <= w/\w <= 3)/\wr .i64 (1+(((gd l i).N).tmod 3))=(w:Int):=by
 obtain ⟨k,k1,k2⟩:=md_in (n:=3) hp (by decide)
 refine ⟨k+1,by omega,?_⟩
 rw [show (3:Int)=((3:Nat):Int) from rfl,k2,uV (by omega)]
 omega
theorem L13_flip (tb:List TRegulateChannel) (hn:NR tb) (l:List TMove) (i:Nat) (now t:Int) (ht:wr .i64 (now+(gd l i).Wait)=t) (mt:Mo t) (hbig:t <= 1000000000) (K:Nat) (hK:K <= 700) (hp:0 <= (gd l i).N) {all:List TRegulate} {air:List (List Int)} {sent:List TRegulateWord} {stop:List (Int × Int)} (I:In tb t all air sent stop K) (k5:(gd l i).Kind=5) (z:air.length ≠ 0) (la:Int) :
  ∃ y,yF (fun _:Unit=>F3_L13 l i true air la) ()=some (.inl (true,-1,y))/\F12 y=some (⟨0,0,0,0⟩,false):=by
 obtain ⟨j,j1,j2⟩:=md_in (n:=air.length) hp z
 have hj:j < sent.length:=by rw [← I.fr.1];exact j1
 obtain ⟨a,ha,e⟩:=I.fr.2 j hj
 obtain ⟨k,k1,k2⟩:=md_in (n:=336) hp (by decide)
 have hF:=flip2 (I.ce.wd _ (vZ hj)).1 ha k1
 have hl:=frm_len (gd sent j) a
 rw [← e] at hF hl
 clear e
 have w8:wr .i64 (8 * ((42:Nat):Int))=((336:Nat):Int):=by rw [uV (by omega)];rfl
 have q1:wr .i64 ((k:Int).tdiv 8)=((k / 8:Nat):Int):=by
  rw [show (k:Int).tdiv 8=((k / 8:Nat):Int) from (Int.ofNat_tdiv k 8).symm,uV (by omega)]
 have q2:wr .u64 ((k:Int).tmod 8)=((k % 8:Nat):Int):=by
  rw [show (k:Int).tmod 8=((k % 8:Nat):Int) from (Int.ofNat_tmod k 8).symm,wr_u64 (by omega)]
 refine ⟨_,xK ?_,hF⟩
 unfold F3_L13
 simp only [Int.toNat_natCast,j2]
 rw [xS (c:=bEq _ 5) (by simp [yT,k5])]
 generalize gd air j=Y at hF hl
 simp only [hl,w8,k2,q1,q2,Int.toNat_natCast,List.nil_append,Option.bind_some]
 rw [zD (by decide),zD (xG (by omega)),zD (by simp [vB];omega),zD (xG (by omega)),hF,Option.bind_some]
 rfl
def Po (tb:List TRegulateChannel) (i:Nat) (t:Int) (all:List TRegulate) (air:List (List Int)) (stop:List (Int × Int)) (K:Nat) (b:(Bool × Int × Int × (List TRegulate) × (List (List Int)) × (List (Int × Int))) ⊕ (Lp (Int × Int × Bool × (List TRegulate) × (List (List Int)) × (List (Int × Int))) (Bool ⊕ Bool))):Prop :=
 (∃ f la all' air' stop' sent',b = .inl (true,f,la,all',air',stop')/\((la = -1/\0 <= f/\In tb t all' air' sent' stop' (K+4)) ∨ (la=3/\f=0/\In tb t all' air' sent' stop' K))) ∨ b = .inr (.next (wr .i64 ((i:Int)+1),t,true,all,air,stop))
theorem L3_is (tb:List TRegulateChannel) (hn:NR tb) (l:List TMove) (i:Nat) (now t:Int) (ht:wr .i64 (now+(gd l i).Wait)=t) (mt:Mo t) (hbig:t <= 1000000000) (K:Nat) (hK:K <= 700) (hp:0 <= (gd l i).N) {all:List TRegulate} {air:List (List Int)} {sent:List TRegulateWord} {stop:List (Int × Int)} (I:In tb t all air sent stop K) :
  ∃ b,F3_L3 l i now true all air stop=some (.done b)/\Po tb i t all air stop K b:=by
 have h4:=I.n4
 have z0:(0:Nat) < all.length:=by omega
 have i0:inb 0 all.length=true:=xG (i:=0) z0
 have n1:=I.ks
 have n2:=I.km
 have n3:=I.fr.1
 have l4:yF (fun _:Unit=>F3_L4 l i) ()=some (.inl (bEq (gd l i).Kind 0 || bEq (gd l i).Kind 1)):=by
  refine xK ?_
  unfold F3_L4
  rw [Int.toNat_natCast]
  cases bEq (gd l i).Kind 0<;>rfl
 unfold F3_L3
 rw [wE l4]
 by_cases k01:(gd l i).Kind=0 ∨ (gd l i).Kind=1
 ·rw [xS (c:=bEq _ _ || bEq _ _) (by simpa [yT] using k01)]
  obtain ⟨who,w1,l5⟩:∃ who:Nat,who < all.length/\yF (fun _:Unit=>F3_L5 l i) ()=some (.inl (who:Int)):=by
   by_cases k1:(gd l i).Kind=1
   ·obtain ⟨w,q,e⟩:=who3 l i hp
    refine ⟨w,by omega,xK ?_⟩
    unfold F3_L5
    rw [Int.toNat_natCast,xS (by simp [yT,k1]),e]
   ·refine ⟨0,z0,xK ?_⟩
    unfold F3_L5
    rw [Int.toNat_natCast,yO (by simp [yT,k1])]
    rfl
  have hS:=(I.ce.st who w1).1
  rw [wE l5,zD (xG w1)]
  simp only [Int.toNat_natCast,ht]
  rcases F9_ok (gd all who) (gd l i).N t (S3_gr hn hS) with ⟨q,_⟩|⟨_,q,_⟩|⟨_,_,_,_,e⟩|⟨_,_,_,hst,e⟩
  ·exact absurd hS.1 q
  ·exact absurd ⟨mt,hp⟩ q
  ·rw [e,Option.bind_some,xS (c:=bEq _ 20) (by rfl)]
   exact ⟨_,rfl,.inl ⟨0,-1,all,air,stop,sent,rfl,.inl ⟨rfl,Int.le_refl _,I.mono (by omega)⟩⟩⟩
  ·have hx:Nx sent t (gd all who) (rad (gd all who) (gd l i).N t).2 (rad (gd all who) (gd l i).N t).1:=.radar _ hp hst
   obtain ⟨_,_,x3,x4⟩:=Nx_keep hx hS mt I.ce.wd
   rw [e,Option.bind_some,yO (c:=bEq _ 20) (by rfl),xS (c:=bEq _ 0) (by rfl),wE (L6_ok l i now t all air stop ht (by omega) (by omega) z0 who w1 _ _ x3 (fun v hv=>(x4 v hv).1))]
   exact ⟨_,rfl,.inl ⟨0,-1,_,_,_,_,rfl,.inl ⟨rfl,Int.le_refl _,(I.step mt hbig (.mvd who w1 _ _ hx) (I.fr.app (ad_ok (by omega)))).mono (by omega)⟩⟩⟩
 ·rw [yO (c:=bEq _ _ || bEq _ _) (by simpa [yT] using k01)]
  by_cases k2:(gd l i).Kind=2
  ·rw [xS (c:=bEq _ 2) (by simp [yT,k2]),zD i0]
   simp only [Int.toNat_natCast,ht]
   have hS:=(I.ce.st 0 z0).1
   rcases F10_ok (gd all 0) 0 t (Gr_of (S3_gr hn hS)) with ⟨q,_⟩|⟨_,q,_⟩|⟨_,_,k⟩
   ·exact absurd hS.1 q
   ·exact absurd mt q
   ·obtain ⟨c,hc,ec⟩:=hS.1.2.1
    obtain ⟨b,e,eb⟩:=k c hc ec
    rw [e,Option.bind_some]
    have hv:=c255 (hS.2 ▸ hS.1.1) ((ht3 hS.2).1 hS.1.2.1)
    have hW:Wd ⟨3,(gd all 0).Channel,0,t⟩:=⟨hv,mt,.inr (.inr ⟨rfl,rfl⟩)⟩
    have a1:Ad (A6u8.mk 2 0 0 0 0 1):=by unfold Ad;decide
    obtain ⟨y,hy⟩:∃ y,y=frm ⟨3,(gd all 0).Channel,0,t⟩ (A6u8.mk 2 0 0 0 0 1):=⟨_,rfl⟩
    have hwr:=wrap_ok hW a1.1
    have hA:Air (air ++ [y]) (sent ++ [⟨3,(gd all 0).Channel,0,t⟩]):=by rw [hy];exact I.fr.app (out:=[⟨3,(gd all 0).Channel,0,t⟩]) a1
    rw [← hy] at hwr
    clear hy
    have l10:yF (fun _:Unit=>F3_L10 l i now true all air (b,0)) ()=some (.inl (true,bif b then air ++ [y] else air)):=by
     refine xK ?_
     unfold F3_L10
     simp only [Int.toNat_natCast,ht]
     rw [zD i0,F11_ok,Option.bind_some,hwr,Option.bind_some,zD (uT.2 (by omega))]
     cases b<;>rfl
    rw [wE l10]
    cases b with
    | false=>exact ⟨_,rfl,.inl ⟨0,-1,all,air,stop,sent,rfl,.inl ⟨rfl,Int.le_refl _,I.mono (by omega)⟩⟩⟩
    | true=>exact ⟨_,rfl,.inl ⟨0,-1,all,_,stop,_,rfl,.inl ⟨rfl,Int.le_refl _,(I.step mt hbig (.say c hc ec (eb.1 rfl)) hA).mono (by omega)⟩⟩⟩
  ·rw [yO (c:=bEq _ 2) (by simp [yT,k2])]
   have l11:yF (fun _:Unit=>F3_L11 l i) ()=some (.inl ((bEq (gd l i).Kind 3 || bEq (gd l i).Kind 4) || bEq (gd l i).Kind 5)):=by
    refine xK ?_
    unfold F3_L11
    rw [Int.toNat_natCast]
    cases bEq (gd l i).Kind 3<;>cases bEq (gd l i).Kind 4<;>rfl
   rw [wE l11]
   by_cases k35:((gd l i).Kind=3 ∨ (gd l i).Kind=4) ∨ (gd l i).Kind=5
   ·rw [xS (c:=(bEq _ _ || bEq _ _) || bEq _ _) (by simpa [yT] using k35)]
    obtain ⟨f,la,q,l12⟩:∃ f la:Nat,(f <= la/\la <= 3)/\yF (fun _:Unit=>F3_L12 l i) ()=some (.inl ((f:Int),(la:Int))):=by
     by_cases k4:(gd l i).Kind=4
     ·obtain ⟨w,q,e⟩:=who3 l i hp
      refine ⟨w,w,⟨Nat.le_refl _,q.2⟩,xK ?_⟩
      unfold F3_L12
      rw [Int.toNat_natCast,xS (by simp [yT,k4]),e]
     ·refine ⟨0,3,by decide,xK ?_⟩
      unfold F3_L12
      rw [Int.toNat_natCast,yO (by simp [yT,k4])]
      rfl
    rw [wE l12]
    by_cases z:air.length=0
    ·rw [xS (c:=bEq _ 0) (by simp [yT];exact List.length_eq_zero_iff.1 z),Int.toNat_natCast,ht]
     exact ⟨_,rfl,.inr rfl⟩
    ·obtain ⟨j,j1,j2⟩:=md_in (n:=air.length) hp z
     have hj:j < sent.length:=by omega
     obtain ⟨a,ha,e⟩:=I.fr.2 j hj
     have hm:=vZ hj
     have un:=unwrap_ok (I.ce.wd _ hm).1 ha.1
     have h42:=frm_len (gd sent j) a
     rw [← e] at un h42
     clear e
     rw [yO (c:=bEq _ 0) (by simp [yT];exact fun h=>z (by rw [h];rfl)),zD (by simp [yT];exact fun h=>z (by rw [h];rfl))]
     simp only [Int.toNat_natCast,j2]
     rw [zD (xG j1),zD (uT.2 (by omega))]
     by_cases k5:(gd l i).Kind=5
     ·obtain ⟨y,l13,ey⟩:=L13_flip tb hn l i now t ht mt hbig K hK hp I k5 z la
      rw [wE l13,ey,Option.bind_some]
      have l14:yF (fun s=>jK l i now (-1) (⟨0,0,0,0⟩,false) s.1 s.2.1 s.2.2.1 s.2.2.2.1 s.2.2.2.2) (true,(f:Int),all,air,stop)=some (.inl (true,all,air,stop)):=by
       refine xK ?_
       show jK l i now (-1) (⟨0,0,0,0⟩,false) true (f:Int) all air stop=_
       unfold jK
       rw [yO (c:=bLe _ _ && true) (by simp [vB];omega)]
      simp only [k5]
      show ∃ b,lp (yF (fun s=>jK l i now (-1) (⟨0,0,0,0⟩,false) s.1 s.2.1 s.2.2.1 s.2.2.2.1 s.2.2.2.2) (true,(f:Int),all,air,stop)) _ _=_/\_
      rw [wE l14]
      exact ⟨_,rfl,.inl ⟨f,-1,all,air,stop,sent,rfl,.inl ⟨rfl,by omega,I.mono (by omega)⟩⟩⟩
     ·have l13:yF (fun _:Unit=>F3_L13 l i true air la) ()=some (.inl (true,(la:Int),gd air j)):=by
       refine xK ?_
       unfold F3_L13
       simp only [Int.toNat_natCast,j2]
       rw [yO (c:=bEq _ 5) (by simp [yT,k5])]
       rfl
      rw [wE l13,un,Option.bind_some]
      obtain ⟨_,l14,all',air',stop',sent',rfl,I'⟩:=L14_ok tb hn l i now t ht mt hbig K (by omega) hp (gd sent j) true f la q.1 q.2 hm I
      show ∃ b,lp (yF (fun s=>jK l i now la (gd sent j,true) s.1 s.2.1 s.2.2.1 s.2.2.2.1 s.2.2.2.2) (true,(f:Int),all,air,stop)) _ _=_/\_
      rw [wE l14]
      exact ⟨_,rfl,.inl ⟨f,-1,all',air',stop',sent',rfl,.inl ⟨rfl,by omega,I'⟩⟩⟩
   ·rw [yO (c:=(bEq _ _ || bEq _ _) || bEq _ _) (by
     cases hb:((bEq (gd l i).Kind 3 || bEq (gd l i).Kind 4) || bEq (gd l i).Kind 5) with
     | false=>rfl
     | true=>exact absurd (by simpa [yT] using hb) k35)]
    exact ⟨_,rfl,.inl ⟨0,3,all,air,stop,sent,rfl,.inr ⟨rfl,rfl,I⟩⟩⟩
end
theorem L2_ok {tb:List TRegulateChannel} (hn:NR tb) (l:List TMove) (hl:l.length <= 120) (hg:∀ j,j < l.length->(0 <= (gd l j).Wait/\(gd l j).Wait <= 1000000)/\0 <= (gd l j).N) (all:List TRegulate) (I:In tb 0 all [] [] [] 0) :
  yF (fun s=>F3_L2 l s.1 s.2.1 s.2.2.1 s.2.2.2.1 s.2.2.2.2.1 s.2.2.2.2.2) (0,0,true,all,[],[])=some (.inl true):=by
 suffices H:∃ b,yF (fun s=>F3_L2 l s.1 s.2.1 s.2.2.1 s.2.2.2.1 s.2.2.2.2.1 s.2.2.2.2.2) (0,0,true,all,[],[])=some b/\b = .inl true by
  obtain ⟨b,e,rfl⟩:=H
  exact e
 refine kG (step:=fun s=>F3_L2 l s.1 s.2.1 s.2.2.1 s.2.2.2.1 s.2.2.2.2.1 s.2.2.2.2.2) (fun s=>∃ i:Nat,s.1=i/\i <= l.length/\(0 <= s.2.1/\s.2.1 <= 1000000 * (i:Int))/\s.2.2.1=true/\∃ sent,In tb s.2.1 s.2.2.2.1 s.2.2.2.2.1 sent s.2.2.2.2.2 (4 * i))
  (fun b=>b = .inl true) (fun s=>(l.length - s.1).toNat) ?_ (0,0,true,all,[],[]) ⟨0,rfl,Nat.zero_le _,⟨Int.le_refl _,by simp⟩,rfl,[],I⟩
 rintro ⟨z,now,k,all,air,stop⟩ ⟨i,ei,hi,hb,ek,sent,I⟩
 simp only at ei hb ek I
 subst ei ek
 show (∃ b,F3_L2 l (i:Int) now true all air stop=some (.done b)/\_) ∨ ∃ s',F3_L2 l (i:Int) now true all air stop=some (.next s')/\_
 unfold F3_L2
 by_cases hlt:i < l.length
 ·obtain ⟨b1,b2⟩:=hg i hlt
  have ht:wr .i64 (now+(gd l i).Wait)=now+(gd l i).Wait:=uV (by omega)
  have mt:Mo (now+(gd l i).Wait):=by unfold Mo;omega
  have hm:((l.length:Int) - ((i+1:Nat):Int)).toNat < ((l.length:Int) - (i:Int)).toNat:=by omega
  have hb2:0 <= now+(gd l i).Wait/\now+(gd l i).Wait <= 1000000 * ((i+1:Nat):Int):=by omega
  rw [xS (c:=bLt _ _ && true) (by simp [yW];omega),zD (xG hlt)]
  obtain ⟨b,e,p⟩:=L3_is tb hn l i now _ ht mt (by omega) (4 * i) (by omega) b2 (I.le mt (by omega) (by omega))
  have e3:=xK (step:=fun _:Unit=>F3_L3 l i now true all air stop) (s:=()) e
  rcases p with ⟨f,la,all',air',stop',sent',rfl,p⟩|rfl
  ·rw [wE e3]
   obtain ⟨all2,air2,stop2,sent2,l19,I2⟩:∃ all2 air2 stop2 sent2,yF (fun s=>fR l i now la s.1 s.2.1 s.2.2.1 s.2.2.2.1 s.2.2.2.2) (true,f,all',air',stop')=some (.inl (true,all2,air2,stop2))/\In tb (now+(gd l i).Wait) all2 air2 sent2 stop2 (4 * i+4):=by
    rcases p with ⟨rfl,hf,I'⟩|⟨rfl,rfl,I'⟩
    ·refine ⟨all',air',stop',sent',xK ?_,I'⟩
     show fR l i now (-1) true f all' air' stop'=_
     unfold fR
     rw [yO (c:=bLe _ _ && true) (by simp [vB];omega)]
    ·obtain ⟨_,h,all2,air2,stop2,sent2,rfl,I2⟩:=L19_ok tb hn l i now _ ht mt (by omega) (4 * i) (by omega) I'
     exact ⟨all2,air2,stop2,sent2,h,I2⟩
   rw [wE l19,wE (L24_ok tb hn l i now _ ht mt (by omega) (4 * i+4) (by omega) I2),vA hlt (by omega),Int.toNat_natCast,ht]
   exact .inr ⟨_,rfl,⟨i+1,rfl,hlt,hb2,rfl,sent2,I2.mono (by omega)⟩,hm⟩
  ·rw [lp_inr e3,vA hlt (by omega)]
   exact .inr ⟨_,rfl,⟨i+1,rfl,hlt,hb2,rfl,sent,(I.le mt (by omega) (by omega)).mono (by omega)⟩,hm⟩
 ·rw [yO (c:=bLt _ _ && true) (by simp [yW];omega)]
  exact .inl ⟨_,rfl,rfl⟩
end Go.Proofs.YtooepgpfaaddbaaGreat
