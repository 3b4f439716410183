/-
  RootSettled: what holds at each time while announcements spread.
-/
import Derived.Test.YtdcepineppafpaaSA
namespace Go.Proofs.Ytdcepineppafpaa
open Go.Am
set_option linter.unusedVariables false
set_option linter.unusedSimpArgs false
def ky (L:List TRoots) (i:Nat):Option (Int × Int × Int):=if i=0 then some ((gd L 0).Seq,0,0) else (gd L i).Trees.head?.map fun t=>(t.Seq,t.Cost,t.Hops)
def le (s c:Int) (k:Int × Int × Int):Prop:=s < k.1 ∨ (s=k.1/\k.2.1 <= c)
def ex (s c h:Int) (k:Int × Int × Int):Prop:=s < k.1 ∨ (s=k.1/\(k.2.1 < c ∨ (k.2.1=c/\k.2.2=h)))
def up (k k':Int × Int × Int):Prop:=k=k' ∨ k.1 < k'.1 ∨ (k.1=k'.1/\k'.2.1 < k.2.1)
theorem le_up {s c:Int} {k k':Int × Int × Int} (h:up k k') (h1:le s c k):le s c k':=by
 rcases h with rfl|h
 ·exact h1
 ·unfold le at *;omega
theorem ex_up {s c l:Int} {k k':Int × Int × Int} (h:up k k') (h1:ex s c l k):ex s c l k':=by
 rcases h with rfl|h
 ·exact h1
 ·unfold ex at *;omega
def Up (L L':List TRoots):Prop:=∀ i k,ky L i=some k->∃ k',ky L' i=some k'/\up k k'
theorem Up_le {L L':List TRoots} (h:Up L L') {i:Nat} {s c:Int} (q:∃ y,ky L i=some y/\le s c y):∃ y,ky L' i=some y/\le s c y:=by
 obtain ⟨y,h1,h2⟩:=q
 obtain ⟨y',h3,h4⟩:=h i y h1
 exact ⟨y',h3,le_up h4 h2⟩
theorem Up_ex {L L':List TRoots} (h:Up L L') {i:Nat} {s c l:Int} (q:∃ y,ky L i=some y/\ex s c l y):∃ y,ky L' i=some y/\ex s c l y:=by
 obtain ⟨y,h1,h2⟩:=q
 obtain ⟨y',h3,h4⟩:=h i y h1
 exact ⟨y',h3,ex_up h4 h2⟩
def Mg (lk:Nat->Nat->Int) (L:List TRoots) (s0:Int) (x:Tmessage × List Nat):Prop:=∃ p k:Nat,x.1.from_=p/\x.1.to_=k/\p < 8/\k < 8/\p ≠ k/\0 < lk p k/\x.1.w.Root=nd 0/\(1 <= x.1.w.Seq/\x.1.w.Seq <= s0) /\
 (0 <= x.1.w.Cost/\x.1.w.Cost <= 1000000 * x.1.w.Hops)/\x.1.w.Hops+1=x.2.length/\x.2.Nodup/\(∀ q ∈ x.2,q < 8/\∃ y,ky L q=some y/\le x.1.w.Seq x.1.w.Cost y)/\p ∈ x.2/\(∃ y,ky L p=some y/\ex x.1.w.Seq x.1.w.Cost x.1.w.Hops y)
theorem Mg_up {lk:Nat->Nat->Int} {L L':List TRoots} {s s':Int} {x:Tmessage × List Nat} (h:Mg lk L s x) (u:Up L L') (hs:s <= s'):Mg lk L' s' x:=by
 obtain ⟨p,k,h1,h2,h3,h4,h5,h6,h7,h8,h9,h10,h11,h12,h13,h14⟩:=h
 exact ⟨p,k,h1,h2,h3,h4,h5,h6,h7,by omega,h9,h10,h11,fun q hq=>⟨(h12 q hq).1,Up_le u (h12 q hq).2⟩,h13,Up_ex u h14⟩
structure Lk (lk:Nat->Nat->Int):Prop where
 sym:∀ i k,lk i k=lk k i
 rng:∀ i k,0 <= lk i k/\lk i k <= 1000000
def Tr (lk:Nat->Nat->Int) (L:List TRoots) (s0:Int) (i:Nat) (t:TTree):Prop:=t.Seq <= s0/\∃ p:Nat,p < 8/\p ≠ i/\t.Parent=nd p/\0 < lk p i/\∃ y,ky L p=some y/\ex t.Seq (t.Cost - lk p i) (t.Hops - 1) y
structure Inv (lk:Nat->Nat->Int) (L:List TRoots) (M:List (Tmessage × List Nat)) (s0:Int):Prop where
 len:L.length=8
 s0r:0 <= s0/\s0 <= 5
 root:gd L 0=rt s0
 nod:∀ i,1 <= i->i < 8->Nd i (gd L i)
 tre:∀ i t,1 <= i->i < 8->(gd L i).Trees=[t]->Tr lk L s0 i t
 msg:∀ x ∈ M,Mg lk L s0 x
 cov:∀ (p k:Nat) y,p < 8->k < 8->1 <= k->p ≠ k->0 < lk p k->ky L p=some y->1 <= y.1->(∃ x ∈ M,x.1.from_=p/\x.1.to_=k/\x.1.w.Seq=y.1/\x.1.w.Cost=y.2.1) ∨ ∃ z,ky L k=some z/\le y.1 (y.2.1+lk p k) z
theorem ky_0 {L:List TRoots}:ky L 0=some ((gd L 0).Seq,0,0):=by simp [ky]
theorem ky_one {L:List TRoots} {i:Nat} {t:TTree} (h0:1 <= i) (h:(gd L i).Trees=[t]):ky L i=some (t.Seq,t.Cost,t.Hops):=by
 unfold ky;rw [if_neg (by omega),h];rfl
theorem ky_nil {L:List TRoots} {i:Nat} (h0:1 <= i) (h:(gd L i).Trees=[]):ky L i=none:=by
 unfold ky;rw [if_neg (by omega),h];rfl
theorem ky_ne {L:List TRoots} {i k:Nat} {r:TRoots} (h:i ≠ k) (hk:1 <= k):ky (L.set k r) i=ky L i:=by
 unfold ky;rw [vB (Ne.symm h),vB (by omega)]
def snd (lk:Nat->Nat->Int) (p:Nat) (w:TRootWord):List Tmessage:=((List.range 8).filter fun k=>decide (0 < lk p k/\k ≠ p)).map fun (k:Nat)=>Tmessage.mk k p w
def sndQ (lk:Nat->Nat->Int) (p:Nat) (w:TRootWord) (Q:List Nat):List (Tmessage × List Nat):=((List.range 8).filter fun k=>decide (0 < lk p k/\k ≠ p)).map fun (k:Nat)=>(Tmessage.mk k p w,Q)
theorem sndQ_fst (lk:Nat->Nat->Int) (p:Nat) (w:TRootWord) (Q:List Nat):(sndQ lk p w Q).map Prod.fst=snd lk p w:=by simp [sndQ,snd]
theorem eW {lk:Nat->Nat->Int} {p:Nat} {w:TRootWord} {Q:List Nat} {x:Tmessage × List Nat}:x ∈ sndQ lk p w Q ↔ ∃ k:Nat,k < 8/\0 < lk p k/\k ≠ p/\x=(Tmessage.mk k p w,Q):=by
 simp only [sndQ,List.mem_map,List.mem_filter,List.mem_range,decide_eq_true_eq]
 constructor
 ·rintro ⟨k,⟨h1,h2,h3⟩,rfl⟩;exact ⟨k,h1,h2,h3,rfl⟩
 ·rintro ⟨k,h1,h2,h3,rfl⟩;exact ⟨k,⟨h1,h2,h3⟩,rfl⟩
theorem nodup_lt:∀ (n:Nat) (Q:List Nat),Q.Nodup->(∀ q ∈ Q,q < n)->Q.length <= n
 | 0,[],_,_=>Nat.le_refl _
 | 0,q::Q,_,h=>absurd (h q (by simp)) (by omega)
 | n+1,Q,h,hq=>by
  by_cases hn:n ∈ Q
  ·have h1:=nodup_lt n (Q.erase n) (h.erase n) fun q hq'=>by
    have:=(h.mem_erase_iff).1 hq'
    have:=hq q this.2
    omega
   have h2:=List.length_erase_of_mem hn
   have h3:=List.length_pos_of_mem hn
   omega
  ·have:=nodup_lt n Q h fun q hq'=>by
    have:=hq q hq'
    have:q ≠ n:=fun e=>hn (e ▸ hq')
    omega
   omega
theorem dG {Q:List Nat} (h:Q.Nodup) (hq:∀ q ∈ Q,q < 8):Q.length <= 8:=nodup_lt 8 Q h hq
theorem inv_up {lk:Nat->Nat->Int} {L L':List TRoots} {s0 s1:Int} (u:Up L L') (hs:s0 <= s1) {i:Nat} {t:TTree} (h:Tr lk L s0 i t):Tr lk L' s1 i t:=by
 obtain ⟨h1,p,h2,h3,h4,h5,h6⟩:=h
 exact ⟨by omega,p,h2,h3,h4,h5,Up_ex u h6⟩
theorem inv_ann {lk:Nat->Nat->Int} {L:List TRoots} {M:List (Tmessage × List Nat)} {s0:Int} (l:Lk lk) (I:Inv lk L M s0) (hs:s0 < 5) :
  Inv lk (L.set 0 (rt (s0+1))) (M ++ sndQ lk 0 (TRootWord.mk (nd 0) (s0+1) 0 0 false) [0]) (s0+1):=by
 have e0:ky (L.set 0 (rt (s0+1))) 0=some (s0+1,0,0):=by rw [ky_0,uS (by rw [I.len];omega)];rfl
 have e1:∀ i,i ≠ 0->ky (L.set 0 (rt (s0+1))) i=ky L i:=fun i hi=>by unfold ky;rw [if_neg hi,if_neg hi,vB (by omega)]
 have e2:∀ i,i ≠ 0->gd (L.set 0 (rt (s0+1))) i=gd L i:=fun i hi=>vB (by omega)
 have u:Up L (L.set 0 (rt (s0+1))):=fun i k h=>by
  by_cases hi:i=0
  ·subst hi
   refine ⟨_,e0,.inr (.inl ?_)⟩
   rw [ky_0,I.root] at h
   cases h
   show s0 < s0+1;omega
  ·exact ⟨k,by rw [e1 i hi];exact h,.inl rfl⟩
 have s0r:=I.s0r
 refine ⟨by rw [List.length_set];exact I.len,by omega,uS (by rw [I.len];omega),fun i h1 h2=>by rw [e2 i (by omega)];exact I.nod i h1 h2,fun i t h1 h2 h=>?_,fun x hx=>?_,fun p k y h1 h2 h3 h4 h5 h6 h7=>?_⟩
 ·rw [e2 i (by omega)] at h
  exact inv_up u (by omega) (I.tre i t h1 h2 h)
 ·rcases List.mem_append.1 hx with hx|hx
  ·exact Mg_up (I.msg x hx) u (by omega)
  ·obtain ⟨k,h1,h2,h3,rfl⟩:=eW.1 hx
   refine ⟨0,k,rfl,rfl,by omega,h1,Ne.symm h3,h2,rfl,by simp only;omega,by simp,by simp,by simp,fun q hq=>?_,by simp,⟨_,e0,.inr ⟨rfl,.inr ⟨rfl,rfl⟩⟩⟩⟩
   rw [List.mem_singleton.1 hq]
   exact ⟨by omega,_,e0,.inr ⟨rfl,Int.le_refl _⟩⟩
 ·by_cases hp:p=0
  ·subst hp
   rw [e0] at h6
   cases h6
   exact .inl ⟨_,List.mem_append_right _ (eW.2 ⟨k,h2,h5,by omega,rfl⟩),rfl,rfl,rfl,rfl⟩
  ·rw [e1 p hp] at h6
   rw [e1 k (by omega)]
   rcases I.cov p k y h1 h2 h3 h4 h5 h6 h7 with ⟨x,hx,q⟩|q
   ·exact .inl ⟨x,List.mem_append_left _ hx,q⟩
   ·exact .inr q
theorem inv_drop {lk:Nat->Nat->Int} {L:List TRoots} {A B:List (Tmessage × List Nat)} {x:Tmessage × List Nat} {s0:Int} (I:Inv lk L (A ++ x::B) s0)
  (h:∀ p k:Nat,x.1.from_=p->x.1.to_=k->1 <= k->∃ z,ky L k=some z/\le x.1.w.Seq (x.1.w.Cost+lk p k) z):Inv lk L (A ++ B) s0:=by
 refine ⟨I.len,I.s0r,I.root,I.nod,I.tre,fun y hy=>I.msg y ?_,fun p k y h1 h2 h3 h4 h5 h6 h7=>?_⟩
 ·rcases List.mem_append.1 hy with hy|hy
  ·exact List.mem_append_left _ hy
  ·exact List.mem_append_right _ (List.mem_cons_of_mem _ hy)
 ·rcases I.cov p k y h1 h2 h3 h4 h5 h6 h7 with ⟨x',hx,q1,q2,q3,q4⟩|q
  ·rcases List.mem_append.1 hx with hx|hx
   ·exact .inl ⟨x',List.mem_append_left _ hx,q1,q2,q3,q4⟩
   ·rcases List.mem_cons.1 hx with rfl|hx
    ·refine .inr ?_
     rw [← q3,← q4]
     exact h p k q1 q2 h3
    ·exact .inl ⟨x',List.mem_append_right _ hx,q1,q2,q3,q4⟩
  ·exact .inr q
theorem inv_take {lk:Nat->Nat->Int} {L:List TRoots} {A B:List (Tmessage × List Nat)} {x:Tmessage × List Nat} {s0 now:Int} (l:Lk lk) (I:Inv lk L (A ++ x::B) s0) (p k:Nat) (hp:x.1.from_=p) (hk:x.1.to_=k) (h1k:1 <= k) (v:TRoots)
  (hv:Nd k v) (hT:v.Trees=[nT x.1.w (nd p) (lk p k) now])
  (hb:∀ y,ky L k=some y->y.1 < x.1.w.Seq ∨ (x.1.w.Seq=y.1/\x.1.w.Cost+lk p k < y.2.1)):k ∉ x.2 /\
  Inv lk (L.set k v) ((A ++ B) ++ sndQ lk k (nW x.1.w (lk p k)) (x.2 ++ [k])) s0:=by
 have hin:∀ y,y ∈ A ++ B->y ∈ A ++ x::B:=fun y hy=>by
  rcases List.mem_append.1 hy with hy|hy
  ·exact List.mem_append_left _ hy
  ·exact List.mem_append_right _ (List.mem_cons_of_mem _ hy)
 obtain ⟨p',k',m1,m2,m3,m4,m5,m6,m7,m8,m9,m10,m11,m12,m13,m14⟩:=I.msg x (by simp)
 obtain rfl:p'=p:=by omega
 obtain rfl:k'=k:=by omega
 have hn:k' ∉ x.2:=fun hq=>by
  obtain ⟨_,y,y1,y2⟩:=m12 k' hq
  have:=hb y y1
  unfold le at y2;omega
 refine ⟨hn,?_⟩
 have ek:ky (L.set k' v) k'=some (x.1.w.Seq,x.1.w.Cost+lk p' k',x.1.w.Hops+1):=ky_one (t:=nT x.1.w (nd p') (lk p' k') now) h1k (by rw [uS (by rw [I.len];omega)];exact hT)
 have en:∀ i,i ≠ k'->ky (L.set k' v) i=ky L i:=fun i hi=>ky_ne hi h1k
 have u:Up L (L.set k' v):=fun i y h=>by
  by_cases hi:i=k'
  ·subst hi
   refine ⟨_,ek,?_⟩
   have:=hb y h
   unfold up;simp only;omega
  ·exact ⟨y,by rw [en i hi];exact h,.inl rfl⟩
 have lr:=l.rng p' k'
 have hml:=dG m11 fun q hq=>(m12 q hq).1
 refine ⟨by rw [List.length_set];exact I.len,I.s0r,by rw [vB (by omega)];exact I.root,fun i h1 h2=>?_,fun i t h1 h2 h=>?_,fun y hy=>?_,fun a b y h1 h2 h3 h4 h5 h6 h7=>?_⟩
 ·by_cases hi:i=k'
  ·subst hi;rw [uS (by rw [I.len];omega)];exact hv
  ·rw [vB (Ne.symm hi)];exact I.nod i h1 h2
 ·by_cases hi:i=k'
  ·subst hi
   rw [uS (by rw [I.len];omega),hT] at h
   cases h
   refine ⟨m8.2,p',m3,m5,rfl,m6,?_⟩
   rw [en p' m5]
   obtain ⟨y,y1,y2⟩:=m14
   refine ⟨y,y1,?_⟩
   simp only [nT,Int.add_sub_cancel]
   exact y2
  ·rw [vB (Ne.symm hi)] at h
   exact inv_up u (Int.le_refl _) (I.tre i t h1 h2 h)
 ·rcases List.mem_append.1 hy with hy|hy
  ·exact Mg_up (I.msg y (hin y hy)) u (Int.le_refl _)
  ·obtain ⟨j,j1,j2,j3,rfl⟩:=eW.1 hy
   refine ⟨k',j,rfl,rfl,m4,j1,Ne.symm j3,j2,m7,m8,by simp only [nW];omega,by simp only [nW,List.length_append,List.length_singleton];omega,?_,fun q hq=>?_,by simp,⟨_,ek,.inr ⟨rfl,.inr ⟨rfl,rfl⟩⟩⟩⟩
   ·refine List.nodup_append.2 ⟨m11,by simp,fun a ha b hb'=>?_⟩
    rw [List.mem_singleton.1 hb']
    rintro rfl
    exact hn ha
   ·rcases List.mem_append.1 hq with hq|hq
    ·refine ⟨(m12 q hq).1,Up_le u ?_⟩
     obtain ⟨y,y1,y2⟩:=(m12 q hq).2
     refine ⟨y,y1,?_⟩
     unfold le at *
     simp only [nW];omega
    ·rw [List.mem_singleton.1 hq]
     exact ⟨m4,_,ek,.inr ⟨rfl,Int.le_refl _⟩⟩
 ·by_cases ha:a=k'
  ·subst ha
   rw [ek] at h6
   cases h6
   exact .inl ⟨_,List.mem_append_right _ (eW.2 ⟨b,h2,h5,Ne.symm h4,rfl⟩),rfl,rfl,rfl,rfl⟩
  ·rw [en a ha] at h6
   rcases I.cov a b y h1 h2 h3 h4 h5 h6 h7 with ⟨x',hx,q1,q2,q3,q4⟩|q
   ·rcases List.mem_append.1 hx with hx|hx
    ·exact .inl ⟨x',List.mem_append_left _ (List.mem_append_left _ hx),q1,q2,q3,q4⟩
    ·rcases List.mem_cons.1 hx with rfl|hx
     ·obtain rfl:a=p':=by omega
      obtain rfl:b=k':=by omega
      refine .inr ⟨_,ek,.inr ⟨q3.symm,?_⟩⟩
      simp only;omega
     ·exact .inl ⟨x',List.mem_append_left _ (List.mem_append_right _ hx),q1,q2,q3,q4⟩
   ·exact .inr (Up_le u q)
end Go.Proofs.Ytdcepineppafpaa
