/-
  Regulate: which tables and states are valid; Check, begin, and the reference's Valid.
-/
import Derived.Test.YtooepgpfaaddbaaGreatQA
namespace Go.Proofs.YtooepgpfaaddbaaGreat
open Go.Am
set_option linter.unusedVariables false
set_option linter.unusedSimpArgs false
theorem and_gen {R:Type} {step:Bool × Int->Option (Lp (Bool × Int) (Bool ⊕ R))} (n:Nat) (c:Bool) (P:Nat->Prop)
  (hs:∀ (v:Bool) (i:Nat),i < n->(v=true->c=true)->∃ b,step (v,i)=some (.next (b,((i+1:Nat):Int)))/\(b=true ↔ v=true/\P i)) (he:∀ v,step (v,n)=some (.done (.inl v))) :
  ∃ b,yF step (c,0)=some (.inl b)/\(b=true ↔ c=true/\∀ i,i < n->P i):=by
 obtain ⟨r,l1,b,rfl,l2⟩:=kG (step:=step) (fun s=>∃ (v:Bool) (i:Nat),s=(v,(i:Int))/\i <= n/\(v=true ↔ c=true/\∀ j,j < i->P j)) (fun r=>∃ b,r = .inl b/\(b=true ↔ c=true/\∀ i,i < n->P i)) (fun s=>(n - s.2).toNat)
  (fun s hS=>by
   obtain ⟨v,i,rfl,hi,hv⟩:=hS
   rcases Nat.lt_or_ge i n with h|h
   ·obtain ⟨b,b1,b2⟩:=hs v i h (fun q=>(hv.1 q).1)
    refine .inr ⟨_,b1,⟨b,i+1,rfl,by omega,b2.trans ⟨fun q=>⟨(hv.1 q.1).1,fun j hj=>?_⟩,fun q=>⟨hv.2 ⟨q.1,fun j hj=>q.2 j (by omega)⟩,q.2 i (by omega)⟩⟩⟩,by simp only;omega⟩
    rcases Nat.lt_or_eq_of_le (Nat.le_of_lt_succ hj) with h|rfl
    ·exact (hv.1 q.1).2 j h
    ·exact q.2
   ·obtain rfl:i=n:=by omega
    exact .inl ⟨_,he v,v,rfl,hv⟩) (c,0) ⟨c,0,rfl,by omega,⟨fun q=>⟨q,fun j hj=>absurd hj (by omega)⟩,fun q=>q.1⟩⟩
 exact ⟨b,l1,l2⟩
def Gr0 (s:TRegulate):Prop:=s.Table.length <= 40/\s.Blocked.length <= 40/\s.Clear.length <= 40
def Gr (s:TRegulate):Prop:=s.Table.length <= 1000/\s.Blocked.length <= 1000/\s.Clear.length <= 1000
theorem Gr_of {s:TRegulate} (h:Gr0 s):Gr s:=by unfold Gr0 at h;unfold Gr;omega
theorem F16_ok (l:List TRegulateChannel) (hl:l.length <= 1000):∃ b,F16 l=some b/\(b=true ↔ Vt l):=by
 have h1:∃ b,F35_0 l=some b/\(b=true ↔ ¬ ∀ q ∈ l,(1 <= q.Number/\q.Number <= 255)/\0 <= q.Max/\q.Max <= 400):=by
  unfold F35_0 F71_0
  rcases idx_gen l (fun q=>((((bLt q.Number 1) || (bLt 255 q.Number)) || (bLt q.Max 0)) || (bLt 400 q.Max))) F34 (by omega) (fun q _=>rfl) (step:=fun s=>F71_0_L1 l s) (fun s=>rfl) with ⟨h1,h2⟩|⟨i,h1,h2,h3⟩
  ·rw [h2]
   refine ⟨false,by rfl,⟨fun h=>absurd h (by decide),fun h=>absurd (fun q hq=>?_) h⟩⟩
   have:=h1 q hq
   simp only [yW,Bool.or_eq_false_iff,decide_eq_false_iff_not] at this
   omega
  ·rw [h3]
   refine ⟨true,by simp only [Option.bind_some];rw [show bLe 0 (i:Int)=true from by simp [vB]],⟨fun _ h=>?_,fun _=>rfl⟩⟩
   have:=h _ (vZ h1)
   simp only [yW,Bool.or_eq_true,decide_eq_true_eq] at h2
   omega
 have h2:∃ b,F36_0 l=some b/\(b=true ↔ Rc l):=by
  unfold F36_0
  exact rise_gen (fun q:TRegulateChannel=>q.Number) l F37 (by omega) (fun q _=>rfl) (step:=fun s=>F36_0_L1 l s) (fun s=>rfl)
 obtain ⟨b1,e1,c1⟩:=h1
 obtain ⟨b2,e2,c2⟩:=h2
 unfold F16
 rw [e1,e2]
 simp only [Option.isSome_some,Bool.cond_self,zD,zN]
 refine ⟨_,rfl,?_⟩
 simp only [Bool.and_eq_true,vB,decide_eq_true_eq,Bool.not_eq_true',Vt,← c2]
 cases b1 with
 | true=>have:=c1.1 rfl;simp [this]
 | false =>
  have:∀ q ∈ l,(1 <= q.Number/\q.Number <= 255)/\0 <= q.Max/\q.Max <= 400:=Classical.byContradiction fun h=>by have:=c1.2 h;cases this
  constructor
  ·intro h;exact ⟨by omega,this,h.2⟩
  ·intro h;exact ⟨⟨by omega,rfl⟩,h.2.2⟩
def Mo (t:Int):Prop:=0 <= t/\t <= 1099511627776
theorem F17_ok (t:Int):∃ b,F17 t=some b/\(b=false ↔ Mo t):=by
 refine ⟨_,rfl,?_⟩
 simp only [yW,Bool.or_eq_false_iff,decide_eq_false_iff_not,Mo]
 omega
theorem F80_ok (l:List TRegulateBlock) (hl:l.length <= 1000):∃ b,cO l=some b/\(b=true ↔ Rb l):=by
 unfold cO
 exact rise_gen (fun q:TRegulateBlock=>q.Channel) l F81 (by omega) (fun q _=>rfl) (step:=fun s=>F80_0_L1 l s) (fun s=>rfl)
theorem F82_ok (l:List Int) (hl:l.length <= 1000):∃ b,F82_0 l=some b/\(b=true ↔ Ri l):=by
 unfold F82_0
 exact rise_gen (fun q:Int=>q) l F83 (by omega) (fun q _=>rfl) (step:=fun s=>F82_0_L1 l s) (fun s=>rfl)
def Ht (s:TRegulate) (n:Int):Prop:=∃ q ∈ s.Table,q.Number=n
def Pb (s:TRegulate) (b:TRegulateBlock):Prop:=Ht s b.Channel/\Mo b.Until/\b.Channel ∉ s.Clear
def Pc (s:TRegulate) (n:Int):Prop:=∃ q ∈ s.Table,q.Number=n/\q.Radar=true
theorem L12 (s:TRegulate) (hg:Gr s) (c:Bool) (hc:c=true->Vt s.Table) :
  (lp (yF (fun e=>fS s e.1 e.2) (c,0)) (fun w=>lp (yF (fun e=>fT s e.1 e.2) (w,0)) (fun w2=>bif (!w2) then (some 8) else (some 0)) some) some:Option Int)=some 0/\(c=true/\(∀ b ∈ s.Blocked,Pb s b)/\∀ n ∈ s.Clear,Pc s n) ∨
  (lp (yF (fun e=>fS s e.1 e.2) (c,0)) (fun w=>lp (yF (fun e=>fT s e.1 e.2) (w,0)) (fun w2=>bif (!w2) then (some 8) else (some 0)) some) some:Option Int)=some 8/\¬ (c=true/\(∀ b ∈ s.Blocked,Pb s b)/\∀ n ∈ s.Clear,Pc s n):=by
 obtain ⟨g1,g2,g3⟩:=hg
 obtain ⟨b1,l1,p1⟩:=and_gen (step:=fun e=>fS s e.1 e.2) s.Blocked.length c (fun i=>Pb s (gd s.Blocked i)) (fun v i hi hv=>by
   show ∃ b,fS s v i=_/\_
   unfold fS
   rw [xS (c:=bLt _ _) (by simp [yW];omega),zD (xG hi),Int.toNat_natCast,vA hi (by omega)]
   cases v with
   | false=>exact ⟨false,by rfl,by simp⟩
   | true =>
    obtain ⟨t1,t2,t3⟩:=hc (hv rfl)
    obtain ⟨h,h1,h2⟩:=F18_ok s.Table (gd s.Blocked i).Channel (by omega) t3
    obtain ⟨m,m1,m2⟩:=F17_ok (gd s.Blocked i).Until
    obtain ⟨k,k1,k2⟩:=F53_ok s.Clear (gd s.Blocked i).Channel (by omega)
    rw [h1,m1,k1]
    simp only [Option.isSome_some,Bool.cond_self,zD,zN]
    refine ⟨_,rfl,?_⟩
    unfold Pb Ht
    rw [← h2,← m2,← k2]
    cases h<;>cases m<;>cases k<;>simp)
  (fun v=>by show fS s v _=_;unfold fS;rw [yO (by simp [yW])])
 obtain ⟨b2,l2,p2⟩:=and_gen (step:=fun e=>fT s e.1 e.2) s.Clear.length b1 (fun i=>Pc s (gd s.Clear i)) (fun v i hi hv=>by
   show ∃ b,fT s v i=_/\_
   unfold fT
   rw [xS (c:=bLt _ _) (by simp [yW];omega),zD (xG hi),Int.toNat_natCast,vA hi (by omega)]
   cases v with
   | false=>exact ⟨false,by rfl,by simp⟩
   | true =>
    obtain ⟨t1,t2,t3⟩:=hc (p1.1 (hv rfl)).1
    obtain ⟨h,h1,h2⟩:=F18_ok s.Table (gd s.Clear i) (by omega) t3
    rw [h1]
    cases h with
    | false =>
     refine ⟨false,by rfl,⟨fun q=>absurd q (by decide),fun q=>?_⟩⟩
     obtain ⟨q,hq,e,_⟩:=q.2
     have:=h2.2 ⟨q,hq,e⟩
     cases this
    | true =>
     obtain ⟨q,hq,e⟩:=h2.1 rfl
     rw [← e,F24_ok s.Table q (by omega) t3 hq]
     simp only [Option.isSome_some,Bool.cond_self,zD,zN]
     refine ⟨_,rfl,⟨fun r=>⟨by simp,q,hq,rfl,by simpa using r⟩,fun r=>?_⟩⟩
     obtain ⟨q',hq',e',r'⟩:=r.2
     rw [key_inj (k:=fun q:TRegulateChannel=>q.Number) t3 hq' hq e'] at r'
     simpa using r')
  (fun v=>by show fT s v _=_;unfold fT;rw [yO (by simp [yW])])
 have hb:b2=true ↔ (c=true/\(∀ b ∈ s.Blocked,Pb s b)/\∀ n ∈ s.Clear,Pc s n):=by
  rw [p2,p1]
  constructor
  ·rintro ⟨⟨h1,h2⟩,h3⟩
   refine ⟨h1,fun b hb=>?_,fun n hn=>?_⟩
   ·obtain ⟨i,hi,rfl⟩:=mem_gd hb;exact h2 i hi
   ·obtain ⟨i,hi,rfl⟩:=mem_gd hn;exact h3 i hi
  ·rintro ⟨h1,h2,h3⟩
   exact ⟨⟨h1,fun i hi=>h2 _ (vZ hi)⟩,fun i hi=>h3 _ (vZ hi)⟩
 rw [wE l1,wE l2,← hb]
 cases b2
 ·exact .inr ⟨rfl,by simp⟩
 ·exact .inl ⟨rfl,rfl⟩
def Vs (s:TRegulate):Prop:=Vt s.Table/\Ht s s.Channel/\Mo s.Heard/\Mo s.At/\(s.Lead=true->s.Heard=0)/\(s.Moving=true->s.Stopped=true/\Ht s s.To)/\(s.Moving=false->s.To=0/\s.At=0)/\Rb s.Blocked/\Ri s.Clear/\(∀ b ∈ s.Blocked,Pb s b)/\∀ n ∈ s.Clear,Pc s n
theorem F46_ok (s:TRegulate) (hg:Gr s):(Vs s/\F46 s=some 0) ∨ (¬ Vs s/\F46 s=some 8):=by
 have hg':=hg
 obtain ⟨g1,g2,g3⟩:=hg'
 obtain ⟨r1,e1,c1⟩:=F16_ok s.Table g1
 obtain ⟨bh,eh,ch⟩:=F17_ok s.Heard
 obtain ⟨ba,ea,ca⟩:=F17_ok s.At
 obtain ⟨bb,eb,cb⟩:=F80_ok s.Blocked g2
 obtain ⟨bc,ec,cc⟩:=F82_ok s.Clear g3
 have e34:(fun e:Bool × Int=>F46_L3 s e.1 e.2)=fun e=>fS s e.1 e.2:=rfl
 have e35:(fun e:Bool × Int=>F46_L4 s e.1 e.2)=fun e=>fT s e.1 e.2:=rfl
 unfold F46
 rw [e1,Option.bind_some,eh,ea,eb,ec,e34,e35]
 cases r1 with
 | false =>
  simp only [Bool.false_and,cond_false,zD]
  have:=L12 s hg false (fun h=>by cases h)
  have hv:¬ Vs s:=fun h=>by have:=c1.2 h.1;cases this
  rcases this with ⟨_,h,_⟩|⟨h,_⟩
  ·cases h
  ·refine .inr ⟨hv,?_⟩
   cases s.Moving<;>exact h
 | true =>
  obtain ⟨t1,t2,t3⟩:=c1.1 rfl
  obtain ⟨w1,w2,w3⟩:=F18_ok s.Table s.Channel (by omega) t3
  obtain ⟨x1,x2,x3⟩:=F18_ok s.Table s.To (by omega) t3
  rw [w2,x2]
  simp only [Option.isSome_some,Bool.cond_self,zD,zN,Bool.true_and]
  have hB:∀ c:Bool,(c=true ↔ Vt s.Table/\Ht s s.Channel/\Mo s.Heard/\Mo s.At/\(s.Lead=true->s.Heard=0)/\(s.Moving=true->s.Stopped=true/\Ht s s.To)/\(s.Moving=false->s.To=0/\s.At=0)/\Rb s.Blocked/\Ri s.Clear)->∀ o,(o=some 0/\(c=true/\(∀ b ∈ s.Blocked,Pb s b)/\∀ n ∈ s.Clear,Pc s n) ∨ o=some 8/\¬ (c=true/\(∀ b ∈ s.Blocked,Pb s b)/\∀ n ∈ s.Clear,Pc s n))->(Vs s/\o=some 0) ∨ (¬ Vs s/\o=some (8:Int)):=by
   intro c hc o ho
   have:Vs s ↔ (c=true/\(∀ b ∈ s.Blocked,Pb s b)/\∀ n ∈ s.Clear,Pc s n):=by
    rw [hc]
    unfold Vs
    simp only [and_assoc]
   rw [this]
   rcases ho with ⟨a,b⟩|⟨a,b⟩
   ·exact .inl ⟨b,a⟩
   ·exact .inr ⟨b,a⟩
  have hV:Vt s.Table:=c1.1 rfl
  have hL2:((!s.Lead) || decide (s.Heard=0))=true ↔ (s.Lead=true->s.Heard=0):=by cases s.Lead<;>simp
  have hL:((!s.Lead) || (bEq s.Heard 0))=true ↔ (s.Lead=true->s.Heard=0):=by cases s.Lead<;>simp [yT]
  cases hm:s.Moving with
  | true =>
   simp only [cond_true]
   refine hB _ ?_ _ (L12 s hg _ fun _=>hV)
   rw [hm]
   simp only [Bool.and_eq_true,Bool.not_eq_true',ch,ca,w3,x3,cb,cc,hL,hL2,hV,true_and,Ht,and_assoc,Bool.true_eq_false,false_implies,reduceCtorEq,forall_const]
  | false =>
   simp only [cond_false]
   refine hB _ ?_ _ (L12 s hg _ fun _=>hV)
   rw [hm]
   simp only [Bool.and_eq_true,Bool.not_eq_true',ch,ca,w3,x3,cb,cc,hL,hL2,hV,true_and,Ht,and_assoc,yT,decide_eq_true_eq,Bool.false_eq_true,false_implies,reduceCtorEq,forall_const]
theorem F22_ok (s:TRegulate) (t p:Int) (hg:Gr s):(¬ Vs s/\F22 s t p=some (none,8)) ∨ (Vs s/\¬ (Mo t/\0 <= p)/\F22 s t p=some (none,2)) ∨ (Vs s/\Mo t/\0 <= p/\F22 s t p=some (some s,0)):=by
 unfold F22
 rcases F46_ok s hg with ⟨h,e⟩|⟨h,e⟩
 ·refine .inr ?_
  obtain ⟨b,e2,c2⟩:=F17_ok t
  rw [e,Option.bind_some,yO (by decide),e2,Option.bind_some]
  obtain ⟨g1,g2,g3⟩:=hg
  cases b with
  | true=>exact .inl ⟨h,fun q=>(by have:=c2.2 q.1;cases this),rfl⟩
  | false =>
   by_cases hp:0 <= p
   ·refine .inr ⟨h,c2.1 rfl,hp,?_⟩
    rw [yO (by simp [yW];omega)]
    unfold F15 F47 F48
    rw [zD (by simp [capb];omega),zD (by simp [capb];omega),zD (by simp [capb];omega)]
    rfl
   ·exact .inl ⟨h,fun q=>hp q.2,by rw [xS (by simp [yW];omega)]⟩
 ·exact .inl ⟨h,by rw [e];rfl⟩
end Go.Proofs.YtooepgpfaaddbaaGreat
