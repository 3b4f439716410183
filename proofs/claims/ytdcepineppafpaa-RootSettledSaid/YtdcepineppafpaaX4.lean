/-
  Root: addresses as numbers, valid states, copies, equal states.
-/
import Derived.Test.YtdcepineppafpaaY7
import Derived.Test.YtdcepineppafpaaLK
namespace Go.Proofs.Ytdcepineppafpaa
open Go.Am
set_option linter.unusedVariables false
set_option linter.unusedSimpArgs false
def Ab (a:A6u8):Prop:=(0 <= a.x0/\a.x0 <= 255)/\(0 <= a.x1/\a.x1 <= 255)/\(0 <= a.x2/\a.x2 <= 255)/\(0 <= a.x3/\a.x3 <= 255)/\(0 <= a.x4/\a.x4 <= 255)/\(0 <= a.x5/\a.x5 <= 255)
def nA (a:A6u8):Int:=((((a.x0 * 256+a.x1) * 256+a.x2) * 256+a.x3) * 256+a.x4) * 256+a.x5
theorem Ab_u8 {a:A6u8} (h:Ab a):u8A [a.x0,a.x1,a.x2,a.x3,a.x4,a.x5]=true:=by
 unfold Ab at h
 refine u8A_iff.2 fun q hq=>?_
 simp only [List.mem_cons,List.not_mem_nil,or_false] at hq
 rcases hq with rfl|rfl|rfl|rfl|rfl|rfl<;>omega
theorem nA_inj {a b:A6u8} (ha:Ab a) (hb:Ab b) (h:nA a=nA b):a=b:=by
 obtain ⟨a0,a1,a2,a3,a4,a5⟩:=a
 obtain ⟨b0,b1,b2,b3,b4,b5⟩:=b
 simp only [Ab,nA] at ha hb h
 have e5:a5=b5:=by omega
 have e4:a4=b4:=by omega
 have e3:a3=b3:=by omega
 have e2:a2=b2:=by omega
 have e1:a1=b1:=by omega
 have e0:a0=b0:=by omega
 subst e0 e1 e2 e3 e4 e5
 rfl
theorem cmp_eq {x y:Int} (l m:List Int) (h:x=y):cmpL (x::l) (y::m)=cmpL l m:=by
 subst h;simp only [cmpL,Int.lt_irrefl,if_false]
theorem cmp_lt {x y:Int} (l m:List Int) (h:x < y):cmpL (x::l) (y::m) = -1:=by simp only [cmpL,if_pos h]
theorem cmp_gt {x y:Int} (l m:List Int) (h:y < x):cmpL (x::l) (y::m)=1:=by
 have h2:¬ x < y:=by omega
 simp only [cmpL,if_neg h2,if_pos h]
def Cp (k x y:Int):Prop:=(k < 0/\x < y) ∨ (k=0/\x=y) ∨ (0 < k/\y < x)
theorem F72_ok (a b:A6u8) (ha:Ab a) (hb:Ab b):∃ k,F72 a b=some k/\Cp k (nA a) (nA b):=by
 unfold F72 F94
 rw [zJ (Ab_u8 ha),zJ (Ab_u8 hb),Option.bind_some]
 refine ⟨_,rfl,?_⟩
 unfold Ab at ha hb
 unfold Cp
 rcases Int.lt_trichotomy a.x0 b.x0 with h0|h0|h0
 ·rw [cmp_lt _ _ h0];exact .inl ⟨by decide,by unfold nA;omega⟩
 ·rw [cmp_eq _ _ h0]
  rcases Int.lt_trichotomy a.x1 b.x1 with h1|h1|h1
  ·rw [cmp_lt _ _ h1];exact .inl ⟨by decide,by unfold nA;omega⟩
  ·rw [cmp_eq _ _ h1]
   rcases Int.lt_trichotomy a.x2 b.x2 with h2|h2|h2
   ·rw [cmp_lt _ _ h2];exact .inl ⟨by decide,by unfold nA;omega⟩
   ·rw [cmp_eq _ _ h2]
    rcases Int.lt_trichotomy a.x3 b.x3 with h3|h3|h3
    ·rw [cmp_lt _ _ h3];exact .inl ⟨by decide,by unfold nA;omega⟩
    ·rw [cmp_eq _ _ h3]
     rcases Int.lt_trichotomy a.x4 b.x4 with h4|h4|h4
     ·rw [cmp_lt _ _ h4];exact .inl ⟨by decide,by unfold nA;omega⟩
     ·rw [cmp_eq _ _ h4]
      rcases Int.lt_trichotomy a.x5 b.x5 with h5|h5|h5
      ·rw [cmp_lt _ _ h5];exact .inl ⟨by decide,by unfold nA;omega⟩
      ·rw [cmp_eq _ _ h5];exact .inr (.inl ⟨by simp [cmpL],by unfold nA;omega⟩)
      ·rw [cmp_gt _ _ h5];exact .inr (.inr ⟨by decide,by unfold nA;omega⟩)
     ·rw [cmp_gt _ _ h4];exact .inr (.inr ⟨by decide,by unfold nA;omega⟩)
    ·rw [cmp_gt _ _ h3];exact .inr (.inr ⟨by decide,by unfold nA;omega⟩)
   ·rw [cmp_gt _ _ h2];exact .inr (.inr ⟨by decide,by unfold nA;omega⟩)
  ·rw [cmp_gt _ _ h1];exact .inr (.inr ⟨by decide,by unfold nA;omega⟩)
 ·rw [cmp_gt _ _ h0];exact .inr (.inr ⟨by decide,by unfold nA;omega⟩)
def ae (x a:A6u8):Bool:=(bEq x.x0 a.x0 && (bEq x.x1 a.x1 && (bEq x.x2 a.x2 && (bEq x.x3 a.x3 && (bEq x.x4 a.x4 && (bEq x.x5 a.x5))))))
theorem ae_def (x a:A6u8):(bEq x.x0 a.x0 && (bEq x.x1 a.x1 && (bEq x.x2 a.x2 && (bEq x.x3 a.x3 && (bEq x.x4 a.x4 && (bEq x.x5 a.x5))))))=ae x a:=rfl
theorem cC {x a:A6u8}:ae x a=true ↔ x=a:=by
 obtain ⟨x0,x1,x2,x3,x4,x5⟩:=x
 obtain ⟨a0,a1,a2,a3,a4,a5⟩:=a
 simp [ae,xV]
theorem dR {x a:A6u8}:ae x a=false ↔ x ≠ a:=by
 refine ⟨fun h e=>?_,fun h=>?_⟩
 ·rw [cC.2 e] at h;cases h
 ·cases q:ae x a with
  | false=>rfl
  | true=>exact absurd (cC.1 q) h
theorem pre_nat {i n:Nat} (hi:i < n) (hn:n <= 1000) (h0:0 < i):wr .i64 ((i:Int) - 1)=((i - 1:Nat):Int):=by rw [kB (by omega)];omega
def Vt (own:A6u8) (t:TTree):Prop:=(1 <= t.Seq/\t.Seq <= 2147483647)/\(1 <= t.Hops/\t.Hops <= 16)/\(1 <= t.Cost/\t.Cost <= 1099511627776)/\(0 <= t.Until/\t.Until <= 1099516627776)/\t.Root ≠ own/\t.Parent ≠ own
def Vh (r:TRoots):Prop:=¬ (r.Gate=true/\r.Root=false)/\(0 <= r.Seq/\r.Seq <= 2147483647)/\r.Trees.length <= 8/\r.Proxies.length <= 64
def Pt (r:TRoots) (i:Nat):Prop:=Vt r.Own (gd r.Trees i)/\(0 < i->nA (gd r.Trees (i - 1)).Root < nA (gd r.Trees i).Root)
def Pp (r:TRoots) (i:Nat):Prop:=(0 <= (gd r.Proxies i).Until/\(gd r.Proxies i).Until <= 1099520627776)/\(0 < i->nA (gd r.Proxies (i - 1)).Out < nA (gd r.Proxies i).Out)
def Vr (r:TRoots):Prop:=Vh r/\(∀ i,i < r.Trees.length->Pt r i)/\∀ i,i < r.Proxies.length->Pp r i
def Abr (r:TRoots):Prop:=Ab r.Own/\(∀ i:Nat,i < r.Trees.length->Ab (gd r.Trees i).Root/\Ab (gd r.Trees i).Parent)/\∀ i:Nat,i < r.Proxies.length->Ab (gd r.Proxies i).Out/\Ab (gd r.Proxies i).Via
theorem F34_ok (r:TRoots) (hb:Abr r):(Vr r/\F34 r=some 0) ∨ (¬ Vr r/\F34 r=some 8):=by
 unfold F34 F57
 simp only [Option.isSome_some,Bool.cond_self,zJ,zU]
 by_cases hh:Vh r
 ·have hh':=hh
  obtain ⟨g1,g2,g3,g4⟩:=hh'
  rw [yR (by
   cases hg:r.Gate<;>cases hr:r.Root<;>simp [hg,hr,wW,yH] at g1 ⊢<;>omega)]
  rcases chk_gen (step:=fun s=>F34_L1 r s) r.Trees.length (Pt r) (8:Int) () (fun i hi=>by
   have hk:∃ c:Bool,(need (bif (!(bEq (i:Int) 0)) then inb (wr .i64 ((i:Int) - 1)) r.Trees.length else true) <| need (bif (!(bEq (i:Int) 0)) then ((F72 ((gd r.Trees ((wr .i64 ((i:Int) - 1)).toNat)).Root) ((gd r.Trees ((i:Int)).toNat).Root)).isSome) else true) (some ((bEq (i:Int) 0) || (bLt (gt (F72 ((gd r.Trees ((wr .i64 ((i:Int) - 1)).toNat)).Root) ((gd r.Trees ((i:Int)).toNat).Root))) 0))))=some c/\(c=true ↔ (0 < i->nA (gd r.Trees (i - 1)).Root < nA (gd r.Trees i).Root)):=by
    by_cases h0:0 < i
    ·obtain ⟨k,k1,k2⟩:=F72_ok (gd r.Trees (i - 1)).Root (gd r.Trees i).Root (hb.2.1 _ (by omega)).1 (hb.2.1 _ hi).1
     rw [pre_nat hi (by omega) h0,Int.toNat_natCast,Int.toNat_natCast,zJ (by rw [yK (show i - 1 < r.Trees.length by omega)];simp),k1,zJ (by simp),zU]
     refine ⟨_,rfl,?_⟩
     unfold Cp at k2
     simp only [xV,yH,Bool.or_eq_true,decide_eq_true_eq]
     omega
    ·obtain rfl:i=0:=by omega
     exact ⟨true,by rfl,by simp⟩
   obtain ⟨c,c1,c2⟩:=hk
   obtain ⟨c3,c1⟩:=zM.1 c1
   obtain ⟨c4,c1⟩:=zM.1 c1
   replace c1:=Option.some.inj c1
   unfold F34_L1 F57
   simp only [Option.isSome_some,Bool.cond_self,zJ,zU,Option.bind_some,ae_def]
   rw [xI (c:=bLt _ _) (by simp [yH];omega),zJ (yK hi),zJ c3,zJ c4,c1,Int.toNat_natCast,wM hi (by omega)]
   unfold Pt Vt
   by_cases hp:Vt r.Own (gd r.Trees i)/\(0 < i->nA (gd r.Trees (i - 1)).Root < nA (gd r.Trees i).Root)
   ·refine .inl ⟨hp,?_⟩
    obtain ⟨⟨p1,p2,p3,p4,p5,p6⟩,p7⟩:=hp
    rw [yR]
    rw [c2.2 p7,dR.2 p5,dR.2 p6]
    simp only [wW,Bool.not_true,Bool.false_or,Bool.or_false,Bool.not_eq_false',Bool.and_eq_true,decide_eq_true_eq]
    omega
   ·refine .inr ⟨hp,?_⟩
    rw [xI]
    cases hR:ae (gd r.Trees i).Root r.Own with
    | true=>simp
    | false =>
     cases hP:ae (gd r.Trees i).Parent r.Own with
     | true=>simp
     | false =>
      cases hc:c with
      | false=>simp
      | true =>
       simp only [wW,Bool.not_true,Bool.false_or,Bool.or_false,Bool.not_eq_true',Bool.and_eq_false_iff,decide_eq_false_iff_not]
       have q5:=dR.1 hR
       have q6:=dR.1 hP
       have q7:=c2.1 hc
       by_cases h1:1 <= (gd r.Trees i).Seq/\(gd r.Trees i).Seq <= 2147483647
       ·by_cases h2:1 <= (gd r.Trees i).Hops/\(gd r.Trees i).Hops <= 16
        ·by_cases h3:1 <= (gd r.Trees i).Cost/\(gd r.Trees i).Cost <= 1099511627776
         ·by_cases h4:0 <= (gd r.Trees i).Until/\(gd r.Trees i).Until <= 1099516627776
          ·exact absurd ⟨⟨h1,h2,h3,h4,q5,q6⟩,q7⟩ hp
          ·omega
         ·omega
        ·omega
       ·omega)
   (by unfold F34_L1;rw [yR (by simp [yH])]) with ⟨t1,l1⟩|⟨t1,l1⟩
  ·rw [wX l1]
   rcases chk_gen (step:=fun s=>F34_L2 r s) r.Proxies.length (Pp r) (8:Int) () (fun i hi=>by
    have hk:∃ c:Bool,(need (bif (bLt 0 (i:Int)) then inb (wr .i64 ((i:Int) - 1)) r.Proxies.length else true) <| need (bif (bLt 0 (i:Int)) then ((F72 ((gd r.Proxies ((wr .i64 ((i:Int) - 1)).toNat)).Out) ((gd r.Proxies ((i:Int)).toNat).Out)).isSome) else true) (some ((bLt 0 (i:Int)) && (bLe 0 (gt (F72 ((gd r.Proxies ((wr .i64 ((i:Int) - 1)).toNat)).Out) ((gd r.Proxies ((i:Int)).toNat).Out)))))))=some c/\(c=false ↔ (0 < i->nA (gd r.Proxies (i - 1)).Out < nA (gd r.Proxies i).Out)):=by
     by_cases h0:0 < i
     ·obtain ⟨k,k1,k2⟩:=F72_ok (gd r.Proxies (i - 1)).Out (gd r.Proxies i).Out (hb.2.2 _ (by omega)).1 (hb.2.2 _ hi).1
      rw [pre_nat hi (by omega) h0,Int.toNat_natCast,Int.toNat_natCast,zJ (by rw [yK (show i - 1 < r.Proxies.length by omega)];simp),k1,zJ (by simp),zU]
      refine ⟨_,rfl,?_⟩
      unfold Cp at k2
      simp only [wW,yH,Bool.and_eq_false_iff,decide_eq_false_iff_not]
      omega
     ·obtain rfl:i=0:=by omega
      exact ⟨false,by rfl,by simp⟩
    obtain ⟨c,c1,c2⟩:=hk
    obtain ⟨c3,c1⟩:=zM.1 c1
    obtain ⟨c4,c1⟩:=zM.1 c1
    replace c1:=Option.some.inj c1
    unfold F34_L2 F57
    simp only [Option.isSome_some,Bool.cond_self,zJ,zU,Option.bind_some]
    rw [xI (c:=bLt _ (r.Proxies.length:Int)) (by simp [yH];omega),zJ (yK hi),zJ c3,zJ c4,c1,Int.toNat_natCast,wM hi (by omega)]
    unfold Pp
    by_cases hp:(0 <= (gd r.Proxies i).Until/\(gd r.Proxies i).Until <= 1099520627776)/\(0 < i->nA (gd r.Proxies (i - 1)).Out < nA (gd r.Proxies i).Out)
    ·refine .inl ⟨hp,?_⟩
     rw [yR]
     rw [c2.2 hp.2]
     simp only [wW,Bool.false_or,Bool.not_eq_false',Bool.and_eq_true,decide_eq_true_eq]
     exact hp.1
    ·refine .inr ⟨hp,?_⟩
     rw [xI]
     cases hc:c with
     | true=>simp
     | false =>
      have q7:=c2.1 hc
      simp only [wW,Bool.false_or,Bool.not_eq_true',Bool.and_eq_false_iff,decide_eq_false_iff_not]
      by_cases h1:0 <= (gd r.Proxies i).Until/\(gd r.Proxies i).Until <= 1099520627776
      ·exact absurd ⟨h1,q7⟩ hp
      ·omega)
    (by unfold F34_L2;rw [yR (by simp [yH])]) with ⟨t2,l2⟩|⟨t2,l2⟩
   ·rw [wX l2];exact .inl ⟨⟨hh,t1,t2⟩,rfl⟩
   ·rw [lp_inr l2];exact .inr ⟨fun h=>t2 h.2.2,rfl⟩
  ·rw [lp_inr l1];exact .inr ⟨fun h=>t1 h.2.1,rfl⟩
 ·rw [xI (by
   by_cases g1:r.Gate=true/\r.Root=false
   ·simp [g1.1,g1.2]
   ·by_cases g2:0 <= r.Seq/\r.Seq <= 2147483647
    ·by_cases g3:r.Trees.length <= 8
     ·by_cases g4:r.Proxies.length <= 64
      ·exact absurd ⟨g1,g2,g3,g4⟩ hh
      ·simp [yH];omega
     ·simp [yH];omega
    ·simp only [Bool.or_eq_true,Bool.not_eq_true',wW,Bool.and_eq_false_iff,decide_eq_false_iff_not]
     left;left;right;omega)]
  exact .inr ⟨fun h=>hh h.1,rfl⟩
end Go.Proofs.Ytdcepineppafpaa
