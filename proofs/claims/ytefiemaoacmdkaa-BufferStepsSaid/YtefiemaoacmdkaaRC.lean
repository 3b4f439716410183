/-
  Flushing, sleeping, waking, leaving: the buffer and the reference give the same.
-/
import Derived.Test.YtefiemaoacmdkaaRB
namespace Go.Proofs.Ytefiemaoacmdkaa
open Go.Am
set_option linter.unusedVariables false
set_option linter.unusedSimpArgs false
def Uf (l:List TFrame):Prop:=∀ f ∈ l,u8A f.Body=true
def Ok3 (o d:List TFrame) (n:TBuffer):Prop:=(o.length <= 10000/\Uf o)/\(d.length <= 10000/\Uf d)/\Nb n/\U8b n
theorem uf_nil:Uf []:=fun f h=>by cases h
theorem u8_nil:U8 []:=fun f h=>by cases h
theorem ok_zero:Ok3 [] [] zB:=⟨⟨by simp,uf_nil⟩,⟨by simp,uf_nil⟩,⟨by simp [zB],by simp [zB],fun s h=>by cases h⟩,u8_nil,fun s h=>by cases h⟩
theorem uf_map {l:List TStored} (h:U8 l):Uf (l.map (·.Frame)):=fun f hf=>by
 obtain ⟨q,hq,rfl⟩:=List.mem_map.1 hf
 exact h q hq
theorem uf_hand {l r:List TFrame} (hl:r.length=l.length) (h:∀ i:Nat,i < l.length->gd r i=mk1 (gd l i) (decide (i+1 < l.length))) (hu:Uf l):Uf r:=fun f hf=>by
 obtain ⟨i,hi,rfl⟩:=mem_gd hf
 rw [h i (by omega)]
 exact hu (gd l i) (gd_mem (by omega))
theorem uf_app {l m:List TFrame} (hl:Uf l) (hm:Uf m):Uf (l ++ m):=fun f hf=>by
 rcases List.mem_append.1 hf with h|h
 ·exact hl f h
 ·exact hm f h
theorem nb_set {b:TBuffer} {a:Nat} {s:TSleeper} {g:List TStored} (hn:Nb b) (hs:s.Held.length <= 1000) (hg:g.length <= 1000):Nb (TBuffer.mk b.Limit b.Stay (b.List.set a s) g):=⟨by simp;exact hn.1,hg,fun x hx=>by
 rcases List.mem_or_eq_of_mem_set hx with h|rfl
 ·exact hn.2.2 x h
 ·exact hs⟩
theorem u8_set {b:TBuffer} {a:Nat} {s:TSleeper} {g:List TStored} (hu:U8b b) (hs:U8 s.Held) (hg:U8 g):U8b (TBuffer.mk b.Limit b.Stay (b.List.set a s) g):=⟨hg,fun x hx=>by
 rcases List.mem_or_eq_of_mem_set hx with h|rfl
 ·exact hu.2 x h
 ·exact hs⟩
theorem flush_eq (b:TBuffer) (hg:Ng b) (hq:Bq b) (hc:Ub b) (hu:U8b b):∃ o n e,F26 b=some (o,n,e)/\F79 b=some (o,n,e)/\Ok3 o [] n:=by
 have h2:=hg.2.1
 unfold F26 F79
 rcases valid_eq b hg hc with ⟨h,c,v⟩|⟨h,c,v⟩
 ·obtain ⟨r,r1,r2,r3,r4⟩:=hand_eq (b.Group.map (·.Frame)) (by simp;omega)
  rw [c,v,Option.bind_some,Option.bind_some,bif_f (by rfl),bif_f (by rfl),btwin_ok b (Nb_of hg) hq,rtw_ok b (Nb_of hg) hq,Option.bind_some,Option.bind_some,frames_ok _ (by omega),rfr_ok _ (by omega),Option.bind_some,Option.bind_some,r1,r2]
  refine ⟨_,_,_,rfl,rfl,⟨by rw [r3];simp;omega,uf_hand r3 r4 (uf_map hu.1)⟩,⟨by simp,uf_nil⟩,⟨(Nb_of hg).1,by simp,(Nb_of hg).2.2⟩,u8_nil,hu.2⟩
 ·rw [c,v,Option.bind_some,Option.bind_some,bif_t (by rfl),bif_t (by rfl)]
  exact ⟨_,_,_,rfl,rfl,ok_zero⟩
theorem with_ok (b:TBuffer) (a:Nat) (s:TSleeper) (hg:Ng b) (hq:Bq b) (ha:a < b.List.length):F96 b a s=some (TBuffer.mk b.Limit b.Stay (b.List.set a s) b.Group):=by
 unfold F96
 rw [rtw_ok b (Nb_of hg) hq,Option.bind_some,need_true (inb_nat ha),Int.toNat_natCast]
theorem sleep_eq (b:TBuffer) (aid:Int) (hg:Ng b) (hq:Bq b) (hc:Ub b) (hu:U8b b):∃ n e,F50 b aid=some (n,e)/\F74 b aid=some (n,e)/\Ok3 [] [] n:=by
 unfold F50 F74
 rcases open_eq b aid hg hc with ⟨h,c,v⟩|⟨h,c,⟨ha,v⟩|⟨ha,⟨a,a1,a2,p,v⟩|⟨⟨a,P,p⟩,a1,v⟩⟩⟩
 ·rw [c,v,Option.bind_some,Option.bind_some,bif_t (by rfl),bif_t (by rfl)]
  exact ⟨_,_,rfl,rfl,ok_zero⟩
 ·rw [c,v,Option.bind_some,Option.bind_some,bif_f (by rfl),bif_t (by simp [bLt_eq];omega),bif_t (by rfl)]
  exact ⟨_,_,rfl,rfl,ok_zero⟩
 ·rw [c,v,Option.bind_some,Option.bind_some,bif_f (by rfl),bif_f (by simp [bLt_eq];omega),p,Option.bind_some,bif_f (by rfl),btwin_ok b (Nb_of hg) hq,Option.bind_some,bif_f (by rfl),need_true (inb_nat a1),need_true (inb_nat a1)]
  simp only [Int.toNat_natCast]
  rw [with_ok b a _ hg hq a1,Option.bind_some]
  exact ⟨_,_,rfl,rfl,⟨by simp,uf_nil⟩,⟨by simp,uf_nil⟩,nb_set (Nb_of hg) ((Nb_of hg).2.2 (gd b.List a) (gd_mem a1)) (Nb_of hg).2.1,u8_set hu (hu.2 (gd b.List a) (gd_mem a1)) hu.1⟩
 ·rw [c,v,Option.bind_some,Option.bind_some,bif_f (by rfl),bif_f (by simp [bLt_eq];omega),p,Option.bind_some,bif_t (by rfl),bif_t (by rfl)]
  exact ⟨_,_,rfl,rfl,ok_zero⟩
theorem wake_eq (b:TBuffer) (aid:Int) (hg:Ng b) (hq:Bq b) (hc:Ub b) (hu:U8b b):∃ o n e,F21 b aid=some (o,n,e)/\F75 b aid=some (o,n,e)/\Ok3 o [] n:=by
 have h2:=hg.2.1
 unfold F21 F75
 rcases open_eq b aid hg hc with ⟨h,c,v⟩|⟨h,c,⟨ha,v⟩|⟨ha,⟨a,a1,a2,p,v⟩|⟨⟨a,P,p⟩,a1,v⟩⟩⟩
 ·rw [c,v,Option.bind_some,Option.bind_some,bif_t (by rfl),bif_t (by rfl)]
  exact ⟨_,_,_,rfl,rfl,ok_zero⟩
 ·rw [c,v,Option.bind_some,Option.bind_some,bif_f (by rfl),bif_t (by simp [bLt_eq];omega),bif_t (by rfl)]
  exact ⟨_,_,_,rfl,rfl,ok_zero⟩
 ·have hh:=hg.2.2 a a1
  obtain ⟨r,r1,r2,r3,r4⟩:=hand_eq ((gd b.List a).Held.map (·.Frame)) (by simp;omega)
  rw [c,v,Option.bind_some,Option.bind_some,bif_f (by rfl),bif_f (by simp [bLt_eq];omega),p,Option.bind_some,bif_f (by rfl),btwin_ok b (Nb_of hg) hq,Option.bind_some,bif_f (by rfl),need_true (inb_nat a1),need_true (inb_nat a1)]
  simp only [Int.toNat_natCast]
  rw [frames_ok _ (by omega),rfr_ok _ (by omega),Option.bind_some,Option.bind_some,r1,r2,Option.bind_some,Option.bind_some,Option.bind_some,with_ok b a _ hg hq a1,Option.bind_some]
  have eB:(b.List.set a (TSleeper.mk (gd b.List a).Aid false (gd b.List a).Held)).set a (TSleeper.mk (gd (b.List.set a (TSleeper.mk (gd b.List a).Aid false (gd b.List a).Held)) a).Aid (gd (b.List.set a (TSleeper.mk (gd b.List a).Aid false (gd b.List a).Held)) a).Asleep [])=b.List.set a (TSleeper.mk aid false []):=by
   rw [gd_set_eq a1,List.set_set,a2]
  rw [eB]
  obtain ⟨q,q1,q2,q3⟩:=aslp_eq (TBuffer.mk b.Limit b.Stay (b.List.set a (TSleeper.mk aid false [])) b.Group) (by simp;have:=hg.1;omega)
  rw [q1,q2,Option.bind_some,Option.bind_some]
  have e1:r.length=(gd b.List a).Held.length:=by rw [r3];simp
  have u1:=uf_hand r3 r4 (uf_map (hu.2 _ (gd_mem a1)))
  cases q with
  | false =>
   obtain ⟨t,t1,t2,t3,t4⟩:=hand_eq (b.Group.map (·.Frame)) (by simp;omega)
   have e2:t.length=b.Group.length:=by rw [t3];simp
   rw [bif_t (by rfl),bif_t (by rfl),frames_ok _ (by omega),rfr_ok _ (by omega),Option.bind_some,Option.bind_some,t1,t2,Option.bind_some,nd_cap (by omega) (by omega)]
   exact ⟨_,_,_,rfl,rfl,⟨by simp;omega,uf_app u1 (uf_hand t3 t4 (uf_map hu.1))⟩,⟨by simp,uf_nil⟩,nb_set (Nb_of hg) (by simp) (by simp),u8_set hu u8_nil u8_nil⟩
  | true =>
   rw [bif_f (by rfl),bif_f (by rfl),show F52_1=some [] from rfl,Option.bind_some,nd_cap (by simp;omega) (by simp;omega),List.append_nil]
   exact ⟨_,_,_,rfl,rfl,⟨by omega,u1⟩,⟨by simp,uf_nil⟩,nb_set (Nb_of hg) (by simp) (Nb_of hg).2.1,u8_set hu u8_nil hu.1⟩
 ·rw [c,v,Option.bind_some,Option.bind_some,bif_f (by rfl),bif_f (by simp [bLt_eq];omega),p,Option.bind_some,bif_t (by rfl),bif_t (by rfl)]
  exact ⟨_,_,_,rfl,rfl,ok_zero⟩
end Go.Proofs.Ytefiemaoacmdkaa
