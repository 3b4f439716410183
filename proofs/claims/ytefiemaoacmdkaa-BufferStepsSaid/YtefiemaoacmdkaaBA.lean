/-
  Buffers: valid ones again; comparison; waking; what is put for someone awake.
-/
import Derived.Test.YtefiemaoacmdkaaBP
namespace Go.Proofs.Ytefiemaoacmdkaa
open Go.Am
set_option linter.unusedVariables false
set_option linter.unusedSimpArgs false
def stB (b:TBuffer) (a:Nat) (s:Bool) (h:List TStored):TBuffer:={b with List:=b.List.set a {(gd b.List a) with Asleep:=s,Held:=h}}
theorem del_mem {α:Type} {l:List α} {k:Nat} {x:α} (h:x ∈ delL l k ((k+1:Nat):Int)):x ∈ l:=by
 unfold delL at h
 rcases List.mem_append.1 h with h|h
 ·exact List.mem_of_mem_take h
 ·exact List.mem_of_mem_drop h
def U8 (l:List TStored):Prop:=∀ q ∈ l,u8A q.Frame.Body=true
def U8b (b:TBuffer):Prop:=U8 b.Group/\∀ s ∈ b.List,U8 s.Held
theorem cself {c b:Bool} (h:b=true):(bif c then b else true)=true:=by subst h;cases c<;>rfl
theorem fsame_ok (a:TFrame) (h:u8A a.Body=true):F36 a a=some true:=by
 have q:u8b a.Body.length (enR xA a.Body)=true:=(u8b_enR (f:=xA) (fun _=>rfl) a.Body).trans h
 unfold F36
 rw [need_true (cself q),need_true (cself q)]
 simp [bEq_eq,bB_eq,sEq]
theorem qsame_ok (l:List TStored) (hl:l.length <= 1000) (h:U8 l):F45 l l=some true:=by
 unfold F45
 rw [bif_f (by simp [bEq_eq])]
 have l1:=run_gen (step:=fun s=>cB l l s) (R:=Bool) l.length (fun i=>(i:Int)) () (fun i hi=>by
   show cB l l i=_
   unfold cB
   rw [bif_t (by simp [bLt_eq];omega),Int.toNat_natCast,fsame_ok _ (h _ (gd_mem hi)),inb_nat hi]
   simp only [bEq_eq,decide_true,Bool.not_true,Bool.or_false,Bool.not_false,cond_true,Option.isSome_some,gt_some,need_true,cond_false,wr_add1 hi (show l.length < 4611686018427387904 by omega)])
  (by show cB l l _=_;unfold cB;rw [bif_f (by simp [bLt_eq])])
 replace l1:loopD (fun s=>cB l l s) (0:Int)=some (.inl ()):=by simpa using l1
 rw [lp_inl l1]
theorem same_ok (b:TBuffer) (hn:Nb b) (h:U8b b):F16 b b=some true:=by
 obtain ⟨n1,n2,n3⟩:=hn
 unfold F16
 rw [qsame_ok _ n2 h.1]
 have l1:=run_gen (step:=fun s=>dW b b s) (R:=Bool) b.List.length (fun i=>(i:Int)) () (fun i hi=>by
   show dW b b i=_
   unfold dW
   rw [bif_t (by simp [bLt_eq];omega),Int.toNat_natCast,qsame_ok _ (n3 _ (gd_mem hi)) (h.2 _ (gd_mem hi)),inb_nat hi]
   simp only [bEq_eq,bB_eq,decide_true,Bool.not_true,Bool.or_false,Bool.not_false,cond_true,Option.isSome_some,gt_some,need_true,cond_false,wr_add1 hi (show b.List.length < 4611686018427387904 by omega)])
  (by show dW b b _=_;unfold dW;rw [bif_f (by simp [bLt_eq])])
 replace l1:loopD (fun s=>dW b b s) (0:Int)=some (.inl ()):=by simpa using l1
 rw [lp_inl l1]
 simp [bEq_eq,need_true,gt_some]
theorem app_gd {α:Type} [Inhabited α] (x y:List α) (i:Nat):gd (x ++ y) i=if i < x.length then gd x i else gd y (i - x.length):=by
 split
 ·rename_i h;exact kX h
 ·rename_i h;exact gK (by omega)
end Go.Proofs.Ytefiemaoacmdkaa
