/-
  The law BufferSteps: what its walk asks for holds.
-/
import Derived.Test.YtefiemaoacmdkaaRG
namespace Go.Proofs.Ytefiemaoacmdkaa
open Go.Am
set_option linter.unusedVariables false
set_option linter.unusedSimpArgs false
theorem sall_ok (l:List TFrame) (hl:l.length <= 10000) (h:Uf l):F33 l l=some true:=by
 unfold F33
 rw [bif_f (by simp [bEq_eq])]
 have l1:=run_gen (step:=fun s=>F33_L1 l l s) (R:=Bool) l.length (fun i=>(i:Int)) () (fun i hi=>by
   show F33_L1 l l i=_
   unfold F33_L1
   rw [bif_t (by simp [bLt_eq];omega),need_true (inb_nat hi),need_true (inb_nat hi),Int.toNat_natCast]
   rw [show F36 _ _=some true from fsame_ok (gd l i) (h _ (gd_mem hi)),Option.bind_some,bif_f (by rfl),wr_add1 hi (show l.length < 4611686018427387904 by omega)])
  (by show F33_L1 l l _=_;unfold F33_L1;rw [bif_f (by simp [bLt_eq])])
 replace l1:loopD (fun s=>F33_L1 l l s) (0:Int)=some (.inl ()):=by simpa using l1
 rw [lp_inl l1]
theorem law7 (b:TBuffer) (s:TStep) (hu:U8b b) (hc:Ub b) (hfu:u8A s.Frame.Body=true):F11 b s.Frame=some true ∨ F11 b s.Frame=some false/\∃ r3 r5 r7 r9,F29 b=some r3/\F30_0 s.Frame=some r5/\F31 b s=some r7/\F32 b s=some r9/\F33 r7.1 r9.1=some true/\F33 r7.2.1 r9.2.1=some true/\F16 r7.2.2.1 r9.2.2.1=some true/\bEq r7.2.2.2 r9.2.2.2=true /\
   (∀ L:List TStored,L.length=r7.2.2.1.Group.length->∃ r,F35 L=some r)/\(∀ x,x < r7.2.2.1.List.length->∀ L:List TStored,L.length=(gd r7.2.2.1.List x).Held.length->∃ r,F35 L=some r)/\F16 b r3=some true/\F36 s.Frame r5=some true:=by
 obtain ⟨r,e,hr⟩:=great_ok b s.Frame
 cases r with
 | true=>exact .inl e
 | false =>
 obtain ⟨hg,hq,hf⟩:=hr rfl
 have hn:Nb b:=Nb_of hg
 obtain ⟨o,d,n,c,e1,e2,⟨o1,o2⟩,⟨d1,d2⟩,n1,n2⟩:=do_eq b s hg hq hc hu hf hfu
 refine .inr ⟨e,b,s.Frame,_,_,rtw_ok b hn hq,rtwin_ok s.Frame hf,e1,e2,sall_ok o o1 o2,sall_ok d d1 d2,same_ok n n1 n2,by simp [bEq_eq],fun L hL=>⟨_,rfr_ok L (by rw [hL];exact n1.2.1)⟩,fun x hx L hL=>⟨_,rfr_ok L (by rw [hL];exact n1.2.2 _ (gd_mem hx))⟩,same_ok b hn hu,fsame_ok s.Frame hfu⟩
end Go.Proofs.Ytefiemaoacmdkaa
