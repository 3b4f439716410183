/-
  What a law is given, as typed values.
-/
import Derived.Test.YtooepgpfaaddbaaB
import Derived.Test.YtooepgpfaaddbaaPm10
namespace Go.Proofs.Ytooepgpfaaddbaa
open Go.Am Go.ChangeShapes Go.WideShapes
set_option linter.unusedVariables false
set_option linter.unusedSimpArgs false
set_option maxRecDepth 20000
theorem op_i64 {H:Type} {enc:TypeId × Value->H} {w:World} {spare:Nat->Bool} {held:Bool} {fuel:Nat} {t:TypeId} {cs:List Value} {x:DataW H × List MemPlace} (hu:Try.prog.underlying t=some (.int .i64)) (h:DataW.trod enc Try.prog w 0 spare held fuel t cs=some x):∃ n:Int,Cells w (yQ n) 1 cs/\(-9223372036854775808 <= n/\n <= 9223372036854775807):=by
 obtain ⟨n,h1,h2⟩:=op_int hu h
 exact ⟨n,h1,bounds_i64 h2⟩
theorem op_u8 {H:Type} {enc:TypeId × Value->H} {w:World} {spare:Nat->Bool} {held:Bool} {fuel:Nat} {t:TypeId} {cs:List Value} {x:DataW H × List MemPlace} (hu:Try.prog.underlying t=some (.int .u8)) (h:DataW.trod enc Try.prog w 0 spare held fuel t cs=some x):∃ n:Int,Cells w (yG n) 1 cs/\(0 <= n/\n <= 255):=by
 obtain ⟨n,h1,h2⟩:=op_int hu h
 exact ⟨n,h1,bounds_u8 h2⟩
theorem cz3:Try.prog.cellsOf 3=1:=by kernel_rfl
theorem cz23:Try.prog.cellsOf 23=5:=by kernel_rfl
def rg_TWakeRule (a:TWakeRule):Prop:=(-9223372036854775808 <= a.Id/\a.Id <= 9223372036854775807)/\(-9223372036854775808 <= a.Start/\a.Start <= 9223372036854775807)/\(-9223372036854775808 <= a.Every/\a.Every <= 9223372036854775807)/\(-9223372036854775808 <= a.Length/\a.Length <= 9223372036854775807)/\(-9223372036854775808 <= a.Group/\a.Group <= 9223372036854775807)
theorem op_TWakeRule_23 {H:Type} {enc:TypeId × Value->H} {w:World} {spare:Nat->Bool} {held:Bool} {fuel:Nat} {cs:List Value} {x:DataW H × List MemPlace} (h:DataW.trod enc Try.prog w 0 spare held fuel 23 cs=some x):∃ a:TWakeRule,Cells w (c_TWakeRule a) 5 cs/\rg_TWakeRule a:=by
 obtain ⟨xs,n,hfu,_,hl,hn,hg⟩:=DataW.trod_struct Try.underlying23 h
 replace hn:xs.length=5:=hn
 have f0:=hg 0 _ rfl
 rw [List.getElem?_eq_getElem (by omega)] at f0
 have g0:DataW.trod enc Try.prog w 0 spare held n 3 ((cs.drop 0).take (Try.prog.cellsOf 3))=some (xs[0]'(by omega)):=f0
 rw [cz3] at g0
 obtain ⟨a0,k0,r0⟩:=op_i64 Try.underlying3 g0
 have f1:=hg 1 _ rfl
 rw [List.getElem?_eq_getElem (by omega)] at f1
 have g1:DataW.trod enc Try.prog w 0 spare held n 3 ((cs.drop 1).take (Try.prog.cellsOf 3))=some (xs[1]'(by omega)):=f1
 rw [cz3] at g1
 obtain ⟨a1,k1,r1⟩:=op_i64 Try.underlying3 g1
 have f2:=hg 2 _ rfl
 rw [List.getElem?_eq_getElem (by omega)] at f2
 have g2:DataW.trod enc Try.prog w 0 spare held n 3 ((cs.drop 2).take (Try.prog.cellsOf 3))=some (xs[2]'(by omega)):=f2
 rw [cz3] at g2
 obtain ⟨a2,k2,r2⟩:=op_i64 Try.underlying3 g2
 have f3:=hg 3 _ rfl
 rw [List.getElem?_eq_getElem (by omega)] at f3
 have g3:DataW.trod enc Try.prog w 0 spare held n 3 ((cs.drop 3).take (Try.prog.cellsOf 3))=some (xs[3]'(by omega)):=f3
 rw [cz3] at g3
 obtain ⟨a3,k3,r3⟩:=op_i64 Try.underlying3 g3
 have f4:=hg 4 _ rfl
 rw [List.getElem?_eq_getElem (by omega)] at f4
 have g4:DataW.trod enc Try.prog w 0 spare held n 3 ((cs.drop 4).take (Try.prog.cellsOf 3))=some (xs[4]'(by omega)):=f4
 rw [cz3] at g4
 obtain ⟨a4,k4,r4⟩:=op_i64 Try.underlying3 g4
 refine ⟨⟨a0,a1,a2,a3,a4⟩,⟨hl.trans cz23,fun y hy=>?_⟩,⟨r0,r1,r2,r3,r4⟩⟩
 match y,hy with
 | 0,_=>have q:=cell_at (off:=0) (y:=0) k0 (by decide);exact q
 | 1,_=>have q:=cell_at (off:=1) (y:=0) k1 (by decide);exact q
 | 2,_=>have q:=cell_at (off:=2) (y:=0) k2 (by decide);exact q
 | 3,_=>have q:=cell_at (off:=3) (y:=0) k3 (by decide);exact q
 | 4,_=>have q:=cell_at (off:=4) (y:=0) k4 (by decide);exact q
 | y+5,hy=>omega
theorem arg23 {H:Type} {enc:TypeId × Value->H} {w:World} {spare:Nat->Bool} {held:Bool} {r:Reach} {b0:Nat} {v:Value} {d:DataW H} {p:List MemPlace} (hv:Value.okWide Try.prog w r b0 23 v) (h:DataW.Trod enc Try.prog w 0 spare held 23 v d p):∃ a:TWakeRule,Am.VR (Am.top w) (.agg (c_TWakeRule a)) v/\rg_TWakeRule a:=by
 obtain ⟨cs,rfl,hs⟩:=okWide_struct Try.underlying23 hv
 obtain ⟨fuel,hf⟩:=h
 obtain ⟨a,h1,h2⟩:=op_TWakeRule_23 hf
 exact ⟨a,Cells_agg h1 rfl,h2⟩
theorem arg3 {H:Type} {enc:TypeId × Value->H} {w:World} {spare:Nat->Bool} {held:Bool} {r:Reach} {b0:Nat} {v:Value} {d:DataW H} {p:List MemPlace} (hv:Value.okWide Try.prog w r b0 3 v) (h:DataW.Trod enc Try.prog w 0 spare held 3 v d p):∃ a:Int,Am.VR (Am.top w) (.int .i64 a) v/\(-9223372036854775808 <= a/\a <= 9223372036854775807):=by
 obtain ⟨n,rfl⟩:=okWide_int Try.underlying3 hv
 obtain ⟨fuel,hf⟩:=h
 obtain ⟨a,h1,h2⟩:=op_i64 Try.underlying3 hf
 exact ⟨a,Cells_single h1 rfl,h2⟩
theorem cz5:Try.prog.cellsOf 5=1:=by kernel_rfl
theorem cz42:Try.prog.cellsOf 42=2:=by kernel_rfl
def rg_TComing (a:TComing):Prop:=(-9223372036854775808 <= a.Wait/\a.Wait <= 9223372036854775807)/\(0 <= a.Cat/\a.Cat <= 255)
theorem op_TComing_42 {H:Type} {enc:TypeId × Value->H} {w:World} {spare:Nat->Bool} {held:Bool} {fuel:Nat} {cs:List Value} {x:DataW H × List MemPlace} (h:DataW.trod enc Try.prog w 0 spare held fuel 42 cs=some x):∃ a:TComing,Cells w (c_TComing a) 2 cs/\rg_TComing a:=by
 obtain ⟨xs,n,hfu,_,hl,hn,hg⟩:=DataW.trod_struct Try.underlying42 h
 replace hn:xs.length=2:=hn
 have f0:=hg 0 _ rfl
 rw [List.getElem?_eq_getElem (by omega)] at f0
 have g0:DataW.trod enc Try.prog w 0 spare held n 3 ((cs.drop 0).take (Try.prog.cellsOf 3))=some (xs[0]'(by omega)):=f0
 rw [cz3] at g0
 obtain ⟨a0,k0,r0⟩:=op_i64 Try.underlying3 g0
 have f1:=hg 1 _ rfl
 rw [List.getElem?_eq_getElem (by omega)] at f1
 have g1:DataW.trod enc Try.prog w 0 spare held n 5 ((cs.drop 1).take (Try.prog.cellsOf 5))=some (xs[1]'(by omega)):=f1
 rw [cz5] at g1
 obtain ⟨a1,k1,r1⟩:=op_u8 Try.underlying5 g1
 refine ⟨⟨a0,a1⟩,⟨hl.trans cz42,fun y hy=>?_⟩,⟨r0,r1⟩⟩
 match y,hy with
 | 0,_=>have q:=cell_at (off:=0) (y:=0) k0 (by decide);exact q
 | 1,_=>have q:=cell_at (off:=1) (y:=0) k1 (by decide);exact q
 | y+2,hy=>omega
theorem arg24 {H:Type} {enc:TypeId × Value->H} {w:World} {spare:Nat->Bool} {held:Bool} {r:Reach} {b0:Nat} {v:Value} {d:DataW H} {p:List MemPlace} (hv:Value.okWide Try.prog w r b0 24 v) (h:DataW.Trod enc Try.prog w 0 spare held 24 v d p):∃ a:List TComing,Am.VR (Am.top w) (.ro 2 a.length false (enR c_TComing a)) v/\(a.length <= maxLen/\∀ q ∈ a,rg_TComing q):=by
 obtain ⟨n,l,c,rfl⟩:=okWide_slice Try.underlying24 hv
 obtain ⟨fuel,hf⟩:=h
 obtain ⟨a,h1,h2⟩:=op_slice (R:=fun q=>rg_TComing q) (f:=c_TComing) (by decide) Try.underlying24 cz42 (fun h=>op_TComing_42 h) hf
 exact ⟨a,Cells_single h1 rfl,h2⟩
end Go.Proofs.Ytooepgpfaaddbaa
