/-
  What a law is given, as typed values.
-/
import Derived.Test.YtooepgpfaaddbaaGreatB
import Derived.Test.YtooepgpfaaddbaaGreatPm10
namespace Go.Proofs.YtooepgpfaaddbaaGreat
open Go.Am Go.ChangeShapes Go.WideShapes
set_option linter.unusedVariables false
set_option linter.unusedSimpArgs false
set_option maxRecDepth 20000
theorem op_i64 {H:Type} {enc:TypeId × Value->H} {w:World} {spare:Nat->Bool} {held:Bool} {fuel:Nat} {t:TypeId} {cs:List Value} {x:DataW H × List MemPlace} (hu:Tryz.prog.underlying t=some (.int .i64)) (h:DataW.trod enc Tryz.prog w 0 spare held fuel t cs=some x):∃ n:Int,Cells w (yG n) 1 cs/\(-9223372036854775808 <= n/\n <= 9223372036854775807):=by
 obtain ⟨n,h1,h2⟩:=op_int hu h
 exact ⟨n,h1,bounds_i64 h2⟩
theorem op_u8 {H:Type} {enc:TypeId × Value->H} {w:World} {spare:Nat->Bool} {held:Bool} {fuel:Nat} {t:TypeId} {cs:List Value} {x:DataW H × List MemPlace} (hu:Tryz.prog.underlying t=some (.int .u8)) (h:DataW.trod enc Tryz.prog w 0 spare held fuel t cs=some x):∃ n:Int,Cells w (c_u8 n) 1 cs/\(0 <= n/\n <= 255):=by
 obtain ⟨n,h1,h2⟩:=op_int hu h
 exact ⟨n,h1,bounds_u8 h2⟩
theorem op_b {H:Type} {enc:TypeId × Value->H} {w:World} {spare:Nat->Bool} {held:Bool} {fuel:Nat} {t:TypeId} {cs:List Value} {x:DataW H × List MemPlace} (hu:Tryz.prog.underlying t=some .bool) (h:DataW.trod enc Tryz.prog w 0 spare held fuel t cs=some x):∃ n:Bool,Cells w (c_b n) 1 cs/\True:=by
 obtain ⟨n,h1⟩:=op_bool hu h
 exact ⟨n,h1,trivial⟩
theorem cz3:Tryz.prog.cellsOf 3=1:=by kernel_rfl
theorem cz4:Tryz.prog.cellsOf 4=1:=by kernel_rfl
theorem cz35:Tryz.prog.cellsOf 35=3:=by kernel_rfl
def uG (a:TRegulateChannel):Prop:=(-9223372036854775808 <= a.Number/\a.Number <= 9223372036854775807)/\(-9223372036854775808 <= a.Max/\a.Max <= 9223372036854775807)/\True
theorem cC {H:Type} {enc:TypeId × Value->H} {w:World} {spare:Nat->Bool} {held:Bool} {fuel:Nat} {cs:List Value} {x:DataW H × List MemPlace} (h:DataW.trod enc Tryz.prog w 0 spare held fuel 35 cs=some x):∃ a:TRegulateChannel,Cells w (c_TRegulateChannel a) 3 cs/\uG a:=by
 obtain ⟨xs,n,hfu,_,hl,hn,hg⟩:=DataW.trod_struct Tryz.underlying35 h
 replace hn:xs.length=3:=hn
 have f0:=hg 0 _ rfl
 rw [List.getElem?_eq_getElem (by omega)] at f0
 have g0:DataW.trod enc Tryz.prog w 0 spare held n 3 ((cs.drop 0).take (Tryz.prog.cellsOf 3))=some (xs[0]'(by omega)):=f0
 rw [cz3] at g0
 obtain ⟨a0,k0,r0⟩:=op_i64 Tryz.underlying3 g0
 have f1:=hg 1 _ rfl
 rw [List.getElem?_eq_getElem (by omega)] at f1
 have g1:DataW.trod enc Tryz.prog w 0 spare held n 3 ((cs.drop 1).take (Tryz.prog.cellsOf 3))=some (xs[1]'(by omega)):=f1
 rw [cz3] at g1
 obtain ⟨a1,k1,r1⟩:=op_i64 Tryz.underlying3 g1
 have f2:=hg 2 _ rfl
 rw [List.getElem?_eq_getElem (by omega)] at f2
 have g2:DataW.trod enc Tryz.prog w 0 spare held n 4 ((cs.drop 2).take (Tryz.prog.cellsOf 4))=some (xs[2]'(by omega)):=f2
 rw [cz4] at g2
 obtain ⟨a2,k2,r2⟩:=op_b Tryz.underlying4 g2
 refine ⟨⟨a0,a1,a2⟩,⟨hl.trans cz35,fun y hy=>?_⟩,⟨r0,r1,r2⟩⟩
 match y,hy with
 | 0,_=>have q:=cell_at (off:=0) (y:=0) k0 (by decide);exact q
 | 1,_=>have q:=cell_at (off:=1) (y:=0) k1 (by decide);exact q
 | 2,_=>have q:=cell_at (off:=2) (y:=0) k2 (by decide);exact q
 | y+3,hy=>omega
theorem arg22 {H:Type} {enc:TypeId × Value->H} {w:World} {spare:Nat->Bool} {held:Bool} {r:Reach} {b0:Nat} {v:Value} {d:DataW H} {p:List MemPlace} (hv:Value.okWide Tryz.prog w r b0 22 v) (h:DataW.Trod enc Tryz.prog w 0 spare held 22 v d p):∃ a:List TRegulateChannel,Am.VR (Am.top w) (.ro 3 a.length false (enR c_TRegulateChannel a)) v/\(a.length <= maxLen/\∀ q ∈ a,uG q):=by
 obtain ⟨n,l,c,rfl⟩:=okWide_slice Tryz.underlying22 hv
 obtain ⟨fuel,hf⟩:=h
 obtain ⟨a,h1,h2⟩:=op_slice (R:=fun q=>uG q) (f:=c_TRegulateChannel) (by decide) Tryz.underlying22 cz35 (fun h=>cC h) hf
 exact ⟨a,Cells_single h1 rfl,h2⟩
theorem cz5:Tryz.prog.cellsOf 5=1:=by kernel_rfl
theorem cz48:Tryz.prog.cellsOf 48=3:=by kernel_rfl
def rg_TMove (a:TMove):Prop:=(0 <= a.Kind/\a.Kind <= 255)/\(-9223372036854775808 <= a.Wait/\a.Wait <= 9223372036854775807)/\(-9223372036854775808 <= a.N/\a.N <= 9223372036854775807)
theorem op_TMove_48 {H:Type} {enc:TypeId × Value->H} {w:World} {spare:Nat->Bool} {held:Bool} {fuel:Nat} {cs:List Value} {x:DataW H × List MemPlace} (h:DataW.trod enc Tryz.prog w 0 spare held fuel 48 cs=some x):∃ a:TMove,Cells w (c_TMove a) 3 cs/\rg_TMove a:=by
 obtain ⟨xs,n,hfu,_,hl,hn,hg⟩:=DataW.trod_struct Tryz.underlying48 h
 replace hn:xs.length=3:=hn
 have f0:=hg 0 _ rfl
 rw [List.getElem?_eq_getElem (by omega)] at f0
 have g0:DataW.trod enc Tryz.prog w 0 spare held n 5 ((cs.drop 0).take (Tryz.prog.cellsOf 5))=some (xs[0]'(by omega)):=f0
 rw [cz5] at g0
 obtain ⟨a0,k0,r0⟩:=op_u8 Tryz.underlying5 g0
 have f1:=hg 1 _ rfl
 rw [List.getElem?_eq_getElem (by omega)] at f1
 have g1:DataW.trod enc Tryz.prog w 0 spare held n 3 ((cs.drop 1).take (Tryz.prog.cellsOf 3))=some (xs[1]'(by omega)):=f1
 rw [cz3] at g1
 obtain ⟨a1,k1,r1⟩:=op_i64 Tryz.underlying3 g1
 have f2:=hg 2 _ rfl
 rw [List.getElem?_eq_getElem (by omega)] at f2
 have g2:DataW.trod enc Tryz.prog w 0 spare held n 3 ((cs.drop 2).take (Tryz.prog.cellsOf 3))=some (xs[2]'(by omega)):=f2
 rw [cz3] at g2
 obtain ⟨a2,k2,r2⟩:=op_i64 Tryz.underlying3 g2
 refine ⟨⟨a0,a1,a2⟩,⟨hl.trans cz48,fun y hy=>?_⟩,⟨r0,r1,r2⟩⟩
 match y,hy with
 | 0,_=>have q:=cell_at (off:=0) (y:=0) k0 (by decide);exact q
 | 1,_=>have q:=cell_at (off:=1) (y:=0) k1 (by decide);exact q
 | 2,_=>have q:=cell_at (off:=2) (y:=0) k2 (by decide);exact q
 | y+3,hy=>omega
theorem arg23 {H:Type} {enc:TypeId × Value->H} {w:World} {spare:Nat->Bool} {held:Bool} {r:Reach} {b0:Nat} {v:Value} {d:DataW H} {p:List MemPlace} (hv:Value.okWide Tryz.prog w r b0 23 v) (h:DataW.Trod enc Tryz.prog w 0 spare held 23 v d p):∃ a:List TMove,Am.VR (Am.top w) (.ro 3 a.length false (enR c_TMove a)) v/\(a.length <= maxLen/\∀ q ∈ a,rg_TMove q):=by
 obtain ⟨n,l,c,rfl⟩:=okWide_slice Tryz.underlying23 hv
 obtain ⟨fuel,hf⟩:=h
 obtain ⟨a,h1,h2⟩:=op_slice (R:=fun q=>rg_TMove q) (f:=c_TMove) (by decide) Tryz.underlying23 cz48 (fun h=>op_TMove_48 h) hf
 exact ⟨a,Cells_single h1 rfl,h2⟩
end Go.Proofs.YtooepgpfaaddbaaGreat
