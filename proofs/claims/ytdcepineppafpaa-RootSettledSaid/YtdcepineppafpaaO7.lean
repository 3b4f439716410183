/-
  What a law is given, as typed values.
-/
import Derived.Test.YtdcepineppafpaaB
import Derived.Test.YtdcepineppafpaaPm10
namespace Go.Proofs.Ytdcepineppafpaa
open Go.Am Go.ChangeShapes Go.WideShapes
set_option linter.unusedVariables false
set_option linter.unusedSimpArgs false
set_option maxRecDepth 20000
theorem okWide_arr {P:Program} {w:World} {r:Reach} {b0 n:Nat} {e t:TypeId} {v:Value} (ht:P.underlying t=some (.array n e)) (hv:Value.okWide P w r b0 t v):∃ cs,v = .agg cs/\cs.size=P.cellsOf t:=by
 simp only [Value.okWide,ht] at hv
 obtain ⟨cs,h1,h2,_⟩:=hv
 exact ⟨cs,h1,h2⟩
theorem gG {H:Type} {enc:TypeId × Value->H} {w:World} {spare:Nat->Bool} {held:Bool} {fuel:Nat} {t:TypeId} {cs:List Value} {x:DataW H × List MemPlace} (hu:Try.prog.underlying t=some (.int .i64)) (h:DataW.trod enc Try.prog w 0 spare held fuel t cs=some x):∃ n:Int,Cells w (c_i64 n) 1 cs/\(-9223372036854775808 <= n/\n <= 9223372036854775807):=by
 obtain ⟨n,h1,h2⟩:=op_int hu h
 exact ⟨n,h1,bounds_i64 h2⟩
theorem cz3:Try.prog.cellsOf 3=1:=by kernel_rfl
theorem cz80:Try.prog.cellsOf 80=8:=by kernel_rfl
def qC (a:A8i64):Prop:=(-9223372036854775808 <= a.x0/\a.x0 <= 9223372036854775807)/\(-9223372036854775808 <= a.x1/\a.x1 <= 9223372036854775807)/\(-9223372036854775808 <= a.x2/\a.x2 <= 9223372036854775807)/\(-9223372036854775808 <= a.x3/\a.x3 <= 9223372036854775807)/\(-9223372036854775808 <= a.x4/\a.x4 <= 9223372036854775807)/\(-9223372036854775808 <= a.x5/\a.x5 <= 9223372036854775807)/\(-9223372036854775808 <= a.x6/\a.x6 <= 9223372036854775807)/\(-9223372036854775808 <= a.x7/\a.x7 <= 9223372036854775807)
theorem vV {H:Type} {enc:TypeId × Value->H} {w:World} {spare:Nat->Bool} {held:Bool} {fuel:Nat} {cs:List Value} {x:DataW H × List MemPlace} (h:DataW.trod enc Try.prog w 0 spare held fuel 80 cs=some x):∃ a:A8i64,Cells w (wD a) 8 cs/\qC a:=by
 obtain ⟨xs,n,hfu,_,hl,hn,hg⟩:=DataW.trod_array Try.underlying80 h
 have f0:=hg 0 (by decide)
 rw [List.getElem?_eq_getElem (by omega)] at f0
 have g0:DataW.trod enc Try.prog w 0 spare held n 3 ((cs.drop (0 * Try.prog.cellsOf 3)).take (Try.prog.cellsOf 3))=some (xs[0]'(by omega)):=f0
 rw [cz3] at g0
 obtain ⟨a0,k0,r0⟩:=gG Try.underlying3 g0
 have f1:=hg 1 (by decide)
 rw [List.getElem?_eq_getElem (by omega)] at f1
 have g1:DataW.trod enc Try.prog w 0 spare held n 3 ((cs.drop (1 * Try.prog.cellsOf 3)).take (Try.prog.cellsOf 3))=some (xs[1]'(by omega)):=f1
 rw [cz3] at g1
 obtain ⟨a1,k1,r1⟩:=gG Try.underlying3 g1
 have f2:=hg 2 (by decide)
 rw [List.getElem?_eq_getElem (by omega)] at f2
 have g2:DataW.trod enc Try.prog w 0 spare held n 3 ((cs.drop (2 * Try.prog.cellsOf 3)).take (Try.prog.cellsOf 3))=some (xs[2]'(by omega)):=f2
 rw [cz3] at g2
 obtain ⟨a2,k2,r2⟩:=gG Try.underlying3 g2
 have f3:=hg 3 (by decide)
 rw [List.getElem?_eq_getElem (by omega)] at f3
 have g3:DataW.trod enc Try.prog w 0 spare held n 3 ((cs.drop (3 * Try.prog.cellsOf 3)).take (Try.prog.cellsOf 3))=some (xs[3]'(by omega)):=f3
 rw [cz3] at g3
 obtain ⟨a3,k3,r3⟩:=gG Try.underlying3 g3
 have f4:=hg 4 (by decide)
 rw [List.getElem?_eq_getElem (by omega)] at f4
 have g4:DataW.trod enc Try.prog w 0 spare held n 3 ((cs.drop (4 * Try.prog.cellsOf 3)).take (Try.prog.cellsOf 3))=some (xs[4]'(by omega)):=f4
 rw [cz3] at g4
 obtain ⟨a4,k4,r4⟩:=gG Try.underlying3 g4
 have f5:=hg 5 (by decide)
 rw [List.getElem?_eq_getElem (by omega)] at f5
 have g5:DataW.trod enc Try.prog w 0 spare held n 3 ((cs.drop (5 * Try.prog.cellsOf 3)).take (Try.prog.cellsOf 3))=some (xs[5]'(by omega)):=f5
 rw [cz3] at g5
 obtain ⟨a5,k5,r5⟩:=gG Try.underlying3 g5
 have f6:=hg 6 (by decide)
 rw [List.getElem?_eq_getElem (by omega)] at f6
 have g6:DataW.trod enc Try.prog w 0 spare held n 3 ((cs.drop (6 * Try.prog.cellsOf 3)).take (Try.prog.cellsOf 3))=some (xs[6]'(by omega)):=f6
 rw [cz3] at g6
 obtain ⟨a6,k6,r6⟩:=gG Try.underlying3 g6
 have f7:=hg 7 (by decide)
 rw [List.getElem?_eq_getElem (by omega)] at f7
 have g7:DataW.trod enc Try.prog w 0 spare held n 3 ((cs.drop (7 * Try.prog.cellsOf 3)).take (Try.prog.cellsOf 3))=some (xs[7]'(by omega)):=f7
 rw [cz3] at g7
 obtain ⟨a7,k7,r7⟩:=gG Try.underlying3 g7
 refine ⟨⟨a0,a1,a2,a3,a4,a5,a6,a7⟩,⟨hl.trans cz80,fun y hy=>?_⟩,⟨r0,r1,r2,r3,r4,r5,r6,r7⟩⟩
 match y,hy with
 | 0,_=>have q:=zX (off:=0) (y:=0) k0 (by decide);exact q
 | 1,_=>have q:=zX (off:=1) (y:=0) k1 (by decide);exact q
 | 2,_=>have q:=zX (off:=2) (y:=0) k2 (by decide);exact q
 | 3,_=>have q:=zX (off:=3) (y:=0) k3 (by decide);exact q
 | 4,_=>have q:=zX (off:=4) (y:=0) k4 (by decide);exact q
 | 5,_=>have q:=zX (off:=5) (y:=0) k5 (by decide);exact q
 | 6,_=>have q:=zX (off:=6) (y:=0) k6 (by decide);exact q
 | 7,_=>have q:=zX (off:=7) (y:=0) k7 (by decide);exact q
 | y+8,hy=>omega
theorem cz81:Try.prog.cellsOf 81=64:=by kernel_rfl
def cV (a:A8A8i64):Prop:=qC a.x0/\qC a.x1/\qC a.x2/\qC a.x3/\qC a.x4/\qC a.x5/\qC a.x6/\qC a.x7
theorem op_A8A8i64_81 {H:Type} {enc:TypeId × Value->H} {w:World} {spare:Nat->Bool} {held:Bool} {fuel:Nat} {cs:List Value} {x:DataW H × List MemPlace} (h:DataW.trod enc Try.prog w 0 spare held fuel 81 cs=some x):∃ a:A8A8i64,Cells w (c_A8A8i64 a) 64 cs/\cV a:=by
 obtain ⟨xs,n,hfu,_,hl,hn,hg⟩:=DataW.trod_array Try.underlying81 h
 have f0:=hg 0 (by decide)
 rw [List.getElem?_eq_getElem (by omega)] at f0
 have g0:DataW.trod enc Try.prog w 0 spare held n 80 ((cs.drop (0 * Try.prog.cellsOf 80)).take (Try.prog.cellsOf 80))=some (xs[0]'(by omega)):=f0
 rw [cz80] at g0
 obtain ⟨a0,k0,r0⟩:=vV g0
 have f1:=hg 1 (by decide)
 rw [List.getElem?_eq_getElem (by omega)] at f1
 have g1:DataW.trod enc Try.prog w 0 spare held n 80 ((cs.drop (1 * Try.prog.cellsOf 80)).take (Try.prog.cellsOf 80))=some (xs[1]'(by omega)):=f1
 rw [cz80] at g1
 obtain ⟨a1,k1,r1⟩:=vV g1
 have f2:=hg 2 (by decide)
 rw [List.getElem?_eq_getElem (by omega)] at f2
 have g2:DataW.trod enc Try.prog w 0 spare held n 80 ((cs.drop (2 * Try.prog.cellsOf 80)).take (Try.prog.cellsOf 80))=some (xs[2]'(by omega)):=f2
 rw [cz80] at g2
 obtain ⟨a2,k2,r2⟩:=vV g2
 have f3:=hg 3 (by decide)
 rw [List.getElem?_eq_getElem (by omega)] at f3
 have g3:DataW.trod enc Try.prog w 0 spare held n 80 ((cs.drop (3 * Try.prog.cellsOf 80)).take (Try.prog.cellsOf 80))=some (xs[3]'(by omega)):=f3
 rw [cz80] at g3
 obtain ⟨a3,k3,r3⟩:=vV g3
 have f4:=hg 4 (by decide)
 rw [List.getElem?_eq_getElem (by omega)] at f4
 have g4:DataW.trod enc Try.prog w 0 spare held n 80 ((cs.drop (4 * Try.prog.cellsOf 80)).take (Try.prog.cellsOf 80))=some (xs[4]'(by omega)):=f4
 rw [cz80] at g4
 obtain ⟨a4,k4,r4⟩:=vV g4
 have f5:=hg 5 (by decide)
 rw [List.getElem?_eq_getElem (by omega)] at f5
 have g5:DataW.trod enc Try.prog w 0 spare held n 80 ((cs.drop (5 * Try.prog.cellsOf 80)).take (Try.prog.cellsOf 80))=some (xs[5]'(by omega)):=f5
 rw [cz80] at g5
 obtain ⟨a5,k5,r5⟩:=vV g5
 have f6:=hg 6 (by decide)
 rw [List.getElem?_eq_getElem (by omega)] at f6
 have g6:DataW.trod enc Try.prog w 0 spare held n 80 ((cs.drop (6 * Try.prog.cellsOf 80)).take (Try.prog.cellsOf 80))=some (xs[6]'(by omega)):=f6
 rw [cz80] at g6
 obtain ⟨a6,k6,r6⟩:=vV g6
 have f7:=hg 7 (by decide)
 rw [List.getElem?_eq_getElem (by omega)] at f7
 have g7:DataW.trod enc Try.prog w 0 spare held n 80 ((cs.drop (7 * Try.prog.cellsOf 80)).take (Try.prog.cellsOf 80))=some (xs[7]'(by omega)):=f7
 rw [cz80] at g7
 obtain ⟨a7,k7,r7⟩:=vV g7
 refine ⟨⟨a0,a1,a2,a3,a4,a5,a6,a7⟩,⟨hl.trans cz81,fun y hy=>?_⟩,⟨r0,r1,r2,r3,r4,r5,r6,r7⟩⟩
 match y,hy with
 | 0,_=>have q:=zX (off:=0) (y:=0) k0 (by decide);exact q
 | 1,_=>have q:=zX (off:=0) (y:=1) k0 (by decide);exact q
 | 2,_=>have q:=zX (off:=0) (y:=2) k0 (by decide);exact q
 | 3,_=>have q:=zX (off:=0) (y:=3) k0 (by decide);exact q
 | 4,_=>have q:=zX (off:=0) (y:=4) k0 (by decide);exact q
 | 5,_=>have q:=zX (off:=0) (y:=5) k0 (by decide);exact q
 | 6,_=>have q:=zX (off:=0) (y:=6) k0 (by decide);exact q
 | 7,_=>have q:=zX (off:=0) (y:=7) k0 (by decide);exact q
 | 8,_=>have q:=zX (off:=8) (y:=0) k1 (by decide);exact q
 | 9,_=>have q:=zX (off:=8) (y:=1) k1 (by decide);exact q
 | 10,_=>have q:=zX (off:=8) (y:=2) k1 (by decide);exact q
 | 11,_=>have q:=zX (off:=8) (y:=3) k1 (by decide);exact q
 | 12,_=>have q:=zX (off:=8) (y:=4) k1 (by decide);exact q
 | 13,_=>have q:=zX (off:=8) (y:=5) k1 (by decide);exact q
 | 14,_=>have q:=zX (off:=8) (y:=6) k1 (by decide);exact q
 | 15,_=>have q:=zX (off:=8) (y:=7) k1 (by decide);exact q
 | 16,_=>have q:=zX (off:=16) (y:=0) k2 (by decide);exact q
 | 17,_=>have q:=zX (off:=16) (y:=1) k2 (by decide);exact q
 | 18,_=>have q:=zX (off:=16) (y:=2) k2 (by decide);exact q
 | 19,_=>have q:=zX (off:=16) (y:=3) k2 (by decide);exact q
 | 20,_=>have q:=zX (off:=16) (y:=4) k2 (by decide);exact q
 | 21,_=>have q:=zX (off:=16) (y:=5) k2 (by decide);exact q
 | 22,_=>have q:=zX (off:=16) (y:=6) k2 (by decide);exact q
 | 23,_=>have q:=zX (off:=16) (y:=7) k2 (by decide);exact q
 | 24,_=>have q:=zX (off:=24) (y:=0) k3 (by decide);exact q
 | 25,_=>have q:=zX (off:=24) (y:=1) k3 (by decide);exact q
 | 26,_=>have q:=zX (off:=24) (y:=2) k3 (by decide);exact q
 | 27,_=>have q:=zX (off:=24) (y:=3) k3 (by decide);exact q
 | 28,_=>have q:=zX (off:=24) (y:=4) k3 (by decide);exact q
 | 29,_=>have q:=zX (off:=24) (y:=5) k3 (by decide);exact q
 | 30,_=>have q:=zX (off:=24) (y:=6) k3 (by decide);exact q
 | 31,_=>have q:=zX (off:=24) (y:=7) k3 (by decide);exact q
 | 32,_=>have q:=zX (off:=32) (y:=0) k4 (by decide);exact q
 | 33,_=>have q:=zX (off:=32) (y:=1) k4 (by decide);exact q
 | 34,_=>have q:=zX (off:=32) (y:=2) k4 (by decide);exact q
 | 35,_=>have q:=zX (off:=32) (y:=3) k4 (by decide);exact q
 | 36,_=>have q:=zX (off:=32) (y:=4) k4 (by decide);exact q
 | 37,_=>have q:=zX (off:=32) (y:=5) k4 (by decide);exact q
 | 38,_=>have q:=zX (off:=32) (y:=6) k4 (by decide);exact q
 | 39,_=>have q:=zX (off:=32) (y:=7) k4 (by decide);exact q
 | 40,_=>have q:=zX (off:=40) (y:=0) k5 (by decide);exact q
 | 41,_=>have q:=zX (off:=40) (y:=1) k5 (by decide);exact q
 | 42,_=>have q:=zX (off:=40) (y:=2) k5 (by decide);exact q
 | 43,_=>have q:=zX (off:=40) (y:=3) k5 (by decide);exact q
 | 44,_=>have q:=zX (off:=40) (y:=4) k5 (by decide);exact q
 | 45,_=>have q:=zX (off:=40) (y:=5) k5 (by decide);exact q
 | 46,_=>have q:=zX (off:=40) (y:=6) k5 (by decide);exact q
 | 47,_=>have q:=zX (off:=40) (y:=7) k5 (by decide);exact q
 | 48,_=>have q:=zX (off:=48) (y:=0) k6 (by decide);exact q
 | 49,_=>have q:=zX (off:=48) (y:=1) k6 (by decide);exact q
 | 50,_=>have q:=zX (off:=48) (y:=2) k6 (by decide);exact q
 | 51,_=>have q:=zX (off:=48) (y:=3) k6 (by decide);exact q
 | 52,_=>have q:=zX (off:=48) (y:=4) k6 (by decide);exact q
 | 53,_=>have q:=zX (off:=48) (y:=5) k6 (by decide);exact q
 | 54,_=>have q:=zX (off:=48) (y:=6) k6 (by decide);exact q
 | 55,_=>have q:=zX (off:=48) (y:=7) k6 (by decide);exact q
 | 56,_=>have q:=zX (off:=56) (y:=0) k7 (by decide);exact q
 | 57,_=>have q:=zX (off:=56) (y:=1) k7 (by decide);exact q
 | 58,_=>have q:=zX (off:=56) (y:=2) k7 (by decide);exact q
 | 59,_=>have q:=zX (off:=56) (y:=3) k7 (by decide);exact q
 | 60,_=>have q:=zX (off:=56) (y:=4) k7 (by decide);exact q
 | 61,_=>have q:=zX (off:=56) (y:=5) k7 (by decide);exact q
 | 62,_=>have q:=zX (off:=56) (y:=6) k7 (by decide);exact q
 | 63,_=>have q:=zX (off:=56) (y:=7) k7 (by decide);exact q
 | y+64,hy=>omega
theorem arg81 {H:Type} {enc:TypeId × Value->H} {w:World} {spare:Nat->Bool} {held:Bool} {r:Reach} {b0:Nat} {v:Value} {d:DataW H} {p:List MemPlace} (hv:Value.okWide Try.prog w r b0 81 v) (h:DataW.Trod enc Try.prog w 0 spare held 81 v d p):∃ a:A8A8i64,Am.VR (Am.top w) (.agg (c_A8A8i64 a)) v/\cV a:=by
 obtain ⟨cs,rfl,hs⟩:=okWide_arr Try.underlying81 hv
 obtain ⟨fuel,hf⟩:=h
 obtain ⟨a,h1,h2⟩:=op_A8A8i64_81 hf
 exact ⟨a,Cells_agg h1 rfl,h2⟩
theorem arg3 {H:Type} {enc:TypeId × Value->H} {w:World} {spare:Nat->Bool} {held:Bool} {r:Reach} {b0:Nat} {v:Value} {d:DataW H} {p:List MemPlace} (hv:Value.okWide Try.prog w r b0 3 v) (h:DataW.Trod enc Try.prog w 0 spare held 3 v d p):∃ a:Int,Am.VR (Am.top w) (.int .i64 a) v/\(-9223372036854775808 <= a/\a <= 9223372036854775807):=by
 obtain ⟨n,rfl⟩:=okWide_int Try.underlying3 hv
 obtain ⟨fuel,hf⟩:=h
 obtain ⟨a,h1,h2⟩:=gG Try.underlying3 hf
 exact ⟨a,cY h1 rfl,h2⟩
theorem arg82 {H:Type} {enc:TypeId × Value->H} {w:World} {spare:Nat->Bool} {held:Bool} {r:Reach} {b0:Nat} {v:Value} {d:DataW H} {p:List MemPlace} (hv:Value.okWide Try.prog w r b0 82 v) (h:DataW.Trod enc Try.prog w 0 spare held 82 v d p):∃ a:List Int,Am.VR (Am.top w) (.ro 1 a.length false (enR c_i64 a)) v/\(a.length <= maxLen/\∀ q ∈ a,(-9223372036854775808 <= q/\q <= 9223372036854775807)):=by
 obtain ⟨n,l,c,rfl⟩:=okWide_slice Try.underlying82 hv
 obtain ⟨fuel,hf⟩:=h
 obtain ⟨a,h1,h2⟩:=op_slice (R:=fun q=>(-9223372036854775808 <= q/\q <= 9223372036854775807)) (f:=c_i64) (by decide) Try.underlying82 cz3 (fun h=>gG Try.underlying3 h) hf
 exact ⟨a,cY h1 rfl,h2⟩
end Go.Proofs.Ytdcepineppafpaa
