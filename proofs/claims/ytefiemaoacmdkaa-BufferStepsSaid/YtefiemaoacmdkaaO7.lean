/-
  What a law is given, as typed values.
-/
import Derived.Test.YtefiemaoacmdkaaB
import Derived.Test.YtefiemaoacmdkaaPm10
namespace Go.Proofs.Ytefiemaoacmdkaa
open Go.Am Go.ChangeShapes Go.WideShapes
set_option linter.unusedVariables false
set_option linter.unusedSimpArgs false
set_option maxRecDepth 20000
theorem fH {H:Type} {enc:TypeId × Value->H} {w:World} {spare:Nat->Bool} {held:Bool} {fuel:Nat} {t:TypeId} {cs:List Value} {x:DataW H × List MemPlace} (hu:Try.prog.underlying t=some (.int .i64)) (h:DataW.trod enc Try.prog w 0 spare held fuel t cs=some x):∃ n:Int,Cells w (qI n) 1 cs/\(-9223372036854775808 <= n/\n <= 9223372036854775807):=by
 obtain ⟨n,h1,h2⟩:=op_int hu h
 exact ⟨n,h1,bounds_i64 h2⟩
theorem bF {H:Type} {enc:TypeId × Value->H} {w:World} {spare:Nat->Bool} {held:Bool} {fuel:Nat} {t:TypeId} {cs:List Value} {x:DataW H × List MemPlace} (hu:Try.prog.underlying t=some (.int .u8)) (h:DataW.trod enc Try.prog w 0 spare held fuel t cs=some x):∃ n:Int,Cells w (xA n) 1 cs/\(0 <= n/\n <= 255):=by
 obtain ⟨n,h1,h2⟩:=op_int hu h
 exact ⟨n,h1,bounds_u8 h2⟩
theorem op_b {H:Type} {enc:TypeId × Value->H} {w:World} {spare:Nat->Bool} {held:Bool} {fuel:Nat} {t:TypeId} {cs:List Value} {x:DataW H × List MemPlace} (hu:Try.prog.underlying t=some .bool) (h:DataW.trod enc Try.prog w 0 spare held fuel t cs=some x):∃ n:Bool,Cells w (c_b n) 1 cs/\True:=by
 obtain ⟨n,h1⟩:=op_bool hu h
 exact ⟨n,h1,trivial⟩
theorem cz5:Try.prog.cellsOf 5=1:=by kernel_rfl
theorem cz28:Try.prog.cellsOf 28=6:=by kernel_rfl
def rg_A6u8 (a:A6u8):Prop:=(0 <= a.x0/\a.x0 <= 255)/\(0 <= a.x1/\a.x1 <= 255)/\(0 <= a.x2/\a.x2 <= 255)/\(0 <= a.x3/\a.x3 <= 255)/\(0 <= a.x4/\a.x4 <= 255)/\(0 <= a.x5/\a.x5 <= 255)
theorem cR {H:Type} {enc:TypeId × Value->H} {w:World} {spare:Nat->Bool} {held:Bool} {fuel:Nat} {cs:List Value} {x:DataW H × List MemPlace} (h:DataW.trod enc Try.prog w 0 spare held fuel 28 cs=some x):∃ a:A6u8,Cells w (cG a) 6 cs/\rg_A6u8 a:=by
 obtain ⟨xs,n,hfu,_,hl,hn,hg⟩:=DataW.trod_array Try.underlying28 h
 have f0:=hg 0 (by decide)
 rw [List.getElem?_eq_getElem (by omega)] at f0
 have g0:DataW.trod enc Try.prog w 0 spare held n 5 ((cs.drop (0 * Try.prog.cellsOf 5)).take (Try.prog.cellsOf 5))=some (xs[0]'(by omega)):=f0
 rw [cz5] at g0
 obtain ⟨a0,k0,r0⟩:=bF Try.underlying5 g0
 have f1:=hg 1 (by decide)
 rw [List.getElem?_eq_getElem (by omega)] at f1
 have g1:DataW.trod enc Try.prog w 0 spare held n 5 ((cs.drop (1 * Try.prog.cellsOf 5)).take (Try.prog.cellsOf 5))=some (xs[1]'(by omega)):=f1
 rw [cz5] at g1
 obtain ⟨a1,k1,r1⟩:=bF Try.underlying5 g1
 have f2:=hg 2 (by decide)
 rw [List.getElem?_eq_getElem (by omega)] at f2
 have g2:DataW.trod enc Try.prog w 0 spare held n 5 ((cs.drop (2 * Try.prog.cellsOf 5)).take (Try.prog.cellsOf 5))=some (xs[2]'(by omega)):=f2
 rw [cz5] at g2
 obtain ⟨a2,k2,r2⟩:=bF Try.underlying5 g2
 have f3:=hg 3 (by decide)
 rw [List.getElem?_eq_getElem (by omega)] at f3
 have g3:DataW.trod enc Try.prog w 0 spare held n 5 ((cs.drop (3 * Try.prog.cellsOf 5)).take (Try.prog.cellsOf 5))=some (xs[3]'(by omega)):=f3
 rw [cz5] at g3
 obtain ⟨a3,k3,r3⟩:=bF Try.underlying5 g3
 have f4:=hg 4 (by decide)
 rw [List.getElem?_eq_getElem (by omega)] at f4
 have g4:DataW.trod enc Try.prog w 0 spare held n 5 ((cs.drop (4 * Try.prog.cellsOf 5)).take (Try.prog.cellsOf 5))=some (xs[4]'(by omega)):=f4
 rw [cz5] at g4
 obtain ⟨a4,k4,r4⟩:=bF Try.underlying5 g4
 have f5:=hg 5 (by decide)
 rw [List.getElem?_eq_getElem (by omega)] at f5
 have g5:DataW.trod enc Try.prog w 0 spare held n 5 ((cs.drop (5 * Try.prog.cellsOf 5)).take (Try.prog.cellsOf 5))=some (xs[5]'(by omega)):=f5
 rw [cz5] at g5
 obtain ⟨a5,k5,r5⟩:=bF Try.underlying5 g5
 refine ⟨⟨a0,a1,a2,a3,a4,a5⟩,⟨hl.trans cz28,fun y hy=>?_⟩,⟨r0,r1,r2,r3,r4,r5⟩⟩
 match y,hy with
 | 0,_=>have q:=zF (off:=0) (y:=0) k0 (by decide);exact q
 | 1,_=>have q:=zF (off:=1) (y:=0) k1 (by decide);exact q
 | 2,_=>have q:=zF (off:=2) (y:=0) k2 (by decide);exact q
 | 3,_=>have q:=zF (off:=3) (y:=0) k3 (by decide);exact q
 | 4,_=>have q:=zF (off:=4) (y:=0) k4 (by decide);exact q
 | 5,_=>have q:=zF (off:=5) (y:=0) k5 (by decide);exact q
 | y+6,hy=>omega
theorem cz3:Try.prog.cellsOf 3=1:=by kernel_rfl
theorem cz4:Try.prog.cellsOf 4=1:=by kernel_rfl
theorem cz30:Try.prog.cellsOf 30=40:=by kernel_rfl
def rg_THeader (a:THeader):Prop:=(0 <= a.Kind/\a.Kind <= 255)/\(0 <= a.Sub/\a.Sub <= 255)/\True/\True/\True/\True/\True/\True/\True/\(-9223372036854775808 <= a.Duration/\a.Duration <= 9223372036854775807)/\rg_A6u8 a.A1/\rg_A6u8 a.A2/\rg_A6u8 a.A3/\rg_A6u8 a.A4/\(-9223372036854775808 <= a.Seq/\a.Seq <= 9223372036854775807)/\(-9223372036854775808 <= a.Frag/\a.Frag <= 9223372036854775807)/\(-9223372036854775808 <= a.Tid/\a.Tid <= 9223372036854775807)/\(0 <= a.Ack/\a.Ack <= 255)/\True/\True
theorem op_THeader_30 {H:Type} {enc:TypeId × Value->H} {w:World} {spare:Nat->Bool} {held:Bool} {fuel:Nat} {cs:List Value} {x:DataW H × List MemPlace} (h:DataW.trod enc Try.prog w 0 spare held fuel 30 cs=some x):∃ a:THeader,Cells w (tK a) 40 cs/\rg_THeader a:=by
 obtain ⟨xs,n,hfu,_,hl,hn,hg⟩:=DataW.trod_struct Try.underlying30 h
 replace hn:xs.length=20:=hn
 have f0:=hg 0 _ rfl
 rw [List.getElem?_eq_getElem (by omega)] at f0
 have g0:DataW.trod enc Try.prog w 0 spare held n 5 ((cs.drop 0).take (Try.prog.cellsOf 5))=some (xs[0]'(by omega)):=f0
 rw [cz5] at g0
 obtain ⟨a0,k0,r0⟩:=bF Try.underlying5 g0
 have f1:=hg 1 _ rfl
 rw [List.getElem?_eq_getElem (by omega)] at f1
 have g1:DataW.trod enc Try.prog w 0 spare held n 5 ((cs.drop 1).take (Try.prog.cellsOf 5))=some (xs[1]'(by omega)):=f1
 rw [cz5] at g1
 obtain ⟨a1,k1,r1⟩:=bF Try.underlying5 g1
 have f2:=hg 2 _ rfl
 rw [List.getElem?_eq_getElem (by omega)] at f2
 have g2:DataW.trod enc Try.prog w 0 spare held n 4 ((cs.drop 2).take (Try.prog.cellsOf 4))=some (xs[2]'(by omega)):=f2
 rw [cz4] at g2
 obtain ⟨a2,k2,r2⟩:=op_b Try.underlying4 g2
 have f3:=hg 3 _ rfl
 rw [List.getElem?_eq_getElem (by omega)] at f3
 have g3:DataW.trod enc Try.prog w 0 spare held n 4 ((cs.drop 3).take (Try.prog.cellsOf 4))=some (xs[3]'(by omega)):=f3
 rw [cz4] at g3
 obtain ⟨a3,k3,r3⟩:=op_b Try.underlying4 g3
 have f4:=hg 4 _ rfl
 rw [List.getElem?_eq_getElem (by omega)] at f4
 have g4:DataW.trod enc Try.prog w 0 spare held n 4 ((cs.drop 4).take (Try.prog.cellsOf 4))=some (xs[4]'(by omega)):=f4
 rw [cz4] at g4
 obtain ⟨a4,k4,r4⟩:=op_b Try.underlying4 g4
 have f5:=hg 5 _ rfl
 rw [List.getElem?_eq_getElem (by omega)] at f5
 have g5:DataW.trod enc Try.prog w 0 spare held n 4 ((cs.drop 5).take (Try.prog.cellsOf 4))=some (xs[5]'(by omega)):=f5
 rw [cz4] at g5
 obtain ⟨a5,k5,r5⟩:=op_b Try.underlying4 g5
 have f6:=hg 6 _ rfl
 rw [List.getElem?_eq_getElem (by omega)] at f6
 have g6:DataW.trod enc Try.prog w 0 spare held n 4 ((cs.drop 6).take (Try.prog.cellsOf 4))=some (xs[6]'(by omega)):=f6
 rw [cz4] at g6
 obtain ⟨a6,k6,r6⟩:=op_b Try.underlying4 g6
 have f7:=hg 7 _ rfl
 rw [List.getElem?_eq_getElem (by omega)] at f7
 have g7:DataW.trod enc Try.prog w 0 spare held n 4 ((cs.drop 7).take (Try.prog.cellsOf 4))=some (xs[7]'(by omega)):=f7
 rw [cz4] at g7
 obtain ⟨a7,k7,r7⟩:=op_b Try.underlying4 g7
 have f8:=hg 8 _ rfl
 rw [List.getElem?_eq_getElem (by omega)] at f8
 have g8:DataW.trod enc Try.prog w 0 spare held n 4 ((cs.drop 8).take (Try.prog.cellsOf 4))=some (xs[8]'(by omega)):=f8
 rw [cz4] at g8
 obtain ⟨a8,k8,r8⟩:=op_b Try.underlying4 g8
 have f9:=hg 9 _ rfl
 rw [List.getElem?_eq_getElem (by omega)] at f9
 have g9:DataW.trod enc Try.prog w 0 spare held n 3 ((cs.drop 9).take (Try.prog.cellsOf 3))=some (xs[9]'(by omega)):=f9
 rw [cz3] at g9
 obtain ⟨a9,k9,r9⟩:=fH Try.underlying3 g9
 have f10:=hg 10 _ rfl
 rw [List.getElem?_eq_getElem (by omega)] at f10
 have g10:DataW.trod enc Try.prog w 0 spare held n 28 ((cs.drop 10).take (Try.prog.cellsOf 28))=some (xs[10]'(by omega)):=f10
 rw [cz28] at g10
 obtain ⟨a10,k10,r10⟩:=cR g10
 have f11:=hg 11 _ rfl
 rw [List.getElem?_eq_getElem (by omega)] at f11
 have g11:DataW.trod enc Try.prog w 0 spare held n 28 ((cs.drop 16).take (Try.prog.cellsOf 28))=some (xs[11]'(by omega)):=f11
 rw [cz28] at g11
 obtain ⟨a11,k11,r11⟩:=cR g11
 have f12:=hg 12 _ rfl
 rw [List.getElem?_eq_getElem (by omega)] at f12
 have g12:DataW.trod enc Try.prog w 0 spare held n 28 ((cs.drop 22).take (Try.prog.cellsOf 28))=some (xs[12]'(by omega)):=f12
 rw [cz28] at g12
 obtain ⟨a12,k12,r12⟩:=cR g12
 have f13:=hg 13 _ rfl
 rw [List.getElem?_eq_getElem (by omega)] at f13
 have g13:DataW.trod enc Try.prog w 0 spare held n 28 ((cs.drop 28).take (Try.prog.cellsOf 28))=some (xs[13]'(by omega)):=f13
 rw [cz28] at g13
 obtain ⟨a13,k13,r13⟩:=cR g13
 have f14:=hg 14 _ rfl
 rw [List.getElem?_eq_getElem (by omega)] at f14
 have g14:DataW.trod enc Try.prog w 0 spare held n 3 ((cs.drop 34).take (Try.prog.cellsOf 3))=some (xs[14]'(by omega)):=f14
 rw [cz3] at g14
 obtain ⟨a14,k14,r14⟩:=fH Try.underlying3 g14
 have f15:=hg 15 _ rfl
 rw [List.getElem?_eq_getElem (by omega)] at f15
 have g15:DataW.trod enc Try.prog w 0 spare held n 3 ((cs.drop 35).take (Try.prog.cellsOf 3))=some (xs[15]'(by omega)):=f15
 rw [cz3] at g15
 obtain ⟨a15,k15,r15⟩:=fH Try.underlying3 g15
 have f16:=hg 16 _ rfl
 rw [List.getElem?_eq_getElem (by omega)] at f16
 have g16:DataW.trod enc Try.prog w 0 spare held n 3 ((cs.drop 36).take (Try.prog.cellsOf 3))=some (xs[16]'(by omega)):=f16
 rw [cz3] at g16
 obtain ⟨a16,k16,r16⟩:=fH Try.underlying3 g16
 have f17:=hg 17 _ rfl
 rw [List.getElem?_eq_getElem (by omega)] at f17
 have g17:DataW.trod enc Try.prog w 0 spare held n 5 ((cs.drop 37).take (Try.prog.cellsOf 5))=some (xs[17]'(by omega)):=f17
 rw [cz5] at g17
 obtain ⟨a17,k17,r17⟩:=bF Try.underlying5 g17
 have f18:=hg 18 _ rfl
 rw [List.getElem?_eq_getElem (by omega)] at f18
 have g18:DataW.trod enc Try.prog w 0 spare held n 4 ((cs.drop 38).take (Try.prog.cellsOf 4))=some (xs[18]'(by omega)):=f18
 rw [cz4] at g18
 obtain ⟨a18,k18,r18⟩:=op_b Try.underlying4 g18
 have f19:=hg 19 _ rfl
 rw [List.getElem?_eq_getElem (by omega)] at f19
 have g19:DataW.trod enc Try.prog w 0 spare held n 4 ((cs.drop 39).take (Try.prog.cellsOf 4))=some (xs[19]'(by omega)):=f19
 rw [cz4] at g19
 obtain ⟨a19,k19,r19⟩:=op_b Try.underlying4 g19
 refine ⟨⟨a0,a1,a2,a3,a4,a5,a6,a7,a8,a9,a10,a11,a12,a13,a14,a15,a16,a17,a18,a19⟩,⟨hl.trans cz30,fun y hy=>?_⟩,⟨r0,r1,r2,r3,r4,r5,r6,r7,r8,r9,r10,r11,r12,r13,r14,r15,r16,r17,r18,r19⟩⟩
 match y,hy with
 | 0,_=>have q:=zF (off:=0) (y:=0) k0 (by decide);exact q
 | 1,_=>have q:=zF (off:=1) (y:=0) k1 (by decide);exact q
 | 2,_=>have q:=zF (off:=2) (y:=0) k2 (by decide);exact q
 | 3,_=>have q:=zF (off:=3) (y:=0) k3 (by decide);exact q
 | 4,_=>have q:=zF (off:=4) (y:=0) k4 (by decide);exact q
 | 5,_=>have q:=zF (off:=5) (y:=0) k5 (by decide);exact q
 | 6,_=>have q:=zF (off:=6) (y:=0) k6 (by decide);exact q
 | 7,_=>have q:=zF (off:=7) (y:=0) k7 (by decide);exact q
 | 8,_=>have q:=zF (off:=8) (y:=0) k8 (by decide);exact q
 | 9,_=>have q:=zF (off:=9) (y:=0) k9 (by decide);exact q
 | 10,_=>have q:=zF (off:=10) (y:=0) k10 (by decide);exact q
 | 11,_=>have q:=zF (off:=10) (y:=1) k10 (by decide);exact q
 | 12,_=>have q:=zF (off:=10) (y:=2) k10 (by decide);exact q
 | 13,_=>have q:=zF (off:=10) (y:=3) k10 (by decide);exact q
 | 14,_=>have q:=zF (off:=10) (y:=4) k10 (by decide);exact q
 | 15,_=>have q:=zF (off:=10) (y:=5) k10 (by decide);exact q
 | 16,_=>have q:=zF (off:=16) (y:=0) k11 (by decide);exact q
 | 17,_=>have q:=zF (off:=16) (y:=1) k11 (by decide);exact q
 | 18,_=>have q:=zF (off:=16) (y:=2) k11 (by decide);exact q
 | 19,_=>have q:=zF (off:=16) (y:=3) k11 (by decide);exact q
 | 20,_=>have q:=zF (off:=16) (y:=4) k11 (by decide);exact q
 | 21,_=>have q:=zF (off:=16) (y:=5) k11 (by decide);exact q
 | 22,_=>have q:=zF (off:=22) (y:=0) k12 (by decide);exact q
 | 23,_=>have q:=zF (off:=22) (y:=1) k12 (by decide);exact q
 | 24,_=>have q:=zF (off:=22) (y:=2) k12 (by decide);exact q
 | 25,_=>have q:=zF (off:=22) (y:=3) k12 (by decide);exact q
 | 26,_=>have q:=zF (off:=22) (y:=4) k12 (by decide);exact q
 | 27,_=>have q:=zF (off:=22) (y:=5) k12 (by decide);exact q
 | 28,_=>have q:=zF (off:=28) (y:=0) k13 (by decide);exact q
 | 29,_=>have q:=zF (off:=28) (y:=1) k13 (by decide);exact q
 | 30,_=>have q:=zF (off:=28) (y:=2) k13 (by decide);exact q
 | 31,_=>have q:=zF (off:=28) (y:=3) k13 (by decide);exact q
 | 32,_=>have q:=zF (off:=28) (y:=4) k13 (by decide);exact q
 | 33,_=>have q:=zF (off:=28) (y:=5) k13 (by decide);exact q
 | 34,_=>have q:=zF (off:=34) (y:=0) k14 (by decide);exact q
 | 35,_=>have q:=zF (off:=35) (y:=0) k15 (by decide);exact q
 | 36,_=>have q:=zF (off:=36) (y:=0) k16 (by decide);exact q
 | 37,_=>have q:=zF (off:=37) (y:=0) k17 (by decide);exact q
 | 38,_=>have q:=zF (off:=38) (y:=0) k18 (by decide);exact q
 | 39,_=>have q:=zF (off:=39) (y:=0) k19 (by decide);exact q
 | y+40,hy=>omega
theorem cz31:Try.prog.cellsOf 31=1:=by kernel_rfl
theorem cz33:Try.prog.cellsOf 33=41:=by kernel_rfl
def rg_TFrame (a:TFrame):Prop:=rg_THeader a.Head/\(a.Body.length <= maxLen/\∀ q ∈ a.Body,(0 <= q/\q <= 255))
theorem op_TFrame_33 {H:Type} {enc:TypeId × Value->H} {w:World} {spare:Nat->Bool} {held:Bool} {fuel:Nat} {cs:List Value} {x:DataW H × List MemPlace} (h:DataW.trod enc Try.prog w 0 spare held fuel 33 cs=some x):∃ a:TFrame,Cells w (zI a) 41 cs/\rg_TFrame a:=by
 obtain ⟨xs,n,hfu,_,hl,hn,hg⟩:=DataW.trod_struct Try.underlying33 h
 replace hn:xs.length=2:=hn
 have f0:=hg 0 _ rfl
 rw [List.getElem?_eq_getElem (by omega)] at f0
 have g0:DataW.trod enc Try.prog w 0 spare held n 30 ((cs.drop 0).take (Try.prog.cellsOf 30))=some (xs[0]'(by omega)):=f0
 rw [cz30] at g0
 obtain ⟨a0,k0,r0⟩:=op_THeader_30 g0
 have f1:=hg 1 _ rfl
 rw [List.getElem?_eq_getElem (by omega)] at f1
 have g1:DataW.trod enc Try.prog w 0 spare held n 31 ((cs.drop 40).take (Try.prog.cellsOf 31))=some (xs[1]'(by omega)):=f1
 rw [cz31] at g1
 obtain ⟨a1,k1,r1⟩:=op_slice (R:=fun q=>(0 <= q/\q <= 255)) (f:=xA) (by decide) Try.underlying31 cz5 (fun h=>bF Try.underlying5 h) g1
 refine ⟨⟨a0,a1⟩,⟨hl.trans cz33,fun y hy=>?_⟩,⟨r0,r1⟩⟩
 match y,hy with
 | 0,_=>have q:=zF (off:=0) (y:=0) k0 (by decide);exact q
 | 1,_=>have q:=zF (off:=0) (y:=1) k0 (by decide);exact q
 | 2,_=>have q:=zF (off:=0) (y:=2) k0 (by decide);exact q
 | 3,_=>have q:=zF (off:=0) (y:=3) k0 (by decide);exact q
 | 4,_=>have q:=zF (off:=0) (y:=4) k0 (by decide);exact q
 | 5,_=>have q:=zF (off:=0) (y:=5) k0 (by decide);exact q
 | 6,_=>have q:=zF (off:=0) (y:=6) k0 (by decide);exact q
 | 7,_=>have q:=zF (off:=0) (y:=7) k0 (by decide);exact q
 | 8,_=>have q:=zF (off:=0) (y:=8) k0 (by decide);exact q
 | 9,_=>have q:=zF (off:=0) (y:=9) k0 (by decide);exact q
 | 10,_=>have q:=zF (off:=0) (y:=10) k0 (by decide);exact q
 | 11,_=>have q:=zF (off:=0) (y:=11) k0 (by decide);exact q
 | 12,_=>have q:=zF (off:=0) (y:=12) k0 (by decide);exact q
 | 13,_=>have q:=zF (off:=0) (y:=13) k0 (by decide);exact q
 | 14,_=>have q:=zF (off:=0) (y:=14) k0 (by decide);exact q
 | 15,_=>have q:=zF (off:=0) (y:=15) k0 (by decide);exact q
 | 16,_=>have q:=zF (off:=0) (y:=16) k0 (by decide);exact q
 | 17,_=>have q:=zF (off:=0) (y:=17) k0 (by decide);exact q
 | 18,_=>have q:=zF (off:=0) (y:=18) k0 (by decide);exact q
 | 19,_=>have q:=zF (off:=0) (y:=19) k0 (by decide);exact q
 | 20,_=>have q:=zF (off:=0) (y:=20) k0 (by decide);exact q
 | 21,_=>have q:=zF (off:=0) (y:=21) k0 (by decide);exact q
 | 22,_=>have q:=zF (off:=0) (y:=22) k0 (by decide);exact q
 | 23,_=>have q:=zF (off:=0) (y:=23) k0 (by decide);exact q
 | 24,_=>have q:=zF (off:=0) (y:=24) k0 (by decide);exact q
 | 25,_=>have q:=zF (off:=0) (y:=25) k0 (by decide);exact q
 | 26,_=>have q:=zF (off:=0) (y:=26) k0 (by decide);exact q
 | 27,_=>have q:=zF (off:=0) (y:=27) k0 (by decide);exact q
 | 28,_=>have q:=zF (off:=0) (y:=28) k0 (by decide);exact q
 | 29,_=>have q:=zF (off:=0) (y:=29) k0 (by decide);exact q
 | 30,_=>have q:=zF (off:=0) (y:=30) k0 (by decide);exact q
 | 31,_=>have q:=zF (off:=0) (y:=31) k0 (by decide);exact q
 | 32,_=>have q:=zF (off:=0) (y:=32) k0 (by decide);exact q
 | 33,_=>have q:=zF (off:=0) (y:=33) k0 (by decide);exact q
 | 34,_=>have q:=zF (off:=0) (y:=34) k0 (by decide);exact q
 | 35,_=>have q:=zF (off:=0) (y:=35) k0 (by decide);exact q
 | 36,_=>have q:=zF (off:=0) (y:=36) k0 (by decide);exact q
 | 37,_=>have q:=zF (off:=0) (y:=37) k0 (by decide);exact q
 | 38,_=>have q:=zF (off:=0) (y:=38) k0 (by decide);exact q
 | 39,_=>have q:=zF (off:=0) (y:=39) k0 (by decide);exact q
 | 40,_=>have q:=zF (off:=40) (y:=0) k1 (by decide);exact q
 | y+41,hy=>omega
theorem cz61:Try.prog.cellsOf 61=43:=by kernel_rfl
def fI (a:TStored):Prop:=(0 <= a.Cat/\a.Cat <= 255)/\(-9223372036854775808 <= a.At/\a.At <= 9223372036854775807)/\rg_TFrame a.Frame
theorem op_TStored_61 {H:Type} {enc:TypeId × Value->H} {w:World} {spare:Nat->Bool} {held:Bool} {fuel:Nat} {cs:List Value} {x:DataW H × List MemPlace} (h:DataW.trod enc Try.prog w 0 spare held fuel 61 cs=some x):∃ a:TStored,Cells w (zD a) 43 cs/\fI a:=by
 obtain ⟨xs,n,hfu,_,hl,hn,hg⟩:=DataW.trod_struct Try.underlying61 h
 replace hn:xs.length=3:=hn
 have f0:=hg 0 _ rfl
 rw [List.getElem?_eq_getElem (by omega)] at f0
 have g0:DataW.trod enc Try.prog w 0 spare held n 5 ((cs.drop 0).take (Try.prog.cellsOf 5))=some (xs[0]'(by omega)):=f0
 rw [cz5] at g0
 obtain ⟨a0,k0,r0⟩:=bF Try.underlying5 g0
 have f1:=hg 1 _ rfl
 rw [List.getElem?_eq_getElem (by omega)] at f1
 have g1:DataW.trod enc Try.prog w 0 spare held n 3 ((cs.drop 1).take (Try.prog.cellsOf 3))=some (xs[1]'(by omega)):=f1
 rw [cz3] at g1
 obtain ⟨a1,k1,r1⟩:=fH Try.underlying3 g1
 have f2:=hg 2 _ rfl
 rw [List.getElem?_eq_getElem (by omega)] at f2
 have g2:DataW.trod enc Try.prog w 0 spare held n 33 ((cs.drop 2).take (Try.prog.cellsOf 33))=some (xs[2]'(by omega)):=f2
 rw [cz33] at g2
 obtain ⟨a2,k2,r2⟩:=op_TFrame_33 g2
 refine ⟨⟨a0,a1,a2⟩,⟨hl.trans cz61,fun y hy=>?_⟩,⟨r0,r1,r2⟩⟩
 match y,hy with
 | 0,_=>have q:=zF (off:=0) (y:=0) k0 (by decide);exact q
 | 1,_=>have q:=zF (off:=1) (y:=0) k1 (by decide);exact q
 | 2,_=>have q:=zF (off:=2) (y:=0) k2 (by decide);exact q
 | 3,_=>have q:=zF (off:=2) (y:=1) k2 (by decide);exact q
 | 4,_=>have q:=zF (off:=2) (y:=2) k2 (by decide);exact q
 | 5,_=>have q:=zF (off:=2) (y:=3) k2 (by decide);exact q
 | 6,_=>have q:=zF (off:=2) (y:=4) k2 (by decide);exact q
 | 7,_=>have q:=zF (off:=2) (y:=5) k2 (by decide);exact q
 | 8,_=>have q:=zF (off:=2) (y:=6) k2 (by decide);exact q
 | 9,_=>have q:=zF (off:=2) (y:=7) k2 (by decide);exact q
 | 10,_=>have q:=zF (off:=2) (y:=8) k2 (by decide);exact q
 | 11,_=>have q:=zF (off:=2) (y:=9) k2 (by decide);exact q
 | 12,_=>have q:=zF (off:=2) (y:=10) k2 (by decide);exact q
 | 13,_=>have q:=zF (off:=2) (y:=11) k2 (by decide);exact q
 | 14,_=>have q:=zF (off:=2) (y:=12) k2 (by decide);exact q
 | 15,_=>have q:=zF (off:=2) (y:=13) k2 (by decide);exact q
 | 16,_=>have q:=zF (off:=2) (y:=14) k2 (by decide);exact q
 | 17,_=>have q:=zF (off:=2) (y:=15) k2 (by decide);exact q
 | 18,_=>have q:=zF (off:=2) (y:=16) k2 (by decide);exact q
 | 19,_=>have q:=zF (off:=2) (y:=17) k2 (by decide);exact q
 | 20,_=>have q:=zF (off:=2) (y:=18) k2 (by decide);exact q
 | 21,_=>have q:=zF (off:=2) (y:=19) k2 (by decide);exact q
 | 22,_=>have q:=zF (off:=2) (y:=20) k2 (by decide);exact q
 | 23,_=>have q:=zF (off:=2) (y:=21) k2 (by decide);exact q
 | 24,_=>have q:=zF (off:=2) (y:=22) k2 (by decide);exact q
 | 25,_=>have q:=zF (off:=2) (y:=23) k2 (by decide);exact q
 | 26,_=>have q:=zF (off:=2) (y:=24) k2 (by decide);exact q
 | 27,_=>have q:=zF (off:=2) (y:=25) k2 (by decide);exact q
 | 28,_=>have q:=zF (off:=2) (y:=26) k2 (by decide);exact q
 | 29,_=>have q:=zF (off:=2) (y:=27) k2 (by decide);exact q
 | 30,_=>have q:=zF (off:=2) (y:=28) k2 (by decide);exact q
 | 31,_=>have q:=zF (off:=2) (y:=29) k2 (by decide);exact q
 | 32,_=>have q:=zF (off:=2) (y:=30) k2 (by decide);exact q
 | 33,_=>have q:=zF (off:=2) (y:=31) k2 (by decide);exact q
 | 34,_=>have q:=zF (off:=2) (y:=32) k2 (by decide);exact q
 | 35,_=>have q:=zF (off:=2) (y:=33) k2 (by decide);exact q
 | 36,_=>have q:=zF (off:=2) (y:=34) k2 (by decide);exact q
 | 37,_=>have q:=zF (off:=2) (y:=35) k2 (by decide);exact q
 | 38,_=>have q:=zF (off:=2) (y:=36) k2 (by decide);exact q
 | 39,_=>have q:=zF (off:=2) (y:=37) k2 (by decide);exact q
 | 40,_=>have q:=zF (off:=2) (y:=38) k2 (by decide);exact q
 | 41,_=>have q:=zF (off:=2) (y:=39) k2 (by decide);exact q
 | 42,_=>have q:=zF (off:=2) (y:=40) k2 (by decide);exact q
 | y+43,hy=>omega
theorem cz23:Try.prog.cellsOf 23=1:=by kernel_rfl
theorem cz57:Try.prog.cellsOf 57=3:=by kernel_rfl
def rg_TSleeper (a:TSleeper):Prop:=(-9223372036854775808 <= a.Aid/\a.Aid <= 9223372036854775807)/\True/\(a.Held.length <= maxLen/\∀ q ∈ a.Held,fI q)
theorem op_TSleeper_57 {H:Type} {enc:TypeId × Value->H} {w:World} {spare:Nat->Bool} {held:Bool} {fuel:Nat} {cs:List Value} {x:DataW H × List MemPlace} (h:DataW.trod enc Try.prog w 0 spare held fuel 57 cs=some x):∃ a:TSleeper,Cells w (zC a) 3 cs/\rg_TSleeper a:=by
 obtain ⟨xs,n,hfu,_,hl,hn,hg⟩:=DataW.trod_struct Try.underlying57 h
 replace hn:xs.length=3:=hn
 have f0:=hg 0 _ rfl
 rw [List.getElem?_eq_getElem (by omega)] at f0
 have g0:DataW.trod enc Try.prog w 0 spare held n 3 ((cs.drop 0).take (Try.prog.cellsOf 3))=some (xs[0]'(by omega)):=f0
 rw [cz3] at g0
 obtain ⟨a0,k0,r0⟩:=fH Try.underlying3 g0
 have f1:=hg 1 _ rfl
 rw [List.getElem?_eq_getElem (by omega)] at f1
 have g1:DataW.trod enc Try.prog w 0 spare held n 4 ((cs.drop 1).take (Try.prog.cellsOf 4))=some (xs[1]'(by omega)):=f1
 rw [cz4] at g1
 obtain ⟨a1,k1,r1⟩:=op_b Try.underlying4 g1
 have f2:=hg 2 _ rfl
 rw [List.getElem?_eq_getElem (by omega)] at f2
 have g2:DataW.trod enc Try.prog w 0 spare held n 23 ((cs.drop 2).take (Try.prog.cellsOf 23))=some (xs[2]'(by omega)):=f2
 rw [cz23] at g2
 obtain ⟨a2,k2,r2⟩:=op_slice (R:=fun q=>fI q) (f:=zD) (by decide) Try.underlying23 cz61 (fun h=>op_TStored_61 h) g2
 refine ⟨⟨a0,a1,a2⟩,⟨hl.trans cz57,fun y hy=>?_⟩,⟨r0,r1,r2⟩⟩
 match y,hy with
 | 0,_=>have q:=zF (off:=0) (y:=0) k0 (by decide);exact q
 | 1,_=>have q:=zF (off:=1) (y:=0) k1 (by decide);exact q
 | 2,_=>have q:=zF (off:=2) (y:=0) k2 (by decide);exact q
 | y+3,hy=>omega
theorem cz22:Try.prog.cellsOf 22=1:=by kernel_rfl
theorem cz25:Try.prog.cellsOf 25=4:=by kernel_rfl
def rg_TBuffer (a:TBuffer):Prop:=(-9223372036854775808 <= a.Limit/\a.Limit <= 9223372036854775807)/\(-9223372036854775808 <= a.Stay/\a.Stay <= 9223372036854775807)/\(a.List.length <= maxLen/\∀ q ∈ a.List,rg_TSleeper q)/\(a.Group.length <= maxLen/\∀ q ∈ a.Group,fI q)
theorem op_TBuffer_25 {H:Type} {enc:TypeId × Value->H} {w:World} {spare:Nat->Bool} {held:Bool} {fuel:Nat} {cs:List Value} {x:DataW H × List MemPlace} (h:DataW.trod enc Try.prog w 0 spare held fuel 25 cs=some x):∃ a:TBuffer,Cells w (xB a) 4 cs/\rg_TBuffer a:=by
 obtain ⟨xs,n,hfu,_,hl,hn,hg⟩:=DataW.trod_struct Try.underlying25 h
 replace hn:xs.length=4:=hn
 have f0:=hg 0 _ rfl
 rw [List.getElem?_eq_getElem (by omega)] at f0
 have g0:DataW.trod enc Try.prog w 0 spare held n 3 ((cs.drop 0).take (Try.prog.cellsOf 3))=some (xs[0]'(by omega)):=f0
 rw [cz3] at g0
 obtain ⟨a0,k0,r0⟩:=fH Try.underlying3 g0
 have f1:=hg 1 _ rfl
 rw [List.getElem?_eq_getElem (by omega)] at f1
 have g1:DataW.trod enc Try.prog w 0 spare held n 3 ((cs.drop 1).take (Try.prog.cellsOf 3))=some (xs[1]'(by omega)):=f1
 rw [cz3] at g1
 obtain ⟨a1,k1,r1⟩:=fH Try.underlying3 g1
 have f2:=hg 2 _ rfl
 rw [List.getElem?_eq_getElem (by omega)] at f2
 have g2:DataW.trod enc Try.prog w 0 spare held n 22 ((cs.drop 2).take (Try.prog.cellsOf 22))=some (xs[2]'(by omega)):=f2
 rw [cz22] at g2
 obtain ⟨a2,k2,r2⟩:=op_slice (R:=fun q=>rg_TSleeper q) (f:=zC) (by decide) Try.underlying22 cz57 (fun h=>op_TSleeper_57 h) g2
 have f3:=hg 3 _ rfl
 rw [List.getElem?_eq_getElem (by omega)] at f3
 have g3:DataW.trod enc Try.prog w 0 spare held n 23 ((cs.drop 3).take (Try.prog.cellsOf 23))=some (xs[3]'(by omega)):=f3
 rw [cz23] at g3
 obtain ⟨a3,k3,r3⟩:=op_slice (R:=fun q=>fI q) (f:=zD) (by decide) Try.underlying23 cz61 (fun h=>op_TStored_61 h) g3
 refine ⟨⟨a0,a1,a2,a3⟩,⟨hl.trans cz25,fun y hy=>?_⟩,⟨r0,r1,r2,r3⟩⟩
 match y,hy with
 | 0,_=>have q:=zF (off:=0) (y:=0) k0 (by decide);exact q
 | 1,_=>have q:=zF (off:=1) (y:=0) k1 (by decide);exact q
 | 2,_=>have q:=zF (off:=2) (y:=0) k2 (by decide);exact q
 | 3,_=>have q:=zF (off:=3) (y:=0) k3 (by decide);exact q
 | y+4,hy=>omega
theorem arg25 {H:Type} {enc:TypeId × Value->H} {w:World} {spare:Nat->Bool} {held:Bool} {r:Reach} {b0:Nat} {v:Value} {d:DataW H} {p:List MemPlace} (hv:Value.okWide Try.prog w r b0 25 v) (h:DataW.Trod enc Try.prog w 0 spare held 25 v d p):∃ a:TBuffer,Am.VR (Am.top w) (.agg (xB a)) v/\rg_TBuffer a:=by
 obtain ⟨cs,rfl,hs⟩:=okWide_struct Try.underlying25 hv
 obtain ⟨fuel,hf⟩:=h
 obtain ⟨a,h1,h2⟩:=op_TBuffer_25 hf
 exact ⟨a,Cells_agg h1 rfl,h2⟩
theorem cz70:Try.prog.cellsOf 70=45:=by kernel_rfl
def rg_TStep (a:TStep):Prop:=(-9223372036854775808 <= a.Kind/\a.Kind <= 9223372036854775807)/\(-9223372036854775808 <= a.Aid/\a.Aid <= 9223372036854775807)/\(0 <= a.Cat/\a.Cat <= 255)/\(-9223372036854775808 <= a.Now/\a.Now <= 9223372036854775807)/\rg_TFrame a.Frame
theorem op_TStep_70 {H:Type} {enc:TypeId × Value->H} {w:World} {spare:Nat->Bool} {held:Bool} {fuel:Nat} {cs:List Value} {x:DataW H × List MemPlace} (h:DataW.trod enc Try.prog w 0 spare held fuel 70 cs=some x):∃ a:TStep,Cells w (wP a) 45 cs/\rg_TStep a:=by
 obtain ⟨xs,n,hfu,_,hl,hn,hg⟩:=DataW.trod_struct Try.underlying70 h
 replace hn:xs.length=5:=hn
 have f0:=hg 0 _ rfl
 rw [List.getElem?_eq_getElem (by omega)] at f0
 have g0:DataW.trod enc Try.prog w 0 spare held n 3 ((cs.drop 0).take (Try.prog.cellsOf 3))=some (xs[0]'(by omega)):=f0
 rw [cz3] at g0
 obtain ⟨a0,k0,r0⟩:=fH Try.underlying3 g0
 have f1:=hg 1 _ rfl
 rw [List.getElem?_eq_getElem (by omega)] at f1
 have g1:DataW.trod enc Try.prog w 0 spare held n 3 ((cs.drop 1).take (Try.prog.cellsOf 3))=some (xs[1]'(by omega)):=f1
 rw [cz3] at g1
 obtain ⟨a1,k1,r1⟩:=fH Try.underlying3 g1
 have f2:=hg 2 _ rfl
 rw [List.getElem?_eq_getElem (by omega)] at f2
 have g2:DataW.trod enc Try.prog w 0 spare held n 5 ((cs.drop 2).take (Try.prog.cellsOf 5))=some (xs[2]'(by omega)):=f2
 rw [cz5] at g2
 obtain ⟨a2,k2,r2⟩:=bF Try.underlying5 g2
 have f3:=hg 3 _ rfl
 rw [List.getElem?_eq_getElem (by omega)] at f3
 have g3:DataW.trod enc Try.prog w 0 spare held n 3 ((cs.drop 3).take (Try.prog.cellsOf 3))=some (xs[3]'(by omega)):=f3
 rw [cz3] at g3
 obtain ⟨a3,k3,r3⟩:=fH Try.underlying3 g3
 have f4:=hg 4 _ rfl
 rw [List.getElem?_eq_getElem (by omega)] at f4
 have g4:DataW.trod enc Try.prog w 0 spare held n 33 ((cs.drop 4).take (Try.prog.cellsOf 33))=some (xs[4]'(by omega)):=f4
 rw [cz33] at g4
 obtain ⟨a4,k4,r4⟩:=op_TFrame_33 g4
 refine ⟨⟨a0,a1,a2,a3,a4⟩,⟨hl.trans cz70,fun y hy=>?_⟩,⟨r0,r1,r2,r3,r4⟩⟩
 match y,hy with
 | 0,_=>have q:=zF (off:=0) (y:=0) k0 (by decide);exact q
 | 1,_=>have q:=zF (off:=1) (y:=0) k1 (by decide);exact q
 | 2,_=>have q:=zF (off:=2) (y:=0) k2 (by decide);exact q
 | 3,_=>have q:=zF (off:=3) (y:=0) k3 (by decide);exact q
 | 4,_=>have q:=zF (off:=4) (y:=0) k4 (by decide);exact q
 | 5,_=>have q:=zF (off:=4) (y:=1) k4 (by decide);exact q
 | 6,_=>have q:=zF (off:=4) (y:=2) k4 (by decide);exact q
 | 7,_=>have q:=zF (off:=4) (y:=3) k4 (by decide);exact q
 | 8,_=>have q:=zF (off:=4) (y:=4) k4 (by decide);exact q
 | 9,_=>have q:=zF (off:=4) (y:=5) k4 (by decide);exact q
 | 10,_=>have q:=zF (off:=4) (y:=6) k4 (by decide);exact q
 | 11,_=>have q:=zF (off:=4) (y:=7) k4 (by decide);exact q
 | 12,_=>have q:=zF (off:=4) (y:=8) k4 (by decide);exact q
 | 13,_=>have q:=zF (off:=4) (y:=9) k4 (by decide);exact q
 | 14,_=>have q:=zF (off:=4) (y:=10) k4 (by decide);exact q
 | 15,_=>have q:=zF (off:=4) (y:=11) k4 (by decide);exact q
 | 16,_=>have q:=zF (off:=4) (y:=12) k4 (by decide);exact q
 | 17,_=>have q:=zF (off:=4) (y:=13) k4 (by decide);exact q
 | 18,_=>have q:=zF (off:=4) (y:=14) k4 (by decide);exact q
 | 19,_=>have q:=zF (off:=4) (y:=15) k4 (by decide);exact q
 | 20,_=>have q:=zF (off:=4) (y:=16) k4 (by decide);exact q
 | 21,_=>have q:=zF (off:=4) (y:=17) k4 (by decide);exact q
 | 22,_=>have q:=zF (off:=4) (y:=18) k4 (by decide);exact q
 | 23,_=>have q:=zF (off:=4) (y:=19) k4 (by decide);exact q
 | 24,_=>have q:=zF (off:=4) (y:=20) k4 (by decide);exact q
 | 25,_=>have q:=zF (off:=4) (y:=21) k4 (by decide);exact q
 | 26,_=>have q:=zF (off:=4) (y:=22) k4 (by decide);exact q
 | 27,_=>have q:=zF (off:=4) (y:=23) k4 (by decide);exact q
 | 28,_=>have q:=zF (off:=4) (y:=24) k4 (by decide);exact q
 | 29,_=>have q:=zF (off:=4) (y:=25) k4 (by decide);exact q
 | 30,_=>have q:=zF (off:=4) (y:=26) k4 (by decide);exact q
 | 31,_=>have q:=zF (off:=4) (y:=27) k4 (by decide);exact q
 | 32,_=>have q:=zF (off:=4) (y:=28) k4 (by decide);exact q
 | 33,_=>have q:=zF (off:=4) (y:=29) k4 (by decide);exact q
 | 34,_=>have q:=zF (off:=4) (y:=30) k4 (by decide);exact q
 | 35,_=>have q:=zF (off:=4) (y:=31) k4 (by decide);exact q
 | 36,_=>have q:=zF (off:=4) (y:=32) k4 (by decide);exact q
 | 37,_=>have q:=zF (off:=4) (y:=33) k4 (by decide);exact q
 | 38,_=>have q:=zF (off:=4) (y:=34) k4 (by decide);exact q
 | 39,_=>have q:=zF (off:=4) (y:=35) k4 (by decide);exact q
 | 40,_=>have q:=zF (off:=4) (y:=36) k4 (by decide);exact q
 | 41,_=>have q:=zF (off:=4) (y:=37) k4 (by decide);exact q
 | 42,_=>have q:=zF (off:=4) (y:=38) k4 (by decide);exact q
 | 43,_=>have q:=zF (off:=4) (y:=39) k4 (by decide);exact q
 | 44,_=>have q:=zF (off:=4) (y:=40) k4 (by decide);exact q
 | y+45,hy=>omega
theorem arg70 {H:Type} {enc:TypeId × Value->H} {w:World} {spare:Nat->Bool} {held:Bool} {r:Reach} {b0:Nat} {v:Value} {d:DataW H} {p:List MemPlace} (hv:Value.okWide Try.prog w r b0 70 v) (h:DataW.Trod enc Try.prog w 0 spare held 70 v d p):∃ a:TStep,Am.VR (Am.top w) (.agg (wP a)) v/\rg_TStep a:=by
 obtain ⟨cs,rfl,hs⟩:=okWide_struct Try.underlying70 hv
 obtain ⟨fuel,hf⟩:=h
 obtain ⟨a,h1,h2⟩:=op_TStep_70 hf
 exact ⟨a,Cells_agg h1 rfl,h2⟩
end Go.Proofs.Ytefiemaoacmdkaa
