/-
  Go's values as typed values.
-/
import Derived.Test.YtdcepineppafpaaT
import Derived.Test.YtdcepineppafpaaPm10
namespace Go.Proofs.Ytdcepineppafpaa
open Go.Am
set_option linter.unusedVariables false
set_option linter.unusedSimpArgs false
def kE (a:Int):List AV:=[.int .u8 a]
def bT (f:Nat->AV):Int:=iA (f 0)
def k_u8 (f:Nat->AV):Prop:=iK .u8 (f 0)
theorem gc_u8 (a:Int):bT (zL (kE a))=a:=by
 simp only [bT,kE,zL,iA,bA,sA,lA]
theorem kc_u8 (a:Int):k_u8 (zL (kE a)):=by
 simp only [k_u8,kE,zL,iK,bK,sK,lK,or_true,true_and,and_true,and_self]
theorem nr_u8 (a:Int):nrefL (kE a):=by simp only [kE,nrefL,nref,and_self]
instance:NOf kE:=⟨fun a=>by simp only [kE,xY,noro,and_self]⟩
instance:NRf kE:=⟨nr_u8⟩
instance:KCf k_u8 kE:=⟨kc_u8⟩
theorem w_u8 {f:Nat->AV} (h:k_u8 f):∀ y,y < 1->WkV (zL (kE (bT f)) y) (f y)/\nref (zL (kE (bT f)) y):=by
 have h0:=h
 intro y hy
 match y,hy with
 | 0,_=>exact zK h0
 | y+1,hy=>omega
theorem e_u8_0 (l:List Int) (x:Nat):enR kE l x 0 = .int .u8 (gd l x):=rfl
theorem fit_u8 (n:Nat) (l:List Int):Fit k_u8 n (enR kE l)=True:=eq_true (Fit_enR kc_u8)
theorem de_u8 (l:List Int):deR bT l.length (enR kE l)=l:=deR_enR gc_u8 l
def c_i64 (a:Int):List AV:=[.int .i64 a]
def g_i64 (f:Nat->AV):Int:=iA (f 0)
def dV (f:Nat->AV):Prop:=iK .i64 (f 0)
theorem gc_i64 (a:Int):g_i64 (zL (c_i64 a))=a:=by
 simp only [g_i64,c_i64,zL,iA,bA,sA,lA]
theorem kc_i64 (a:Int):dV (zL (c_i64 a)):=by
 simp only [dV,c_i64,zL,iK,bK,sK,lK,or_true,true_and,and_true,and_self]
theorem xN (a:Int):nrefL (c_i64 a):=by simp only [c_i64,nrefL,nref,and_self]
instance:NOf c_i64:=⟨fun a=>by simp only [c_i64,xY,noro,and_self]⟩
instance:NRf c_i64:=⟨xN⟩
instance:KCf dV c_i64:=⟨kc_i64⟩
theorem w_i64 {f:Nat->AV} (h:dV f):∀ y,y < 1->WkV (zL (c_i64 (g_i64 f)) y) (f y)/\nref (zL (c_i64 (g_i64 f)) y):=by
 have h0:=h
 intro y hy
 match y,hy with
 | 0,_=>exact zK h0
 | y+1,hy=>omega
theorem e_i64_0 (l:List Int) (x:Nat):enR c_i64 l x 0 = .int .i64 (gd l x):=rfl
theorem fit_i64 (n:Nat) (l:List Int):Fit dV n (enR c_i64 l)=True:=eq_true (Fit_enR kc_i64)
theorem de_i64 (l:List Int):deR g_i64 l.length (enR c_i64 l)=l:=deR_enR gc_i64 l
def c_b (a:Bool):List AV:=[.bool a]
def g_b (f:Nat->AV):Bool:=bA (f 0)
def k_b (f:Nat->AV):Prop:=bK (f 0)
theorem gc_b (a:Bool):g_b (zL (c_b a))=a:=by
 simp only [g_b,c_b,zL,iA,bA,sA,lA]
theorem kc_b (a:Bool):k_b (zL (c_b a)):=by
 simp only [k_b,c_b,zL,iK,bK,sK,lK,or_true,true_and,and_true,and_self]
theorem nr_b (a:Bool):nrefL (c_b a):=by simp only [c_b,nrefL,nref,and_self]
instance:NOf c_b:=⟨fun a=>by simp only [c_b,xY,noro,and_self]⟩
instance:NRf c_b:=⟨nr_b⟩
instance:KCf k_b c_b:=⟨kc_b⟩
theorem w_b {f:Nat->AV} (h:k_b f):∀ y,y < 1->WkV (zL (c_b (g_b f)) y) (f y)/\nref (zL (c_b (g_b f)) y):=by
 have h0:=h
 intro y hy
 match y,hy with
 | 0,_=>exact vZ h0
 | y+1,hy=>omega
theorem e_b_0 (l:List Bool) (x:Nat):enR c_b l x 0 = .bool (gd l x):=rfl
theorem fit_b (n:Nat) (l:List Bool):Fit k_b n (enR c_b l)=True:=eq_true (Fit_enR kc_b)
theorem de_b (l:List Bool):deR g_b l.length (enR c_b l)=l:=deR_enR gc_b l
structure A6u8 where
 x0:Int
 x1:Int
 x2:Int
 x3:Int
 x4:Int
 x5:Int
 deriving Inhabited
def wE (a:A6u8):List AV:=[.int .u8 a.x0,.int .u8 a.x1,.int .u8 a.x2,.int .u8 a.x3,.int .u8 a.x4,.int .u8 a.x5]
def yB (f:Nat->AV):A6u8:=⟨iA (f 0),iA (f 1),iA (f 2),iA (f 3),iA (f 4),iA (f 5)⟩
def tB (f:Nat->AV):Prop:=iK .u8 (f 0)/\iK .u8 (f 1)/\iK .u8 (f 2)/\iK .u8 (f 3)/\iK .u8 (f 4)/\iK .u8 (f 5)
theorem gc_A6u8 (a:A6u8):yB (zL (wE a))=a:=by
 simp only [yB,wE,zL,iA,bA,sA,lA]
theorem kc_A6u8 (a:A6u8):tB (zL (wE a)):=by
 simp only [tB,wE,zL,iK,bK,sK,lK,or_true,true_and,and_true,and_self]
theorem nr_A6u8 (a:A6u8):nrefL (wE a):=by simp only [wE,nrefL,nref,and_self]
instance:NOf wE:=⟨fun a=>by simp only [wE,xY,noro,and_self]⟩
instance:NRf wE:=⟨nr_A6u8⟩
instance:KCf tB wE:=⟨kc_A6u8⟩
theorem w_A6u8 {f:Nat->AV} (h:tB f):∀ y,y < 6->WkV (zL (wE (yB f)) y) (f y)/\nref (zL (wE (yB f)) y):=by
 obtain ⟨h0,h1,h2,h3,h4,h5⟩:=h
 intro y hy
 match y,hy with
 | 0,_=>exact zK h0
 | 1,_=>exact zK h1
 | 2,_=>exact zK h2
 | 3,_=>exact zK h3
 | 4,_=>exact zK h4
 | 5,_=>exact zK h5
 | y+6,hy=>omega
theorem e_A6u8_0 (l:List A6u8) (x:Nat):enR wE l x 0 = .int .u8 ((gd l x).x0):=rfl
theorem e_A6u8_1 (l:List A6u8) (x:Nat):enR wE l x 1 = .int .u8 ((gd l x).x1):=rfl
theorem e_A6u8_2 (l:List A6u8) (x:Nat):enR wE l x 2 = .int .u8 ((gd l x).x2):=rfl
theorem e_A6u8_3 (l:List A6u8) (x:Nat):enR wE l x 3 = .int .u8 ((gd l x).x3):=rfl
theorem e_A6u8_4 (l:List A6u8) (x:Nat):enR wE l x 4 = .int .u8 ((gd l x).x4):=rfl
theorem e_A6u8_5 (l:List A6u8) (x:Nat):enR wE l x 5 = .int .u8 ((gd l x).x5):=rfl
theorem fit_A6u8 (n:Nat) (l:List A6u8):Fit tB n (enR wE l)=True:=eq_true (Fit_enR kc_A6u8)
theorem de_A6u8 (l:List A6u8):deR yB l.length (enR wE l)=l:=deR_enR gc_A6u8 l
theorem uA (a:A6u8):A6u8.mk a.x0 a.x1 a.x2 a.x3 a.x4 a.x5=a:=rfl
theorem hZ {v:AV} (h:aK 6 tB v):WkV (.agg (wE (yB (aL v)))) v/\nref (.agg (wE (yB (aL v)))):=aK_wk (f:=wE) (g:=yB) (fun r h=>w_A6u8 h) rfl (by simp only [wE,nrefL,nref,and_self]) h
structure TRootWord where
 Root:A6u8
 Seq:Int
 Hops:Int
 Cost:Int
 Gate:Bool
 deriving Inhabited
def yF (a:TRootWord):List AV:=[.int .u8 a.Root.x0,.int .u8 a.Root.x1,.int .u8 a.Root.x2,.int .u8 a.Root.x3,.int .u8 a.Root.x4,.int .u8 a.Root.x5,.int .i64 a.Seq,.int .i64 a.Hops,.int .i64 a.Cost,.bool a.Gate]
def zZ (f:Nat->AV):TRootWord:=⟨⟨iA (f 0),iA (f 1),iA (f 2),iA (f 3),iA (f 4),iA (f 5)⟩,iA (f 6),iA (f 7),iA (f 8),bA (f 9)⟩
def wH (f:Nat->AV):Prop:=iK .u8 (f 0)/\iK .u8 (f 1)/\iK .u8 (f 2)/\iK .u8 (f 3)/\iK .u8 (f 4)/\iK .u8 (f 5)/\iK .i64 (f 6)/\iK .i64 (f 7)/\iK .i64 (f 8)/\bK (f 9)
theorem bU (a:TRootWord):zZ (zL (yF a))=a:=by
 simp only [zZ,yF,zL,iA,bA,sA,lA]
theorem fM (a:TRootWord):wH (zL (yF a)):=by
 simp only [wH,yF,zL,iK,bK,sK,lK,or_true,true_and,and_true,and_self]
theorem kI (a:TRootWord):nrefL (yF a):=by simp only [yF,nrefL,nref,and_self]
instance:NOf yF:=⟨fun a=>by simp only [yF,xY,noro,and_self]⟩
instance:NRf yF:=⟨kI⟩
instance:KCf wH yF:=⟨fM⟩
theorem w_TRootWord {f:Nat->AV} (h:wH f):∀ y,y < 10->WkV (zL (yF (zZ f)) y) (f y)/\nref (zL (yF (zZ f)) y):=by
 obtain ⟨h0,h1,h2,h3,h4,h5,h6,h7,h8,h9⟩:=h
 intro y hy
 match y,hy with
 | 0,_=>exact zK h0
 | 1,_=>exact zK h1
 | 2,_=>exact zK h2
 | 3,_=>exact zK h3
 | 4,_=>exact zK h4
 | 5,_=>exact zK h5
 | 6,_=>exact zK h6
 | 7,_=>exact zK h7
 | 8,_=>exact zK h8
 | 9,_=>exact vZ h9
 | y+10,hy=>omega
theorem e_TRootWord_0 (l:List TRootWord) (x:Nat):enR yF l x 0 = .int .u8 (((gd l x).Root).x0):=rfl
theorem e_TRootWord_1 (l:List TRootWord) (x:Nat):enR yF l x 1 = .int .u8 (((gd l x).Root).x1):=rfl
theorem e_TRootWord_2 (l:List TRootWord) (x:Nat):enR yF l x 2 = .int .u8 (((gd l x).Root).x2):=rfl
theorem e_TRootWord_3 (l:List TRootWord) (x:Nat):enR yF l x 3 = .int .u8 (((gd l x).Root).x3):=rfl
theorem e_TRootWord_4 (l:List TRootWord) (x:Nat):enR yF l x 4 = .int .u8 (((gd l x).Root).x4):=rfl
theorem e_TRootWord_5 (l:List TRootWord) (x:Nat):enR yF l x 5 = .int .u8 (((gd l x).Root).x5):=rfl
theorem e_TRootWord_6 (l:List TRootWord) (x:Nat):enR yF l x 6 = .int .i64 ((gd l x).Seq):=rfl
theorem e_TRootWord_7 (l:List TRootWord) (x:Nat):enR yF l x 7 = .int .i64 ((gd l x).Hops):=rfl
theorem e_TRootWord_8 (l:List TRootWord) (x:Nat):enR yF l x 8 = .int .i64 ((gd l x).Cost):=rfl
theorem e_TRootWord_9 (l:List TRootWord) (x:Nat):enR yF l x 9 = .bool ((gd l x).Gate):=rfl
theorem fit_TRootWord (n:Nat) (l:List TRootWord):Fit wH n (enR yF l)=True:=eq_true (Fit_enR fM)
theorem de_TRootWord (l:List TRootWord):deR zZ l.length (enR yF l)=l:=deR_enR bU l
theorem gE (a:TRootWord):TRootWord.mk a.Root a.Seq a.Hops a.Cost a.Gate=a:=rfl
theorem fS {v:AV} (h:aK 10 wH v):WkV (.agg (yF (zZ (aL v)))) v/\nref (.agg (yF (zZ (aL v)))):=aK_wk (f:=yF) (g:=zZ) (fun r h=>w_TRootWord h) rfl (by simp only [yF,nrefL,nref,and_self]) h
def eB (a:List Int):List AV:=[.ro 1 a.length false (enR kE a)]
def g_lu8 (f:Nat->AV):List Int:=lA bT (f 0)
def k_lu8 (f:Nat->AV):Prop:=lK k_u8 1 (f 0)
theorem gc_lu8 (a:List Int):g_lu8 (zL (eB a))=a:=by
 simp only [g_lu8,eB,zL,iA,bA,sA,lA,deR_enR gc_u8]
theorem kc_lu8 (a:List Int):k_lu8 (zL (eB a)):=by
 simp only [k_lu8,eB,zL,iK,bK,sK,lK,or_true,true_and,and_true,and_self,Fit_enR kc_u8]
theorem nr_lu8 (a:List Int):nrefL (eB a):=by simp only [eB,nrefL,nref,and_self]
instance:NRf eB:=⟨nr_lu8⟩
instance:KCf k_lu8 eB:=⟨kc_lu8⟩
theorem e_lu8_0 (l:List (List Int)) (x:Nat):enR eB l x 0 = .ro 1 (gd l x).length false (enR kE (gd l x)):=rfl
theorem fit_lu8 (n:Nat) (l:List (List Int)):Fit k_lu8 n (enR eB l)=True:=eq_true (Fit_enR kc_lu8)
theorem de_lu8 (l:List (List Int)):deR g_lu8 l.length (enR eB l)=l:=deR_enR gc_lu8 l
structure TTree where
 Root:A6u8
 Parent:A6u8
 Seq:Int
 Hops:Int
 Cost:Int
 Gate:Bool
 Until:Int
 deriving Inhabited
def zH (a:TTree):List AV:=[.int .u8 a.Root.x0,.int .u8 a.Root.x1,.int .u8 a.Root.x2,.int .u8 a.Root.x3,.int .u8 a.Root.x4,.int .u8 a.Root.x5,.int .u8 a.Parent.x0,.int .u8 a.Parent.x1,.int .u8 a.Parent.x2,.int .u8 a.Parent.x3,.int .u8 a.Parent.x4,.int .u8 a.Parent.x5,.int .i64 a.Seq,.int .i64 a.Hops,.int .i64 a.Cost,.bool a.Gate,.int .i64 a.Until]
def zV (f:Nat->AV):TTree:=⟨⟨iA (f 0),iA (f 1),iA (f 2),iA (f 3),iA (f 4),iA (f 5)⟩,⟨iA (f 6),iA (f 7),iA (f 8),iA (f 9),iA (f 10),iA (f 11)⟩,iA (f 12),iA (f 13),iA (f 14),bA (f 15),iA (f 16)⟩
def xF (f:Nat->AV):Prop:=iK .u8 (f 0)/\iK .u8 (f 1)/\iK .u8 (f 2)/\iK .u8 (f 3)/\iK .u8 (f 4)/\iK .u8 (f 5)/\iK .u8 (f 6)/\iK .u8 (f 7)/\iK .u8 (f 8)/\iK .u8 (f 9)/\iK .u8 (f 10)/\iK .u8 (f 11)/\iK .i64 (f 12)/\iK .i64 (f 13)/\iK .i64 (f 14)/\bK (f 15)/\iK .i64 (f 16)
theorem bV (a:TTree):zV (zL (zH a))=a:=by
 simp only [zV,zH,zL,iA,bA,sA,lA]
theorem eK (a:TTree):xF (zL (zH a)):=by
 simp only [xF,zH,zL,iK,bK,sK,lK,or_true,true_and,and_true,and_self]
theorem xC (a:TTree):nrefL (zH a):=by simp only [zH,nrefL,nref,and_self]
instance:NOf zH:=⟨fun a=>by simp only [zH,xY,noro,and_self]⟩
instance:NRf zH:=⟨xC⟩
instance:KCf xF zH:=⟨eK⟩
theorem vY {f:Nat->AV} (h:xF f):∀ y,y < 17->WkV (zL (zH (zV f)) y) (f y)/\nref (zL (zH (zV f)) y):=by
 obtain ⟨h0,h1,h2,h3,h4,h5,h6,h7,h8,h9,h10,h11,h12,h13,h14,h15,h16⟩:=h
 intro y hy
 match y,hy with
 | 0,_=>exact zK h0
 | 1,_=>exact zK h1
 | 2,_=>exact zK h2
 | 3,_=>exact zK h3
 | 4,_=>exact zK h4
 | 5,_=>exact zK h5
 | 6,_=>exact zK h6
 | 7,_=>exact zK h7
 | 8,_=>exact zK h8
 | 9,_=>exact zK h9
 | 10,_=>exact zK h10
 | 11,_=>exact zK h11
 | 12,_=>exact zK h12
 | 13,_=>exact zK h13
 | 14,_=>exact zK h14
 | 15,_=>exact vZ h15
 | 16,_=>exact zK h16
 | y+17,hy=>omega
theorem e_TTree_0 (l:List TTree) (x:Nat):enR zH l x 0 = .int .u8 (((gd l x).Root).x0):=rfl
theorem e_TTree_1 (l:List TTree) (x:Nat):enR zH l x 1 = .int .u8 (((gd l x).Root).x1):=rfl
theorem e_TTree_2 (l:List TTree) (x:Nat):enR zH l x 2 = .int .u8 (((gd l x).Root).x2):=rfl
theorem e_TTree_3 (l:List TTree) (x:Nat):enR zH l x 3 = .int .u8 (((gd l x).Root).x3):=rfl
theorem e_TTree_4 (l:List TTree) (x:Nat):enR zH l x 4 = .int .u8 (((gd l x).Root).x4):=rfl
theorem e_TTree_5 (l:List TTree) (x:Nat):enR zH l x 5 = .int .u8 (((gd l x).Root).x5):=rfl
theorem e_TTree_6 (l:List TTree) (x:Nat):enR zH l x 6 = .int .u8 (((gd l x).Parent).x0):=rfl
theorem e_TTree_7 (l:List TTree) (x:Nat):enR zH l x 7 = .int .u8 (((gd l x).Parent).x1):=rfl
theorem e_TTree_8 (l:List TTree) (x:Nat):enR zH l x 8 = .int .u8 (((gd l x).Parent).x2):=rfl
theorem e_TTree_9 (l:List TTree) (x:Nat):enR zH l x 9 = .int .u8 (((gd l x).Parent).x3):=rfl
theorem e_TTree_10 (l:List TTree) (x:Nat):enR zH l x 10 = .int .u8 (((gd l x).Parent).x4):=rfl
theorem e_TTree_11 (l:List TTree) (x:Nat):enR zH l x 11 = .int .u8 (((gd l x).Parent).x5):=rfl
theorem e_TTree_12 (l:List TTree) (x:Nat):enR zH l x 12 = .int .i64 ((gd l x).Seq):=rfl
theorem e_TTree_13 (l:List TTree) (x:Nat):enR zH l x 13 = .int .i64 ((gd l x).Hops):=rfl
theorem e_TTree_14 (l:List TTree) (x:Nat):enR zH l x 14 = .int .i64 ((gd l x).Cost):=rfl
theorem e_TTree_15 (l:List TTree) (x:Nat):enR zH l x 15 = .bool ((gd l x).Gate):=rfl
theorem e_TTree_16 (l:List TTree) (x:Nat):enR zH l x 16 = .int .i64 ((gd l x).Until):=rfl
theorem fit_TTree (n:Nat) (l:List TTree):Fit xF n (enR zH l)=True:=eq_true (Fit_enR eK)
theorem de_TTree (l:List TTree):deR zV l.length (enR zH l)=l:=deR_enR bV l
theorem qH (a:TTree):TTree.mk a.Root a.Parent a.Seq a.Hops a.Cost a.Gate a.Until=a:=rfl
theorem fD {v:AV} (h:aK 17 xF v):WkV (.agg (zH (zV (aL v)))) v/\nref (.agg (zH (zV (aL v)))):=aK_wk (f:=zH) (g:=zV) (fun r h=>vY h) rfl (by simp only [zH,nrefL,nref,and_self]) h
def uI (a:List TTree):List AV:=[.ro 17 a.length false (enR zH a)]
def bS (f:Nat->AV):List TTree:=lA zV (f 0)
def eJ (f:Nat->AV):Prop:=lK xF 17 (f 0)
theorem gc_lTTree (a:List TTree):bS (zL (uI a))=a:=by
 simp only [bS,uI,zL,iA,bA,sA,lA,deR_enR bV]
theorem kc_lTTree (a:List TTree):eJ (zL (uI a)):=by
 simp only [eJ,uI,zL,iK,bK,sK,lK,or_true,true_and,and_true,and_self,Fit_enR eK]
theorem nr_lTTree (a:List TTree):nrefL (uI a):=by simp only [uI,nrefL,nref,and_self]
instance:NRf uI:=⟨nr_lTTree⟩
instance:KCf eJ uI:=⟨kc_lTTree⟩
theorem e_lTTree_0 (l:List (List TTree)) (x:Nat):enR uI l x 0 = .ro 17 (gd l x).length false (enR zH (gd l x)):=rfl
theorem fit_lTTree (n:Nat) (l:List (List TTree)):Fit eJ n (enR uI l)=True:=eq_true (Fit_enR kc_lTTree)
theorem de_lTTree (l:List (List TTree)):deR bS l.length (enR uI l)=l:=deR_enR gc_lTTree l
structure TProxied where
 Out:A6u8
 Via:A6u8
 Until:Int
 deriving Inhabited
def zC (a:TProxied):List AV:=[.int .u8 a.Out.x0,.int .u8 a.Out.x1,.int .u8 a.Out.x2,.int .u8 a.Out.x3,.int .u8 a.Out.x4,.int .u8 a.Out.x5,.int .u8 a.Via.x0,.int .u8 a.Via.x1,.int .u8 a.Via.x2,.int .u8 a.Via.x3,.int .u8 a.Via.x4,.int .u8 a.Via.x5,.int .i64 a.Until]
def yT (f:Nat->AV):TProxied:=⟨⟨iA (f 0),iA (f 1),iA (f 2),iA (f 3),iA (f 4),iA (f 5)⟩,⟨iA (f 6),iA (f 7),iA (f 8),iA (f 9),iA (f 10),iA (f 11)⟩,iA (f 12)⟩
def xG (f:Nat->AV):Prop:=iK .u8 (f 0)/\iK .u8 (f 1)/\iK .u8 (f 2)/\iK .u8 (f 3)/\iK .u8 (f 4)/\iK .u8 (f 5)/\iK .u8 (f 6)/\iK .u8 (f 7)/\iK .u8 (f 8)/\iK .u8 (f 9)/\iK .u8 (f 10)/\iK .u8 (f 11)/\iK .i64 (f 12)
theorem hG (a:TProxied):yT (zL (zC a))=a:=by
 simp only [yT,zC,zL,iA,bA,sA,lA]
theorem qR (a:TProxied):xG (zL (zC a)):=by
 simp only [xG,zC,zL,iK,bK,sK,lK,or_true,true_and,and_true,and_self]
theorem xB (a:TProxied):nrefL (zC a):=by simp only [zC,nrefL,nref,and_self]
instance:NOf zC:=⟨fun a=>by simp only [zC,xY,noro,and_self]⟩
instance:NRf zC:=⟨xB⟩
instance:KCf xG zC:=⟨qR⟩
theorem vM {f:Nat->AV} (h:xG f):∀ y,y < 13->WkV (zL (zC (yT f)) y) (f y)/\nref (zL (zC (yT f)) y):=by
 obtain ⟨h0,h1,h2,h3,h4,h5,h6,h7,h8,h9,h10,h11,h12⟩:=h
 intro y hy
 match y,hy with
 | 0,_=>exact zK h0
 | 1,_=>exact zK h1
 | 2,_=>exact zK h2
 | 3,_=>exact zK h3
 | 4,_=>exact zK h4
 | 5,_=>exact zK h5
 | 6,_=>exact zK h6
 | 7,_=>exact zK h7
 | 8,_=>exact zK h8
 | 9,_=>exact zK h9
 | 10,_=>exact zK h10
 | 11,_=>exact zK h11
 | 12,_=>exact zK h12
 | y+13,hy=>omega
theorem e_TProxied_0 (l:List TProxied) (x:Nat):enR zC l x 0 = .int .u8 (((gd l x).Out).x0):=rfl
theorem e_TProxied_1 (l:List TProxied) (x:Nat):enR zC l x 1 = .int .u8 (((gd l x).Out).x1):=rfl
theorem e_TProxied_2 (l:List TProxied) (x:Nat):enR zC l x 2 = .int .u8 (((gd l x).Out).x2):=rfl
theorem e_TProxied_3 (l:List TProxied) (x:Nat):enR zC l x 3 = .int .u8 (((gd l x).Out).x3):=rfl
theorem e_TProxied_4 (l:List TProxied) (x:Nat):enR zC l x 4 = .int .u8 (((gd l x).Out).x4):=rfl
theorem e_TProxied_5 (l:List TProxied) (x:Nat):enR zC l x 5 = .int .u8 (((gd l x).Out).x5):=rfl
theorem e_TProxied_6 (l:List TProxied) (x:Nat):enR zC l x 6 = .int .u8 (((gd l x).Via).x0):=rfl
theorem e_TProxied_7 (l:List TProxied) (x:Nat):enR zC l x 7 = .int .u8 (((gd l x).Via).x1):=rfl
theorem e_TProxied_8 (l:List TProxied) (x:Nat):enR zC l x 8 = .int .u8 (((gd l x).Via).x2):=rfl
theorem e_TProxied_9 (l:List TProxied) (x:Nat):enR zC l x 9 = .int .u8 (((gd l x).Via).x3):=rfl
theorem e_TProxied_10 (l:List TProxied) (x:Nat):enR zC l x 10 = .int .u8 (((gd l x).Via).x4):=rfl
theorem e_TProxied_11 (l:List TProxied) (x:Nat):enR zC l x 11 = .int .u8 (((gd l x).Via).x5):=rfl
theorem e_TProxied_12 (l:List TProxied) (x:Nat):enR zC l x 12 = .int .i64 ((gd l x).Until):=rfl
theorem fit_TProxied (n:Nat) (l:List TProxied):Fit xG n (enR zC l)=True:=eq_true (Fit_enR qR)
theorem de_TProxied (l:List TProxied):deR yT l.length (enR zC l)=l:=deR_enR hG l
theorem eta_TProxied (a:TProxied):TProxied.mk a.Out a.Via a.Until=a:=rfl
def wF (a:List TProxied):List AV:=[.ro 13 a.length false (enR zC a)]
def jZ (f:Nat->AV):List TProxied:=lA yT (f 0)
def qP (f:Nat->AV):Prop:=lK xG 13 (f 0)
theorem gc_lTProxied (a:List TProxied):jZ (zL (wF a))=a:=by
 simp only [jZ,wF,zL,iA,bA,sA,lA,deR_enR hG]
theorem kc_lTProxied (a:List TProxied):qP (zL (wF a)):=by
 simp only [qP,wF,zL,iK,bK,sK,lK,or_true,true_and,and_true,and_self,Fit_enR qR]
theorem nr_lTProxied (a:List TProxied):nrefL (wF a):=by simp only [wF,nrefL,nref,and_self]
instance:NRf wF:=⟨nr_lTProxied⟩
instance:KCf qP wF:=⟨kc_lTProxied⟩
theorem e_lTProxied_0 (l:List (List TProxied)) (x:Nat):enR wF l x 0 = .ro 13 (gd l x).length false (enR zC (gd l x)):=rfl
theorem fit_lTProxied (n:Nat) (l:List (List TProxied)):Fit qP n (enR wF l)=True:=eq_true (Fit_enR kc_lTProxied)
theorem de_lTProxied (l:List (List TProxied)):deR jZ l.length (enR wF l)=l:=deR_enR gc_lTProxied l
structure TRoots where
 Own:A6u8
 Root:Bool
 Gate:Bool
 Seq:Int
 Trees:_root_.List TTree
 Proxies:_root_.List TProxied
 deriving Inhabited
def yA (a:TRoots):List AV:=[.int .u8 a.Own.x0,.int .u8 a.Own.x1,.int .u8 a.Own.x2,.int .u8 a.Own.x3,.int .u8 a.Own.x4,.int .u8 a.Own.x5,.bool a.Root,.bool a.Gate,.int .i64 a.Seq,.ro 17 a.Trees.length false (enR zH a.Trees),.ro 13 a.Proxies.length false (enR zC a.Proxies)]
def zI (f:Nat->AV):TRoots:=⟨⟨iA (f 0),iA (f 1),iA (f 2),iA (f 3),iA (f 4),iA (f 5)⟩,bA (f 6),bA (f 7),iA (f 8),lA zV (f 9),lA yT (f 10)⟩
def vF (f:Nat->AV):Prop:=iK .u8 (f 0)/\iK .u8 (f 1)/\iK .u8 (f 2)/\iK .u8 (f 3)/\iK .u8 (f 4)/\iK .u8 (f 5)/\bK (f 6)/\bK (f 7)/\iK .i64 (f 8)/\lK xF 17 (f 9)/\lK xG 13 (f 10)
theorem gc_TRoots (a:TRoots):zI (zL (yA a))=a:=by
 simp only [zI,yA,zL,iA,bA,sA,lA,deR_enR hG,deR_enR bV]
theorem kc_TRoots (a:TRoots):vF (zL (yA a)):=by
 simp only [vF,yA,zL,iK,bK,sK,lK,or_true,true_and,and_true,and_self,Fit_enR qR,Fit_enR eK]
theorem wC (a:TRoots):nrefL (yA a):=by simp only [yA,nrefL,nref,and_self]
instance:NRf yA:=⟨wC⟩
instance:KCf vF yA:=⟨kc_TRoots⟩
theorem w_TRoots {f:Nat->AV} (h:vF f):∀ y,y < 11->WkV (zL (yA (zI f)) y) (f y)/\nref (zL (yA (zI f)) y):=by
 obtain ⟨h0,h1,h2,h3,h4,h5,h6,h7,h8,h9,h10⟩:=h
 intro y hy
 match y,hy with
 | 0,_=>exact zK h0
 | 1,_=>exact zK h1
 | 2,_=>exact zK h2
 | 3,_=>exact zK h3
 | 4,_=>exact zK h4
 | 5,_=>exact zK h5
 | 6,_=>exact vZ h6
 | 7,_=>exact vZ h7
 | 8,_=>exact zK h8
 | 9,_=>exact vN (fun r h=>vY h) h9
 | 10,_=>exact vN (fun r h=>vM h) h10
 | y+11,hy=>omega
theorem e_TRoots_0 (l:List TRoots) (x:Nat):enR yA l x 0 = .int .u8 (((gd l x).Own).x0):=rfl
theorem e_TRoots_1 (l:List TRoots) (x:Nat):enR yA l x 1 = .int .u8 (((gd l x).Own).x1):=rfl
theorem e_TRoots_2 (l:List TRoots) (x:Nat):enR yA l x 2 = .int .u8 (((gd l x).Own).x2):=rfl
theorem e_TRoots_3 (l:List TRoots) (x:Nat):enR yA l x 3 = .int .u8 (((gd l x).Own).x3):=rfl
theorem e_TRoots_4 (l:List TRoots) (x:Nat):enR yA l x 4 = .int .u8 (((gd l x).Own).x4):=rfl
theorem e_TRoots_5 (l:List TRoots) (x:Nat):enR yA l x 5 = .int .u8 (((gd l x).Own).x5):=rfl
theorem e_TRoots_6 (l:List TRoots) (x:Nat):enR yA l x 6 = .bool ((gd l x).Root):=rfl
theorem e_TRoots_7 (l:List TRoots) (x:Nat):enR yA l x 7 = .bool ((gd l x).Gate):=rfl
theorem e_TRoots_8 (l:List TRoots) (x:Nat):enR yA l x 8 = .int .i64 ((gd l x).Seq):=rfl
theorem e_TRoots_9 (l:List TRoots) (x:Nat):enR yA l x 9 = .ro 17 ((gd l x).Trees).length false (enR zH ((gd l x).Trees)):=rfl
theorem e_TRoots_10 (l:List TRoots) (x:Nat):enR yA l x 10 = .ro 13 ((gd l x).Proxies).length false (enR zC ((gd l x).Proxies)):=rfl
theorem fit_TRoots (n:Nat) (l:List TRoots):Fit vF n (enR yA l)=True:=eq_true (Fit_enR kc_TRoots)
theorem de_TRoots (l:List TRoots):deR zI l.length (enR yA l)=l:=deR_enR gc_TRoots l
theorem qG (a:TRoots):TRoots.mk a.Own a.Root a.Gate a.Seq a.Trees a.Proxies=a:=rfl
theorem qK {v:AV} (h:aK 11 vF v):WkV (.agg (yA (zI (aL v)))) v/\nref (.agg (yA (zI (aL v)))):=aK_wk (f:=yA) (g:=zI) (fun r h=>w_TRoots h) rfl (by simp only [yA,nrefL,nref,and_self]) h
def xW (a:List TRootWord):List AV:=[.ro 10 a.length false (enR yF a)]
def kH (f:Nat->AV):List TRootWord:=lA zZ (f 0)
def qB (f:Nat->AV):Prop:=lK wH 10 (f 0)
theorem gc_lTRootWord (a:List TRootWord):kH (zL (xW a))=a:=by
 simp only [kH,xW,zL,iA,bA,sA,lA,deR_enR bU]
theorem dW (a:List TRootWord):qB (zL (xW a)):=by
 simp only [qB,xW,zL,iK,bK,sK,lK,or_true,true_and,and_true,and_self,Fit_enR fM]
theorem nr_lTRootWord (a:List TRootWord):nrefL (xW a):=by simp only [xW,nrefL,nref,and_self]
instance:NRf xW:=⟨nr_lTRootWord⟩
instance:KCf qB xW:=⟨dW⟩
theorem e_lTRootWord_0 (l:List (List TRootWord)) (x:Nat):enR xW l x 0 = .ro 10 (gd l x).length false (enR yF (gd l x)):=rfl
theorem fit_lTRootWord (n:Nat) (l:List (List TRootWord)):Fit qB n (enR xW l)=True:=eq_true (Fit_enR dW)
theorem de_lTRootWord (l:List (List TRootWord)):deR kH l.length (enR xW l)=l:=deR_enR gc_lTRootWord l
def tU (a:List A6u8):List AV:=[.ro 6 a.length false (enR wE a)]
def g_lA6u8 (f:Nat->AV):List A6u8:=lA yB (f 0)
def k_lA6u8 (f:Nat->AV):Prop:=lK tB 6 (f 0)
theorem gc_lA6u8 (a:List A6u8):g_lA6u8 (zL (tU a))=a:=by
 simp only [g_lA6u8,tU,zL,iA,bA,sA,lA,deR_enR gc_A6u8]
theorem kc_lA6u8 (a:List A6u8):k_lA6u8 (zL (tU a)):=by
 simp only [k_lA6u8,tU,zL,iK,bK,sK,lK,or_true,true_and,and_true,and_self,Fit_enR kc_A6u8]
theorem nr_lA6u8 (a:List A6u8):nrefL (tU a):=by simp only [tU,nrefL,nref,and_self]
instance:NRf tU:=⟨nr_lA6u8⟩
instance:KCf k_lA6u8 tU:=⟨kc_lA6u8⟩
theorem e_lA6u8_0 (l:List (List A6u8)) (x:Nat):enR tU l x 0 = .ro 6 (gd l x).length false (enR wE (gd l x)):=rfl
theorem fit_lA6u8 (n:Nat) (l:List (List A6u8)):Fit k_lA6u8 n (enR tU l)=True:=eq_true (Fit_enR kc_lA6u8)
theorem de_lA6u8 (l:List (List A6u8)):deR g_lA6u8 l.length (enR tU l)=l:=deR_enR gc_lA6u8 l
structure A8i64 where
 x0:Int
 x1:Int
 x2:Int
 x3:Int
 x4:Int
 x5:Int
 x6:Int
 x7:Int
 deriving Inhabited
def wD (a:A8i64):List AV:=[.int .i64 a.x0,.int .i64 a.x1,.int .i64 a.x2,.int .i64 a.x3,.int .i64 a.x4,.int .i64 a.x5,.int .i64 a.x6,.int .i64 a.x7]
def g_A8i64 (f:Nat->AV):A8i64:=⟨iA (f 0),iA (f 1),iA (f 2),iA (f 3),iA (f 4),iA (f 5),iA (f 6),iA (f 7)⟩
def bZ (f:Nat->AV):Prop:=iK .i64 (f 0)/\iK .i64 (f 1)/\iK .i64 (f 2)/\iK .i64 (f 3)/\iK .i64 (f 4)/\iK .i64 (f 5)/\iK .i64 (f 6)/\iK .i64 (f 7)
theorem gc_A8i64 (a:A8i64):g_A8i64 (zL (wD a))=a:=by
 simp only [g_A8i64,wD,zL,iA,bA,sA,lA]
theorem kc_A8i64 (a:A8i64):bZ (zL (wD a)):=by
 simp only [bZ,wD,zL,iK,bK,sK,lK,or_true,true_and,and_true,and_self]
theorem nr_A8i64 (a:A8i64):nrefL (wD a):=by simp only [wD,nrefL,nref,and_self]
instance:NOf wD:=⟨fun a=>by simp only [wD,xY,noro,and_self]⟩
instance:NRf wD:=⟨nr_A8i64⟩
instance:KCf bZ wD:=⟨kc_A8i64⟩
theorem e_A8i64_0 (l:List A8i64) (x:Nat):enR wD l x 0 = .int .i64 ((gd l x).x0):=rfl
theorem e_A8i64_1 (l:List A8i64) (x:Nat):enR wD l x 1 = .int .i64 ((gd l x).x1):=rfl
theorem e_A8i64_2 (l:List A8i64) (x:Nat):enR wD l x 2 = .int .i64 ((gd l x).x2):=rfl
theorem e_A8i64_3 (l:List A8i64) (x:Nat):enR wD l x 3 = .int .i64 ((gd l x).x3):=rfl
theorem e_A8i64_4 (l:List A8i64) (x:Nat):enR wD l x 4 = .int .i64 ((gd l x).x4):=rfl
theorem e_A8i64_5 (l:List A8i64) (x:Nat):enR wD l x 5 = .int .i64 ((gd l x).x5):=rfl
theorem e_A8i64_6 (l:List A8i64) (x:Nat):enR wD l x 6 = .int .i64 ((gd l x).x6):=rfl
theorem e_A8i64_7 (l:List A8i64) (x:Nat):enR wD l x 7 = .int .i64 ((gd l x).x7):=rfl
theorem fit_A8i64 (n:Nat) (l:List A8i64):Fit bZ n (enR wD l)=True:=eq_true (Fit_enR kc_A8i64)
theorem de_A8i64 (l:List A8i64):deR g_A8i64 l.length (enR wD l)=l:=deR_enR gc_A8i64 l
theorem eta_A8i64 (a:A8i64):A8i64.mk a.x0 a.x1 a.x2 a.x3 a.x4 a.x5 a.x6 a.x7=a:=rfl
structure A8A8i64 where
 x0:A8i64
 x1:A8i64
 x2:A8i64
 x3:A8i64
 x4:A8i64
 x5:A8i64
 x6:A8i64
 x7:A8i64
 deriving Inhabited
def c_A8A8i64 (a:A8A8i64):List AV:=(.int .i64 a.x0.x0::.int .i64 a.x0.x1::.int .i64 a.x0.x2::.int .i64 a.x0.x3::.int .i64 a.x0.x4::.int .i64 a.x0.x5::.int .i64 a.x0.x6::.int .i64 a.x0.x7::.int .i64 a.x1.x0::.int .i64 a.x1.x1::.int .i64 a.x1.x2::.int .i64 a.x1.x3::.int .i64 a.x1.x4::.int .i64 a.x1.x5::.int .i64 a.x1.x6::.int .i64 a.x1.x7::.int .i64 a.x2.x0::.int .i64 a.x2.x1::.int .i64 a.x2.x2::.int .i64 a.x2.x3::.int .i64 a.x2.x4::.int .i64 a.x2.x5::.int .i64 a.x2.x6::.int .i64 a.x2.x7::.int .i64 a.x3.x0::.int .i64 a.x3.x1::.int .i64 a.x3.x2::.int .i64 a.x3.x3::.int .i64 a.x3.x4::.int .i64 a.x3.x5::.int .i64 a.x3.x6::.int .i64 a.x3.x7::.int .i64 a.x4.x0::.int .i64 a.x4.x1::.int .i64 a.x4.x2::.int .i64 a.x4.x3::.int .i64 a.x4.x4::.int .i64 a.x4.x5::.int .i64 a.x4.x6::.int .i64 a.x4.x7::.int .i64 a.x5.x0::.int .i64 a.x5.x1::.int .i64 a.x5.x2::.int .i64 a.x5.x3::.int .i64 a.x5.x4::.int .i64 a.x5.x5::.int .i64 a.x5.x6::.int .i64 a.x5.x7::.int .i64 a.x6.x0::.int .i64 a.x6.x1::.int .i64 a.x6.x2::.int .i64 a.x6.x3::.int .i64 a.x6.x4::.int .i64 a.x6.x5::.int .i64 a.x6.x6::.int .i64 a.x6.x7::.int .i64 a.x7.x0::.int .i64 a.x7.x1::.int .i64 a.x7.x2::.int .i64 a.x7.x3::.int .i64 a.x7.x4::.int .i64 a.x7.x5::.int .i64 a.x7.x6::.int .i64 a.x7.x7::[])
def g_A8A8i64 (f:Nat->AV):A8A8i64:=⟨⟨iA (f 0),iA (f 1),iA (f 2),iA (f 3),iA (f 4),iA (f 5),iA (f 6),iA (f 7)⟩,⟨iA (f 8),iA (f 9),iA (f 10),iA (f 11),iA (f 12),iA (f 13),iA (f 14),iA (f 15)⟩,⟨iA (f 16),iA (f 17),iA (f 18),iA (f 19),iA (f 20),iA (f 21),iA (f 22),iA (f 23)⟩,⟨iA (f 24),iA (f 25),iA (f 26),iA (f 27),iA (f 28),iA (f 29),iA (f 30),iA (f 31)⟩,⟨iA (f 32),iA (f 33),iA (f 34),iA (f 35),iA (f 36),iA (f 37),iA (f 38),iA (f 39)⟩,⟨iA (f 40),iA (f 41),iA (f 42),iA (f 43),iA (f 44),iA (f 45),iA (f 46),iA (f 47)⟩,⟨iA (f 48),iA (f 49),iA (f 50),iA (f 51),iA (f 52),iA (f 53),iA (f 54),iA (f 55)⟩,⟨iA (f 56),iA (f 57),iA (f 58),iA (f 59),iA (f 60),iA (f 61),iA (f 62),iA (f 63)⟩⟩
def vC (f:Nat->AV):Prop:=iK .i64 (f 0)/\iK .i64 (f 1)/\iK .i64 (f 2)/\iK .i64 (f 3)/\iK .i64 (f 4)/\iK .i64 (f 5)/\iK .i64 (f 6)/\iK .i64 (f 7)/\iK .i64 (f 8)/\iK .i64 (f 9)/\iK .i64 (f 10)/\iK .i64 (f 11)/\iK .i64 (f 12)/\iK .i64 (f 13)/\iK .i64 (f 14)/\iK .i64 (f 15)/\iK .i64 (f 16)/\iK .i64 (f 17)/\iK .i64 (f 18)/\iK .i64 (f 19)/\iK .i64 (f 20)/\iK .i64 (f 21)/\iK .i64 (f 22)/\iK .i64 (f 23)/\iK .i64 (f 24)/\iK .i64 (f 25)/\iK .i64 (f 26)/\iK .i64 (f 27)/\iK .i64 (f 28)/\iK .i64 (f 29)/\iK .i64 (f 30)/\iK .i64 (f 31)/\iK .i64 (f 32)/\iK .i64 (f 33)/\iK .i64 (f 34)/\iK .i64 (f 35)/\iK .i64 (f 36)/\iK .i64 (f 37)/\iK .i64 (f 38)/\iK .i64 (f 39)/\iK .i64 (f 40)/\iK .i64 (f 41)/\iK .i64 (f 42)/\iK .i64 (f 43)/\iK .i64 (f 44)/\iK .i64 (f 45)/\iK .i64 (f 46)/\iK .i64 (f 47)/\iK .i64 (f 48)/\iK .i64 (f 49)/\iK .i64 (f 50)/\iK .i64 (f 51)/\iK .i64 (f 52)/\iK .i64 (f 53)/\iK .i64 (f 54)/\iK .i64 (f 55)/\iK .i64 (f 56)/\iK .i64 (f 57)/\iK .i64 (f 58)/\iK .i64 (f 59)/\iK .i64 (f 60)/\iK .i64 (f 61)/\iK .i64 (f 62)/\iK .i64 (f 63)
theorem gc_A8A8i64 (a:A8A8i64):g_A8A8i64 (zL (c_A8A8i64 a))=a:=by
 simp only [g_A8A8i64,c_A8A8i64,zL,iA,bA,sA,lA]
theorem kc_A8A8i64 (a:A8A8i64):vC (zL (c_A8A8i64 a)):=by
 simp only [vC,c_A8A8i64,zL,iK,bK,sK,lK,or_true,true_and,and_true,and_self]
theorem nr_A8A8i64 (a:A8A8i64):nrefL (c_A8A8i64 a):=by simp only [c_A8A8i64,nrefL,nref,and_self]
instance:NOf c_A8A8i64:=⟨fun a=>by simp only [c_A8A8i64,xY,noro,and_self]⟩
instance:NRf c_A8A8i64:=⟨nr_A8A8i64⟩
instance:KCf vC c_A8A8i64:=⟨kc_A8A8i64⟩
theorem w_A8A8i64 {f:Nat->AV} (h:vC f):∀ y,y < 64->WkV (zL (c_A8A8i64 (g_A8A8i64 f)) y) (f y)/\nref (zL (c_A8A8i64 (g_A8A8i64 f)) y):=by
 obtain ⟨h0,h1,h2,h3,h4,h5,h6,h7,h8,h9,h10,h11,h12,h13,h14,h15,h16,h17,h18,h19,h20,h21,h22,h23,h24,h25,h26,h27,h28,h29,h30,h31,h32,h33,h34,h35,h36,h37,h38,h39,h40,h41,h42,h43,h44,h45,h46,h47,h48,h49,h50,h51,h52,h53,h54,h55,h56,h57,h58,h59,h60,h61,h62,h63⟩:=h
 intro y hy
 match y,hy with
 | 0,_=>exact zK h0
 | 1,_=>exact zK h1
 | 2,_=>exact zK h2
 | 3,_=>exact zK h3
 | 4,_=>exact zK h4
 | 5,_=>exact zK h5
 | 6,_=>exact zK h6
 | 7,_=>exact zK h7
 | 8,_=>exact zK h8
 | 9,_=>exact zK h9
 | 10,_=>exact zK h10
 | 11,_=>exact zK h11
 | 12,_=>exact zK h12
 | 13,_=>exact zK h13
 | 14,_=>exact zK h14
 | 15,_=>exact zK h15
 | 16,_=>exact zK h16
 | 17,_=>exact zK h17
 | 18,_=>exact zK h18
 | 19,_=>exact zK h19
 | 20,_=>exact zK h20
 | 21,_=>exact zK h21
 | 22,_=>exact zK h22
 | 23,_=>exact zK h23
 | 24,_=>exact zK h24
 | 25,_=>exact zK h25
 | 26,_=>exact zK h26
 | 27,_=>exact zK h27
 | 28,_=>exact zK h28
 | 29,_=>exact zK h29
 | 30,_=>exact zK h30
 | 31,_=>exact zK h31
 | 32,_=>exact zK h32
 | 33,_=>exact zK h33
 | 34,_=>exact zK h34
 | 35,_=>exact zK h35
 | 36,_=>exact zK h36
 | 37,_=>exact zK h37
 | 38,_=>exact zK h38
 | 39,_=>exact zK h39
 | 40,_=>exact zK h40
 | 41,_=>exact zK h41
 | 42,_=>exact zK h42
 | 43,_=>exact zK h43
 | 44,_=>exact zK h44
 | 45,_=>exact zK h45
 | 46,_=>exact zK h46
 | 47,_=>exact zK h47
 | 48,_=>exact zK h48
 | 49,_=>exact zK h49
 | 50,_=>exact zK h50
 | 51,_=>exact zK h51
 | 52,_=>exact zK h52
 | 53,_=>exact zK h53
 | 54,_=>exact zK h54
 | 55,_=>exact zK h55
 | 56,_=>exact zK h56
 | 57,_=>exact zK h57
 | 58,_=>exact zK h58
 | 59,_=>exact zK h59
 | 60,_=>exact zK h60
 | 61,_=>exact zK h61
 | 62,_=>exact zK h62
 | 63,_=>exact zK h63
 | y+64,hy=>omega
theorem e_A8A8i64_0 (l:List A8A8i64) (x:Nat):enR c_A8A8i64 l x 0 = .int .i64 (((gd l x).x0).x0):=rfl
theorem e_A8A8i64_1 (l:List A8A8i64) (x:Nat):enR c_A8A8i64 l x 1 = .int .i64 (((gd l x).x0).x1):=rfl
theorem e_A8A8i64_2 (l:List A8A8i64) (x:Nat):enR c_A8A8i64 l x 2 = .int .i64 (((gd l x).x0).x2):=rfl
theorem e_A8A8i64_3 (l:List A8A8i64) (x:Nat):enR c_A8A8i64 l x 3 = .int .i64 (((gd l x).x0).x3):=rfl
theorem e_A8A8i64_4 (l:List A8A8i64) (x:Nat):enR c_A8A8i64 l x 4 = .int .i64 (((gd l x).x0).x4):=rfl
theorem e_A8A8i64_5 (l:List A8A8i64) (x:Nat):enR c_A8A8i64 l x 5 = .int .i64 (((gd l x).x0).x5):=rfl
theorem e_A8A8i64_6 (l:List A8A8i64) (x:Nat):enR c_A8A8i64 l x 6 = .int .i64 (((gd l x).x0).x6):=rfl
theorem e_A8A8i64_7 (l:List A8A8i64) (x:Nat):enR c_A8A8i64 l x 7 = .int .i64 (((gd l x).x0).x7):=rfl
theorem e_A8A8i64_8 (l:List A8A8i64) (x:Nat):enR c_A8A8i64 l x 8 = .int .i64 (((gd l x).x1).x0):=rfl
theorem e_A8A8i64_9 (l:List A8A8i64) (x:Nat):enR c_A8A8i64 l x 9 = .int .i64 (((gd l x).x1).x1):=rfl
theorem e_A8A8i64_10 (l:List A8A8i64) (x:Nat):enR c_A8A8i64 l x 10 = .int .i64 (((gd l x).x1).x2):=rfl
theorem e_A8A8i64_11 (l:List A8A8i64) (x:Nat):enR c_A8A8i64 l x 11 = .int .i64 (((gd l x).x1).x3):=rfl
theorem e_A8A8i64_12 (l:List A8A8i64) (x:Nat):enR c_A8A8i64 l x 12 = .int .i64 (((gd l x).x1).x4):=rfl
theorem e_A8A8i64_13 (l:List A8A8i64) (x:Nat):enR c_A8A8i64 l x 13 = .int .i64 (((gd l x).x1).x5):=rfl
theorem e_A8A8i64_14 (l:List A8A8i64) (x:Nat):enR c_A8A8i64 l x 14 = .int .i64 (((gd l x).x1).x6):=rfl
theorem e_A8A8i64_15 (l:List A8A8i64) (x:Nat):enR c_A8A8i64 l x 15 = .int .i64 (((gd l x).x1).x7):=rfl
theorem e_A8A8i64_16 (l:List A8A8i64) (x:Nat):enR c_A8A8i64 l x 16 = .int .i64 (((gd l x).x2).x0):=rfl
theorem e_A8A8i64_17 (l:List A8A8i64) (x:Nat):enR c_A8A8i64 l x 17 = .int .i64 (((gd l x).x2).x1):=rfl
theorem e_A8A8i64_18 (l:List A8A8i64) (x:Nat):enR c_A8A8i64 l x 18 = .int .i64 (((gd l x).x2).x2):=rfl
theorem e_A8A8i64_19 (l:List A8A8i64) (x:Nat):enR c_A8A8i64 l x 19 = .int .i64 (((gd l x).x2).x3):=rfl
theorem e_A8A8i64_20 (l:List A8A8i64) (x:Nat):enR c_A8A8i64 l x 20 = .int .i64 (((gd l x).x2).x4):=rfl
theorem e_A8A8i64_21 (l:List A8A8i64) (x:Nat):enR c_A8A8i64 l x 21 = .int .i64 (((gd l x).x2).x5):=rfl
theorem e_A8A8i64_22 (l:List A8A8i64) (x:Nat):enR c_A8A8i64 l x 22 = .int .i64 (((gd l x).x2).x6):=rfl
theorem e_A8A8i64_23 (l:List A8A8i64) (x:Nat):enR c_A8A8i64 l x 23 = .int .i64 (((gd l x).x2).x7):=rfl
theorem e_A8A8i64_24 (l:List A8A8i64) (x:Nat):enR c_A8A8i64 l x 24 = .int .i64 (((gd l x).x3).x0):=rfl
theorem e_A8A8i64_25 (l:List A8A8i64) (x:Nat):enR c_A8A8i64 l x 25 = .int .i64 (((gd l x).x3).x1):=rfl
theorem e_A8A8i64_26 (l:List A8A8i64) (x:Nat):enR c_A8A8i64 l x 26 = .int .i64 (((gd l x).x3).x2):=rfl
theorem e_A8A8i64_27 (l:List A8A8i64) (x:Nat):enR c_A8A8i64 l x 27 = .int .i64 (((gd l x).x3).x3):=rfl
theorem e_A8A8i64_28 (l:List A8A8i64) (x:Nat):enR c_A8A8i64 l x 28 = .int .i64 (((gd l x).x3).x4):=rfl
theorem e_A8A8i64_29 (l:List A8A8i64) (x:Nat):enR c_A8A8i64 l x 29 = .int .i64 (((gd l x).x3).x5):=rfl
theorem e_A8A8i64_30 (l:List A8A8i64) (x:Nat):enR c_A8A8i64 l x 30 = .int .i64 (((gd l x).x3).x6):=rfl
theorem e_A8A8i64_31 (l:List A8A8i64) (x:Nat):enR c_A8A8i64 l x 31 = .int .i64 (((gd l x).x3).x7):=rfl
theorem e_A8A8i64_32 (l:List A8A8i64) (x:Nat):enR c_A8A8i64 l x 32 = .int .i64 (((gd l x).x4).x0):=rfl
theorem e_A8A8i64_33 (l:List A8A8i64) (x:Nat):enR c_A8A8i64 l x 33 = .int .i64 (((gd l x).x4).x1):=rfl
theorem e_A8A8i64_34 (l:List A8A8i64) (x:Nat):enR c_A8A8i64 l x 34 = .int .i64 (((gd l x).x4).x2):=rfl
theorem e_A8A8i64_35 (l:List A8A8i64) (x:Nat):enR c_A8A8i64 l x 35 = .int .i64 (((gd l x).x4).x3):=rfl
theorem e_A8A8i64_36 (l:List A8A8i64) (x:Nat):enR c_A8A8i64 l x 36 = .int .i64 (((gd l x).x4).x4):=rfl
theorem e_A8A8i64_37 (l:List A8A8i64) (x:Nat):enR c_A8A8i64 l x 37 = .int .i64 (((gd l x).x4).x5):=rfl
theorem e_A8A8i64_38 (l:List A8A8i64) (x:Nat):enR c_A8A8i64 l x 38 = .int .i64 (((gd l x).x4).x6):=rfl
theorem e_A8A8i64_39 (l:List A8A8i64) (x:Nat):enR c_A8A8i64 l x 39 = .int .i64 (((gd l x).x4).x7):=rfl
theorem e_A8A8i64_40 (l:List A8A8i64) (x:Nat):enR c_A8A8i64 l x 40 = .int .i64 (((gd l x).x5).x0):=rfl
theorem e_A8A8i64_41 (l:List A8A8i64) (x:Nat):enR c_A8A8i64 l x 41 = .int .i64 (((gd l x).x5).x1):=rfl
theorem e_A8A8i64_42 (l:List A8A8i64) (x:Nat):enR c_A8A8i64 l x 42 = .int .i64 (((gd l x).x5).x2):=rfl
theorem e_A8A8i64_43 (l:List A8A8i64) (x:Nat):enR c_A8A8i64 l x 43 = .int .i64 (((gd l x).x5).x3):=rfl
theorem e_A8A8i64_44 (l:List A8A8i64) (x:Nat):enR c_A8A8i64 l x 44 = .int .i64 (((gd l x).x5).x4):=rfl
theorem e_A8A8i64_45 (l:List A8A8i64) (x:Nat):enR c_A8A8i64 l x 45 = .int .i64 (((gd l x).x5).x5):=rfl
theorem e_A8A8i64_46 (l:List A8A8i64) (x:Nat):enR c_A8A8i64 l x 46 = .int .i64 (((gd l x).x5).x6):=rfl
theorem e_A8A8i64_47 (l:List A8A8i64) (x:Nat):enR c_A8A8i64 l x 47 = .int .i64 (((gd l x).x5).x7):=rfl
theorem e_A8A8i64_48 (l:List A8A8i64) (x:Nat):enR c_A8A8i64 l x 48 = .int .i64 (((gd l x).x6).x0):=rfl
theorem e_A8A8i64_49 (l:List A8A8i64) (x:Nat):enR c_A8A8i64 l x 49 = .int .i64 (((gd l x).x6).x1):=rfl
theorem e_A8A8i64_50 (l:List A8A8i64) (x:Nat):enR c_A8A8i64 l x 50 = .int .i64 (((gd l x).x6).x2):=rfl
theorem e_A8A8i64_51 (l:List A8A8i64) (x:Nat):enR c_A8A8i64 l x 51 = .int .i64 (((gd l x).x6).x3):=rfl
theorem e_A8A8i64_52 (l:List A8A8i64) (x:Nat):enR c_A8A8i64 l x 52 = .int .i64 (((gd l x).x6).x4):=rfl
theorem e_A8A8i64_53 (l:List A8A8i64) (x:Nat):enR c_A8A8i64 l x 53 = .int .i64 (((gd l x).x6).x5):=rfl
theorem e_A8A8i64_54 (l:List A8A8i64) (x:Nat):enR c_A8A8i64 l x 54 = .int .i64 (((gd l x).x6).x6):=rfl
theorem e_A8A8i64_55 (l:List A8A8i64) (x:Nat):enR c_A8A8i64 l x 55 = .int .i64 (((gd l x).x6).x7):=rfl
theorem e_A8A8i64_56 (l:List A8A8i64) (x:Nat):enR c_A8A8i64 l x 56 = .int .i64 (((gd l x).x7).x0):=rfl
theorem e_A8A8i64_57 (l:List A8A8i64) (x:Nat):enR c_A8A8i64 l x 57 = .int .i64 (((gd l x).x7).x1):=rfl
theorem e_A8A8i64_58 (l:List A8A8i64) (x:Nat):enR c_A8A8i64 l x 58 = .int .i64 (((gd l x).x7).x2):=rfl
theorem e_A8A8i64_59 (l:List A8A8i64) (x:Nat):enR c_A8A8i64 l x 59 = .int .i64 (((gd l x).x7).x3):=rfl
theorem e_A8A8i64_60 (l:List A8A8i64) (x:Nat):enR c_A8A8i64 l x 60 = .int .i64 (((gd l x).x7).x4):=rfl
theorem e_A8A8i64_61 (l:List A8A8i64) (x:Nat):enR c_A8A8i64 l x 61 = .int .i64 (((gd l x).x7).x5):=rfl
theorem e_A8A8i64_62 (l:List A8A8i64) (x:Nat):enR c_A8A8i64 l x 62 = .int .i64 (((gd l x).x7).x6):=rfl
theorem e_A8A8i64_63 (l:List A8A8i64) (x:Nat):enR c_A8A8i64 l x 63 = .int .i64 (((gd l x).x7).x7):=rfl
theorem fit_A8A8i64 (n:Nat) (l:List A8A8i64):Fit vC n (enR c_A8A8i64 l)=True:=eq_true (Fit_enR kc_A8A8i64)
theorem de_A8A8i64 (l:List A8A8i64):deR g_A8A8i64 l.length (enR c_A8A8i64 l)=l:=deR_enR gc_A8A8i64 l
theorem eta_A8A8i64 (a:A8A8i64):A8A8i64.mk a.x0 a.x1 a.x2 a.x3 a.x4 a.x5 a.x6 a.x7=a:=rfl
theorem jQ {v:AV} (h:aK 64 vC v):WkV (.agg (c_A8A8i64 (g_A8A8i64 (aL v)))) v/\nref (.agg (c_A8A8i64 (g_A8A8i64 (aL v)))):=aK_wk (f:=c_A8A8i64) (g:=g_A8A8i64) (fun r h=>w_A8A8i64 h) rfl (by simp only [c_A8A8i64,nrefL,nref,and_self]) h
def jC (a:List Int):List AV:=[.ro 1 a.length false (enR c_i64 a)]
def g_li64 (f:Nat->AV):List Int:=lA g_i64 (f 0)
def k_li64 (f:Nat->AV):Prop:=lK dV 1 (f 0)
theorem gc_li64 (a:List Int):g_li64 (zL (jC a))=a:=by
 simp only [g_li64,jC,zL,iA,bA,sA,lA,deR_enR gc_i64]
theorem kc_li64 (a:List Int):k_li64 (zL (jC a)):=by
 simp only [k_li64,jC,zL,iK,bK,sK,lK,or_true,true_and,and_true,and_self,Fit_enR kc_i64]
theorem nr_li64 (a:List Int):nrefL (jC a):=by simp only [jC,nrefL,nref,and_self]
instance:NRf jC:=⟨nr_li64⟩
instance:KCf k_li64 jC:=⟨kc_li64⟩
theorem e_li64_0 (l:List (List Int)) (x:Nat):enR jC l x 0 = .ro 1 (gd l x).length false (enR c_i64 (gd l x)):=rfl
theorem fit_li64 (n:Nat) (l:List (List Int)):Fit k_li64 n (enR jC l)=True:=eq_true (Fit_enR kc_li64)
theorem de_li64 (l:List (List Int)):deR g_li64 l.length (enR jC l)=l:=deR_enR gc_li64 l
structure A8TRoots where
 x0:TRoots
 x1:TRoots
 x2:TRoots
 x3:TRoots
 x4:TRoots
 x5:TRoots
 x6:TRoots
 x7:TRoots
 deriving Inhabited
def zF (a:A8TRoots):List AV:=(.int .u8 a.x0.Own.x0::.int .u8 a.x0.Own.x1::.int .u8 a.x0.Own.x2::.int .u8 a.x0.Own.x3::.int .u8 a.x0.Own.x4::.int .u8 a.x0.Own.x5::.bool a.x0.Root::.bool a.x0.Gate::.int .i64 a.x0.Seq::.ro 17 a.x0.Trees.length false (enR zH a.x0.Trees)::.ro 13 a.x0.Proxies.length false (enR zC a.x0.Proxies)::.int .u8 a.x1.Own.x0::.int .u8 a.x1.Own.x1::.int .u8 a.x1.Own.x2::.int .u8 a.x1.Own.x3::.int .u8 a.x1.Own.x4::.int .u8 a.x1.Own.x5::.bool a.x1.Root::.bool a.x1.Gate::.int .i64 a.x1.Seq::.ro 17 a.x1.Trees.length false (enR zH a.x1.Trees)::.ro 13 a.x1.Proxies.length false (enR zC a.x1.Proxies)::.int .u8 a.x2.Own.x0::.int .u8 a.x2.Own.x1::.int .u8 a.x2.Own.x2::.int .u8 a.x2.Own.x3::.int .u8 a.x2.Own.x4::.int .u8 a.x2.Own.x5::.bool a.x2.Root::.bool a.x2.Gate::.int .i64 a.x2.Seq::.ro 17 a.x2.Trees.length false (enR zH a.x2.Trees)::.ro 13 a.x2.Proxies.length false (enR zC a.x2.Proxies)::.int .u8 a.x3.Own.x0::.int .u8 a.x3.Own.x1::.int .u8 a.x3.Own.x2::.int .u8 a.x3.Own.x3::.int .u8 a.x3.Own.x4::.int .u8 a.x3.Own.x5::.bool a.x3.Root::.bool a.x3.Gate::.int .i64 a.x3.Seq::.ro 17 a.x3.Trees.length false (enR zH a.x3.Trees)::.ro 13 a.x3.Proxies.length false (enR zC a.x3.Proxies)::.int .u8 a.x4.Own.x0::.int .u8 a.x4.Own.x1::.int .u8 a.x4.Own.x2::.int .u8 a.x4.Own.x3::.int .u8 a.x4.Own.x4::.int .u8 a.x4.Own.x5::.bool a.x4.Root::.bool a.x4.Gate::.int .i64 a.x4.Seq::.ro 17 a.x4.Trees.length false (enR zH a.x4.Trees)::.ro 13 a.x4.Proxies.length false (enR zC a.x4.Proxies)::.int .u8 a.x5.Own.x0::.int .u8 a.x5.Own.x1::.int .u8 a.x5.Own.x2::.int .u8 a.x5.Own.x3::.int .u8 a.x5.Own.x4::.int .u8 a.x5.Own.x5::.bool a.x5.Root::.bool a.x5.Gate::.int .i64 a.x5.Seq::.ro 17 a.x5.Trees.length false (enR zH a.x5.Trees)::.ro 13 a.x5.Proxies.length false (enR zC a.x5.Proxies)::.int .u8 a.x6.Own.x0::.int .u8 a.x6.Own.x1::.int .u8 a.x6.Own.x2::.int .u8 a.x6.Own.x3::.int .u8 a.x6.Own.x4::.int .u8 a.x6.Own.x5::.bool a.x6.Root::.bool a.x6.Gate::.int .i64 a.x6.Seq::.ro 17 a.x6.Trees.length false (enR zH a.x6.Trees)::.ro 13 a.x6.Proxies.length false (enR zC a.x6.Proxies)::.int .u8 a.x7.Own.x0::.int .u8 a.x7.Own.x1::.int .u8 a.x7.Own.x2::.int .u8 a.x7.Own.x3::.int .u8 a.x7.Own.x4::.int .u8 a.x7.Own.x5::.bool a.x7.Root::.bool a.x7.Gate::.int .i64 a.x7.Seq::.ro 17 a.x7.Trees.length false (enR zH a.x7.Trees)::.ro 13 a.x7.Proxies.length false (enR zC a.x7.Proxies)::[])
def wN (f:Nat->AV):A8TRoots:=⟨⟨⟨iA (f 0),iA (f 1),iA (f 2),iA (f 3),iA (f 4),iA (f 5)⟩,bA (f 6),bA (f 7),iA (f 8),lA zV (f 9),lA yT (f 10)⟩,⟨⟨iA (f 11),iA (f 12),iA (f 13),iA (f 14),iA (f 15),iA (f 16)⟩,bA (f 17),bA (f 18),iA (f 19),lA zV (f 20),lA yT (f 21)⟩,⟨⟨iA (f 22),iA (f 23),iA (f 24),iA (f 25),iA (f 26),iA (f 27)⟩,bA (f 28),bA (f 29),iA (f 30),lA zV (f 31),lA yT (f 32)⟩,⟨⟨iA (f 33),iA (f 34),iA (f 35),iA (f 36),iA (f 37),iA (f 38)⟩,bA (f 39),bA (f 40),iA (f 41),lA zV (f 42),lA yT (f 43)⟩,⟨⟨iA (f 44),iA (f 45),iA (f 46),iA (f 47),iA (f 48),iA (f 49)⟩,bA (f 50),bA (f 51),iA (f 52),lA zV (f 53),lA yT (f 54)⟩,⟨⟨iA (f 55),iA (f 56),iA (f 57),iA (f 58),iA (f 59),iA (f 60)⟩,bA (f 61),bA (f 62),iA (f 63),lA zV (f 64),lA yT (f 65)⟩,⟨⟨iA (f 66),iA (f 67),iA (f 68),iA (f 69),iA (f 70),iA (f 71)⟩,bA (f 72),bA (f 73),iA (f 74),lA zV (f 75),lA yT (f 76)⟩,⟨⟨iA (f 77),iA (f 78),iA (f 79),iA (f 80),iA (f 81),iA (f 82)⟩,bA (f 83),bA (f 84),iA (f 85),lA zV (f 86),lA yT (f 87)⟩⟩
def uL (f:Nat->AV):Prop:=iK .u8 (f 0)/\iK .u8 (f 1)/\iK .u8 (f 2)/\iK .u8 (f 3)/\iK .u8 (f 4)/\iK .u8 (f 5)/\bK (f 6)/\bK (f 7)/\iK .i64 (f 8)/\lK xF 17 (f 9)/\lK xG 13 (f 10)/\iK .u8 (f 11)/\iK .u8 (f 12)/\iK .u8 (f 13)/\iK .u8 (f 14)/\iK .u8 (f 15)/\iK .u8 (f 16)/\bK (f 17)/\bK (f 18)/\iK .i64 (f 19)/\lK xF 17 (f 20)/\lK xG 13 (f 21)/\iK .u8 (f 22)/\iK .u8 (f 23)/\iK .u8 (f 24)/\iK .u8 (f 25)/\iK .u8 (f 26)/\iK .u8 (f 27)/\bK (f 28)/\bK (f 29)/\iK .i64 (f 30)/\lK xF 17 (f 31)/\lK xG 13 (f 32)/\iK .u8 (f 33)/\iK .u8 (f 34)/\iK .u8 (f 35)/\iK .u8 (f 36)/\iK .u8 (f 37)/\iK .u8 (f 38)/\bK (f 39)/\bK (f 40)/\iK .i64 (f 41)/\lK xF 17 (f 42)/\lK xG 13 (f 43)/\iK .u8 (f 44)/\iK .u8 (f 45)/\iK .u8 (f 46)/\iK .u8 (f 47)/\iK .u8 (f 48)/\iK .u8 (f 49)/\bK (f 50)/\bK (f 51)/\iK .i64 (f 52)/\lK xF 17 (f 53)/\lK xG 13 (f 54)/\iK .u8 (f 55)/\iK .u8 (f 56)/\iK .u8 (f 57)/\iK .u8 (f 58)/\iK .u8 (f 59)/\iK .u8 (f 60)/\bK (f 61)/\bK (f 62)/\iK .i64 (f 63)/\lK xF 17 (f 64)/\lK xG 13 (f 65)/\iK .u8 (f 66)/\iK .u8 (f 67)/\iK .u8 (f 68)/\iK .u8 (f 69)/\iK .u8 (f 70)/\iK .u8 (f 71)/\bK (f 72)/\bK (f 73)/\iK .i64 (f 74)/\lK xF 17 (f 75)/\lK xG 13 (f 76)/\iK .u8 (f 77)/\iK .u8 (f 78)/\iK .u8 (f 79)/\iK .u8 (f 80)/\iK .u8 (f 81)/\iK .u8 (f 82)/\bK (f 83)/\bK (f 84)/\iK .i64 (f 85)/\lK xF 17 (f 86)/\lK xG 13 (f 87)
theorem gc_A8TRoots (a:A8TRoots):wN (zL (zF a))=a:=by
 simp only [wN,zF,zL,iA,bA,sA,lA,deR_enR hG,deR_enR bV]
theorem kc_A8TRoots (a:A8TRoots):uL (zL (zF a)):=by
 simp only [uL,zF,zL,iK,bK,sK,lK,or_true,true_and,and_true,and_self,Fit_enR qR,Fit_enR eK]
theorem nr_A8TRoots (a:A8TRoots):nrefL (zF a):=by simp only [zF,nrefL,nref,and_self]
instance:NRf zF:=⟨nr_A8TRoots⟩
instance:KCf uL zF:=⟨kc_A8TRoots⟩
theorem w_A8TRoots {f:Nat->AV} (h:uL f):∀ y,y < 88->WkV (zL (zF (wN f)) y) (f y)/\nref (zL (zF (wN f)) y):=by
 obtain ⟨h0,h1,h2,h3,h4,h5,h6,h7,h8,h9,h10,h11,h12,h13,h14,h15,h16,h17,h18,h19,h20,h21,h22,h23,h24,h25,h26,h27,h28,h29,h30,h31,h32,h33,h34,h35,h36,h37,h38,h39,h40,h41,h42,h43,h44,h45,h46,h47,h48,h49,h50,h51,h52,h53,h54,h55,h56,h57,h58,h59,h60,h61,h62,h63,h64,h65,h66,h67,h68,h69,h70,h71,h72,h73,h74,h75,h76,h77,h78,h79,h80,h81,h82,h83,h84,h85,h86,h87⟩:=h
 intro y hy
 match y,hy with
 | 0,_=>exact zK h0
 | 1,_=>exact zK h1
 | 2,_=>exact zK h2
 | 3,_=>exact zK h3
 | 4,_=>exact zK h4
 | 5,_=>exact zK h5
 | 6,_=>exact vZ h6
 | 7,_=>exact vZ h7
 | 8,_=>exact zK h8
 | 9,_=>exact vN (fun r h=>vY h) h9
 | 10,_=>exact vN (fun r h=>vM h) h10
 | 11,_=>exact zK h11
 | 12,_=>exact zK h12
 | 13,_=>exact zK h13
 | 14,_=>exact zK h14
 | 15,_=>exact zK h15
 | 16,_=>exact zK h16
 | 17,_=>exact vZ h17
 | 18,_=>exact vZ h18
 | 19,_=>exact zK h19
 | 20,_=>exact vN (fun r h=>vY h) h20
 | 21,_=>exact vN (fun r h=>vM h) h21
 | 22,_=>exact zK h22
 | 23,_=>exact zK h23
 | 24,_=>exact zK h24
 | 25,_=>exact zK h25
 | 26,_=>exact zK h26
 | 27,_=>exact zK h27
 | 28,_=>exact vZ h28
 | 29,_=>exact vZ h29
 | 30,_=>exact zK h30
 | 31,_=>exact vN (fun r h=>vY h) h31
 | 32,_=>exact vN (fun r h=>vM h) h32
 | 33,_=>exact zK h33
 | 34,_=>exact zK h34
 | 35,_=>exact zK h35
 | 36,_=>exact zK h36
 | 37,_=>exact zK h37
 | 38,_=>exact zK h38
 | 39,_=>exact vZ h39
 | 40,_=>exact vZ h40
 | 41,_=>exact zK h41
 | 42,_=>exact vN (fun r h=>vY h) h42
 | 43,_=>exact vN (fun r h=>vM h) h43
 | 44,_=>exact zK h44
 | 45,_=>exact zK h45
 | 46,_=>exact zK h46
 | 47,_=>exact zK h47
 | 48,_=>exact zK h48
 | 49,_=>exact zK h49
 | 50,_=>exact vZ h50
 | 51,_=>exact vZ h51
 | 52,_=>exact zK h52
 | 53,_=>exact vN (fun r h=>vY h) h53
 | 54,_=>exact vN (fun r h=>vM h) h54
 | 55,_=>exact zK h55
 | 56,_=>exact zK h56
 | 57,_=>exact zK h57
 | 58,_=>exact zK h58
 | 59,_=>exact zK h59
 | 60,_=>exact zK h60
 | 61,_=>exact vZ h61
 | 62,_=>exact vZ h62
 | 63,_=>exact zK h63
 | 64,_=>exact vN (fun r h=>vY h) h64
 | 65,_=>exact vN (fun r h=>vM h) h65
 | 66,_=>exact zK h66
 | 67,_=>exact zK h67
 | 68,_=>exact zK h68
 | 69,_=>exact zK h69
 | 70,_=>exact zK h70
 | 71,_=>exact zK h71
 | 72,_=>exact vZ h72
 | 73,_=>exact vZ h73
 | 74,_=>exact zK h74
 | 75,_=>exact vN (fun r h=>vY h) h75
 | 76,_=>exact vN (fun r h=>vM h) h76
 | 77,_=>exact zK h77
 | 78,_=>exact zK h78
 | 79,_=>exact zK h79
 | 80,_=>exact zK h80
 | 81,_=>exact zK h81
 | 82,_=>exact zK h82
 | 83,_=>exact vZ h83
 | 84,_=>exact vZ h84
 | 85,_=>exact zK h85
 | 86,_=>exact vN (fun r h=>vY h) h86
 | 87,_=>exact vN (fun r h=>vM h) h87
 | y+88,hy=>omega
theorem e_A8TRoots_0 (l:List A8TRoots) (x:Nat):enR zF l x 0 = .int .u8 ((((gd l x).x0).Own).x0):=rfl
theorem e_A8TRoots_1 (l:List A8TRoots) (x:Nat):enR zF l x 1 = .int .u8 ((((gd l x).x0).Own).x1):=rfl
theorem e_A8TRoots_2 (l:List A8TRoots) (x:Nat):enR zF l x 2 = .int .u8 ((((gd l x).x0).Own).x2):=rfl
theorem e_A8TRoots_3 (l:List A8TRoots) (x:Nat):enR zF l x 3 = .int .u8 ((((gd l x).x0).Own).x3):=rfl
theorem e_A8TRoots_4 (l:List A8TRoots) (x:Nat):enR zF l x 4 = .int .u8 ((((gd l x).x0).Own).x4):=rfl
theorem e_A8TRoots_5 (l:List A8TRoots) (x:Nat):enR zF l x 5 = .int .u8 ((((gd l x).x0).Own).x5):=rfl
theorem e_A8TRoots_6 (l:List A8TRoots) (x:Nat):enR zF l x 6 = .bool (((gd l x).x0).Root):=rfl
theorem e_A8TRoots_7 (l:List A8TRoots) (x:Nat):enR zF l x 7 = .bool (((gd l x).x0).Gate):=rfl
theorem e_A8TRoots_8 (l:List A8TRoots) (x:Nat):enR zF l x 8 = .int .i64 (((gd l x).x0).Seq):=rfl
theorem e_A8TRoots_9 (l:List A8TRoots) (x:Nat):enR zF l x 9 = .ro 17 (((gd l x).x0).Trees).length false (enR zH (((gd l x).x0).Trees)):=rfl
theorem e_A8TRoots_10 (l:List A8TRoots) (x:Nat):enR zF l x 10 = .ro 13 (((gd l x).x0).Proxies).length false (enR zC (((gd l x).x0).Proxies)):=rfl
theorem e_A8TRoots_11 (l:List A8TRoots) (x:Nat):enR zF l x 11 = .int .u8 ((((gd l x).x1).Own).x0):=rfl
theorem e_A8TRoots_12 (l:List A8TRoots) (x:Nat):enR zF l x 12 = .int .u8 ((((gd l x).x1).Own).x1):=rfl
theorem e_A8TRoots_13 (l:List A8TRoots) (x:Nat):enR zF l x 13 = .int .u8 ((((gd l x).x1).Own).x2):=rfl
theorem e_A8TRoots_14 (l:List A8TRoots) (x:Nat):enR zF l x 14 = .int .u8 ((((gd l x).x1).Own).x3):=rfl
theorem e_A8TRoots_15 (l:List A8TRoots) (x:Nat):enR zF l x 15 = .int .u8 ((((gd l x).x1).Own).x4):=rfl
theorem e_A8TRoots_16 (l:List A8TRoots) (x:Nat):enR zF l x 16 = .int .u8 ((((gd l x).x1).Own).x5):=rfl
theorem e_A8TRoots_17 (l:List A8TRoots) (x:Nat):enR zF l x 17 = .bool (((gd l x).x1).Root):=rfl
theorem e_A8TRoots_18 (l:List A8TRoots) (x:Nat):enR zF l x 18 = .bool (((gd l x).x1).Gate):=rfl
theorem e_A8TRoots_19 (l:List A8TRoots) (x:Nat):enR zF l x 19 = .int .i64 (((gd l x).x1).Seq):=rfl
theorem e_A8TRoots_20 (l:List A8TRoots) (x:Nat):enR zF l x 20 = .ro 17 (((gd l x).x1).Trees).length false (enR zH (((gd l x).x1).Trees)):=rfl
theorem e_A8TRoots_21 (l:List A8TRoots) (x:Nat):enR zF l x 21 = .ro 13 (((gd l x).x1).Proxies).length false (enR zC (((gd l x).x1).Proxies)):=rfl
theorem e_A8TRoots_22 (l:List A8TRoots) (x:Nat):enR zF l x 22 = .int .u8 ((((gd l x).x2).Own).x0):=rfl
theorem e_A8TRoots_23 (l:List A8TRoots) (x:Nat):enR zF l x 23 = .int .u8 ((((gd l x).x2).Own).x1):=rfl
theorem e_A8TRoots_24 (l:List A8TRoots) (x:Nat):enR zF l x 24 = .int .u8 ((((gd l x).x2).Own).x2):=rfl
theorem e_A8TRoots_25 (l:List A8TRoots) (x:Nat):enR zF l x 25 = .int .u8 ((((gd l x).x2).Own).x3):=rfl
theorem e_A8TRoots_26 (l:List A8TRoots) (x:Nat):enR zF l x 26 = .int .u8 ((((gd l x).x2).Own).x4):=rfl
theorem e_A8TRoots_27 (l:List A8TRoots) (x:Nat):enR zF l x 27 = .int .u8 ((((gd l x).x2).Own).x5):=rfl
theorem e_A8TRoots_28 (l:List A8TRoots) (x:Nat):enR zF l x 28 = .bool (((gd l x).x2).Root):=rfl
theorem e_A8TRoots_29 (l:List A8TRoots) (x:Nat):enR zF l x 29 = .bool (((gd l x).x2).Gate):=rfl
theorem e_A8TRoots_30 (l:List A8TRoots) (x:Nat):enR zF l x 30 = .int .i64 (((gd l x).x2).Seq):=rfl
theorem e_A8TRoots_31 (l:List A8TRoots) (x:Nat):enR zF l x 31 = .ro 17 (((gd l x).x2).Trees).length false (enR zH (((gd l x).x2).Trees)):=rfl
theorem e_A8TRoots_32 (l:List A8TRoots) (x:Nat):enR zF l x 32 = .ro 13 (((gd l x).x2).Proxies).length false (enR zC (((gd l x).x2).Proxies)):=rfl
theorem e_A8TRoots_33 (l:List A8TRoots) (x:Nat):enR zF l x 33 = .int .u8 ((((gd l x).x3).Own).x0):=rfl
theorem e_A8TRoots_34 (l:List A8TRoots) (x:Nat):enR zF l x 34 = .int .u8 ((((gd l x).x3).Own).x1):=rfl
theorem e_A8TRoots_35 (l:List A8TRoots) (x:Nat):enR zF l x 35 = .int .u8 ((((gd l x).x3).Own).x2):=rfl
theorem e_A8TRoots_36 (l:List A8TRoots) (x:Nat):enR zF l x 36 = .int .u8 ((((gd l x).x3).Own).x3):=rfl
theorem e_A8TRoots_37 (l:List A8TRoots) (x:Nat):enR zF l x 37 = .int .u8 ((((gd l x).x3).Own).x4):=rfl
theorem e_A8TRoots_38 (l:List A8TRoots) (x:Nat):enR zF l x 38 = .int .u8 ((((gd l x).x3).Own).x5):=rfl
theorem e_A8TRoots_39 (l:List A8TRoots) (x:Nat):enR zF l x 39 = .bool (((gd l x).x3).Root):=rfl
theorem e_A8TRoots_40 (l:List A8TRoots) (x:Nat):enR zF l x 40 = .bool (((gd l x).x3).Gate):=rfl
theorem e_A8TRoots_41 (l:List A8TRoots) (x:Nat):enR zF l x 41 = .int .i64 (((gd l x).x3).Seq):=rfl
theorem e_A8TRoots_42 (l:List A8TRoots) (x:Nat):enR zF l x 42 = .ro 17 (((gd l x).x3).Trees).length false (enR zH (((gd l x).x3).Trees)):=rfl
theorem e_A8TRoots_43 (l:List A8TRoots) (x:Nat):enR zF l x 43 = .ro 13 (((gd l x).x3).Proxies).length false (enR zC (((gd l x).x3).Proxies)):=rfl
theorem e_A8TRoots_44 (l:List A8TRoots) (x:Nat):enR zF l x 44 = .int .u8 ((((gd l x).x4).Own).x0):=rfl
theorem e_A8TRoots_45 (l:List A8TRoots) (x:Nat):enR zF l x 45 = .int .u8 ((((gd l x).x4).Own).x1):=rfl
theorem e_A8TRoots_46 (l:List A8TRoots) (x:Nat):enR zF l x 46 = .int .u8 ((((gd l x).x4).Own).x2):=rfl
theorem e_A8TRoots_47 (l:List A8TRoots) (x:Nat):enR zF l x 47 = .int .u8 ((((gd l x).x4).Own).x3):=rfl
theorem e_A8TRoots_48 (l:List A8TRoots) (x:Nat):enR zF l x 48 = .int .u8 ((((gd l x).x4).Own).x4):=rfl
theorem e_A8TRoots_49 (l:List A8TRoots) (x:Nat):enR zF l x 49 = .int .u8 ((((gd l x).x4).Own).x5):=rfl
theorem e_A8TRoots_50 (l:List A8TRoots) (x:Nat):enR zF l x 50 = .bool (((gd l x).x4).Root):=rfl
theorem e_A8TRoots_51 (l:List A8TRoots) (x:Nat):enR zF l x 51 = .bool (((gd l x).x4).Gate):=rfl
theorem e_A8TRoots_52 (l:List A8TRoots) (x:Nat):enR zF l x 52 = .int .i64 (((gd l x).x4).Seq):=rfl
theorem e_A8TRoots_53 (l:List A8TRoots) (x:Nat):enR zF l x 53 = .ro 17 (((gd l x).x4).Trees).length false (enR zH (((gd l x).x4).Trees)):=rfl
theorem e_A8TRoots_54 (l:List A8TRoots) (x:Nat):enR zF l x 54 = .ro 13 (((gd l x).x4).Proxies).length false (enR zC (((gd l x).x4).Proxies)):=rfl
theorem e_A8TRoots_55 (l:List A8TRoots) (x:Nat):enR zF l x 55 = .int .u8 ((((gd l x).x5).Own).x0):=rfl
theorem e_A8TRoots_56 (l:List A8TRoots) (x:Nat):enR zF l x 56 = .int .u8 ((((gd l x).x5).Own).x1):=rfl
theorem e_A8TRoots_57 (l:List A8TRoots) (x:Nat):enR zF l x 57 = .int .u8 ((((gd l x).x5).Own).x2):=rfl
theorem e_A8TRoots_58 (l:List A8TRoots) (x:Nat):enR zF l x 58 = .int .u8 ((((gd l x).x5).Own).x3):=rfl
theorem e_A8TRoots_59 (l:List A8TRoots) (x:Nat):enR zF l x 59 = .int .u8 ((((gd l x).x5).Own).x4):=rfl
theorem e_A8TRoots_60 (l:List A8TRoots) (x:Nat):enR zF l x 60 = .int .u8 ((((gd l x).x5).Own).x5):=rfl
theorem e_A8TRoots_61 (l:List A8TRoots) (x:Nat):enR zF l x 61 = .bool (((gd l x).x5).Root):=rfl
theorem e_A8TRoots_62 (l:List A8TRoots) (x:Nat):enR zF l x 62 = .bool (((gd l x).x5).Gate):=rfl
theorem e_A8TRoots_63 (l:List A8TRoots) (x:Nat):enR zF l x 63 = .int .i64 (((gd l x).x5).Seq):=rfl
theorem e_A8TRoots_64 (l:List A8TRoots) (x:Nat):enR zF l x 64 = .ro 17 (((gd l x).x5).Trees).length false (enR zH (((gd l x).x5).Trees)):=rfl
theorem e_A8TRoots_65 (l:List A8TRoots) (x:Nat):enR zF l x 65 = .ro 13 (((gd l x).x5).Proxies).length false (enR zC (((gd l x).x5).Proxies)):=rfl
theorem e_A8TRoots_66 (l:List A8TRoots) (x:Nat):enR zF l x 66 = .int .u8 ((((gd l x).x6).Own).x0):=rfl
theorem e_A8TRoots_67 (l:List A8TRoots) (x:Nat):enR zF l x 67 = .int .u8 ((((gd l x).x6).Own).x1):=rfl
theorem e_A8TRoots_68 (l:List A8TRoots) (x:Nat):enR zF l x 68 = .int .u8 ((((gd l x).x6).Own).x2):=rfl
theorem e_A8TRoots_69 (l:List A8TRoots) (x:Nat):enR zF l x 69 = .int .u8 ((((gd l x).x6).Own).x3):=rfl
theorem e_A8TRoots_70 (l:List A8TRoots) (x:Nat):enR zF l x 70 = .int .u8 ((((gd l x).x6).Own).x4):=rfl
theorem e_A8TRoots_71 (l:List A8TRoots) (x:Nat):enR zF l x 71 = .int .u8 ((((gd l x).x6).Own).x5):=rfl
theorem e_A8TRoots_72 (l:List A8TRoots) (x:Nat):enR zF l x 72 = .bool (((gd l x).x6).Root):=rfl
theorem e_A8TRoots_73 (l:List A8TRoots) (x:Nat):enR zF l x 73 = .bool (((gd l x).x6).Gate):=rfl
theorem e_A8TRoots_74 (l:List A8TRoots) (x:Nat):enR zF l x 74 = .int .i64 (((gd l x).x6).Seq):=rfl
theorem e_A8TRoots_75 (l:List A8TRoots) (x:Nat):enR zF l x 75 = .ro 17 (((gd l x).x6).Trees).length false (enR zH (((gd l x).x6).Trees)):=rfl
theorem e_A8TRoots_76 (l:List A8TRoots) (x:Nat):enR zF l x 76 = .ro 13 (((gd l x).x6).Proxies).length false (enR zC (((gd l x).x6).Proxies)):=rfl
theorem e_A8TRoots_77 (l:List A8TRoots) (x:Nat):enR zF l x 77 = .int .u8 ((((gd l x).x7).Own).x0):=rfl
theorem e_A8TRoots_78 (l:List A8TRoots) (x:Nat):enR zF l x 78 = .int .u8 ((((gd l x).x7).Own).x1):=rfl
theorem e_A8TRoots_79 (l:List A8TRoots) (x:Nat):enR zF l x 79 = .int .u8 ((((gd l x).x7).Own).x2):=rfl
theorem e_A8TRoots_80 (l:List A8TRoots) (x:Nat):enR zF l x 80 = .int .u8 ((((gd l x).x7).Own).x3):=rfl
theorem e_A8TRoots_81 (l:List A8TRoots) (x:Nat):enR zF l x 81 = .int .u8 ((((gd l x).x7).Own).x4):=rfl
theorem e_A8TRoots_82 (l:List A8TRoots) (x:Nat):enR zF l x 82 = .int .u8 ((((gd l x).x7).Own).x5):=rfl
theorem e_A8TRoots_83 (l:List A8TRoots) (x:Nat):enR zF l x 83 = .bool (((gd l x).x7).Root):=rfl
theorem e_A8TRoots_84 (l:List A8TRoots) (x:Nat):enR zF l x 84 = .bool (((gd l x).x7).Gate):=rfl
theorem e_A8TRoots_85 (l:List A8TRoots) (x:Nat):enR zF l x 85 = .int .i64 (((gd l x).x7).Seq):=rfl
theorem e_A8TRoots_86 (l:List A8TRoots) (x:Nat):enR zF l x 86 = .ro 17 (((gd l x).x7).Trees).length false (enR zH (((gd l x).x7).Trees)):=rfl
theorem e_A8TRoots_87 (l:List A8TRoots) (x:Nat):enR zF l x 87 = .ro 13 (((gd l x).x7).Proxies).length false (enR zC (((gd l x).x7).Proxies)):=rfl
theorem fit_A8TRoots (n:Nat) (l:List A8TRoots):Fit uL n (enR zF l)=True:=eq_true (Fit_enR kc_A8TRoots)
theorem de_A8TRoots (l:List A8TRoots):deR wN l.length (enR zF l)=l:=deR_enR gc_A8TRoots l
theorem eta_A8TRoots (a:A8TRoots):A8TRoots.mk a.x0 a.x1 a.x2 a.x3 a.x4 a.x5 a.x6 a.x7=a:=rfl
theorem wA_A8TRoots {v:AV} (h:aK 88 uL v):WkV (.agg (zF (wN (aL v)))) v/\nref (.agg (zF (wN (aL v)))):=aK_wk (f:=zF) (g:=wN) (fun r h=>w_A8TRoots h) rfl (by simp only [zF,nrefL,nref,and_self]) h
def gN (a:Int):List AV:=[.int .u32 a]
def g_u32 (f:Nat->AV):Int:=iA (f 0)
def k_u32 (f:Nat->AV):Prop:=iK .u32 (f 0)
theorem gc_u32 (a:Int):g_u32 (zL (gN a))=a:=by
 simp only [g_u32,gN,zL,iA,bA,sA,lA]
theorem kc_u32 (a:Int):k_u32 (zL (gN a)):=by
 simp only [k_u32,gN,zL,iK,bK,sK,lK,or_true,true_and,and_true,and_self]
theorem nr_u32 (a:Int):nrefL (gN a):=by simp only [gN,nrefL,nref,and_self]
instance:NOf gN:=⟨fun a=>by simp only [gN,xY,noro,and_self]⟩
instance:NRf gN:=⟨nr_u32⟩
instance:KCf k_u32 gN:=⟨kc_u32⟩
theorem e_u32_0 (l:List Int) (x:Nat):enR gN l x 0 = .int .u32 (gd l x):=rfl
theorem fit_u32 (n:Nat) (l:List Int):Fit k_u32 n (enR gN l)=True:=eq_true (Fit_enR kc_u32)
theorem de_u32 (l:List Int):deR g_u32 l.length (enR gN l)=l:=deR_enR gc_u32 l
def gO (a:Int):List AV:=[.int .u64 a]
def g_u64 (f:Nat->AV):Int:=iA (f 0)
def k_u64 (f:Nat->AV):Prop:=iK .u64 (f 0)
theorem gc_u64 (a:Int):g_u64 (zL (gO a))=a:=by
 simp only [g_u64,gO,zL,iA,bA,sA,lA]
theorem kc_u64 (a:Int):k_u64 (zL (gO a)):=by
 simp only [k_u64,gO,zL,iK,bK,sK,lK,or_true,true_and,and_true,and_self]
theorem nr_u64 (a:Int):nrefL (gO a):=by simp only [gO,nrefL,nref,and_self]
instance:NOf gO:=⟨fun a=>by simp only [gO,xY,noro,and_self]⟩
instance:NRf gO:=⟨nr_u64⟩
instance:KCf k_u64 gO:=⟨kc_u64⟩
theorem e_u64_0 (l:List Int) (x:Nat):enR gO l x 0 = .int .u64 (gd l x):=rfl
theorem fit_u64 (n:Nat) (l:List Int):Fit k_u64 n (enR gO l)=True:=eq_true (Fit_enR kc_u64)
theorem de_u64 (l:List Int):deR g_u64 l.length (enR gO l)=l:=deR_enR gc_u64 l
structure TReader where
 Data:_root_.List Int
 At:Int
 deriving Inhabited
def wZ (a:TReader):List AV:=[.ro 1 a.Data.length false (enR kE a.Data),.int .i64 a.At]
def dD (f:Nat->AV):TReader:=⟨lA bT (f 0),iA (f 1)⟩
def gV (f:Nat->AV):Prop:=lK k_u8 1 (f 0)/\iK .i64 (f 1)
theorem gc_TReader (a:TReader):dD (zL (wZ a))=a:=by
 simp only [dD,wZ,zL,iA,bA,sA,lA,deR_enR gc_u8]
theorem kc_TReader (a:TReader):gV (zL (wZ a)):=by
 simp only [gV,wZ,zL,iK,bK,sK,lK,or_true,true_and,and_true,and_self,Fit_enR kc_u8]
theorem nr_TReader (a:TReader):nrefL (wZ a):=by simp only [wZ,nrefL,nref,and_self]
instance:NRf wZ:=⟨nr_TReader⟩
instance:KCf gV wZ:=⟨kc_TReader⟩
theorem e_TReader_0 (l:List TReader) (x:Nat):enR wZ l x 0 = .ro 1 ((gd l x).Data).length false (enR kE ((gd l x).Data)):=rfl
theorem e_TReader_1 (l:List TReader) (x:Nat):enR wZ l x 1 = .int .i64 ((gd l x).At):=rfl
theorem fit_TReader (n:Nat) (l:List TReader):Fit gV n (enR wZ l)=True:=eq_true (Fit_enR kc_TReader)
theorem de_TReader (l:List TReader):deR dD l.length (enR wZ l)=l:=deR_enR gc_TReader l
theorem eta_TReader (a:TReader):TReader.mk a.Data a.At=a:=rfl
structure Tmessage where
 to_:Int
 from_:Int
 w:TRootWord
 deriving Inhabited
def zS (a:Tmessage):List AV:=[.int .i64 a.to_,.int .i64 a.from_,.int .u8 a.w.Root.x0,.int .u8 a.w.Root.x1,.int .u8 a.w.Root.x2,.int .u8 a.w.Root.x3,.int .u8 a.w.Root.x4,.int .u8 a.w.Root.x5,.int .i64 a.w.Seq,.int .i64 a.w.Hops,.int .i64 a.w.Cost,.bool a.w.Gate]
def wA (f:Nat->AV):Tmessage:=⟨iA (f 0),iA (f 1),⟨⟨iA (f 2),iA (f 3),iA (f 4),iA (f 5),iA (f 6),iA (f 7)⟩,iA (f 8),iA (f 9),iA (f 10),bA (f 11)⟩⟩
def uM (f:Nat->AV):Prop:=iK .i64 (f 0)/\iK .i64 (f 1)/\iK .u8 (f 2)/\iK .u8 (f 3)/\iK .u8 (f 4)/\iK .u8 (f 5)/\iK .u8 (f 6)/\iK .u8 (f 7)/\iK .i64 (f 8)/\iK .i64 (f 9)/\iK .i64 (f 10)/\bK (f 11)
theorem gc_Tmessage (a:Tmessage):wA (zL (zS a))=a:=by
 simp only [wA,zS,zL,iA,bA,sA,lA]
theorem eL (a:Tmessage):uM (zL (zS a)):=by
 simp only [uM,zS,zL,iK,bK,sK,lK,or_true,true_and,and_true,and_self]
theorem yV (a:Tmessage):nrefL (zS a):=by simp only [zS,nrefL,nref,and_self]
instance:NOf zS:=⟨fun a=>by simp only [zS,xY,noro,and_self]⟩
instance:NRf zS:=⟨yV⟩
instance:KCf uM zS:=⟨eL⟩
theorem w_Tmessage {f:Nat->AV} (h:uM f):∀ y,y < 12->WkV (zL (zS (wA f)) y) (f y)/\nref (zL (zS (wA f)) y):=by
 obtain ⟨h0,h1,h2,h3,h4,h5,h6,h7,h8,h9,h10,h11⟩:=h
 intro y hy
 match y,hy with
 | 0,_=>exact zK h0
 | 1,_=>exact zK h1
 | 2,_=>exact zK h2
 | 3,_=>exact zK h3
 | 4,_=>exact zK h4
 | 5,_=>exact zK h5
 | 6,_=>exact zK h6
 | 7,_=>exact zK h7
 | 8,_=>exact zK h8
 | 9,_=>exact zK h9
 | 10,_=>exact zK h10
 | 11,_=>exact vZ h11
 | y+12,hy=>omega
theorem e_Tmessage_0 (l:List Tmessage) (x:Nat):enR zS l x 0 = .int .i64 ((gd l x).to_):=rfl
theorem e_Tmessage_1 (l:List Tmessage) (x:Nat):enR zS l x 1 = .int .i64 ((gd l x).from_):=rfl
theorem e_Tmessage_2 (l:List Tmessage) (x:Nat):enR zS l x 2 = .int .u8 ((((gd l x).w).Root).x0):=rfl
theorem e_Tmessage_3 (l:List Tmessage) (x:Nat):enR zS l x 3 = .int .u8 ((((gd l x).w).Root).x1):=rfl
theorem e_Tmessage_4 (l:List Tmessage) (x:Nat):enR zS l x 4 = .int .u8 ((((gd l x).w).Root).x2):=rfl
theorem e_Tmessage_5 (l:List Tmessage) (x:Nat):enR zS l x 5 = .int .u8 ((((gd l x).w).Root).x3):=rfl
theorem e_Tmessage_6 (l:List Tmessage) (x:Nat):enR zS l x 6 = .int .u8 ((((gd l x).w).Root).x4):=rfl
theorem e_Tmessage_7 (l:List Tmessage) (x:Nat):enR zS l x 7 = .int .u8 ((((gd l x).w).Root).x5):=rfl
theorem e_Tmessage_8 (l:List Tmessage) (x:Nat):enR zS l x 8 = .int .i64 (((gd l x).w).Seq):=rfl
theorem e_Tmessage_9 (l:List Tmessage) (x:Nat):enR zS l x 9 = .int .i64 (((gd l x).w).Hops):=rfl
theorem e_Tmessage_10 (l:List Tmessage) (x:Nat):enR zS l x 10 = .int .i64 (((gd l x).w).Cost):=rfl
theorem e_Tmessage_11 (l:List Tmessage) (x:Nat):enR zS l x 11 = .bool (((gd l x).w).Gate):=rfl
theorem fit_Tmessage (n:Nat) (l:List Tmessage):Fit uM n (enR zS l)=True:=eq_true (Fit_enR eL)
theorem de_Tmessage (l:List Tmessage):deR wA l.length (enR zS l)=l:=deR_enR gc_Tmessage l
theorem fI (a:Tmessage):Tmessage.mk a.to_ a.from_ a.w=a:=rfl
def wG (a:List Tmessage):List AV:=[.ro 12 a.length false (enR zS a)]
def hD (f:Nat->AV):List Tmessage:=lA wA (f 0)
def qQ (f:Nat->AV):Prop:=lK uM 12 (f 0)
theorem gc_lTmessage (a:List Tmessage):hD (zL (wG a))=a:=by
 simp only [hD,wG,zL,iA,bA,sA,lA,deR_enR gc_Tmessage]
theorem kc_lTmessage (a:List Tmessage):qQ (zL (wG a)):=by
 simp only [qQ,wG,zL,iK,bK,sK,lK,or_true,true_and,and_true,and_self,Fit_enR eL]
theorem nr_lTmessage (a:List Tmessage):nrefL (wG a):=by simp only [wG,nrefL,nref,and_self]
instance:NRf wG:=⟨nr_lTmessage⟩
instance:KCf qQ wG:=⟨kc_lTmessage⟩
theorem e_lTmessage_0 (l:List (List Tmessage)) (x:Nat):enR wG l x 0 = .ro 12 (gd l x).length false (enR zS (gd l x)):=rfl
theorem fit_lTmessage (n:Nat) (l:List (List Tmessage)):Fit qQ n (enR wG l)=True:=eq_true (Fit_enR kc_lTmessage)
theorem de_lTmessage (l:List (List Tmessage)):deR hD l.length (enR wG l)=l:=deR_enR gc_lTmessage l
def shT (t:TypeId):Option (List Leaf):=if t=23 then some [.i .u8,.i .u8,.i .u8,.i .u8,.i .u8,.i .u8] else if t=25 then some [.i .u8,.i .u8,.i .u8,.i .u8,.i .u8,.i .u8,.i .i64,.i .i64,.i .i64,.b] else if t=62 then some [.i .u8,.i .u8,.i .u8,.i .u8,.i .u8,.i .u8,.i .u8,.i .u8,.i .u8,.i .u8,.i .u8,.i .u8,.i .i64,.i .i64,.i .i64,.b,.i .i64] else if t=64 then some [.i .u8,.i .u8,.i .u8,.i .u8,.i .u8,.i .u8,.i .u8,.i .u8,.i .u8,.i .u8,.i .u8,.i .u8,.i .i64] else if t=80 then some [.i .i64,.i .i64,.i .i64,.i .i64,.i .i64,.i .i64,.i .i64,.i .i64] else if t=130 then some [.i .i64,.i .i64,.i .u8,.i .u8,.i .u8,.i .u8,.i .u8,.i .u8,.i .i64,.i .i64,.i .i64,.b] else none
theorem zR:jS Try.prog shT:=by
 refine shOk_of fun t l h=>?_
 unfold shT at h
 split at h
 ·rename_i ht;subst ht;injection h with h;subst h;exact ⟨by kernel_rfl,by kernel_rfl,by kernel_rfl⟩
 split at h
 ·rename_i ht;subst ht;injection h with h;subst h;exact ⟨by kernel_rfl,by kernel_rfl,by kernel_rfl⟩
 split at h
 ·rename_i ht;subst ht;injection h with h;subst h;exact ⟨by kernel_rfl,by kernel_rfl,by kernel_rfl⟩
 split at h
 ·rename_i ht;subst ht;injection h with h;subst h;exact ⟨by kernel_rfl,by kernel_rfl,by kernel_rfl⟩
 split at h
 ·rename_i ht;subst ht;injection h with h;subst h;exact ⟨by kernel_rfl,by kernel_rfl,by kernel_rfl⟩
 split at h
 ·rename_i ht;subst ht;injection h with h;subst h;exact ⟨by kernel_rfl,by kernel_rfl,by kernel_rfl⟩
 cases h
theorem shT_23:shT 23=some [.i .u8,.i .u8,.i .u8,.i .u8,.i .u8,.i .u8]:=rfl
theorem shT_25:shT 25=some [.i .u8,.i .u8,.i .u8,.i .u8,.i .u8,.i .u8,.i .i64,.i .i64,.i .i64,.b]:=rfl
theorem shT_62:shT 62=some [.i .u8,.i .u8,.i .u8,.i .u8,.i .u8,.i .u8,.i .u8,.i .u8,.i .u8,.i .u8,.i .u8,.i .u8,.i .i64,.i .i64,.i .i64,.b,.i .i64]:=rfl
theorem shT_64:shT 64=some [.i .u8,.i .u8,.i .u8,.i .u8,.i .u8,.i .u8,.i .u8,.i .u8,.i .u8,.i .u8,.i .u8,.i .u8,.i .i64]:=rfl
theorem shT_80:shT 80=some [.i .i64,.i .i64,.i .i64,.i .i64,.i .i64,.i .i64,.i .i64,.i .i64]:=rfl
theorem shT_130:shT 130=some [.i .i64,.i .i64,.i .u8,.i .u8,.i .u8,.i .u8,.i .u8,.i .u8,.i .i64,.i .i64,.i .i64,.b]:=rfl
theorem Fit_app {k:(Nat->AV)->Prop} {n p:Nat} {c d:Nat->Nat->AV} (h1:Fit k p c) (h2:Fit k (n - p) d):Fit k n (tR p c d):=fun x hx=>by
 by_cases h:x < p
 ·rw [show tR p c d x=c x from funext fun y=>if_pos h];exact h1 x h
 ·rw [show tR p c d x=d (x - p) from funext fun y=>if_neg h];exact h2 _ (by omega)
def ctNo:Ct:=tab []
theorem zB:xK Try.prog ctNo:=yM
theorem strE_u8 (s:ByteArray):strE s=enR kE (gD s):=strE_en (fun _=>rfl) s
theorem rg {ct:Ct} (C:xK Try.prog ct) {a:Code} {K:Kt} {t:List AV} {h:List ABlk} (hw:wpC Try.prog shT ct a K t h):Mean Try.prog a K t h:=wpC_sound zR C a K t h hw
theorem sq {ct:Ct} (C:xK Try.prog ct) {a b:Code} {K:Kt} {t:List AV} {h:List ABlk} (hw:wpC Try.prog shT ct a (kM Try.prog b K) t h):Mean Try.prog (.seq a b) K t h:=zW (wpC_sound zR C a _ t h hw)
theorem bsj {α β : Type} {x : α} {f : α -> Option β} {r : β} (h : (some x).bind f=some r) : ∃ w,x=w /\ f w=some r:=⟨x,rfl,h⟩
theorem nI {α : Type} {q : Int} {n : Nat} {k : Option α} {r : α} (h : need (inb q n) k=some r) : (0 <= q /\ q < n /\ q.toNat < n) /\ k=some r:=⟨yX.1 (zM.1 h).1,(zM.1 h).2⟩
theorem nC {α : Type} {b n : Nat} {k : Option α} {r : α} (h : need (capb b n) k=some r) : ((n : Int) * b <= 140737488355328 /\ n <= 140737488355328) /\ k=some r:=⟨qM.1 (zM.1 h).1,(zM.1 h).2⟩
theorem nS {α : Type} {p q : Int} {n : Nat} {k : Option α} {r : α} (h : need (slb p q n) k=some r) : (0 <= p /\ p <= q /\ q <= n) /\ k=some r:=⟨slb_iff.1 (zM.1 h).1,(zM.1 h).2⟩
theorem aI {A B : Prop} (a : A) (b : B) : A /\ B:=⟨a,b⟩
theorem lC {α : Type} {a : α} {l : List α} : (a::l).length=l.length+1:=rfl
theorem lN {α : Type} : ([] : List α).length=0:=rfl
theorem rS {α : Type} {a : α} {n : Nat} : List.replicate (n+1) a=a::List.replicate n a:=rfl
theorem rZ {α : Type} {a : α} : List.replicate 0 a=[]:=rfl
theorem aC {α : Type} {a : α} {l m : List α} : a::l ++ m=a::(l ++ m):=rfl
theorem aN {α : Type} {l : List α} : [] ++ l=l:=rfl
theorem tS {α : Type} {a : α} {l : List α} {n : Nat} : (a::l).take (n+1)=a::l.take n:=rfl
theorem tZ {α : Type} {l : List α} : l.take 0=[]:=rfl
theorem dS {α : Type} {a : α} {l : List α} {n : Nat} : (a::l).drop (n+1)=l.drop n:=rfl
theorem dZ {α : Type} {l : List α} : l.drop 0=l:=rfl
theorem oE {α : Type} {o : Option α} : o.isSome=true ↔ ∃ a,o=some a:=Option.isSome_iff_exists
end Go.Proofs.Ytdcepineppafpaa
