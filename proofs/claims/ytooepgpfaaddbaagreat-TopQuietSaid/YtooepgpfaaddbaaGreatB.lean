/-
  Go's values as typed values.
-/
import Derived.Test.YtooepgpfaaddbaaGreatT
import Derived.Test.YtooepgpfaaddbaaGreatPm10
namespace Go.Proofs.YtooepgpfaaddbaaGreat
open Go.Am
set_option linter.unusedVariables false
set_option linter.unusedSimpArgs false
def c_u8 (a:Int):List AV:=[.int .u8 a]
def g_u8 (f:Nat->AV):Int:=iA (f 0)
def k_u8 (f:Nat->AV):Prop:=iK .u8 (f 0)
theorem gc_u8 (a:Int):g_u8 (getL (c_u8 a))=a:=by
 simp only [g_u8,c_u8,getL,iA,bA,sA,lA]
theorem kc_u8 (a:Int):k_u8 (getL (c_u8 a)):=by
 simp only [k_u8,c_u8,getL,iK,bK,sK,lK,or_true,true_and,and_true,and_self]
theorem vC (a:Int):nrefL (c_u8 a):=by simp only [c_u8,nrefL,nref,and_self]
instance:NOf c_u8:=⟨fun a=>by simp only [c_u8,yK,noro,and_self]⟩
instance:NRf c_u8:=⟨vC⟩
instance:KCf k_u8 c_u8:=⟨kc_u8⟩
theorem w_u8 {f:Nat->AV} (h:k_u8 f):∀ y,y < 1->WkV (getL (c_u8 (g_u8 f)) y) (f y)/\nref (getL (c_u8 (g_u8 f)) y):=by
 have h0:=h
 intro y hy
 match y,hy with
 | 0,_=>exact iK_wk h0
 | y+1,hy=>omega
theorem e_u8_0 (l:List Int) (x:Nat):enR c_u8 l x 0 = .int .u8 (gd l x):=rfl
theorem fit_u8 (n:Nat) (l:List Int):Fit k_u8 n (enR c_u8 l)=True:=eq_true (Fit_enR kc_u8)
theorem de_u8 (l:List Int):deR g_u8 l.length (enR c_u8 l)=l:=deR_enR gc_u8 l
def yG (a:Int):List AV:=[.int .i64 a]
def xQ (f:Nat->AV):Int:=iA (f 0)
def kE (f:Nat->AV):Prop:=iK .i64 (f 0)
theorem gc_i64 (a:Int):xQ (getL (yG a))=a:=by
 simp only [xQ,yG,getL,iA,bA,sA,lA]
theorem kc_i64 (a:Int):kE (getL (yG a)):=by
 simp only [kE,yG,getL,iK,bK,sK,lK,or_true,true_and,and_true,and_self]
theorem xL (a:Int):nrefL (yG a):=by simp only [yG,nrefL,nref,and_self]
instance:NOf yG:=⟨fun a=>by simp only [yG,yK,noro,and_self]⟩
instance:NRf yG:=⟨xL⟩
instance:KCf kE yG:=⟨kc_i64⟩
theorem jJ {f:Nat->AV} (h:kE f):∀ y,y < 1->WkV (getL (yG (xQ f)) y) (f y)/\nref (getL (yG (xQ f)) y):=by
 have h0:=h
 intro y hy
 match y,hy with
 | 0,_=>exact iK_wk h0
 | y+1,hy=>omega
theorem e_i64_0 (l:List Int) (x:Nat):enR yG l x 0 = .int .i64 (gd l x):=rfl
theorem fit_i64 (n:Nat) (l:List Int):Fit kE n (enR yG l)=True:=eq_true (Fit_enR kc_i64)
theorem de_i64 (l:List Int):deR xQ l.length (enR yG l)=l:=deR_enR gc_i64 l
def c_b (a:Bool):List AV:=[.bool a]
def k_b (f:Nat->AV):Prop:=bK (f 0)
theorem kc_b (a:Bool):k_b (getL (c_b a)):=by
 simp only [k_b,c_b,getL,iK,bK,sK,lK,or_true,true_and,and_true,and_self]
theorem nr_b (a:Bool):nrefL (c_b a):=by simp only [c_b,nrefL,nref,and_self]
instance:NOf c_b:=⟨fun a=>by simp only [c_b,yK,noro,and_self]⟩
instance:NRf c_b:=⟨nr_b⟩
instance:KCf k_b c_b:=⟨kc_b⟩
theorem e_b_0 (l:List Bool) (x:Nat):enR c_b l x 0 = .bool (gd l x):=rfl
structure TRegulateChannel where
 Number:Int
 Max:Int
 Radar:Bool
 deriving Inhabited
def c_TRegulateChannel (a:TRegulateChannel):List AV:=[.int .i64 a.Number,.int .i64 a.Max,.bool a.Radar]
def g_TRegulateChannel (f:Nat->AV):TRegulateChannel:=⟨iA (f 0),iA (f 1),bA (f 2)⟩
def zZ (f:Nat->AV):Prop:=iK .i64 (f 0)/\iK .i64 (f 1)/\bK (f 2)
theorem gc_TRegulateChannel (a:TRegulateChannel):g_TRegulateChannel (getL (c_TRegulateChannel a))=a:=by
 simp only [g_TRegulateChannel,c_TRegulateChannel,getL,iA,bA,sA,lA]
theorem kc_TRegulateChannel (a:TRegulateChannel):zZ (getL (c_TRegulateChannel a)):=by
 simp only [zZ,c_TRegulateChannel,getL,iK,bK,sK,lK,or_true,true_and,and_true,and_self]
theorem zI (a:TRegulateChannel):nrefL (c_TRegulateChannel a):=by simp only [c_TRegulateChannel,nrefL,nref,and_self]
instance:NOf c_TRegulateChannel:=⟨fun a=>by simp only [c_TRegulateChannel,yK,noro,and_self]⟩
instance:NRf c_TRegulateChannel:=⟨zI⟩
instance:KCf zZ c_TRegulateChannel:=⟨kc_TRegulateChannel⟩
theorem yH {f:Nat->AV} (h:zZ f):∀ y,y < 3->WkV (getL (c_TRegulateChannel (g_TRegulateChannel f)) y) (f y)/\nref (getL (c_TRegulateChannel (g_TRegulateChannel f)) y):=by
 obtain ⟨h0,h1,h2⟩:=h
 intro y hy
 match y,hy with
 | 0,_=>exact iK_wk h0
 | 1,_=>exact iK_wk h1
 | 2,_=>exact vT h2
 | y+3,hy=>omega
theorem cS (l:List TRegulateChannel) (x:Nat):enR c_TRegulateChannel l x 0 = .int .i64 ((gd l x).Number):=rfl
theorem cU (l:List TRegulateChannel) (x:Nat):enR c_TRegulateChannel l x 1 = .int .i64 ((gd l x).Max):=rfl
theorem cV (l:List TRegulateChannel) (x:Nat):enR c_TRegulateChannel l x 2 = .bool ((gd l x).Radar):=rfl
theorem bC (n:Nat) (l:List TRegulateChannel):Fit zZ n (enR c_TRegulateChannel l)=True:=eq_true (Fit_enR kc_TRegulateChannel)
theorem de_TRegulateChannel (l:List TRegulateChannel):deR g_TRegulateChannel l.length (enR c_TRegulateChannel l)=l:=deR_enR gc_TRegulateChannel l
theorem cW (a:TRegulateChannel):TRegulateChannel.mk a.Number a.Max a.Radar=a:=rfl
theorem qC {v:AV} (h:aK 3 zZ v):WkV (.agg (c_TRegulateChannel (g_TRegulateChannel (aL v)))) v/\nref (.agg (c_TRegulateChannel (g_TRegulateChannel (aL v)))):=aK_wk (f:=c_TRegulateChannel) (g:=g_TRegulateChannel) (fun r h=>yH h) rfl (by simp only [c_TRegulateChannel,nrefL,nref,and_self]) h
def wQ (a:List TRegulateChannel):List AV:=[.ro 3 a.length false (enR c_TRegulateChannel a)]
def qA (f:Nat->AV):Prop:=lK zZ 3 (f 0)
theorem bH (a:List TRegulateChannel):qA (getL (wQ a)):=by
 simp only [qA,wQ,getL,iK,bK,sK,lK,or_true,true_and,and_true,and_self,Fit_enR kc_TRegulateChannel]
theorem bM (a:List TRegulateChannel):nrefL (wQ a):=by simp only [wQ,nrefL,nref,and_self]
instance:NRf wQ:=⟨bM⟩
instance:KCf qA wQ:=⟨bH⟩
structure TMove where
 Kind:Int
 Wait:Int
 N:Int
 deriving Inhabited
def c_TMove (a:TMove):List AV:=[.int .u8 a.Kind,.int .i64 a.Wait,.int .i64 a.N]
def g_TMove (f:Nat->AV):TMove:=⟨iA (f 0),iA (f 1),iA (f 2)⟩
def fL (f:Nat->AV):Prop:=iK .u8 (f 0)/\iK .i64 (f 1)/\iK .i64 (f 2)
theorem gc_TMove (a:TMove):g_TMove (getL (c_TMove a))=a:=by
 simp only [g_TMove,c_TMove,getL,iA,bA,sA,lA]
theorem kc_TMove (a:TMove):fL (getL (c_TMove a)):=by
 simp only [fL,c_TMove,getL,iK,bK,sK,lK,or_true,true_and,and_true,and_self]
theorem nr_TMove (a:TMove):nrefL (c_TMove a):=by simp only [c_TMove,nrefL,nref,and_self]
instance:NOf c_TMove:=⟨fun a=>by simp only [c_TMove,yK,noro,and_self]⟩
instance:NRf c_TMove:=⟨nr_TMove⟩
instance:KCf fL c_TMove:=⟨kc_TMove⟩
theorem w_TMove {f:Nat->AV} (h:fL f):∀ y,y < 3->WkV (getL (c_TMove (g_TMove f)) y) (f y)/\nref (getL (c_TMove (g_TMove f)) y):=by
 obtain ⟨h0,h1,h2⟩:=h
 intro y hy
 match y,hy with
 | 0,_=>exact iK_wk h0
 | 1,_=>exact iK_wk h1
 | 2,_=>exact iK_wk h2
 | y+3,hy=>omega
theorem e_TMove_0 (l:List TMove) (x:Nat):enR c_TMove l x 0 = .int .u8 ((gd l x).Kind):=rfl
theorem e_TMove_1 (l:List TMove) (x:Nat):enR c_TMove l x 1 = .int .i64 ((gd l x).Wait):=rfl
theorem e_TMove_2 (l:List TMove) (x:Nat):enR c_TMove l x 2 = .int .i64 ((gd l x).N):=rfl
theorem fit_TMove (n:Nat) (l:List TMove):Fit fL n (enR c_TMove l)=True:=eq_true (Fit_enR kc_TMove)
theorem de_TMove (l:List TMove):deR g_TMove l.length (enR c_TMove l)=l:=deR_enR gc_TMove l
def eU (a:List TMove):List AV:=[.ro 3 a.length false (enR c_TMove a)]
def k_lTMove (f:Nat->AV):Prop:=lK fL 3 (f 0)
theorem kc_lTMove (a:List TMove):k_lTMove (getL (eU a)):=by
 simp only [k_lTMove,eU,getL,iK,bK,sK,lK,or_true,true_and,and_true,and_self,Fit_enR kc_TMove]
theorem nr_lTMove (a:List TMove):nrefL (eU a):=by simp only [eU,nrefL,nref,and_self]
instance:NRf eU:=⟨nr_lTMove⟩
instance:KCf k_lTMove eU:=⟨kc_lTMove⟩
structure TRegulateBlock where
 Channel:Int
 Until:Int
 deriving Inhabited
def zB (a:TRegulateBlock):List AV:=[.int .i64 a.Channel,.int .i64 a.Until]
def zF (f:Nat->AV):TRegulateBlock:=⟨iA (f 0),iA (f 1)⟩
def yN (f:Nat->AV):Prop:=iK .i64 (f 0)/\iK .i64 (f 1)
theorem gc_TRegulateBlock (a:TRegulateBlock):zF (getL (zB a))=a:=by
 simp only [zF,zB,getL,iA,bA,sA,lA]
theorem tB (a:TRegulateBlock):yN (getL (zB a)):=by
 simp only [yN,zB,getL,iK,bK,sK,lK,or_true,true_and,and_true,and_self]
theorem zM (a:TRegulateBlock):nrefL (zB a):=by simp only [zB,nrefL,nref,and_self]
instance:NOf zB:=⟨fun a=>by simp only [zB,yK,noro,and_self]⟩
instance:NRf zB:=⟨zM⟩
instance:KCf yN zB:=⟨tB⟩
theorem xD {f:Nat->AV} (h:yN f):∀ y,y < 2->WkV (getL (zB (zF f)) y) (f y)/\nref (getL (zB (zF f)) y):=by
 obtain ⟨h0,h1⟩:=h
 intro y hy
 match y,hy with
 | 0,_=>exact iK_wk h0
 | 1,_=>exact iK_wk h1
 | y+2,hy=>omega
theorem e_TRegulateBlock_0 (l:List TRegulateBlock) (x:Nat):enR zB l x 0 = .int .i64 ((gd l x).Channel):=rfl
theorem e_TRegulateBlock_1 (l:List TRegulateBlock) (x:Nat):enR zB l x 1 = .int .i64 ((gd l x).Until):=rfl
theorem fit_TRegulateBlock (n:Nat) (l:List TRegulateBlock):Fit yN n (enR zB l)=True:=eq_true (Fit_enR tB)
theorem de_TRegulateBlock (l:List TRegulateBlock):deR zF l.length (enR zB l)=l:=deR_enR gc_TRegulateBlock l
theorem eta_TRegulateBlock (a:TRegulateBlock):TRegulateBlock.mk a.Channel a.Until=a:=rfl
theorem kI {v:AV} (h:aK 2 yN v):WkV (.agg (zB (zF (aL v)))) v/\nref (.agg (zB (zF (aL v)))):=aK_wk (f:=zB) (g:=zF) (fun r h=>xD h) rfl (by simp only [zB,nrefL,nref,and_self]) h
def vG (a:List TRegulateBlock):List AV:=[.ro 2 a.length false (enR zB a)]
def kF (f:Nat->AV):Prop:=lK yN 2 (f 0)
theorem kc_lTRegulateBlock (a:List TRegulateBlock):kF (getL (vG a)):=by
 simp only [kF,vG,getL,iK,bK,sK,lK,or_true,true_and,and_true,and_self,Fit_enR tB]
theorem nr_lTRegulateBlock (a:List TRegulateBlock):nrefL (vG a):=by simp only [vG,nrefL,nref,and_self]
instance:NRf vG:=⟨nr_lTRegulateBlock⟩
instance:KCf kF vG:=⟨kc_lTRegulateBlock⟩
def c_li64 (a:List Int):List AV:=[.ro 1 a.length false (enR yG a)]
def k_li64 (f:Nat->AV):Prop:=lK kE 1 (f 0)
theorem kc_li64 (a:List Int):k_li64 (getL (c_li64 a)):=by
 simp only [k_li64,c_li64,getL,iK,bK,sK,lK,or_true,true_and,and_true,and_self,Fit_enR kc_i64]
theorem nr_li64 (a:List Int):nrefL (c_li64 a):=by simp only [c_li64,nrefL,nref,and_self]
instance:NRf c_li64:=⟨nr_li64⟩
instance:KCf k_li64 c_li64:=⟨kc_li64⟩
structure TRegulate where
 Table:_root_.List TRegulateChannel
 Channel:Int
 Lead:Bool
 Heard:Int
 Stopped:Bool
 Moving:Bool
 To:Int
 At:Int
 Blocked:_root_.List TRegulateBlock
 Clear:_root_.List Int
 deriving Inhabited
def zG (a:TRegulate):List AV:=[.ro 3 a.Table.length false (enR c_TRegulateChannel a.Table),.int .i64 a.Channel,.bool a.Lead,.int .i64 a.Heard,.bool a.Stopped,.bool a.Moving,.int .i64 a.To,.int .i64 a.At,.ro 2 a.Blocked.length false (enR zB a.Blocked),.ro 1 a.Clear.length false (enR yG a.Clear)]
def yJ (f:Nat->AV):TRegulate:=⟨lA g_TRegulateChannel (f 0),iA (f 1),bA (f 2),iA (f 3),bA (f 4),bA (f 5),iA (f 6),iA (f 7),lA zF (f 8),lA xQ (f 9)⟩
def xA (f:Nat->AV):Prop:=lK zZ 3 (f 0)/\iK .i64 (f 1)/\bK (f 2)/\iK .i64 (f 3)/\bK (f 4)/\bK (f 5)/\iK .i64 (f 6)/\iK .i64 (f 7)/\lK yN 2 (f 8)/\lK kE 1 (f 9)
theorem kc_TRegulate (a:TRegulate):xA (getL (zG a)):=by
 simp only [xA,zG,getL,iK,bK,sK,lK,or_true,true_and,and_true,and_self,Fit_enR tB,Fit_enR kc_TRegulateChannel,Fit_enR kc_i64]
theorem wY (a:TRegulate):nrefL (zG a):=by simp only [zG,nrefL,nref,and_self]
instance:NRf zG:=⟨wY⟩
instance:KCf xA zG:=⟨kc_TRegulate⟩
theorem qO {f:Nat->AV} (h:xA f):∀ y,y < 10->WkV (getL (zG (yJ f)) y) (f y)/\nref (getL (zG (yJ f)) y):=by
 obtain ⟨h0,h1,h2,h3,h4,h5,h6,h7,h8,h9⟩:=h
 intro y hy
 match y,hy with
 | 0,_=>exact lK_wk (fun r h=>yH h) h0
 | 1,_=>exact iK_wk h1
 | 2,_=>exact vT h2
 | 3,_=>exact iK_wk h3
 | 4,_=>exact vT h4
 | 5,_=>exact vT h5
 | 6,_=>exact iK_wk h6
 | 7,_=>exact iK_wk h7
 | 8,_=>exact lK_wk (fun r h=>xD h) h8
 | 9,_=>exact lK_wk (fun r h=>jJ h) h9
 | y+10,hy=>omega
theorem e_TRegulate_0 (l:List TRegulate) (x:Nat):enR zG l x 0 = .ro 3 ((gd l x).Table).length false (enR c_TRegulateChannel ((gd l x).Table)):=rfl
theorem e_TRegulate_1 (l:List TRegulate) (x:Nat):enR zG l x 1 = .int .i64 ((gd l x).Channel):=rfl
theorem e_TRegulate_2 (l:List TRegulate) (x:Nat):enR zG l x 2 = .bool ((gd l x).Lead):=rfl
theorem e_TRegulate_3 (l:List TRegulate) (x:Nat):enR zG l x 3 = .int .i64 ((gd l x).Heard):=rfl
theorem e_TRegulate_4 (l:List TRegulate) (x:Nat):enR zG l x 4 = .bool ((gd l x).Stopped):=rfl
theorem e_TRegulate_5 (l:List TRegulate) (x:Nat):enR zG l x 5 = .bool ((gd l x).Moving):=rfl
theorem e_TRegulate_6 (l:List TRegulate) (x:Nat):enR zG l x 6 = .int .i64 ((gd l x).To):=rfl
theorem e_TRegulate_7 (l:List TRegulate) (x:Nat):enR zG l x 7 = .int .i64 ((gd l x).At):=rfl
theorem e_TRegulate_8 (l:List TRegulate) (x:Nat):enR zG l x 8 = .ro 2 ((gd l x).Blocked).length false (enR zB ((gd l x).Blocked)):=rfl
theorem e_TRegulate_9 (l:List TRegulate) (x:Nat):enR zG l x 9 = .ro 1 ((gd l x).Clear).length false (enR yG ((gd l x).Clear)):=rfl
theorem vY (a:TRegulate):TRegulate.mk a.Table a.Channel a.Lead a.Heard a.Stopped a.Moving a.To a.At a.Blocked a.Clear=a:=rfl
theorem tT {v:AV} (h:aK 10 xA v):WkV (.agg (zG (yJ (aL v)))) v/\nref (.agg (zG (yJ (aL v)))):=aK_wk (f:=zG) (g:=yJ) (fun r h=>qO h) rfl (by simp only [zG,nrefL,nref,and_self]) h
def tK (a:List TRegulate):List AV:=[.ro 10 a.length false (enR zG a)]
def cA (f:Nat->AV):Prop:=lK xA 10 (f 0)
theorem kc_lTRegulate (a:List TRegulate):cA (getL (tK a)):=by
 simp only [cA,tK,getL,iK,bK,sK,lK,or_true,true_and,and_true,and_self,Fit_enR kc_TRegulate]
theorem nr_lTRegulate (a:List TRegulate):nrefL (tK a):=by simp only [tK,nrefL,nref,and_self]
instance:NRf tK:=⟨nr_lTRegulate⟩
instance:KCf cA tK:=⟨kc_lTRegulate⟩
def wD (a:List Int):List AV:=[.ro 1 a.length false (enR c_u8 a)]
def k_lu8 (f:Nat->AV):Prop:=lK k_u8 1 (f 0)
theorem kc_lu8 (a:List Int):k_lu8 (getL (wD a)):=by
 simp only [k_lu8,wD,getL,iK,bK,sK,lK,or_true,true_and,and_true,and_self,Fit_enR kc_u8]
theorem kX (a:List Int):nrefL (wD a):=by simp only [wD,nrefL,nref,and_self]
instance:NRf wD:=⟨kX⟩
instance:KCf k_lu8 wD:=⟨kc_lu8⟩
theorem e_lu8_0 (l:List (List Int)) (x:Nat):enR wD l x 0 = .ro 1 (gd l x).length false (enR c_u8 (gd l x)):=rfl
def c_llu8 (a:List (List Int)):List AV:=[.ro 1 a.length false (enR wD a)]
def k_llu8 (f:Nat->AV):Prop:=lK k_lu8 1 (f 0)
theorem kc_llu8 (a:List (List Int)):k_llu8 (getL (c_llu8 a)):=by
 simp only [k_llu8,c_llu8,getL,iK,bK,sK,lK,or_true,true_and,and_true,and_self,Fit_enR kc_lu8]
theorem nr_llu8 (a:List (List Int)):nrefL (c_llu8 a):=by simp only [c_llu8,nrefL,nref,and_self]
instance:NRf c_llu8:=⟨nr_llu8⟩
instance:KCf k_llu8 c_llu8:=⟨kc_llu8⟩
structure TRegulateWord where
 Kind:Int
 Channel:Int
 To:Int
 At:Int
 deriving Inhabited
def zR (a:TRegulateWord):List AV:=[.int .u8 a.Kind,.int .i64 a.Channel,.int .i64 a.To,.int .i64 a.At]
def zY (f:Nat->AV):TRegulateWord:=⟨iA (f 0),iA (f 1),iA (f 2),iA (f 3)⟩
def yV (f:Nat->AV):Prop:=iK .u8 (f 0)/\iK .i64 (f 1)/\iK .i64 (f 2)/\iK .i64 (f 3)
theorem dC (a:TRegulateWord):yV (getL (zR a)):=by
 simp only [yV,zR,getL,iK,bK,sK,lK,or_true,true_and,and_true,and_self]
theorem yL (a:TRegulateWord):nrefL (zR a):=by simp only [zR,nrefL,nref,and_self]
instance:NOf zR:=⟨fun a=>by simp only [zR,yK,noro,and_self]⟩
instance:NRf zR:=⟨yL⟩
instance:KCf yV zR:=⟨dC⟩
theorem w_TRegulateWord {f:Nat->AV} (h:yV f):∀ y,y < 4->WkV (getL (zR (zY f)) y) (f y)/\nref (getL (zR (zY f)) y):=by
 obtain ⟨h0,h1,h2,h3⟩:=h
 intro y hy
 match y,hy with
 | 0,_=>exact iK_wk h0
 | 1,_=>exact iK_wk h1
 | 2,_=>exact iK_wk h2
 | 3,_=>exact iK_wk h3
 | y+4,hy=>omega
theorem e_TRegulateWord_0 (l:List TRegulateWord) (x:Nat):enR zR l x 0 = .int .u8 ((gd l x).Kind):=rfl
theorem e_TRegulateWord_1 (l:List TRegulateWord) (x:Nat):enR zR l x 1 = .int .i64 ((gd l x).Channel):=rfl
theorem e_TRegulateWord_2 (l:List TRegulateWord) (x:Nat):enR zR l x 2 = .int .i64 ((gd l x).To):=rfl
theorem e_TRegulateWord_3 (l:List TRegulateWord) (x:Nat):enR zR l x 3 = .int .i64 ((gd l x).At):=rfl
theorem eta_TRegulateWord (a:TRegulateWord):TRegulateWord.mk a.Kind a.Channel a.To a.At=a:=rfl
theorem xY {v:AV} (h:aK 4 yV v):WkV (.agg (zR (zY (aL v)))) v/\nref (.agg (zR (zY (aL v)))):=aK_wk (f:=zR) (g:=zY) (fun r h=>w_TRegulateWord h) rfl (by simp only [zR,nrefL,nref,and_self]) h
def vJ (a:List TRegulateWord):List AV:=[.ro 4 a.length false (enR zR a)]
def kV (f:Nat->AV):Prop:=lK yV 4 (f 0)
theorem kc_lTRegulateWord (a:List TRegulateWord):kV (getL (vJ a)):=by
 simp only [kV,vJ,getL,iK,bK,sK,lK,or_true,true_and,and_true,and_self,Fit_enR dC]
theorem nr_lTRegulateWord (a:List TRegulateWord):nrefL (vJ a):=by simp only [vJ,nrefL,nref,and_self]
instance:NRf vJ:=⟨nr_lTRegulateWord⟩
instance:KCf kV vJ:=⟨kc_lTRegulateWord⟩
structure A6u8 where
 x0:Int
 x1:Int
 x2:Int
 x3:Int
 x4:Int
 x5:Int
 deriving Inhabited
def qZ (a:A6u8):List AV:=[.int .u8 a.x0,.int .u8 a.x1,.int .u8 a.x2,.int .u8 a.x3,.int .u8 a.x4,.int .u8 a.x5]
def gW (f:Nat->AV):A6u8:=⟨iA (f 0),iA (f 1),iA (f 2),iA (f 3),iA (f 4),iA (f 5)⟩
def bG (f:Nat->AV):Prop:=iK .u8 (f 0)/\iK .u8 (f 1)/\iK .u8 (f 2)/\iK .u8 (f 3)/\iK .u8 (f 4)/\iK .u8 (f 5)
theorem kc_A6u8 (a:A6u8):bG (getL (qZ a)):=by
 simp only [bG,qZ,getL,iK,bK,sK,lK,or_true,true_and,and_true,and_self]
theorem nr_A6u8 (a:A6u8):nrefL (qZ a):=by simp only [qZ,nrefL,nref,and_self]
instance:NOf qZ:=⟨fun a=>by simp only [qZ,yK,noro,and_self]⟩
instance:NRf qZ:=⟨nr_A6u8⟩
instance:KCf bG qZ:=⟨kc_A6u8⟩
theorem w_A6u8 {f:Nat->AV} (h:bG f):∀ y,y < 6->WkV (getL (qZ (gW f)) y) (f y)/\nref (getL (qZ (gW f)) y):=by
 obtain ⟨h0,h1,h2,h3,h4,h5⟩:=h
 intro y hy
 match y,hy with
 | 0,_=>exact iK_wk h0
 | 1,_=>exact iK_wk h1
 | 2,_=>exact iK_wk h2
 | 3,_=>exact iK_wk h3
 | 4,_=>exact iK_wk h4
 | 5,_=>exact iK_wk h5
 | y+6,hy=>omega
theorem eta_A6u8 (a:A6u8):A6u8.mk a.x0 a.x1 a.x2 a.x3 a.x4 a.x5=a:=rfl
theorem wA_A6u8 {v:AV} (h:aK 6 bG v):WkV (.agg (qZ (gW (aL v)))) v/\nref (.agg (qZ (gW (aL v)))):=aK_wk (f:=qZ) (g:=gW) (fun r h=>w_A6u8 h) rfl (by simp only [qZ,nrefL,nref,and_self]) h
def c_u64 (a:Int):List AV:=[.int .u64 a]
def k_u64 (f:Nat->AV):Prop:=iK .u64 (f 0)
theorem kc_u64 (a:Int):k_u64 (getL (c_u64 a)):=by
 simp only [k_u64,c_u64,getL,iK,bK,sK,lK,or_true,true_and,and_true,and_self]
theorem nr_u64 (a:Int):nrefL (c_u64 a):=by simp only [c_u64,nrefL,nref,and_self]
instance:NOf c_u64:=⟨fun a=>by simp only [c_u64,yK,noro,and_self]⟩
instance:NRf c_u64:=⟨nr_u64⟩
instance:KCf k_u64 c_u64:=⟨kc_u64⟩
structure TAction where
 Category:Int
 Code:Int
 Token:Int
 Data:_root_.List Int
 deriving Inhabited
def vQ (a:TAction):List AV:=[.int .u8 a.Category,.int .u8 a.Code,.int .u8 a.Token,.ro 1 a.Data.length false (enR c_u8 a.Data)]
def qI (f:Nat->AV):TAction:=⟨iA (f 0),iA (f 1),iA (f 2),lA g_u8 (f 3)⟩
def kU (f:Nat->AV):Prop:=iK .u8 (f 0)/\iK .u8 (f 1)/\iK .u8 (f 2)/\lK k_u8 1 (f 3)
theorem kc_TAction (a:TAction):kU (getL (vQ a)):=by
 simp only [kU,vQ,getL,iK,bK,sK,lK,or_true,true_and,and_true,and_self,Fit_enR kc_u8]
theorem nr_TAction (a:TAction):nrefL (vQ a):=by simp only [vQ,nrefL,nref,and_self]
instance:NRf vQ:=⟨nr_TAction⟩
instance:KCf kU vQ:=⟨kc_TAction⟩
theorem w_TAction {f:Nat->AV} (h:kU f):∀ y,y < 4->WkV (getL (vQ (qI f)) y) (f y)/\nref (getL (vQ (qI f)) y):=by
 obtain ⟨h0,h1,h2,h3⟩:=h
 intro y hy
 match y,hy with
 | 0,_=>exact iK_wk h0
 | 1,_=>exact iK_wk h1
 | 2,_=>exact iK_wk h2
 | 3,_=>exact lK_wk (fun r h=>w_u8 h) h3
 | y+4,hy=>omega
theorem wA_TAction {v:AV} (h:aK 4 kU v):WkV (.agg (vQ (qI (aL v)))) v/\nref (.agg (vQ (qI (aL v)))):=aK_wk (f:=vQ) (g:=qI) (fun r h=>w_TAction h) rfl (by simp only [vQ,nrefL,nref,and_self]) h
structure THeader where
 Kind:Int
 Sub:Int
 ToDs:Bool
 FromDs:Bool
 More:Bool
 Retry:Bool
 Sleep:Bool
 MoreData:Bool
 Protected:Bool
 Duration:Int
 A1:A6u8
 A2:A6u8
 A3:A6u8
 A4:A6u8
 Seq:Int
 Frag:Int
 Tid:Int
 Ack:Int
 Amsdu:Bool
 Eosp:Bool
 deriving Inhabited
def vF (a:THeader):List AV:=(.int .u8 a.Kind::.int .u8 a.Sub::.bool a.ToDs::.bool a.FromDs::.bool a.More::.bool a.Retry::.bool a.Sleep::.bool a.MoreData::.bool a.Protected::.int .i64 a.Duration::.int .u8 a.A1.x0::.int .u8 a.A1.x1::.int .u8 a.A1.x2::.int .u8 a.A1.x3::.int .u8 a.A1.x4::.int .u8 a.A1.x5::.int .u8 a.A2.x0::.int .u8 a.A2.x1::.int .u8 a.A2.x2::.int .u8 a.A2.x3::.int .u8 a.A2.x4::.int .u8 a.A2.x5::.int .u8 a.A3.x0::.int .u8 a.A3.x1::.int .u8 a.A3.x2::.int .u8 a.A3.x3::.int .u8 a.A3.x4::.int .u8 a.A3.x5::.int .u8 a.A4.x0::.int .u8 a.A4.x1::.int .u8 a.A4.x2::.int .u8 a.A4.x3::.int .u8 a.A4.x4::.int .u8 a.A4.x5::.int .i64 a.Seq::.int .i64 a.Frag::.int .i64 a.Tid::.int .u8 a.Ack::.bool a.Amsdu::.bool a.Eosp::[])
def wM (f:Nat->AV):THeader:=⟨iA (f 0),iA (f 1),bA (f 2),bA (f 3),bA (f 4),bA (f 5),bA (f 6),bA (f 7),bA (f 8),iA (f 9),⟨iA (f 10),iA (f 11),iA (f 12),iA (f 13),iA (f 14),iA (f 15)⟩,⟨iA (f 16),iA (f 17),iA (f 18),iA (f 19),iA (f 20),iA (f 21)⟩,⟨iA (f 22),iA (f 23),iA (f 24),iA (f 25),iA (f 26),iA (f 27)⟩,⟨iA (f 28),iA (f 29),iA (f 30),iA (f 31),iA (f 32),iA (f 33)⟩,iA (f 34),iA (f 35),iA (f 36),iA (f 37),bA (f 38),bA (f 39)⟩
def uW (f:Nat->AV):Prop:=iK .u8 (f 0)/\iK .u8 (f 1)/\bK (f 2)/\bK (f 3)/\bK (f 4)/\bK (f 5)/\bK (f 6)/\bK (f 7)/\bK (f 8)/\iK .i64 (f 9)/\iK .u8 (f 10)/\iK .u8 (f 11)/\iK .u8 (f 12)/\iK .u8 (f 13)/\iK .u8 (f 14)/\iK .u8 (f 15)/\iK .u8 (f 16)/\iK .u8 (f 17)/\iK .u8 (f 18)/\iK .u8 (f 19)/\iK .u8 (f 20)/\iK .u8 (f 21)/\iK .u8 (f 22)/\iK .u8 (f 23)/\iK .u8 (f 24)/\iK .u8 (f 25)/\iK .u8 (f 26)/\iK .u8 (f 27)/\iK .u8 (f 28)/\iK .u8 (f 29)/\iK .u8 (f 30)/\iK .u8 (f 31)/\iK .u8 (f 32)/\iK .u8 (f 33)/\iK .i64 (f 34)/\iK .i64 (f 35)/\iK .i64 (f 36)/\iK .u8 (f 37)/\bK (f 38)/\bK (f 39)
theorem kc_THeader (a:THeader):uW (getL (vF a)):=by
 simp only [uW,vF,getL,iK,bK,sK,lK,or_true,true_and,and_true,and_self]
theorem nr_THeader (a:THeader):nrefL (vF a):=by simp only [vF,nrefL,nref,and_self]
instance:NOf vF:=⟨fun a=>by simp only [vF,yK,noro,and_self]⟩
instance:NRf vF:=⟨nr_THeader⟩
instance:KCf uW vF:=⟨kc_THeader⟩
theorem w_THeader {f:Nat->AV} (h:uW f):∀ y,y < 40->WkV (getL (vF (wM f)) y) (f y)/\nref (getL (vF (wM f)) y):=by
 obtain ⟨h0,h1,h2,h3,h4,h5,h6,h7,h8,h9,h10,h11,h12,h13,h14,h15,h16,h17,h18,h19,h20,h21,h22,h23,h24,h25,h26,h27,h28,h29,h30,h31,h32,h33,h34,h35,h36,h37,h38,h39⟩:=h
 intro y hy
 match y,hy with
 | 0,_=>exact iK_wk h0
 | 1,_=>exact iK_wk h1
 | 2,_=>exact vT h2
 | 3,_=>exact vT h3
 | 4,_=>exact vT h4
 | 5,_=>exact vT h5
 | 6,_=>exact vT h6
 | 7,_=>exact vT h7
 | 8,_=>exact vT h8
 | 9,_=>exact iK_wk h9
 | 10,_=>exact iK_wk h10
 | 11,_=>exact iK_wk h11
 | 12,_=>exact iK_wk h12
 | 13,_=>exact iK_wk h13
 | 14,_=>exact iK_wk h14
 | 15,_=>exact iK_wk h15
 | 16,_=>exact iK_wk h16
 | 17,_=>exact iK_wk h17
 | 18,_=>exact iK_wk h18
 | 19,_=>exact iK_wk h19
 | 20,_=>exact iK_wk h20
 | 21,_=>exact iK_wk h21
 | 22,_=>exact iK_wk h22
 | 23,_=>exact iK_wk h23
 | 24,_=>exact iK_wk h24
 | 25,_=>exact iK_wk h25
 | 26,_=>exact iK_wk h26
 | 27,_=>exact iK_wk h27
 | 28,_=>exact iK_wk h28
 | 29,_=>exact iK_wk h29
 | 30,_=>exact iK_wk h30
 | 31,_=>exact iK_wk h31
 | 32,_=>exact iK_wk h32
 | 33,_=>exact iK_wk h33
 | 34,_=>exact iK_wk h34
 | 35,_=>exact iK_wk h35
 | 36,_=>exact iK_wk h36
 | 37,_=>exact iK_wk h37
 | 38,_=>exact vT h38
 | 39,_=>exact vT h39
 | y+40,hy=>omega
theorem eta_THeader (a:THeader):THeader.mk a.Kind a.Sub a.ToDs a.FromDs a.More a.Retry a.Sleep a.MoreData a.Protected a.Duration a.A1 a.A2 a.A3 a.A4 a.Seq a.Frag a.Tid a.Ack a.Amsdu a.Eosp=a:=rfl
theorem cF {v:AV} (h:aK 40 uW v):WkV (.agg (vF (wM (aL v)))) v/\nref (.agg (vF (wM (aL v)))):=aK_wk (f:=vF) (g:=wM) (fun r h=>w_THeader h) rfl (by simp only [vF,nrefL,nref,and_self]) h
structure TFrame where
 Head:THeader
 Body:_root_.List Int
 deriving Inhabited
def uS (a:TFrame):List AV:=(.int .u8 a.Head.Kind::.int .u8 a.Head.Sub::.bool a.Head.ToDs::.bool a.Head.FromDs::.bool a.Head.More::.bool a.Head.Retry::.bool a.Head.Sleep::.bool a.Head.MoreData::.bool a.Head.Protected::.int .i64 a.Head.Duration::.int .u8 a.Head.A1.x0::.int .u8 a.Head.A1.x1::.int .u8 a.Head.A1.x2::.int .u8 a.Head.A1.x3::.int .u8 a.Head.A1.x4::.int .u8 a.Head.A1.x5::.int .u8 a.Head.A2.x0::.int .u8 a.Head.A2.x1::.int .u8 a.Head.A2.x2::.int .u8 a.Head.A2.x3::.int .u8 a.Head.A2.x4::.int .u8 a.Head.A2.x5::.int .u8 a.Head.A3.x0::.int .u8 a.Head.A3.x1::.int .u8 a.Head.A3.x2::.int .u8 a.Head.A3.x3::.int .u8 a.Head.A3.x4::.int .u8 a.Head.A3.x5::.int .u8 a.Head.A4.x0::.int .u8 a.Head.A4.x1::.int .u8 a.Head.A4.x2::.int .u8 a.Head.A4.x3::.int .u8 a.Head.A4.x4::.int .u8 a.Head.A4.x5::.int .i64 a.Head.Seq::.int .i64 a.Head.Frag::.int .i64 a.Head.Tid::.int .u8 a.Head.Ack::.bool a.Head.Amsdu::.bool a.Head.Eosp::.ro 1 a.Body.length false (enR c_u8 a.Body)::[])
def jG (f:Nat->AV):TFrame:=⟨⟨iA (f 0),iA (f 1),bA (f 2),bA (f 3),bA (f 4),bA (f 5),bA (f 6),bA (f 7),bA (f 8),iA (f 9),⟨iA (f 10),iA (f 11),iA (f 12),iA (f 13),iA (f 14),iA (f 15)⟩,⟨iA (f 16),iA (f 17),iA (f 18),iA (f 19),iA (f 20),iA (f 21)⟩,⟨iA (f 22),iA (f 23),iA (f 24),iA (f 25),iA (f 26),iA (f 27)⟩,⟨iA (f 28),iA (f 29),iA (f 30),iA (f 31),iA (f 32),iA (f 33)⟩,iA (f 34),iA (f 35),iA (f 36),iA (f 37),bA (f 38),bA (f 39)⟩,lA g_u8 (f 40)⟩
def gX (f:Nat->AV):Prop:=iK .u8 (f 0)/\iK .u8 (f 1)/\bK (f 2)/\bK (f 3)/\bK (f 4)/\bK (f 5)/\bK (f 6)/\bK (f 7)/\bK (f 8)/\iK .i64 (f 9)/\iK .u8 (f 10)/\iK .u8 (f 11)/\iK .u8 (f 12)/\iK .u8 (f 13)/\iK .u8 (f 14)/\iK .u8 (f 15)/\iK .u8 (f 16)/\iK .u8 (f 17)/\iK .u8 (f 18)/\iK .u8 (f 19)/\iK .u8 (f 20)/\iK .u8 (f 21)/\iK .u8 (f 22)/\iK .u8 (f 23)/\iK .u8 (f 24)/\iK .u8 (f 25)/\iK .u8 (f 26)/\iK .u8 (f 27)/\iK .u8 (f 28)/\iK .u8 (f 29)/\iK .u8 (f 30)/\iK .u8 (f 31)/\iK .u8 (f 32)/\iK .u8 (f 33)/\iK .i64 (f 34)/\iK .i64 (f 35)/\iK .i64 (f 36)/\iK .u8 (f 37)/\bK (f 38)/\bK (f 39)/\lK k_u8 1 (f 40)
theorem kc_TFrame (a:TFrame):gX (getL (uS a)):=by
 simp only [gX,uS,getL,iK,bK,sK,lK,or_true,true_and,and_true,and_self,Fit_enR kc_u8]
theorem nr_TFrame (a:TFrame):nrefL (uS a):=by simp only [uS,nrefL,nref,and_self]
instance:NRf uS:=⟨nr_TFrame⟩
instance:KCf gX uS:=⟨kc_TFrame⟩
theorem w_TFrame {f:Nat->AV} (h:gX f):∀ y,y < 41->WkV (getL (uS (jG f)) y) (f y)/\nref (getL (uS (jG f)) y):=by
 obtain ⟨h0,h1,h2,h3,h4,h5,h6,h7,h8,h9,h10,h11,h12,h13,h14,h15,h16,h17,h18,h19,h20,h21,h22,h23,h24,h25,h26,h27,h28,h29,h30,h31,h32,h33,h34,h35,h36,h37,h38,h39,h40⟩:=h
 intro y hy
 match y,hy with
 | 0,_=>exact iK_wk h0
 | 1,_=>exact iK_wk h1
 | 2,_=>exact vT h2
 | 3,_=>exact vT h3
 | 4,_=>exact vT h4
 | 5,_=>exact vT h5
 | 6,_=>exact vT h6
 | 7,_=>exact vT h7
 | 8,_=>exact vT h8
 | 9,_=>exact iK_wk h9
 | 10,_=>exact iK_wk h10
 | 11,_=>exact iK_wk h11
 | 12,_=>exact iK_wk h12
 | 13,_=>exact iK_wk h13
 | 14,_=>exact iK_wk h14
 | 15,_=>exact iK_wk h15
 | 16,_=>exact iK_wk h16
 | 17,_=>exact iK_wk h17
 | 18,_=>exact iK_wk h18
 | 19,_=>exact iK_wk h19
 | 20,_=>exact iK_wk h20
 | 21,_=>exact iK_wk h21
 | 22,_=>exact iK_wk h22
 | 23,_=>exact iK_wk h23
 | 24,_=>exact iK_wk h24
 | 25,_=>exact iK_wk h25
 | 26,_=>exact iK_wk h26
 | 27,_=>exact iK_wk h27
 | 28,_=>exact iK_wk h28
 | 29,_=>exact iK_wk h29
 | 30,_=>exact iK_wk h30
 | 31,_=>exact iK_wk h31
 | 32,_=>exact iK_wk h32
 | 33,_=>exact iK_wk h33
 | 34,_=>exact iK_wk h34
 | 35,_=>exact iK_wk h35
 | 36,_=>exact iK_wk h36
 | 37,_=>exact iK_wk h37
 | 38,_=>exact vT h38
 | 39,_=>exact vT h39
 | 40,_=>exact lK_wk (fun r h=>w_u8 h) h40
 | y+41,hy=>omega
theorem wA_TFrame {v:AV} (h:aK 41 gX v):WkV (.agg (uS (jG (aL v)))) v/\nref (.agg (uS (jG (aL v)))):=aK_wk (f:=uS) (g:=jG) (fun r h=>w_TFrame h) rfl (by simp only [uS,nrefL,nref,and_self]) h
structure Twriter where
 b:_root_.List Int
 deriving Inhabited
def gA (a:Twriter):List AV:=[.ro 1 a.b.length false (enR c_u8 a.b)]
def k_Twriter (f:Nat->AV):Prop:=lK k_u8 1 (f 0)
theorem kc_Twriter (a:Twriter):k_Twriter (getL (gA a)):=by
 simp only [k_Twriter,gA,getL,iK,bK,sK,lK,or_true,true_and,and_true,and_self,Fit_enR kc_u8]
theorem nr_Twriter (a:Twriter):nrefL (gA a):=by simp only [gA,nrefL,nref,and_self]
instance:NRf gA:=⟨nr_Twriter⟩
instance:KCf k_Twriter gA:=⟨kc_Twriter⟩
structure Tcursor where
 b:_root_.List Int
 short:Bool
 deriving Inhabited
def vS (a:Tcursor):List AV:=[.ro 1 a.b.length false (enR c_u8 a.b),.bool a.short]
def kS (f:Nat->AV):Tcursor:=⟨lA g_u8 (f 0),bA (f 1)⟩
def tO (f:Nat->AV):Prop:=lK k_u8 1 (f 0)/\bK (f 1)
theorem kc_Tcursor (a:Tcursor):tO (getL (vS a)):=by
 simp only [tO,vS,getL,iK,bK,sK,lK,or_true,true_and,and_true,and_self,Fit_enR kc_u8]
theorem nr_Tcursor (a:Tcursor):nrefL (vS a):=by simp only [vS,nrefL,nref,and_self]
instance:NRf vS:=⟨nr_Tcursor⟩
instance:KCf tO vS:=⟨kc_Tcursor⟩
theorem w_Tcursor {f:Nat->AV} (h:tO f):∀ y,y < 2->WkV (getL (vS (kS f)) y) (f y)/\nref (getL (vS (kS f)) y):=by
 obtain ⟨h0,h1⟩:=h
 intro y hy
 match y,hy with
 | 0,_=>exact lK_wk (fun r h=>w_u8 h) h0
 | 1,_=>exact vT h1
 | y+2,hy=>omega
theorem eta_Tcursor (a:Tcursor):Tcursor.mk a.b a.short=a:=rfl
structure Tform where
 addresses:Bool
 sequence:Bool
 traffic:Bool
 deriving Inhabited
def fE (a:Tform):List AV:=[.bool a.addresses,.bool a.sequence,.bool a.traffic]
def k_Tform (f:Nat->AV):Prop:=bK (f 0)/\bK (f 1)/\bK (f 2)
theorem kc_Tform (a:Tform):k_Tform (getL (fE a)):=by
 simp only [k_Tform,fE,getL,iK,bK,sK,lK,or_true,true_and,and_true,and_self]
theorem nr_Tform (a:Tform):nrefL (fE a):=by simp only [fE,nrefL,nref,and_self]
instance:NOf fE:=⟨fun a=>by simp only [fE,yK,noro,and_self]⟩
instance:NRf fE:=⟨nr_Tform⟩
instance:KCf k_Tform fE:=⟨kc_Tform⟩
structure TReader where
 Data:_root_.List Int
 At:Int
 deriving Inhabited
def vR (a:TReader):List AV:=[.ro 1 a.Data.length false (enR c_u8 a.Data),.int .i64 a.At]
def yX (f:Nat->AV):TReader:=⟨lA g_u8 (f 0),iA (f 1)⟩
def uX (f:Nat->AV):Prop:=lK k_u8 1 (f 0)/\iK .i64 (f 1)
theorem kc_TReader (a:TReader):uX (getL (vR a)):=by
 simp only [uX,vR,getL,iK,bK,sK,lK,or_true,true_and,and_true,and_self,Fit_enR kc_u8]
theorem nr_TReader (a:TReader):nrefL (vR a):=by simp only [vR,nrefL,nref,and_self]
instance:NRf vR:=⟨nr_TReader⟩
instance:KCf uX vR:=⟨kc_TReader⟩
theorem w_TReader {f:Nat->AV} (h:uX f):∀ y,y < 2->WkV (getL (vR (yX f)) y) (f y)/\nref (getL (vR (yX f)) y):=by
 obtain ⟨h0,h1⟩:=h
 intro y hy
 match y,hy with
 | 0,_=>exact lK_wk (fun r h=>w_u8 h) h0
 | 1,_=>exact iK_wk h1
 | y+2,hy=>omega
theorem eta_TReader (a:TReader):TReader.mk a.Data a.At=a:=rfl
theorem cG {v:AV} (h:aK 2 uX v):WkV (.agg (vR (yX (aL v)))) v/\nref (.agg (vR (yX (aL v)))):=aK_wk (f:=vR) (g:=yX) (fun r h=>w_TReader h) rfl (by simp only [vR,nrefL,nref,and_self]) h
structure Treader where
 Reader:TReader
 e:Int
 deriving Inhabited
def hZ (a:Treader):List AV:=[.ro 1 a.Reader.Data.length false (enR c_u8 a.Reader.Data),.int .i64 a.Reader.At,.int .i64 a.e]
def k_Treader (f:Nat->AV):Prop:=lK k_u8 1 (f 0)/\iK .i64 (f 1)/\iK .i64 (f 2)
theorem kc_Treader (a:Treader):k_Treader (getL (hZ a)):=by
 simp only [k_Treader,hZ,getL,iK,bK,sK,lK,or_true,true_and,and_true,and_self,Fit_enR kc_u8]
theorem nr_Treader (a:Treader):nrefL (hZ a):=by simp only [hZ,nrefL,nref,and_self]
instance:NRf hZ:=⟨nr_Treader⟩
instance:KCf k_Treader hZ:=⟨kc_Treader⟩
def c_u32 (a:Int):List AV:=[.int .u32 a]
def k_u32 (f:Nat->AV):Prop:=iK .u32 (f 0)
theorem kc_u32 (a:Int):k_u32 (getL (c_u32 a)):=by
 simp only [k_u32,c_u32,getL,iK,bK,sK,lK,or_true,true_and,and_true,and_self]
theorem nr_u32 (a:Int):nrefL (c_u32 a):=by simp only [c_u32,nrefL,nref,and_self]
instance:NOf c_u32:=⟨fun a=>by simp only [c_u32,yK,noro,and_self]⟩
instance:NRf c_u32:=⟨nr_u32⟩
instance:KCf k_u32 c_u32:=⟨kc_u32⟩
def c_lb (a:List Bool):List AV:=[.ro 1 a.length false (enR c_b a)]
def k_lb (f:Nat->AV):Prop:=lK k_b 1 (f 0)
theorem kc_lb (a:List Bool):k_lb (getL (c_lb a)):=by
 simp only [k_lb,c_lb,getL,iK,bK,sK,lK,or_true,true_and,and_true,and_self,Fit_enR kc_b]
theorem nr_lb (a:List Bool):nrefL (c_lb a):=by simp only [c_lb,nrefL,nref,and_self]
instance:NRf c_lb:=⟨nr_lb⟩
instance:KCf k_lb c_lb:=⟨kc_lb⟩
def shT (t:TypeId):Option (List Leaf):=if t=35 then some [.i .i64,.i .i64,.b] else if t=43 then some [.i .u8,.i .i64,.i .i64,.i .i64] else if t=45 then some [.i .u8,.i .u8,.i .u8,.i .u8,.i .u8,.i .u8] else if t=48 then some [.i .u8,.i .i64,.i .i64] else if t=73 then some (.i .u8::.i .u8::.b::.b::.b::.b::.b::.b::.b::.i .i64::.i .u8::.i .u8::.i .u8::.i .u8::.i .u8::.i .u8::.i .u8::.i .u8::.i .u8::.i .u8::.i .u8::.i .u8::.i .u8::.i .u8::.i .u8::.i .u8::.i .u8::.i .u8::.i .u8::.i .u8::.i .u8::.i .u8::.i .u8::.i .u8::.i .i64::.i .i64::.i .i64::.i .u8::.b::.b::[]) else if t=97 then some [.i .i64,.i .i64] else if t=129 then some [.b,.b,.b] else none
theorem zU:cP Tryz.prog shT:=by
 refine shOk_of fun t l h=>?_
 unfold shT at h
 split at h
 ·rename_i ht;subst ht;injection h with h;subst h;exact ⟨by kernel_rfl,by kernel_rfl,by kernel_rfl⟩
 split at h
 ·rename_i ht;subst ht;injection h with h;subst h;exact ⟨by kernel_rfl,by kernel_rfl,by kernel_rfl⟩
 split at h
 ·rename_i ht;subst ht;injection h with h;subst h;exact ⟨by kernel_rfl,by kernel_rfl,by kernel_rfl⟩
 split at h
 ·rename_i ht;subst ht;injection h with h;subst h;exact ⟨by kernel_rfl,by kernel_rfl,by kernel_rfl⟩
 split at h
 ·rename_i ht;subst ht;injection h with h;subst h;exact ⟨by kernel_rfl,by kernel_rfl,by kernel_rfl⟩
 split at h
 ·rename_i ht;subst ht;injection h with h;subst h;exact ⟨by kernel_rfl,by kernel_rfl,by kernel_rfl⟩
 split at h
 ·rename_i ht;subst ht;injection h with h;subst h;exact ⟨by kernel_rfl,by kernel_rfl,by kernel_rfl⟩
 cases h
theorem shT_73:shT 73=some (.i .u8::.i .u8::.b::.b::.b::.b::.b::.b::.b::.i .i64::.i .u8::.i .u8::.i .u8::.i .u8::.i .u8::.i .u8::.i .u8::.i .u8::.i .u8::.i .u8::.i .u8::.i .u8::.i .u8::.i .u8::.i .u8::.i .u8::.i .u8::.i .u8::.i .u8::.i .u8::.i .u8::.i .u8::.i .u8::.i .u8::.i .i64::.i .i64::.i .i64::.i .u8::.b::.b::[]):=rfl
theorem Fit_app {k:(Nat->AV)->Prop} {n p:Nat} {c d:Nat->Nat->AV} (h1:Fit k p c) (h2:Fit k (n - p) d):Fit k n (uL p c d):=fun x hx=>by
 by_cases h:x < p
 ·rw [show uL p c d x=c x from funext fun y=>if_pos h];exact h1 x h
 ·rw [show uL p c d x=d (x - p) from funext fun y=>if_neg h];exact h2 _ (by omega)
def ctNo:Ct:=tab []
theorem zA:yP Tryz.prog ctNo:=zO
theorem bEq_ex {x a b:Int} (h:bEq x a=true) (n:a ≠ b):bEq x b=false:=by
 simp only [bEq,beq_iff_eq] at h;subst h;simpa [bEq] using n
theorem ctNo_at (k:Nat) (l:List AV) (h:List ABlk):ctNo k l h = .fail:=rfl
theorem rg {ct:Ct} (C:yP Tryz.prog ct) {a:Code} {K:Kt} {t:List AV} {h:List ABlk} (hw:wpC Tryz.prog shT ct a K t h):Mean Tryz.prog a K t h:=wpC_sound zU C a K t h hw
theorem sq {ct:Ct} (C:yP Tryz.prog ct) {a b:Code} {K:Kt} {t:List AV} {h:List ABlk} (hw:wpC Tryz.prog shT ct a (kM Tryz.prog b K) t h):Mean Tryz.prog (.seq a b) K t h:=zC (wpC_sound zU C a _ t h hw)
theorem bsj {α β : Type} {x : α} {f : α -> Option β} {r : β} (h : (some x).bind f=some r) : ∃ w,x=w /\ f w=some r:=⟨x,rfl,h⟩
theorem nI {α : Type} {q : Int} {n : Nat} {k : Option α} {r : α} (h : need (inb q n) k=some r) : (0 <= q /\ q < n /\ q.toNat < n) /\ k=some r:=⟨uF.1 (zP.1 h).1,(zP.1 h).2⟩
theorem nC {α : Type} {b n : Nat} {k : Option α} {r : α} (h : need (capb b n) k=some r) : ((n : Int) * b <= 140737488355328 /\ n <= 140737488355328) /\ k=some r:=⟨uT.1 (zP.1 h).1,(zP.1 h).2⟩
theorem nS {α : Type} {p q : Int} {n : Nat} {k : Option α} {r : α} (h : need (slb p q n) k=some r) : (0 <= p /\ p <= q /\ q <= n) /\ k=some r:=⟨slb_iff.1 (zP.1 h).1,(zP.1 h).2⟩
theorem nM {α : Type} {b : Nat} {p q : Int} {k : Option α} {r : α} (h : need (mkb b p q) k=some r) : (0 <= p /\ p <= q /\ (b : Int) * q <= 140737488355328 /\ q <= 140737488355328) /\ k=some r:=⟨mkb_iff.1 (zP.1 h).1,(zP.1 h).2⟩
theorem aI {A B : Prop} (a : A) (b : B) : A /\ B:=⟨a,b⟩
theorem lC {α : Type} {a : α} {l : List α} : (a::l).length=l.length+1:=rfl
theorem lN {α : Type} : ([] : List α).length=0:=rfl
theorem rS {α : Type} {a : α} {n : Nat} : List.replicate (n+1) a=a::List.replicate n a:=rfl
theorem rZ {α : Type} {a : α} : List.replicate 0 a=[]:=rfl
theorem aC {α : Type} {a : α} {l m : List α} : a::l ++ m=a::(l ++ m):=rfl
theorem aN {α : Type} {l : List α} : [] ++ l=l:=rfl
theorem tS {α : Type} {a : α} {l : List α} {n : Nat} : (a::l).take (n+1)=a::l.take n:=rfl
theorem tZ {α : Type} {l : List α} : l.take 0=[]:=rfl
theorem dS {α : Type} {a : α} {l : List α} {n : Nat} : (a::l).drop (n+1)=l.drop n:=rfl
theorem dZ {α : Type} {l : List α} : l.drop 0=l:=rfl
theorem oE {α : Type} {o : Option α} : o.isSome=true ↔ ∃ a,o=some a:=Option.isSome_iff_exists
end Go.Proofs.YtooepgpfaaddbaaGreat
