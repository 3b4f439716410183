/-
  Rows that are new: their cells.
-/
import Derived.Test.YtefiemaoacmdkaaB
namespace Go.Proofs.Ytefiemaoacmdkaa
open Go.Am
set_option linter.unusedVariables false
set_option linter.unusedSimpArgs false
theorem dS {α:Type} [Inhabited α] {d s:α->List AV} {z:Nat} {L:List α} {c:Nat->Nat->AV} (e:∀ a y,y < z->zL (d a) y=zL (s a) y) (h:∀ x y,x < L.length->y < z->enR s L x y=c x y):∀ x y,x < L.length->y < z->enR d L x y=c x y:=fun x y hx hy=>(e _ y hy).trans (h x y hx hy)
def s_u8 (a:Int):List AV:=[.int .u8 a]
def qD (a:Int):List AV:=s_u8 a ++ [.emp]
theorem ds_u8 (a:Int) (y:Nat) (h:y < 1):zL (qD a) y=zL (s_u8 a) y:=qN h
theorem gc_d_u8 (a:Int):g_u8 (zL (qD a))=a:=by
 simp only [g_u8,qD,s_u8,List.cons_append,List.nil_append,zL,iA,bA,sA,lA]
theorem kc_d_u8 (a:Int):k_u8 (zL (qD a)):=by
 simp only [k_u8,qD,s_u8,List.cons_append,List.nil_append,zL,iK,bK,sK,lK,or_true,true_and,and_true,and_self]
theorem nr_d_u8 (a:Int):zX (qD a):=by simp only [qD,s_u8,List.cons_append,List.nil_append,zX,nref,and_self]
instance:NOf qD:=⟨fun a=>by simp only [qD,s_u8,List.cons_append,List.nil_append,tQ,noro,and_self]⟩
instance:NRf qD:=⟨nr_d_u8⟩
instance:KCf k_u8 qD:=⟨kc_d_u8⟩
theorem e_d_u8_0 (l:List Int) (x:Nat):enR qD l x 0 = .int .u8 (gd l x):=rfl
def tG (a:TFrame):List AV:=[.int .u8 a.Head.Kind,.int .u8 a.Head.Sub,.bool a.Head.ToDs,.bool a.Head.FromDs,.bool a.Head.More,.bool a.Head.Retry,.bool a.Head.Sleep,.bool a.Head.MoreData,.bool a.Head.Protected,.int .i64 a.Head.Duration,.int .u8 a.Head.A1.x0,.int .u8 a.Head.A1.x1,.int .u8 a.Head.A1.x2,.int .u8 a.Head.A1.x3,.int .u8 a.Head.A1.x4,.int .u8 a.Head.A1.x5,.int .u8 a.Head.A2.x0,.int .u8 a.Head.A2.x1,.int .u8 a.Head.A2.x2,.int .u8 a.Head.A2.x3,.int .u8 a.Head.A2.x4,.int .u8 a.Head.A2.x5,.int .u8 a.Head.A3.x0,.int .u8 a.Head.A3.x1,.int .u8 a.Head.A3.x2,.int .u8 a.Head.A3.x3,.int .u8 a.Head.A3.x4,.int .u8 a.Head.A3.x5,.int .u8 a.Head.A4.x0,.int .u8 a.Head.A4.x1,.int .u8 a.Head.A4.x2,.int .u8 a.Head.A4.x3,.int .u8 a.Head.A4.x4,.int .u8 a.Head.A4.x5,.int .i64 a.Head.Seq,.int .i64 a.Head.Frag,.int .i64 a.Head.Tid,.int .u8 a.Head.Ack,.bool a.Head.Amsdu,.bool a.Head.Eosp,.ro 1 a.Body.length false (enR qD a.Body)]
def yD (a:TFrame):List AV:=tG a ++ [.emp]
theorem ds_TFrame (a:TFrame) (y:Nat) (h:y < 41):zL (yD a) y=zL (tG a) y:=qN h
theorem gc_d_TFrame (a:TFrame):yF (zL (yD a))=a:=by
 simp only [yF,yD,tG,List.cons_append,List.nil_append,zL,iA,bA,sA,lA,tL gc_d_u8]
theorem kc_d_TFrame (a:TFrame):wI (zL (yD a)):=by
 simp only [wI,yD,tG,List.cons_append,List.nil_append,zL,iK,bK,sK,lK,or_true,true_and,and_true,and_self,wN kc_d_u8]
theorem vH (a:TFrame):zX (yD a):=by simp only [yD,tG,List.cons_append,List.nil_append,zX,nref,and_self]
instance:NRf yD:=⟨vH⟩
instance:KCf wI yD:=⟨kc_d_TFrame⟩
theorem e_d_TFrame_40 (l:List TFrame) (x:Nat):enR yD l x 40 = .ro 1 ((gd l x).Body).length false (enR qD ((gd l x).Body)):=rfl
theorem fit_d_TFrame (n:Nat) (l:List TFrame):Fit wI n (enR yD l)=True:=eq_true (wN kc_d_TFrame)
theorem de_d_TFrame (l:List TFrame):deR yF l.length (enR yD l)=l:=tL gc_d_TFrame l
def vL (a:TStored):List AV:=[.int .u8 a.Cat,.int .i64 a.At,.int .u8 a.Frame.Head.Kind,.int .u8 a.Frame.Head.Sub,.bool a.Frame.Head.ToDs,.bool a.Frame.Head.FromDs,.bool a.Frame.Head.More,.bool a.Frame.Head.Retry,.bool a.Frame.Head.Sleep,.bool a.Frame.Head.MoreData,.bool a.Frame.Head.Protected,.int .i64 a.Frame.Head.Duration,.int .u8 a.Frame.Head.A1.x0,.int .u8 a.Frame.Head.A1.x1,.int .u8 a.Frame.Head.A1.x2,.int .u8 a.Frame.Head.A1.x3,.int .u8 a.Frame.Head.A1.x4,.int .u8 a.Frame.Head.A1.x5,.int .u8 a.Frame.Head.A2.x0,.int .u8 a.Frame.Head.A2.x1,.int .u8 a.Frame.Head.A2.x2,.int .u8 a.Frame.Head.A2.x3,.int .u8 a.Frame.Head.A2.x4,.int .u8 a.Frame.Head.A2.x5,.int .u8 a.Frame.Head.A3.x0,.int .u8 a.Frame.Head.A3.x1,.int .u8 a.Frame.Head.A3.x2,.int .u8 a.Frame.Head.A3.x3,.int .u8 a.Frame.Head.A3.x4,.int .u8 a.Frame.Head.A3.x5,.int .u8 a.Frame.Head.A4.x0,.int .u8 a.Frame.Head.A4.x1,.int .u8 a.Frame.Head.A4.x2,.int .u8 a.Frame.Head.A4.x3,.int .u8 a.Frame.Head.A4.x4,.int .u8 a.Frame.Head.A4.x5,.int .i64 a.Frame.Head.Seq,.int .i64 a.Frame.Head.Frag,.int .i64 a.Frame.Head.Tid,.int .u8 a.Frame.Head.Ack,.bool a.Frame.Head.Amsdu,.bool a.Frame.Head.Eosp,.ro 1 a.Frame.Body.length false (enR qD a.Frame.Body)]
def zJ (a:TStored):List AV:=vL a ++ [.emp]
theorem kV (a:TStored) (y:Nat) (h:y < 43):zL (zJ a) y=zL (vL a) y:=qN h
theorem gc_d_TStored (a:TStored):xC (zL (zJ a))=a:=by
 simp only [xC,zJ,vL,List.cons_append,List.nil_append,zL,iA,bA,sA,lA,tL gc_d_u8]
theorem cO (a:TStored):wB (zL (zJ a)):=by
 simp only [wB,zJ,vL,List.cons_append,List.nil_append,zL,iK,bK,sK,lK,or_true,true_and,and_true,and_self,wN kc_d_u8]
theorem zV (a:TStored):zX (zJ a):=by simp only [zJ,vL,List.cons_append,List.nil_append,zX,nref,and_self]
instance:NRf zJ:=⟨zV⟩
instance:KCf wB zJ:=⟨cO⟩
theorem e_d_TStored_0 (l:List TStored) (x:Nat):enR zJ l x 0 = .int .u8 ((gd l x).Cat):=rfl
theorem e_d_TStored_1 (l:List TStored) (x:Nat):enR zJ l x 1 = .int .i64 ((gd l x).At):=rfl
theorem e_d_TStored_2 (l:List TStored) (x:Nat):enR zJ l x 2 = .int .u8 ((((gd l x).Frame).Head).Kind):=rfl
theorem e_d_TStored_3 (l:List TStored) (x:Nat):enR zJ l x 3 = .int .u8 ((((gd l x).Frame).Head).Sub):=rfl
theorem e_d_TStored_4 (l:List TStored) (x:Nat):enR zJ l x 4 = .bool ((((gd l x).Frame).Head).ToDs):=rfl
theorem e_d_TStored_5 (l:List TStored) (x:Nat):enR zJ l x 5 = .bool ((((gd l x).Frame).Head).FromDs):=rfl
theorem e_d_TStored_6 (l:List TStored) (x:Nat):enR zJ l x 6 = .bool ((((gd l x).Frame).Head).More):=rfl
theorem e_d_TStored_7 (l:List TStored) (x:Nat):enR zJ l x 7 = .bool ((((gd l x).Frame).Head).Retry):=rfl
theorem e_d_TStored_8 (l:List TStored) (x:Nat):enR zJ l x 8 = .bool ((((gd l x).Frame).Head).Sleep):=rfl
theorem e_d_TStored_9 (l:List TStored) (x:Nat):enR zJ l x 9 = .bool ((((gd l x).Frame).Head).MoreData):=rfl
theorem e_d_TStored_10 (l:List TStored) (x:Nat):enR zJ l x 10 = .bool ((((gd l x).Frame).Head).Protected):=rfl
theorem e_d_TStored_11 (l:List TStored) (x:Nat):enR zJ l x 11 = .int .i64 ((((gd l x).Frame).Head).Duration):=rfl
theorem e_d_TStored_12 (l:List TStored) (x:Nat):enR zJ l x 12 = .int .u8 (((((gd l x).Frame).Head).A1).x0):=rfl
theorem e_d_TStored_13 (l:List TStored) (x:Nat):enR zJ l x 13 = .int .u8 (((((gd l x).Frame).Head).A1).x1):=rfl
theorem e_d_TStored_14 (l:List TStored) (x:Nat):enR zJ l x 14 = .int .u8 (((((gd l x).Frame).Head).A1).x2):=rfl
theorem e_d_TStored_15 (l:List TStored) (x:Nat):enR zJ l x 15 = .int .u8 (((((gd l x).Frame).Head).A1).x3):=rfl
theorem e_d_TStored_16 (l:List TStored) (x:Nat):enR zJ l x 16 = .int .u8 (((((gd l x).Frame).Head).A1).x4):=rfl
theorem e_d_TStored_17 (l:List TStored) (x:Nat):enR zJ l x 17 = .int .u8 (((((gd l x).Frame).Head).A1).x5):=rfl
theorem e_d_TStored_18 (l:List TStored) (x:Nat):enR zJ l x 18 = .int .u8 (((((gd l x).Frame).Head).A2).x0):=rfl
theorem e_d_TStored_19 (l:List TStored) (x:Nat):enR zJ l x 19 = .int .u8 (((((gd l x).Frame).Head).A2).x1):=rfl
theorem e_d_TStored_20 (l:List TStored) (x:Nat):enR zJ l x 20 = .int .u8 (((((gd l x).Frame).Head).A2).x2):=rfl
theorem e_d_TStored_21 (l:List TStored) (x:Nat):enR zJ l x 21 = .int .u8 (((((gd l x).Frame).Head).A2).x3):=rfl
theorem e_d_TStored_22 (l:List TStored) (x:Nat):enR zJ l x 22 = .int .u8 (((((gd l x).Frame).Head).A2).x4):=rfl
theorem e_d_TStored_23 (l:List TStored) (x:Nat):enR zJ l x 23 = .int .u8 (((((gd l x).Frame).Head).A2).x5):=rfl
theorem e_d_TStored_24 (l:List TStored) (x:Nat):enR zJ l x 24 = .int .u8 (((((gd l x).Frame).Head).A3).x0):=rfl
theorem e_d_TStored_25 (l:List TStored) (x:Nat):enR zJ l x 25 = .int .u8 (((((gd l x).Frame).Head).A3).x1):=rfl
theorem e_d_TStored_26 (l:List TStored) (x:Nat):enR zJ l x 26 = .int .u8 (((((gd l x).Frame).Head).A3).x2):=rfl
theorem e_d_TStored_27 (l:List TStored) (x:Nat):enR zJ l x 27 = .int .u8 (((((gd l x).Frame).Head).A3).x3):=rfl
theorem e_d_TStored_28 (l:List TStored) (x:Nat):enR zJ l x 28 = .int .u8 (((((gd l x).Frame).Head).A3).x4):=rfl
theorem e_d_TStored_29 (l:List TStored) (x:Nat):enR zJ l x 29 = .int .u8 (((((gd l x).Frame).Head).A3).x5):=rfl
theorem e_d_TStored_30 (l:List TStored) (x:Nat):enR zJ l x 30 = .int .u8 (((((gd l x).Frame).Head).A4).x0):=rfl
theorem e_d_TStored_31 (l:List TStored) (x:Nat):enR zJ l x 31 = .int .u8 (((((gd l x).Frame).Head).A4).x1):=rfl
theorem e_d_TStored_32 (l:List TStored) (x:Nat):enR zJ l x 32 = .int .u8 (((((gd l x).Frame).Head).A4).x2):=rfl
theorem e_d_TStored_33 (l:List TStored) (x:Nat):enR zJ l x 33 = .int .u8 (((((gd l x).Frame).Head).A4).x3):=rfl
theorem e_d_TStored_34 (l:List TStored) (x:Nat):enR zJ l x 34 = .int .u8 (((((gd l x).Frame).Head).A4).x4):=rfl
theorem e_d_TStored_35 (l:List TStored) (x:Nat):enR zJ l x 35 = .int .u8 (((((gd l x).Frame).Head).A4).x5):=rfl
theorem e_d_TStored_36 (l:List TStored) (x:Nat):enR zJ l x 36 = .int .i64 ((((gd l x).Frame).Head).Seq):=rfl
theorem e_d_TStored_37 (l:List TStored) (x:Nat):enR zJ l x 37 = .int .i64 ((((gd l x).Frame).Head).Frag):=rfl
theorem e_d_TStored_38 (l:List TStored) (x:Nat):enR zJ l x 38 = .int .i64 ((((gd l x).Frame).Head).Tid):=rfl
theorem e_d_TStored_39 (l:List TStored) (x:Nat):enR zJ l x 39 = .int .u8 ((((gd l x).Frame).Head).Ack):=rfl
theorem e_d_TStored_40 (l:List TStored) (x:Nat):enR zJ l x 40 = .bool ((((gd l x).Frame).Head).Amsdu):=rfl
theorem e_d_TStored_41 (l:List TStored) (x:Nat):enR zJ l x 41 = .bool ((((gd l x).Frame).Head).Eosp):=rfl
theorem e_d_TStored_42 (l:List TStored) (x:Nat):enR zJ l x 42 = .ro 1 (((gd l x).Frame).Body).length false (enR qD (((gd l x).Frame).Body)):=rfl
theorem fit_d_TStored (n:Nat) (l:List TStored):Fit wB n (enR zJ l)=True:=eq_true (wN cO)
theorem de_d_TStored (l:List TStored):deR xC l.length (enR zJ l)=l:=tL gc_d_TStored l
def uI (a:TSleeper):List AV:=[.int .i64 a.Aid,.bool a.Asleep,.ro 43 a.Held.length false (enR zJ a.Held)]
def zT (a:TSleeper):List AV:=uI a ++ [.emp]
theorem gc_d_TSleeper (a:TSleeper):yS (zL (zT a))=a:=by
 simp only [yS,zT,uI,List.cons_append,List.nil_append,zL,iA,bA,sA,lA,tL gc_d_TStored]
theorem kc_d_TSleeper (a:TSleeper):xU (zL (zT a)):=by
 simp only [xU,zT,uI,List.cons_append,List.nil_append,zL,iK,bK,sK,lK,or_true,true_and,and_true,and_self,wN cO]
theorem uM (a:TSleeper):zX (zT a):=by simp only [zT,uI,List.cons_append,List.nil_append,zX,nref,and_self]
instance:NRf zT:=⟨uM⟩
instance:KCf xU zT:=⟨kc_d_TSleeper⟩
theorem e_d_TSleeper_1 (l:List TSleeper) (x:Nat):enR zT l x 1 = .bool ((gd l x).Asleep):=rfl
theorem e_d_TSleeper_2 (l:List TSleeper) (x:Nat):enR zT l x 2 = .ro 43 ((gd l x).Held).length false (enR zJ ((gd l x).Held)):=rfl
theorem fit_d_TSleeper (n:Nat) (l:List TSleeper):Fit xU n (enR zT l)=True:=eq_true (wN kc_d_TSleeper)
theorem de_d_TSleeper (l:List TSleeper):deR yS l.length (enR zT l)=l:=tL gc_d_TSleeper l
attribute [go_sem] e_d_u8_0 e_d_TFrame_40 fit_d_TFrame de_d_TFrame e_d_TStored_0 e_d_TStored_1 e_d_TStored_2 e_d_TStored_3 e_d_TStored_4 e_d_TStored_5 e_d_TStored_6 e_d_TStored_7 e_d_TStored_8 e_d_TStored_9 e_d_TStored_10 e_d_TStored_11 e_d_TStored_12 e_d_TStored_13 e_d_TStored_14 e_d_TStored_15 e_d_TStored_16 e_d_TStored_17 e_d_TStored_18 e_d_TStored_19 e_d_TStored_20 e_d_TStored_21 e_d_TStored_22 e_d_TStored_23 e_d_TStored_24 e_d_TStored_25 e_d_TStored_26 e_d_TStored_27 e_d_TStored_28 e_d_TStored_29 e_d_TStored_30 e_d_TStored_31 e_d_TStored_32 e_d_TStored_33 e_d_TStored_34 e_d_TStored_35 e_d_TStored_36 e_d_TStored_37 e_d_TStored_38 e_d_TStored_39 e_d_TStored_40 e_d_TStored_41 e_d_TStored_42 fit_d_TStored de_d_TStored e_d_TSleeper_1 e_d_TSleeper_2 fit_d_TSleeper de_d_TSleeper
end Go.Proofs.Ytefiemaoacmdkaa
