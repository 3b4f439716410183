/-
  Buffers: numbered frames; what each step hands out, drops and holds.
-/
import Derived.Test.YtefiemaoacmdkaaBK
namespace Go.Proofs.Ytefiemaoacmdkaa
open Go.Am
set_option linter.unusedVariables false
set_option linter.unusedSimpArgs false
/-! ### Numbered frames -/
def fN (p0:Int):TFrame:=TFrame.mk (THeader.mk 0 0 false false false false false false false 0 (A6u8.mk 0 0 0 0 0 0) (A6u8.mk 0 0 0 0 0 0) (A6u8.mk 0 0 0 0 0 0) (A6u8.mk 0 0 0 0 0 0) 0 0 0 0 false false) [wr .u8 (cB .i64 p0 8),wr .u8 p0]
theorem frame_ok (p:Int):F37 p=some (fN p):=rfl
def nF (f:TFrame):Nat:=(gd f.Body 0 * 256+gd f.Body 1).toNat
theorem tabA:(List.range 302).all (fun n=>decide (F38 (fN n)=some (n:Int)) && (decide (nF (fN n)=n) && u8A (fN n).Body))=true:=by kernel_rfl
theorem tabN {n:Nat} (h:n < 302):F38 (fN n)=some (n:Int)/\nF (fN n)=n/\u8A (fN n).Body=true:=by
 have:=List.all_eq_true.1 tabA n (List.mem_range.2 h)
 simpa using this
theorem num_body {f:TFrame} {n:Nat} (h:n < 302) (e:f.Body=(fN n).Body):F38 f=some (n:Int):=by
 rw [← (tabN h).1]
 unfold F38
 rw [e]
def nq (q:TStored):Nat:=nF q.Frame
/-! ### What is held -/
def hlB (L:List TSleeper):List Nat:=L.flatMap fun s=>s.Held.map nq
def hl (b:TBuffer):List Nat:=hlB b.List ++ b.Group.map nq
def Qk (P:Nat->Int) (i:Nat) (pl:TStored->Int) (l:List TStored):Prop:=(∀ q ∈ l,nq q < i/\q.Frame=fN (nq q)/\P (nq q)=pl q/\0 <= q.Cat)/\(l.map nq).Pairwise (· < ·)
def W (b:TBuffer) (P:Nat->Int) (i:Nat):Prop:=(∀ s ∈ b.List,Qk P i (fun q=>4 * s.Aid+q.Cat) s.Held)/\Qk P i (fun _=>0) b.Group
theorem Qk_sub {P:Nat->Int} {i:Nat} {pl:TStored->Int} {l l':List TStored} (h:Qk P i pl l) (hs:List.Sublist l' l):Qk P i pl l':=⟨fun q hq=>h.1 q (hs.subset hq),h.2.sublist (hs.map nq)⟩
theorem Qk_mono {P P':Nat->Int} {i:Nat} {pl:TStored->Int} {l:List TStored} (h:Qk P i pl l) (hp:∀ n,n < i->P' n=P n):Qk P' (i+1) pl l:=⟨fun q hq=>by
 obtain ⟨h1,h2,h3,h4⟩:=h.1 q hq
 exact ⟨by omega,h2,by rw [hp _ h1];exact h3,h4⟩,h.2⟩
theorem Qk_snoc {P:Nat->Int} {i:Nat} {pl:TStored->Int} {l:List TStored} {x:TStored} (h:Qk P (i+1) pl l) (hl:∀ q ∈ l,nq q < i) (hx:nq x=i/\x.Frame=fN (nq x)/\P (nq x)=pl x/\0 <= x.Cat):Qk P (i+1) pl (l ++ [x]):=by
 refine ⟨fun q hq=>?_,?_⟩
 ·rcases List.mem_append.1 hq with hq|hq
  ·exact h.1 q hq
  ·obtain rfl:=List.mem_singleton.1 hq
   exact ⟨by omega,hx.2⟩
 ·rw [List.map_append,List.pairwise_append]
  refine ⟨h.2,by simp,fun a ha b hb=>?_⟩
  obtain ⟨q,hq,rfl⟩:=List.mem_map.1 ha
  simp only [List.map_cons,List.map_nil,List.mem_singleton] at hb
  have:=hl q hq
  omega
theorem Qk_nil {P:Nat->Int} {i:Nat} {pl:TStored->Int}:Qk P i pl []:=⟨fun q hq=>(by cases hq),by simp⟩
theorem Qk_fr {P:Nat->Int} {i:Nat} {pl:TStored->Int} {l:List TStored} (h:Qk P i pl l):l.map (·.Frame)=(l.map nq).map (fun n:Nat=>fN n):=by
 rw [List.map_map]
 exact List.map_congr_left fun q hq=>(h.1 q hq).2.1
theorem Qk_body {P:Nat->Int} {i:Nat} {pl:TStored->Int} {l:List TStored} (h:Qk P i pl l):(l.map (·.Frame)).map (·.Body)=(l.map nq).map (fun n:Nat=>(fN n).Body):=by
 rw [Qk_fr h,List.map_map];rfl
theorem W_mono {b:TBuffer} {P P':Nat->Int} {i:Nat} (h:W b P i) (hp:∀ n,n < i->P' n=P n):W b P' (i+1):=⟨fun s hs=>Qk_mono (h.1 s hs) hp,Qk_mono h.2 hp⟩
theorem Qk_sq {P:Nat->Int} {i:Nat} {pl:TStored->Int} {l:List TStored} (h:Qk P i pl l):Sq l:=fun q hq=>by
 rw [(h.1 q hq).2.1]
 show ([_,_]:List Int).length <= 2400
 simp
theorem W_bq {b:TBuffer} {P:Nat->Int} {i:Nat} (h:W b P i):Bq b:=⟨Qk_sq h.2,fun s hs=>Qk_sq (h.1 s hs)⟩
theorem hl_mem {b:TBuffer} {n:Nat} (h:n ∈ hl b):(∃ s ∈ b.List,∃ q ∈ s.Held,nq q=n) ∨ ∃ q ∈ b.Group,nq q=n:=by
 unfold hl hlB at h
 rcases List.mem_append.1 h with h|h
 ·obtain ⟨s,h1,h2⟩:=List.mem_flatMap.1 h
  obtain ⟨q,h3,h4⟩:=List.mem_map.1 h2
  exact .inl ⟨s,h1,q,h3,h4⟩
 ·obtain ⟨q,h3,h4⟩:=List.mem_map.1 h
  exact .inr ⟨q,h3,h4⟩
theorem hl_lt {b:TBuffer} {P:Nat->Int} {i n:Nat} (h:W b P i) (hn:n ∈ hl b):n < i:=by
 rcases hl_mem hn with ⟨s,hs,q,hq,rfl⟩|⟨q,hq,rfl⟩
 ·exact ((h.1 s hs).1 q hq).1
 ·exact (h.2.1 q hq).1
/-! ### Lists that change at one place -/
theorem spl {α:Type} [Inhabited α] {l:List α} {a:Nat} (h:a < l.length):l=l.take a ++ gd l a::l.drop (a+1):=by
 rw [← tV h,← List.drop_eq_getElem_cons h,List.take_append_drop]
theorem spl_set {α:Type} {l:List α} {a:Nat} {x:α} (h:a < l.length):l.set a x=l.take a ++ x::l.drop (a+1):=by rw [List.set_eq_take_append_cons_drop,if_pos h]
theorem hlB_set {L:List TSleeper} {a:Nat} (ha:a < L.length):∃ A:List Nat,(hlB L).Perm (A ++ (gd L a).Held.map nq)/\∀ x:TSleeper,(hlB (L.set a x)).Perm (A ++ x.Held.map nq):=by
 have e:∀ x:TSleeper,hlB (L.take a ++ x::L.drop (a+1))=hlB (L.take a) ++ (x.Held.map nq ++ hlB (L.drop (a+1))):=fun x=>by unfold hlB;rw [List.flatMap_append,List.flatMap_cons]
 refine ⟨hlB (L.take a) ++ hlB (L.drop (a+1)),?_,fun x=>?_⟩
 ·have:=e (gd L a)
  rw [← spl ha] at this
  rw [this]
  exact List.perm_iff_count.2 fun n=>by simp only [List.count_append];omega
 ·rw [spl_set ha,e x]
  exact List.perm_iff_count.2 fun n=>by simp only [List.count_append];omega
theorem del_sub {α:Type} {l:List α} {k:Nat}:List.Sublist (kH l k ((k+1:Nat):Int)) l:=by
 unfold kH
 simp only [Int.toNat_natCast]
 have:=List.Sublist.append (List.Sublist.refl (l.take k)) (List.drop_sublist_drop_left l (show k <= k+1 by omega))
 rwa [List.take_append_drop] at this
theorem del_cnt {l:List TStored} {k:Nat} (hk:k < l.length) (n:Nat):(l.map nq).count n=((kH l k ((k+1:Nat):Int)).map nq).count n + [nq (gd l k)].count n:=by
 have e:=spl hk
 have:(l.map nq).count n=((l.take k ++ gd l k::l.drop (k+1)).map nq).count n:=by rw [← e]
 rw [this]
 unfold kH
 simp only [Int.toNat_natCast,List.map_append,List.map_cons,List.count_append,List.count_cons,List.count_nil]
 omega
def Sp (b:TBuffer) (P:Nat->Int) (i:Nat) (new:List Nat) (x:List TFrame × List TFrame × TBuffer × Int):Prop:=x.2.2.2=0/\Vb x.2.2.1/\∃ ns ms:List Nat,
 x.1.map (·.Body)=ns.map (fun n:Nat=>(fN n).Body)/\x.2.1=ms.map (fun n:Nat=>fN n)/\(∀ n,(hl b ++ new).count n=(hl x.2.2.1).count n+(ns.count n+ms.count n))/\W x.2.2.1 P (i+1) /\
 ns.Pairwise (fun x y=>P x=P y->x < y)/\∀ r ∈ hl x.2.2.1,∀ n ∈ ns,P n=P r->n < r
theorem hand_b (l:List TFrame) (hn:l.length <= 1000):∃ r,gY l=some r/\r.map (·.Body)=l.map (·.Body)/\r.length=l.length:=by
 obtain ⟨r,r1,r2,r3⟩:=hand_ok l hn
 refine ⟨r,r1,List.ext_getElem (by simp [r2]) fun i h1 h2=>?_,r2⟩
 simp only [List.length_map] at h1 h2
 rw [List.getElem_map,List.getElem_map,tV h1,tV h2,r3 i h2]
 rfl
theorem W_set {b:TBuffer} {a:Nat} {x:TSleeper} {P:Nat->Int} {i:Nat} (h:W b P i) (ha:a < b.List.length) (hx:Qk P i (fun q=>4 * x.Aid+q.Cat) x.Held):W {b with List:=b.List.set a x} P i:=by
 refine ⟨fun s hs=>?_,h.2⟩
 rcases List.mem_or_eq_of_mem_set hs with hs|rfl
 ·exact h.1 s hs
 ·exact hx
end Go.Proofs.Ytefiemaoacmdkaa
