/-
  RootSettled: tables of links, announcements to all neighbours, how many messages there can be.
-/
import Derived.Test.YtdcepineppafpaaSC
namespace Go.Proofs.Ytdcepineppafpaa
open Go.Am
set_option linter.unusedVariables false
set_option linter.unusedSimpArgs false
abbrev mat (w:List Int):A8A8i64:=A8A8i64.mk (A8i64.mk (gd w 0) (gd w 1) (gd w 2) (gd w 3) (gd w 4) (gd w 5) (gd w 6) (gd w 7)) (A8i64.mk (gd w 8) (gd w 9) (gd w 10) (gd w 11) (gd w 12) (gd w 13) (gd w 14) (gd w 15)) (A8i64.mk (gd w 16) (gd w 17) (gd w 18) (gd w 19) (gd w 20) (gd w 21) (gd w 22) (gd w 23)) (A8i64.mk (gd w 24) (gd w 25) (gd w 26) (gd w 27) (gd w 28) (gd w 29) (gd w 30) (gd w 31)) (A8i64.mk (gd w 32) (gd w 33) (gd w 34) (gd w 35) (gd w 36) (gd w 37) (gd w 38) (gd w 39)) (A8i64.mk (gd w 40) (gd w 41) (gd w 42) (gd w 43) (gd w 44) (gd w 45) (gd w 46) (gd w 47)) (A8i64.mk (gd w 48) (gd w 49) (gd w 50) (gd w 51) (gd w 52) (gd w 53) (gd w 54) (gd w 55)) (A8i64.mk (gd w 56) (gd w 57) (gd w 58) (gd w 59) (gd w 60) (gd w 61) (gd w 62) (gd w 63))
abbrev mcells (A:A8A8i64):List Int:=[A.x0.x0,A.x0.x1,A.x0.x2,A.x0.x3,A.x0.x4,A.x0.x5,A.x0.x6,A.x0.x7,A.x1.x0,A.x1.x1,A.x1.x2,A.x1.x3,A.x1.x4,A.x1.x5,A.x1.x6,A.x1.x7,A.x2.x0,A.x2.x1,A.x2.x2,A.x2.x3,A.x2.x4,A.x2.x5,A.x2.x6,A.x2.x7,A.x3.x0,A.x3.x1,A.x3.x2,A.x3.x3,A.x3.x4,A.x3.x5,A.x3.x6,A.x3.x7,A.x4.x0,A.x4.x1,A.x4.x2,A.x4.x3,A.x4.x4,A.x4.x5,A.x4.x6,A.x4.x7,A.x5.x0,A.x5.x1,A.x5.x2,A.x5.x3,A.x5.x4,A.x5.x5,A.x5.x6,A.x5.x7,A.x6.x0,A.x6.x1,A.x6.x2,A.x6.x3,A.x6.x4,A.x6.x5,A.x6.x6,A.x6.x7,A.x7.x0,A.x7.x1,A.x7.x2,A.x7.x3,A.x7.x4,A.x7.x5,A.x7.x6,A.x7.x7]
theorem all64 (w:List Int) (h:w.length=64):[gd w 0,gd w 1,gd w 2,gd w 3,gd w 4,gd w 5,gd w 6,gd w 7,gd w 8,gd w 9,gd w 10,gd w 11,gd w 12,gd w 13,gd w 14,gd w 15,gd w 16,gd w 17,gd w 18,gd w 19,gd w 20,gd w 21,gd w 22,gd w 23,gd w 24,gd w 25,gd w 26,gd w 27,gd w 28,gd w 29,gd w 30,gd w 31,gd w 32,gd w 33,gd w 34,gd w 35,gd w 36,gd w 37,gd w 38,gd w 39,gd w 40,gd w 41,gd w 42,gd w 43,gd w 44,gd w 45,gd w 46,gd w 47,gd w 48,gd w 49,gd w 50,gd w 51,gd w 52,gd w 53,gd w 54,gd w 55,gd w 56,gd w 57,gd w 58,gd w 59,gd w 60,gd w 61,gd w 62,gd w 63]=w:=by
 have:(List.range 64).map (fun i=>gd w i)=w:=by
  refine List.ext_getElem (by simp [h]) fun i h1 h2=>?_
  rw [List.getElem_map,List.getElem_range,jH h2]
 exact this
theorem gY {w:List Int} (h:w.length=64):mcells (mat w)=w:=all64 w h
def gm (w:List Int) (a b:Nat):Int:=gd w (a * 8+b)
theorem gm_set {w:List Int} {v:Int} (h:w.length=64) {a b i k:Nat} (ha:a < 8) (hb:b < 8) (hi:i < 8) (hk:k < 8):gm (w.set (i * 8+k) v) a b=if a=i/\b=k then v else gm w a b:=by
 unfold gm
 by_cases e:a=i/\b=k
 ·rw [if_pos e,e.1,e.2,uS (by omega)]
 ·rw [if_neg e,vB (by omega)]
def lkw (w:List Int) (i k:Nat):Int:=if i < 8/\k < 8 then gm w i k else 0
theorem lkw_at {w:List Int} {i k:Nat} (hi:i < 8) (hk:k < 8):lkw w i k=gd w (i * 8+k):=by unfold lkw gm;rw [if_pos ⟨hi,hk⟩]
def Sy (w:List Int) (i m:Nat):Prop:=∀ a b,(a < i/\b < i) ∨ (a=i/\(b < m ∨ b=i)) ∨ (b=i/\a < m)->gm w a b=gm w b a/\0 <= gm w a b/\gm w a b <= 1000000
theorem sym_in (i:Nat) (hi:i < 8) (w:List Int) (hw:w.length=64) (h:Sy w i 0):∃ w',yP (fun s:List Int × Int=>dX (i:Int) s.1 s.2) (w,0)=some (.inl w')/\w'.length=64/\Sy w' i i:=by
 obtain ⟨b,h1,h2⟩:=uP (step:=fun s:List Int × Int=>dX (i:Int) s.1 s.2) (fun s=>∃ m:Nat,s.2=m/\m <= i/\s.1.length=64/\Sy s.1 i m) (fun b=>∃ w',b = .inl w'/\w'.length=64/\Sy w' i i) (fun s=>8 - s.2.toNat) (fun s hI=>by
  obtain ⟨u,x⟩:=s
  obtain ⟨m,rfl,g1,g2,g3⟩:=hI
  simp only at g2 g3 ⊢
  by_cases hm:m=i
  ·subst hm
   refine .inl ⟨.inl u,?_,u,rfl,g2,g3⟩
   unfold dX
   rw [yR (by simp [yH])]
  ·have step:∀ c:Int,0 <= c/\c <= 1000000->Sy ((u.set (i * 8+m) c).set (m * 8+i) c) i (m+1):=fun c hc a b hab=>by
    have hab8:a < 8/\b < 8:=by omega
    have l1:(u.set (i * 8+m) c).length=64:=by rw [List.length_set];exact g2
    rw [gm_set l1 hab8.1 hab8.2 (by omega) hi,gm_set l1 hab8.2 hab8.1 (by omega) hi,gm_set g2 hab8.1 hab8.2 hi (by omega),gm_set g2 hab8.2 hab8.1 hi (by omega)]
    by_cases e1:a=m/\b=i
    ·rw [if_pos e1,if_neg (by omega),if_pos (by omega)]
     exact ⟨rfl,hc⟩
    ·rw [if_neg e1]
     by_cases e2:a=i/\b=m
     ·rw [if_pos e2,if_pos (by omega)]
      exact ⟨rfl,hc⟩
     ·rw [if_neg e2,if_neg (by omega),if_neg (by omega)]
      exact g3 a b (by omega)
   refine .inr ?_
   have i1:inb (i:Int) 8=true:=yK hi
   have i2:inb (m:Int) 8=true:=yK (by omega)
   have d1:decide (i * 8+m < u.length)=true:=decide_eq_true (by omega)
   have d2:decide (m * 8+i < u.length)=true:=decide_eq_true (by omega)
   have e:dX (i:Int) u (m:Int)=some (.next ((u.set (i * 8+m) (if gd u (i * 8+m) < 0 ∨ 1000000 < gd u (i * 8+m) then 0 else gd u (i * 8+m))).set (m * 8+i) (if gd u (i * 8+m) < 0 ∨ 1000000 < gd u (i * 8+m) then 0 else gd u (i * 8+m)),((m+1:Nat):Int))):=by
    unfold dX
    simp only [Int.toNat_natCast]
    rw [xI (by simp [yH];omega)]
    simp only [i1,i2,d1,d2,zJ]
    by_cases c:gd u (i * 8+m) < 0 ∨ 1000000 < gd u (i * 8+m)
    ·rw [xI (by simpa [yH] using c),if_pos c,wM (n:=8) (by omega) (by omega)]
    ·rw [yR (by simpa [yH] using c),if_neg c,wM (n:=8) (by omega) (by omega)]
   refine ⟨_,e,⟨m+1,rfl,by omega,by simp [g2],step _ (by split<;>omega)⟩,?_⟩
   simp only [Int.toNat_natCast];omega) (w,0) ⟨0,rfl,by omega,hw,h⟩
 obtain ⟨w',rfl,h3⟩:=h2
 exact ⟨w',h1,h3⟩
theorem sym_ok (w:List Int) (hw:w.length=64):∃ w',F39 (mat w)=some (mat w')/\w'.length=64/\Lk (lkw w'):=by
 obtain ⟨b,h1,h2⟩:=uP (step:=fun s:List Int × Int=>F39_L1 s.1 s.2) (fun s=>∃ i:Nat,s.2=i/\i <= 8/\s.1.length=64/\∀ a b,a < i/\b < i->gm s.1 a b=gm s.1 b a/\0 <= gm s.1 a b/\gm s.1 a b <= 1000000) (fun b=>∃ w',b = .inl w'/\w'.length=64/\∀ a b,a < 8/\b < 8->gm w' a b=gm w' b a/\0 <= gm w' a b/\gm w' a b <= 1000000) (fun s=>8 - s.2.toNat) (fun s hI=>by
  obtain ⟨u,x⟩:=s
  obtain ⟨i,rfl,g1,g2,g3⟩:=hI
  simp only at g2 g3 ⊢
  by_cases hi:i=8
  ·subst hi
   refine .inl ⟨.inl u,?_,u,rfl,g2,g3⟩
   unfold F39_L1
   rw [yR (by simp [yH])]
  ·refine .inr ?_
   have hs:Sy (u.set (i * 8+i) 0) i 0:=fun a b hab=>by
    have hab8:a < 8/\b < 8:=by omega
    rw [gm_set g2 hab8.1 hab8.2 (by omega) (by omega),gm_set g2 hab8.2 hab8.1 (by omega) (by omega)]
    by_cases e:a=i/\b=i
    ·rw [if_pos e,if_pos ⟨e.2,e.1⟩];exact ⟨rfl,by omega,by omega⟩
    ·rw [if_neg e,if_neg (by omega)];exact g3 a b (by omega)
   obtain ⟨w',l1,l2,l3⟩:=sym_in i (by omega) _ (by rw [List.length_set];exact g2) hs
   refine ⟨(w',((i+1:Nat):Int)),?_,⟨i+1,rfl,by omega,l2,fun a b hab=>l3 a b (by omega)⟩,?_⟩
   ·unfold F39_L1
    simp only [Int.toNat_natCast]
    rw [xI (by simp [yH];omega)]
    simp only [yK (show i < 8 by omega),decide_eq_true (show i * 8+i < u.length by omega),zJ]
    rw [wX l1,wM (n:=8) (by omega) (by omega)]
   ·simp only [Int.toNat_natCast];omega) (w,0) ⟨0,rfl,by omega,hw,fun a b h=>absurd h.1 (by omega)⟩
 obtain ⟨w',rfl,h3,h4⟩:=h2
 refine ⟨w',?_,h3,⟨fun i k=>?_,fun i k=>?_⟩⟩
 ·unfold F39
  show (some (mcells (mat w))).bind _=_
  rw [gY hw,Option.bind_some,wX h1,zJ (decide_eq_true h3)]
 ·unfold lkw
  by_cases h:i < 8/\k < 8
  ·rw [if_pos h,if_pos ⟨h.2,h.1⟩];exact (h4 i k h).1
  ·rw [if_neg h,if_neg (fun q=>h ⟨q.2,q.1⟩)]
 ·unfold lkw
  by_cases h:i < 8/\k < 8
  ·rw [if_pos h];exact (h4 i k h).2
  ·rw [if_neg h];omega
theorem spread_ok (l:List Tmessage) (w:List Int) (hw:w.length=64) (p:Nat) (hp:p < 8) (x:TRootWord) (hl:l.length <= 10000000):bC l (mat w) (p:Int) x=some (l ++ snd (lkw w) p x):=by
 have l1:=run_gen (step:=fun s:List Tmessage × Int=>gI (p:Int) x w s.1 s.2) (R:=List Tmessage) 8 (fun i=>(l ++ (((List.range i).filter fun k=>decide (0 < lkw w p k/\k ≠ p)).map fun (k:Nat)=>Tmessage.mk k p x),(i:Int))) (l ++ snd (lkw w) p x) (fun i hi=>by
  have hf:((((List.range i).filter fun k=>decide (0 < lkw w p k/\k ≠ p)).map fun (k:Nat)=>Tmessage.mk k p x)).length <= 8:=by
   rw [List.length_map]
   have:=List.length_filter_le (fun k=>decide (0 < lkw w p k/\k ≠ p)) (List.range i)
   rw [List.length_range] at this
   omega
  unfold gI
  simp only [Int.toNat_natCast]
  rw [xI (by simp [yH];omega),zJ (yK hp),zJ (yK hi),zJ (decide_eq_true (by omega))]
  rw [List.range_succ,List.filter_append,List.map_append]
  by_cases c:0 < lkw w p i/\i ≠ p
  ·rw [xI (by rw [lkw_at hp hi] at c;simp only [yH,xV,Bool.and_eq_true,decide_eq_true_eq,Bool.not_eq_true',decide_eq_false_iff_not];omega),zJ (qM.2 (by simp only [List.length_append];omega)),wM (n:=8) hi (by omega)]
   simp only [List.filter_cons,c,not_false_eq_true,and_self,decide_true,if_true,List.filter_nil,List.map_cons,List.map_nil,List.append_assoc]
   simp [c]
  ·rw [yR (by rw [lkw_at hp hi] at c;simp only [yH,xV,Bool.and_eq_false_iff,decide_eq_false_iff_not,Bool.not_eq_false',decide_eq_true_eq];omega),wM (n:=8) hi (by omega)]
   simp [c]) (by unfold gI;rw [yR (by simp [yH])];rfl)
 have l2:yP (fun s:List Tmessage × Int=>gI (p:Int) x w s.1 s.2) (l,0)=some (.inl (l ++ snd (lkw w) p x)):=by
  have:(l,(0:Int))=(l ++ (((List.range 0).filter fun k=>decide (0 < lkw w p k/\k ≠ p)).map fun (k:Nat)=>Tmessage.mk k p x),((0:Nat):Int)):=by simp
  rw [this];exact l1
 unfold bC
 show (some (mcells (mat w))).bind _=_
 rw [gY hw,Option.bind_some,wX l2]
/-! ### How much a message can bring about -/
def Wt:Nat->Nat|1=>13700|2=>2283|3=>456|4=>113|5=>36|6=>15|7=>8|_=>1
theorem Wt_pos (n:Nat):1 <= Wt n:=by
 unfold Wt;split<;>omega
def wt (x:Tmessage × List Nat):Nat:=if x.1.to_.toNat ∈ x.2 then 1 else Wt x.2.length
theorem wt_pos (x:Tmessage × List Nat):1 <= wt x:=by
 unfold wt;split
 ·omega
 ·exact Wt_pos _
def ph (M:List (Tmessage × List Nat)):Nat:=(M.map wt).sum
theorem ph_app (A B:List (Tmessage × List Nat)):ph (A ++ B)=ph A+ph B:=by simp [ph]
theorem ph_len (M:List (Tmessage × List Nat)):M.length <= ph M:=by
 induction M with
 | nil=>exact Nat.zero_le _
 | cons x M ih =>
  have:=wt_pos x
  simp only [ph,List.map_cons,List.sum_cons,List.length_cons] at *
  omega
def s8 (f:Nat->Nat):Nat:=f 0+f 1+f 2+f 3+f 4+f 5+f 6+f 7
theorem s8_upd (f g:Nat->Nat) (q:Nat) (hq:q < 8) (h:∀ k,k ≠ q->f k=g k):s8 f+g q=s8 g+f q:=by
 unfold s8
 match q,hq with
 | 0,_=>rw [h 1 (by omega),h 2 (by omega),h 3 (by omega),h 4 (by omega),h 5 (by omega),h 6 (by omega),h 7 (by omega)];omega
 | 1,_=>rw [h 0 (by omega),h 2 (by omega),h 3 (by omega),h 4 (by omega),h 5 (by omega),h 6 (by omega),h 7 (by omega)];omega
 | 2,_=>rw [h 0 (by omega),h 1 (by omega),h 3 (by omega),h 4 (by omega),h 5 (by omega),h 6 (by omega),h 7 (by omega)];omega
 | 3,_=>rw [h 0 (by omega),h 1 (by omega),h 2 (by omega),h 4 (by omega),h 5 (by omega),h 6 (by omega),h 7 (by omega)];omega
 | 4,_=>rw [h 0 (by omega),h 1 (by omega),h 2 (by omega),h 3 (by omega),h 5 (by omega),h 6 (by omega),h 7 (by omega)];omega
 | 5,_=>rw [h 0 (by omega),h 1 (by omega),h 2 (by omega),h 3 (by omega),h 4 (by omega),h 6 (by omega),h 7 (by omega)];omega
 | 6,_=>rw [h 0 (by omega),h 1 (by omega),h 2 (by omega),h 3 (by omega),h 4 (by omega),h 5 (by omega),h 7 (by omega)];omega
 | 7,_=>rw [h 0 (by omega),h 1 (by omega),h 2 (by omega),h 3 (by omega),h 4 (by omega),h 5 (by omega),h 6 (by omega)];omega
theorem s8_mem (W:Nat):∀ Q:List Nat,Q.Nodup->(∀ q ∈ Q,q < 8)->s8 (fun k=>if k ∈ Q then 1 else W)+Q.length * W=8 * W+Q.length
 | [],_,_=>by simp [s8];omega
 | q::Q,hn,hq=>by
  have hn':=List.nodup_cons.1 hn
  have ih:=s8_mem W Q hn'.2 fun r hr=>hq r (List.mem_cons_of_mem _ hr)
  have:=s8_upd (fun k=>if k ∈ q::Q then 1 else W) (fun k=>if k ∈ Q then 1 else W) q (hq q (by simp)) fun k hk=>by simp [hk]
  simp only [if_neg hn'.1,List.mem_cons,true_or,if_true] at this
  simp only [List.mem_cons,List.length_cons,Nat.add_mul,Nat.one_mul] at *
  omega
theorem filt_le (P:Nat->Bool) (f g:Nat->Nat) (h:∀ k,P k=true->f k <= g k):∀ l:List Nat,((l.filter P).map f).sum <= (l.map g).sum
 | []=>Nat.le_refl _
 | k::l=>by
  have ih:=filt_le P f g h l
  by_cases c:P k=true
  ·have:=h k c
   simp only [List.filter_cons,c,if_true,List.map_cons,List.sum_cons];omega
  ·simp only [List.filter_cons,c,List.map_cons,List.sum_cons]
   simp only [Bool.false_eq_true,if_false];omega
theorem sum8 (g:Nat->Nat):((List.range 8).map g).sum=s8 g:=by
 show List.sum [g 0,g 1,g 2,g 3,g 4,g 5,g 6,g 7]=_
 simp only [List.sum_cons,List.sum_nil,s8];omega
theorem ph_snd (lk:Nat->Nat->Int) (p:Nat) (hp:p < 8) (w:TRootWord) (Q:List Nat) (hn:Q.Nodup) (hq:∀ q ∈ Q,q < 8) (hm:p ∈ Q):ph (sndQ lk p w Q)+1+Q.length * Wt Q.length <= 8 * Wt Q.length+Q.length:=by
 have h1:=s8_mem (Wt Q.length) Q hn hq
 have h2:=filt_le (fun k=>decide (0 < lk p k/\k ≠ p)) (fun k=>wt (Tmessage.mk (k:Nat) p w,Q)) (fun k=>if k=p then 0 else if k ∈ Q then 1 else Wt Q.length) (fun k hk=>by
  have:=of_decide_eq_true hk
  simp only [if_neg this.2,wt,Int.toNat_natCast]
  exact Nat.le_refl _) (List.range 8)
 rw [sum8] at h2
 have h3:=s8_upd (fun k=>if k=p then 0 else if k ∈ Q then 1 else Wt Q.length) (fun k=>if k ∈ Q then 1 else Wt Q.length) p hp fun k hk=>by simp [hk]
 simp only [if_pos hm,if_true] at h3
 have h4:ph (sndQ lk p w Q)=(((List.range 8).filter fun k=>decide (0 < lk p k/\k ≠ p)).map (fun (k:Nat)=>wt (Tmessage.mk (k:Nat) p w,Q))).sum:=by
  unfold ph sndQ
  rw [List.map_map];rfl
 omega
theorem Wt_step {n:Nat} (h1:1 <= n) (h7:n <= 7) {s:Nat} (h:s+1+(n+1) * Wt (n+1) <= 8 * Wt (n+1)+(n+1)):s+1 <= Wt n:=by
 match n,h1,h7 with
 | 1,_,_=>simp only [Wt] at *;omega
 | 2,_,_=>simp only [Wt] at *;omega
 | 3,_,_=>simp only [Wt] at *;omega
 | 4,_,_=>simp only [Wt] at *;omega
 | 5,_,_=>simp only [Wt] at *;omega
 | 6,_,_=>simp only [Wt] at *;omega
 | 7,_,_=>simp only [Wt] at *;omega
end Go.Proofs.Ytdcepineppafpaa
