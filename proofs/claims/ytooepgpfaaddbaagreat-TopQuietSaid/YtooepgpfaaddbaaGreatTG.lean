/-
  Regulate over the air: one move, part by part.
-/
import Derived.Test.YtooepgpfaaddbaaGreatTF
namespace Go.Proofs.YtooepgpfaaddbaaGreat
open Go.Am
set_option linter.unusedVariables false
set_option linter.unusedSimpArgs false
def Air (air:List (List Int)) (sent:List TRegulateWord):Prop:=air.length=sent.length/\∀ j,j < sent.length->∃ a,Ad a/\gd air j=frm (gd sent j) a
theorem Air.app {air:List (List Int)} {sent out:List TRegulateWord} {a:A6u8} (h:Air air sent) (ha:Ad a):Air (air ++ out.map fun v=>frm v a) (sent ++ out):=by
 refine ⟨by rw [List.length_append,List.length_append,List.length_map,h.1],fun j hj=>?_⟩
 by_cases hc:j < sent.length
 ·obtain ⟨b,hb,e⟩:=h.2 j hc
  refine ⟨b,hb,?_⟩
  simp only [gd,List.getD_eq_getElem?_getD] at e ⊢
  rw [List.getElem?_append_left (by rw [h.1];exact hc),List.getElem?_append_left hc,e]
 ·refine ⟨a,ha,?_⟩
  rw [List.length_append] at hj
  simp only [gd,List.getD_eq_getElem?_getD]
  rw [List.getElem?_append_right (by rw [h.1];omega),List.getElem?_append_right (by omega),h.1,List.getElem?_map]
  have:j - sent.length < out.length:=by omega
  rw [List.getElem?_eq_getElem this]
  rfl
def ad (w:Nat):A6u8:=A6u8.mk 2 0 0 0 1 (wr .u8 (w:Int))
theorem ad_ok {w:Nat} (h:w <= 255):Ad (ad w):=by
 unfold Ad ad
 simp only
 rw [wr_u8 (by omega)]
 exact ⟨trivial,by decide,by decide,by decide,by decide,by omega,by omega⟩
structure In (tb:List TRegulateChannel) (t:Int) (all:List TRegulate) (air:List (List Int)) (sent:List TRegulateWord) (stop:List (Int × Int)) (K:Nat):Prop where
 ce:Ce tb t all sent
 me:Me t all sent
 qu:Qu t all sent stop
 hT:∀ n T,lkp stop n=some T->0 <= T/\T <= 1000000000
 fr:Air air sent
 n4:all.length=4
 ks:sent.length <= K
 km:stop.length <= K
theorem stop_step {t':Int} {all all':List TRegulate} {sent sent':List TRegulateWord} {stop stop':List (Int × Int)} (s:Sp t' all sent stop all' sent' stop') (h0:0 <= t'/\t' <= 1000000000) (hT:∀ n T,lkp stop n=some T->0 <= T/\T <= 1000000000):∀ n T,lkp stop' n=some T->0 <= T/\T <= 1000000000:=by
 cases s with
 | no=>exact hT
 | say c hc hn h=>exact hT
 | mvd w hw nx out hx =>
  intro n T e
  have h1:∀ n T,lkp (st1 w (gd all w) nx t' stop) n=some T->0 <= T/\T <= 1000000000:=fun n T e=>by
   unfold st1 at e
   cases hb:((bEq (w:Int) 0 && nx.Stopped) && !(gd all w).Stopped) with
   | false=>rw [hb] at e;exact hT n T e
   | true =>
    rw [hb,cond_true,lkp_upd] at e
    split at e
    ·obtain rfl:=Option.some.inj e;exact h0
    ·exact hT n T e
  unfold st2 at e
  cases hb:(bEq (w:Int) 0 && !bEq nx.Channel (gd all w).Channel) with
  | false=>rw [hb] at e;exact h1 n T e
  | true =>
   rw [hb,cond_true,lkp_del] at e
   split at e
   ·cases e
   ·exact h1 n T e
section
variable {tb:List TRegulateChannel} {now t:Int} {all all':List TRegulate} {air air':List (List Int)} {sent sent':List TRegulateWord} {stop stop':List (Int × Int)} {K:Nat}
theorem In.le (h:In tb now all air sent stop K) (mt:Mo t) (hle:now <= t) (hbig:t <= 1000000000):In tb t all air sent stop K :=
 ⟨(Ce_step h.ce mt (stop:=stop) .no).1,Me_step h.ce h.me mt hle hbig (stop:=stop) .no,Qu_step h.ce h.me h.qu mt hle hbig .no,h.hT,h.fr,h.n4,h.ks,h.km⟩
theorem In.mono (h:In tb t all air sent stop K) {L:Nat} (hl:K <= L):In tb t all air sent stop L:=⟨h.ce,h.me,h.qu,h.hT,h.fr,h.n4,Nat.le_trans h.ks hl,Nat.le_trans h.km hl⟩
theorem In.step (h:In tb t all air sent stop K) (mt:Mo t) (hbig:t <= 1000000000) (s:Sp t all sent stop all' sent' stop') (hf:Air air' sent'):In tb t all' air' sent' stop' (K+1):=by
 obtain ⟨c',k1,k2,k3,k4⟩:=Ce_step h.ce mt s
 have:=h.ks;have:=h.km;have:=h.n4
 unfold Mo at mt
 exact ⟨c',Me_step h.ce h.me mt (Int.le_refl _) hbig s,Qu_step h.ce h.me h.qu mt (Int.le_refl _) hbig s,stop_step s ⟨mt.1,hbig⟩ h.hT,hf,by omega,by omega,by omega⟩
end
theorem snd_gen {R:Type} {step:Int × List (List Int)->Option (Lp (Int × List (List Int)) (List (List Int) ⊕ R))} (out:List TRegulateWord) (a:A6u8) (air:List (List Int)) (E:Int × List (List Int)->List Int × Bool->Option (Lp (Int × List (List Int)) (List (List Int) ⊕ R)))
  (hs:∀ s,step s=bif (bLt s.1 (out.length:Nat)) then (need (inb s.1 out.length) <| (F8 (gd out s.1.toNat) a).bind fun r=>bif (!r.2) then E s r else (need (capb 24 (s.2.length+1)) <| some (.next (wr .i64 (s.1+1),(s.2 ++ [r.1]))))) else some (.done (.inl s.2)))
  (ho:out.length <= 1000) (hw:∀ w ∈ out,Wd w) (ha:a.x0=2) (hl:air.length <= 1000):yF step (0,air)=some (.inl (air ++ out.map fun v=>frm v a)):=by
 have e0:((0:Int),air)=(fun j:Nat=>((j:Int),air ++ (out.take j).map fun v=>frm v a)) 0:=by simp
 have e1:some (Sum.inl (β:=R) (air ++ out.map fun v=>frm v a))=some (Sum.inl (air ++ (out.take out.length).map fun v=>frm v a)):=by rw [List.take_length]
 rw [e0,e1]
 refine run_gen (step:=step) out.length (fun j:Nat=>((j:Int),air ++ (out.take j).map fun v=>frm v a)) _ (fun j hj=>?_) ?_
 ·rw [hs]
  simp only
  rw [xS (c:=bLt _ _) (by simp [yW];omega),zD (xG hj),Int.toNat_natCast,wrap_ok (hw _ (vZ hj)) ha,Option.bind_some,yO (c:=!true) rfl,zD (uT.2 (by simp;omega)),vA hj (by omega),take_snoc hj,List.map_append,List.append_assoc]
  rfl
 ·rw [hs]
  simp only
  rw [yO (c:=bLt _ _) (by simp [yW])]
section
variable (l:List TMove) (i:Nat) (now t:Int) (all:List TRegulate) (air:List (List Int)) (stop:List (Int × Int))
theorem L7_ok (ht:wr .i64 (now+(gd l i).Wait)=t) (hm:stop.length <= 1000) (w:Nat) (hw:w < all.length) (nx:TRegulate) (out:List TRegulateWord) (e:Int) :
  yF (fun _:Unit=>F3_L7 l i now all stop w (nx,out,e)) ()=some (.inl (st1 w (gd all w) nx t stop)):=by
 refine xK ?_
 unfold F3_L7 st1
 simp only [Int.toNat_natCast,ht]
 by_cases h0:w=0
 ·subst h0
  have hz:inb 0 all.length=true:=xG (i:=0) hw
  rw [zD hz,zD (b:=decide _) (by simp;omega)]
  cases (bEq ((0:Nat):Int) 0 && nx.Stopped) && !(gd all 0).Stopped<;>rfl
 ·have hz:bEq (w:Int) 0=false:=by simp [yT];omega
  rw [hz]
  rfl
theorem L21_ok (ht:wr .i64 (now+(gd l i).Wait)=t) (hm:stop.length <= 1000) (w:Nat) (hw:w < all.length) (nx:TRegulate) (out:List TRegulateWord) (e:Int) :
  yF (fun _:Unit=>F3_L21 l i now w all stop (nx,out,e)) ()=some (.inl (st1 w (gd all w) nx t stop)):=by
 refine xK ?_
 unfold F3_L21 st1
 simp only [Int.toNat_natCast,ht]
 by_cases h0:w=0
 ·subst h0
  have hz:inb 0 all.length=true:=xG (i:=0) hw
  rw [zD hz,zD (b:=decide _) (by simp;omega)]
  cases (bEq ((0:Nat):Int) 0 && nx.Stopped) && !(gd all 0).Stopped<;>rfl
 ·have hz:bEq (w:Int) 0=false:=by simp [yT];omega
  rw [hz]
  rfl
theorem L8_ok (w:Nat) (nx:TRegulate) (out:List TRegulateWord) (e:Int) :
  yF (fun _:Unit=>F3_L8 all w (nx,out,e) (st1 w (gd all w) nx t stop)) ()=some (.inl (st2 w (gd all w) nx t stop)):=by
 refine xK ?_
 unfold F3_L8 st2
 by_cases h0:w=0
 ·subst h0
  cases (bEq ((0:Nat):Int) 0 && !bEq nx.Channel (gd all 0).Channel)<;>rfl
 ·have hz:bEq (w:Int) 0=false:=by simp [yT];omega
  rw [hz]
  rfl
theorem L22_ok (w:Nat) (nx:TRegulate) (out:List TRegulateWord) (e:Int) :
  yF (fun _:Unit=>F3_L22 w all (nx,out,e) (st1 w (gd all w) nx t stop)) ()=some (.inl (st2 w (gd all w) nx t stop)):=by
 refine xK ?_
 unfold F3_L22 st2
 by_cases h0:w=0
 ·subst h0
  cases (bEq ((0:Nat):Int) 0 && !bEq nx.Channel (gd all 0).Channel)<;>rfl
 ·have hz:bEq (w:Int) 0=false:=by simp [yT];omega
  rw [hz]
  rfl
theorem L6_ok (ht:wr .i64 (now+(gd l i).Wait)=t) (hm:stop.length <= 1000) (hl:air.length <= 1000) (hA:0 < all.length) (w:Nat) (hw:w < all.length) (nx:TRegulate) (out:List TRegulateWord) (ho:out.length <= 1) (hd:∀ v ∈ out,Wd v) :
  yF (fun _:Unit=>F3_L6 l i now all air stop w (nx,out,0)) ()=some (.inl (true,all.set w nx,air ++ out.map (fun v=>frm v (ad w)),st2 w (gd all w) nx t stop)):=by
 refine xK ?_
 have hz:inb 0 all.length=true:=xG (i:=0) hA
 have hk:∀ b:Bool,(bif b then inb 0 all.length else true)=true:=fun b=>by rw [hz];cases b<;>rfl
 unfold F3_L6
 rw [zD (hk _),wE (L7_ok l i now t all stop ht hm w hw nx out 0),zD (hk _),wE (L8_ok t all stop w nx out 0),zD (xG hw),wE (snd_gen (step:=fun s=>F3_L9 all w (nx,out,0) (st2 w (gd all w) nx t stop) s.1 s.2) out (ad w) air _ (fun _=>rfl) (by omega) hd rfl hl)]
 rfl
theorem L15_ok (ht:wr .i64 (now+(gd l i).Wait)=t) (hm:stop.length <= 1000) (hl:air.length <= 1000) (hA:0 < all.length) (w:Nat) (hw:w < all.length) (nx:TRegulate) (out:List TRegulateWord) (ho:out.length <= 1) (hd:∀ v ∈ out,Wd v) :
  yF (fun _:Unit=>F3_L15 l i now w all air stop (nx,out,0)) ()=some (.inl (true,all.set w nx,air ++ out.map (fun v=>frm v (ad w)),st2 w (gd all w) nx t stop)):=L6_ok l i now t all air stop ht hm hl hA w hw nx out ho hd
theorem L20_ok (ht:wr .i64 (now+(gd l i).Wait)=t) (hm:stop.length <= 1000) (hl:air.length <= 1000) (hA:0 < all.length) (w:Nat) (hw:w < all.length) (nx:TRegulate) (out:List TRegulateWord) (ho:out.length <= 1) (hd:∀ v ∈ out,Wd v) :
  yF (fun _:Unit=>F3_L20 l i now w all air stop (nx,out,0)) ()=some (.inl (true,all.set w nx,air ++ out.map (fun v=>frm v (ad w)),st2 w (gd all w) nx t stop)):=by
 refine xK ?_
 have hz:inb 0 all.length=true:=xG (i:=0) hA
 have hk:∀ b:Bool,(bif b then inb 0 all.length else true)=true:=fun b=>by rw [hz];cases b<;>rfl
 unfold F3_L20
 rw [zD (hk _),wE (L21_ok l i now t all stop ht hm w hw nx out 0),zD (hk _),wE (L22_ok t all stop w nx out 0),zD (xG hw),wE (snd_gen (step:=fun s=>F3_L23 w all (nx,out,0) (st2 w (gd all w) nx t stop) s.1 s.2) out (ad w) air _ (fun _=>rfl) (by omega) hd rfl hl)]
 rfl
end
end Go.Proofs.YtooepgpfaaddbaaGreat
