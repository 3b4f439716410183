/-
  Regulate: stopping.
-/
import Derived.Test.YtooepgpfaaddbaaGreatQD
namespace Go.Proofs.YtooepgpfaaddbaaGreat
open Go.Am
set_option linter.unusedVariables false
set_option linter.unusedSimpArgs false
def unt (t d:Int):Int:=jI (t+d) 1099511627776
def stB (s:TRegulate) (t:Int):List TRegulateBlock:=wl (fun q:TRegulateBlock=>q.Channel - s.Channel) ⟨s.Channel,unt t 1800000000⟩ s.Blocked
def stC (s:TRegulate):List Int:=s.Clear.filter (fun n=>!bEq n s.Channel)
def stp (s:TRegulate) (t:Int):TRegulate:=⟨s.Table,s.Channel,s.Lead,s.Heard,true,s.Moving,s.To,s.At,stB s t,stC s⟩
theorem stB_is (s:TRegulate) (t:Int) (rb:Rb s.Blocked):∃ A B,stB s t=A ++ ⟨s.Channel,unt t 1800000000⟩::B/\(∀ q ∈ A,q.Channel < s.Channel)/\(∀ q ∈ B,s.Channel < q.Channel)/\(s.Blocked=A ++ B ∨ ∃ b,b.Channel=s.Channel/\s.Blocked=A ++ b::B):=by
 obtain ⟨A,B,e,hA,h|⟨b,B',rfl,h1,h2⟩⟩:=srt_split (fun q:TRegulateBlock=>q.Channel) s.Blocked s.Channel rb
 ·exact ⟨A,B,by unfold stB;rw [e,wl_new _ _ A B (fun q hq=>by have:=hA q hq;omega) (fun q hq=>by have:=h q hq;omega)],hA,h,.inl e⟩
 ·exact ⟨A,B',by unfold stB;rw [e,wl_old _ _ A B' b (fun q hq=>by have:=hA q hq;omega) (by omega) (fun q hq=>by have:=h2 q hq;omega)],hA,h2,.inr ⟨b,h1,e⟩⟩
theorem F84_ok (l:List Int) (n:Int) (hl:l.length <= 1000):F84_0 l n=some (l.filter (fun q=>!bEq q n)):=by
 unfold F84_0 F95_0
 exact del_gen l (fun q=>bEq q n) (fun q=>F85_0 q n) (by omega) (fun q _=>rfl) (step1:=fun s=>F95_0_L1 l n s) (fun s=>rfl) (step2:=fun s=>F84_0_L1 n s.1 s.2.1 s.2.2) (fun s=>rfl)
theorem F31_ok (l:List TRegulateBlock) (t:Int) (hl:l.length <= 1000):F31_0 l t=some (l.filter (fun q=>!bLe q.Until t)):=by
 unfold F31_0 F70_0
 exact del_gen l (fun q=>bLe q.Until t) (fun q=>F32_0 q t) (by omega) (fun q _=>rfl) (step1:=fun s=>F70_0_L1 l t s) (fun s=>rfl) (step2:=fun s=>F31_0_L1 t s.1 s.2.1 s.2.2) (fun s=>rfl)
theorem wr_unt {t d:Int} (h:Mo t) (hd:0 <= d/\d <= 1800000000):jI (wr .i64 (t+d)) 1099511627776=unt t d:=by unfold unt;rw [uV (by unfold Mo at h;omega)]
theorem F49_ok (s:TRegulate) (t:Int) (hg:Gr s) (rb:Rb s.Blocked) (ht:Mo t):F49_0 s t=some (stp s t):=by
 obtain ⟨g1,g2,g3⟩:=hg
 unfold F49_0 stp
 rw [F84_ok _ _ g3,Option.bind_some]
 obtain ⟨A,B,e,hA,h|⟨b,B',rfl,h1,h2,h3⟩⟩:=F51_ok s.Blocked s.Channel (by omega) rb
 ·have hi:insL s.Blocked (A.length:Int) [(⟨s.Channel,0⟩:TRegulateBlock)]=A ++ ⟨s.Channel,0⟩::B:=by
   unfold insL
   rw [e,Int.toNat_natCast];simp
  have hw:stB s t=A ++ ⟨s.Channel,unt t 1800000000⟩::B:=by
   unfold stB;rw [e,wl_new _ _ A B (fun q hq=>by have:=hA q hq;omega) (fun q hq=>by have:=h.1 q hq;omega)]
  have hl:A.length <= s.Blocked.length:=by rw [e];simp
  rw [h.2,Option.bind_some]
  simp only [Bool.not_false,cond_true]
  rw [zD (insb_iff.2 (by omega)),Option.bind_some,Option.bind_some,hi,zD (xG (by simp)),Int.toNat_natCast,gd_app2 (Nat.le_refl _),Nat.sub_self,set_mid,wr_unt ht (by decide),hw]
  rfl
 ·have hw:stB s t=A ++ ⟨s.Channel,unt t 1800000000⟩::B':=by
   unfold stB;rw [e,wl_old _ _ A B' b (fun q hq=>by have:=hA q hq;omega) (by omega) (fun q hq=>by have:=h2 q hq;omega)]
  rw [h3,Option.bind_some]
  simp only [Bool.not_true,cond_false]
  rw [e,zD (xG (by simp)),Int.toNat_natCast,gd_app2 (Nat.le_refl _),Nat.sub_self,set_mid,wr_unt ht (by decide),hw,show (gd (b::B') 0).Channel=s.Channel from h1]
  rfl
def rad (s:TRegulate) (p t:Int):List TRegulateWord × TRegulate :=
 bif !s.Lead then ([⟨2,s.Channel,0,0⟩],stp s t)
 else bif bEq ((usL s.Table s.Channel (stB s t) (stC s) t).length:Nat) 0 then ([],stp s t)
 else ([⟨1,s.Channel,gd (usL s.Table s.Channel (stB s t) (stC s) t) (p.tmod ((usL s.Table s.Channel (stB s t) (stC s) t).length:Nat)).toNat,unt t 150000⟩],
  ⟨s.Table,s.Channel,s.Lead,s.Heard,true,true,gd (usL s.Table s.Channel (stB s t) (stC s) t) (p.tmod ((usL s.Table s.Channel (stB s t) (stC s) t).length:Nat)).toNat,unt t 150000,stB s t,stC s⟩)
theorem stB_len (s:TRegulate) (t:Int) (rb:Rb s.Blocked):(stB s t).length <= s.Blocked.length+1:=by
 obtain ⟨A,B,e,_,_,h|⟨b,_,h⟩⟩:=stB_is s t rb<;>rw [e,h]<;>simp<;>omega
theorem Rb_stB (s:TRegulate) (t:Int) (rb:Rb s.Blocked):Rb (stB s t):=by
 obtain ⟨A,B,e,hA,hB,h⟩:=stB_is s t rb
 rw [e]
 refine pw_ins (k:=fun q:TRegulateBlock=>q.Channel) ?_ hA hB
 rcases h with h|⟨b,_,h⟩
 ·rw [← h];exact rb
 ·unfold Rb at rb
  rw [h] at rb
  obtain ⟨q1,q2,q3⟩:=List.pairwise_append.1 rb
  exact List.pairwise_append.2 ⟨q1,(List.pairwise_cons.1 q2).2,fun a ha b hb=>q3 a ha b (List.mem_cons_of_mem _ hb)⟩
theorem md_in {p:Int} {n:Nat} (hp:0 <= p) (hn:n ≠ 0):∃ k:Nat,k < n/\p.tmod (n:Int)=(k:Int):=by
 obtain ⟨m,rfl⟩:=Int.eq_ofNat_of_zero_le hp
 exact ⟨m % n,Nat.mod_lt _ (by omega),rfl⟩
end Go.Proofs.YtooepgpfaaddbaaGreat
