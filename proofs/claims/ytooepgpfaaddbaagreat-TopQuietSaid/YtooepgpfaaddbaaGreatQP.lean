/-
  Numbers as bytes, the least first: what the loops that write and read them give.
-/
import Derived.Test.YtooepgpfaaddbaaGreatPm10
namespace Go.Am
set_option linter.unusedVariables false
def ldN:List Int->Int
 | []=>0
 | b::l=>b+256 * ldN l
def leN:Nat->Int->List Int
 | 0,_=>[]
 | n+1,v=>v % 256::leN n (v / 256)
theorem leN_len:∀ (n:Nat) (v:Int),(leN n v).length=n
 | 0,_=>rfl
 | n+1,v=>by simp [leN,leN_len n]
theorem leN_by:∀ (n:Nat) (v:Int),∀ q ∈ leN n v,0 <= q/\q <= 255
 | 0,_,q,hq=>by simp [leN] at hq
 | n+1,v,q,hq=>by
  simp only [leN,List.mem_cons] at hq
  rcases hq with rfl|hq
  ·omega
  ·exact leN_by n _ q hq
theorem fM (n:Nat):(256:Int) ^ (n+1)=256 * 256 ^ n:=by rw [Int.pow_succ];omega
theorem leN_snoc:∀ (n:Nat) (v:Int),leN (n+1) v=leN n v ++ [v / 256 ^ n % 256]
 | 0,v=>by simp [leN]
 | n+1,v=>by
  rw [leN,leN_snoc n,leN,List.cons_append,Int.ediv_ediv_of_nonneg (by omega),fM]
theorem ldN_leN:∀ (n:Nat) (v:Int),0 <= v->v < 256 ^ n->ldN (leN n v)=v
 | 0,v,h0,h1=>by simp at h1;simp [leN,ldN];omega
 | n+1,v,h0,h1=>by
  rw [fM] at h1
  rw [leN,ldN,ldN_leN n (v / 256) (by omega) (by generalize (256:Int) ^ n=p at h1 ⊢;omega)]
  omega
theorem ldN_bd:∀ l:List Int,(∀ q ∈ l,0 <= q/\q <= 255)->0 <= ldN l/\ldN l < 256 ^ l.length
 | [],_=>by simp [ldN]
 | b::l,h=>by
  obtain ⟨h1,h2⟩:=ldN_bd l fun q hq=>h q (List.mem_cons_of_mem _ hq)
  have hb:=h b (List.mem_cons_self ..)
  rw [List.length_cons,fM,ldN]
  generalize (256:Int) ^ l.length=p at h2 ⊢
  omega
theorem ldN_snoc:∀ (l:List Int) (b:Int),ldN (l ++ [b])=ldN l+256 ^ l.length * b
 | [],b=>by simp [ldN]
 | a::l,b=>by
  rw [List.cons_append,ldN,ldN_snoc l b,ldN,List.length_cons,fM,Int.mul_assoc]
  omega
theorem fQ {x:Int} (h:0 <= x):wr .u8 x=x % 256:=by
 obtain ⟨n,rfl⟩:=Int.eq_ofNat_of_zero_le h
 show IntKind.wrap .u8 (n:Int)=_
 simp only [IntKind.wrap]
 rfl
theorem wr_u64 {x:Int} (h:0 <= x/\x <= 18446744073709551615):wr .u64 x=x:=by
 obtain ⟨n,rfl⟩:=Int.eq_ofNat_of_zero_le h.1
 exact wrap_nat .u64 rfl n (by show n < 2 ^ 64;omega)
theorem wr_u8 {x:Int} (h:0 <= x/\x <= 255):wr .u8 x=x:=by rw [fQ h.1];omega
theorem pow28 (i:Nat):2 ^ (8 * i)=256 ^ i:=by rw [Nat.pow_mul]
theorem shr_byte {v:Int} {i:Nat} (hv:0 <= v) (hi:i < 8):wr .u8 (wW .u64 v (wr .i64 (8 * (i:Int))))=v / 256 ^ i % 256:=by
 obtain ⟨m,rfl⟩:=Int.eq_ofNat_of_zero_le hv
 rw [uV (by omega),show (8 * (i:Int))=((8 * i:Nat):Int) from by omega,bW .u64 m (8 * i) (by show 8 * i <= 64;omega),pow28,fQ (Int.natCast_nonneg _)]
 rw [Int.natCast_ediv,Int.natCast_pow];rfl
theorem or_shift {a b:Int} {i:Nat} (ha:0 <= a/\a < 256 ^ i) (hb:0 <= b/\b <= 255) (hi:i < 8):orI .u64 a (cE .u64 (wr .u64 b) (wr .i64 (8 * (i:Int))))=a+256 ^ i * b:=by
 obtain ⟨m,rfl⟩:=Int.eq_ofNat_of_zero_le ha.1
 obtain ⟨n,rfl⟩:=Int.eq_ofNat_of_zero_le hb.1
 have hm:m < 256 ^ i:=by have:=ha.2;rw [show (256:Int) ^ i=((256 ^ i:Nat):Int) from by simp] at this;omega
 have hn:n <= 255:=by omega
 have hp:256 ^ i * 256 <= 2 ^ 64:=by
  rw [show 2 ^ 64=256 ^ 7 * 256 from by decide]
  exact Nat.mul_le_mul_right _ (Nat.pow_le_pow_right (by omega) (by omega))
 have hnb:n * 256 ^ i <= 255 * 256 ^ i:=Nat.mul_le_mul_right _ hn
 have e1:n * 2 ^ (8 * i) < 2 ^ 64:=by rw [pow28];have:0 < 256 ^ i:=Nat.pow_pos (by omega);omega
 rw [uV (by omega),wr_u64 (by omega),show (8 * (i:Int))=((8 * i:Nat):Int) from by omega,shlI_nat .u64 rfl n (8 * i) (by show 8 * i <= 64;omega) e1,orI_nat .u64 rfl _ _ (by show m < 2 ^ 64;omega) e1]
 rw [Nat.or_comm,Nat.mul_comm,← Nat.two_pow_add_eq_or_of_lt (show m < 2 ^ (8 * i) by rw [pow28];exact hm),pow28]
 rw [Int.natCast_add,Int.natCast_mul,Int.natCast_pow];simp;omega
theorem put_gen {R:Type} {step:List Int × Int->Option (Lp (List Int × Int) (List Int ⊕ R))} (v:Int) (hv:0 <= v) (L:List Int) (n:Nat) (hn:n <= 8) (hL:L.length <= 100000) (hs:∀ s,step s=bif (bLt s.2 (n:Int)) then (need (bLe 0 (wr .i64 (8 * s.2))) <| need (capb 1 (s.1.length+1)) <| some (Lp.next ((s.1 ++ [wr .u8 (wW .u64 v (wr .i64 (8 * s.2)))]),wr .i64 (s.2+1)))) else (some (Lp.done (Sum.inl (β:=R) s.1)))) :
  yF step (L,0)=some (Sum.inl (L ++ leN n v)):=by
 obtain ⟨b,l1,l2⟩:=loop_forS (step:=step) n (fun i=>(L ++ leN i v,(i:Int))) (fun _=>True) (fun b=>b=Sum.inl (L ++ leN n v)) trivial
  (fun i hi _=>by
   right
   rw [hs]
   simp only
   rw [xS (by simp [yW];omega),zD (by rw [uV (by omega)];simp [vB];omega),zD (uT.2 (by rw [List.length_append,leN_len];omega)),shr_byte hv (by omega),vA hi (by omega),leN_snoc,List.append_assoc]
   exact ⟨rfl,trivial⟩)
  (fun _=>⟨_,by rw [hs];simp only;rw [yO (by simp [yW])],rfl⟩)
 rw [l2] at l1
 simpa [leN] using l1
theorem num_gen {R:Type} {step:Int × Int->Option (Lp (Int × Int) (Int ⊕ R))} (D:List Int) (hD:∀ q ∈ D,0 <= q/\q <= 255) (hn:D.length <= 8) (hs:∀ s,step s=bif (bLt s.2 (D.length:Nat)) then (need (inb s.2 D.length) <| need (bLe 0 (wr .i64 (8 * s.2))) <| some (Lp.next (orI .u64 s.1 (cE .u64 (wr .u64 (gd D s.2.toNat)) (wr .i64 (8 * s.2))),wr .i64 (s.2+1)))) else (some (Lp.done (Sum.inl (β:=R) s.1)))) :
  yF step (0,0)=some (Sum.inl (ldN D)):=by
 obtain ⟨b,l1,l2⟩:=loop_forS (step:=step) D.length (fun i=>(ldN (D.take i),(i:Int))) (fun _=>True) (fun b=>b=Sum.inl (ldN D)) trivial
  (fun i hi _=>by
   right
   rw [hs]
   simp only
   have hb:=hD _ (vZ hi)
   have ht:=ldN_bd (D.take i) fun q hq=>hD q (List.mem_of_mem_take hq)
   have hl:(D.take i).length=i:=by rw [List.length_take];omega
   rw [hl] at ht
   rw [xS (by simp [yW];omega),zD (xG hi),zD (by rw [uV (by omega)];simp [vB];omega),Int.toNat_natCast,or_shift ht hb (by omega),vA hi (by omega),List.take_succ_eq_append_getElem hi,ldN_snoc,hl]
   rw [show gd D i=D[i] from by simp [gd,List.getD_eq_getElem?_getD,hi]]
   exact ⟨rfl,trivial⟩)
  (fun _=>⟨_,by rw [hs];simp only;rw [yO (by simp [yW]),List.take_length],rfl⟩)
 rw [l2] at l1
 simpa [ldN] using l1
end Go.Am
