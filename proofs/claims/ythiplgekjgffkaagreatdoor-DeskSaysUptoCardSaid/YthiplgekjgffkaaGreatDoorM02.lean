/- CRC-32: the step by a ta -/
import Derived.Laws.BitsAllLaws
set_option maxRecDepth 100000
set_option maxHeartbeats 99000000
set_option linter.all false
namespace Go.Proofs.YthiplgekjgffkaaGreatDoor
def Aq:=@ByteArray.size_append
def CJ:=@List.getElem_set
def Ce:=@List.getElem_map
def Cf:=@Go.Value.slice.injEq
def Cn:=@Classical.not_not
def Co:=@Classical.byContradiction
def ASZ:=@Array.ext'
def ASl:=@List.length_set
def ASr:=@List.drop_length
def AS7:=@Int.ediv_nonneg
def AS8:=@Int.ediv_le_self
def ATA:=@Nat.mod_two_eq_zero_or_one
def ATP:=@Nat.xor_lt_two_pow
def ATQ:=@Nat.xor_assoc
def ATe:=@ByteArray.extract_eq_extract_append_extract
def ATf:=@Int.ediv_le_ediv
def ATg:=@decide_eq_true_iff
def ATh:=@Nat.le_add_right
def AT6:=@Nat.lt_irrefl
def AT7:=@List.map_take
def AT8:=@List.map_drop
def AT9:=@Bool.false_eq_true
def AUC:=@Int.toNat_of_nonneg
def AUD:=@of_decide_eq_true
def AUE:=@Nat.eq_of_testBit_eq
def AUF:=@Nat.testBit_div_two_pow
def AUL:=@Array.getElem?_eq_none
def AUU:=@List.findIdx?_eq_some_iff_getElem
def AUV:=@List.findIdx?_eq_none_iff
def AUW:=@Int.lt_ediv_add_one_mul_self
def AUX:=@List.getElem_append_right
def AUY:=@List.getElem_append_left
def AUa:=@List.length_filter_le
namespace Gw
def rW:Nat:=3988292384
def st(x:Nat):Nat:=if x%2=1 then (x/2) ^^^ rW else x/2
def Jk:Nat->Nat->Nat
 |0,x=>x
 |k+1,x=>st (Jk k x)
theorem ACd{x:Nat}(h:x<2^32):st x<2^32:=by
 unfold st;split
 ·exact ATP (by omega) (by unfold rW;omega)
 ·omega
theorem VF{x:Nat}(h:x<2^32):∀k,Jk k x<2^32
 |0=>h
 |k+1=>ACd (VF h k)
theorem y7(a b:Nat):st (a ^^^ b)=st a ^^^ st b:=by
 unfold st;have e:(a ^^^ b)/2=a/2 ^^^ b/2:=Nat.xor_div_two;have m:= @Nat.xor_mod_two_eq_one a b;rw[e];rcases ATA a with ha|ha<;>rcases ATA b with hb|hb
 ·rw[if_neg (show¬(a ^^^ b)%2=1 by rw[m];omega),if_neg (show¬a%2=1 by omega),if_neg (show¬b%2=1 by omega)]
 ·rw[if_pos (show(a ^^^ b)%2=1 by rw[m];omega),if_neg (show¬a%2=1 by omega),if_pos (show b%2=1 by omega),ATQ]
 ·rw[if_pos (show(a ^^^ b)%2=1 by rw[m];omega),if_pos (show a%2=1 by omega),if_neg (show¬b%2=1 by omega),ATQ,ATQ,Nat.xor_comm (b/2)]
 ·rw[if_neg (show¬(a ^^^ b)%2=1 by rw[m];omega),if_pos (show a%2=1 by omega),if_pos (show b%2=1 by omega)]
  rw[Nat.xor_comm (b/2),ATQ,<-ATQ rW,Nat.xor_self,Nat.zero_xor]
theorem iH(a b:Nat):∀k,Jk k (a ^^^ b)=Jk k a ^^^ Jk k b
 |0=>rfl
 |k+1=>by simp only[Jk];rw[iH a b k,y7]
theorem ir:∀(k h:Nat),Jk k (2^k*h)=h
 |0,h=>by simp[Jk]
 |k+1,h=>by
  have e:2^(k+1)*h=2^k*(2*h):=by rw[Nat.pow_succ,Nat.mul_assoc]
  simp only[Jk];rw[e,ir k (2*h)];unfold st;rw[if_neg (by omega)];omega
theorem parts(x:Nat):x=(2^8*(x/256)) ^^^ (x%256):=by
 apply AUE;intro i;have e:x%256=x%2^8:=rfl;have e2:x/256=x/2^8:=rfl;rw[Nat.testBit_xor,e,e2,Nat.testBit_mod_two_pow,Nat.mul_comm,Nat.testBit_mul_two_pow,AUF];by_cases h:i<8
 ·have h':¬8<=i:=by omega
  simp[h,h']
 ·have h':8<=i:=by omega
  simp[h,h']
theorem AIo(x:Nat):Jk 8 x=(x/256) ^^^ Jk 8 (x%256):=by
 conv=>lhs;rw[parts x]
 rw[iH,ir]
theorem AEt(c b:Nat)(hb:b<256):Jk 8 (c ^^^ b)=(c/256) ^^^ Jk 8 ((c%256) ^^^ b):=by
 rw[AIo];have e1:(c ^^^ b)/256=c/256:=by
  apply AUE;intro i;rw[show(256:Nat)=2^8 from rfl,AUF,AUF,Nat.testBit_xor,Nat.testBit_lt_two_pow (x:=b) (i:=i+8)]
  ·simp
  ·exact Nat.lt_of_lt_of_le hb (by rw[show(256:Nat)=2^8 from rfl];exact Nat.pow_le_pow_right (by omega) (by omega))
 have e2:(c ^^^ b)%256=(c%256) ^^^ b:=by
  rw[show(256:Nat)=2^8 from rfl,Nat.xor_mod_two_pow,Nat.mod_eq_of_lt (a:=b) hb]
 rw[e1,e2]
def upto(s:ByteArray)(k:Nat):Nat:=(s.data.toList.take k).foldl (fun c b=>Jk 8 (c ^^^ b.toNat)) 4294967295
theorem Yu(s:ByteArray)(k:Nat)(h:k<s.size):upto s (k+1)=Jk 8 (upto s k ^^^ (s[k]).toNat):=by
 unfold upto;rw[List.take_succ_eq_append_getElem (by simpa using h),List.foldl_append];rfl
theorem nk(s:ByteArray):∀k,k<=s.size->upto s k<2^32
 |0,_=>by simp[upto]
 |k+1,h=>by
  rw[Yu s k (by omega)];exact VF (ATP (nk s k (by omega)) (Nat.lt_of_lt_of_le (UInt8.toNat_lt _) (by omega))) 8
theorem flip(c:Nat)(h:c<2^32):c ^^^ 4294967295=4294967295-c:=by
 apply AUE;intro i;have e:=Nat.testBit_two_pow_sub_succ h i;rw[show 4294967295-c=2^32- (c+1)by omega,e,Nat.testBit_xor];have e2:Nat.testBit 4294967295 i=decide (i<32):=by
  have:=Nat.testBit_two_pow_sub_one 32 i
  simpa using this
 rw[e2];by_cases hi:i<32
 ·simp[hi]
 ·rw[Nat.testBit_lt_two_pow (x:=c) (i:=i) (Nat.lt_of_lt_of_le h (Nat.pow_le_pow_right (by omega) (by omega)))]
  simp[hi]
