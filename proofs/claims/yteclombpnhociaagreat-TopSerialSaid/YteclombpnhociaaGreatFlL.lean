/- Contracts of layer 1's reference: what is less, and shifts. -/
import Derived.Test.YteclombpnhociaaGreatWideX
import Derived.Test.YteclombpnhociaaGreatTy
import Derived.RangeFuncNested
import Derived.RangeFuncBound
import Derived.RangeFuncCalls
import Derived.RangeFuncLeaves
import Derived.Shelf.Abstract
import Derived.Shelf.RegionOpen
import Derived.WalkKit
import Derived.OwnWalkIn
import Derived.TacticsInMore
import Derived.LoopNIn
import Derived.LoopIn
import Derived.Test.YteclombpnhociaaGreatFlG
set_option maxRecDepth 100000
set_option maxHeartbeats 8000000
namespace Go.Proofs.YteclombpnhociaaGreat
open Go.Am
set_option linter.unusedSimpArgs false
set_option linter.unusedVariables false
noncomputable section
def lessU (a b:BitVec 64):Bool:=if bitU a 63=bitU b 63 then decide (a < b) else decide (bitU a 63=1#64)
theorem bit63 (a:BitVec 64):bitU a 63=b2 a.msb:=by
 have:(63:Int)=((63:Nat):Int):=rfl
 rw [this,bitU_n,BitVec.msb_eq_getLsbD_last]
theorem lessU_eq (a b:BitVec 64):lessU a b=decide (a.toInt < b.toInt):=by
 unfold lessU
 rw [bit63,bit63]
 have h1:=BitVec.toInt_eq_msb_cond a
 have h2:=BitVec.toInt_eq_msb_cond b
 have l1:=a.isLt
 have l2:=b.isLt
 cases ha:a.msb <;> cases hb:b.msb <;> rw [ha] at h1 <;> rw [hb] at h2 <;> simp only [Bool.false_eq_true,if_false,if_true] at h1 h2 <;> simp [b2,BitVec.lt_def] <;> omega
def s_rless (args:List AV):Option AV :=
 match args with
 | [.c (.u a),.c (.u b)]=>some (.c (.b (decide (a.toInt < b.toInt))))
 | _=>none
theorem s_rless_eq {a b}:s_rless [.c (.u a),.c (.u b)]=some (.c (.b (decide (a.toInt < b.toInt)))):=rfl
theorem ok_rless:PuOk Tryz.prog 80 s_rless:=by
 refine pu_ok (tab:=[(112,.pu s_bit)]) hmix (TabOk.cons (e:=.pu s_bit) ok_bit TabOk.nil) Tryz.func80 rfl Tryz.results80 Tryz.ntmps80 (by kernel_rfl) (by kernel_rfl) ?_
 intro args v h
 unfold s_rless at h
 split at h
 ·rename_i a b
  simp only [Option.some.injEq] at h;subst h
  refine ⟨by simp only [List.length_cons,List.length_nil];decide,rfl,rfl,?_⟩
  rw [←lessU_eq]
  by_cases h:bitU a 63=bitU b 63
  ·simp (maxSteps:=9^9) only [go_sem,seval,s_bit_eq,lessU,h]
  ·simp (maxSteps:=9^9) only [go_sem,seval,s_bit_eq,lessU,h]
 ·simp at h
def shG (how:Int) (w:BitVec 64) (f size:Nat) (i:Nat):Bool :=
 if how=1 then bitB w ((i:Int) - f) && decide ((i:Int) - f < size)
 else if i+f < size then w.getLsbD (i+f) else if how=3 then w.getLsbD (size - 1) else false
def farN (n:BitVec 64) (size:Nat):Nat:=if size=32 then n.toNat % 32 else n.toNat % 64
def refShU (how:Int) (w n:BitVec 64) (size:Nat):BitVec 64:=signU (ofG fun i=>decide (i < size) && shG how w (farN n size) size i) size
theorem ofW_n (g:Nat→Bool) (n:Nat) (hn:n≤64):ofW (lst g n) n=ofG fun i=>decide (i < n) && g i:=by
 refine ofG_ext fun i hi=>?_
 rw [ofW_bits g n n (Nat.le_refl _) i hi]
 simp
def s_rshift (args:List AV):Option AV :=
 match args with
 | [.c (.i how),.c (.u w),.c (.u n),.c (.i size)]=>if (how=1∨how=2∨how=3)∧(size=32∨size=64) then some (.c (.u (refShU how w n size.toNat))) else none
 | _=>none
theorem s_rshift_eq {how w n size}:s_rshift [.c (.i how),.c (.u w),.c (.u n),.c (.i size)]=if (how=1∨how=2∨how=3)∧(size=32∨size=64) then some (.c (.u (refShU how w n size.toNat))) else none:=rfl
theorem ok_rshift:PuOk Tryz.prog 115 s_rshift:=by
 refine pu_ok (tab:=[(113,.fq s_of),(112,.pu s_bit),(81,.pu s_rsign)]) hmix (TabOk.cons (e:=.fq s_of) ok_of (TabOk.cons (e:=.pu s_bit) ok_bit (TabOk.cons (e:=.pu s_rsign) ok_rsign TabOk.nil))) Tryz.func115 rfl Tryz.results115 Tryz.ntmps115 (by kernel_rfl) (by kernel_rfl) ?_
 intro args v h
 unfold s_rshift at h
 split at h
 ·rename_i how w n size
  split at h
  ·rename_i hc
   simp only [Option.some.injEq] at h;subst h
   refine ⟨by simp only [List.length_cons,List.length_nil];decide,rfl,rfl,?_⟩
   obtain ⟨hh,hz⟩:=hc
   obtain ⟨z,rfl⟩:∃z:Nat,size=z:=⟨size.toNat,by omega⟩
   have hz64:z≤64:=by omega
   have i0:inR (z:Int):=⟨by omega,by omega⟩
   have hw:((z:Int)).toNat=z:=by omega
   obtain ⟨f,hf,hfl⟩:∃f,farN n z=f∧f < z:=⟨_,rfl,by unfold farN;split <;> omega⟩
   have t1:(n % 64#64).toInt=((n.toNat % 64:Nat):Int):=by rw [BitVec.toInt_eq_toNat_cond];simp;omega
   have t2:(n % 32#64).toInt=((n.toNat % 32:Nat):Int):=by rw [BitVec.toInt_eq_toNat_cond];simp;omega
   have hcase:(((z:Int)=32)=True∧n.toNat % 32=f)∨(((z:Int)=32)=False∧n.toNat % 64=f):=by
    by_cases h:z=32
    ·exact .inl ⟨eq_true (by omega),by rw [←hf];unfold farN;rw [if_pos h]⟩
    ·exact .inr ⟨eq_false (by omega),by rw [←hf];unfold farN;rw [if_neg h]⟩
   rcases hcase with ⟨c,hf'⟩ | ⟨c,hf'⟩
   all_goals
    simp (maxSteps:=9^9) only [go_sem,seval,s_of_eq,s_bit_eq,s_rsign_eq,t1,t2,hf',c]
    rw [arun_loop]
    refine ⟨{k:Nat // k≤z},fun k=>([(0,.c (.i how)),(1,.c (.u w)),(3,.c (.i z)),(9,.c (.i f)),(10,.c (.sl 0 0 k.1 k.1)),(11,.c (.i k.1))],[.vec 1 (lst (shG how w f z) k.1)]),fun k=>z - k.1,⟨0,by omega⟩,?_,?_⟩
    ·exact Wk.trans (Wk.nil 10 1 (by decide) rfl (Nat.zero_le _)) (Wk.wk (Nat.zero_le _) (by simp [Am.get]) rfl ⟨.inr rfl,trivial⟩ rfl)
    ·rintro ⟨k,hk⟩
     by_cases hlt:k < z
     ·have e1:w64 ((k:Int)+1)=((k+1:Nat):Int):=by rw [w64_of (by omega)];omega
      have e2:((k:Int) < (z:Int))=True:=eq_true (by omega)
      have e3:w64 ((k:Int)+(f:Int))=((k+f:Nat):Int):=by rw [w64_of (by omega)];omega
      have e4:w64 ((k:Int) - (f:Int))=(k:Int) - (f:Int):=w64_of (by omega)
      have e5:(k+1) * 8≤1099511627776:=by omega
      have e6:w64 ((z:Int) - 1)=((z - 1:Nat):Int):=by rw [w64_of (by omega)];omega
      have e7:((z:Int)≤(k:Int) - (f:Int))=False:=eq_false (by omega)
      have e8:((k:Int) - (f:Int) < (z:Int))=True:=eq_true (by omega)
      have e9:(0≤((k+f:Nat):Int))=True:=eq_true (by omega)
      have e10:(0≤((z - 1:Nat):Int))=True:=eq_true (by omega)
      have e11:(((z - 1:Nat):Int) < (z:Int))=True:=eq_true (by omega)
      have hg:shG how w f z k=if how=1 then bitB w ((k:Int) - f) && decide ((k:Int) - f < z) else if k+f < z then w.getLsbD (k+f) else if how=3 then w.getLsbD (z - 1) else false:=rfl
      rcases hh with rfl | rfl | rfl
      ·by_cases hle:f≤k
       ·have d1:((0:Int)≤(k:Int) - (f:Int))=True:=eq_true (by omega)
        simp (maxSteps:=9^9) only [go_sem,seval,s_of_eq,s_bit_eq,s_rsign_eq,e1,e2,e3,e4,e5,e7,e8,d1,lst_len,bitU_B]
        exact ⟨⟨k+1,by omega⟩,by simp;omega,Wk.wk (Nat.zero_le _) (by simp [Am.get]) rfl ⟨.inr (by simp [lst_succ,hg,e8]),trivial⟩ (by simp [AObj.cells,AObj.scs,lst_bel])⟩
       ·have d1:((0:Int)≤(k:Int) - (f:Int))=False:=eq_false (by omega)
        have d2:bitB w ((k:Int) - (f:Int))=false:=bitB_out (by omega)
        simp (maxSteps:=9^9) only [go_sem,seval,s_of_eq,s_bit_eq,s_rsign_eq,e1,e2,e3,e4,e5,e7,e8,d1,lst_len]
        exact ⟨⟨k+1,by omega⟩,by simp;omega,Wk.wk (Nat.zero_le _) (by simp [Am.get]) rfl ⟨.inr (by simp [lst_succ,hg,d2,b2]),trivial⟩ (by simp [AObj.cells,AObj.scs,lst_bel])⟩
      ·by_cases hle:k+f < z
       ·have d1:((z:Int)≤((k+f:Nat):Int))=False:=eq_false (by omega)
        have d2:(((k+f:Nat):Int) < (z:Int))=True:=eq_true (by omega)
        simp (maxSteps:=9^9) only [go_sem,seval,s_of_eq,s_bit_eq,s_rsign_eq,e1,e2,e3,e5,e9,d1,d2,lst_len,bitU_n]
        exact ⟨⟨k+1,by omega⟩,by simp;omega,Wk.wk (Nat.zero_le _) (by simp [Am.get]) rfl ⟨.inr (by simp [lst_succ,hg,hle]),trivial⟩ (by simp [AObj.cells,AObj.scs,lst_bel])⟩
       ·have d1:((z:Int)≤((k+f:Nat):Int))=True:=eq_true (by omega)
        have d2:(((k+f:Nat):Int) < (z:Int))=False:=eq_false (by omega)
        simp (maxSteps:=9^9) only [go_sem,seval,s_of_eq,s_bit_eq,s_rsign_eq,e1,e2,e3,e5,e9,d1,d2,lst_len]
        exact ⟨⟨k+1,by omega⟩,by simp;omega,Wk.wk (Nat.zero_le _) (by simp [Am.get]) rfl ⟨.inr (by simp [lst_succ,hg,hle,b2]),trivial⟩ (by simp [AObj.cells,AObj.scs,lst_bel])⟩
      ·by_cases hle:k+f < z
       ·have d1:((z:Int)≤((k+f:Nat):Int))=False:=eq_false (by omega)
        have d2:(((k+f:Nat):Int) < (z:Int))=True:=eq_true (by omega)
        simp (maxSteps:=9^9) only [go_sem,seval,s_of_eq,s_bit_eq,s_rsign_eq,e1,e2,e3,e5,e9,d1,d2,lst_len,bitU_n]
        exact ⟨⟨k+1,by omega⟩,by simp;omega,Wk.wk (Nat.zero_le _) (by simp [Am.get]) rfl ⟨.inr (by simp [lst_succ,hg,hle]),trivial⟩ (by simp [AObj.cells,AObj.scs,lst_bel])⟩
       ·have d1:((z:Int)≤((k+f:Nat):Int))=True:=eq_true (by omega)
        simp (maxSteps:=9^9) only [go_sem,seval,s_of_eq,s_bit_eq,s_rsign_eq,e1,e2,e3,e5,e6,e10,e11,d1,lst_len,bitU_n]
        exact ⟨⟨k+1,by omega⟩,by simp;omega,Wk.wk (Nat.zero_le _) (by simp [Am.get]) rfl ⟨.inr (by simp [lst_succ,hg,hle]),trivial⟩ (by simp [AObj.cells,AObj.scs,lst_bel])⟩
     ·obtain rfl:k=z:=by omega
      have e2:((k:Int) < (k:Int))=False:=by simp
      have e6:(ofG fun i=>decide (i < k) && shG how w f k i)=(ofG fun i=>decide (i < k) && shG how w (farN n k) k i):=by rw [hf]
      have e7:signU (ofG fun i=>decide (i < k) && shG how w (farN n k) k i) (k:Int)=refShU how w n k:=rfl
      have e8:(k≤64)=True:=eq_true (by omega)
      simp (maxSteps:=9^9) only [go_sem,seval,s_of_eq,s_bit_eq,s_rsign_eq,e2,lst_len,lst_cells,ofW_n _ _ hz64,e6,e7,e8,i0,hw]
  ·simp at h
 ·simp at h
end
end Go.Proofs.YteclombpnhociaaGreat
set_option maxRecDepth 100000
set_option maxHeartbeats 8000000
namespace Go.Proofs.YteclombpnhociaaGreat
open Go.Am
set_option linter.unusedSimpArgs false
set_option linter.unusedVariables false
noncomputable section
def cellI:Sc→Int
 | .i x=>x
 | _=>0
def cellR:Sc→Bool
 | .i x=>decide (inR x)
 | _=>false
def gaU (w:BitVec 64) (l:List Sc):Nat→BitVec 64
 | 0=>0#64
 | k+1=>if cellI (l.getD (2 * k+1) .any) < 1 then gaU w l k else shiftU (gaU w l k) (min (cellI (l.getD (2 * k+1) .any)) 64) ||| cutU w (cellI (l.getD (2 * k) .any)) (cellI (l.getD (2 * k+1) .any))
theorem sign64 (w:BitVec 64):signU w (64:Nat)=w:=sign_all (by omega)
theorem sh_1 (w n:BitVec 64):refShU 1 w n 64=shiftU w (n.toNat % 64:Nat):=by
 rw [refShU,sign64]
 refine ofG_congr fun i hi=>?_
 have e:farN n 64=n.toNat % 64:=rfl
 rw [e];simp only [shG,if_true,hi,decide_true,Bool.true_and]
 have:decide ((i:Int) - ((n.toNat % 64:Nat):Int) < ((64:Nat):Int))=true:=decide_eq_true (by omega)
 rw [this,Bool.and_true]
theorem sh_2 (w n:BitVec 64):refShU 2 w n 64=shiftU w (-(n.toNat % 64:Nat)):=by
 rw [refShU,sign64]
 refine ofG_congr fun i hi=>?_
 have e:farN n 64=n.toNat % 64:=rfl
 rw [e];simp only [shG,hi,decide_true,Bool.true_and]
 have e2:(i:Int) - -((n.toNat % 64:Nat):Int)=((i+n.toNat % 64:Nat):Int):=by omega
 rw [e2,bitB_n]
 by_cases h:i+n.toNat % 64 < 64
 ·simp [h]
 ·rw [BitVec.getLsbD_of_ge _ _ (by omega)];simp [h]
theorem sh_3 (w n:BitVec 64):refShU 3 w n 64=sraU w (n.toNat % 64):=by
 rw [refShU,sign64]
 refine ofG_congr fun i hi=>?_
 have e:farN n 64=n.toNat % 64:=rfl
 rw [e];simp [shG,hi]
theorem sign_low {x y:BitVec 64} (h:∀i,i < 32→x.getLsbD i=y.getLsbD i):signU x 32=signU y 32:=by
 refine ofG_congr fun i hi=>?_
 have e:(32:Int) - 1=((31:Nat):Int):=rfl
 rw [e,bitB_n,bitB_n,h 31 (by omega)]
 by_cases h2:i < 32
 ·rw [h i h2]
 ·have:¬(i:Int) < 32:=by omega
  simp [this]
theorem sh_4 (w n:BitVec 64):refShU 1 w n 32=signU (shiftU w (n.toNat % 32:Nat)) 32:=by
 rw [refShU]
 refine sign_low fun i hi=>?_
 have e:farN n 32=n.toNat % 32:=rfl
 rw [shiftU,ofG_get (by omega),ofG_get (by omega),e]
 simp only [shG,if_true,hi,decide_true,Bool.true_and]
 have:decide ((i:Int) - ((n.toNat % 32:Nat):Int) < ((32:Nat):Int))=true:=decide_eq_true (by omega)
 rw [this,Bool.and_true]
theorem sh_5 (w n:BitVec 64):refShU 2 w n 32=signU (shiftU (lowU w 32) (-(n.toNat % 32:Nat))) 32:=by
 rw [refShU]
 refine sign_low fun i hi=>?_
 have e:farN n 32=n.toNat % 32:=rfl
 rw [shiftU,ofG_get (by omega),ofG_get (by omega),e]
 have e2:(i:Int) - -((n.toNat % 32:Nat):Int)=((i+n.toNat % 32:Nat):Int):=by omega
 rw [e2,bitB_n,lowU,ofG_get (by omega)]
 have e3:shG 2 w (n.toNat % 32) 32 i=if i+n.toNat % 32 < 32 then w.getLsbD (i+n.toNat % 32) else false:=by simp [shG]
 rw [e3,decide_eq_true hi,Bool.true_and]
 by_cases h:i+n.toNat % 32 < 32
 ·have h2:((i+n.toNat % 32:Nat):Int) < 32:=by omega
  rw [if_pos h,decide_eq_true h2,Bool.true_and]
 ·have h2:¬((i+n.toNat % 32:Nat):Int) < 32:=by omega
  rw [if_neg h,decide_eq_false h2,Bool.false_and]
theorem sh_6 (w n:BitVec 64):refShU 3 w n 32=sraU (signU w 32) (n.toNat % 32):=by
 rw [refShU]
 refine (ofG_ext fun i hi=>?_).symm
 have e:farN n 32=n.toNat % 32:=rfl
 have hf:n.toNat % 32 < 32:=by omega
 generalize n.toNat % 32=f at *
 rw [sraU,ofG_get hi,e]
 have e1:((32:Nat):Int) - 1=((31:Nat):Int):=rfl
 have e2:(32:Int) - 1=((31:Nat):Int):=rfl
 have sg:∀j,j < 64→(signU w 32).getLsbD j=if j < 32 then w.getLsbD j else w.getLsbD 31:=by
  intro j hj
  rw [signU,ofG_get hj,e2,bitB_n]
  by_cases h:j < 32
  ·have:(j:Int) < 32:=by omega
   simp [h,this]
  ·have:¬(j:Int) < 32:=by omega
   simp [h,this]
 have sh:∀j,j < 32→(ofG fun i=>decide (i < 32) && shG 3 w f 32 i).getLsbD j=if j+f < 32 then w.getLsbD (j+f) else w.getLsbD 31:=by
  intro j hj
  rw [ofG_get (by omega)];simp [shG,hj]
 have hlt:((i:Int) < ((32:Nat):Int))=(i < 32):=by simp;omega
 rw [e1,bitB_n,sh 31 (by omega)]
 have h1:decide ((1:Int)≤((32:Nat):Int))=true:=rfl
 have hL:(if i+f < 64 then (signU w 32).getLsbD (i+f) else (signU w 32).getLsbD 63)=if i+f < 32 then w.getLsbD (i+f) else w.getLsbD 31:=by
  by_cases h3:i+f < 64
  ·rw [if_pos h3,sg _ h3]
  ·rw [if_neg h3,sg 63 (by omega),if_neg (by omega),if_neg (by omega)]
 rw [hL,h1,Bool.true_and]
 by_cases hi2:i < 32
 ·have h2:(i:Int) < ((32:Nat):Int):=by omega
  rw [if_pos h2,sh i hi2]
 ·have h2:¬(i:Int) < ((32:Nat):Int):=by omega
  rw [if_neg h2,if_neg (by omega)]
  by_cases h3:31+f < 32
  ·rw [if_pos h3]
   have:f=0:=by omega
   subst this;rfl
  ·rw [if_neg h3]
end
end Go.Proofs.YteclombpnhociaaGreat
set_option maxRecDepth 100000
set_option maxHeartbeats 8000000
namespace Go.Proofs.YteclombpnhociaaGreat
open Go.Am
set_option linter.unusedSimpArgs false
set_option linter.unusedVariables false
noncomputable section
theorem lo32 (a:BitVec 64):(a &&& 4294967295#64).toNat=a.toNat % 4294967296:=by
 rw [BitVec.toNat_and];exact Nat.and_two_pow_sub_one_eq_mod a.toNat 32
theorem hi32 (a:BitVec 64):(a >>> 32).toNat=a.toNat / 4294967296:=by
 rw [BitVec.toNat_ushiftRight,Nat.shiftRight_eq_div_pow]
theorem mul_le32 {x y:Nat} (hx:x < 4294967296) (hy:y < 4294967296):x * y≤18446744065119617025:=by
 have:=Nat.mul_le_mul (show x≤4294967295 by omega) (show y≤4294967295 by omega)
 omega
theorem mulN {x y:BitVec 64} (hx:x.toNat < 4294967296) (hy:y.toNat < 4294967296):(x * y).toNat=x.toNat * y.toNat:=by
 rw [BitVec.toNat_mul,Nat.mod_eq_of_lt]
 have:=mul_le32 hx hy
 omega
theorem or_low (x y:BitVec 64):(x <<< 32 ||| (y &&& 4294967295#64)).toNat=(x.toNat * 4294967296) % 18446744073709551616+y.toNat % 4294967296:=by
 have h:(x <<< 32) &&& (y &&& 4294967295#64)=0#64:=by
  apply BitVec.eq_of_getLsbD_eq
  intro i hi
  have e:(4294967295#64).getLsbD i=decide (i < 32):=by
   have:4294967295#64=BitVec.ofNat 64 (2 ^ 32 - 1):=rfl
   rw [this,BitVec.getLsbD_ofNat,Nat.testBit_two_pow_sub_one];simp [hi]
  rw [BitVec.getLsbD_and,BitVec.getLsbD_and,BitVec.getLsbD_shiftLeft,e]
  by_cases h:i < 32
  ·simp [h]
  ·simp [h]
 rw [←BitVec.add_eq_or_of_and_eq_zero _ _ h,BitVec.toNat_add,lo32,BitVec.toNat_shiftLeft,Nat.shiftLeft_eq]
 omega
theorem times_nat (a b:BitVec 64):(timesHi a b).toNat * 18446744073709551616+(timesLo a b).toNat=a.toNat * b.toNat:=by
 have la:=a.isLt
 have lb:=b.isLt
 have ha:=hi32 a
 have hb:=hi32 b
 have ka:=lo32 a
 have kb:=lo32 b
 unfold timesHi timesLo
 generalize a >>> 32=ah at *
 generalize b >>> 32=bh at *
 generalize a &&& 4294967295#64=al at *
 generalize b &&& 4294967295#64=bl at *
 have ea:a.toNat=ah.toNat * 4294967296+al.toNat:=by omega
 have eb:b.toNat=bh.toNat * 4294967296+bl.toNat:=by omega
 have a1:ah.toNat < 4294967296:=by omega
 have a2:al.toNat < 4294967296:=by omega
 have b1:bh.toNat < 4294967296:=by omega
 have b2:bl.toNat < 4294967296:=by omega
 have pP:=mulN a1 b1
 have pQ:=mulN a1 b2
 have pR:=mulN a2 b1
 have pS:=mulN a2 b2
 have lP:=mul_le32 a1 b1
 have lQ:=mul_le32 a1 b2
 have lR:=mul_le32 a2 b1
 have lS:=mul_le32 a2 b2
 have hab:a.toNat * b.toNat=(ah.toNat * bh.toNat) * 18446744073709551616+(ah.toNat * bl.toNat) * 4294967296+(al.toNat * bh.toNat) * 4294967296+al.toNat * bl.toNat:=by
  rw [ea,eb,Nat.add_mul,Nat.mul_add,Nat.mul_add]
  have m1:ah.toNat * 4294967296 * (bh.toNat * 4294967296)=ah.toNat * bh.toNat * 18446744073709551616:=by
   rw [Nat.mul_mul_mul_comm]
  have m2:ah.toNat * 4294967296 * bl.toNat=ah.toNat * bl.toNat * 4294967296:=Nat.mul_right_comm ..
  have m3:al.toNat * (bh.toNat * 4294967296)=al.toNat * bh.toNat * 4294967296:=(Nat.mul_assoc ..).symm
  rw [m1,m2,m3];omega
 rw [hab]
 generalize ah.toNat * bh.toNat=P at *
 generalize ah.toNat * bl.toNat=Q at *
 generalize al.toNat * bh.toNat=R at *
 generalize al.toNat * bl.toNat=S at *
 generalize ah * bh=vP at *
 generalize ah * bl=vQ at *
 generalize al * bh=vR at *
 generalize al * bl=vS at *
 have eS:=hi32 vS
 have eM:(vQ+vS >>> 32).toNat=Q+S / 4294967296:=by rw [BitVec.toNat_add,eS];omega
 generalize vQ+vS >>> 32=vM at *
 have eMl:=lo32 vM
 have eMh:=hi32 vM
 have eO:(vR+(vM &&& 4294967295#64)).toNat=R+(Q+S / 4294967296) % 4294967296:=by rw [BitVec.toNat_add,eMl];omega
 generalize vR+(vM &&& 4294967295#64)=vO at *
 have eOh:=hi32 vO
 rw [or_low,BitVec.toNat_add,BitVec.toNat_add,eMh,eOh]
 omega
theorem sz_pos {a:BitVec 64} (h:¬a.toInt < 0):sizeU a=a:=if_neg h
theorem sz_neg {a:BitVec 64} (h:a.toInt < 0):(sizeU a).toNat=18446744073709551616 - a.toNat:=by
 unfold sizeU
 rw [if_pos h,BitVec.toNat_neg]
 have:=BitVec.toInt_eq_toNat_cond a
 have:=a.isLt
 have:a.toNat≠0:=by
  intro e
  have:a=0#64:=BitVec.eq_of_toNat_eq (by simpa using e)
  subst this;simp at h
 omega
theorem negHi_nat (h l:BitVec 64):(negHi h l).toNat=if l.toNat=0 then (18446744073709551616 - h.toNat) % 18446744073709551616 else 18446744073709551615 - h.toNat:=by
 have lh:=h.isLt
 have ll:=l.isLt
 unfold negHi carryU
 have e:(~~~l+1#64 < ~~~l) ↔ l.toNat=0:=by
  rw [BitVec.lt_def,BitVec.toNat_add,BitVec.toNat_not]
  simp only [BitVec.toNat_ofNat]
  omega
 by_cases h0:l.toNat=0
 ·rw [if_pos (e.2 h0),if_pos h0,BitVec.toNat_add,BitVec.toNat_add,BitVec.toNat_not]
  simp only [BitVec.toNat_ofNat]
  omega
 ·rw [if_neg (fun h=>h0 (e.1 h)),if_neg h0,BitVec.toNat_add,BitVec.toNat_add,BitVec.toNat_not]
  simp only [BitVec.toNat_ofNat]
  omega
def dropU (c:Prop) [Decidable c] (b:BitVec 64):BitVec 64:=if c then b else 0#64
theorem mixed_eq (a b:BitVec 64):highMixedU a b=timesHi a b - dropU (a.toInt < 0) b:=by
 unfold highMixedU dropU
 by_cases h:a.toInt < 0
 ·rw [if_pos h,if_pos h]
  have t1:=times_nat (sizeU a) b
  have t2:=times_nat a b
  have s:=sz_neg h
  have la:=a.isLt
  have lb:=b.isLt
  have hs:(sizeU a).toNat * b.toNat+a.toNat * b.toNat=18446744073709551616 * b.toNat:=by
   rw [←Nat.add_mul];congr 1;omega
  have n:=negHi_nat (timesHi (sizeU a) b) (timesLo (sizeU a) b)
  generalize (sizeU a).toNat * b.toNat=Y at *
  generalize a.toNat * b.toNat=X at *
  have l1:=(timesLo (sizeU a) b).isLt
  have l2:=(timesLo a b).isLt
  have l3:=(timesHi a b).isLt
  have l4:=(timesHi (sizeU a) b).isLt
  apply BitVec.eq_of_toNat_eq
  rw [n,BitVec.toNat_sub]
  generalize (timesLo (sizeU a) b).toNat=l at *
  generalize (timesLo a b).toNat=L at *
  generalize (timesHi a b).toNat=H at *
  generalize (timesHi (sizeU a) b).toNat=h' at *
  split <;> omega
 ·rw [if_neg h,if_neg h,sz_pos h]
  simp
theorem times_comm (a b:BitVec 64):timesHi a b=timesHi b a∧timesLo a b=timesLo b a:=by
 have t1:=times_nat a b
 have t2:=times_nat b a
 rw [Nat.mul_comm b.toNat a.toNat] at t2
 have l1:=(timesLo a b).isLt
 have l2:=(timesLo b a).isLt
 exact ⟨BitVec.eq_of_toNat_eq (by omega),BitVec.eq_of_toNat_eq (by omega)⟩
theorem high_eq (a b:BitVec 64):highU a b=timesHi a b - dropU (a.toInt < 0) b - dropU (b.toInt < 0) a:=by
 by_cases ha:a.toInt < 0
 ·by_cases hb:b.toInt < 0
  ·unfold highU dropU
   rw [if_pos (by simp [ha,hb]),if_pos ha,if_pos hb]
   have t1:=times_nat (sizeU a) (sizeU b)
   have t2:=times_nat a b
   have sa:=sz_neg ha
   have sb:=sz_neg hb
   have la:=a.isLt
   have lb:=b.isLt
   have hs:(sizeU a).toNat * (sizeU b).toNat+18446744073709551616 * a.toNat+18446744073709551616 * b.toNat=18446744073709551616 * 18446744073709551616+a.toNat * b.toNat:=by
    have e1:(sizeU a).toNat * (sizeU b).toNat+a.toNat * (sizeU b).toNat=18446744073709551616 * (sizeU b).toNat:=by rw [←Nat.add_mul];congr 1;omega
    have e2:a.toNat * (sizeU b).toNat+a.toNat * b.toNat=a.toNat * 18446744073709551616:=by rw [←Nat.mul_add];congr 1;omega
    generalize (sizeU a).toNat * (sizeU b).toNat=Y at *
    generalize a.toNat * (sizeU b).toNat=Z at *
    generalize a.toNat * b.toNat=X at *
    omega
   generalize (sizeU a).toNat * (sizeU b).toNat=Y at *
   generalize a.toNat * b.toNat=X at *
   have l1:=(timesLo (sizeU a) (sizeU b)).isLt
   have l2:=(timesLo a b).isLt
   have l3:=(timesHi a b).isLt
   have l4:=(timesHi (sizeU a) (sizeU b)).isLt
   apply BitVec.eq_of_toNat_eq
   rw [BitVec.toNat_sub,BitVec.toNat_sub]
   generalize (timesLo (sizeU a) (sizeU b)).toNat=l at *
   generalize (timesLo a b).toNat=L at *
   generalize (timesHi a b).toNat=H at *
   generalize (timesHi (sizeU a) (sizeU b)).toNat=h' at *
   omega
  ·have m:=mixed_eq a b
   unfold highU
   unfold highMixedU at m
   rw [if_pos ha] at m
   rw [if_neg (by simp [ha,hb]),sz_pos hb,m]
   unfold dropU
   rw [if_neg hb];simp
 ·by_cases hb:b.toInt < 0
  ·have m:=mixed_eq b a
   unfold highU
   unfold highMixedU at m
   rw [if_pos hb] at m
   rw [if_neg (by simp [ha,hb]),sz_pos ha,(times_comm a (sizeU b)).1,(times_comm a (sizeU b)).2,m,(times_comm b a).1]
   unfold dropU
   rw [if_neg ha];simp
  ·unfold highU dropU
   rw [if_pos (by simp [ha,hb]),if_neg ha,if_neg hb,sz_pos ha,sz_pos hb];simp
end
end Go.Proofs.YteclombpnhociaaGreat
set_option maxRecDepth 100000
set_option maxHeartbeats 8000000
namespace Go.Proofs.YteclombpnhociaaGreat
open Go.Am
set_option linter.unusedSimpArgs false
set_option linter.unusedVariables false
noncomputable section
def valL:List Nat→Nat
 | []=>0
 | d::r=>d+65536 * valL r
theorem valL_set:∀(l:List Nat) (i d:Nat),i < l.length→valL (l.set i d)+l.getD i 0 * 65536 ^ i=valL l+d * 65536 ^ i:=by
 intro l
 induction l with
 | nil=>intro i d h;simp at h
 | cons x r ih =>
   intro i d h
   cases i with
   | zero=>simp [valL];omega
   | succ i =>
     have:=ih i d (by simpa using h)
     have e1:∀y:Nat,y * 65536 ^ (i+1)=65536 * (y * 65536 ^ i):=by intro y;rw [Nat.pow_succ,←Nat.mul_assoc,Nat.mul_comm]
     simp only [List.set_cons_succ,List.getD_cons_succ,valL,e1]
     omega
def lc (l:List Nat):List Sc:=l.map fun d=>.u (BitVec.ofNat 64 d)
theorem lc_len {l:List Nat}:(lc l).length=l.length:=by simp [lc]
theorem lc_get {l:List Nat} {i:Nat} (h:i < l.length):(lc l).getD i .any=.u (BitVec.ofNat 64 (l.getD i 0)):=by simp [lc,List.getD_eq_getElem?_getD,h]
theorem lc_isU {l:List Nat}:(lc l).all isU=true:=by simp [lc,isU]
theorem lc_bel {l:List Nat} {n:Nat}:(lc l).all (Sc.bel n)=true:=by simp [lc,Sc.bel]
theorem lc_set {l:List Nat} {i d:Nat} (h:i < l.length):(lc l).take i++.u (BitVec.ofNat 64 d)::(lc l).drop (i+1)=lc (l.set i d):=by
 unfold lc
 rw [List.set_eq_take_append_cons_drop,if_pos h]
 simp [List.map_take,List.map_drop]
def dcell (w:BitVec 64):List Sc:=[.u (w % 65536#64),.u (w / 65536#64 % 65536#64),.u (w / 4294967296#64 % 65536#64),.u (w / 281474976710656#64)]
def dg (w:BitVec 64) (i:Nat):Nat:=w.toNat / 65536 ^ i % 65536
theorem dcell_get (w:BitVec 64) {i:Nat} (h:i < 4):(dcell w).getD i .any=.u (BitVec.ofNat 64 (dg w i)):=by
 have hw:=w.isLt
 rcases (by omega:i=0∨i=1∨i=2∨i=3) with rfl | rfl | rfl | rfl
 ·have:w % 65536#64=BitVec.ofNat 64 (dg w 0):=BitVec.eq_of_toNat_eq (by unfold dg;simp;omega)
  simp only [dcell,List.getD_cons_zero,this]
 ·have:w / 65536#64 % 65536#64=BitVec.ofNat 64 (dg w 1):=BitVec.eq_of_toNat_eq (by unfold dg;simp;omega)
  simp only [dcell,List.getD_cons_succ,List.getD_cons_zero,this]
 ·have:w / 4294967296#64 % 65536#64=BitVec.ofNat 64 (dg w 2):=BitVec.eq_of_toNat_eq (by unfold dg;simp;omega)
  simp only [dcell,List.getD_cons_succ,List.getD_cons_zero,this]
 ·have:w / 281474976710656#64=BitVec.ofNat 64 (dg w 3):=BitVec.eq_of_toNat_eq (by unfold dg;simp;omega)
  simp only [dcell,List.getD_cons_succ,List.getD_cons_zero,this]
theorem dg_lt (w:BitVec 64) (i:Nat):dg w i < 65536:=Nat.mod_lt _ (by omega)
theorem mod_succ (x i:Nat):x % 65536 ^ (i+1)=x % 65536 ^ i+x / 65536 ^ i % 65536 * 65536 ^ i:=by
 rw [Nat.pow_succ,Nat.mod_mul,Nat.mul_comm (65536 ^ i)]
def part (a b:BitVec 64) (i k:Nat):Nat:=a.toNat % 65536 ^ i * b.toNat+dg a i * 65536 ^ i * (b.toNat % 65536 ^ k)
theorem part_succ (a b:BitVec 64) (i k:Nat):part a b i (k+1)=part a b i k+dg a i * dg b k * 65536 ^ (i+k):=by
 unfold part
 rw [mod_succ b.toNat k,Nat.mul_add,Nat.add_assoc]
 congr 2
 rw [Nat.pow_add]
 show dg a i * 65536 ^ i * (dg b k * 65536 ^ k)=_
 rw [Nat.mul_mul_mul_comm]
theorem part_4 (a b:BitVec 64) (i:Nat):part a b i 4=part a b (i+1) 0:=by
 unfold part
 have hb:b.toNat % 65536 ^ 4=b.toNat:=Nat.mod_eq_of_lt b.isLt
 rw [hb,mod_succ a.toNat i,Nat.pow_zero,Nat.mod_one,Nat.mul_zero,Nat.add_zero,Nat.add_mul]
 rfl
theorem part_le (a b:BitVec 64) (i k:Nat) (hi:i < 4):part a b i k≤a.toNat * b.toNat:=by
 have h1:part a b i k≤(a.toNat % 65536 ^ (i+1)) * b.toNat:=by
  unfold part
  rw [mod_succ,Nat.add_mul]
  exact Nat.add_le_add_left (Nat.mul_le_mul_left _ (Nat.mod_le _ _)) _
 exact Nat.le_trans h1 (Nat.mul_le_mul_right _ (Nat.mod_le _ _))
structure Good (l:List Nat):Prop where
 len:l.length=8
 lt:∀j,l.getD j 0 < 65536
theorem Good.set {l:List Nat} (h:Good l) (i d:Nat) (hd:d < 65536):Good (l.set i d):=by
 refine ⟨by simp [h.len],fun j=>?_⟩
 have:=h.lt j
 rw [List.getD_eq_getElem?_getD] at this ⊢
 rw [List.getElem?_set]
 split
 ·split
  ·simpa using hd
  ·simp
 ·exact this
theorem w_lt {x:Nat} (h:x < 18446744073709551616):(BitVec.ofNat 64 x).toNat=x:=by rw [BitVec.toNat_ofNat];exact Nat.mod_eq_of_lt h
theorem words (l:List Nat) (h:Good l):(wv (lc l) 4 4).toNat * 18446744073709551616+(wv (lc l) 0 4).toNat=valL l:=by
 obtain ⟨hl,hlt⟩:=h
 match l,hl with
 | [d0,d1,d2,d3,d4,d5,d6,d7],_ =>
   have h0:=hlt 0;have h1:=hlt 1;have h2:=hlt 2;have h3:=hlt 3
   have h4:=hlt 4;have h5:=hlt 5;have h6:=hlt 6;have h7:=hlt 7
   simp only [List.getD_cons_zero,List.getD_cons_succ] at h0 h1 h2 h3 h4 h5 h6 h7
   simp only [wv,lc,List.map_cons,List.map_nil,uOf,List.getD_cons_zero,List.getD_cons_succ,Nat.reduceAdd,Nat.reduceSub,Nat.sub_zero,Nat.sub_self,Nat.add_zero,Nat.zero_add,BitVec.toNat_add,BitVec.toNat_mul,BitVec.toNat_ofNat,valL,Nat.reducePow,Nat.reduceMod,Nat.zero_mod,Nat.zero_mul]
   omega
def s_rtimes (args:List AV):Option AV :=
 match args with
 | [.c (.u a),.c (.u b)]=>some (.t [.c (.u (timesHi a b)),.c (.u (timesLo a b))])
 | _=>none
theorem s_rtimes_eq {a b}:s_rtimes [.c (.u a),.c (.u b)]=some (.t [.c (.u (timesHi a b)),.c (.u (timesLo a b))]):=rfl
theorem ok_rtimes:PuOk Tryz.prog 131 s_rtimes:=by
 refine pu_ok (tab:=[(138,.fp s_digits),(139,.fq s_word)]) hmix (TabOk.cons (e:=.fp s_digits) ok_digits (TabOk.cons (e:=.fq s_word) ok_word TabOk.nil)) Tryz.func131 rfl Tryz.results131 Tryz.ntmps131 (by kernel_rfl) (by kernel_rfl) ?_
 intro args v h
 unfold s_rtimes at h
 split at h
 ·rename_i a b
  simp only [Option.some.injEq] at h;subst h
  refine ⟨by simp only [List.length_cons,List.length_nil];decide,rfl,rfl,?_⟩
  have hd:∀w:BitVec 64,[.u (w % 65536#64),.u (w / 65536#64 % 65536#64),.u (w / 4294967296#64 % 65536#64),.u (w / 281474976710656#64)]=dcell w:=fun _=>rfl
  have l0:(List.replicate 8 (Sc.u 0#64))=lc [0,0,0,0,0,0,0,0]:=rfl
  have fin:∀l,Good l→valL l=part a b 4 0→wv (lc l) 4 4=timesHi a b∧wv (lc l) 0 4=timesLo a b:=by
   intro l hg hv
   have hw:=words l hg
   have ht:=times_nat a b
   have e:part a b 4 0=a.toNat * b.toNat:=by
    unfold part
    have ha:a.toNat % 65536 ^ 4=a.toNat:=Nat.mod_eq_of_lt a.isLt
    rw [ha,Nat.pow_zero,Nat.mod_one,Nat.mul_zero,Nat.add_zero]
   have l1:=(wv (lc l) 0 4).isLt
   have l2:=(timesLo a b).isLt
   rw [hv,e,←ht] at hw
   exact ⟨BitVec.eq_of_toNat_eq (by omega),BitVec.eq_of_toNat_eq (by omega)⟩
  have hab:a.toNat * b.toNat < 340282366920938463463374607431768211456:=by
   have:=Nat.mul_lt_mul'' a.isLt b.isLt
   omega
  simp (maxSteps:=9^9) only [go_sem,seval,s_digits_eq,s_word_eq]
  rw [arun_loop]
  refine ⟨{s:Nat × List Nat // s.1≤4∧Good s.2∧valL s.2=part a b s.1 0},fun s=>([(6,.c (.sl 0 0 4 4)),(7,.c (.sl 1 0 4 4)),(8,.c (.sl 2 0 8 8)),(9,.c (.i s.1.1))],[.vec 1 (dcell a),.vec 1 (dcell b),.vec 1 (lc s.1.2)]),fun s=>4 - s.1.1,⟨(0,[0,0,0,0,0,0,0,0]),by omega,⟨rfl,fun j=>by match j with | 0 | 1 | 2 | 3 | 4 | 5 | 6 | 7=>decide | j+8=>simp [List.getD_eq_getElem?_getD]⟩,by simp [valL,part,Nat.mod_one]⟩,?_,?_⟩
  ·exact Wk.wk (Nat.zero_le _) (by simp [Am.get]) rfl ⟨.inr rfl,.inr rfl,.inr rfl,trivial⟩ rfl
  ·rintro ⟨⟨i,l⟩,hi,hg,hv⟩
   simp only at hi hg hv
   by_cases hlt:i < 4
   ·have e1:w64 ((i:Int)+1)=((i+1:Nat):Int):=by rw [w64_of (by omega)];omega
    have e2:((i:Int) < 4)=True:=eq_true (by omega)
    have e3:(0≤(i:Int))=True:=eq_true (by omega)
    have e4:(i+1≤4)=True:=eq_true (by omega)
    have ga:=dcell_get a hlt
    simp (maxSteps:=9^9) only [go_sem,seval,s_digits_eq,s_word_eq,e2]
    rw [arun_loop]
    refine ⟨{s:Nat × List Nat // s.1≤4∧Good s.2∧valL s.2=part a b i s.1},fun s=>([(6,.c (.sl 0 0 4 4)),(7,.c (.sl 1 0 4 4)),(8,.c (.sl 2 0 8 8)),(9,.c (.i i)),(10,.c (.i s.1.1))],[.vec 1 (dcell a),.vec 1 (dcell b),.vec 1 (lc s.1.2)]),fun s=>4 - s.1.1,⟨(0,l),by omega,hg,hv⟩,?_,?_⟩
    ·exact Wk.wk (Nat.zero_le _) (by simp [Am.get]) rfl ⟨.inr rfl,.inr rfl,.inr rfl,trivial⟩ (by simp [AObj.cells,AObj.scs,lc_bel,dcell,Sc.bel])
    ·rintro ⟨⟨k,l⟩,hk,hg,hv⟩
     simp only at hk hg hv
     by_cases hlk:k < 4
     ·have k1:w64 ((k:Int)+1)=((k+1:Nat):Int):=by rw [w64_of (by omega)];omega
      have k2:((k:Int) < 4)=True:=eq_true (by omega)
      have k3:(0≤(k:Int))=True:=eq_true (by omega)
      have k4:(k+1≤4)=True:=eq_true (by omega)
      have k5:w64 ((i:Int)+(k:Int))=((i+k:Nat):Int):=by rw [w64_of (by omega)];omega
      have gb:=dcell_get b hlk
      have da:(dcell a).length=4:=rfl
      have db:(dcell b).length=4:=rfl
      have hx:=dg_lt a i
      have hy:=dg_lt b k
      have hxy:dg a i * dg b k≤4294836225:=by
       have:=Nat.mul_le_mul (show dg a i≤65535 by omega) (show dg b k≤65535 by omega)
       omega
      have hm:BitVec.ofNat 64 (dg a i) * BitVec.ofNat 64 (dg b k)=BitVec.ofNat 64 (dg a i * dg b k):=by
       apply BitVec.eq_of_toNat_eq
       rw [BitVec.toNat_mul,w_lt (by omega),w_lt (by omega),w_lt (by omega)]
       omega
      have hps:=part_succ a b i k
      have hle:=part_le a b i (k+1) hlt
      simp (maxSteps:=9^9) only [go_sem,seval,s_digits_eq,s_word_eq,e2,k2,k3,k4,k5,e3,e4,da,db,ga,gb,hm]
      rw [arun_loop]
      refine ⟨{s:Nat × Nat × List Nat // s.2.1≤8∧Good s.2.2∧s.1 < 8589934592∧valL s.2.2+s.1 * 65536 ^ s.2.1=part a b i (k+1)},fun s=>([(6,.c (.sl 0 0 4 4)),(7,.c (.sl 1 0 4 4)),(8,.c (.sl 2 0 8 8)),(9,.c (.i i)),(10,.c (.i k)),(11,.c (.u (BitVec.ofNat 64 s.1.1))),(12,.c (.i s.1.2.1))],[.vec 1 (dcell a),.vec 1 (dcell b),.vec 1 (lc s.1.2.2)]),fun s=>8 - s.1.2.1,⟨(dg a i * dg b k,i+k,l),by simp only;omega,hg,by simp only;omega,by simp only;omega⟩,?_,?_⟩
      ·exact Wk.wk (Nat.zero_le _) (by simp [Am.get]) rfl ⟨.inr rfl,.inr rfl,.inr rfl,trivial⟩ (by simp [AObj.cells,AObj.scs,lc_bel,dcell,Sc.bel])
      ·rintro ⟨⟨n,at',l⟩,hat,hg,hn,hv⟩
       simp only at hat hg hn hv
       have w8:(lc l).length=8:=by rw [lc_len,hg.len]
       by_cases hn0:0 < n
       ·have n1:(0#64 < BitVec.ofNat 64 n)=True:=eq_true (by rw [BitVec.lt_def,w_lt (x:=n) (by omega)];exact hn0)
        by_cases ha8:at' < 8
        ·have c1:((at':Int) < 8)=True:=eq_true (by omega)
         have c2:(0≤(at':Int))=True:=eq_true (by omega)
         have c3:(at'+1≤8)=True:=eq_true (by omega)
         have c4:w64 ((at':Int)+1)=((at'+1:Nat):Int):=by rw [w64_of (by omega)];omega
         have gl:=lc_get (l:=l) (i:=at') (by rw [hg.len];exact ha8)
         have hlt2:=hg.lt at'
         have s1:BitVec.ofNat 64 n+BitVec.ofNat 64 (l.getD at' 0)=BitVec.ofNat 64 (n+l.getD at' 0):=(BitVec.ofNat_add ..).symm
         have s2:BitVec.ofNat 64 (n+l.getD at' 0) % 65536#64=BitVec.ofNat 64 ((n+l.getD at' 0) % 65536):=by
          apply BitVec.eq_of_toNat_eq
          rw [BitVec.toNat_umod,w_lt (x:=n+l.getD at' 0) (by omega),w_lt (x:=(n+l.getD at' 0) % 65536) (by omega)];rfl
         have s3:BitVec.ofNat 64 (n+l.getD at' 0) / 65536#64=BitVec.ofNat 64 ((n+l.getD at' 0) / 65536):=by
          apply BitVec.eq_of_toNat_eq
          rw [BitVec.toNat_udiv,w_lt (x:=n+l.getD at' 0) (by omega),w_lt (x:=(n+l.getD at' 0) / 65536) (by omega)];rfl
         have hset:=lc_set (l:=l) (i:=at') (d:=(n+l.getD at' 0) % 65536) (by rw [hg.len];exact ha8)
         have hvs:=valL_set l at' ((n+l.getD at' 0) % 65536) (by rw [hg.len];exact ha8)
         have hpw:(n+l.getD at' 0) / 65536 * 65536 ^ (at'+1)+(n+l.getD at' 0) % 65536 * 65536 ^ at'=n * 65536 ^ at'+l.getD at' 0 * 65536 ^ at':=by
          have e6:(n+l.getD at' 0) / 65536 * 65536 ^ (at'+1)=(n+l.getD at' 0) / 65536 * 65536 * 65536 ^ at':=by
           rw [Nat.pow_succ,Nat.mul_comm (65536 ^ at'),Nat.mul_assoc]
          rw [e6,←Nat.add_mul,←Nat.add_mul]
          congr 1;omega
         simp (maxSteps:=9^9) only [go_sem,seval,s_digits_eq,s_word_eq,n1,c1,c2,c3,c4,w8,gl,s1,s2,s3]
         rw [hset]
         refine ⟨⟨((n+l.getD at' 0) / 65536,at'+1,l.set at' ((n+l.getD at' 0) % 65536)),by simp only;omega,hg.set _ _ (by omega),by simp only;omega,by simp only;omega⟩,by simp only;omega,?_⟩
         exact Wk.wk (Nat.zero_le _) (by simp [Am.get]) rfl ⟨.inr rfl,.inr rfl,.inr rfl,trivial⟩ (by simp [AObj.cells,AObj.scs,lc_bel,dcell,Sc.bel])
        ·exfalso
         obtain rfl:at'=8:=by omega
         have:(65536:Nat) ^ 8=340282366920938463463374607431768211456:=by decide
         rw [this] at hv
         omega
       ·obtain rfl:n=0:=by omega
        have n1:(0#64 < BitVec.ofNat 64 0)=False:=eq_false (by simp)
        have n2:(0#64 < 0#64)=False:=eq_false (by simp)
        simp (maxSteps:=9^9) only [go_sem,seval,s_digits_eq,s_word_eq,n1,n2,k1]
        refine ⟨⟨(k+1,l),by simp only;omega,hg,by simp only;omega⟩,by simp only;omega,?_⟩
        exact Wk.wk (Nat.zero_le _) (by simp [Am.get]) rfl ⟨.inr rfl,.inr rfl,.inr rfl,trivial⟩ (by simp [AObj.cells,AObj.scs,lc_bel,dcell,Sc.bel])
     ·obtain rfl:k=4:=by omega
      have k2:((4:Int) < 4)=False:=by simp
      have hp:=part_4 a b i
      simp (maxSteps:=9^9) only [go_sem,seval,s_digits_eq,s_word_eq,k2,e1]
      refine ⟨⟨(i+1,l),by simp only;omega,hg,by rw [hv,hp]⟩,by simp only;omega,?_⟩
      exact Wk.wk (Nat.zero_le _) (by simp [Am.get]) rfl ⟨.inr rfl,.inr rfl,.inr rfl,trivial⟩ (by simp [AObj.cells,AObj.scs,lc_bel,dcell,Sc.bel])
   ·obtain rfl:i=4:=by omega
    have e2:((4:Int) < 4)=False:=by simp
    obtain ⟨f1,f2⟩:=fin l hg hv
    have w8:(lc l).length=8:=by rw [lc_len,hg.len]
    simp (maxSteps:=9^9) only [go_sem,seval,s_digits_eq,s_word_eq,e2,w8,lc_isU,f1,f2]
 ·simp at h
theorem bel_neg (a:BitVec 64):belowU a=decide (a.toInt < 0):=below_neg
def rhighU (a b:BitVec 64) (s:Int):BitVec 64:=timesHi a b - dropU (0 < s∧a.toInt < 0) b - dropU (1 < s∧b.toInt < 0) a
def s_rhigh (args:List AV):Option AV :=
 match args with
 | [.c (.u a),.c (.u b),.c (.i s)]=>some (.c (.u (rhighU a b s)))
 | _=>none
theorem s_rhigh_eq {a b s}:s_rhigh [.c (.u a),.c (.u b),.c (.i s)]=some (.c (.u (rhighU a b s))):=rfl
theorem ok_rhigh:PuOk Tryz.prog 132 s_rhigh:=by
 refine pu_ok (tab:=[(131,.pu s_rtimes),(140,.pu s_below)]) hmix (TabOk.cons (e:=.pu s_rtimes) ok_rtimes (TabOk.cons (e:=.pu s_below) ok_below TabOk.nil)) Tryz.func132 rfl Tryz.results132 Tryz.ntmps132 (by kernel_rfl) (by kernel_rfl) ?_
 intro args v h
 unfold s_rhigh at h
 split at h
 ·rename_i a b s
  simp only [Option.some.injEq] at h;subst h
  refine ⟨by simp only [List.length_cons,List.length_nil];decide,rfl,rfl,?_⟩
  have z:∀x:BitVec 64,x - 0#64=x:=fun x=>BitVec.sub_zero x
  by_cases h1:0 < s
  all_goals by_cases h2:1 < s
  all_goals by_cases ha:a.toInt < 0
  all_goals by_cases hb:b.toInt < 0
  all_goals try (exfalso;omega)
  all_goals simp (maxSteps:=9^9) only [go_sem,seval,s_rtimes_eq,s_below_eq,rhighU,dropU,bel_neg,h1,h2,ha,hb,z]
 ·simp at h
end
end Go.Proofs.YteclombpnhociaaGreat
set_option maxRecDepth 100000
set_option maxHeartbeats 8000000
namespace Go.Proofs.YteclombpnhociaaGreat
open Go.Am
set_option linter.unusedSimpArgs false
set_option linter.unusedVariables false
noncomputable section
def nmB:List (List UInt8):=[
 [],
 [108,117,105],
 [97,117,105,112,99],
 [106,97,108],
 [106,97,108,114],
 [98,101,113],
 [98,110,101],
 [98,108,116],
 [98,103,101],
 [98,108,116,117],
 [98,103,101,117],
 [108,98],
 [108,104],
 [108,119],
 [108,100],
 [108,98,117],
 [108,104,117],
 [108,119,117],
 [115,98],
 [115,104],
 [115,119],
 [115,100],
 [97,100,100,105],
 [115,108,116,105],
 [115,108,116,105,117],
 [120,111,114,105],
 [111,114,105],
 [97,110,100,105],
 [115,108,108,105],
 [115,114,108,105],
 [115,114,97,105],
 [97,100,100],
 [115,117,98],
 [115,108,108],
 [115,108,116],
 [115,108,116,117],
 [120,111,114],
 [115,114,108],
 [115,114,97],
 [111,114],
 [97,110,100],
 [97,100,100,105,119],
 [115,108,108,105,119],
 [115,114,108,105,119],
 [115,114,97,105,119],
 [97,100,100,119],
 [115,117,98,119],
 [115,108,108,119],
 [115,114,108,119],
 [115,114,97,119],
 [102,101,110,99,101],
 [102,101,110,99,101,46,105],
 [101,99,97,108,108],
 [101,98,114,101,97,107],
 [109,117,108],
 [109,117,108,104],
 [109,117,108,104,115,117],
 [109,117,108,104,117],
 [100,105,118],
 [100,105,118,117],
 [114,101,109],
 [114,101,109,117],
 [109,117,108,119],
 [100,105,118,119],
 [100,105,118,117,119],
 [114,101,109,119],
 [114,101,109,117,119],
 [108,114,46,119],
 [115,99,46,119],
 [97,109,111,115,119,97,112,46,119],
 [97,109,111,97,100,100,46,119],
 [97,109,111,120,111,114,46,119],
 [97,109,111,97,110,100,46,119],
 [97,109,111,111,114,46,119],
 [97,109,111,109,105,110,46,119],
 [97,109,111,109,97,120,46,119],
 [97,109,111,109,105,110,117,46,119],
 [97,109,111,109,97,120,117,46,119],
 [108,114,46,100],
 [115,99,46,100],
 [97,109,111,115,119,97,112,46,100],
 [97,109,111,97,100,100,46,100],
 [97,109,111,120,111,114,46,100],
 [97,109,111,97,110,100,46,100],
 [97,109,111,111,114,46,100],
 [97,109,111,109,105,110,46,100],
 [97,109,111,109,97,120,46,100],
 [97,109,111,109,105,110,117,46,100],
 [97,109,111,109,97,120,117,46,100],
 [99,115,114,114,119],
 [99,115,114,114,115],
 [99,115,114,114,99],
 [99,115,114,114,119,105],
 [99,115,114,114,115,105],
 [99,115,114,114,99,105],
 [109,114,101,116],
 [115,114,101,116],
 [119,102,105],
 [115,102,101,110,99,101,46,118,109,97]]
def nm (k:Nat):ByteArray:=⟨(nmB.getD k []).toArray⟩
def nmL:List Sc:=nmB.map fun l=>.s ⟨l.toArray⟩
theorem nmB_len:nmB.length=99:=rfl
theorem nmL_len:nmL.length=99:=rfl
theorem nmL_get {k:Nat} (h:k < 99):nmL.getD k .any=.s (nm k):=by
 unfold nmL nm
 rw [List.getD_eq_getElem?_getD,List.getElem?_map,List.getD_eq_getElem?_getD,List.getElem?_eq_getElem (by rw [nmB_len];exact h)]
 rfl
def wiB (op a b:Int):Bool:=decide (a≤op) && decide (op≤b)
def s_within (args:List AV):Option AV :=
 match args with
 | [.c (.i op),.c (.i a),.c (.i b)]=>some (.c (.b (wiB op a b)))
 | _=>none
theorem s_within_eq {op a b}:s_within [.c (.i op),.c (.i a),.c (.i b)]=some (.c (.b (wiB op a b))):=rfl
theorem ok_within:PuOk Tryz.prog 128 s_within:=by
 refine pu_ok (tab:=[]) hmix TabOk.nil Tryz.func128 rfl Tryz.results128 Tryz.ntmps128 (by kernel_rfl) (by kernel_rfl) ?_
 intro args v h
 unfold s_within at h
 split at h
 ·rename_i op a b
  simp only [Option.some.injEq] at h;subst h
  refine ⟨by simp only [List.length_cons,List.length_nil];decide,rfl,rfl,?_⟩
  by_cases h1:a≤op
  all_goals (repeat (first | simp (maxSteps:=9^9) only [go_sem,seval,wiB,h1] | simp (disch:=omega) only [w64_d,ipos,ineg,dpos,dneg]))
 ·simp at h
def classI (op:Int):Int :=
 if wiB op 1 2=true then 2 else if wiB op 3 4=true then 3 else if wiB op 5 10=true then 4 else if wiB op 11 17=true then 5 else if wiB op 18 21=true then 6 else
 if wiB op 22 49=true then 1 else if wiB op 54 66=true then 1 else if wiB op 50 51=true then 9 else if wiB op 67 88=true then 7 else if wiB op 89 94=true then 8 else if wiB op 52 53=true then 10 else if wiB op 95 98=true then 10 else 0
def s_class (args:List AV):Option AV :=
 match args with
 | [.c (.i op)]=>some (.c (.i (classI op)))
 | _=>none
theorem s_class_eq {op}:s_class [.c (.i op)]=some (.c (.i (classI op))):=rfl
theorem ok_class:PuOk Tryz.prog 106 s_class:=by
 refine pu_ok (tab:=[(128,.pu s_within)]) hmix (TabOk.cons (e:=.pu s_within) ok_within TabOk.nil) Tryz.func106 rfl Tryz.results106 Tryz.ntmps106 (by kernel_rfl) (by kernel_rfl) ?_
 intro args v h
 unfold s_class at h
 split at h
 ·rename_i op
  simp only [Option.some.injEq] at h;subst h
  refine ⟨by simp only [List.length_cons,List.length_nil];decide,rfl,rfl,?_⟩
  (repeat (first | simp (maxSteps:=9^9) only [go_sem,seval,s_within_eq] | simp (disch:=omega) only [w64_d,ipos,ineg,dpos,dneg]))
  repeat' (first
   | (refine cnd_by (fun h=>?_) (fun h=>?_) <;> (try simp only [decide_eq_true_eq,decide_eq_false_iff_not,Bool.not_eq_true',Bool.not_eq_false',Bool.not_eq_true,Bool.not_eq_false,Bool.and_eq_true,beq_iff_eq,beq_eq_false_iff_ne,ne_eq,Bool.or_eq_true] at h) <;> ((repeat (first | simp (maxSteps:=9^9) only [go_sem,seval,s_within_eq,h] | simp (disch:=omega) only [w64_d,ipos,ineg,dpos,dneg]))))
   | (refine grd_by (fun h=>?_) (fun h=>?_) <;> (try simp only [decide_eq_true_eq,decide_eq_false_iff_not,Bool.not_eq_true',Bool.not_eq_false',Bool.not_eq_true,Bool.not_eq_false,Bool.and_eq_true,beq_iff_eq,beq_eq_false_iff_ne,ne_eq,Bool.or_eq_true] at h) <;> ((repeat (first | simp (maxSteps:=9^9) only [go_sem,seval,s_within_eq,h] | simp (disch:=omega) only [w64_d,ipos,ineg,dpos,dneg]))))
   | (refine grdd_by (fun h=>?_) (fun h=>?_) <;> (try simp only [decide_eq_true_eq,decide_eq_false_iff_not,Bool.not_eq_true',Bool.not_eq_false',Bool.not_eq_true,Bool.not_eq_false,Bool.and_eq_true,beq_iff_eq,beq_eq_false_iff_ne,ne_eq,Bool.or_eq_true] at h) <;> ((repeat (first | simp (maxSteps:=9^9) only [go_sem,seval,s_within_eq,h] | simp (disch:=omega) only [w64_d,ipos,ineg,dpos,dneg])))))
  all_goals simp only [classI, *,if_true,if_false,Bool.false_eq_true]
 ·simp at h
def s_names (args:List AV) (H:AH):Option (AV × AH) :=
 match args with
 | []=>some (.c (.sl H.length 0 99 99),H++[.vec 1 nmL])
 | _=>none
theorem s_names_eq {H:AH}:s_names [] H=some (.c (.sl H.length 0 99 99),H++[.vec 1 nmL]):=rfl
theorem len_names (args:List AV) (H:AH) (v:AV) (H1:AH) (h:s_names args H=some (v,H1)):H.length≤H1.length:=by
 unfold s_names at h
 split at h
 ·simp only [Option.some.injEq,Prod.mk.injEq] at h;rw [←h.2];simp
 ·simp at h
theorem nmL_bel (n:Nat):nmL.all (Sc.bel n)=true:=by simp [nmL,nmB,Sc.bel]
theorem ok_names:FpOk Tryz.prog 109 s_names:=by
 refine fp_ok (s:=s_names) (tab:=[]) hmix TabOk.nil Tryz.func109 rfl Tryz.results109 Tryz.ntmps109 (by kernel_rfl) (by kernel_rfl) len_names ?_
 intro args H v H1 h hargs hH
 unfold s_names at h
 split at h
 ·simp only [Option.some.injEq,Prod.mk.injEq] at h
  obtain ⟨rfl,rfl⟩:=h
  refine ⟨by decide,?_⟩
  (repeat (first | simp (maxSteps:=9^9) only [go_sem,seval] | simp (disch:=omega) only [w64_d,ipos,ineg,dpos,dneg]))
  refine nxt_of (v:=.c (.sl H.length 0 99 99)) (H':=H++[.vec 1 nmL]) (by kernel_rfl) ?_
  (repeat (first | simp (maxSteps:=9^9) only [go_sem,seval] | simp (disch:=omega) only [w64_d,ipos,ineg,dpos,dneg]))
  refine ⟨_,rfl,Wk.wk (by simp) (by simp [Am.get]) (by simp [AV.bel,Sc.bel]) (subH_refl _) ?_⟩
  exact belH_app hH (by simp only [List.mem_singleton,forall_eq];exact nmL_bel _)
 ·simp at h
def endsB (a b:ByteArray):Bool:=decide (b.size≤a.size) && decide (a.extract (a.size - b.size) a.size=b)
def s_ends (args:List AV):Option AV :=
 match args with
 | [.c (.s a),.c (.s b)]=>if a.size≤9223372036854775807∧b.size≤9223372036854775807 then some (.c (.b (endsB a b))) else none
 | _=>none
theorem s_ends_eq {a b}:s_ends [.c (.s a),.c (.s b)]=if a.size≤9223372036854775807∧b.size≤9223372036854775807 then some (.c (.b (endsB a b))) else none:=rfl
theorem ok_ends:PuOk Tryz.prog 110 s_ends:=by
 refine pu_ok (tab:=[]) hmix TabOk.nil Tryz.func110 rfl Tryz.results110 Tryz.ntmps110 (by kernel_rfl) (by kernel_rfl) ?_
 intro args v h
 unfold s_ends at h
 split at h
 ·rename_i a b
  split at h
  ·rename_i hc
   simp only [Option.some.injEq] at h;subst h
   refine ⟨by simp only [List.length_cons,List.length_nil];decide,rfl,rfl,?_⟩
   by_cases h1:b.size≤a.size
   ·have e:(((a.size:Int) - (b.size:Int)).toNat)=a.size - b.size:=by omega
    have e2:((b.size:Int)≤(a.size:Int))=True:=eq_true (by omega)
    (repeat (first | simp (maxSteps:=9^9) only [go_sem,seval,endsB,h1,e,e2] | simp (disch:=omega) only [w64_d,ipos,ineg,dpos,dneg]))
   ·have e2:((b.size:Int)≤(a.size:Int))=False:=eq_false (by omega)
    (repeat (first | simp (maxSteps:=9^9) only [go_sem,seval,endsB,h1,e2] | simp (disch:=omega) only [w64_d,ipos,ineg,dpos,dneg]))
  ·simp at h
 ·simp at h
def classS (s:ByteArray) (op:Int):Int :=
 if s=(⟨#[108,117,105]⟩:ByteArray) then 2 else
 if s=(⟨#[97,117,105,112,99]⟩:ByteArray) then 2 else
 if s=(⟨#[106,97,108]⟩:ByteArray) then 3 else
 if s=(⟨#[106,97,108,114]⟩:ByteArray) then 3 else
 if op < 11 then 4 else
 if s=(⟨#[102,101,110,99,101]⟩:ByteArray) then 9 else
 if s=(⟨#[102,101,110,99,101,46,105]⟩:ByteArray) then 9 else
 if s=(⟨#[101,99,97,108,108]⟩:ByteArray) then 10 else
 if s=(⟨#[101,98,114,101,97,107]⟩:ByteArray) then 10 else
 if s=(⟨#[109,114,101,116]⟩:ByteArray) then 10 else
 if s=(⟨#[115,114,101,116]⟩:ByteArray) then 10 else
 if s=(⟨#[119,102,105]⟩:ByteArray) then 10 else
 if s=(⟨#[115,102,101,110,99,101,46,118,109,97]⟩:ByteArray) then 10 else
 if endsB s (⟨#[46,119]⟩:ByteArray)=true then 7 else if endsB s (⟨#[46,100]⟩:ByteArray)=true then 7 else
 if 3 < (s.size:Int)∧s.extract 0 3=(⟨#[99,115,114]⟩:ByteArray) then 8 else
 if (s.size:Int)≤3∧((s.data.getD 0 0).toNat:Int)=108 then 5 else
 if s=(⟨#[115,98]⟩:ByteArray) then 6 else
 if s=(⟨#[115,104]⟩:ByteArray) then 6 else
 if s=(⟨#[115,119]⟩:ByteArray) then 6 else
 if s=(⟨#[115,100]⟩:ByteArray) then 6 else 1
theorem classS_I:∀k,k < 99→1≤k→classS (nm k) k=classI k:=by decide +kernel
theorem nm_size:∀k,k < 99→1≤k→1≤(nm k).size∧(nm k).size≤100:=by decide +kernel
theorem class_out {op:Int} (h:op < 1∨98 < op):classI op=0:=by
 simp only [classI,wiB,Bool.and_eq_true,decide_eq_true_eq]
 repeat rw [if_neg (by omega)]
def s_rclass (args:List AV):Option AV :=
 match args with
 | [.c (.i op)]=>some (.c (.i (classI op)))
 | _=>none
theorem s_rclass_eq {op}:s_rclass [.c (.i op)]=some (.c (.i (classI op))):=rfl
theorem ok_rclass:PuOk Tryz.prog 108 s_rclass:=by
 refine pu_ok (tab:=[(109,.fp s_names),(110,.pu s_ends)]) hmix (TabOk.cons (e:=.fp s_names) ok_names (TabOk.cons (e:=.pu s_ends) ok_ends TabOk.nil)) Tryz.func108 rfl Tryz.results108 Tryz.ntmps108 (by kernel_rfl) (by kernel_rfl) ?_
 intro args v h
 unfold s_rclass at h
 split at h
 ·rename_i op
  simp only [Option.some.injEq] at h;subst h
  refine ⟨by simp only [List.length_cons,List.length_nil];decide,rfl,rfl,?_⟩
  by_cases h1:op < 1
  ·(repeat (first | simp (maxSteps:=9^9) only [go_sem,seval,s_names_eq,s_ends_eq,h1,class_out (.inl h1)] | simp (disch:=omega) only [w64_d,ipos,ineg,dpos,dneg]))
  by_cases h2:98 < op
  ·(repeat (first | simp (maxSteps:=9^9) only [go_sem,seval,s_names_eq,s_ends_eq,h1,h2,class_out (.inr h2)] | simp (disch:=omega) only [w64_d,ipos,ineg,dpos,dneg]))
  obtain ⟨k,rfl⟩:=Int.eq_ofNat_of_zero_le (by omega:0≤op)
  rw [←classS_I k (by omega) (by omega)]
  have g:=nmL_get (k:=k) (by omega)
  obtain ⟨z1,z2⟩:=nm_size k (by omega) (by omega)
  generalize nm k=s at *
  (repeat (first | simp (maxSteps:=9^9) only [go_sem,seval,s_names_eq,s_ends_eq,h1,h2,nmL_len,g] | simp (disch:=omega) only [w64_d,ipos,ineg,dpos,dneg]))
  repeat' (first
   | (refine cnd_by (fun h=>?_) (fun h=>?_) <;> (try simp only [decide_eq_true_eq,decide_eq_false_iff_not,Bool.not_eq_true',Bool.not_eq_false',Bool.not_eq_true,Bool.not_eq_false,Bool.and_eq_true,beq_iff_eq,beq_eq_false_iff_ne,ne_eq,Bool.or_eq_true] at h) <;> ((repeat (first | simp (maxSteps:=9^9) only [go_sem,seval,s_names_eq,s_ends_eq,nmL_len,g,h] | simp (disch:=omega) only [w64_d,ipos,ineg,dpos,dneg]))))
   | (refine grd_by (fun h=>?_) (fun h=>?_) <;> (try simp only [decide_eq_true_eq,decide_eq_false_iff_not,Bool.not_eq_true',Bool.not_eq_false',Bool.not_eq_true,Bool.not_eq_false,Bool.and_eq_true,beq_iff_eq,beq_eq_false_iff_ne,ne_eq,Bool.or_eq_true] at h) <;> ((repeat (first | simp (maxSteps:=9^9) only [go_sem,seval,s_names_eq,s_ends_eq,nmL_len,g,h] | simp (disch:=omega) only [w64_d,ipos,ineg,dpos,dneg]))))
   | (refine grdd_by (fun h=>?_) (fun h=>?_) <;> (try simp only [decide_eq_true_eq,decide_eq_false_iff_not,Bool.not_eq_true',Bool.not_eq_false',Bool.not_eq_true,Bool.not_eq_false,Bool.and_eq_true,beq_iff_eq,beq_eq_false_iff_ne,ne_eq,Bool.or_eq_true] at h) <;> ((repeat (first | simp (maxSteps:=9^9) only [go_sem,seval,s_names_eq,s_ends_eq,nmL_len,g,h] | simp (disch:=omega) only [w64_d,ipos,ineg,dpos,dneg])))))
  all_goals first | (simp only [classS, *,if_true,if_false,and_true,true_and,and_false,false_and,Bool.false_eq_true];done) | (simp [classS, *];done) | (simp [classS, *];decide +kernel) | (have hx:¬3 < (s.size:Int):=(by omega);simp only [classS, *,if_true,if_false,and_true,true_and,and_false,false_and,Bool.false_eq_true];done) | (have hx:¬(s.size:Int)≤3:=(by omega);simp only [classS, *,if_true,if_false,and_true,true_and,and_false,false_and,Bool.false_eq_true];done) | (have hx:(s.size:Int)≤3:=(by omega);simp only [classS, *,if_true,if_false,and_true,true_and,and_false,false_and,Bool.false_eq_true];done)
 ·simp at h
end
end Go.Proofs.YteclombpnhociaaGreat
set_option maxRecDepth 100000
set_option maxHeartbeats 8000000
namespace Go.Proofs.YteclombpnhociaaGreat
open Go.Am
set_option linter.unusedSimpArgs false
set_option linter.unusedVariables false
noncomputable section
def sizeI (op:Int):Int :=
 if wiB op 67 77=true then 4 else if wiB op 78 88=true then 8 else
 if op=11 then 1 else if op=12 then 2 else if op=13 then 4 else if op=14 then 8 else if op=15 then 1 else if op=16 then 2 else if op=17 then 4 else
 if op=18 then 1 else if op=19 then 2 else if op=20 then 4 else if op=21 then 8 else 0
def sizeS (c:Int) (s:ByteArray):Int :=
 if c=7 then (if endsB s (⟨#[46,119]⟩:ByteArray)=true then 4 else 8) else
 if ((s.data.getD 1 0).toNat:Int)=98 then 1 else if ((s.data.getD 1 0).toNat:Int)=104 then 2 else if ((s.data.getD 1 0).toNat:Int)=119 then 4 else 8
theorem sizeS_I:∀k:Nat,k < 99→(classI k=5∨classI k=6∨classI k=7)→sizeS (classI k) (nm k)=sizeI k∧2≤(nm k).size∧(nm k).size≤100:=by decide +kernel
theorem class_in {op:Int} (h:classI op≠0):1≤op∧op≤98:=by
 by_cases h0:1≤op∧op≤98
 ·exact h0
 ·exact (h (class_out (by omega))).elim
theorem size_0 {op:Int} (h:¬(classI op=5∨classI op=6∨classI op=7)):sizeI op=0:=by
 by_cases h0:1≤op∧op≤98
 ·obtain ⟨k,rfl⟩:=Int.eq_ofNat_of_zero_le (by omega:0≤op)
  have:∀k:Nat,k < 99→¬(classI k=5∨classI k=6∨classI k=7)→sizeI k=0:=by decide +kernel
  exact this k (by omega) h
 ·simp only [sizeI,wiB,Bool.and_eq_true,decide_eq_true_eq]
  repeat rw [if_neg (by omega)]
def s_rksize (args:List AV):Option AV :=
 match args with
 | [.c (.i op)]=>some (.c (.i (sizeI op)))
 | _=>none
theorem s_rksize_eq {op}:s_rksize [.c (.i op)]=some (.c (.i (sizeI op))):=rfl
theorem ok_rksize:PuOk Tryz.prog 78 s_rksize:=by
 refine pu_ok (tab:=[(108,.pu s_rclass),(109,.fp s_names),(110,.pu s_ends)]) hmix (TabOk.cons (e:=.pu s_rclass) ok_rclass (TabOk.cons (e:=.fp s_names) ok_names (TabOk.cons (e:=.pu s_ends) ok_ends TabOk.nil))) Tryz.func78 rfl Tryz.results78 Tryz.ntmps78 (by kernel_rfl) (by kernel_rfl) ?_
 intro args v h
 unfold s_rksize at h
 split at h
 ·rename_i op
  simp only [Option.some.injEq] at h;subst h
  refine ⟨by simp only [List.length_cons,List.length_nil];decide,rfl,rfl,?_⟩
  by_cases h:classI op=5∨classI op=6∨classI op=7
  ·have hin:=class_in (op:=op) (by omega)
   obtain ⟨k,rfl⟩:=Int.eq_ofNat_of_zero_le (by omega:0≤op)
   obtain ⟨e,z1,z2⟩:=sizeS_I k (by omega) h
   have g:=nmL_get (k:=k) (by omega)
   rw [←e]
   have i1:(nm k).size≤9223372036854775807:=by omega
   generalize nm k=s at *
   rcases h with h | h | h
   all_goals (repeat (first | simp (maxSteps:=9^9) only [go_sem,seval,s_rclass_eq,s_names_eq,s_ends_eq,nmL_len,g,i1,h] | simp (disch:=omega) only [w64_d,ipos,ineg,dpos,dneg]))
   all_goals simp only [sizeS,if_true,show ¬((5:Int)=7) by decide,show ¬((6:Int)=7) by decide,if_false]
   repeat' (first
    | (refine cnd_by (fun h=>?_) (fun h=>?_) <;> (try simp only [decide_eq_true_eq,decide_eq_false_iff_not,Bool.not_eq_true',Bool.not_eq_false',Bool.not_eq_true,Bool.not_eq_false,Bool.and_eq_true,beq_iff_eq,beq_eq_false_iff_ne,ne_eq,Bool.or_eq_true] at h) <;> ((repeat (first | simp (maxSteps:=9^9) only [go_sem,seval,s_rclass_eq,s_names_eq,s_ends_eq,nmL_len,g,i1,h] | simp (disch:=omega) only [w64_d,ipos,ineg,dpos,dneg]))))
    | (refine grd_by (fun h=>?_) (fun h=>?_) <;> (try simp only [decide_eq_true_eq,decide_eq_false_iff_not,Bool.not_eq_true',Bool.not_eq_false',Bool.not_eq_true,Bool.not_eq_false,Bool.and_eq_true,beq_iff_eq,beq_eq_false_iff_ne,ne_eq,Bool.or_eq_true] at h) <;> ((repeat (first | simp (maxSteps:=9^9) only [go_sem,seval,s_rclass_eq,s_names_eq,s_ends_eq,nmL_len,g,i1,h] | simp (disch:=omega) only [w64_d,ipos,ineg,dpos,dneg]))))
    | (refine grdd_by (fun h=>?_) (fun h=>?_) <;> (try simp only [decide_eq_true_eq,decide_eq_false_iff_not,Bool.not_eq_true',Bool.not_eq_false',Bool.not_eq_true,Bool.not_eq_false,Bool.and_eq_true,beq_iff_eq,beq_eq_false_iff_ne,ne_eq,Bool.or_eq_true] at h) <;> ((repeat (first | simp (maxSteps:=9^9) only [go_sem,seval,s_rclass_eq,s_names_eq,s_ends_eq,nmL_len,g,i1,h] | simp (disch:=omega) only [w64_d,ipos,ineg,dpos,dneg])))))
   all_goals simp only [*,if_true,if_false]
  ·have h5:¬classI op=5:=fun e=>h (.inl e)
   have h6:¬classI op=6:=fun e=>h (.inr (.inl e))
   have h7:¬classI op=7:=fun e=>h (.inr (.inr e))
   (repeat (first | simp (maxSteps:=9^9) only [go_sem,seval,s_rclass_eq,s_names_eq,s_ends_eq,h5,h6,h7,size_0 h] | simp (disch:=omega) only [w64_d,ipos,ineg,dpos,dneg]))
 ·simp at h
end
end Go.Proofs.YteclombpnhociaaGreat
set_option maxRecDepth 100000
set_option maxHeartbeats 8000000
namespace Go.Proofs.YteclombpnhociaaGreat
open Go.Am
set_option linter.unusedSimpArgs false
set_option linter.unusedVariables false
noncomputable section
def aluV (c:Int) (a b:BitVec 64):BitVec 64 :=
 if c=31 then a+b else
 if c=32 then a - b else
 if c=33 then shiftU a (b.toNat % 64:Nat) else
 if c=34 then b2 (decide (a.toInt < b.toInt)) else
 if c=35 then b2 (decide (a < b)) else
 if c=36 then a ^^^ b else
 if c=37 then shiftU a (-(b.toNat % 64:Nat)) else
 if c=38 then sraU a (b.toNat % 64) else
 if c=39 then a ||| b else
 if c=40 then a &&& b else
 if c=45 then signU (a+b) 32 else
 if c=46 then signU (a - b) 32 else
 if c=47 then signU (shiftU a (b.toNat % 32:Nat)) 32 else
 if c=48 then signU (shiftU (lowU a 32) (-(b.toNat % 32:Nat))) 32 else
 if c=49 then sraU (signU a 32) (b.toNat % 32) else
 if c=54 then a * b else
 if c=55 then highU a b else
 if c=56 then highMixedU a b else
 if c=57 then timesHi a b else
 if c=58 then divS a b else
 if c=59 then divU a b else
 if c=60 then a - b * divS a b else
 if c=61 then a - b * divU a b else
 if c=62 then signU (signU a 32 * signU b 32) 32 else
 if c=63 then signU (divS (signU a 32) (signU b 32)) 32 else
 if c=64 then signU (divU (lowU a 32) (lowU b 32)) 32 else
 if c=65 then signU (signU a 32 - signU b 32 * divS (signU a 32) (signU b 32)) 32 else
 if c=66 then signU (lowU a 32 - lowU b 32 * divU (lowU a 32) (lowU b 32)) 32 else 0#64
def canI (c:Int):Int :=
 if c=22 then 31 else
 if c=23 then 34 else
 if c=24 then 35 else
 if c=25 then 36 else
 if c=26 then 39 else
 if c=27 then 40 else
 if c=28 then 33 else
 if c=29 then 37 else
 if c=30 then 38 else
 if c=41 then 45 else
 if c=42 then 47 else
 if c=43 then 48 else
 if c=44 then 49 else c
theorem class_1 {op:Int}:(classI op=1)=((22≤op∧op≤49)∨(54≤op∧op≤66)):=by
 apply propext
 simp only [classI,wiB,Bool.and_eq_true,decide_eq_true_eq]
 repeat' split
 all_goals omega
def adoU (op:Int) (a b:BitVec 64):BitVec 64:=if classI op=1 then aluV (canI op) a b else 0#64
end
end Go.Proofs.YteclombpnhociaaGreat
set_option maxRecDepth 100000
set_option maxHeartbeats 8000000
namespace Go.Proofs.YteclombpnhociaaGreat
open Go.Am
set_option linter.unusedSimpArgs false
set_option linter.unusedVariables false
noncomputable section
def s_one7 (args:List AV):Option AV :=
 match args with
 | [.c (.b q)]=>some (.c (.u (b2 q)))
 | _=>none
theorem s_one7_eq {q}:s_one7 [.c (.b q)]=some (.c (.u (b2 q))):=rfl
theorem ok_one7:PuOk Tryz.prog 116 s_one7:=by
 refine pu_ok (tab:=[]) hmix TabOk.nil Tryz.func116 rfl Tryz.results116 Tryz.ntmps116 (by kernel_rfl) (by kernel_rfl) ?_
 intro args v h
 unfold s_one7 at h
 split at h
 ·rename_i q
  simp only [Option.some.injEq] at h;subst h
  refine ⟨by simp only [List.length_cons,List.length_nil];decide,rfl,rfl,?_⟩
  cases q
  all_goals (repeat (first | simp (maxSteps:=9^9) only [go_sem,seval,b2] | simp (disch:=omega) only [w64_d,ipos,ineg,dpos,dneg]))
 ·simp at h
def lgB (a b mn mx:BitVec 64) (i:Nat):Bool:=decide (mn≤b2 (a.getLsbD i)+b2 (b.getLsbD i)) && decide (b2 (a.getLsbD i)+b2 (b.getLsbD i)≤mx)
def s_logic (args:List AV):Option AV :=
 match args with
 | [.c (.u a),.c (.u b),.c (.u mn),.c (.u mx)]=>some (.c (.u (ofG (lgB a b mn mx))))
 | _=>none
theorem s_logic_eq {a b mn mx}:s_logic [.c (.u a),.c (.u b),.c (.u mn),.c (.u mx)]=some (.c (.u (ofG (lgB a b mn mx)))):=rfl
theorem ok_logic:PuOk Tryz.prog 117 s_logic:=by
 refine pu_ok (tab:=[(112,.pu s_bit),(116,.pu s_one7),(113,.fq s_of)]) hmix (TabOk.cons (e:=.pu s_bit) ok_bit (TabOk.cons (e:=.pu s_one7) ok_one7 (TabOk.cons (e:=.fq s_of) ok_of TabOk.nil))) Tryz.func117 rfl Tryz.results117 Tryz.ntmps117 (by kernel_rfl) (by kernel_rfl) ?_
 intro args v h
 unfold s_logic at h
 split at h
 ·rename_i a b mn mx
  simp only [Option.some.injEq] at h;subst h
  refine ⟨by simp only [List.length_cons,List.length_nil];decide,rfl,rfl,?_⟩
  simp (maxSteps:=9^9) only [go_sem,seval,s_bit_eq,s_one7_eq,s_of_eq]
  refine arun_for 64 (fun k=>([(0,.c (.u a)),(1,.c (.u b)),(2,.c (.u mn)),(3,.c (.u mx)),(9,.c (.sl 0 0 k k)),(10,.c (.i k))],[.vec 1 (lst (lgB a b mn mx) k)])) ?_ fun k hk=>?_
  ·exact Wk.trans (Wk.nil 9 1 (by decide) rfl (Nat.zero_le _)) (Wk.wk (Nat.zero_le _) (by simp [Am.get]) rfl ⟨.inr rfl,trivial⟩ rfl)
  ·by_cases hlt:k < 64
   ·have e1:w64 ((k:Int)+1)=((k+1:Nat):Int):=by rw [w64_of (by omega)];omega
    have e5:(k+1) * 8≤1099511627776:=by omega
    have hg:lgB a b mn mx k=(decide (mn≤b2 (a.getLsbD k)+b2 (b.getLsbD k)) && decide (b2 (a.getLsbD k)+b2 (b.getLsbD k)≤mx)):=rfl
    by_cases h1:mn≤b2 (a.getLsbD k)+b2 (b.getLsbD k)
    all_goals (repeat (first | simp (maxSteps:=9^9) only [go_sem,seval,s_bit_eq,s_one7_eq,s_of_eq,bitU_n,e1,e5,lst_len,h1] | simp (disch:=omega) only [w64_d,ipos,ineg,dpos,dneg]))
    all_goals exact ⟨k+1,by omega,by omega,Wk.wk (Nat.zero_le _) (by simp [Am.get]) rfl ⟨.inr (by simp [lst_succ,hg,h1]),trivial⟩ (by simp [AObj.cells,AObj.scs,lst_bel])⟩
   ·obtain rfl:k=64:=by omega
    (repeat (first | simp (maxSteps:=9^9) only [go_sem,seval,s_bit_eq,s_one7_eq,s_of_eq,lst_len,lst_cells,ofW_eq] | simp (disch:=omega) only [w64_d,ipos,ineg,dpos,dneg]))
 ·simp at h
theorem lg_xor (a b:BitVec 64):ofG (lgB a b 1#64 1#64)=a ^^^ b:=by
 refine (ofG_ext fun i hi=>?_).symm
 rw [BitVec.getLsbD_xor];unfold lgB b2
 cases a.getLsbD i <;> cases b.getLsbD i <;> decide
theorem lg_or (a b:BitVec 64):ofG (lgB a b 1#64 2#64)=a ||| b:=by
 refine (ofG_ext fun i hi=>?_).symm
 rw [BitVec.getLsbD_or];unfold lgB b2
 cases a.getLsbD i <;> cases b.getLsbD i <;> decide
theorem lg_and (a b:BitVec 64):ofG (lgB a b 2#64 2#64)=a &&& b:=by
 refine (ofG_ext fun i hi=>?_).symm
 rw [BitVec.getLsbD_and];unfold lgB b2
 cases a.getLsbD i <;> cases b.getLsbD i <;> decide
theorem lo_eq (a b:BitVec 64):timesLo a b=a * b:=by
 have t:=times_nat a b
 apply BitVec.eq_of_toNat_eq
 have l:=(timesLo a b).isLt
 rw [BitVec.toNat_mul,←t]
 omega
theorem rh_0 (a b:BitVec 64):rhighU a b 0=timesHi a b:=by simp [rhighU,dropU]
theorem rh_1 (a b:BitVec 64):rhighU a b 1=highMixedU a b:=by rw [mixed_eq];simp [rhighU,dropU]
theorem rh_2 (a b:BitVec 64):rhighU a b 2=highU a b:=by rw [high_eq];simp [rhighU,dropU]
theorem ofF_t (a:BitVec 64):ofF true a=lowU a 32:=rfl
theorem ofF_f (a:BitVec 64):ofF false a=signU a 32:=rfl
def codeP (s:ByteArray):Int :=
 if s=(⟨#[109,117,108]⟩:ByteArray) then 54 else
 if s=(⟨#[109,117,108,104]⟩:ByteArray) then 55 else
 if s=(⟨#[109,117,108,104,115,117]⟩:ByteArray) then 56 else
 if s=(⟨#[109,117,108,104,117]⟩:ByteArray) then 57 else
 if s=(⟨#[100,105,118]⟩:ByteArray) then 58 else
 if s=(⟨#[100,105,118,117]⟩:ByteArray) then 59 else
 if s=(⟨#[114,101,109]⟩:ByteArray) then 60 else
 if s=(⟨#[114,101,109,117]⟩:ByteArray) then 61 else
 if s=(⟨#[109,117,108,119]⟩:ByteArray) then 62 else
 if s=(⟨#[100,105,118,119]⟩:ByteArray) then 63 else
 if s=(⟨#[100,105,118,117,119]⟩:ByteArray) then 64 else
 if s=(⟨#[114,101,109,119]⟩:ByteArray) then 65 else 66
def codeS (s:ByteArray):Int :=
 if s=(⟨#[97,100,100]⟩:ByteArray) then 31 else
 if s=(⟨#[115,117,98]⟩:ByteArray) then 32 else
 if s=(⟨#[115,108,108]⟩:ByteArray) then 33 else
 if s=(⟨#[115,114,108]⟩:ByteArray) then 37 else
 if s=(⟨#[115,114,97]⟩:ByteArray) then 38 else
 if s=(⟨#[115,108,116]⟩:ByteArray) then 34 else
 if s=(⟨#[115,108,116,117]⟩:ByteArray) then 35 else
 if s=(⟨#[120,111,114]⟩:ByteArray) then 36 else
 if s=(⟨#[111,114]⟩:ByteArray) then 39 else
 if s=(⟨#[97,110,100]⟩:ByteArray) then 40 else
 if s=(⟨#[97,100,100,119]⟩:ByteArray) then 45 else
 if s=(⟨#[115,117,98,119]⟩:ByteArray) then 46 else
 if s=(⟨#[115,108,108,119]⟩:ByteArray) then 47 else
 if s=(⟨#[115,114,108,119]⟩:ByteArray) then 48 else
 if s=(⟨#[115,114,97,119]⟩:ByteArray) then 49 else codeP s
def nameS (s:ByteArray):ByteArray :=
 if s=(⟨#[97,100,100,105]⟩:ByteArray) then s.extract 0 (s.size - 1) else
 if s=(⟨#[115,108,116,105]⟩:ByteArray) then s.extract 0 (s.size - 1) else
 if s=(⟨#[120,111,114,105]⟩:ByteArray) then s.extract 0 (s.size - 1) else
 if s=(⟨#[111,114,105]⟩:ByteArray) then s.extract 0 (s.size - 1) else
 if s=(⟨#[97,110,100,105]⟩:ByteArray) then s.extract 0 (s.size - 1) else
 if s=(⟨#[115,108,108,105]⟩:ByteArray) then s.extract 0 (s.size - 1) else
 if s=(⟨#[115,114,108,105]⟩:ByteArray) then s.extract 0 (s.size - 1) else
 if s=(⟨#[115,114,97,105]⟩:ByteArray) then s.extract 0 (s.size - 1) else
 if s=(⟨#[115,108,116,105,117]⟩:ByteArray) then (⟨#[115,108,116,117]⟩:ByteArray) else
 if s=(⟨#[97,100,100,105,119]⟩:ByteArray) then s.extract 0 (s.size - 2)++(⟨#[119]⟩:ByteArray) else
 if s=(⟨#[115,108,108,105,119]⟩:ByteArray) then s.extract 0 (s.size - 2)++(⟨#[119]⟩:ByteArray) else
 if s=(⟨#[115,114,108,105,119]⟩:ByteArray) then s.extract 0 (s.size - 2)++(⟨#[119]⟩:ByteArray) else
 if s=(⟨#[115,114,97,105,119]⟩:ByteArray) then s.extract 0 (s.size - 2)++(⟨#[119]⟩:ByteArray) else s
def nameA (op:Int):ByteArray:=if classI op=1 then nameS (nm op.toNat) else ⟨#[]⟩
theorem nameS_size:∀k,k < 99→(nm k).size≤100∧(classI k=1→1≤(nm k).size∧(nameS (nm k)).size≤100∧¬nameS (nm k)=⟨#[]⟩∧codeS (nameS (nm k))=canI k):=by decide +kernel
def s_name7 (args:List AV):Option AV :=
 match args with
 | [.c (.i op)]=>some (.c (.s (nameA op)))
 | _=>none
theorem s_name7_eq {op}:s_name7 [.c (.i op)]=some (.c (.s (nameA op))):=rfl
theorem ok_name7:PuOk Tryz.prog 114 s_name7:=by
 refine pu_ok (tab:=[(108,.pu s_rclass),(109,.fp s_names)]) hmix (TabOk.cons (e:=.pu s_rclass) ok_rclass (TabOk.cons (e:=.fp s_names) ok_names TabOk.nil)) Tryz.func114 rfl Tryz.results114 Tryz.ntmps114 (by kernel_rfl) (by kernel_rfl) ?_
 intro args v h
 unfold s_name7 at h
 split at h
 ·rename_i op
  simp only [Option.some.injEq] at h;subst h
  refine ⟨by simp only [List.length_cons,List.length_nil];decide,rfl,rfl,?_⟩
  by_cases h:classI op=1
  ·have h':=h
   rw [class_1] at h
   have e:nameA op=nameS (nm op.toNat):=by unfold nameA;rw [if_pos h']
   rw [e]
   obtain ⟨k,rfl⟩:=Int.eq_ofNat_of_zero_le (by omega:0≤op)
   have g:=nmL_get (k:=k) (by omega)
   obtain ⟨z1,z2⟩:=nm_size k (by omega) (by omega)
   rw [Int.toNat_natCast]
   generalize nm k=s at *
   (repeat (first | simp (maxSteps:=9^9) only [go_sem,seval,s_rclass_eq,s_names_eq,h',nmL_len,g] | simp (disch:=omega) only [w64_d,ipos,ineg,dpos,dneg]))
   repeat' (first
    | (refine cnd_by (fun h=>?_) (fun h=>?_) <;> (try simp only [decide_eq_true_eq,decide_eq_false_iff_not,Bool.not_eq_true',Bool.not_eq_false',Bool.not_eq_true,Bool.not_eq_false,Bool.and_eq_true,beq_iff_eq,beq_eq_false_iff_ne,ne_eq,Bool.or_eq_true] at h) <;> ((repeat (first | simp (maxSteps:=9^9) only [go_sem,seval,s_rclass_eq,s_names_eq,ByteArray.size_extract,h] | simp (disch:=omega) only [w64_d,ipos,ineg,dpos,dneg]))))
    | (refine grd_by (fun h=>?_) (fun h=>?_) <;> (try simp only [decide_eq_true_eq,decide_eq_false_iff_not,Bool.not_eq_true',Bool.not_eq_false',Bool.not_eq_true,Bool.not_eq_false,Bool.and_eq_true,beq_iff_eq,beq_eq_false_iff_ne,ne_eq,Bool.or_eq_true] at h) <;> ((repeat (first | simp (maxSteps:=9^9) only [go_sem,seval,s_rclass_eq,s_names_eq,ByteArray.size_extract,h] | simp (disch:=omega) only [w64_d,ipos,ineg,dpos,dneg]))))
    | (refine grdd_by (fun h=>?_) (fun h=>?_) <;> (try simp only [decide_eq_true_eq,decide_eq_false_iff_not,Bool.not_eq_true',Bool.not_eq_false',Bool.not_eq_true,Bool.not_eq_false,Bool.and_eq_true,beq_iff_eq,beq_eq_false_iff_ne,ne_eq,Bool.or_eq_true] at h) <;> ((repeat (first | simp (maxSteps:=9^9) only [go_sem,seval,s_rclass_eq,s_names_eq,ByteArray.size_extract,h] | simp (disch:=omega) only [w64_d,ipos,ineg,dpos,dneg])))))
   all_goals first | (simp [nameS, *];done) | (simp [nameS, *];rfl)
  ·have e:nameA op=⟨#[]⟩:=by unfold nameA;rw [if_neg h]
   (repeat (first | simp (maxSteps:=9^9) only [go_sem,seval,s_rclass_eq,s_names_eq,h,e] | simp (disch:=omega) only [w64_d,ipos,ineg,dpos,dneg]))
 ·simp at h
def s_product7 (args:List AV):Option AV :=
 match args with
 | [.c (.s s),.c (.u a),.c (.u b)]=>some (.c (.u (aluV (codeP s) a b)))
 | _=>none
theorem s_product7_eq {s a b}:s_product7 [.c (.s s),.c (.u a),.c (.u b)]=some (.c (.u (aluV (codeP s) a b))):=rfl
theorem ok_product7:PuOk Tryz.prog 118 s_product7:=by
 refine pu_ok (tab:=[(130,.pu s_rhalf),(131,.pu s_rtimes),(132,.pu s_rhigh),(133,.pu s_refDiv),(134,.pu s_refRem),(81,.pu s_rsign)]) hmix (TabOk.cons (e:=.pu s_rhalf) ok_rhalf (TabOk.cons (e:=.pu s_rtimes) ok_rtimes (TabOk.cons (e:=.pu s_rhigh) ok_rhigh (TabOk.cons (e:=.pu s_refDiv) ok_refDiv (TabOk.cons (e:=.pu s_refRem) ok_refRem (TabOk.cons (e:=.pu s_rsign) ok_rsign TabOk.nil)))))) Tryz.func118 rfl Tryz.results118 Tryz.ntmps118 (by kernel_rfl) (by kernel_rfl) ?_
 intro args v h
 unfold s_product7 at h
 split at h
 ·rename_i s a b
  simp only [Option.some.injEq] at h;subst h
  refine ⟨by simp only [List.length_cons,List.length_nil];decide,rfl,rfl,?_⟩
  have i1:inR 32:=⟨by omega,by omega⟩
  (repeat (first | simp (maxSteps:=9^9) only [go_sem,seval,s_rhalf_eq,s_rtimes_eq,s_rhigh_eq,s_refDiv_eq,s_refRem_eq,s_rsign_eq,ofF_t,ofF_f] | simp (disch:=omega) only [w64_d,ipos,ineg,dpos,dneg]))
  repeat' (first
   | (refine cnd_by (fun h=>?_) (fun h=>?_) <;> (try simp only [decide_eq_true_eq,decide_eq_false_iff_not,Bool.not_eq_true',Bool.not_eq_false',Bool.not_eq_true,Bool.not_eq_false,Bool.and_eq_true,beq_iff_eq,beq_eq_false_iff_ne,ne_eq,Bool.or_eq_true] at h) <;> ((repeat (first | simp (maxSteps:=9^9) only [go_sem,seval,s_rhalf_eq,s_rtimes_eq,s_rhigh_eq,s_refDiv_eq,s_refRem_eq,s_rsign_eq,ofF_t,ofF_f,lo_eq,rh_0,rh_1,rh_2,i1,←divS_ref,←divU_ref,←remS_ref,←remU_ref,h] | simp (disch:=omega) only [w64_d,ipos,ineg,dpos,dneg]))))
   | (refine grd_by (fun h=>?_) (fun h=>?_) <;> (try simp only [decide_eq_true_eq,decide_eq_false_iff_not,Bool.not_eq_true',Bool.not_eq_false',Bool.not_eq_true,Bool.not_eq_false,Bool.and_eq_true,beq_iff_eq,beq_eq_false_iff_ne,ne_eq,Bool.or_eq_true] at h) <;> ((repeat (first | simp (maxSteps:=9^9) only [go_sem,seval,s_rhalf_eq,s_rtimes_eq,s_rhigh_eq,s_refDiv_eq,s_refRem_eq,s_rsign_eq,ofF_t,ofF_f,lo_eq,rh_0,rh_1,rh_2,i1,←divS_ref,←divU_ref,←remS_ref,←remU_ref,h] | simp (disch:=omega) only [w64_d,ipos,ineg,dpos,dneg]))))
   | (refine grdd_by (fun h=>?_) (fun h=>?_) <;> (try simp only [decide_eq_true_eq,decide_eq_false_iff_not,Bool.not_eq_true',Bool.not_eq_false',Bool.not_eq_true,Bool.not_eq_false,Bool.and_eq_true,beq_iff_eq,beq_eq_false_iff_ne,ne_eq,Bool.or_eq_true] at h) <;> ((repeat (first | simp (maxSteps:=9^9) only [go_sem,seval,s_rhalf_eq,s_rtimes_eq,s_rhigh_eq,s_refDiv_eq,s_refRem_eq,s_rsign_eq,ofF_t,ofF_f,lo_eq,rh_0,rh_1,rh_2,i1,←divS_ref,←divU_ref,←remS_ref,←remU_ref,h] | simp (disch:=omega) only [w64_d,ipos,ineg,dpos,dneg])))))
  all_goals simp only [codeP, *,if_true,if_false]
  all_goals rfl
 ·simp at h
def s_rdo7 (args:List AV):Option AV :=
 match args with
 | [.c (.i op),.c (.u a),.c (.u b)]=>some (.t [.c (.u (adoU op a b)),.c (.b (decide (classI op=1)))])
 | _=>none
theorem s_rdo7_eq {op a b}:s_rdo7 [.c (.i op),.c (.u a),.c (.u b)]=some (.t [.c (.u (adoU op a b)),.c (.b (decide (classI op=1)))]):=rfl
theorem ok_rdo7:PuOk Tryz.prog 83 s_rdo7:=by
 refine pu_ok (tab:=[(114,.pu s_name7),(115,.pu s_rshift),(116,.pu s_one7),(80,.pu s_rless),(117,.pu s_logic),(81,.pu s_rsign),(118,.pu s_product7)]) hmix (TabOk.cons (e:=.pu s_name7) ok_name7 (TabOk.cons (e:=.pu s_rshift) ok_rshift (TabOk.cons (e:=.pu s_one7) ok_one7 (TabOk.cons (e:=.pu s_rless) ok_rless (TabOk.cons (e:=.pu s_logic) ok_logic (TabOk.cons (e:=.pu s_rsign) ok_rsign (TabOk.cons (e:=.pu s_product7) ok_product7 TabOk.nil))))))) Tryz.func83 rfl Tryz.results83 Tryz.ntmps83 (by kernel_rfl) (by kernel_rfl) ?_
 intro args v h
 unfold s_rdo7 at h
 split at h
 ·rename_i op a b
  simp only [Option.some.injEq] at h;subst h
  refine ⟨by simp only [List.length_cons,List.length_nil];decide,rfl,rfl,?_⟩
  have i1:inR 32:=⟨by omega,by omega⟩
  by_cases h:classI op=1
  ·have h':=h
   rw [class_1] at h
   have e:nameA op=nameS (nm op.toNat):=by unfold nameA;rw [if_pos h']
   have e2:adoU op a b=aluV (canI op) a b:=by unfold adoU;rw [if_pos h']
   obtain ⟨k,rfl⟩:=Int.eq_ofNat_of_zero_le (by omega:0≤op)
   rw [Int.toNat_natCast] at e
   obtain ⟨y1,y2⟩:=nameS_size k (by omega)
   obtain ⟨z1,z2,z3,z4⟩:=y2 h'
   generalize nameS (nm k)=s at e z2 z3 z4
   rw [e2,←z4]
   (repeat (first | simp (maxSteps:=9^9) only [go_sem,seval,s_name7_eq,s_rshift_eq,s_one7_eq,s_rless_eq,s_logic_eq,s_rsign_eq,s_product7_eq,e,h',z3] | simp (disch:=omega) only [w64_d,ipos,ineg,dpos,dneg]))
   repeat' (first
    | (refine cnd_by (fun h=>?_) (fun h=>?_) <;> (try simp only [decide_eq_true_eq,decide_eq_false_iff_not,Bool.not_eq_true',Bool.not_eq_false',Bool.not_eq_true,Bool.not_eq_false,Bool.and_eq_true,beq_iff_eq,beq_eq_false_iff_ne,ne_eq,Bool.or_eq_true] at h) <;> ((repeat (first | simp (maxSteps:=9^9) only [go_sem,seval,s_name7_eq,s_rshift_eq,s_one7_eq,s_rless_eq,s_logic_eq,s_rsign_eq,s_product7_eq,true_or,or_true,false_or,or_false,i1,lg_xor,lg_or,lg_and,sh_1,sh_2,sh_3,sh_4,sh_5,sh_6,h] | simp (disch:=omega) only [w64_d,ipos,ineg,dpos,dneg]))))
    | (refine grd_by (fun h=>?_) (fun h=>?_) <;> (try simp only [decide_eq_true_eq,decide_eq_false_iff_not,Bool.not_eq_true',Bool.not_eq_false',Bool.not_eq_true,Bool.not_eq_false,Bool.and_eq_true,beq_iff_eq,beq_eq_false_iff_ne,ne_eq,Bool.or_eq_true] at h) <;> ((repeat (first | simp (maxSteps:=9^9) only [go_sem,seval,s_name7_eq,s_rshift_eq,s_one7_eq,s_rless_eq,s_logic_eq,s_rsign_eq,s_product7_eq,true_or,or_true,false_or,or_false,i1,lg_xor,lg_or,lg_and,sh_1,sh_2,sh_3,sh_4,sh_5,sh_6,h] | simp (disch:=omega) only [w64_d,ipos,ineg,dpos,dneg]))))
    | (refine grdd_by (fun h=>?_) (fun h=>?_) <;> (try simp only [decide_eq_true_eq,decide_eq_false_iff_not,Bool.not_eq_true',Bool.not_eq_false',Bool.not_eq_true,Bool.not_eq_false,Bool.and_eq_true,beq_iff_eq,beq_eq_false_iff_ne,ne_eq,Bool.or_eq_true] at h) <;> ((repeat (first | simp (maxSteps:=9^9) only [go_sem,seval,s_name7_eq,s_rshift_eq,s_one7_eq,s_rless_eq,s_logic_eq,s_rsign_eq,s_product7_eq,true_or,or_true,false_or,or_false,i1,lg_xor,lg_or,lg_and,sh_1,sh_2,sh_3,sh_4,sh_5,sh_6,h] | simp (disch:=omega) only [w64_d,ipos,ineg,dpos,dneg])))))
   all_goals simp only [codeS, *,if_true,if_false]
   all_goals rfl
  ·have e:nameA op=⟨#[]⟩:=by unfold nameA;rw [if_neg h]
   (repeat (first | simp (maxSteps:=9^9) only [go_sem,seval,s_name7_eq,s_rshift_eq,s_one7_eq,s_rless_eq,s_logic_eq,s_rsign_eq,s_product7_eq,h,e,adoU] | simp (disch:=omega) only [w64_d,ipos,ineg,dpos,dneg]))
 ·simp at h
end
end Go.Proofs.YteclombpnhociaaGreat
set_option maxRecDepth 100000
set_option maxHeartbeats 8000000
namespace Go.Proofs.YteclombpnhociaaGreat
open Go.Am
set_option linter.unusedSimpArgs false
set_option linter.unusedVariables false
noncomputable section
def linkB (op:Int):Bool:=if op=67 then true else if op=78 then true else false
def condB (op:Int):Bool:=if op=68 then true else if op=79 then true else false
def isAB (op:Int):Bool:=decide (classI op=7) && (!linkB op && !condB op)
def s_alink (args:List AV):Option AV :=
 match args with
 | [.c (.i op)]=>some (.c (.b (linkB op)))
 | _=>none
theorem s_alink_eq {op}:s_alink [.c (.i op)]=some (.c (.b (linkB op))):=rfl
theorem ok_alink:PuOk Tryz.prog 98 s_alink:=by
 refine pu_ok (tab:=[]) hmix TabOk.nil Tryz.func98 rfl Tryz.results98 Tryz.ntmps98 (by kernel_rfl) (by kernel_rfl) ?_
 intro args v h
 unfold s_alink at h
 split at h
 ·rename_i op
  simp only [Option.some.injEq] at h;subst h
  refine ⟨by simp only [List.length_cons,List.length_nil];decide,rfl,rfl,?_⟩
  (repeat (first | simp (maxSteps:=9^9) only [go_sem,seval] | simp (disch:=omega) only [w64_d,ipos,ineg,dpos,dneg]))
  repeat' (first
   | (refine cnd_by (fun h=>?_) (fun h=>?_) <;> (try simp only [decide_eq_true_eq,decide_eq_false_iff_not,Bool.not_eq_true',Bool.not_eq_false',Bool.not_eq_true,Bool.not_eq_false,Bool.and_eq_true,beq_iff_eq,beq_eq_false_iff_ne,ne_eq,Bool.or_eq_true] at h) <;> ((repeat (first | simp (maxSteps:=9^9) only [go_sem,seval,h] | simp (disch:=omega) only [w64_d,ipos,ineg,dpos,dneg]))))
   | (refine grd_by (fun h=>?_) (fun h=>?_) <;> (try simp only [decide_eq_true_eq,decide_eq_false_iff_not,Bool.not_eq_true',Bool.not_eq_false',Bool.not_eq_true,Bool.not_eq_false,Bool.and_eq_true,beq_iff_eq,beq_eq_false_iff_ne,ne_eq,Bool.or_eq_true] at h) <;> ((repeat (first | simp (maxSteps:=9^9) only [go_sem,seval,h] | simp (disch:=omega) only [w64_d,ipos,ineg,dpos,dneg]))))
   | (refine grdd_by (fun h=>?_) (fun h=>?_) <;> (try simp only [decide_eq_true_eq,decide_eq_false_iff_not,Bool.not_eq_true',Bool.not_eq_false',Bool.not_eq_true,Bool.not_eq_false,Bool.and_eq_true,beq_iff_eq,beq_eq_false_iff_ne,ne_eq,Bool.or_eq_true] at h) <;> ((repeat (first | simp (maxSteps:=9^9) only [go_sem,seval,h] | simp (disch:=omega) only [w64_d,ipos,ineg,dpos,dneg])))))
  all_goals simp [linkB, *]
 ·simp at h
def s_acond (args:List AV):Option AV :=
 match args with
 | [.c (.i op)]=>some (.c (.b (condB op)))
 | _=>none
theorem s_acond_eq {op}:s_acond [.c (.i op)]=some (.c (.b (condB op))):=rfl
theorem ok_acond:PuOk Tryz.prog 99 s_acond:=by
 refine pu_ok (tab:=[]) hmix TabOk.nil Tryz.func99 rfl Tryz.results99 Tryz.ntmps99 (by kernel_rfl) (by kernel_rfl) ?_
 intro args v h
 unfold s_acond at h
 split at h
 ·rename_i op
  simp only [Option.some.injEq] at h;subst h
  refine ⟨by simp only [List.length_cons,List.length_nil];decide,rfl,rfl,?_⟩
  (repeat (first | simp (maxSteps:=9^9) only [go_sem,seval] | simp (disch:=omega) only [w64_d,ipos,ineg,dpos,dneg]))
  repeat' (first
   | (refine cnd_by (fun h=>?_) (fun h=>?_) <;> (try simp only [decide_eq_true_eq,decide_eq_false_iff_not,Bool.not_eq_true',Bool.not_eq_false',Bool.not_eq_true,Bool.not_eq_false,Bool.and_eq_true,beq_iff_eq,beq_eq_false_iff_ne,ne_eq,Bool.or_eq_true] at h) <;> ((repeat (first | simp (maxSteps:=9^9) only [go_sem,seval,h] | simp (disch:=omega) only [w64_d,ipos,ineg,dpos,dneg]))))
   | (refine grd_by (fun h=>?_) (fun h=>?_) <;> (try simp only [decide_eq_true_eq,decide_eq_false_iff_not,Bool.not_eq_true',Bool.not_eq_false',Bool.not_eq_true,Bool.not_eq_false,Bool.and_eq_true,beq_iff_eq,beq_eq_false_iff_ne,ne_eq,Bool.or_eq_true] at h) <;> ((repeat (first | simp (maxSteps:=9^9) only [go_sem,seval,h] | simp (disch:=omega) only [w64_d,ipos,ineg,dpos,dneg]))))
   | (refine grdd_by (fun h=>?_) (fun h=>?_) <;> (try simp only [decide_eq_true_eq,decide_eq_false_iff_not,Bool.not_eq_true',Bool.not_eq_false',Bool.not_eq_true,Bool.not_eq_false,Bool.and_eq_true,beq_iff_eq,beq_eq_false_iff_ne,ne_eq,Bool.or_eq_true] at h) <;> ((repeat (first | simp (maxSteps:=9^9) only [go_sem,seval,h] | simp (disch:=omega) only [w64_d,ipos,ineg,dpos,dneg])))))
  all_goals simp [condB, *]
 ·simp at h
def s_aisA (args:List AV):Option AV :=
 match args with
 | [.c (.i op)]=>some (.c (.b (isAB op)))
 | _=>none
theorem s_aisA_eq {op}:s_aisA [.c (.i op)]=some (.c (.b (isAB op))):=rfl
theorem ok_aisA:PuOk Tryz.prog 63 s_aisA:=by
 refine pu_ok (tab:=[(106,.pu s_class),(98,.pu s_alink),(99,.pu s_acond)]) hmix (TabOk.cons (e:=.pu s_class) ok_class (TabOk.cons (e:=.pu s_alink) ok_alink (TabOk.cons (e:=.pu s_acond) ok_acond TabOk.nil))) Tryz.func63 rfl Tryz.results63 Tryz.ntmps63 (by kernel_rfl) (by kernel_rfl) ?_
 intro args v h
 unfold s_aisA at h
 split at h
 ·rename_i op
  simp only [Option.some.injEq] at h;subst h
  refine ⟨by simp only [List.length_cons,List.length_nil];decide,rfl,rfl,?_⟩
  by_cases h:classI op=7
  all_goals cases h1:linkB op
  all_goals cases h2:condB op
  all_goals (repeat (first | simp (maxSteps:=9^9) only [go_sem,seval,s_class_eq,s_alink_eq,s_acond_eq,isAB,h,h1,h2] | simp (disch:=omega) only [w64_d,ipos,ineg,dpos,dneg]))
 ·simp at h
def wideN (op:Int):Int:=if op < 78 then op+11 else op
def sizeA (op:Int):Int:=if op < 78 then 32 else 64
def s_awide (args:List AV):Option AV :=
 match args with
 | [.c (.i op)]=>if inR op then some (.t [.c (.i (wideN op)),.c (.i (sizeA op))]) else none
 | _=>none
theorem s_awide_eq {op}:s_awide [.c (.i op)]=if inR op then some (.t [.c (.i (wideN op)),.c (.i (sizeA op))]) else none:=rfl
theorem ok_awide:PuOk Tryz.prog 64 s_awide:=by
 refine pu_ok (tab:=[]) hmix TabOk.nil Tryz.func64 rfl Tryz.results64 Tryz.ntmps64 (by kernel_rfl) (by kernel_rfl) ?_
 intro args v h
 unfold s_awide at h
 split at h
 ·rename_i op
  split at h
  ·rename_i hc
   simp only [Option.some.injEq] at h;subst h
   refine ⟨by simp only [List.length_cons,List.length_nil];decide,rfl,rfl,?_⟩
   obtain ⟨i1,i2⟩:=hc
   (repeat (first | simp (maxSteps:=9^9) only [go_sem,seval] | simp (disch:=omega) only [w64_d,ipos,ineg,dpos,dneg]))
   repeat' (first
    | (refine cnd_by (fun h=>?_) (fun h=>?_) <;> (try simp only [decide_eq_true_eq,decide_eq_false_iff_not,Bool.not_eq_true',Bool.not_eq_false',Bool.not_eq_true,Bool.not_eq_false,Bool.and_eq_true,beq_iff_eq,beq_eq_false_iff_ne,ne_eq,Bool.or_eq_true] at h) <;> ((repeat (first | simp (maxSteps:=9^9) only [go_sem,seval,h] | simp (disch:=omega) only [w64_d,ipos,ineg,dpos,dneg]))))
    | (refine grd_by (fun h=>?_) (fun h=>?_) <;> (try simp only [decide_eq_true_eq,decide_eq_false_iff_not,Bool.not_eq_true',Bool.not_eq_false',Bool.not_eq_true,Bool.not_eq_false,Bool.and_eq_true,beq_iff_eq,beq_eq_false_iff_ne,ne_eq,Bool.or_eq_true] at h) <;> ((repeat (first | simp (maxSteps:=9^9) only [go_sem,seval,h] | simp (disch:=omega) only [w64_d,ipos,ineg,dpos,dneg]))))
    | (refine grdd_by (fun h=>?_) (fun h=>?_) <;> (try simp only [decide_eq_true_eq,decide_eq_false_iff_not,Bool.not_eq_true',Bool.not_eq_false',Bool.not_eq_true,Bool.not_eq_false,Bool.and_eq_true,beq_iff_eq,beq_eq_false_iff_ne,ne_eq,Bool.or_eq_true] at h) <;> ((repeat (first | simp (maxSteps:=9^9) only [go_sem,seval,h] | simp (disch:=omega) only [w64_d,ipos,ineg,dpos,dneg])))))
   all_goals simp [wideN,sizeA, *]
   all_goals try (intro h;omega)
  ·simp at h
 ·simp at h
def lessI (a b:Int) (g:Bool):Int:=if decide (b < a)=g then a else b
def lessW (a b:BitVec 64) (g:Bool):BitVec 64:=if decide (b < a)=g then a else b
def s_lesserI (args:List AV):Option AV :=
 match args with
 | [.c (.i a),.c (.i b),.c (.b g)]=>some (.c (.i (lessI a b g)))
 | _=>none
theorem s_lesserI_eq {a b g}:s_lesserI [.c (.i a),.c (.i b),.c (.b g)]=some (.c (.i (lessI a b g))):=rfl
theorem ok_lesserI:PuOk Tryz.prog 67 s_lesserI:=by
 refine pu_ok (tab:=[]) hmix TabOk.nil Tryz.func67 rfl Tryz.results67 Tryz.ntmps67 (by kernel_rfl) (by kernel_rfl) ?_
 intro args v h
 unfold s_lesserI at h
 split at h
 ·rename_i a b g
  simp only [Option.some.injEq] at h;subst h
  refine ⟨by simp only [List.length_cons,List.length_nil];decide,rfl,rfl,?_⟩
  by_cases h:b < a
  all_goals cases g
  all_goals (repeat (first | simp (maxSteps:=9^9) only [go_sem,seval,lessI,h] | simp (disch:=omega) only [w64_d,ipos,ineg,dpos,dneg]))
 ·simp at h
def s_lesserW (args:List AV):Option AV :=
 match args with
 | [.c (.u a),.c (.u b),.c (.b g)]=>some (.c (.u (lessW a b g)))
 | _=>none
theorem s_lesserW_eq {a b g}:s_lesserW [.c (.u a),.c (.u b),.c (.b g)]=some (.c (.u (lessW a b g))):=rfl
theorem ok_lesserW:PuOk Tryz.prog 68 s_lesserW:=by
 refine pu_ok (tab:=[]) hmix TabOk.nil Tryz.func68 rfl Tryz.results68 Tryz.ntmps68 (by kernel_rfl) (by kernel_rfl) ?_
 intro args v h
 unfold s_lesserW at h
 split at h
 ·rename_i a b g
  simp only [Option.some.injEq] at h;subst h
  refine ⟨by simp only [List.length_cons,List.length_nil];decide,rfl,rfl,?_⟩
  by_cases h:b < a
  all_goals cases g
  all_goals (repeat (first | simp (maxSteps:=9^9) only [go_sem,seval,lessW,h] | simp (disch:=omega) only [w64_d,ipos,ineg,dpos,dneg]))
 ·simp at h
theorem class_7 {op:Int}:(classI op=7)=(67≤op∧op≤88):=by
 apply propext
 simp only [classI,wiB,Bool.and_eq_true,decide_eq_true_eq]
 repeat' split
 all_goals omega
theorem isA_eq {op:Int}:(isAB op=true)=((69≤op∧op≤77)∨(80≤op∧op≤88)):=by
 apply propext
 simp only [isAB,class_7,linkB,condB,Bool.and_eq_true,Bool.not_eq_true',decide_eq_true_eq]
 repeat' split
 all_goals simp
 all_goals omega
def amoV (c s:Int) (m x:BitVec 64):BitVec 64 :=
 if c=80 then lowU x s else if c=81 then lowU (lowU m s+lowU x s) s else if c=82 then lowU m s ^^^ lowU x s else if c=83 then lowU m s &&& lowU x s else if c=84 then lowU m s ||| lowU x s else
 if c=85 then (if (signU x s).toInt < (signU m s).toInt then lowU x s else lowU m s) else if c=86 then (if (signU x s).toInt < (signU m s).toInt then lowU m s else lowU x s) else
 if c=87 then (if lowU x s < lowU m s then lowU x s else lowU m s) else (if lowU x s < lowU m s then lowU m s else lowU x s)
def amoU (op:Int) (m x:BitVec 64):BitVec 64:=if isAB op=true then amoV (wideN op) (sizeA op) m x else 0#64
theorem low_g (w:BitVec 64) (s:Int) (i:Nat) (hi:i < 64):(lowU w s).getLsbD i=(decide ((i:Int) < s) && w.getLsbD i):=by unfold lowU;rw [ofG_get hi]
theorem ext64 {x y:BitVec 64} (h:∀i,i < 64→x.getLsbD i=y.getLsbD i):x=y:=BitVec.eq_of_getLsbD_eq h
theorem low_64 (w:BitVec 64):lowU w 64=w:=ext64 fun i hi=>by rw [low_g _ _ _ hi,decide_eq_true (by omega)];rfl
theorem low_low (w:BitVec 64) (s:Int):lowU (lowU w s) s=lowU w s:=ext64 fun i hi=>by rw [low_g _ _ _ hi,low_g _ _ _ hi];cases decide ((i:Int) < s) <;> rfl
theorem cut_low (w:BitVec 64) (s:Int):cutU w 0 s=lowU w s:=ext64 fun i hi=>by
 rw [low_g _ _ _ hi];unfold cutU;rw [ofG_get hi,show (0:Int)+(i:Int)=(i:Int) by omega,bitB_n]
theorem sgn32 (w:BitVec 64) (i:Nat) (hi:i < 64):(signU w 32).getLsbD i=if i < 32 then w.getLsbD i else w.getLsbD 31:=by
 unfold signU
 rw [ofG_get hi]
 have:bitB w (32 - 1)=w.getLsbD 31:=bitB_n (i:=31)
 simp only [show decide ((1:Int)≤32)=true from rfl,Bool.true_and,this,show ((i:Int) < 32)=(i < 32) from propext (by omega)]
theorem low_sign (w:BitVec 64) (s:Int) (h:s=32∨s=64):lowU (signU w s) s=lowU w s:=by
 rcases h with rfl | rfl
 ·refine ext64 fun i hi=>?_
  rw [low_g _ _ _ hi,low_g _ _ _ hi,sgn32 _ _ hi]
  by_cases h:i < 32
  ·rw [if_pos h]
  ·rw [decide_eq_false (by omega)];rfl
 ·rw [sign_all (by omega)]
theorem sign_low' (w:BitVec 64) (s:Int) (h:s=32∨s=64):signU (lowU w s) s=signU w s:=by
 rcases h with rfl | rfl
 ·refine ext64 fun i hi=>?_
  rw [sgn32 _ _ hi,sgn32 _ _ hi,low_g _ _ _ hi,low_g _ _ _ (by omega)]
  by_cases h:i < 32
  ·rw [if_pos h,if_pos h,decide_eq_true (by omega)];rfl
  ·rw [if_neg h,if_neg h];rfl
 ·rw [low_64]
theorem low_xor (a b:BitVec 64) (s:Int):lowU (lowU a s ^^^ lowU b s) s=lowU a s ^^^ lowU b s:=ext64 fun i hi=>by
 rw [low_g _ _ _ hi,BitVec.getLsbD_xor,low_g _ _ _ hi,low_g _ _ _ hi];cases decide ((i:Int) < s) <;> simp
theorem low_and (a b:BitVec 64) (s:Int):lowU (lowU a s &&& lowU b s) s=lowU a s &&& lowU b s:=ext64 fun i hi=>by
 rw [low_g _ _ _ hi,BitVec.getLsbD_and,low_g _ _ _ hi,low_g _ _ _ hi];cases decide ((i:Int) < s) <;> simp
theorem low_or (a b:BitVec 64) (s:Int):lowU (lowU a s ||| lowU b s) s=lowU a s ||| lowU b s:=ext64 fun i hi=>by
 rw [low_g _ _ _ hi,BitVec.getLsbD_or,low_g _ _ _ hi,low_g _ _ _ hi];cases decide ((i:Int) < s) <;> simp
theorem ofI_toI (w:BitVec 64):BitVec.ofInt 64 w.toInt=w:=BitVec.ofInt_toInt
theorem size_or (op:Int):sizeA op=32∨sizeA op=64:=by unfold sizeA;split <;> simp
theorem wide_c {op:Int} (h:isAB op=true):80≤wideN op∧wideN op≤88:=by rw [isA_eq] at h;unfold wideN;split <;> omega
theorem lessI_f (a b:Int):lessI a b false=if b < a then b else a:=by unfold lessI;by_cases h:b < a <;> simp [h]
theorem lessI_t (a b:Int):lessI a b true=if b < a then a else b:=by unfold lessI;by_cases h:b < a <;> simp [h]
theorem lessW_f (a b:BitVec 64):lessW a b false=if b < a then b else a:=by unfold lessW;by_cases h:b < a <;> simp [h]
theorem lessW_t (a b:BitVec 64):lessW a b true=if b < a then a else b:=by unfold lessW;by_cases h:b < a <;> simp [h]
def s_amoDo (args:List AV):Option AV :=
 match args with
 | [.c (.i op),.c (.u m),.c (.u x)]=>some (.t [.c (.u (amoU op m x)),.c (.b (isAB op))])
 | _=>none
theorem s_amoDo_eq {op m x}:s_amoDo [.c (.i op),.c (.u m),.c (.u x)]=some (.t [.c (.u (amoU op m x)),.c (.b (isAB op))]):=rfl
theorem ok_amoDo:PuOk Tryz.prog 34 s_amoDo:=by
 refine pu_ok (tab:=[(63,.pu s_aisA),(64,.pu s_awide),(65,.pu s_low),(66,.pu s_sign),(67,.pu s_lesserI),(68,.pu s_lesserW)]) hmix (TabOk.cons (e:=.pu s_aisA) ok_aisA (TabOk.cons (e:=.pu s_awide) ok_awide (TabOk.cons (e:=.pu s_low) ok_low (TabOk.cons (e:=.pu s_sign) ok_sign (TabOk.cons (e:=.pu s_lesserI) ok_lesserI (TabOk.cons (e:=.pu s_lesserW) ok_lesserW TabOk.nil)))))) Tryz.func34 rfl Tryz.results34 Tryz.ntmps34 (by kernel_rfl) (by kernel_rfl) ?_
 intro args v h
 unfold s_amoDo at h
 split at h
 ·rename_i op m x
  simp only [Option.some.injEq] at h;subst h
  refine ⟨by simp only [List.length_cons,List.length_nil];decide,rfl,rfl,?_⟩
  cases h:isAB op
  ·(repeat (first | simp (maxSteps:=9^9) only [go_sem,seval,s_aisA_eq,s_awide_eq,s_low_eq,s_sign_eq,s_lesserI_eq,s_lesserW_eq,h,amoU] | simp (disch:=omega) only [w64_d,ipos,ineg,dpos,dneg]))
  ·have hs:=size_or op
   obtain ⟨c1,c2⟩:=wide_c h
   have hr:inR op:=by rw [isA_eq] at h;exact ⟨by omega,by omega⟩
   have i1:inR (sizeA op):=by rcases hs with e | e <;> rw [e] <;> exact ⟨by omega,by omega⟩
   have e:amoU op m x=amoV (wideN op) (sizeA op) m x:=if_pos h
   rw [e]
   (repeat (first | simp (maxSteps:=9^9) only [go_sem,seval,s_aisA_eq,s_awide_eq,s_low_eq,s_sign_eq,s_lesserI_eq,s_lesserW_eq,h,hr,i1] | simp (disch:=omega) only [w64_d,ipos,ineg,dpos,dneg]))
   generalize wideN op=c at c1 c2
   generalize sizeA op=s at hs i1
   repeat' (first
    | (refine cnd_by (fun h=>?_) (fun h=>?_) <;> (try simp only [decide_eq_true_eq,decide_eq_false_iff_not,Bool.not_eq_true',Bool.not_eq_false',Bool.not_eq_true,Bool.not_eq_false,Bool.and_eq_true,beq_iff_eq,beq_eq_false_iff_ne,ne_eq,Bool.or_eq_true] at h) <;> ((repeat (first | simp (maxSteps:=9^9) only [go_sem,seval,s_aisA_eq,s_awide_eq,s_low_eq,s_sign_eq,s_lesserI_eq,s_lesserW_eq,i1,lessI_f,lessI_t,lessW_f,lessW_t,h] | simp (disch:=omega) only [w64_d,ipos,ineg,dpos,dneg]))))
    | (refine grd_by (fun h=>?_) (fun h=>?_) <;> (try simp only [decide_eq_true_eq,decide_eq_false_iff_not,Bool.not_eq_true',Bool.not_eq_false',Bool.not_eq_true,Bool.not_eq_false,Bool.and_eq_true,beq_iff_eq,beq_eq_false_iff_ne,ne_eq,Bool.or_eq_true] at h) <;> ((repeat (first | simp (maxSteps:=9^9) only [go_sem,seval,s_aisA_eq,s_awide_eq,s_low_eq,s_sign_eq,s_lesserI_eq,s_lesserW_eq,i1,lessI_f,lessI_t,lessW_f,lessW_t,h] | simp (disch:=omega) only [w64_d,ipos,ineg,dpos,dneg]))))
    | (refine grdd_by (fun h=>?_) (fun h=>?_) <;> (try simp only [decide_eq_true_eq,decide_eq_false_iff_not,Bool.not_eq_true',Bool.not_eq_false',Bool.not_eq_true,Bool.not_eq_false,Bool.and_eq_true,beq_iff_eq,beq_eq_false_iff_ne,ne_eq,Bool.or_eq_true] at h) <;> ((repeat (first | simp (maxSteps:=9^9) only [go_sem,seval,s_aisA_eq,s_awide_eq,s_low_eq,s_sign_eq,s_lesserI_eq,s_lesserW_eq,i1,lessI_f,lessI_t,lessW_f,lessW_t,h] | simp (disch:=omega) only [w64_d,ipos,ineg,dpos,dneg])))))
   all_goals first | (simp [amoV, *];done) | skip
   all_goals first | (by_cases hx:(signU x s).toInt < (signU m s).toInt <;> simp [amoV,ofI_toI,low_sign _ _ hs, *];done) | skip
   all_goals (have hc:c=87∨c=88:=by omega)
   all_goals (rcases hc with rfl | rfl <;> by_cases hx:lowU x s < lowU m s <;> simp [amoV,lessW, *])
 ·simp at h
def loadU (op:Int) (m:BitVec 64):BitVec 64:=if classI op=7 then signU m (sizeA op) else 0#64
theorem max_alt (a b:BitVec 64):(if b < a then a else b)=if a < b then b else a:=by
 by_cases h:b < a
 ·have h2:¬a < b:=by rw [BitVec.lt_def] at h ⊢;omega
  rw [if_pos h,if_neg h2]
 ·by_cases h2:a < b
  ·rw [if_neg h,if_pos h2]
  ·rw [if_neg h,if_neg h2];apply BitVec.eq_of_toNat_eq;rw [BitVec.lt_def] at h h2;omega
theorem amoV_88 (z:Int) (m x:BitVec 64):amoV 88 z m x=if lowU m z < lowU x z then lowU x z else lowU m z:=max_alt _ _
def wordA (op:Int):ByteArray:=if classI op=7 then (nm op.toNat).extract 0 ((nm op.toNat).size - 2) else ⟨#[]⟩
def s_word8 (args:List AV):Option AV :=
 match args with
 | [.c (.i op)]=>some (.c (.s (wordA op)))
 | _=>none
theorem s_word8_eq {op}:s_word8 [.c (.i op)]=some (.c (.s (wordA op))):=rfl
theorem ok_word8:PuOk Tryz.prog 82 s_word8:=by
 refine pu_ok (tab:=[(108,.pu s_rclass),(109,.fp s_names)]) hmix (TabOk.cons (e:=.pu s_rclass) ok_rclass (TabOk.cons (e:=.fp s_names) ok_names TabOk.nil)) Tryz.func82 rfl Tryz.results82 Tryz.ntmps82 (by kernel_rfl) (by kernel_rfl) ?_
 intro args v h
 unfold s_word8 at h
 split at h
 ·rename_i op
  simp only [Option.some.injEq] at h;subst h
  refine ⟨by simp only [List.length_cons,List.length_nil];decide,rfl,rfl,?_⟩
  by_cases h:classI op=7
  ·have h':=h
   rw [class_7] at h
   obtain ⟨k,rfl⟩:=Int.eq_ofNat_of_zero_le (by omega:0≤op)
   obtain ⟨_,z1,z2⟩:=sizeS_I k (by omega) (.inr (.inr h'))
   have g:=nmL_get (k:=k) (by omega)
   have e0:((((nm k).size:Int) - 2).toNat)=(nm k).size - 2:=by omega
   (repeat (first | simp (maxSteps:=9^9) only [go_sem,seval,s_rclass_eq,s_names_eq,h',nmL_len,g,wordA,Int.toNat_natCast,e0] | simp (disch:=omega) only [w64_d,ipos,ineg,dpos,dneg]))
  ·(repeat (first | simp (maxSteps:=9^9) only [go_sem,seval,s_rclass_eq,s_names_eq,h,wordA] | simp (disch:=omega) only [w64_d,ipos,ineg,dpos,dneg]))
 ·simp at h
def isI (op:Int):Int:=if classI op=7 then (if linkB op=true then 2 else if condB op=true then 3 else 1) else 0
def isS (s:ByteArray):Int:=if s=⟨#[]⟩ then 0 else if s=(⟨#[108,114]⟩:ByteArray) then 2 else if s=(⟨#[115,99]⟩:ByteArray) then 3 else 1
theorem wordA_I:∀k:Nat,k < 99→isS (wordA k)=isI k:=by decide +kernel
def s_ris8 (args:List AV):Option AV :=
 match args with
 | [.c (.i op)]=>some (.c (.i (isI op)))
 | _=>none
theorem s_ris8_eq {op}:s_ris8 [.c (.i op)]=some (.c (.i (isI op))):=rfl
theorem ok_ris8:PuOk Tryz.prog 77 s_ris8:=by
 refine pu_ok (tab:=[(82,.pu s_word8)]) hmix (TabOk.cons (e:=.pu s_word8) ok_word8 TabOk.nil) Tryz.func77 rfl Tryz.results77 Tryz.ntmps77 (by kernel_rfl) (by kernel_rfl) ?_
 intro args v h
 unfold s_ris8 at h
 split at h
 ·rename_i op
  simp only [Option.some.injEq] at h;subst h
  refine ⟨by simp only [List.length_cons,List.length_nil];decide,rfl,rfl,?_⟩
  have e:isI op=isS (wordA op):=by
   by_cases h:classI op=7
   ·have h':=h
    rw [class_7] at h
    obtain ⟨k,rfl⟩:=Int.eq_ofNat_of_zero_le (by omega:0≤op)
    exact (wordA_I k (by omega)).symm
   ·unfold isI wordA;rw [if_neg h,if_neg h];rfl
  rw [e]
  (repeat (first | simp (maxSteps:=9^9) only [go_sem,seval,s_word8_eq] | simp (disch:=omega) only [w64_d,ipos,ineg,dpos,dneg]))
  generalize wordA op=s
  repeat' (first
   | (refine cnd_by (fun h=>?_) (fun h=>?_) <;> (try simp only [decide_eq_true_eq,decide_eq_false_iff_not,Bool.not_eq_true',Bool.not_eq_false',Bool.not_eq_true,Bool.not_eq_false,Bool.and_eq_true,beq_iff_eq,beq_eq_false_iff_ne,ne_eq,Bool.or_eq_true] at h) <;> ((repeat (first | simp (maxSteps:=9^9) only [go_sem,seval,h] | simp (disch:=omega) only [w64_d,ipos,ineg,dpos,dneg]))))
   | (refine grd_by (fun h=>?_) (fun h=>?_) <;> (try simp only [decide_eq_true_eq,decide_eq_false_iff_not,Bool.not_eq_true',Bool.not_eq_false',Bool.not_eq_true,Bool.not_eq_false,Bool.and_eq_true,beq_iff_eq,beq_eq_false_iff_ne,ne_eq,Bool.or_eq_true] at h) <;> ((repeat (first | simp (maxSteps:=9^9) only [go_sem,seval,h] | simp (disch:=omega) only [w64_d,ipos,ineg,dpos,dneg]))))
   | (refine grdd_by (fun h=>?_) (fun h=>?_) <;> (try simp only [decide_eq_true_eq,decide_eq_false_iff_not,Bool.not_eq_true',Bool.not_eq_false',Bool.not_eq_true,Bool.not_eq_false,Bool.and_eq_true,beq_iff_eq,beq_eq_false_iff_ne,ne_eq,Bool.or_eq_true] at h) <;> ((repeat (first | simp (maxSteps:=9^9) only [go_sem,seval,h] | simp (disch:=omega) only [w64_d,ipos,ineg,dpos,dneg])))))
  all_goals simp [isS, *]
 ·simp at h
def codeM (s:ByteArray):Int :=
 if s=(⟨#[97,109,111,115,119,97,112]⟩:ByteArray) then 80 else
 if s=(⟨#[97,109,111,97,100,100]⟩:ByteArray) then 81 else
 if s=(⟨#[97,109,111,120,111,114]⟩:ByteArray) then 82 else
 if s=(⟨#[97,109,111,97,110,100]⟩:ByteArray) then 83 else
 if s=(⟨#[97,109,111,111,114]⟩:ByteArray) then 84 else
 if s=(⟨#[97,109,111,109,105,110]⟩:ByteArray) then 85 else
 if s=(⟨#[97,109,111,109,97,120]⟩:ByteArray) then 86 else
 if s=(⟨#[97,109,111,109,105,110,117]⟩:ByteArray) then 87 else 88
theorem codeM_I:∀k:Nat,k < 99→isI k=1→codeM (wordA k)=wideN k∧sizeI k * 8=sizeA k∧(wordA k=(⟨#[97,109,111,109,97,120,117]⟩:ByteArray)∨codeM (wordA k)≠88):=by decide +kernel
theorem isI_1 {op:Int}:(isI op=1)=(isAB op=true):=by
 apply propext
 unfold isI isAB
 cases linkB op <;> cases condB op <;> by_cases h:classI op=7 <;> simp [h]
theorem ado36 (a b:BitVec 64):adoU 36 a b=a ^^^ b:=by unfold adoU;rw [if_pos (by decide)];rfl
theorem ado39 (a b:BitVec 64):adoU 39 a b=a ||| b:=by unfold adoU;rw [if_pos (by decide)];rfl
theorem ado40 (a b:BitVec 64):adoU 40 a b=a &&& b:=by unfold adoU;rw [if_pos (by decide)];rfl
def s_rdo8 (args:List AV):Option AV :=
 match args with
 | [.c (.i op),.c (.u m),.c (.u x)]=>some (.t [.c (.u (amoU op m x)),.c (.b (isAB op))])
 | _=>none
theorem s_rdo8_eq {op m x}:s_rdo8 [.c (.i op),.c (.u m),.c (.u x)]=some (.t [.c (.u (amoU op m x)),.c (.b (isAB op))]):=rfl
theorem ok_rdo8:PuOk Tryz.prog 42 s_rdo8:=by
 refine pu_ok (tab:=[(77,.pu s_ris8),(78,.pu s_rksize),(79,.pu s_rcut),(81,.pu s_rsign),(80,.pu s_rless),(82,.pu s_word8),(83,.pu s_rdo7)]) hmix (TabOk.cons (e:=.pu s_ris8) ok_ris8 (TabOk.cons (e:=.pu s_rksize) ok_rksize (TabOk.cons (e:=.pu s_rcut) ok_rcut (TabOk.cons (e:=.pu s_rsign) ok_rsign (TabOk.cons (e:=.pu s_rless) ok_rless (TabOk.cons (e:=.pu s_word8) ok_word8 (TabOk.cons (e:=.pu s_rdo7) ok_rdo7 TabOk.nil))))))) Tryz.func42 rfl Tryz.results42 Tryz.ntmps42 (by kernel_rfl) (by kernel_rfl) ?_
 intro args v h
 unfold s_rdo8 at h
 split at h
 ·rename_i op m x
  simp only [Option.some.injEq] at h;subst h
  refine ⟨by simp only [List.length_cons,List.length_nil];decide,rfl,rfl,?_⟩
  by_cases h:isI op=1
  ·have h':=h
   rw [isI_1] at h'
   have e:amoU op m x=amoV (wideN op) (sizeA op) m x:=if_pos h'
   have hs:=size_or op
   have hin:=h'
   rw [isA_eq] at hin
   obtain ⟨k,rfl⟩:=Int.eq_ofNat_of_zero_le (by omega:0≤op)
   obtain ⟨e1,e2,e3⟩:=codeM_I k (by omega) h
   have e4:w64 (8 * sizeI (k:Int))=sizeA (k:Int):=by rw [w64_of (by omega)];omega
   have i1:inR (sizeA (k:Int)):=by rcases hs with e | e <;> rw [e] <;> exact ⟨by omega,by omega⟩
   have i0:inR 0:=⟨by omega,by omega⟩
   rw [e,h',←e1]
   generalize hz:sizeA (k:Int)=z at *
   (repeat (first | simp (maxSteps:=9^9) only [go_sem,seval,s_ris8_eq,s_rksize_eq,s_rcut_eq,s_rsign_eq,s_rless_eq,s_word8_eq,s_rdo7_eq,h,e4,i1,i0,cut_low,sign_low' _ _ hs] | simp (disch:=omega) only [w64_d,ipos,ineg,dpos,dneg]))
   generalize wordA (k:Int)=s at *
   repeat' (first
    | (refine cnd_by (fun h=>?_) (fun h=>?_) <;> (try simp only [decide_eq_true_eq,decide_eq_false_iff_not,Bool.not_eq_true',Bool.not_eq_false',Bool.not_eq_true,Bool.not_eq_false,Bool.and_eq_true,beq_iff_eq,beq_eq_false_iff_ne,ne_eq,Bool.or_eq_true] at h) <;> ((repeat (first | simp (maxSteps:=9^9) only [go_sem,seval,s_ris8_eq,s_rksize_eq,s_rcut_eq,s_rsign_eq,s_rless_eq,s_word8_eq,s_rdo7_eq,i1,i0,cut_low,ado36,ado39,ado40,low_low,low_xor,low_and,low_or,h] | simp (disch:=omega) only [w64_d,ipos,ineg,dpos,dneg]))))
    | (refine grd_by (fun h=>?_) (fun h=>?_) <;> (try simp only [decide_eq_true_eq,decide_eq_false_iff_not,Bool.not_eq_true',Bool.not_eq_false',Bool.not_eq_true,Bool.not_eq_false,Bool.and_eq_true,beq_iff_eq,beq_eq_false_iff_ne,ne_eq,Bool.or_eq_true] at h) <;> ((repeat (first | simp (maxSteps:=9^9) only [go_sem,seval,s_ris8_eq,s_rksize_eq,s_rcut_eq,s_rsign_eq,s_rless_eq,s_word8_eq,s_rdo7_eq,i1,i0,cut_low,ado36,ado39,ado40,low_low,low_xor,low_and,low_or,h] | simp (disch:=omega) only [w64_d,ipos,ineg,dpos,dneg]))))
    | (refine grdd_by (fun h=>?_) (fun h=>?_) <;> (try simp only [decide_eq_true_eq,decide_eq_false_iff_not,Bool.not_eq_true',Bool.not_eq_false',Bool.not_eq_true,Bool.not_eq_false,Bool.and_eq_true,beq_iff_eq,beq_eq_false_iff_ne,ne_eq,Bool.or_eq_true] at h) <;> ((repeat (first | simp (maxSteps:=9^9) only [go_sem,seval,s_ris8_eq,s_rksize_eq,s_rcut_eq,s_rsign_eq,s_rless_eq,s_word8_eq,s_rdo7_eq,i1,i0,cut_low,ado36,ado39,ado40,low_low,low_xor,low_and,low_or,h] | simp (disch:=omega) only [w64_d,ipos,ineg,dpos,dneg])))))
   all_goals first | (simp [codeM,amoV, *];done) | skip
   all_goals first | (by_cases hx:(signU x z).toInt < (signU m z).toInt <;> simp [codeM,amoV,low_low, *];done) | skip
   ·have ec:codeM (⟨#[97,109,111,109,97,120,117]⟩:ByteArray)=88:=by decide
    rw [ec,amoV_88,if_pos h]
   ·have ec:codeM (⟨#[97,109,111,109,97,120,117]⟩:ByteArray)=88:=by decide
    rw [ec,amoV_88,if_neg h]
   ·exfalso
    rcases e3 with e3 | e3
    ·contradiction
    ·exact e3 (by simp only [codeM, *,if_false])
  ·have h':isAB op=false:=by rw [isI_1] at h;simpa using h
   have e:amoU op m x=0#64:=by unfold amoU;rw [if_neg (by simp [h'])]
   (repeat (first | simp (maxSteps:=9^9) only [go_sem,seval,s_ris8_eq,s_rksize_eq,s_rcut_eq,s_rsign_eq,s_rless_eq,s_word8_eq,s_rdo7_eq,h,h',e] | simp (disch:=omega) only [w64_d,ipos,ineg,dpos,dneg]))
 ·simp at h
end
end Go.Proofs.YteclombpnhociaaGreat
set_option maxRecDepth 100000
set_option maxHeartbeats 8000000
namespace Go.Proofs.YteclombpnhociaaGreat
open Go.Am
set_option linter.unusedSimpArgs false
set_option linter.unusedVariables false
noncomputable section
theorem isI_2 {op:Int}:(isI op=2)=(linkB op=true):=by
 apply propext
 have k:linkB op=true→classI op=7:=by rw [class_7];unfold linkB;repeat' split
                                      all_goals simp
                                      all_goals omega
 unfold isI
 by_cases h:classI op=7
 ·rw [if_pos h];split
  ·simp_all
  ·simp_all;split <;> simp
 ·rw [if_neg h];simp;cases e:linkB op
  ·rfl
  ·exact (h (k e)).elim
theorem isI_3 {op:Int}:(isI op=3)=(condB op=true):=by
 apply propext
 have k:condB op=true→classI op=7∧linkB op=false:=by rw [class_7];unfold condB linkB;repeat' split
                                                     all_goals simp
                                                     all_goals omega
 unfold isI
 by_cases h:classI op=7
 ·rw [if_pos h];split
  ·rename_i h1;simp;cases e:condB op
   ·rfl
   ·have:=(k e).2;simp_all
  ·split <;> simp_all
 ·rw [if_neg h];simp;cases e:condB op
  ·rfl
  ·exact (h (k e).1).elim
theorem dq {p:Prop} [Decidable p] {q:Bool} (h:p=(q=true)):decide p=q:=by cases q <;> simp_all
end
end Go.Proofs.YteclombpnhociaaGreat
set_option maxRecDepth 100000
set_option maxHeartbeats 8000000
namespace Go.Proofs.YteclombpnhociaaGreat
open Go.RowKit Go.Shelf
open Go.Am
set_option linter.unusedSimpArgs false
set_option linter.unusedVariables false
noncomputable section
attribute [local go_sem] Oper.semAt_some
structure Stb (B:Nat) (I:World→Prop):Prop where
 new:∀W o,I W→o.isCells=false→I (W.alloc o)
 put:∀W r o o',I W→B≤r→W.heap[r]?=some o→o.isCells=false→o'.isCells=false→I (W.putObj r o')
def SeqC (F:Fence) (n:Nat) (P:Program) (g:Nat) (S:ByteArray) (encs:Nat→Array Value) (N:Nat):Prop :=
 ∀(l:Nat) (J:Nat→World→Prop) (Jx:World→Prop) (W:World),
  (∀k W1 p q,J k W1→W1.heap[W.heap.size]?=some (.stringIter S p)→J k (W1.putObj W.heap.size (.stringIter S q))) →
  (∀k W1 p,k < N→J k W1→W1.heap[W.heap.size]?=some (.stringIter S p)→YieldAt F (n - 1) P l (encs k) W1 fun e W' =>
    (e=.returned (.bool true)∧J (k+1) W'∧W'.heap[W.heap.size]?=some (.stringIter S p))∨(e=.returned (.bool false)∧Jx W')) →
  J 0 (W.iter S 0) →
  CallsIn F n P g #[.func (.yield l) #[] #[]] W fun e W'=>(∃v,e=.returned v)∧(J N W'∨Jx W')
def rPost (I:Nat→World→Prop) (Ix:World→Prop) (k:Nat) (W:World):Exit→Act→World→Prop
 | .normal,_,W'=>KeepsOthers W W'∧I (k+1) W'
 | .ret,_,W'=>KeepsOthers W W'∧Ix W'
 | _,_,_=>False
theorem rf_law {F:Fence} {n:Nat} {P:Program} {g:Operand} {ps:Array Tmp} {assign body:Code} {Q:Exit→Act→World→Prop} {a:Act} {w:World}
 (hro:F.round=none) (h1:1≤n) {gf:Nat} (hg:a.eval g=.func (.func gf) #[] #[]) (hFg:F.fn gf) (eg:∀args w,(callFunc gf args).run P w=.ok (.enter gf args) w)
 {S:ByteArray} {encs:Nat→Array Value} {N:Nat} (hseq:SeqC F (n - 1) P gf S encs N) (hps:∀k,(encs k).size=ps.size)
 (I:Nat→World→Prop) (Ix:World→Prop) (hI:∀k,Stb w.heap.size (I k)) (hIx:Stb w.heap.size Ix) (h0:I 0 w) (a₁:Nat→Act)
 (hassign:∀(l k:Nat) (W:World) (K:Act→World→Prop),K (a₁ k) W →
   assign.wpIn (F.inRound l) (n - 1 - 1) P (Exit.then K (fun _ _ _=>False)) {tmps:=(ps.zip (encs k)).foldl (fun t (p,v)=>t.setIfInBounds p v) a.tmps,defers:=[]} W)
 (hbody:∀(l k:Nat) (W:World),I k W→k < N→body.wpIn (F.inRound l) (n - 1 - 1) P (rPost I Ix k W) (a₁ k) W)
 (hdone:∀(D:Nat) (W:World),w.heap.size≤D→I N W→W.heap[D]?=some (.deferred (some []))→Q .normal {a with defers:={target:=.collected D,args:=#[]} :: a.defers} W)
 (hstop:∀(D:Nat) (W:World),w.heap.size≤D→Ix W→W.heap[D]?=some (.deferred (some []))→Code.ret.wpIn F n P Q {a with defers:={target:=.collected D,args:=#[]} :: a.defers} W) :
 (Code.rangeFunc g ps assign body).wpIn F n P Q a w:=by
 refine wpIn_rangeFunc fun fn hfn=>?_
 rw [hro]
 obtain ⟨rec,hrec⟩:∃rec:LoopState→Option Code→Loop,rec=fun st pe=>{state:=st,pending:=pe,fn,tmps:=a.tmps,params:=ps,assign,body,defers:=w.heap.size}:=⟨_,rfl⟩
 obtain ⟨W1,hW1⟩:∃W1,(w.alloc (.deferred (some []))).alloc (.loop (rec .ready none))=W1:=⟨_,rfl⟩
 have sz:W1.heap.size=w.heap.size+2:=by rw [←hW1];simp
 have hL1:W1.heap[w.heap.size+1]?=some (.loop (rec .ready none)):=by
  rw [←hW1]
  have:=World.alloc_heap_new (w.alloc (.deferred (some []))) (.loop (rec .ready none))
  rwa [World.size_alloc] at this
 have hK1:W1.heap[w.heap.size]?=some (.deferred (some [])):=by
  rw [←hW1];exact (Below.heap_alloc _ _ _ (by simp)).trans (World.alloc_heap_new w _)
 have hI1:I 0 W1:=by rw [←hW1];exact (hI 0).new _ _ ((hI 0).new _ _ h0 rfl) rfl
 have hret:(Code.ret).wpIn F n P Q=(Code.ret).wpIn F n P Q:=rfl
 let J:Nat→World→Prop:=fun k W=>I k W∧W.heap[w.heap.size+1]?=some (.loop (rec .ready none))∧W.heap[w.heap.size]?=some (.deferred (some []))
 let Jx:World→Prop:=fun W=>Ix W∧W.heap[w.heap.size+1]?=some (.loop (rec .done (some .ret)))∧W.heap[w.heap.size]?=some (.deferred (some []))
 refine ⟨w.heap.size+1,[{target:=.collected w.heap.size,args:=#[]}],W1,{target:=.fn (.func gf) #[],args:=#[.func (.yield (w.heap.size+1)) #[] #[]]},W1,gf,
  #[.func (.yield (w.heap.size+1)) #[] #[]],W1,?_,?_,?_,?_,fun _=>h1,?_⟩
 ·rw [←hW1,hrec];exact run_enterLoop_outer _ _ _ _ _
 ·simp only [resolve,hg]
  simp [go_sem]
 ·intro f' hf';simp [Target.leads] at hf';subst hf';exact hFg
 ·simp [invoke,go_sem,eg]
 ·refine (hseq (w.heap.size+1) J Jx W1 ?_ ?_ ?_).mono ?_
  ·rintro k W p q ⟨hi,hl,hk⟩ hs
   rw [sz] at hs ⊢
   exact ⟨(hI k).put _ _ _ _ hi (by omega) hs rfl rfl,(World.putObj_heap_other (by omega)).trans hl,(World.putObj_heap_other (by omega)).trans hk⟩
  ·rintro k W p hlt ⟨hi,hl,hk⟩ hs
   rw [sz] at hs ⊢
   have hll:w.heap.size+1 < W.heap.size:=(Array.getElem?_eq_some_iff.1 hl).1
   have hy:=run_yield (P:=P) (args:=encs k) hl (by rw [hrec];exact hps k)
   rw [hrec] at hy
   refine ⟨fn,_,assign,body,hy,roundIn_of_wpIn hfn (hassign _ k W _ ⟨_,run_beginRound hl (by rw [hrec]),?_⟩)⟩
   have hl2:(W.putObj (w.heap.size+1) (.loop {rec .ready none with state:=.busy})).heap[w.heap.size+1]?=some (.loop {rec .ready none with state:=.busy}):=World.putObj_heap_same hll
   have hk2:(W.putObj (w.heap.size+1) (.loop {rec .ready none with state:=.busy})).heap[w.heap.size]?=some (.deferred (some [])):=(World.putObj_heap_other (by omega)).trans hk
   have hs2:(W.putObj (w.heap.size+1) (.loop {rec .ready none with state:=.busy})).heap[w.heap.size+2]?=some (.stringIter S p):=(World.putObj_heap_other (by omega)).trans hs
   refine wpIn_mono (hbody _ k _ ((hI k).put _ _ _ _ hi (by omega) hl rfl rfl) hlt) ?_
   rintro e a3 W3 hp
   cases e with
   | normal =>
     obtain ⟨hk3,hi3⟩:=hp
     have hl3:=hk3.same _ _ hl2 rfl
     have hr:=run_endRound (P:=P) none hl3
     refine ⟨_,_,hr,.inl ⟨rfl,⟨(hI _).put _ _ _ _ hi3 (by omega) hl3 rfl rfl,?_,?_⟩,?_⟩⟩
     ·rw [World.putObj_heap_same (Array.getElem?_eq_some_iff.1 hl3).1,hrec];rfl
     ·exact (World.putObj_heap_other (by omega)).trans (hk3.same _ _ hk2 rfl)
     ·exact (World.putObj_heap_other (by omega)).trans (hk3.same _ _ hs2 rfl)
   | ret =>
     obtain ⟨hk3,hi3⟩:=hp
     have hl3:=hk3.same _ _ hl2 rfl
     have hr:=run_endRound (P:=P) (some .ret) hl3
     refine ⟨_,_,hr,.inr ⟨rfl,hIx.put _ _ _ _ hi3 (by omega) hl3 rfl rfl,?_,?_⟩⟩
     ·rw [World.putObj_heap_same (Array.getElem?_eq_some_iff.1 hl3).1,hrec];rfl
     ·exact (World.putObj_heap_other (by omega)).trans (hk3.same _ _ hk2 rfl)
   | exit id=>exact hp.elim
   | goto t=>exact hp.elim
   | panic ch=>exact hp.elim
   | outgrown=>exact hp.elim
  ·refine ⟨(hI 0).new _ _ hI1 rfl,?_,?_⟩
   ·exact (Below.heap_alloc _ _ _ (by omega)).trans hL1
   ·exact (Below.heap_alloc _ _ _ (by omega)).trans hK1
  ·rintro e W2 ⟨⟨v,rfl⟩,(⟨hi,hl,hk⟩ | ⟨hi,hl,hk⟩)⟩
   ·refine ⟨none,_,by have:=run_endLoop (P:=P) hl (by rw [hrec];simp);rw [hrec] at this;exact this,?_⟩
    exact hdone _ _ (Nat.le_refl _) ((hI N).put _ _ _ _ hi (by omega) hl rfl rfl) ((World.putObj_heap_other (by omega)).trans hk)
   ·refine ⟨some .ret,_,by have:=run_endLoop (P:=P) hl (by rw [hrec];simp);rw [hrec] at this;exact this,?_⟩
    exact hstop _ _ (Nat.le_refl _) (hIx.put _ _ _ _ hi (by omega) hl rfl rfl) ((World.putObj_heap_other (by omega)).trans hk)
attribute [local go_sem] Oper.semAt_some
def litC:Code→Option ByteArray
 | .region _ ops _=>ops.toList.findSome? fun o=>match o.op with
   | .range _ (.const (.string s))=>some s
   | _=>none
 | .seq a b=>(litC a).or (litC b)
 | _=>none
noncomputable def opS:ByteArray:=((Tryz.f143.body).bind litC).getD ⟨#[]⟩
def opB:List UInt8:=opS.data.toList
def opc (p:Nat):Nat:=(opB.take p).countP (· == 32)
def frm:Nat→Nat
 | 0=>0
 | p+1=>if opB.getD p 0 == 32 then p+1 else frm p
def okP (p:Nat):Bool :=
 decide ((opB.getD p 0).toNat < 128) && (if opB.getD p 0 == 32 then decide (opc p < 97) && decide (frm p≤p) && decide ((opB.drop (frm p)).take (p - frm p)=nmB.getD (opc p+1) []) else true)
theorem opB_len:opB.length=558:=by kernel_rfl
theorem opS_size:opS.size=558:=by kernel_rfl
theorem okP_all:(List.range 558).all okP=true:=by kernel_rfl
theorem op_end:opc 558=97∧frm 558≤558∧(opB.drop (frm 558)).take (558 - frm 558)=nmB.getD 98 []:=by
 refine ⟨by kernel_rfl,by decide +kernel,by kernel_rfl⟩
theorem op_at {p:Nat} (h:p < 558):okP p=true:=List.all_eq_true.1 okP_all p (by simpa using h)
theorem opS_lt {p:Nat} (h:p < 558):p < opS.size:=by rw [opS_size];exact h
theorem opB_get {p:Nat} (h:p < opS.size):opB.getD p 0=opS[p]'h:=by
 have:p < opB.length:=by rw [opB_len];rw [opS_size] at h;exact h
 rw [List.getD_eq_getElem?_getD,List.getElem?_eq_getElem this]
 rfl
theorem opc_s {p:Nat} (h:p < 558):opc (p+1)=opc p+(if opB.getD p 0 == 32 then 1 else 0):=by
 unfold opc
 have hp:p < opB.length:=by rw [opB_len];exact h
 have e:opB.getD p 0=opB[p]:=by rw [List.getD_eq_getElem?_getD,List.getElem?_eq_getElem hp];rfl
 rw [List.take_succ_eq_append_getElem hp,List.countP_append,e]
 simp [List.countP_cons]
theorem opS_cut {a b:Nat}:opS.extract a b=⟨((opB.drop a).take (b - a)).toArray⟩:=by
 apply ByteArray.ext
 rw [ByteArray.data_extract]
 apply Array.ext'
 simp [opB,List.extract]
theorem frm_le:∀p,frm p≤p
 | 0=>Nat.le_refl _
 | p+1=>by unfold frm;split <;> first | exact Nat.le_refl _ | exact Nat.le_succ_of_le (frm_le p)
theorem op_space {p:Nat} (h:p < 558) (hb:opB.getD p 0=32):opc p < 97∧opc (p+1)=opc p+1∧frm (p+1)=p+1∧opS.extract (frm p) p=nm (opc p+1):=by
 have:=op_at h
 unfold okP at this
 rw [if_pos (by rw [hb];rfl)] at this
 simp only [Bool.and_eq_true,decide_eq_true_eq] at this
 refine ⟨this.2.1.1,by rw [opc_s h,if_pos (by rw [hb];rfl)],by rw [frm,if_pos (by rw [hb];rfl)],?_⟩
 rw [opS_cut,this.2.2];rfl
theorem op_letter {p:Nat} (h:p < 558) (hb:opB.getD p 0≠32):opc (p+1)=opc p∧frm (p+1)=frm p:=by
 have e:¬(opB.getD p 0 == 32)=true:=by simpa using hb
 exact ⟨by rw [opc_s h,if_neg e,Nat.add_zero],by rw [frm,if_neg e]⟩
theorem op_ascii {p:Nat} (h:p < opS.size):(opS[p]'h).toNat < 128:=by
 rw [opS_size] at h
 have:=op_at h
 unfold okP at this
 simp only [Bool.and_eq_true,decide_eq_true_eq] at this
 rw [←opB_get (opS_lt h)];exact this.1
theorem op_last:opS.extract (frm 558) 558=nm 98:=by
 rw [opS_cut,op_end.2.2];rfl
theorem next_at {P:Program} {W:World} {r:Nat} {s:ByteArray} {p:Nat} (ty:TypeId) (hs:W.heap[r]?=some (.stringIter s p)) (h:p < s.size) (ha:(s[p]'h).toNat < 128) :
 (Instr.next (.pointer (some ⟨r,0,none⟩)) true ty).run P W=.ok (.tuple #[.bool true,.int .i64 p,.int .i32 (s[p]'h).toNat]) (W.putObj r (.stringIter s (p+1))):=by
 simp only [Instr.next,getObj,setObj,Sem.run_bind,Sem.run,hs,Result.andThen,h,if_true,decode_ascii s p h ha]
 simp [goInt,Sem.run,hs,World.putObj]
theorem next_no {P:Program} {W:World} {r:Nat} {s:ByteArray} {p:Nat} (ty:TypeId) (hs:W.heap[r]?=some (.stringIter s p)) (h:¬p < s.size) :
 (Instr.next (.pointer (some ⟨r,0,none⟩)) true ty).run P W=.ok (.tuple #[.bool false]) W:=by
 simp [Instr.next,getObj,Sem.run,hs,h]
attribute [local go_sem] Oper.semAt_some
theorem opLit_eq:(ByteArray.mk #[108,117,105,32,97,117,105,112,99,32,106,97,108,32,106,97,108,114,32,98,101,113,32,98,110,101,32,98,108,116,32,98,103,101,32,98,108,116,117,32,98,103,101,117,32,108,98,32,108,104,32,108,119,32,108,100,32,108,98,117,32,108,104,117,32,108,119,117,32,115,98,32,115,104,32,115,119,32,115,100,32,97,100,100,105,32,115,108,116,105,32,115,108,116,105,117,32,120,111,114,105,32,111,114,105,32,97,110,100,105,32,115,108,108,105,32,115,114,108,105,32,115,114,97,105,32,97,100,100,32,115,117,98,32,115,108,108,32,115,108,116,32,115,108,116,117,32,120,111,114,32,115,114,108,32,115,114,97,32,111,114,32,97,110,100,32,97,100,100,105,119,32,115,108,108,105,119,32,115,114,108,105,119,32,115,114,97,105,119,32,97,100,100,119,32,115,117,98,119,32,115,108,108,119,32,115,114,108,119,32,115,114,97,119,32,102,101,110,99,101,32,102,101,110,99,101,46,105,32,101,99,97,108,108,32,101,98,114,101,97,107,32,109,117,108,32,109,117,108,104,32,109,117,108,104,115,117,32,109,117,108,104,117,32,100,105,118,32,100,105,118,117,32,114,101,109,32,114,101,109,117,32,109,117,108,119,32,100,105,118,119,32,100,105,118,117,119,32,114,101,109,119,32,114,101,109,117,119,32,108,114,46,119,32,115,99,46,119,32,97,109,111,115,119,97,112,46,119,32,97,109,111,97,100,100,46,119,32,97,109,111,120,111,114,46,119,32,97,109,111,97,110,100,46,119,32,97,109,111,111,114,46,119,32,97,109,111,109,105,110,46,119,32,97,109,111,109,97,120,46,119,32,97,109,111,109,105,110,117,46,119,32,97,109,111,109,97,120,117,46,119,32,108,114,46,100,32,115,99,46,100,32,97,109,111,115,119,97,112,46,100,32,97,109,111,97,100,100,46,100,32,97,109,111,120,111,114,46,100,32,97,109,111,97,110,100,46,100,32,97,109,111,111,114,46,100,32,97,109,111,109,105,110,46,100,32,97,109,111,109,97,120,46,100,32,97,109,111,109,105,110,117,46,100,32,97,109,111,109,97,120,117,46,100,32,99,115,114,114,119,32,99,115,114,114,115,32,99,115,114,114,99,32,99,115,114,114,119,105,32,99,115,114,114,115,105,32,99,115,114,114,99,105,32,109,114,101,116,32,115,114,101,116,32,119,102,105,32,115,102,101,110,99,101,46,118,109,97])=opS:=by kernel_rfl
theorem cut_2 {a b:Nat} (h1:a≤b) (h2:b≤558) (w:World):(Instr.slice 9 (.string (ByteArray.mk #[108,117,105,32,97,117,105,112,99,32,106,97,108,32,106,97,108,114,32,98,101,113,32,98,110,101,32,98,108,116,32,98,103,101,32,98,108,116,117,32,98,103,101,117,32,108,98,32,108,104,32,108,119,32,108,100,32,108,98,117,32,108,104,117,32,108,119,117,32,115,98,32,115,104,32,115,119,32,115,100,32,97,100,100,105,32,115,108,116,105,32,115,108,116,105,117,32,120,111,114,105,32,111,114,105,32,97,110,100,105,32,115,108,108,105,32,115,114,108,105,32,115,114,97,105,32,97,100,100,32,115,117,98,32,115,108,108,32,115,108,116,32,115,108,116,117,32,120,111,114,32,115,114,108,32,115,114,97,32,111,114,32,97,110,100,32,97,100,100,105,119,32,115,108,108,105,119,32,115,114,108,105,119,32,115,114,97,105,119,32,97,100,100,119,32,115,117,98,119,32,115,108,108,119,32,115,114,108,119,32,115,114,97,119,32,102,101,110,99,101,32,102,101,110,99,101,46,105,32,101,99,97,108,108,32,101,98,114,101,97,107,32,109,117,108,32,109,117,108,104,32,109,117,108,104,115,117,32,109,117,108,104,117,32,100,105,118,32,100,105,118,117,32,114,101,109,32,114,101,109,117,32,109,117,108,119,32,100,105,118,119,32,100,105,118,117,119,32,114,101,109,119,32,114,101,109,117,119,32,108,114,46,119,32,115,99,46,119,32,97,109,111,115,119,97,112,46,119,32,97,109,111,97,100,100,46,119,32,97,109,111,120,111,114,46,119,32,97,109,111,97,110,100,46,119,32,97,109,111,111,114,46,119,32,97,109,111,109,105,110,46,119,32,97,109,111,109,97,120,46,119,32,97,109,111,109,105,110,117,46,119,32,97,109,111,109,97,120,117,46,119,32,108,114,46,100,32,115,99,46,100,32,97,109,111,115,119,97,112,46,100,32,97,109,111,97,100,100,46,100,32,97,109,111,120,111,114,46,100,32,97,109,111,97,110,100,46,100,32,97,109,111,111,114,46,100,32,97,109,111,109,105,110,46,100,32,97,109,111,109,97,120,46,100,32,97,109,111,109,105,110,117,46,100,32,97,109,111,109,97,120,117,46,100,32,99,115,114,114,119,32,99,115,114,114,115,32,99,115,114,114,99,32,99,115,114,114,119,105,32,99,115,114,114,115,105,32,99,115,114,114,99,105,32,109,114,101,116,32,115,114,101,116,32,119,102,105,32,115,102,101,110,99,101,46,118,109,97])) (some (.int .i64 (a:Int))) (some (.int .i64 (b:Int))) none).run Tryz.prog w=.ok (.string (opS.extract a b)) w:=by
 rw [opLit_eq]
 have:=run_slice_string (P:=Tryz.prog) (w:=w) 9 opS .i64 .i64 (a:Int) (b:Int) Tryz.underlying9 (by omega) (by omega) (by rw [opS_size];omega)
 rw [this];rfl
theorem cut_1 {a:Nat} (h2:a≤558) (w:World):(Instr.slice 9 (.string (ByteArray.mk #[108,117,105,32,97,117,105,112,99,32,106,97,108,32,106,97,108,114,32,98,101,113,32,98,110,101,32,98,108,116,32,98,103,101,32,98,108,116,117,32,98,103,101,117,32,108,98,32,108,104,32,108,119,32,108,100,32,108,98,117,32,108,104,117,32,108,119,117,32,115,98,32,115,104,32,115,119,32,115,100,32,97,100,100,105,32,115,108,116,105,32,115,108,116,105,117,32,120,111,114,105,32,111,114,105,32,97,110,100,105,32,115,108,108,105,32,115,114,108,105,32,115,114,97,105,32,97,100,100,32,115,117,98,32,115,108,108,32,115,108,116,32,115,108,116,117,32,120,111,114,32,115,114,108,32,115,114,97,32,111,114,32,97,110,100,32,97,100,100,105,119,32,115,108,108,105,119,32,115,114,108,105,119,32,115,114,97,105,119,32,97,100,100,119,32,115,117,98,119,32,115,108,108,119,32,115,114,108,119,32,115,114,97,119,32,102,101,110,99,101,32,102,101,110,99,101,46,105,32,101,99,97,108,108,32,101,98,114,101,97,107,32,109,117,108,32,109,117,108,104,32,109,117,108,104,115,117,32,109,117,108,104,117,32,100,105,118,32,100,105,118,117,32,114,101,109,32,114,101,109,117,32,109,117,108,119,32,100,105,118,119,32,100,105,118,117,119,32,114,101,109,119,32,114,101,109,117,119,32,108,114,46,119,32,115,99,46,119,32,97,109,111,115,119,97,112,46,119,32,97,109,111,97,100,100,46,119,32,97,109,111,120,111,114,46,119,32,97,109,111,97,110,100,46,119,32,97,109,111,111,114,46,119,32,97,109,111,109,105,110,46,119,32,97,109,111,109,97,120,46,119,32,97,109,111,109,105,110,117,46,119,32,97,109,111,109,97,120,117,46,119,32,108,114,46,100,32,115,99,46,100,32,97,109,111,115,119,97,112,46,100,32,97,109,111,97,100,100,46,100,32,97,109,111,120,111,114,46,100,32,97,109,111,97,110,100,46,100,32,97,109,111,111,114,46,100,32,97,109,111,109,105,110,46,100,32,97,109,111,109,97,120,46,100,32,97,109,111,109,105,110,117,46,100,32,97,109,111,109,97,120,117,46,100,32,99,115,114,114,119,32,99,115,114,114,115,32,99,115,114,114,99,32,99,115,114,114,119,105,32,99,115,114,114,115,105,32,99,115,114,114,99,105,32,109,114,101,116,32,115,114,101,116,32,119,102,105,32,115,102,101,110,99,101,46,118,109,97])) (some (.int .i64 (a:Int))) none none).run Tryz.prog w=.ok (.string (opS.extract a 558)) w:=by
 rw [opLit_eq]
 have:=run_slice_string_l (P:=Tryz.prog) (w:=w) 9 opS Tryz.underlying9 .i64 (a:Int) (by omega) (by rw [opS_size];omega)
 rw [this,opS_size];rfl
def opE (k:Nat):Array Value:=#[.int .i64 ((k:Int)+1),.string (nm (k+1))]
theorem all_seq (F:Fence) (n:Nat) (hf:F.fn 143) (hro:F.round=none) (hn:1≤n):SeqC F n Tryz.prog 143 opS opE 98:=fun l J Jx W hA hY h0=>by
 refine callsIn_of_wp Tryz.func143 rfl hf ?_ hro
 simp only [Tryz.ntmps143,List.size_toArray,List.length_cons,List.length_nil,Nat.reduceAdd,Nat.reduceSub,Array.replicate_succ,Array.replicate_zero,List.push_toArray,List.append_toArray,List.nil_append,List.cons_append]
 gi_wp2
 gi_loopw [2,3] (fun o f wr=>∃p:Nat,p≤558∧o=.int .i64 ((opc p:Int)+1)∧f=.int .i64 (frm p:Int)∧wr.heap[W.heap.size]?=some (.stringIter opS p)∧J (opc p) wr)
  (fun _ _ wr=>558 - wr.iterPos W.heap.size)
 case atStart =>
  exact ⟨0,by omega,rfl,rfl,World.iter_heap _ _ _,h0⟩
 case round =>
  obtain ⟨p,hp,rfl,rfl,hs,hJ⟩:=hrel
  by_cases hlt:p < 558
  ·have hnx:=fun ty=>next_at (P:=Tryz.prog) ty hs (opS_lt hlt) (op_ascii (opS_lt hlt))
   have hJ2:=hA _ _ p (p+1) hJ hs
   have hs2:(wr.putObj W.heap.size (.stringIter opS (p+1))).heap[W.heap.size]?=some (.stringIter opS (p+1)):=World.putObj_heap_same (Array.getElem?_eq_some_iff.1 hs).1
   have hpos:(wr.putObj W.heap.size (.stringIter opS (p+1))).iterPos W.heap.size=p+1:=by simp only [World.iterPos,hs2]
   have hpos0:wr.iterPos W.heap.size=p:=by simp only [World.iterPos,hs]
   have hbyte:=opB_get (opS_lt hlt)
   by_cases hb:opB.getD p 0=32
   ·obtain ⟨g1,g2,g3',g4⟩:=op_space hlt hb
    have g3:=frm_le p
    obtain ⟨fn,tmps,assign,body,hy,hR⟩:=hY (opc p) _ (p+1) (by omega) hJ2 hs2
    dsimp only [opE] at hy
    rw [←hbyte,hb] at hnx
    have hsl:=cut_2 g3 (by omega:p≤558)
    gi_wp2
    refine hR.mono ?_
    rintro e W3 (⟨rfl,hJ3,hs3⟩ | ⟨rfl,hJx3⟩)
    ·gi_wp2
     go_roundw
     case rel=>exact ⟨p+1,by omega,by rw [g2];simp [wrap64] <;> omega,by rw [g3'];simp [wrap64] <;> omega,hs3,by rw [g2];exact hJ3⟩
     case measure=>simp [World.iterPos,hs3,hs] <;> omega
    ·gi_wp2
     refine bodyPost_ret (results_none rfl _ _ _) rfl ?_
     exact ⟨⟨_,rfl⟩,.inr hJx3⟩
   ·obtain ⟨g2,g3⟩:=op_letter hlt hb
    have hb2:((opS[p]'(opS_lt hlt)).toNat:Int)≠32:=by
     rw [←hbyte];intro h;apply hb
     have:(opB.getD p 0).toNat=32:=by omega
     exact UInt8.toNat_inj.1 this
    gi_wp2
    go_roundw
    case rel=>exact ⟨p+1,by omega,by rw [g2],by rw [g3],hs2,by rw [g2];exact hJ2⟩
    case measure=>simp [World.iterPos,hs2,hs] <;> omega
  ·obtain rfl:p=558:=by omega
   have hnx:=fun ty=>next_no (P:=Tryz.prog) ty hs (by rw [opS_size];omega)
   obtain ⟨e1,e2,e3⟩:=op_end
   rw [e1] at hJ
   obtain ⟨fn,tmps,assign,body,hy,hR⟩:=hY 97 _ 558 (by omega) hJ hs
   have hy:(Instr.yield l #[.int .i64 98,.string (nm 98)]).run Tryz.prog wr=.ok (.round l fn tmps assign body) wr:=hy
   have hsl:=cut_1 e2
   rw [op_last] at hsl
   rw [e1]
   gi_wp2
   refine hR.mono ?_
   rintro e W3 (⟨rfl,hJ3,hs3⟩ | ⟨rfl,hJx3⟩)
   ·gi_wp2
    go_end0
    exact ⟨⟨_,rfl⟩,.inl hJ3⟩
   ·gi_wp2
    go_end0
    exact ⟨⟨_,rfl⟩,.inr hJx3⟩
attribute [local go_sem] Oper.semAt_some
def nameI (op:Int):ByteArray:=if 1≤op∧op≤98 then nm op.toNat else ⟨#[]⟩
def KN (w W:World):Prop:=Go.Am.Keep w (fun _=>False) W
theorem kn_new {w W:World} {o:Obj} (h:KN w W) (ho:o.isCells=false):KN w (W.alloc o):=by
 refine ⟨h.os,h.tape,h.output,by have:=h.size;simp;omega,fun b hb hm=>?_,fun b c t f hf hm=>?_⟩
 ·rw [alloc_block _ _ _ (Nat.lt_of_lt_of_le hb h.size)];exact h.old b hb hm
 ·by_cases e:b=W.heap.size
  ·subst e;rw [alloc_new] at hf;simp at hf;subst hf;simp [Obj.isCells] at ho
  ·rcases Nat.lt_or_ge b W.heap.size with h' | h'
   ·rw [alloc_block _ _ _ h'] at hf;exact h.free b c t f hf hm
   ·rw [Array.getElem?_eq_none (by simp;omega)] at hf;simp at hf
theorem kn_put {w W:World} {r:Nat} {o':Obj} (h:KN w W) (hr:w.heap.size≤r) (hl:r < W.heap.size) (ho:o'.isCells=false):KN w (W.putObj r o'):=by
 refine ⟨h.os,h.tape,h.output,by have:=h.size;simp;omega,fun b hb hm=>?_,fun b c t f hf hm=>?_⟩
 ·rw [World.putObj_heap_other (by omega)];exact h.old b hb hm
 ·by_cases e:b=r
  ·subst e;rw [World.putObj_heap_same hl] at hf;simp at hf;subst hf;simp [Obj.isCells] at ho
  ·rw [World.putObj_heap_other e] at hf;exact h.free b c t f hf hm
theorem kn_cells {w W:World} (h:KN w W) (c:Array Value) (t:Nat):KN w (W.alloc (.cells c t)):=Go.Am.Keep.alloc h c t
theorem kn_set {w W:World} {b i:Nat} {v:Value} (h:KN w W) (hr:w.heap.size≤b):KN w (W.setCell ⟨b,i,none⟩ v):=by
 have e:∀k,(W.setCell ⟨b,i,none⟩ v).heap[k]?=if b=k then (W.heap[k]?).map (fun o=>match o with | .cells c t f=>.cells (c.setIfInBounds i v) t f | o=>o) else W.heap[k]?:=by
  intro k
  simp only [World.setCell,Array.getElem?_modify]
  split
  ·cases W.heap[k]? with
   | none=>rfl
   | some o=>cases o <;> rfl
  ·rfl
 refine ⟨h.os,h.tape,h.output,by have:=h.size;show _≤(W.heap.modify _ _).size;rw [Array.size_modify];exact this,fun k hk hm=>?_,fun k c t f hf hm=>?_⟩
 ·rw [e,if_neg (by omega)];exact h.old k hk hm
 ·rw [e] at hf
  split at hf
  ·cases ho:W.heap[k]? with
   | none=>rw [ho] at hf;simp at hf
   | some o =>
     rw [ho] at hf
     cases o with
     | cells c' t' f'=>simp at hf;obtain ⟨_,rfl,rfl⟩:=hf;exact h.free k c' t' _ ho hm
     | _=>simp at hf
  ·exact h.free k c t f hf hm
theorem cell_alloc_l {W:World} {a:Addr} {v:Value} (o:Obj) (h:W.cell? a=some v):(W.alloc o).cell? a=some v:=cell_kept h (World.grownBy_alloc W o none) (fun r e=>by cases e)
theorem frozen_alloc_l {W:World} {a:Addr} {v:Value} (o:Obj) (h:W.cell? a=some v) (hf:W.frozen? a=false):(W.alloc o).frozen? a=false:=(frozen_kept h (World.grownBy_alloc W o none) (fun r e=>by cases e)).trans hf
theorem cell_new_l (W:World) (v:Value) (t:TypeId):(W.alloc (.cells #[v] t)).cell? ⟨W.heap.size,0,none⟩=some v∧(W.alloc (.cells #[v] t)).frozen? ⟨W.heap.size,0,none⟩=false:=by
 have h:∀(V:World) (B:Nat),V.heap[B]?=some (.cells #[v] t (0,0))→V.cell? ⟨B,0,none⟩=some v∧V.frozen? ⟨B,0,none⟩=false:=by
  intro V B h
  constructor <;> simp [World.cell?,World.frozen?,h]
 exact h _ _ (World.alloc_heap_new W _)
theorem stb_cell {B:Nat} {p:Addr} {v:Value}:Stb B fun W=>W.cell? p=some v∧W.frozen? p=false:=by
 refine ⟨fun W o ⟨h1,h2⟩ _=>?_,fun W r o o' ⟨h1,h2⟩ _ hr ho ho'=>?_⟩
 ·exact ⟨cell_alloc_l _ h1,frozen_alloc_l _ h1 h2⟩
 ·have hg:=grownBy_putObj' W r o'
  have hk:∀k,some r=some k→∃o:Obj,W.heap[k]?=some o∧o.isCells=false:=fun k e=>by cases e;exact ⟨o,hr,ho⟩
  exact ⟨cell_kept h1 hg hk,(frozen_kept h1 hg hk).trans h2⟩
theorem stb_kn {w:World} {B:Nat} (h:w.heap.size≤B):Stb B fun W=>KN w W :=
 ⟨fun W o hi ho=>kn_new hi ho,fun W r o o' hi hB hr ho ho'=>kn_put hi (by omega) (Array.getElem?_eq_some_iff.1 hr).1 ho'⟩
theorem Stb.and {B:Nat} {I J:World→Prop} (h:Stb B I) (h':Stb B J):Stb B fun W=>I W∧J W :=
 ⟨fun W o hi ho=>⟨h.new W o hi.1 ho,h'.new W o hi.2 ho⟩,fun W r o o' hi hB hr ho ho'=>⟨h.put W r o o' hi.1 hB hr ho ho',h'.put W r o o' hi.2 hB hr ho ho'⟩⟩
theorem stb_pure {B:Nat} {p:Prop}:Stb B fun _=>p:=⟨fun _ _ h _=>h,fun _ _ _ _ h _ _ _ _=>h⟩
theorem allf_in (F:Fence) (n:Nat) (hf:F.fn 137) (hro:F.round=none) (w:World):CallsIn F n Tryz.prog 137 #[] w fun e w'=>e=.returned (.func (.func 143) #[] #[])∧w'=w:=by
 refine callsIn_of_wp Tryz.func137 rfl hf ?_ hro
 simp only [Tryz.ntmps137,List.size_toArray,List.length_cons,List.length_nil,Nat.reduceAdd,Nat.reduceSub,Array.replicate_succ,Array.replicate_zero,List.push_toArray,List.append_toArray,List.nil_append,List.cons_append]
 gi_wp2
 go_ret
 exact ⟨rfl,rfl⟩
theorem name_in (F:Fence) (n:Nat) (h9:F.fn 126) (h10:F.fn 137) (h20:F.fn 143) (hro:F.round=none) (hn:3≤n) (op:Int) (w:World) :
 CallsIn F n Tryz.prog 126 #[.int .i64 op] w fun e W'=>e=.returned (.string (nameI op))∧KN w W':=by
 have h1:1≤n:=by omega
 have hkw:KN w w:=Go.Am.keep_0 w
 refine callsIn_of_wp_marks Tryz.func126 rfl h9 ?_ hro
 simp only [Tryz.ntmps126,List.size_toArray,List.length_cons,List.length_nil,Nat.reduceAdd,Nat.reduceSub,Array.replicate_succ,Array.replicate_zero,List.push_toArray,List.append_toArray,List.nil_append,List.cons_append]
 gi_wp2_with (gi_at_call 137;refine (allf_in F (n - 1) h10 hro _).mono ?_;rintro e w' ⟨rfl,rfl⟩)
 have c0:=cell_new_l w (.int .i64 op) 52
 have c1:=cell_new_l (w.alloc (.cells #[.int .i64 op] 52)) (.string ⟨#[]⟩) 9
 rw [World.size_alloc] at c1
 refine rf_law hro h1 rfl h20 (enters_of Tryz.func143 (by kernel_rfl) rfl) (all_seq F (n - 1) h20 hro (by omega)) (fun _=>rfl)
  (fun k W=>KN w W∧(W.cell? ⟨w.heap.size,0,none⟩=some (.int .i64 op)∧W.frozen? ⟨w.heap.size,0,none⟩=false)∧(W.cell? ⟨w.heap.size+1,0,none⟩=some (.string ⟨#[]⟩)∧W.frozen? ⟨w.heap.size+1,0,none⟩=false)∧∀j:Nat,j < k→(j:Int)+1≠op)
  (fun W=>KN w W∧(W.cell? ⟨w.heap.size+1,0,none⟩=some (.string (nameI op))∧W.frozen? ⟨w.heap.size+1,0,none⟩=false))
  (fun k=>(stb_kn (by simp;omega)).and (stb_cell.and (stb_cell.and stb_pure))) ((stb_kn (by simp;omega)).and stb_cell)
  ⟨kn_cells (kn_cells hkw _ _) _ _,⟨cell_alloc_l _ c0.1,frozen_alloc_l _ c0.1 c0.2⟩,c1,fun j hj=>absurd hj (Nat.not_lt_zero _)⟩
  (fun k=>{tmps:=#[.int .i64 op,.pointer (some ⟨w.heap.size,0,none⟩),.pointer (some ⟨w.heap.size+1,0,none⟩),.int .i64 ((k:Int)+1),.string (nm (k+1)),.func (.func 143) #[] #[],.int .i64 ((k:Int)+1),.string (nm (k+1)),undef,undef,undef,undef],defers:=[]}) ?assign ?body ?done ?stop
 case assign =>
  intro l k W K hK
  simp only [opE]
  gi_wp2
  exact hK
 case body =>
  rintro l k W ⟨hkn,⟨hc0,hf0⟩,⟨hc1,hf1⟩,hne⟩ hlt
  gi_wp2
  ·rename_i hx
   obtain rfl:(k:Int)+1=op:=eq_of_beq hx
   refine ⟨KeepsOthers.setCell _ _ _,kn_set hkn (by omega),?_,by rw [World.frozen?_setCell];exact hf1⟩
   have:nameI ((k:Int)+1)=nm (k+1):=by
    unfold nameI;rw [if_pos (by omega)];congr 1
   rw [this]
   exact World.cell?_setCell_same' _ _ _ (by rw [hc1];rfl)
  ·rename_i hx
   refine ⟨KeepsOthers.refl _,hkn,⟨hc0,hf0⟩,⟨hc1,hf1⟩,fun j hj=>?_⟩
   rcases Nat.lt_succ_iff_lt_or_eq.1 hj with hj | rfl
   ·exact hne j hj
   ·intro e;simp [e] at hx
 case done =>
  rintro D W hD ⟨hkn,⟨hc0,hf0⟩,⟨hc1,hf1⟩,hne⟩ hK
  gi_wp2
  have hK':=(KeepsOthers.setCell W ⟨w.heap.size+1,0,none⟩ (.string ⟨#[]⟩)).same D _ hK rfl
  refine ⟨by simp,.inl ⟨_,_,rfl,run_takeDeferred hK',?_⟩⟩
  have hc5:=cell_kept (World.cell?_setCell_same' W ⟨w.heap.size+1,0,none⟩ (.string ⟨#[]⟩) (by rw [hc1];rfl)) (grownBy_putObj' _ D (.deferred none)) (fun r e=>by cases e;exact ⟨_,hK',rfl⟩)
  refine ⟨.string ⟨#[]⟩,by simp [results,Tryz.f126,go_sem,hc5],?_,?_⟩
  ·have:nameI op=⟨#[]⟩:=by
    unfold nameI;rw [if_neg (fun h=>hne (op.toNat - 1) (by omega) (by omega))]
   rw [this]
  ·simp only [World.size_alloc] at hD
   exact kn_put (kn_set hkn (by omega)) (by omega) (Array.getElem?_eq_some_iff.1 hK').1 rfl
 case stop =>
  rintro D W hD ⟨hkn,hc1,hf1⟩ hK
  gi_wp2
  refine ⟨by simp,.inl ⟨_,_,rfl,run_takeDeferred hK,?_⟩⟩
  have hc5:=cell_kept hc1 (grownBy_putObj' _ D (.deferred none)) (fun r e=>by cases e;exact ⟨_,hK,rfl⟩)
  simp only [World.size_alloc] at hD
  exact ⟨_,by simp [results,Tryz.f126,go_sem,hc5],rfl,kn_put hkn (by omega) (Array.getElem?_eq_some_iff.1 hK).1 rfl⟩
attribute [local go_sem] Oper.semAt_some
def findI (s:ByteArray):Nat:=match (List.range 98).find? (fun k=>decide (nm (k+1)=s)) with
 | some k=>k+1
 | none=>0
def hasI (s:ByteArray):Bool:=((List.range 98).find? (fun k=>decide (nm (k+1)=s))).isSome
def F0:Fence:={fn:=fun _=>True}
theorem F0_room (k:Nat):F0.room k:=fun d h=>by simp [F0] at h
theorem nm_sizeB (k:Nat):(nm k).size≤9223372036854775807:=by
 have h:∀l∈nmB,l.length≤20:=by decide +kernel
 show (nmB.getD k []).length≤_
 rw [List.getD_eq_getElem?_getD]
 cases hk:nmB[k]? with
 | none=>simp
 | some l=>have:=h l (List.mem_of_getElem? hk);simp;omega
theorem nameI_size (op:Int):(nameI op).size≤9223372036854775807:=by
 unfold nameI;split
 ·exact nm_sizeB _
 ·exact Nat.zero_le _
def s_kname (args:List AV):Option AV :=
 match args with
 | [.c (.i op)]=>some (.c (.s (nameI op)))
 | _=>none
theorem s_kname_eq {op:Int}:s_kname [.c (.i op)]=some (.c (.s (nameI op))):=rfl
def s_kfind (args:List AV):Option AV :=
 match args with
 | [.c (.s s)]=>some (.t [.c (.i (findI s)),.c (.b (hasI s))])
 | _=>none
theorem ok_kname:PuOk Tryz.prog 126 s_kname:=by
 refine ⟨enters_of Tryz.func126 (by kernel_rfl) rfl,fun args v hs ρ w cs hcs=>?_⟩
 unfold s_kname at hs
 split at hs
 ·rename_i op
  simp only [Option.some.injEq] at hs
  subst hs
  cases hcs with
  | cons h hr =>
    cases hr
    obtain ⟨rfl,h1,h2⟩:=h
    refine ((name_in F0 3 trivial trivial trivial rfl (Nat.le_refl _) op w).calls F0_room).mono ?_
    rintro e w' ⟨rfl,hk⟩
    exact ⟨_,rfl,fun ρ'=>⟨rfl,nameI_size op⟩,hk⟩
 ·simp at hs
theorem suf_h {a b:ByteArray} (h1:b.size≤a.size):(((a.size:Int) - (b.size:Int)).toNat)=a.size - b.size:=by omega
def s_hassx (args:List AV):Option AV :=
 match args with
 | [.c (.s a),.c (.s b)]=>if a.size≤9223372036854775807∧b.size≤9223372036854775807 then some (.c (.b (endsB a b))) else none
 | _=>none
theorem s_hassx_eq {a b}:s_hassx [.c (.s a),.c (.s b)]=if a.size≤9223372036854775807∧b.size≤9223372036854775807 then some (.c (.b (endsB a b))) else none:=rfl
theorem ok_hassx:PuOk Tryz.prog 136 s_hassx:=by
 refine pu_ok (tab:=[]) hmix TabOk.nil Tryz.func136 rfl Tryz.results136 Tryz.ntmps136 (by kernel_rfl) (by kernel_rfl) ?_
 intro args v h
 unfold s_hassx at h
 split at h
 ·rename_i a b
  split at h
  ·rename_i hc
   simp only [Option.some.injEq] at h;subst h
   refine ⟨by simp only [List.length_cons,List.length_nil];decide,rfl,rfl,?_⟩
   by_cases h1:b.size≤a.size
   ·have e:=suf_h h1
    have e2:((b.size:Int)≤(a.size:Int))=True:=eq_true (by omega)
    (repeat (first | simp (maxSteps:=9^9) only [go_sem,seval,endsB,h1,e,e2] | simp (disch:=omega) only [w64_d,ipos,ineg,dpos,dneg]))
   ·have e2:((b.size:Int)≤(a.size:Int))=False:=eq_false (by omega)
    (repeat (first | simp (maxSteps:=9^9) only [go_sem,seval,endsB,h1,e2] | simp (disch:=omega) only [w64_d,ipos,ineg,dpos,dneg]))
  ·simp at h
 ·simp at h
def s_hassuf (args:List AV):Option AV :=
 match args with
 | [.c (.s a),.c (.s b)]=>if a.size≤9223372036854775807∧b.size≤9223372036854775807 then some (.c (.b (endsB a b))) else none
 | _=>none
theorem s_hassuf_eq {a b}:s_hassuf [.c (.s a),.c (.s b)]=if a.size≤9223372036854775807∧b.size≤9223372036854775807 then some (.c (.b (endsB a b))) else none:=rfl
theorem ok_hassuf:PuOk Tryz.prog 125 s_hassuf:=by
 refine pu_ok (tab:=[(136,.pu s_hassx)]) hmix (TabOk.cons (e:=.pu s_hassx) ok_hassx TabOk.nil) Tryz.func125 rfl Tryz.results125 Tryz.ntmps125 (by kernel_rfl) (by kernel_rfl) ?_
 intro args v h
 unfold s_hassuf at h
 split at h
 ·rename_i a b
  split at h
  ·rename_i hc
   simp only [Option.some.injEq] at h;subst h
   refine ⟨by simp only [List.length_cons,List.length_nil];decide,rfl,rfl,?_⟩
   (repeat (first | simp (maxSteps:=9^9) only [go_sem,seval,s_hassx_eq,hc] | simp (disch:=omega) only [w64_d,ipos,ineg,dpos,dneg]))
  ·simp at h
 ·simp at h
theorem sufd:∀k:Nat,k < 89→67≤k→endsB (nm k) (⟨#[46,100]⟩:ByteArray)=decide (78≤k):=by decide +kernel
theorem class_5 {op:Int}:(classI op=5)=(11≤op∧op≤17):=by
 apply propext
 simp only [classI,wiB,Bool.and_eq_true,decide_eq_true_eq]
 repeat' split
 all_goals omega
theorem class_6 {op:Int}:(classI op=6)=(18≤op∧op≤21):=by
 apply propext
 simp only [classI,wiB,Bool.and_eq_true,decide_eq_true_eq]
 repeat' split
 all_goals omega
theorem class_7' {op:Int}:(classI op=7)=(67≤op∧op≤88):=by
 apply propext
 simp only [classI,wiB,Bool.and_eq_true,decide_eq_true_eq]
 repeat' split
 all_goals omega
def s_ksize (args:List AV):Option AV :=
 match args with
 | [.c (.i op)]=>some (.c (.i (sizeI op)))
 | _=>none
theorem s_ksize_eq {op}:s_ksize [.c (.i op)]=some (.c (.i (sizeI op))):=rfl
theorem ok_ksize:PuOk Tryz.prog 97 s_ksize:=by
 refine pu_ok (tab:=[(106,.pu s_class),(126,.pu s_kname),(125,.pu s_hassuf)]) hmix (TabOk.cons (e:=.pu s_class) ok_class (TabOk.cons (e:=.pu s_kname) ok_kname (TabOk.cons (e:=.pu s_hassuf) ok_hassuf TabOk.nil))) Tryz.func97 rfl Tryz.results97 Tryz.ntmps97 (by kernel_rfl) (by kernel_rfl) ?_
 intro args v h
 unfold s_ksize at h
 split at h
 ·rename_i op
  simp only [Option.some.injEq] at h;subst h
  refine ⟨by simp only [List.length_cons,List.length_nil];decide,rfl,rfl,?_⟩
  by_cases h5:classI op=5
  ·have h:=h5
   rw [class_5] at h
   have:op=11∨op=12∨op=13∨op=14∨op=15∨op=16∨op=17:=by omega
   rcases this with rfl | rfl | rfl | rfl | rfl | rfl | rfl
   all_goals (repeat (first | simp (maxSteps:=9^9) only [go_sem,seval,s_class_eq,s_kname_eq,s_hassuf_eq,h5] | simp (disch:=omega) only [w64_d,ipos,ineg,dpos,dneg]))
   all_goals exact congrArg (fun n=>some (AV.c (Sc.i n))) (by decide +kernel)
  by_cases h6:classI op=6
  ·have h:=h6
   rw [class_6] at h
   have:op=18∨op=19∨op=20∨op=21:=by omega
   rcases this with rfl | rfl | rfl | rfl
   all_goals (repeat (first | simp (maxSteps:=9^9) only [go_sem,seval,s_class_eq,s_kname_eq,s_hassuf_eq,h6] | simp (disch:=omega) only [w64_d,ipos,ineg,dpos,dneg]))
   all_goals exact congrArg (fun n=>some (AV.c (Sc.i n))) (by decide +kernel)
  by_cases h7:classI op=7
  ·have h:=h7
   rw [class_7'] at h
   obtain ⟨k,rfl⟩:=Int.eq_ofNat_of_zero_le (by omega:0≤op)
   have e1:nameI (k:Int)=nm k:=by unfold nameI;rw [if_pos (by omega)];rfl
   have e2:=sufd k (by omega) (by omega)
   have i1:(nm k).size≤9223372036854775807:=nm_sizeB k
   have i2:ByteArray.size ⟨#[46,100]⟩≤9223372036854775807:=by decide
   by_cases h8:78≤k
   ·have e3:sizeI (k:Int)=8:=by unfold sizeI wiB;rw [if_neg (by simp;omega),if_pos (by simp;omega)]
    (repeat (first | simp (maxSteps:=9^9) only [go_sem,seval,s_class_eq,s_kname_eq,s_hassuf_eq,h7,e1,e2,i1,i2,h8,e3] | simp (disch:=omega) only [w64_d,ipos,ineg,dpos,dneg]))
   ·have e3:sizeI (k:Int)=4:=by unfold sizeI wiB;rw [if_pos (by simp;omega)]
    (repeat (first | simp (maxSteps:=9^9) only [go_sem,seval,s_class_eq,s_kname_eq,s_hassuf_eq,h7,e1,e2,i1,i2,h8,e3] | simp (disch:=omega) only [w64_d,ipos,ineg,dpos,dneg]))
  ·have e3:sizeI op=0:=size_0 (by omega)
   (repeat (first | simp (maxSteps:=9^9) only [go_sem,seval,s_class_eq,s_kname_eq,s_hassuf_eq,h5,h6,h7,e3] | simp (disch:=omega) only [w64_d,ipos,ineg,dpos,dneg]))
 ·simp at h
end
end Go.Proofs.YteclombpnhociaaGreat
set_option maxRecDepth 100000
set_option maxHeartbeats 8000000
namespace Go.Proofs.YteclombpnhociaaGreat
open Go.Am
set_option linter.unusedSimpArgs false
set_option linter.unusedVariables false
noncomputable section
structure ShS where
 id:Nat
 ram:RamS
 h:Int
 t:Int
 b:Int
 R:List Sl
def shC (s:ShS):List Sc:=.p s.ram.id 0 0::.i s.h::.i s.t::.i s.ram.n::.i s.b::tabC s.R
structure ShIs (H:AH) (x:Sc) (s:ShS):Prop where
 x:x=.p s.id 0 0
 o:hg H s.id=.own (shC s)
 r:RamIs H (.p s.ram.id 0 0) s.ram
 l:s.R.length=8
 h1:1≤s.h∧s.h≤8
 t1:1≤s.t∧s.t≤64
theorem tabC_inj {R S:List Sl} (hR:R.length=8) (hS:S.length=8) (h:tabC R=tabC S):R=S:=by
 have a:=decN_enc slC_l dcS_e R
 have b:=decN_enc slC_l dcS_e S
 rw [hR] at a
 rw [hS] at b
 have c:decN 2 dcS 8 (tabC R)=decN 2 dcS 8 (tabC S):=by rw [h]
 have a':decN 2 dcS 8 (tabC R)=some R:=a
 have b':decN 2 dcS 8 (tabC S)=some S:=b
 rw [a',b'] at c
 simpa using c
theorem ShIs.uniq {H:AH} {x:Sc} {s t:ShS} (h:ShIs H x s) (g:ShIs H x t):s=t:=by
 have h1:=h.x.symm.trans g.x
 simp only [Sc.p.injEq,and_true] at h1
 have h2:=h.o
 rw [h1,g.o] at h2
 simp only [AObj.own.injEq,shC,List.cons.injEq,Sc.p.injEq,Sc.i.injEq,and_true] at h2
 obtain ⟨a,b,c,d,e,f⟩:=h2
 have hr:=h.r
 rw [←a] at hr
 have e2:=hr.uniq g.r
 have e3:=tabC_inj g.l h.l f
 cases s
 cases t
 simp only at *
 subst h1 b c e e2 e3
 rfl
def shQ (H:AH) (x:Sc):Option ShS:=open Classical in if h:∃s,ShIs H x s then some h.choose else none
theorem shQ_of {H:AH} {x:Sc} {s:ShS} (h:ShIs H x s):shQ H x=some s:=by
 unfold shQ
 have e:∃s,ShIs H x s:=⟨s,h⟩
 rw [dif_pos e,ShIs.uniq e.choose_spec h]
theorem shQ_inv {H:AH} {x:Sc} {s:ShS} (h:shQ H x=some s):ShIs H x s:=by
 unfold shQ at h
 split at h
 ·rename_i e
  simp only [Option.some.injEq] at h
  rw [←h];exact e.choose_spec
 ·simp at h
theorem ShIs.ne1 {H:AH} {x:Sc} {s:ShS} (h:ShIs H x s):s.id≠s.ram.id:=fun e=>by
 have h1:=h.o
 rw [e,h.r.o] at h1
 simp [shC] at h1
theorem ShIs.ne2 {H:AH} {x:Sc} {s:ShS} (h:ShIs H x s):s.id≠s.ram.mid:=fun e=>by
 have h1:=h.o
 rw [e,h.r.m] at h1
 exact AObj.noConfusion h1
theorem ShIs.lid {H:AH} {x:Sc} {s:ShS} (h:ShIs H x s):s.id < H.length:=hg_lt (by rw [h.o];rfl)
theorem ShIs.app {H:AH} {x:Sc} {s:ShS} (h:ShIs H x s) (X:AH):ShIs (H++X) x s:=⟨h.x,by rw [hg_lt' h.lid];exact h.o,h.r.app X,h.l,h.h1,h.t1⟩
def ShS.to (s:ShS) (M:Nat × MapE) (R:List Sl):ShS:=⟨s.id,s.ram.to M,s.h,s.t,s.b,R⟩
def shSet (H:AH) (s:ShS) (M:Nat × MapE) (R:List Sl):AH:=(H.set s.ram.mid (mapO M)).set s.id (.own (shC (s.to M R)))
theorem shSet_len {H:AH} {s:ShS} {M:Nat × MapE} {R:List Sl}:(shSet H s M R).length=H.length:=by unfold shSet;simp
theorem ShIs.set {H:AH} {x:Sc} {s:ShS} (h:ShIs H x s) {M:Nat × MapE} {R:List Sl} (hM:wfE s.ram.n M) (hR:R.length=8):ShIs (shSet H s M R) x (s.to M R):=by
 refine ⟨h.x,?_,?_,hR,h.h1,h.t1⟩
 ·show hg (shSet H s M R) s.id=_
  unfold shSet
  rw [hg_set_same (by rw [List.length_set];exact h.lid)]
 ·show RamIs (shSet H s M R) (.p s.ram.id 0 0) (s.ram.to M)
  unfold shSet
  exact (h.r.set hM).other h.ne1 h.ne2
theorem ShIs.self {H:AH} {x:Sc} {s:ShS} (h:ShIs H x s):shSet H s s.ram.M s.R=H:=by
 unfold shSet
 rw [h.r.self]
 exact set_self h.o h.lid
theorem shSet_app {H:AH} {x:Sc} {s:ShS} (h:ShIs H x s) (X:AH) (M:Nat × MapE) (R:List Sl):shSet (H++X) s M R=shSet H s M R++X:=by
 unfold shSet
 rw [List.set_append_left _ _ h.r.lmid,List.set_append_left _ _ (by rw [List.length_set];exact h.lid)]
theorem shC_bel {H:AH} {x:Sc} {s:ShS} (h:ShIs H x s) (M:Nat × MapE) (R:List Sl):(AObj.own (shC (s.to M R))).scs.all (Sc.bel H.length)=true:=by
 simp only [AObj.scs,shC,ShS.to,RamS.to,List.all_cons,Sc.bel,Bool.true_and,tabC_bel,Bool.and_true,decide_eq_true_eq]
 exact h.r.lid
theorem ShIs.bel {H:AH} {x:Sc} {s:ShS} (h:ShIs H x s) (hH:belH H=true) (M:Nat × MapE) (R:List Sl):belH (shSet H s M R)=true:=by
 unfold shSet
 exact bel_set' (h.r.bel hH) (by rw [List.length_set];exact shC_bel h M R)
theorem sh_store {H:AH} {x:Sc} {s:ShS} (h:ShIs H x s) {M:Nat × MapE} {R:List Sl} (hM:wfE s.ram.n M) (hR:R.length=8) (X:AH) {a v:BitVec 64} {n:Int} (hn:ldB (s.ram.to M) a n=true) (hi:inR n) :
 s_rstore10 [.c (.p s.ram.id 0 0),.c (.u a),.c (.i n),.c (.u v)] (shSet H s M R++X)=some (.c (.b true),shSet H s (stM M (offN a) n.toNat v) R++X):=by
 have g:=(h.set hM hR).r.app X
 have e:s_rstore10 [.c (.p s.ram.id 0 0),.c (.u a),.c (.i n),.c (.u v)] (shSet H s M R++X)=some (.c (.b (ldB (s.ram.to M) a n)),stH (shSet H s M R++X) (s.ram.to M) a n v):=s_rstore10_eq (v:=v) g (a:=a) hi
 rw [hn] at e
 rw [e]
 unfold stH
 rw [if_pos hn]
 have l2:s.ram.mid < (shSet H s M R).length:=by rw [shSet_len];exact h.r.lmid
 show some (_,(shSet H s M R++X).set s.ram.mid (mapO (stM M (offN a) n.toNat v)))=_
 rw [List.set_append_left _ _ l2]
 unfold shSet
 rw [List.set_comm _ _ h.ne2,List.set_set]
 rfl
theorem sh_tab {H:AH} {x:Sc} {s:ShS} (h:ShIs H x s) {M:Nat × MapE} {R:List Sl} (hM:wfE s.ram.n M) (hR:R.length=8) (X:AH):tabQ (shSet H s M R++X) (.p s.id 5 0)=some R:=by
 have g:=((h.set hM hR).app X).o
 exact tabQ_of (A:=[.p s.ram.id 0 0,.i s.h,.i s.t,.i s.ram.n,.i s.b]) (B:=[]) (by rw [List.append_nil];exact g) hR
theorem sh_setQ {H:AH} {x:Sc} {s:ShS} (h:ShIs H x s) {M:Nat × MapE} {R:List Sl} (hM:wfE s.ram.n M) (hR:R.length=8) (X:AH) (S:List Sl):setQ (shSet H s M R++X) (.p s.id 5 0) S=shSet H s M S++X:=by
 have g:=((h.set hM hR).app X).o
 have:=setQ_of (A:=[.p s.ram.id 0 0,.i s.h,.i s.t,.i s.ram.n,.i s.b]) (B:=[]) (S:=S) (H:=shSet H s M R++X) (id:=s.id) (by rw [List.append_nil];exact g) hR
 rw [show ([Sc.p s.ram.id 0 0,.i s.h,.i s.t,.i s.ram.n,.i s.b]:List Sc).length=5 from rfl] at this
 rw [this,List.append_nil,List.set_append_left _ _ (by rw [shSet_len];exact h.lid)]
 unfold shSet
 rw [List.set_set]
 rfl
def szA (k op:Int):Int:=if k=1 then 4 else if k=7 then 8 else if k=8 then 8 else if k=4 then (if isAB op=true then sizeI op else 0) else if k=5 then (if linkB op=true then sizeI op else 0) else if k=6 then (if condB op=true then sizeI op else 0) else 0
def p2B (s:Int):Bool:=decide (s=1) || (decide (s=2) || (decide (s=4) || decide (s=8)))
def formB (k:Int) (a:BitVec 64) (c s op:Int):Bool:=if k=2∨k=3 then smB c s && p2B s else decide (¬szA k op=0) && (decide (s=szA k op) && (decide (c=0) && decide (a % BitVec.ofInt 64 (szA k op)=0#64)))
def mayB (n:Nat) (k:Int) (a b:BitVec 64) (c s op:Int):Bool:=formB k a c s op && (accP a b c s).all fun p=>hasB n p.a p.n
theorem ite_le8 {p:Prop} [Decidable p] {a b:Int} (ha:0≤a∧a≤8) (hb:0≤b∧b≤8):0≤(if p then a else b)∧(if p then a else b)≤8:=by split <;> assumption
theorem size_le (op:Int):0≤sizeI op∧sizeI op≤8:=by
 unfold sizeI
 repeat' (first | exact ⟨by decide,by decide⟩ | apply ite_le8)
theorem szA_le (k op:Int):0≤szA k op∧szA k op≤8:=by
 have:=size_le op
 unfold szA
 repeat' (first | exact ⟨by decide,by decide⟩ | exact this | apply ite_le8)
theorem p2_and {s:Int} (h:1≤s∧s≤8):(w64 ((BitVec.ofInt 64 s &&& BitVec.ofInt 64 (s - 1)).toNat)=0)=(p2B s=true):=by
 obtain ⟨k,rfl⟩:=Int.eq_ofNat_of_zero_le (show 0≤s by omega)
 have:k=1∨k=2∨k=3∨k=4∨k=5∨k=6∨k=7∨k=8:=by omega
 rcases this with rfl | rfl | rfl | rfl | rfl | rfl | rfl | rfl
 all_goals decide
theorem ab_i_and {P:Program} {t:Nat} {x y:Int}:abin P .and t (.c (.i x)) (.c (.i y))=some (.c (.i (w64 ((BitVec.ofInt 64 x &&& BitVec.ofInt 64 y).toNat)))):=rfl
def s_sformed (args:List AV):Option AV :=
 match args with
 | [.g (.i k::.u a::.u b::.i c::.i s::.i op::.u d::.u o::.b lv::r)]=>if r.length=10∧r.all Sc.pf=true∧r.all Sc.one=true then some (.c (.b (formB k a c s op))) else none
 | _=>none
theorem s_sformed_eq {k a b c s op d o lv r}:s_sformed [.g (.i k::.u a::.u b::.i c::.i s::.i op::.u d::.u o::.b lv::r)]=if r.length=10∧r.all Sc.pf=true∧r.all Sc.one=true then some (.c (.b (formB k a c s op))) else none:=rfl
theorem ok_sformed:PuOk Tryz.prog 53 s_sformed:=by
 refine pu_ok (tab:=[(28,.pu s_saccess),(96,.pu s_smay),(63,.pu s_aisA),(97,.pu s_ksize),(98,.pu s_alink),(99,.pu s_acond)]) hmix (TabOk.cons (e:=.pu s_saccess) ok_saccess (TabOk.cons (e:=.pu s_smay) ok_smay (TabOk.cons (e:=.pu s_aisA) ok_aisA (TabOk.cons (e:=.pu s_ksize) ok_ksize (TabOk.cons (e:=.pu s_alink) ok_alink (TabOk.cons (e:=.pu s_acond) ok_acond TabOk.nil)))))) Tryz.func53 rfl Tryz.results53 Tryz.ntmps53 (by kernel_rfl) (by kernel_rfl) ?_
 intro args v h
 unfold s_sformed at h
 split at h
 ·rename_i k a b c s op d o lv r
  split at h
  ·rename_i hc
   simp only [Option.some.injEq] at h;subst h
   have pr:=hc.2.1
   have lr:=hc.1
   refine ⟨by simp only [List.length_cons,List.length_nil];decide,by first | rfl | simp only [List.all_cons,List.all_nil,AV.pf,Sc.pf,Bool.and_true, *],by first | rfl | simp only [List.all_cons,List.all_nil,AV.pf,Sc.pf,Bool.and_true, *],?_⟩
   have rt:r.take 10=r:=List.take_of_length_le (by omega)
   have ro:=hc.2.2
   have zr:=szA_le k op
   have zn:¬szA k op=0→(BitVec.ofInt 64 (szA k op)=0#64)=False:=fun h=>eq_false fun e=>by
    have:=congrArg BitVec.toNat e
    rw [BitVec.toNat_ofInt] at this
    have e0:(0#64).toNat=0:=rfl
    rw [e0] at this
    omega
   have fin:∀z,¬(k=2∨k=3)→szA k op=z→formB k a c s op=(decide (¬z=0) && (decide (s=z) && (decide (c=0) && decide (a % BitVec.ofInt 64 z=0#64)))):=fun z h1 h2=>by unfold formB;rw [if_neg h1,h2]
   by_cases h2:k=2
   ·subst h2
    cases hm:smB c s
    ·(repeat (first | simp (maxSteps:=9^9) only [go_sem,seval,s_saccess_eq,s_smay_eq,s_aisA_eq,s_ksize_eq,s_alink_eq,s_acond_eq,Sc.pf,lr,rt,ro,pr,hm,formB] | simp (disch:=omega) only [w64_d,ipos,ineg,dpos,dneg]))
    ·have hm':1≤s∧s≤8∧0≤c∧c < s:=by simpa [smB] using hm
     have e1:w64 (s - 1)=s - 1:=w64_d (by omega) (by omega)
     have e2:decide (w64 ((BitVec.ofInt 64 s &&& BitVec.ofInt 64 (s - 1)).toNat)=0)=p2B s:=by simp only [p2_and (s:=s) (by omega),Bool.decide_eq_true]
     (repeat (first | simp (maxSteps:=9^9) only [go_sem,seval,s_saccess_eq,s_smay_eq,s_aisA_eq,s_ksize_eq,s_alink_eq,s_acond_eq,Sc.pf,lr,rt,ro,pr,hm,e1,e2,formB,ab_i_and] | simp (disch:=omega) only [w64_d,ipos,ineg,dpos,dneg]))
   by_cases h3:k=3
   ·subst h3
    cases hm:smB c s
    ·(repeat (first | simp (maxSteps:=9^9) only [go_sem,seval,s_saccess_eq,s_smay_eq,s_aisA_eq,s_ksize_eq,s_alink_eq,s_acond_eq,Sc.pf,lr,rt,ro,pr,hm,formB] | simp (disch:=omega) only [w64_d,ipos,ineg,dpos,dneg]))
    ·have hm':1≤s∧s≤8∧0≤c∧c < s:=by simpa [smB] using hm
     have e1:w64 (s - 1)=s - 1:=w64_d (by omega) (by omega)
     have e2:decide (w64 ((BitVec.ofInt 64 s &&& BitVec.ofInt 64 (s - 1)).toNat)=0)=p2B s:=by simp only [p2_and (s:=s) (by omega),Bool.decide_eq_true]
     (repeat (first | simp (maxSteps:=9^9) only [go_sem,seval,s_saccess_eq,s_smay_eq,s_aisA_eq,s_ksize_eq,s_alink_eq,s_acond_eq,Sc.pf,lr,rt,ro,pr,hm,e1,e2,formB,ab_i_and] | simp (disch:=omega) only [w64_d,ipos,ineg,dpos,dneg]))
   have fin:=fun z=>fin z (by omega)
   by_cases h1:k=1
   ·subst h1
    have hz:szA 1 op=4:=rfl
    rw [fin _ hz]
    (repeat (first | simp (maxSteps:=9^9) only [go_sem,seval,s_saccess_eq,s_smay_eq,s_aisA_eq,s_ksize_eq,s_alink_eq,s_acond_eq,Sc.pf,lr] | simp (disch:=omega) only [w64_d,ipos,ineg,dpos,dneg]))
    repeat' (first
     | (refine cnd_by (fun h=>?_) (fun h=>?_) <;> (try simp only [decide_eq_true_eq,decide_eq_false_iff_not,Bool.not_eq_true',Bool.not_eq_false',Bool.not_eq_true,Bool.not_eq_false,Bool.and_eq_true,beq_iff_eq,beq_eq_false_iff_ne,ne_eq,Bool.or_eq_true] at h) <;> ((repeat (first | simp (maxSteps:=9^9) only [go_sem,seval,h] | simp (disch:=omega) only [w64_d,ipos,ineg,dpos,dneg]))))
     | (refine grd_by (fun h=>?_) (fun h=>?_) <;> (try simp only [decide_eq_true_eq,decide_eq_false_iff_not,Bool.not_eq_true',Bool.not_eq_false',Bool.not_eq_true,Bool.not_eq_false,Bool.and_eq_true,beq_iff_eq,beq_eq_false_iff_ne,ne_eq,Bool.or_eq_true] at h) <;> ((repeat (first | simp (maxSteps:=9^9) only [go_sem,seval,h] | simp (disch:=omega) only [w64_d,ipos,ineg,dpos,dneg]))))
     | (refine grdd_by (fun h=>?_) (fun h=>?_) <;> (try simp only [decide_eq_true_eq,decide_eq_false_iff_not,Bool.not_eq_true',Bool.not_eq_false',Bool.not_eq_true,Bool.not_eq_false,Bool.and_eq_true,beq_iff_eq,beq_eq_false_iff_ne,ne_eq,Bool.or_eq_true] at h) <;> ((repeat (first | simp (maxSteps:=9^9) only [go_sem,seval,h] | simp (disch:=omega) only [w64_d,ipos,ineg,dpos,dneg])))))
    all_goals (simp_all <;> done)
   by_cases h7:k=7
   ·subst h7
    have hz:szA 7 op=8:=rfl
    rw [fin _ hz]
    (repeat (first | simp (maxSteps:=9^9) only [go_sem,seval,s_saccess_eq,s_smay_eq,s_aisA_eq,s_ksize_eq,s_alink_eq,s_acond_eq,Sc.pf,lr] | simp (disch:=omega) only [w64_d,ipos,ineg,dpos,dneg]))
    repeat' (first
     | (refine cnd_by (fun h=>?_) (fun h=>?_) <;> (try simp only [decide_eq_true_eq,decide_eq_false_iff_not,Bool.not_eq_true',Bool.not_eq_false',Bool.not_eq_true,Bool.not_eq_false,Bool.and_eq_true,beq_iff_eq,beq_eq_false_iff_ne,ne_eq,Bool.or_eq_true] at h) <;> ((repeat (first | simp (maxSteps:=9^9) only [go_sem,seval,h] | simp (disch:=omega) only [w64_d,ipos,ineg,dpos,dneg]))))
     | (refine grd_by (fun h=>?_) (fun h=>?_) <;> (try simp only [decide_eq_true_eq,decide_eq_false_iff_not,Bool.not_eq_true',Bool.not_eq_false',Bool.not_eq_true,Bool.not_eq_false,Bool.and_eq_true,beq_iff_eq,beq_eq_false_iff_ne,ne_eq,Bool.or_eq_true] at h) <;> ((repeat (first | simp (maxSteps:=9^9) only [go_sem,seval,h] | simp (disch:=omega) only [w64_d,ipos,ineg,dpos,dneg]))))
     | (refine grdd_by (fun h=>?_) (fun h=>?_) <;> (try simp only [decide_eq_true_eq,decide_eq_false_iff_not,Bool.not_eq_true',Bool.not_eq_false',Bool.not_eq_true,Bool.not_eq_false,Bool.and_eq_true,beq_iff_eq,beq_eq_false_iff_ne,ne_eq,Bool.or_eq_true] at h) <;> ((repeat (first | simp (maxSteps:=9^9) only [go_sem,seval,h] | simp (disch:=omega) only [w64_d,ipos,ineg,dpos,dneg])))))
    all_goals (simp_all <;> done)
   by_cases h8:k=8
   ·subst h8
    have hz:szA 8 op=8:=rfl
    rw [fin _ hz]
    (repeat (first | simp (maxSteps:=9^9) only [go_sem,seval,s_saccess_eq,s_smay_eq,s_aisA_eq,s_ksize_eq,s_alink_eq,s_acond_eq,Sc.pf,lr] | simp (disch:=omega) only [w64_d,ipos,ineg,dpos,dneg]))
    repeat' (first
     | (refine cnd_by (fun h=>?_) (fun h=>?_) <;> (try simp only [decide_eq_true_eq,decide_eq_false_iff_not,Bool.not_eq_true',Bool.not_eq_false',Bool.not_eq_true,Bool.not_eq_false,Bool.and_eq_true,beq_iff_eq,beq_eq_false_iff_ne,ne_eq,Bool.or_eq_true] at h) <;> ((repeat (first | simp (maxSteps:=9^9) only [go_sem,seval,h] | simp (disch:=omega) only [w64_d,ipos,ineg,dpos,dneg]))))
     | (refine grd_by (fun h=>?_) (fun h=>?_) <;> (try simp only [decide_eq_true_eq,decide_eq_false_iff_not,Bool.not_eq_true',Bool.not_eq_false',Bool.not_eq_true,Bool.not_eq_false,Bool.and_eq_true,beq_iff_eq,beq_eq_false_iff_ne,ne_eq,Bool.or_eq_true] at h) <;> ((repeat (first | simp (maxSteps:=9^9) only [go_sem,seval,h] | simp (disch:=omega) only [w64_d,ipos,ineg,dpos,dneg]))))
     | (refine grdd_by (fun h=>?_) (fun h=>?_) <;> (try simp only [decide_eq_true_eq,decide_eq_false_iff_not,Bool.not_eq_true',Bool.not_eq_false',Bool.not_eq_true,Bool.not_eq_false,Bool.and_eq_true,beq_iff_eq,beq_eq_false_iff_ne,ne_eq,Bool.or_eq_true] at h) <;> ((repeat (first | simp (maxSteps:=9^9) only [go_sem,seval,h] | simp (disch:=omega) only [w64_d,ipos,ineg,dpos,dneg])))))
    all_goals (simp_all <;> done)
   by_cases h4:k=4
   ·subst h4
    cases hb:isAB op
    ·have hz:szA 4 op=0:=by simp [szA,hb]
     rw [fin _ hz]
     (repeat (first | simp (maxSteps:=9^9) only [go_sem,seval,s_saccess_eq,s_smay_eq,s_aisA_eq,s_ksize_eq,s_alink_eq,s_acond_eq,Sc.pf,lr,hb] | simp (disch:=omega) only [w64_d,ipos,ineg,dpos,dneg]))
    ·have hz:szA 4 op=sizeI op:=by simp [szA,hb]
     rw [fin _ hz]
     rw [hz] at zn zr
     (repeat (first | simp (maxSteps:=9^9) only [go_sem,seval,s_saccess_eq,s_smay_eq,s_aisA_eq,s_ksize_eq,s_alink_eq,s_acond_eq,Sc.pf,lr,hb] | simp (disch:=omega) only [w64_d,ipos,ineg,dpos,dneg]))
     generalize sizeI op=z at *
     by_cases h0:z=0
     ·(repeat (first | simp (maxSteps:=9^9) only [go_sem,seval,h0] | simp (disch:=omega) only [w64_d,ipos,ineg,dpos,dneg]))
     have z1:=zn h0
     by_cases e1:s=z
     all_goals by_cases e2:c=0
     all_goals (repeat (first | simp (maxSteps:=9^9) only [go_sem,seval,lr,h0,z1,e1,e2] | simp (disch:=omega) only [w64_d,ipos,ineg,dpos,dneg]))
   by_cases h5:k=5
   ·subst h5
    cases hb:linkB op
    ·have hz:szA 5 op=0:=by simp [szA,hb]
     rw [fin _ hz]
     (repeat (first | simp (maxSteps:=9^9) only [go_sem,seval,s_saccess_eq,s_smay_eq,s_aisA_eq,s_ksize_eq,s_alink_eq,s_acond_eq,Sc.pf,lr,hb] | simp (disch:=omega) only [w64_d,ipos,ineg,dpos,dneg]))
    ·have hz:szA 5 op=sizeI op:=by simp [szA,hb]
     rw [fin _ hz]
     rw [hz] at zn zr
     (repeat (first | simp (maxSteps:=9^9) only [go_sem,seval,s_saccess_eq,s_smay_eq,s_aisA_eq,s_ksize_eq,s_alink_eq,s_acond_eq,Sc.pf,lr,hb] | simp (disch:=omega) only [w64_d,ipos,ineg,dpos,dneg]))
     generalize sizeI op=z at *
     by_cases h0:z=0
     ·(repeat (first | simp (maxSteps:=9^9) only [go_sem,seval,h0] | simp (disch:=omega) only [w64_d,ipos,ineg,dpos,dneg]))
     have z1:=zn h0
     by_cases e1:s=z
     all_goals by_cases e2:c=0
     all_goals (repeat (first | simp (maxSteps:=9^9) only [go_sem,seval,lr,h0,z1,e1,e2] | simp (disch:=omega) only [w64_d,ipos,ineg,dpos,dneg]))
   by_cases h6:k=6
   ·subst h6
    cases hb:condB op
    ·have hz:szA 6 op=0:=by simp [szA,hb]
     rw [fin _ hz]
     (repeat (first | simp (maxSteps:=9^9) only [go_sem,seval,s_saccess_eq,s_smay_eq,s_aisA_eq,s_ksize_eq,s_alink_eq,s_acond_eq,Sc.pf,lr,hb] | simp (disch:=omega) only [w64_d,ipos,ineg,dpos,dneg]))
    ·have hz:szA 6 op=sizeI op:=by simp [szA,hb]
     rw [fin _ hz]
     rw [hz] at zn zr
     (repeat (first | simp (maxSteps:=9^9) only [go_sem,seval,s_saccess_eq,s_smay_eq,s_aisA_eq,s_ksize_eq,s_alink_eq,s_acond_eq,Sc.pf,lr,hb] | simp (disch:=omega) only [w64_d,ipos,ineg,dpos,dneg]))
     generalize sizeI op=z at *
     by_cases h0:z=0
     ·(repeat (first | simp (maxSteps:=9^9) only [go_sem,seval,h0] | simp (disch:=omega) only [w64_d,ipos,ineg,dpos,dneg]))
     have z1:=zn h0
     by_cases e1:s=z
     all_goals by_cases e2:c=0
     all_goals (repeat (first | simp (maxSteps:=9^9) only [go_sem,seval,lr,h0,z1,e1,e2] | simp (disch:=omega) only [w64_d,ipos,ineg,dpos,dneg]))
   have hz:szA k op=0:=by simp [szA, *]
   rw [fin _ hz]
   (repeat (first | simp (maxSteps:=9^9) only [go_sem,seval,s_saccess_eq,s_smay_eq,s_aisA_eq,s_ksize_eq,s_alink_eq,s_acond_eq,Sc.pf,lr,h1,h2,h3,h4,h5,h6,h7,h8] | simp (disch:=omega) only [w64_d,ipos,ineg,dpos,dneg]))
  ·simp at h
 ·simp at h
theorem op_makeMap0 {t:Nat}:opnds (.makeMap t none)=[]:=rfl
attribute [go_sem] op_makeMap0 Sc.pf
def wiI (n m:Int):Bool:=decide (1≤n) && decide (n≤m)
def s_swithin (args:List AV):Option AV :=
 match args with
 | [.c (.i n),.c (.i m)]=>some (.c (.b (wiI n m)))
 | _=>none
theorem s_swithin_eq {n m}:s_swithin [.c (.i n),.c (.i m)]=some (.c (.b (wiI n m))):=rfl
theorem ok_swithin:PuOk Tryz.prog 50 s_swithin:=by
 refine pu_ok (tab:=[]) hmix TabOk.nil Tryz.func50 rfl Tryz.results50 Tryz.ntmps50 (by kernel_rfl) (by kernel_rfl) ?_
 intro args v h
 unfold s_swithin at h
 split at h
 ·rename_i n m
  simp only [Option.some.injEq] at h;subst h
  refine ⟨by simp only [List.length_cons,List.length_nil];decide,rfl,rfl,?_⟩
  by_cases h1:1≤n
  all_goals (repeat (first | simp (maxSteps:=9^9) only [go_sem,seval,wiI,h1] | simp (disch:=omega) only [w64_d,ipos,ineg,dpos,dneg]))
 ·simp at h
def rightB14 (h t n b:Int):Bool:=wiI h 8 && (wiI t 64 && (wiI n 4096 && wiI b 32))
def s_sright (args:List AV):Option AV :=
 match args with
 | [.g [.i h,.i t,.i n,.i b]]=>some (.c (.b (rightB14 h t n b)))
 | _=>none
theorem s_sright_eq {h t n b}:s_sright [.g [.i h,.i t,.i n,.i b]]=some (.c (.b (rightB14 h t n b))):=rfl
theorem ok_sright:PuOk Tryz.prog 20 s_sright:=by
 refine pu_ok (tab:=[(50,.pu s_swithin)]) hmix (TabOk.cons (e:=.pu s_swithin) ok_swithin TabOk.nil) Tryz.func20 rfl Tryz.results20 Tryz.ntmps20 (by kernel_rfl) (by kernel_rfl) ?_
 intro args v h
 unfold s_sright at h
 split at h
 ·rename_i h t n b
  simp only [Option.some.injEq] at h;subst h
  refine ⟨by simp only [List.length_cons,List.length_nil];decide,rfl,rfl,?_⟩
  cases h1:wiI h 8
  all_goals cases h2:wiI t 64
  all_goals cases h3:wiI n 4096
  all_goals (repeat (first | simp (maxSteps:=9^9) only [go_sem,seval,s_swithin_eq,rightB14,h1,h2,h3] | simp (disch:=omega) only [w64_d,ipos,ineg,dpos,dneg]))
 ·simp at h
def s_rnew10 (args:List AV) (H:AH):Option (AV × AH) :=
 match args with
 | [.c (.i n)]=>if wiI n 4096=true then some (.t [.c (.p (H.length+1) 0 0),.c (.i 0)],H++[.map 0 [],.own [.i n,.mp H.length]]) else some (.t [.c .nilp,.c (.i 1)],H)
 | _=>none
theorem s_rnew10_eq {H:AH} {n:Int}:s_rnew10 [.c (.i n)] H=if wiI n 4096=true then some (.t [.c (.p (H.length+1) 0 0),.c (.i 0)],H++[.map 0 [],.own [.i n,.mp H.length]]) else some (.t [.c .nilp,.c (.i 1)],H):=rfl
theorem len_rnew10 (args:List AV) (H:AH) (v:AV) (H1:AH) (h:s_rnew10 args H=some (v,H1)):H.length≤H1.length:=by
 unfold s_rnew10 at h
 repeat' split at h
 all_goals simp at h
 all_goals rw [←h.2]
 all_goals simp
theorem ok_rnew10:FpOk Tryz.prog 21 s_rnew10:=by
 refine fp_ok (s:=s_rnew10) (tab:=[]) hmix TabOk.nil Tryz.func21 rfl Tryz.results21 Tryz.ntmps21 (by kernel_rfl) (by kernel_rfl) len_rnew10 ?_
 intro args H v H1 h hargs hH
 unfold s_rnew10 at h
 split at h
 ·rename_i n
  refine ⟨by simp only [List.length_cons,List.length_nil];decide,?_⟩
  by_cases h1:n < 1
  ·rw [if_neg (by unfold wiI;rw [decide_eq_false (by omega)];simp)] at h
   simp only [Option.some.injEq,Prod.mk.injEq] at h
   obtain ⟨rfl,rfl⟩:=h
   (repeat (first | simp (maxSteps:=9^9) only [go_sem,seval,h1] | simp (disch:=omega) only [w64_d,ipos,ineg,dpos,dneg]))
   exact fin_fp rfl (subH_refl _) hH (Nat.le_refl _)
  by_cases h2:4096 < n
  ·rw [if_neg (by unfold wiI;rw [decide_eq_false (show ¬n≤4096 by omega)];simp)] at h
   simp only [Option.some.injEq,Prod.mk.injEq] at h
   obtain ⟨rfl,rfl⟩:=h
   (repeat (first | simp (maxSteps:=9^9) only [go_sem,seval,h1,h2] | simp (disch:=omega) only [w64_d,ipos,ineg,dpos,dneg]))
   exact fin_fp rfl (subH_refl _) hH (Nat.le_refl _)
  ·rw [if_pos (by unfold wiI;rw [decide_eq_true (by omega),decide_eq_true (by omega)];rfl)] at h
   simp only [Option.some.injEq,Prod.mk.injEq] at h
   obtain ⟨rfl,rfl⟩:=h
   (repeat (first | simp (maxSteps:=9^9) only [go_sem,seval,h1,h2] | simp (disch:=omega) only [w64_d,ipos,ineg,dpos,dneg]))
   exact fin_fp (by simp [AV.bel,Sc.bel]) (subH_refl _) (belH_app hH (by simp only [List.mem_cons,List.not_mem_nil,or_false,forall_eq_or_imp,forall_eq];exact ⟨rfl,by simp [AObj.scs,Sc.bel]⟩)) (by simp)
 ·simp at h
def nwS (L:Nat) (h t n b:Int):ShS:=⟨L+3,⟨L+2,L+1,n.toNat,(0,[])⟩,h,t,b,List.replicate 8 z0⟩
def nwH (L:Nat) (h t n b:Int):AH:=[.dead,.map 0 [],.own [.i n,.mp (L+1)],.own (shC (nwS L h t n b))]
theorem nwIs {H:AH} {h t n b:Int} (hr:rightB14 h t n b=true):ShIs (H++nwH H.length h t n b) (.p (H.length+3) 0 0) (nwS H.length h t n b):=by
 simp only [rightB14,wiI,Bool.and_eq_true,decide_eq_true_eq] at hr
 have g:∀k,hg (H++nwH H.length h t n b) (H.length+k)=hg (nwH H.length h t n b) k:=fun k=>hg_len_add
 refine ⟨rfl,g 3,⟨rfl,?_,g 1,⟨List.nodup_nil,fun e he=>by simp [nwS] at he⟩,?_,?_⟩,rfl,by simp only [nwS];omega,by simp only [nwS];omega⟩
 ·show hg (H++nwH H.length h t n b) (H.length+2)=.own [.i ((n.toNat:Nat):Int),.mp (H.length+1)]
  rw [g 2,Int.toNat_of_nonneg (by omega)];rfl
 ·show 1≤n.toNat;omega
 ·show n.toNat≤4096;omega
theorem nw_bel {H:AH} (hH:belH H=true) {h t n b:Int}:belH (H++nwH H.length h t n b)=true:=by
 refine belH_app hH ?_
 unfold nwH
 simp only [List.mem_cons,List.not_mem_nil,or_false,forall_eq_or_imp,forall_eq]
 refine ⟨rfl,rfl,by simp [AObj.scs,Sc.bel],?_⟩
 simp only [AObj.scs,shC,nwS,List.all_cons,Sc.bel,Bool.true_and,tabC_bel,Bool.and_true,decide_eq_true_eq]
 simp
def s_snew (args:List AV) (H:AH):Option (AV × AH) :=
 match args with
 | [.g [.i h,.i t,.i n,.i b]]=>if rightB14 h t n b=true then some (.t [.c (.p (H.length+3) 0 0),.c (.i 0)],H++nwH H.length h t n b) else some (.t [.c .nilp,.c (.i 1)],H)
 | _=>none
theorem s_snew_eq {H:AH} {h t n b:Int}:s_snew [.g [.i h,.i t,.i n,.i b]] H=if rightB14 h t n b=true then some (.t [.c (.p (H.length+3) 0 0),.c (.i 0)],H++nwH H.length h t n b) else some (.t [.c .nilp,.c (.i 1)],H):=rfl
theorem len_snew (args:List AV) (H:AH) (v:AV) (H1:AH) (h:s_snew args H=some (v,H1)):H.length≤H1.length:=by
 unfold s_snew at h
 repeat' split at h
 all_goals simp at h
 all_goals rw [←h.2]
 all_goals simp
theorem ok_snew:FpOk Tryz.prog 4 s_snew:=by
 refine fp_ok (s:=s_snew) (tab:=[(20,.pu s_sright),(21,.fp s_rnew10)]) hmix (TabOk.cons (e:=.pu s_sright) ok_sright (TabOk.cons (e:=.fp s_rnew10) ok_rnew10 TabOk.nil)) Tryz.func4 rfl Tryz.results4 Tryz.ntmps4 (by kernel_rfl) (by kernel_rfl) len_snew ?_
 intro args H v H1 h hargs hH
 unfold s_snew at h
 split at h
 ·rename_i h0 t n b
  refine ⟨by simp only [List.length_cons,List.length_nil];decide,?_⟩
  cases hr:rightB14 h0 t n b
  ·rw [if_neg (by simp [hr])] at h
   simp only [Option.some.injEq,Prod.mk.injEq] at h
   obtain ⟨rfl,rfl⟩:=h
   (repeat (first | simp (maxSteps:=9^9) only [go_sem,seval,s_sright_eq,s_rnew10_eq,hr] | simp (disch:=omega) only [w64_d,ipos,ineg,dpos,dneg]))
   exact fin_fp rfl (subH_app _ _) hH (Nat.le_refl _)
  ·rw [if_pos hr] at h
   simp only [Option.some.injEq,Prod.mk.injEq] at h
   obtain ⟨rfl,rfl⟩:=h
   have hn:wiI n 4096=true:=by simp only [rightB14,Bool.and_eq_true] at hr;exact hr.2.2.1
   have n0:((n.toNat:Nat):Int)=n:=by simp only [wiI,Bool.and_eq_true,decide_eq_true_eq] at hn;omega
   have bb:=nw_bel (h:=h0) (t:=t) (n:=n) (b:=b) hH
   (repeat (first | simp (maxSteps:=9^9) only [go_sem,seval,s_sright_eq,s_rnew10_eq,hr,hn] | simp (disch:=omega) only [w64_d,ipos,ineg,dpos,dneg]))
   refine fin_fp (by simp [AV.bel,Sc.bel,nwH]) ?_ bb (by simp)
   refine subH_pre _ ⟨.inl rfl,.inr rfl,.inr rfl,.inr ?_,trivial⟩
   unfold nwS shC
   rw [n0];rfl
 ·simp at h
def s_smay14 (args:List AV) (H:AH):Option AV :=
 match args with
 | [.c x,.g (.i k::.u a::.u b::.i c::.i s::.i op::.u d::.u o::.b lv::r)] =>
   if askR r then
    match x with
    | .nilp=>some (.c (.b false))
    | x=>(shQ H x).map fun z=>.c (.b (mayB z.ram.n k a b c s op))
   else none
 | _=>none
theorem s_smay14_nil {H:AH} {k:Int} {a b:BitVec 64} {c s op:Int} {d o:BitVec 64} {lv:Bool} {r:List Sc} (h:askR r):s_smay14 [.c .nilp,.g (.i k::.u a::.u b::.i c::.i s::.i op::.u d::.u o::.b lv::r)] H=some (.c (.b false)):=by simp only [s_smay14,h,if_true]
theorem s_smay14_eq {H:AH} {x:Sc} {z:ShS} {k:Int} {a b:BitVec 64} {c s op:Int} {d o:BitVec 64} {lv:Bool} {r:List Sc} (hz:ShIs H x z) (h:askR r):s_smay14 [.c x,.g (.i k::.u a::.u b::.i c::.i s::.i op::.u d::.u o::.b lv::r)] H=some (.c (.b (mayB z.ram.n k a b c s op))):=by
 have hx:=hz.x
 subst hx
 simp only [s_smay14,h,if_true,shQ_of hz,Option.map_some]
theorem p2_sm {k:Int} {a b:BitVec 64} {c s op:Int} (h:formB k a c s op=true):smB c s=true:=by
 unfold formB at h
 split at h
 ·rw [Bool.and_eq_true] at h;exact h.1
 ·simp only [Bool.and_eq_true,decide_eq_true_eq] at h
  obtain ⟨h1,h2,h3,_⟩:=h
  have:=szA_le k op
  simp [smB]
  omega
theorem pc_inR {B:Int→BitVec 64} {l:List Pc} {m:Int} (h:gd2 B l m) (h0:0≤m) {k:Nat} {p:Pc} (hp:l[k]?=some p):1≤p.n∧p.n≤8:=by
 induction l generalizing m k with
 | nil=>simp at hp
 | cons q l ih =>
   obtain ⟨a1,a2,a3,a4,a6⟩:=h
   cases k with
   | zero =>
     simp only [List.getElem?_cons_zero,Option.some.injEq] at hp
     subst hp
     exact ⟨a2,by omega⟩
   | succ k=>exact ih a6 (by omega) (by simpa using hp)
theorem encPb {l:List Pc} {n:Nat}:(l.flatMap encP).all (Sc.bel n)=true:=by rw [List.all_flatMap];exact List.all_eq_true.2 fun _ _=>rfl
theorem ok_smay14:FpOk Tryz.prog 26 (fun args H=>(s_smay14 args H).map fun v=>(v,H)):=by
 refine fq_ok (s:=s_smay14) (tab:=[(53,.pu s_sformed),(28,.pu s_saccess),(54,.fp s_pieces),(55,.fq s_rhas10)]) hmix (TabOk.cons (e:=.pu s_sformed) ok_sformed (TabOk.cons (e:=.pu s_saccess) ok_saccess (TabOk.cons (e:=.fp s_pieces) ok_pieces (TabOk.cons (e:=.fq s_rhas10) ok_rhas10 TabOk.nil)))) Tryz.func26 rfl Tryz.results26 Tryz.ntmps26 (by kernel_rfl) (by kernel_rfl) ?_
 intro args H v h hargs hH
 unfold s_smay14 at h
 split at h
 ·rename_i x k a b c s op d o lv r
  split at h
  ·rename_i hr
   obtain ⟨lr,pr,ro⟩:=hr
   have rt:r.take 10=r:=List.take_of_length_le (by omega)
   refine ⟨by simp only [List.length_cons,List.length_nil];decide,?_,?_⟩
   ·split at h
    ·simp only [Option.some.injEq] at h;subst h;rfl
    ·rw [Option.map_eq_some_iff] at h;obtain ⟨z,_,rfl⟩:=h;rfl
   split at h
   ·simp only [Option.some.injEq] at h;subst h
    (repeat (first | simp (maxSteps:=9^9) only [go_sem,seval] | simp (disch:=omega) only [w64_d,ipos,ineg,dpos,dneg]))
    exact subH_app _ _
   ·rename_i hx
    rw [Option.map_eq_some_iff] at h
    obtain ⟨z,hz,rfl⟩:=h
    have hS:=shQ_inv hz
    have lid:=hS.lid
    have oX:=fun X=>(hS.app X).o
    have hp:=fun X a n hn=>s_rhas10_eq (a:=a) (n:=n) (hS.app X).r hn
    obtain ⟨rfl,-⟩:=hS
    cases hf:formB k a c s op
    ·have e:mayB z.ram.n k a b c s op=false:=by unfold mayB;rw [hf];rfl
     rw [e]
     (repeat (first | simp (maxSteps:=9^9) only [go_sem,seval,s_sformed_eq,s_saccess_eq,s_pieces_eq,s_rhas10_eq,lr,pr,ro,rt,hf] | simp (disch:=omega) only [w64_d,ipos,ineg,dpos,dneg]))
     exact subH_app _ _
    ·have hm:=p2_sm (b:=b) hf
     have e:mayB z.ram.n k a b c s op=(accP a b c s).all fun p=>hasB z.ram.n p.a p.n:=by unfold mayB;rw [hf];rfl
     rw [e]
     have eL:=accL_P a b c s
     have eN:=accN_P a b c s
     have g:=gd2_acc (a:=a) (b:=b) hm
     have l4:=(good_acc (a:=a) (b:=b) hm).2.2
     generalize accP a b c s=l at *
     (repeat (first | simp (maxSteps:=9^9) only [go_sem,seval,s_sformed_eq,s_saccess_eq,s_pieces_eq,s_rhas10_eq,lr,pr,ro,rt,hf,hm,eL,eN] | simp (disch:=omega) only [w64_d,ipos,ineg,dpos,dneg]))
     have fl:(l.flatMap encP).length=3 * l.length:=by rw [fm_len encP_l,Nat.mul_comm]
     have bb:belH (H++[.dead,.dead,.vec 3 (l.flatMap encP)])=true:=belH_app hH (by simp only [List.mem_cons,List.not_mem_nil,or_false,forall_eq_or_imp,forall_eq];exact ⟨rfl,rfl,encPb⟩)
     have hP:∀k p,l[k]?=some p→(hasB z.ram.n p.a p.n=false→(l.all fun p=>hasB z.ram.n p.a p.n)=false)∧((l.take (k+1)).all fun p=>hasB z.ram.n p.a p.n)=(((l.take k).all fun p=>hasB z.ram.n p.a p.n) && hasB z.ram.n p.a p.n):=fun k p hp=>by
      refine ⟨fun h=>List.all_eq_false.2 ⟨p,List.mem_of_getElem? hp,by simp [h]⟩,?_⟩
      rw [List.take_add_one,hp,List.all_append];simp
     rw [arun_loop]
     refine ⟨{k:Nat // k≤l.length∧((l.take k).all fun p=>hasB z.ram.n p.a p.n)=true},fun k=>([(0,.c (.p z.id 0 0)),(16,.c (.sl (H.length+2) 0 (3 * l.length) l.length)),(17,.c (.i l.length)),(18,.c (.i k.1))],H++[.dead,.dead,.vec 3 (l.flatMap encP)]),fun k=>l.length - k.1,⟨0,by omega,rfl⟩,?_,?_⟩
     ·exact Wk.wk (by simp [lo]) (by simp [Am.get]) (by simp [AV.bel,Sc.bel];omega) (subH_pre _ ⟨.inl rfl,.inl rfl,.inr rfl,trivial⟩) bb
     ·rintro ⟨k,hk,hok⟩
      by_cases hlt:k < l.length
      ·obtain ⟨p,hp1⟩:∃p,l[k]?=some p:=⟨_,List.getElem?_eq_getElem hlt⟩
       have e1:w64 ((k:Int)+1)=((k+1:Nat):Int):=by rw [w64_d (by omega) (by omega)];omega
       have g1:=fm_le encP_l (L:=l) (k:=k) hlt
       have g3:=pc_row hp1
       rw [fl] at g1
       obtain ⟨n1,n8⟩:=pc_inR g (by omega) hp1
       have q:=fun X=>hp X p.a p.n ⟨by omega,by omega⟩
       obtain ⟨c1,c2⟩:=hP k p hp1
       cases hb:hasB z.ram.n p.a p.n
       ·have c3:=c1 hb
        (repeat (first | simp (maxSteps:=9^9) only [go_sem,seval,s_sformed_eq,s_saccess_eq,s_pieces_eq,s_rhas10_eq,e1,g1,g3,encP,fl,shC,oX,q,hb,c3,List.take_succ_cons,List.take_zero] | simp (disch:=omega) only [w64_d,ipos,ineg,dpos,dneg]))
        exact subH_app _ _
       ·rw [hok,hb] at c2
        (repeat (first | simp (maxSteps:=9^9) only [go_sem,seval,s_sformed_eq,s_saccess_eq,s_pieces_eq,s_rhas10_eq,e1,g1,g3,encP,fl,shC,oX,q,hb,List.take_succ_cons,List.take_zero] | simp (disch:=omega) only [w64_d,ipos,ineg,dpos,dneg]))
        exact ⟨⟨k+1,by omega,by rw [c2];rfl⟩,by simp only;omega,Wk.wk (by simp [lo]) (by simp [Am.get]) (by simp [AV.bel,Sc.bel];omega) (subH_pre _ ⟨.inl rfl,.inl rfl,.inr rfl,trivial⟩) bb⟩
      ·obtain rfl:k=l.length:=by omega
       rw [List.take_length] at hok
       (repeat (first | simp (maxSteps:=9^9) only [go_sem,seval,hok] | simp (disch:=omega) only [w64_d,ipos,ineg,dpos,dneg]))
       exact subH_app _ _
  ·simp at h
 ·simp at h
def s_sget14 (args:List AV) (H:AH):Option AV :=
 match args with
 | [.c x,.g (.i k::.u a::.u b::.i c::.i s::.i op::.u d::.u o::.b lv::r)] =>
   match shQ H x with
   | some z=>if askR r∧mayB z.ram.n k a b c s op=true then some (.c (.u (getA z.ram.M.2 (byteU a b c) s))) else none
   | none=>none
 | _=>none
theorem s_sget14_eq {H:AH} {x:Sc} {z:ShS} {k:Int} {a b:BitVec 64} {c s op:Int} {d o:BitVec 64} {lv:Bool} {r:List Sc} (hz:ShIs H x z) (h:askR r) (hm:mayB z.ram.n k a b c s op=true):s_sget14 [.c x,.g (.i k::.u a::.u b::.i c::.i s::.i op::.u d::.u o::.b lv::r)] H=some (.c (.u (getA z.ram.M.2 (byteU a b c) s))):=by
 simp only [s_sget14,shQ_of hz]
 rw [if_pos ⟨h,hm⟩]
theorem may_all {n:Nat} {k:Int} {a b:BitVec 64} {c s op:Int} (h:mayB n k a b c s op=true):smB c s=true∧∀p∈accP a b c s,hasB n p.a p.n=true:=by
 unfold mayB at h
 rw [Bool.and_eq_true] at h
 exact ⟨p2_sm (b:=b) h.1,fun p hp=>List.all_eq_true.1 h.2 p hp⟩
def vP (P:List (BitVec 64)) (k:Nat):List (BitVec 64):=P.take k++List.replicate (P.length - k) 0#64
theorem vP_len {P:List (BitVec 64)} {k:Nat} (h:k≤P.length):(vP P k).length=P.length:=by unfold vP;rw [List.length_append,List.length_take,List.length_replicate];omega
theorem vP_set {P:List (BitVec 64)} {k:Nat} {x:BitVec 64} (h:P[k]?=some x):(vP P k).set k x=vP P (k+1):=by
 have hk:k < P.length:=by
  rcases Nat.lt_or_ge k P.length with g | g
  ·exact g
  ·rw [List.getElem?_eq_none g] at h;simp at h
 unfold vP
 rw [List.set_append_right _ _ (by rw [List.length_take];omega),List.length_take,Nat.min_eq_left (by omega),Nat.sub_self,List.take_add_one,h]
 rw [show P.length - k=(P.length - (k+1))+1 by omega,List.replicate_succ,List.set_cons_zero]
 simp
theorem vP_all {P:List (BitVec 64)}:vP P P.length=P:=by unfold vP;simp
theorem vP_0 {P:List (BitVec 64)}:(vP P 0).flatMap encU=(List.replicate P.length [Sc.u 0#64]).flatten:=by
 unfold vP
 rw [List.take_zero,List.nil_append,Nat.sub_zero]
 generalize P.length=n
 induction n with
 | zero=>rfl
 | succ n ih=>rw [List.replicate_succ,List.replicate_succ,List.flatMap_cons,List.flatten_cons,ih];rfl
theorem encU_bel {l:List (BitVec 64)} {n:Nat}:(l.flatMap encU).all (Sc.bel n)=true:=by rw [List.all_flatMap];exact List.all_eq_true.2 fun _ _=>rfl
theorem ok_sget14:FpOk Tryz.prog 32 (fun args H=>(s_sget14 args H).map fun v=>(v,H)):=by
 refine fq_ok (s:=s_sget14) (tab:=[(28,.pu s_saccess),(54,.fp s_pieces),(58,.fq s_rload10),(59,.fq s_sjoin)]) hmix (TabOk.cons (e:=.pu s_saccess) ok_saccess (TabOk.cons (e:=.fp s_pieces) ok_pieces (TabOk.cons (e:=.fq s_rload10) ok_rload10 (TabOk.cons (e:=.fq s_sjoin) ok_sjoin TabOk.nil)))) Tryz.func32 rfl Tryz.results32 Tryz.ntmps32 (by kernel_rfl) (by kernel_rfl) ?_
 intro args H v h hargs hH
 unfold s_sget14 at h
 split at h
 ·rename_i x k a b c s op d o lv r
  split at h
  ·rename_i z hz
   split at h
   ·rename_i hc
    obtain ⟨⟨lr,pr,ro⟩,hmay⟩:=hc
    simp only [Option.some.injEq] at h;subst h
    have rt:r.take 10=r:=List.take_of_length_le (by omega)
    refine ⟨by simp only [List.length_cons,List.length_nil];decide,rfl,?_⟩
    have hS:=shQ_inv hz
    have lid:=hS.lid
    have n2:=hS.r.n2
    have oX:=fun X=>(hS.app X).o
    have hp:=fun X a n hn=>s_rload10_eq (a:=a) (n:=n) (hS.app X).r hn
    obtain ⟨rfl,-⟩:=hS
    obtain ⟨hm,hall⟩:=may_all hmay
    rw [←get_acc (E:=z.ram.M.2) n2 hm hall]
    have eL:=accL_P a b c s
    have eN:=accN_P a b c s
    have g:=gd2_acc (a:=a) (b:=b) hm
    have l4:=(good_acc (a:=a) (b:=b) hm).2.2
    generalize accP a b c s=l at *
    have hPl:(partsA z.ram.M.2 l).length=l.length:=List.length_map ..
    have hPk:∀(k:Nat) (p:Pc),l[k]?=some p→(partsA z.ram.M.2 l)[k]?=some (rdB (memB z.ram.M.2) (offN p.a) p.n.toNat):=fun k p h=>by unfold partsA;rw [List.getElem?_map,h];rfl
    generalize partsA z.ram.M.2 l=P at *
    have fl:(l.flatMap encP).length=3 * l.length:=by rw [fm_len encP_l,Nat.mul_comm]
    have m1:(l.length:Int)≤1048576:=by omega
    have m0:=vP_0 (P:=P)
    rw [hPl] at m0
    have bb:∀k,belH (H++[.dead,.dead,.vec 3 (l.flatMap encP),.vec 1 ((vP P k).flatMap encU)])=true:=fun k=>belH_app hH (by simp only [List.mem_cons,List.not_mem_nil,or_false,forall_eq_or_imp,forall_eq];exact ⟨rfl,rfl,encPb,encU_bel⟩)
    (repeat (first | simp (maxSteps:=9^9) only [go_sem,seval,s_saccess_eq,s_pieces_eq,s_rload10_eq,s_sjoin_eq,lr,pr,ro,rt,hm,eL,eN,m1,←m0,Int.toNat_natCast] | simp (disch:=omega) only [w64_d,ipos,ineg,dpos,dneg]))
    refine arun_for l.length (fun k=>([(0,.c (.p z.id 0 0)),(5,.c (.sl (H.length+2) 0 (3 * l.length) l.length)),(6,.c (.sl (H.length+3) 0 l.length l.length)),(15,.c (.sl (H.length+2) 0 (3 * l.length) l.length)),(16,.c (.i l.length)),(17,.c (.i k))],H++[.dead,.dead,.vec 3 (l.flatMap encP),.vec 1 ((vP P k).flatMap encU)])) ?_ fun k hk=>?_
    ·exact Wk.wk (by simp [lo]) (by simp [Am.get]) (by simp [AV.bel,Sc.bel];omega) (subH_pre _ ⟨.inl rfl,.inl rfl,.inr rfl,.inr rfl,trivial⟩) (bb 0)
    ·have vl:((vP P k).flatMap encU).length=l.length:=by rw [fm_len encU_l,Nat.mul_one,vP_len (by omega),hPl]
     by_cases hlt:k < l.length
     ·obtain ⟨p,hp1⟩:∃p,l[k]?=some p:=⟨_,List.getElem?_eq_getElem hlt⟩
      have e1:w64 ((k:Int)+1)=((k+1:Nat):Int):=by rw [w64_d (by omega) (by omega)];omega
      have g1:=fm_le encP_l (L:=l) (k:=k) hlt
      have g3:=pc_row hp1
      rw [fl] at g1
      obtain ⟨n1,n8⟩:=pc_inR g (by omega) hp1
      have hb:=hall p (List.mem_of_getElem? hp1)
      have q:=fun X=>hp X p.a p.n ⟨by omega,by omega⟩
      have hld:ldB z.ram p.a p.n=true:=by unfold ldB;rw [hb,decide_eq_true (by omega)];rfl
      have hlu:ldU z.ram p.a p.n=rdB (memB z.ram.M.2) (offN p.a) p.n.toNat:=by unfold ldU;rw [if_pos hld]
      have hx:=hPk k p hp1
      rw [←hlu] at hx
      have w1:wr ((vP P k).flatMap encU) k [.u (ldU z.ram p.a p.n)]=(vP P (k+1)).flatMap encU:=by
       have:=wr_fm encU_l (L:=vP P k) (k:=k) (x:=ldU z.ram p.a p.n) (by rw [vP_len (by omega)];omega)
       rw [Nat.mul_one] at this
       rw [←vP_set hx];exact this
      have k1:k+1≤l.length:=hlt
      (repeat (first | simp (maxSteps:=9^9) only [go_sem,seval,s_saccess_eq,s_pieces_eq,s_rload10_eq,s_sjoin_eq,e1,g1,g3,encP,fl,vl,k1,shC,oX,q,hld,w1,List.take_succ_cons,List.take_zero,Int.toNat_natCast] | simp (disch:=omega) only [w64_d,ipos,ineg,dpos,dneg]))
      exact ⟨by repeat' first | apply And.intro | (intro _;kernel_rfl) | kernel_rfl,k+1,by omega,by omega,Wk.wk (by simp [lo]) (by simp [Am.get]) (by simp [AV.bel,Sc.bel];omega) (subH_pre _ ⟨.inl rfl,.inl rfl,.inr rfl,.inr rfl,trivial⟩) (bb (k+1))⟩
     ·obtain rfl:k=l.length:=by omega
      have hj:∀X,s_sjoin [.c (.sl (H.length+2) 0 (3 * l.length) l.length),.c (.sl (H.length+3) 0 l.length l.length)] (H++.dead::.dead::.vec 3 (l.flatMap encP)::.vec 1 ((vP P l.length).flatMap encU)::X)=some (.c (.u (jnU l P 0#64))):=by
       intro X
       have e3:vP P l.length=P:=by rw [←hPl];exact vP_all
       rw [e3] at vl ⊢
       refine s_sjoin_eq (slD_of encP_l dcP_e ?_ rfl ?_) (slD_of encU_l dcU_e ?_ hPl.symm ?_) ⟨by omega,by omega⟩
       ·rw [hg_len_add];show 3 * l.length=(l.flatMap encP).length;rw [fl]
       ·rw [hg_len_add];rfl
       ·rw [hg_len_add];show l.length=(P.flatMap encU).length;rw [vl]
       ·rw [hg_len_add];rfl
      have hj0:=hj []
      (repeat (first | simp (maxSteps:=9^9) only [go_sem,seval,hj0] | simp (disch:=omega) only [w64_d,ipos,ineg,dpos,dneg]))
      exact subH_app _ _
   ·simp at h
  ·simp at h
 ·simp at h
def stA (M:Nat × MapE) (l:List Pc) (v:BitVec 64):Nat × MapE:=l.foldl (fun M p=>stM M (offN p.a) p.n.toNat (partU v p.n p.s)) M
def kiA (R:List Sl) (l:List Pc) (h:Int):List Sl:=l.foldl (fun R p=>killN R (p.a / 64#64) h 8) R
theorem stA_step {M:Nat × MapE} {l:List Pc} {v:BitVec 64} {k:Nat} {p:Pc} (h:l[k]?=some p):stA M (l.take (k+1)) v=stM (stA M (l.take k) v) (offN p.a) p.n.toNat (partU v p.n p.s):=by
 unfold stA
 rw [List.take_add_one,h,List.foldl_append];rfl
theorem kiA_step {R:List Sl} {l:List Pc} {h0:Int} {k:Nat} {p:Pc} (h:l[k]?=some p):kiA R (l.take (k+1)) h0=killN (kiA R (l.take k) h0) (p.a / 64#64) h0 8:=by
 unfold kiA
 rw [List.take_add_one,h,List.foldl_append];rfl
theorem kiA_len {l:List Pc} {h:Int}:∀{R:List Sl},(kiA R l h).length=R.length:=by
 induction l with
 | nil=>intro R;rfl
 | cons p l ih=>intro R;show (kiA (killN R (p.a / 64#64) h 8) l h).length=_;rw [ih,killN_len]
theorem stA_wf {N:Nat} {l:List Pc} {v:BitVec 64}:∀{M:Nat × MapE},wfE N M→(∀p∈l,hasB N p.a p.n=true∧p.n≤8)→wfE N (stA M l v):=by
 induction l with
 | nil=>intro M h _;exact h
 | cons p l ih =>
   intro M h hl
   obtain ⟨h1,h2⟩:=hl p (by simp)
   rw [hasB_iff] at h1
   exact ih (wfE_stM h (by omega) (by omega) (by omega)) fun q hq=>hl q (by simp [hq])
def s_sput14 (args:List AV) (H:AH):Option (AV × AH) :=
 match args with
 | [.c x,.c (.i h),.g (.i k::.u a::.u b::.i c::.i s::.i op::.u d::.u o::.b lv::r),.c (.u v)] =>
   match shQ H x with
   | some z=>if askR r∧mayB z.ram.n k a b c s op=true then some (.t [],shSet H z (stA z.ram.M (accP a b c s) v) (kiA z.R (accP a b c s) h)) else none
   | none=>none
 | _=>none
theorem s_sput14_eq {H:AH} {x:Sc} {z:ShS} {h k:Int} {a b:BitVec 64} {c s op:Int} {d o v:BitVec 64} {lv:Bool} {r:List Sc} (hz:ShIs H x z) (hr:askR r) (hm:mayB z.ram.n k a b c s op=true):s_sput14 [.c x,.c (.i h),.g (.i k::.u a::.u b::.i c::.i s::.i op::.u d::.u o::.b lv::r),.c (.u v)] H=some (.t [],shSet H z (stA z.ram.M (accP a b c s) v) (kiA z.R (accP a b c s) h)):=by
 simp only [s_sput14,shQ_of hz]
 rw [if_pos ⟨hr,hm⟩]
theorem len_sput14 (args:List AV) (H:AH) (v:AV) (H1:AH) (h:s_sput14 args H=some (v,H1)):H.length≤H1.length:=by
 unfold s_sput14 at h
 repeat' split at h
 all_goals simp at h
 all_goals rw [←h.2,shSet_len];exact Nat.le_refl _
theorem ok_sput14:FpOk Tryz.prog 33 s_sput14:=by
 refine fp_ok (s:=s_sput14) (tab:=[(28,.pu s_saccess),(54,.fp s_pieces),(61,.pu s_spart),(60,.fp s_rstore10),(36,.pu s_sline),(62,.fp s_tbkill)]) hmix (TabOk.cons (e:=.pu s_saccess) ok_saccess (TabOk.cons (e:=.fp s_pieces) ok_pieces (TabOk.cons (e:=.pu s_spart) ok_spart (TabOk.cons (e:=.fp s_rstore10) ok_rstore10 (TabOk.cons (e:=.pu s_sline) ok_sline (TabOk.cons (e:=.fp s_tbkill) ok_tbkill TabOk.nil)))))) Tryz.func33 rfl Tryz.results33 Tryz.ntmps33 (by kernel_rfl) (by kernel_rfl) len_sput14 ?_
 intro args H v H1 h hargs hH
 unfold s_sput14 at h
 split at h
 ·rename_i x h0 k a b c s op d o lv r v
  split at h
  ·rename_i z hz
   split at h
   ·rename_i hc
    obtain ⟨⟨lr,pr,ro⟩,hmay⟩:=hc
    simp only [Option.some.injEq,Prod.mk.injEq] at h
    obtain ⟨rfl,rfl⟩:=h
    have rt:r.take 10=r:=List.take_of_length_le (by omega)
    refine ⟨by simp only [List.length_cons,List.length_nil];decide,?_⟩
    have hS:=shQ_inv hz
    have lid:=hS.lid
    have n2:=hS.r.n2
    have hw:=hS.r.w
    have hx:=hS.x
    subst hx
    obtain ⟨hm,hall⟩:=may_all hmay
    have eL:=accL_P a b c s
    have eN:=accN_P a b c s
    have g:=gd2_acc (a:=a) (b:=b) hm
    have l4:=(good_acc (a:=a) (b:=b) hm).2.2
    generalize accP a b c s=l at *
    have fl:(l.flatMap encP).length=3 * l.length:=by rw [fm_len encP_l,Nat.mul_comm]
    have wM:∀k,wfE z.ram.n (stA z.ram.M (l.take k) v):=fun k=>stA_wf hw fun p hp=>by
     have hp:=List.mem_of_mem_take hp
     obtain ⟨j,hj⟩:=List.mem_iff_getElem?.1 hp
     exact ⟨hall p hp,(pc_inR g (by omega) hj).2⟩
    have wR:∀k,(kiA z.R (l.take k) h0).length=8:=fun k=>by rw [kiA_len,hS.l]
    let O:Nat→AH:=fun k=>shSet H z (stA z.ram.M (l.take k) v) (kiA z.R (l.take k) h0)
    let P:Nat→AH:=fun k=>shSet H z (stA z.ram.M (l.take (k+1)) v) (kiA z.R (l.take k) h0)
    have lO:∀k,(O k).length=H.length:=fun k=>shSet_len
    have lP:∀k,(P k).length=H.length:=fun k=>shSet_len
    have bO:∀k,belH (O k)=true:=fun k=>hS.bel hH _ _
    have bb:∀k,belH (O k++[.dead,.dead,.vec 3 (l.flatMap encP)])=true:=fun k=>belH_app (bO k) (by simp only [List.mem_cons,List.not_mem_nil,or_false,forall_eq_or_imp,forall_eq];exact ⟨rfl,rfl,encPb⟩)
    have iO:∀k X,hg (O k++X) z.id=.own (shC (z.to (stA z.ram.M (l.take k) v) (kiA z.R (l.take k) h0))):=fun k X=>((hS.set (wM k) (wR k)).app X).o
    have iP:∀k X,hg (P k++X) z.id=.own (shC (z.to (stA z.ram.M (l.take (k+1)) v) (kiA z.R (l.take k) h0))):=fun k X=>((hS.set (wM (k+1)) (wR k)).app X).o
    have sO:∀k p X,l[k]?=some p→s_rstore10 [.c (.p z.ram.id 0 0),.c (.u p.a),.c (.i p.n),.c (.u (partU v p.n p.s))] (O k++X)=some (.c (.b true),P k++X):=fun k p X hp=>by
     have hn:=pc_inR g (by omega) hp
     have:=sh_store hS (wM k) (wR k) X (a:=p.a) (v:=partU v p.n p.s) (n:=p.n) (by unfold ldB;rw [show (z.ram.to (stA z.ram.M (l.take k) v)).n=z.ram.n from rfl,hall p (List.mem_of_getElem? hp),decide_eq_true hn.2];rfl) ⟨by omega,by omega⟩
     rw [←stA_step hp] at this
     exact this
    have kP:∀k p X,l[k]?=some p→∃n:Nat,s_tbkill [.c (.p z.id 5 0),.c (.u (p.a / 64#64)),.c (.i h0)] (P k++X)=some (.c (.i n),O (k+1)++X):=fun k p X hp=>by
     have e:=s_tbkill_eq (l:=p.a / 64#64) (but:=h0) (sh_tab hS (wM (k+1)) (wR k) X)
     rw [sh_setQ hS (wM (k+1)) (wR k) X,←kiA_step hp] at e
     exact ⟨_,e⟩
    have h1:O 0=H:=hS.self
    have fin:shSet H z (stA z.ram.M l v) (kiA z.R l h0)=O l.length:=by show _=shSet _ _ _ _;rw [List.take_length]
    rw [fin]
    clear_value O P
    have h1X:∀X,H++X=O 0++X:=fun X=>by rw [h1]
    (repeat (first | simp (maxSteps:=9^9) only [go_sem,seval,s_saccess_eq,s_pieces_eq,s_spart_eq,s_rstore10_eq,s_sline_eq,s_tbkill_eq,lr,pr,ro,rt,hm,eL,eN] | simp (disch:=omega) only [w64_d,ipos,ineg,dpos,dneg]))
    refine arun_for l.length (fun k=>([(0,.c (.p z.id 0 0)),(1,.c (.i h0)),(3,.c (.u v)),(12,.c (.sl (H.length+2) 0 (3 * l.length) l.length)),(13,.c (.i l.length)),(14,.c (.i k))],O k++[.dead,.dead,.vec 3 (l.flatMap encP)])) ?_ fun k hk=>?_
    ·exact Wk.wk (by simp [lo,lO]) (by simp [Am.get]) (by simp [AV.bel,Sc.bel,lO];omega) (by rw [h1];exact subH_pre _ ⟨.inl rfl,.inl rfl,.inr rfl,trivial⟩) (bb 0)
    ·by_cases hlt:k < l.length
     ·obtain ⟨p,hp1⟩:∃p,l[k]?=some p:=⟨_,List.getElem?_eq_getElem hlt⟩
      have e1:w64 ((k:Int)+1)=((k+1:Nat):Int):=by rw [w64_d (by omega) (by omega)];omega
      have g1:=fm_le encP_l (L:=l) (k:=k) hlt
      have g3:=pc_row hp1
      rw [fl] at g1
      have hlO:H.length=(O k).length:=(lO k).symm
      have hO2:∀X,hg (O k++X) (H.length+2)=hg X 2:=fun X=>by rw [hlO,hg_len_add]
      have hO3:∀X,hg (O k++X) (H.length+3)=hg X 3:=fun X=>by rw [hlO,hg_len_add]
      have hP3:∀X,hg (P k++X) (H.length+3)=hg X 3:=fun X=>by rw [←lP k,hg_len_add]
      have hs3:∀X o,(O k++X).set (H.length+3) o=O k++X.set 3 o:=fun X o=>by rw [hlO,set_len_add]
      have q1:=fun X=>sO k p X hp1
      obtain ⟨n,q2⟩:=kP k p [.dead,.dead,.vec 3 (l.flatMap encP),.own [.u p.a,.i p.n,.i p.s]] hp1
      (repeat (first | simp (maxSteps:=9^9) only [go_sem,seval,s_saccess_eq,s_pieces_eq,s_spart_eq,s_rstore10_eq,s_sline_eq,s_tbkill_eq,e1,g1,g3,encP,fl,lO,hO2,hO3,hP3,hs3,iO,iP,shC,ShS.to,RamS.to,q1,q2,List.take_succ_cons,List.take_zero,Int.toNat_natCast] | simp (disch:=omega) only [w64_d,ipos,ineg,dpos,dneg]))
      exact ⟨by repeat' first | apply And.intro | (intro _;kernel_rfl) | kernel_rfl,k+1,by omega,by omega,Wk.wk (by simp [lo,lO]) (by simp [Am.get]) (by simp [AV.bel,Sc.bel,lO];omega) (subH_pre _ ⟨.inl rfl,.inl rfl,.inr rfl,trivial⟩) (bb (k+1))⟩
     ·obtain rfl:k=l.length:=by omega
      (repeat (first | simp (maxSteps:=9^9) only [go_sem,seval] | simp (disch:=omega) only [w64_d,ipos,ineg,dpos,dneg]))
      exact fin_fp rfl (subH_app _ _) (bO _) (by rw [lO];exact Nat.le_refl _)
   ·simp at h
  ·simp at h
 ·simp at h
structure Ak where
 k:Int
 a:BitVec 64
 b:BitVec 64
 c:Int
 s:Int
 op:Int
 d:BitVec 64
 o:BitVec 64
 lv:Bool
def Ak.l (q:Ak):List Pc:=accP q.a q.b q.c q.s
def dOk (z:ShS) (h:Int) (q:Ak):Bool:=mayB z.ram.n q.k q.a q.b q.c q.s q.op && (decide (0≤h) && decide (h < z.h))
def dV (z:ShS) (q:Ak):BitVec 64:=getA z.ram.M.2 (byteU q.a q.b q.c) q.s
def dSc (z:ShS) (h:Int) (q:Ak):Bool:=q.lv && hasT z.R h (q.a / 64#64)
def dWr (z:ShS) (h:Int) (q:Ak):Option (BitVec 64) :=
 if dOk z h q=true then
  if q.k=3 then some q.d else if q.k=4 then some (amoU q.op (dV z q) q.d) else if q.k=6 then (if dSc z h q=true then some q.d else none) else if q.k=8 then (if dV z q=q.o then some q.d else none) else none
 else none
def dM (z:ShS) (h:Int) (q:Ak):Nat × MapE:=match dWr z h q with
 | some v=>stA z.ram.M q.l v
 | none=>z.ram.M
def dR1 (z:ShS) (h:Int) (q:Ak):List Sl:=match dWr z h q with
 | some _=>kiA z.R q.l h
 | none=>z.R
def dR (z:ShS) (h:Int) (q:Ak):List Sl:=if dOk z h q=true then (if q.k=5 then setT z.R h ⟨true,q.a / 64#64⟩ else if q.k=6 then setT (dR1 z h q) h z0 else dR1 z h q) else z.R
def dD (z:ShS) (h:Int) (q:Ak):BitVec 64:=if dOk z h q=true then (if q.k=3 then 0#64 else if q.k=6 then 0#64 else dV z q) else 0#64
def dG (z:ShS) (h:Int) (q:Ak):Bool:=if dOk z h q=true then (if q.k=6 then dSc z h q else if q.k=8 then decide (dV z q=q.o) else false) else false
theorem acc_wf {z:ShS} {q:Ak} (hw:wfE z.ram.n z.ram.M) (hm:mayB z.ram.n q.k q.a q.b q.c q.s q.op=true) (v:BitVec 64):wfE z.ram.n (stA z.ram.M q.l v):=by
 obtain ⟨h1,h2⟩:=may_all hm
 refine stA_wf hw fun p hp=>?_
 obtain ⟨j,hj⟩:=List.mem_iff_getElem?.1 hp
 exact ⟨h2 p hp,(pc_inR (gd2_acc (a:=q.a) (b:=q.b) h1) (by omega) hj).2⟩
theorem dOk_may {z:ShS} {h:Int} {q:Ak} (e:dOk z h q=true):mayB z.ram.n q.k q.a q.b q.c q.s q.op=true:=by unfold dOk at e;rw [Bool.and_eq_true] at e;exact e.1
theorem dM_wf {z:ShS} {h:Int} {q:Ak} (hw:wfE z.ram.n z.ram.M):wfE z.ram.n (dM z h q):=by
 unfold dM
 cases e:dWr z h q with
 | none=>exact hw
 | some v =>
   have ho:dOk z h q=true:=by
    unfold dWr at e
    split at e
    ·rename_i h1;exact h1
    ·simp at e
   exact acc_wf hw (dOk_may ho) v
theorem dR1_len {z:ShS} {h:Int} {q:Ak} (hR:z.R.length=8):(dR1 z h q).length=8:=by
 unfold dR1
 split
 ·rw [kiA_len,hR]
 ·exact hR
theorem dR_len {z:ShS} {h:Int} {q:Ak} (hR:z.R.length=8):(dR z h q).length=8:=by
 have:=dR1_len (h:=h) (q:=q) hR
 unfold dR
 repeat' split
 all_goals first | exact hR | exact this | (rw [setT_l];first | exact hR | exact this)
def s_sdo14 (args:List AV) (H:AH):Option (AV × AH) :=
 match args with
 | [.c x,.c (.i h),.g (.i k::.u a::.u b::.i c::.i s::.i op::.u d::.u o::.b lv::r)] =>
   if askR r then
    match x with
    | .nilp=>some (.t [.g (anC 0#64 false),.c (.b false)],H)
    | x=>(shQ H x).map fun z=>(.t [.g (anC (dD z h ⟨k,a,b,c,s,op,d,o,lv⟩) (dG z h ⟨k,a,b,c,s,op,d,o,lv⟩)),.c (.b (dOk z h ⟨k,a,b,c,s,op,d,o,lv⟩))],shSet H z (dM z h ⟨k,a,b,c,s,op,d,o,lv⟩) (dR z h ⟨k,a,b,c,s,op,d,o,lv⟩))
   else none
 | _=>none
theorem s_sdo14_eq {H:AH} {x:Sc} {z:ShS} {h k:Int} {a b:BitVec 64} {c s op:Int} {d o:BitVec 64} {lv:Bool} {r:List Sc} (hz:ShIs H x z) (hr:askR r):s_sdo14 [.c x,.c (.i h),.g (.i k::.u a::.u b::.i c::.i s::.i op::.u d::.u o::.b lv::r)] H=some (.t [.g (anC (dD z h ⟨k,a,b,c,s,op,d,o,lv⟩) (dG z h ⟨k,a,b,c,s,op,d,o,lv⟩)),.c (.b (dOk z h ⟨k,a,b,c,s,op,d,o,lv⟩))],shSet H z (dM z h ⟨k,a,b,c,s,op,d,o,lv⟩) (dR z h ⟨k,a,b,c,s,op,d,o,lv⟩)):=by
 have hx:=hz.x
 subst hx
 simp only [s_sdo14,hr,if_true,shQ_of hz,Option.map_some]
theorem len_sdo14 (args:List AV) (H:AH) (v:AV) (H1:AH) (h:s_sdo14 args H=some (v,H1)):H.length≤H1.length:=by
 unfold s_sdo14 at h
 repeat' split at h
 ·simp at h;rw [←h.2];exact Nat.le_refl _
 ·rw [Option.map_eq_some_iff] at h
  obtain ⟨z,_,h2⟩:=h
  simp only [Prod.mk.injEq] at h2
  rw [←h2.2,shSet_len];exact Nat.le_refl _
 all_goals simp at h
theorem ok_sdo14:FpOk Tryz.prog 13 s_sdo14:=by
 refine fp_ok (s:=s_sdo14) (tab:=[(26,.fq s_smay14),(32,.fq s_sget14),(33,.fp s_sput14),(34,.pu s_amoDo),(35,.fp s_tbset),(36,.pu s_sline),(37,.fq s_tbhas),(38,.fp s_tbclear)]) hmix (TabOk.cons (e:=.fq s_smay14) ok_smay14 (TabOk.cons (e:=.fq s_sget14) ok_sget14 (TabOk.cons (e:=.fp s_sput14) ok_sput14 (TabOk.cons (e:=.pu s_amoDo) ok_amoDo (TabOk.cons (e:=.fp s_tbset) ok_tbset (TabOk.cons (e:=.pu s_sline) ok_sline (TabOk.cons (e:=.fq s_tbhas) ok_tbhas (TabOk.cons (e:=.fp s_tbclear) ok_tbclear TabOk.nil)))))))) Tryz.func13 rfl Tryz.results13 Tryz.ntmps13 (by kernel_rfl) (by kernel_rfl) len_sdo14 ?_
 intro args H v H1 h hargs hH
 unfold s_sdo14 at h
 split at h
 ·rename_i x h0 k a b c s op d o lv r
  split at h
  ·rename_i hr
   have lr:=hr.1
   have pr:=hr.2.1
   have ro:=hr.2.2
   have rt:r.take 10=r:=List.take_of_length_le (by omega)
   refine ⟨by simp only [List.length_cons,List.length_nil];decide,?_⟩
   split at h
   ·simp only [Option.some.injEq,Prod.mk.injEq] at h
    obtain ⟨rfl,rfl⟩:=h
    have p1:=fun H=>s_smay14_nil (H:=H) (k:=k) (a:=a) (b:=b) (c:=c) (s:=s) (op:=op) (d:=d) (o:=o) (lv:=lv) hr
    (repeat (first | simp (maxSteps:=9^9) only [go_sem,seval,lr,ro,rt,p1] | simp (disch:=omega) only [w64_d,ipos,ineg,dpos,dneg]))
    exact fin_fp anT_bel (subH_app _ _) hH (Nat.le_refl _)
   ·rename_i hx
    rw [Option.map_eq_some_iff] at h
    obtain ⟨z,hz,h2⟩:=h
    simp only [Prod.mk.injEq] at h2
    obtain ⟨rfl,rfl⟩:=h2
    have hS:=shQ_inv hz
    have lid:=hS.lid
    have oX:=fun X=>(hS.app X).o
    have slf:=hS.self
    have p1:=fun X=>s_smay14_eq (k:=k) (a:=a) (b:=b) (c:=c) (s:=s) (op:=op) (d:=d) (o:=o) (lv:=lv) (hS.app X) hr
    have p2:=fun X=>s_sget14_eq (k:=k) (a:=a) (b:=b) (c:=c) (s:=s) (op:=op) (d:=d) (o:=o) (lv:=lv) (hS.app X) hr
    have p3:=fun X v=>s_sput14_eq (h:=h0) (k:=k) (a:=a) (b:=b) (c:=c) (s:=s) (op:=op) (d:=d) (o:=o) (lv:=lv) (v:=v) (hS.app X) hr
    obtain ⟨q,hq⟩:∃q:Ak,q=⟨k,a,b,c,s,op,d,o,lv⟩:=⟨_,rfl⟩
    have fz:∀d g q',(AV.t [.g (anC d g),.c (.b q')]).bel (shSet H z (dM z h0 ⟨k,a,b,c,s,op,d,o,lv⟩) (dR z h0 ⟨k,a,b,c,s,op,d,o,lv⟩)).length=true:=fun d g q'=>anT_bel
    have hx:=hS.x
    subst hx
    have no:dOk z h0 ⟨k,a,b,c,s,op,d,o,lv⟩=false→dD z h0 ⟨k,a,b,c,s,op,d,o,lv⟩=0#64∧dG z h0 ⟨k,a,b,c,s,op,d,o,lv⟩=false∧shSet H z (dM z h0 ⟨k,a,b,c,s,op,d,o,lv⟩) (dR z h0 ⟨k,a,b,c,s,op,d,o,lv⟩)=H:=fun e=>by
     refine ⟨by simp [dD,e],by simp [dG,e],?_⟩
     have:dM z h0 ⟨k,a,b,c,s,op,d,o,lv⟩=z.ram.M:=by simp [dM,dWr,e]
     rw [this,show dR z h0 ⟨k,a,b,c,s,op,d,o,lv⟩=z.R by simp [dR,e],slf]
    cases hm:mayB z.ram.n k a b c s op
    ·have e:dOk z h0 ⟨k,a,b,c,s,op,d,o,lv⟩=false:=by unfold dOk;rw [hm];rfl
     obtain ⟨e1,e2,e3⟩:=no e
     rw [e,e1,e2,e3]
     (repeat (first | simp (maxSteps:=9^9) only [go_sem,seval,lr,ro,rt,p1,hm] | simp (disch:=omega) only [w64_d,ipos,ineg,dpos,dneg]))
     exact fin_fp anT_bel (subH_app _ _) hH (Nat.le_refl _)
    by_cases h1:h0 < 0
    ·have e:dOk z h0 ⟨k,a,b,c,s,op,d,o,lv⟩=false:=by unfold dOk;rw [decide_eq_false (show ¬0≤h0 by omega)];simp
     obtain ⟨e1,e2,e3⟩:=no e
     rw [e,e1,e2,e3]
     (repeat (first | simp (maxSteps:=9^9) only [go_sem,seval,lr,ro,rt,p1,hm,h1] | simp (disch:=omega) only [w64_d,ipos,ineg,dpos,dneg]))
     exact fin_fp anT_bel (subH_app _ _) hH (Nat.le_refl _)
    by_cases h2:z.h≤h0
    ·have e:dOk z h0 ⟨k,a,b,c,s,op,d,o,lv⟩=false:=by unfold dOk;rw [decide_eq_false (show ¬h0 < z.h by omega)];simp
     obtain ⟨e1,e2,e3⟩:=no e
     rw [e,e1,e2,e3]
     (repeat (first | simp (maxSteps:=9^9) only [go_sem,seval,lr,ro,rt,p1,hm,h1,h2,oX,shC] | simp (disch:=omega) only [w64_d,ipos,ineg,dpos,dneg]))
     exact fin_fp anT_bel (subH_app _ _) hH (Nat.le_refl _)
    have eok:dOk z h0 ⟨k,a,b,c,s,op,d,o,lv⟩=true:=by unfold dOk;rw [hm,decide_eq_true (show 0≤h0 by omega),decide_eq_true (show h0 < z.h by omega)];rfl
    rw [eok]
    have p2:=fun X=>p2 X hm
    have p3:=fun X v=>p3 X v hm
    simp only [shSet_app hS] at p3
    have bb:=fun M R=>hS.bel hH M R
    have fin:∀d g,(AV.t [.g (anC d g),.c (.b true)]).bel H.length=true:=fun d g=>anT_bel
    have g1:∀M R X,hg (shSet H z M R++X) H.length=hg X 0:=fun M R X=>by rw [←shSet_len (H:=H) (s:=z) (M:=M) (R:=R),hg_len]
    have g2:∀M R X j,hg (shSet H z M R++X) (H.length+j)=hg X j:=fun M R X j=>by rw [←shSet_len (H:=H) (s:=z) (M:=M) (R:=R),hg_len_add]
    have s2:∀M R X j o,(shSet H z M R++X).set (H.length+j) o=shSet H z M R++X.set j o:=fun M R X j o=>by rw [←shSet_len (H:=H) (s:=z) (M:=M) (R:=R),set_len_add]
    have t0:=fun X=>sh_tab hS hS.r.w hS.l X
    have t0':=fun X S=>sh_setQ hS hS.r.w hS.l X S
    rw [slf] at t0 t0'
    have t1:=fun X l=>s_tbset_eq (h:=h0) (l:=l) (t0 X)
    have t2:=fun X l=>s_tbhas_eq (h:=h0) (l:=l) (t0 X)
    have t3:=fun X=>s_tbclear_eq (h:=h0) (t0 X)
    simp only [t0'] at t1 t3
    have t4:∀M R X,wfE z.ram.n M→R.length=8→s_tbclear [.c (.p z.id 5 0),.c (.i h0)] (shSet H z M R++X)=some (.c (.b (at8 R h0).is),shSet H z M (setT R h0 z0)++X):=fun M R X hM hR=>by
     rw [s_tbclear_eq (h:=h0) (sh_tab hS hM hR X),sh_setQ hS hM hR X]
    by_cases k3:k=3
    ·subst k3
     have eD:dD z h0 ⟨3,a,b,c,s,op,d,o,lv⟩=0#64:=by simp [dD,eok]
     have eG:dG z h0 ⟨3,a,b,c,s,op,d,o,lv⟩=false:=by simp [dG,eok]
     have eW:dWr z h0 ⟨3,a,b,c,s,op,d,o,lv⟩=some d:=by simp [dWr,eok]
     have eM:dM z h0 ⟨3,a,b,c,s,op,d,o,lv⟩=stA z.ram.M (accP a b c s) d:=by simp [dM,eW,Ak.l]
     have eR:dR z h0 ⟨3,a,b,c,s,op,d,o,lv⟩=kiA z.R (accP a b c s) h0:=by simp [dR,dR1,eW,eok,Ak.l]
     rw [eD,eG,eM,eR]
     (repeat (first | simp (maxSteps:=9^9) only [go_sem,seval,s_smay14_eq,s_sget14_eq,s_sput14_eq,s_amoDo_eq,s_tbset_eq,s_sline_eq,s_tbhas_eq,s_tbclear_eq,lr,ro,rt,p1,hm,h1,h2,oX,shC,p2,p3,g1,g2,s2] | simp (disch:=omega) only [w64_d,ipos,ineg,dpos,dneg]))
     exact fin_fp anT_bel (subH_app _ _) (bb _ _) (by rw [shSet_len];exact Nat.le_refl _)
    by_cases k4:k=4
    ·subst k4
     have eD:dD z h0 ⟨4,a,b,c,s,op,d,o,lv⟩=getA z.ram.M.2 (byteU a b c) s:=by simp [dD,eok,dV]
     have eG:dG z h0 ⟨4,a,b,c,s,op,d,o,lv⟩=false:=by simp [dG,eok]
     have eW:dWr z h0 ⟨4,a,b,c,s,op,d,o,lv⟩=some (amoU op (getA z.ram.M.2 (byteU a b c) s) d):=by simp [dWr,eok,dV]
     have eM:dM z h0 ⟨4,a,b,c,s,op,d,o,lv⟩=stA z.ram.M (accP a b c s) (amoU op (getA z.ram.M.2 (byteU a b c) s) d):=by simp [dM,eW,Ak.l]
     have eR:dR z h0 ⟨4,a,b,c,s,op,d,o,lv⟩=kiA z.R (accP a b c s) h0:=by simp [dR,dR1,eW,eok,Ak.l]
     rw [eD,eG,eM,eR]
     (repeat (first | simp (maxSteps:=9^9) only [go_sem,seval,s_smay14_eq,s_sget14_eq,s_sput14_eq,s_amoDo_eq,s_tbset_eq,s_sline_eq,s_tbhas_eq,s_tbclear_eq,lr,ro,rt,p1,hm,h1,h2,oX,shC,p2,p3,g1,g2,s2] | simp (disch:=omega) only [w64_d,ipos,ineg,dpos,dneg]))
     exact fin_fp anT_bel (subH_app _ _) (bb _ _) (by rw [shSet_len];exact Nat.le_refl _)
    by_cases k5:k=5
    ·subst k5
     have eD:dD z h0 ⟨5,a,b,c,s,op,d,o,lv⟩=getA z.ram.M.2 (byteU a b c) s:=by simp [dD,eok,dV]
     have eG:dG z h0 ⟨5,a,b,c,s,op,d,o,lv⟩=false:=by simp [dG,eok]
     have eW:dWr z h0 ⟨5,a,b,c,s,op,d,o,lv⟩=none:=by simp [dWr,eok]
     have eM:dM z h0 ⟨5,a,b,c,s,op,d,o,lv⟩=z.ram.M:=by simp [dM,eW]
     have eR:dR z h0 ⟨5,a,b,c,s,op,d,o,lv⟩=setT z.R h0 ⟨true,a / 64#64⟩:=by simp [dR,eok]
     rw [eD,eG,eM,eR]
     (repeat (first | simp (maxSteps:=9^9) only [go_sem,seval,s_smay14_eq,s_sget14_eq,s_sput14_eq,s_amoDo_eq,s_tbset_eq,s_sline_eq,s_tbhas_eq,s_tbclear_eq,lr,ro,rt,p1,hm,h1,h2,oX,shC,p2,p3,g1,g2,s2,t1] | simp (disch:=omega) only [w64_d,ipos,ineg,dpos,dneg]))
     exact fin_fp anT_bel (subH_app _ _) (bb _ _) (by rw [shSet_len];exact Nat.le_refl _)
    by_cases k6:k=6
    ·subst k6
     have eD:dD z h0 ⟨6,a,b,c,s,op,d,o,lv⟩=0#64:=by simp [dD,eok]
     have eG:dG z h0 ⟨6,a,b,c,s,op,d,o,lv⟩=dSc z h0 ⟨6,a,b,c,s,op,d,o,lv⟩:=by simp [dG,eok]
     have eS:dSc z h0 ⟨6,a,b,c,s,op,d,o,lv⟩=(lv && hasT z.R h0 (a / 64#64)):=rfl
     rw [eD,eG]
     cases hg:dSc z h0 ⟨6,a,b,c,s,op,d,o,lv⟩
     ·have eW:dWr z h0 ⟨6,a,b,c,s,op,d,o,lv⟩=none:=by simp [dWr,eok,hg]
      have eM:dM z h0 ⟨6,a,b,c,s,op,d,o,lv⟩=z.ram.M:=by simp [dM,eW]
      have eR:dR z h0 ⟨6,a,b,c,s,op,d,o,lv⟩=setT z.R h0 z0:=by simp [dR,dR1,eW,eok]
      rw [eM,eR]
      rw [hg] at eS
      cases lv
      ·(repeat (first | simp (maxSteps:=9^9) only [go_sem,seval,s_smay14_eq,s_sget14_eq,s_sput14_eq,s_amoDo_eq,s_tbset_eq,s_sline_eq,s_tbhas_eq,s_tbclear_eq,lr,ro,rt,p1,hm,h1,h2,oX,shC,p2,p3,g1,g2,s2,t2,t3] | simp (disch:=omega) only [w64_d,ipos,ineg,dpos,dneg]))
       exact ⟨by repeat' first | apply And.intro | (intro _;kernel_rfl) | kernel_rfl,fin_fp anT_bel (subH_app _ _) (bb _ _) (by rw [shSet_len];exact Nat.le_refl _)⟩
      ·rw [Bool.true_and] at eS
       (repeat (first | simp (maxSteps:=9^9) only [go_sem,seval,s_smay14_eq,s_sget14_eq,s_sput14_eq,s_amoDo_eq,s_tbset_eq,s_sline_eq,s_tbhas_eq,s_tbclear_eq,lr,ro,rt,p1,hm,h1,h2,oX,shC,p2,p3,g1,g2,s2,t2,t3,←eS] | simp (disch:=omega) only [w64_d,ipos,ineg,dpos,dneg]))
       exact ⟨by repeat' first | apply And.intro | (intro _;kernel_rfl) | kernel_rfl,fin_fp anT_bel (subH_app _ _) (bb _ _) (by rw [shSet_len];exact Nat.le_refl _)⟩
     ·have eW:dWr z h0 ⟨6,a,b,c,s,op,d,o,lv⟩=some d:=by simp [dWr,eok,hg]
      have eM:dM z h0 ⟨6,a,b,c,s,op,d,o,lv⟩=stA z.ram.M (accP a b c s) d:=by simp [dM,eW,Ak.l]
      have eR:dR z h0 ⟨6,a,b,c,s,op,d,o,lv⟩=setT (kiA z.R (accP a b c s) h0) h0 z0:=by simp [dR,dR1,eW,eok,Ak.l]
      rw [eM,eR]
      rw [hg] at eS
      have eS:=eS.symm
      rw [Bool.and_eq_true] at eS
      obtain ⟨rfl,eS2⟩:=eS
      have w4:=acc_wf (q:=⟨6,a,b,c,s,op,d,o,true⟩) hS.r.w hm d
      have t4:=fun X=>t4 _ (kiA z.R (accP a b c s) h0) X w4 (by rw [kiA_len];exact hS.l)
      simp only [Ak.l] at t4
      (repeat (first | simp (maxSteps:=9^9) only [go_sem,seval,s_smay14_eq,s_sget14_eq,s_sput14_eq,s_amoDo_eq,s_tbset_eq,s_sline_eq,s_tbhas_eq,s_tbclear_eq,lr,ro,rt,p1,hm,h1,h2,oX,shC,p2,p3,g1,g2,s2,t2,t4,eS2] | simp (disch:=omega) only [w64_d,ipos,ineg,dpos,dneg]))
      exact ⟨by repeat' first | apply And.intro | (intro _;kernel_rfl) | kernel_rfl,fin_fp anT_bel (subH_app _ _) (bb _ _) (by rw [shSet_len];exact Nat.le_refl _)⟩
    by_cases k8:k=8
    ·subst k8
     have eD:dD z h0 ⟨8,a,b,c,s,op,d,o,lv⟩=getA z.ram.M.2 (byteU a b c) s:=by simp [dD,eok,dV]
     have eG:dG z h0 ⟨8,a,b,c,s,op,d,o,lv⟩=decide (getA z.ram.M.2 (byteU a b c) s=o):=by unfold dG;rw [if_pos eok,if_neg (show ¬(8:Int)=6 by decide),if_pos rfl];rfl
     rw [eD,eG]
     by_cases hv:getA z.ram.M.2 (byteU a b c) s=o
     ·have eW:dWr z h0 ⟨8,a,b,c,s,op,d,o,lv⟩=some d:=by simp [dWr,eok,dV,hv]
      have eM:dM z h0 ⟨8,a,b,c,s,op,d,o,lv⟩=stA z.ram.M (accP a b c s) d:=by simp [dM,eW,Ak.l]
      have eR:dR z h0 ⟨8,a,b,c,s,op,d,o,lv⟩=kiA z.R (accP a b c s) h0:=by simp [dR,dR1,eW,eok,Ak.l]
      rw [eM,eR]
      (repeat (first | simp (maxSteps:=9^9) only [go_sem,seval,s_smay14_eq,s_sget14_eq,s_sput14_eq,s_amoDo_eq,s_tbset_eq,s_sline_eq,s_tbhas_eq,s_tbclear_eq,lr,ro,rt,p1,hm,h1,h2,oX,shC,p2,p3,g1,g2,s2,hv] | simp (disch:=omega) only [w64_d,ipos,ineg,dpos,dneg]))
      exact fin_fp anT_bel (subH_app _ _) (bb _ _) (by rw [shSet_len];exact Nat.le_refl _)
     ·have eW:dWr z h0 ⟨8,a,b,c,s,op,d,o,lv⟩=none:=by simp [dWr,eok,dV,hv]
      have eM:dM z h0 ⟨8,a,b,c,s,op,d,o,lv⟩=z.ram.M:=by simp [dM,eW]
      have eR:dR z h0 ⟨8,a,b,c,s,op,d,o,lv⟩=z.R:=by simp [dR,dR1,eW,eok]
      rw [eM,eR,slf]
      (repeat (first | simp (maxSteps:=9^9) only [go_sem,seval,s_smay14_eq,s_sget14_eq,s_sput14_eq,s_amoDo_eq,s_tbset_eq,s_sline_eq,s_tbhas_eq,s_tbclear_eq,lr,ro,rt,p1,hm,h1,h2,oX,shC,p2,p3,g1,g2,s2,hv] | simp (disch:=omega) only [w64_d,ipos,ineg,dpos,dneg]))
      exact fin_fp anT_bel (subH_app _ _) hH (Nat.le_refl _)
    have eD:dD z h0 ⟨k,a,b,c,s,op,d,o,lv⟩=getA z.ram.M.2 (byteU a b c) s:=by simp [dD,eok,dV,k3,k6]
    have eG:dG z h0 ⟨k,a,b,c,s,op,d,o,lv⟩=false:=by simp [dG,eok,k6,k8]
    have eW:dWr z h0 ⟨k,a,b,c,s,op,d,o,lv⟩=none:=by simp [dWr,eok,k3,k4,k6,k8]
    have eM:dM z h0 ⟨k,a,b,c,s,op,d,o,lv⟩=z.ram.M:=by simp [dM,eW]
    have eR:dR z h0 ⟨k,a,b,c,s,op,d,o,lv⟩=z.R:=by simp [dR,dR1,eW,eok,k5,k6]
    rw [eD,eG,eM,eR,slf]
    (repeat (first | simp (maxSteps:=9^9) only [go_sem,seval,s_smay14_eq,s_sget14_eq,s_sput14_eq,s_amoDo_eq,s_tbset_eq,s_sline_eq,s_tbhas_eq,s_tbclear_eq,lr,ro,rt,p1,hm,h1,h2,oX,shC,p2,p3,g1,g2,s2,k3,k4,k5,k6,k8] | simp (disch:=omega) only [w64_d,ipos,ineg,dpos,dneg]))
    exact fin_fp anT_bel (subH_app _ _) hH (Nat.le_refl _)
  ·simp at h
 ·simp at h
end
end Go.Proofs.YteclombpnhociaaGreat
set_option maxRecDepth 100000
set_option maxHeartbeats 8000000
namespace Go.Proofs.YteclombpnhociaaGreat
open Go.Am
set_option linter.unusedSimpArgs false
set_option linter.unusedVariables false
noncomputable section
theorem hasT_eq {R:List Sl} {k:Nat} {y:Sl} {l:BitVec 64} (hk:k < 8) (hy:R[k]?=some y):hasT R k l=(y.is && decide (y.ln=l)):=by
 unfold hasT;rw [in8_k hk,at8_k hk hy];rfl
theorem has_kill {R:List Sl} {l ln:BitVec 64} {b:Int} {k:Nat} (hR:R.length=8) (hk:k < 8):hasT (killN R l b 8) k ln=(hasT R k ln && !(!decide ((k:Int)=b) && decide (l=ln))):=by
 obtain ⟨y,hy⟩:=sl_some hR hk
 have g:=killN_get (R:=R) (l:=l) (but:=b) (j:=k) (k:=8)
 have hB:killB R l b k=(!decide ((k:Int)=b) && (y.is && decide (y.ln=l))):=by unfold killB;rw [hasT_eq hk hy]
 rw [hasT_eq hk hy]
 by_cases h:killB R l b k=true
 ·rw [if_pos ⟨hk,h,by omega⟩] at g
  rw [hasT_eq hk g]
  rw [hB] at h
  simp only [Bool.and_eq_true,decide_eq_true_eq] at h
  obtain ⟨h1,h2,h3⟩:=h
  rw [h1,h2,h3]
  simp [z0]
 ·rw [if_neg (by simp [h]),hy] at g
  rw [hasT_eq hk g]
  rw [hB] at h
  by_cases e:l=ln
  ·subst e
   cases h1:decide ((k:Int)=b) <;> simp_all
  ·rw [decide_eq_false e];simp
theorem has_kiA {ln:BitVec 64} {b:Int} {k:Nat} (hk:k < 8) {l:List Pc}:∀{R:List Sl},R.length=8→hasT (kiA R l b) k ln=(hasT R k ln && !(!decide ((k:Int)=b) && l.any fun p=>decide (p.a / 64#64=ln))):=by
 induction l with
 | nil=>intro R _;simp [kiA]
 | cons p l ih =>
   intro R hR
   show hasT (kiA (killN R (p.a / 64#64) b 8) l b) k ln=_
   rw [ih (by rw [killN_len];exact hR),has_kill hR hk,List.any_cons]
   generalize (l.any fun p=>decide (p.a / 64#64=ln))=u
   generalize decide (p.a / 64#64=ln)=v
   cases hasT R k ln <;> cases decide ((k:Int)=b) <;> cases u <;> cases v <;> rfl
theorem has_setT {R:List Sl} {ln:BitVec 64} {h k:Nat} {y:Sl} (hR:R.length=8) (hh:h < 8) (hk:k < 8):hasT (setT R h y) k ln=if h=k then (y.is && decide (y.ln=ln)) else hasT R k ln:=by
 have e:setT R h y=R.set h y:=by unfold setT;rw [if_pos (in8_k hh)];rfl
 rw [e]
 obtain ⟨x,hx⟩:=sl_some hR hk
 by_cases c:h=k
 ·subst c
  rw [if_pos rfl]
  exact hasT_eq hk (by rw [List.getElem?_set,if_pos rfl,if_pos (by omega)])
 ·rw [if_neg c,hasT_eq hk hx]
  exact hasT_eq hk (by rw [List.getElem?_set,if_neg c];exact hx)
structure Hs where
 h:Int
 q:Ak
 g:Bool
def tchB (q:Ak) (ln:BitVec 64):Bool:=q.l.any fun p=>decide (p.a / 64#64=ln)
def stepC (v:Bool) (x:Hs) (h:Int) (ln:BitVec 64):Bool :=
 if x.h=h then (if x.q.k=6 then false else if x.q.k=5 then decide (x.q.a / 64#64=ln) else v) else if (wrB x.q.k x.g && tchB x.q ln)=true then false else v
def cntBp (P:List Hs) (h:Int) (ln:BitVec 64):Bool:=P.foldl (fun v x=>stepC v x h ln) false
theorem cntB_app {P:List Hs} {x:Hs} {h:Int} {ln:BitVec 64}:cntBp (P++[x]) h ln=stepC (cntBp P h ln) x h ln:=by unfold cntBp;rw [List.foldl_append];rfl
theorem dOk_h {z:ShS} {h:Int} {q:Ak} (e:dOk z h q=true) (hz:z.h≤8):∃k:Nat,h=k∧k < 8:=by
 unfold dOk at e
 simp only [Bool.and_eq_true,decide_eq_true_eq] at e
 exact ⟨h.toNat,by omega,by omega⟩
theorem inv_step {z:ShS} {P:List Hs} {h:Int} {q:Ak} (hz:z.h≤8) (hR:z.R.length=8) (hI:∀(j:Nat) ln,j < 8→hasT z.R j ln=cntBp P j ln) (ok:dOk z h q=true) (j:Nat) (ln:BitVec 64) (hj:j < 8) :
 hasT (dR z h q) j ln=cntBp (P++[⟨h,q,dG z h q⟩]) j ln:=by
 obtain ⟨h,rfl,hh⟩:=dOk_h ok hz
 rw [cntB_app,←hI j ln hj]
 have kc:((h:Int)=(j:Int))=(h=j):=propext (by omega)
 have kd:decide ((j:Int)=(h:Int))=decide (h=j):=decide_eq_decide.2 (by omega)
 unfold stepC
 simp only [kc]
 have r1:hasT (dR1 z h q) j ln=if h=j then hasT z.R j ln else if ((dWr z h q).isSome && tchB q ln)=true then false else hasT z.R j ln:=by
  unfold dR1
  cases dWr z h q with
  | none=>simp
  | some v =>
    simp only [Option.isSome_some,Bool.true_and]
    rw [has_kiA hj hR,kd]
    unfold tchB
    by_cases c:h=j
    ·rw [if_pos c,decide_eq_true c];simp
    ·rw [if_neg c,decide_eq_false c]
     cases (q.l.any fun p=>decide (p.a / 64#64=ln)) <;> simp
 unfold dR
 rw [if_pos ok]
 by_cases k5:q.k=5
 ·rw [if_pos k5,has_setT hR hh hj]
  simp [k5,wrB]
 by_cases k6:q.k=6
 ·rw [if_neg k5,if_pos k6,has_setT (dR1_len hR) hh hj,r1]
  have w:(dWr z h q).isSome=wrB q.k (dG z h q):=by
   simp only [dWr,dG,ok,if_true,k6,wrB]
   cases dSc z h q <;> simp
  rw [w]
  simp only [k6,if_true,z0,Bool.false_and]
  by_cases c:h=j <;> simp [c]
 ·rw [if_neg k5,if_neg k6,r1]
  have w:(dWr z h q).isSome=wrB q.k (dG z h q):=by
   simp only [dWr,dG,ok,if_true,k6,if_false,wrB]
   by_cases k3:q.k=3
   ·simp [k3]
   by_cases k4:q.k=4
   ·simp [k4]
   by_cases k8:q.k=8
   ·simp only [k8]
    by_cases c:dV z q=q.o <;> simp [c]
   ·simp [k3,k4,k8]
  rw [w]
  simp only [k5,k6,if_false]
theorem zA10:askR [.i 0,.b false,.b false,.b false,.u 0#64,.i 0,.i 0,.u 0#64,.i 0,.u 0#64]:=⟨rfl,rfl,rfl⟩
def ksDe:List K:=.n .i64::ksAsk
def isDe (l:List Sc):Prop:=L2 FitK l ksDe
instance decIsDe (l:List Sc):Decidable (isDe l):=Classical.propDecidable _
abbrev De:={l:List Sc // isDe l}
def dcD (cs:List Sc):Option De:=if h:isDe cs then some ⟨cs,h⟩ else none
def dH (e:De):Int:=gi e.1 0
def dQ (e:De):Ak:=⟨gi e.1 1,gu e.1 2,gu e.1 3,gi e.1 4,gi e.1 5,gi e.1 6,gu e.1 7,gu e.1 8,gb e.1 9⟩
abbrev An:=BitVec 64 × Bool
def encA (x:An):List Sc:=anC x.1 x.2
def dcA:List Sc→Option An
 | .u d::.b g::r=>open Classical in if r=zMl then some (d,g) else none
 | _=>none
def hsL (L:List De) (T:List An):List Hs:=List.zipWith (fun e t=>⟨dH e,dQ e,t.2⟩) L T
def okL (L:List De) (T:List An):Prop:=L.length=T.length∧L.length≤1000∧∀e∈L,smB (dQ e).c (dQ e).s=true
instance decOkL (L:List De) (T:List An):Decidable (okL L T):=Classical.propDecidable _
def s_scounts (args:List AV) (H:AH):Option AV :=
 match args with
 | [.c x,.c y,.c (.i h),.c (.u ln)] =>
   match slD 20 dcD H x,slD 42 dcA H y with
   | some L,some T=>if okL L T then some (.c (.b (cntBp (hsL L T) h ln))) else none
   | _,_=>none
 | _=>none
structure Pst where
 M:Nat × MapE
 R:List Sl
 L:List De
 T:List An
def stp (z:ShS) (p:Pst) (e:De):Pst :=
 if dOk (z.to p.M p.R) (dH e) (dQ e)=true then ⟨dM (z.to p.M p.R) (dH e) (dQ e),dR (z.to p.M p.R) (dH e) (dQ e),p.L++[e],p.T++[(dD (z.to p.M p.R) (dH e) (dQ e),dG (z.to p.M p.R) (dH e) (dQ e))]⟩ else p
def stNp (z:ShS) (L:List De) (k:Nat):Pst:=(L.take k).foldl (stp z) ⟨z.ram.M,z.R,[],[]⟩
structure Pin (z:ShS) (k:Nat) (p:Pst):Prop where
 w:wfE z.ram.n p.M
 r:p.R.length=8
 e:p.L.length=p.T.length
 k:p.L.length≤k
 s:∀e∈p.L,smB (dQ e).c (dQ e).s=true
 c:∀(j:Nat) (ln:BitVec 64),j < 8→hasT p.R j ln=cntBp (hsL p.L p.T) j ln
theorem hsL_app {L:List De} {T:List An} (h:L.length=T.length) (e:De) (t:An):hsL (L++[e]) (T++[t])=hsL L T++[⟨dH e,dQ e,t.2⟩]:=by
 unfold hsL
 rw [List.zipWith_append h];rfl
theorem Pin.step {z:ShS} {k:Nat} {p:Pst} (hz:z.h≤8) (h:Pin z k p) (e:De):Pin z (k+1) (stp z p e):=by
 unfold stp
 split
 ·rename_i ok
  refine ⟨dM_wf (z:=z.to p.M p.R) h.w,dR_len (z:=z.to p.M p.R) h.r,by simp only [List.length_append,h.e];rfl,by have:=h.k;simp only [List.length_append,List.length_cons,List.length_nil];omega,?_,?_⟩
  ·intro x hx
   rcases List.mem_append.1 hx with g | g
   ·exact h.s x g
   ·rw [List.mem_singleton] at g
    rw [g]
    exact (may_all (dOk_may ok)).1
  ·intro j ln hj
   rw [hsL_app h.e]
   exact inv_step (z:=z.to p.M p.R) hz h.r h.c ok j ln hj
 ·exact ⟨h.w,h.r,h.e,by have:=h.k;omega,h.s,h.c⟩
def s_spairs (args:List AV) (H:AH):Option AV :=
 match args with
 | [.c x]=>match slD 20 dcD H x with
   | some L=>if L.length≤9223372036854775807 then some (.c (.b true)) else none
   | none=>none
 | _=>none
end
end Go.Proofs.YteclombpnhociaaGreat
set_option maxRecDepth 100000
set_option maxHeartbeats 8000000
namespace Go.Proofs.YteclombpnhociaaGreat
open Go.Am
set_option linter.unusedSimpArgs false
set_option linter.unusedVariables false
noncomputable section
def s_sneeds (args:List AV) (H:AH):Option (AV × AH) :=
 match args with
 | [.c x,.g (.i k::.u a::.u b::.i c::.i s::.i op::.u d::.u o::.b lv::r)] =>
   if askR r then
    match x with
    | .nilp=>some (.c .nils,H)
    | x=>match shQ H x with
      | some z=>if mayB z.ram.n k a b c s op=true then some (.c (.sl (H.length+1) 0 (strL a b c s z.t).length (ddp (srt ltI (strL a b c s z.t))).length),H++[.dead,.vec 1 (cmpCI (srt ltI (strL a b c s z.t)))]) else some (.c .nils,H)
      | none=>none
   else none
 | _=>none
theorem s_sneeds_eq {H:AH} {x:Sc} {z:ShS} {k:Int} {a b:BitVec 64} {c s op:Int} {d o:BitVec 64} {lv:Bool} {r:List Sc} (hz:ShIs H x z) (h:askR r):s_sneeds [.c x,.g (.i k::.u a::.u b::.i c::.i s::.i op::.u d::.u o::.b lv::r)] H=if mayB z.ram.n k a b c s op=true then some (.c (.sl (H.length+1) 0 (strL a b c s z.t).length (ddp (srt ltI (strL a b c s z.t))).length),H++[.dead,.vec 1 (cmpCI (srt ltI (strL a b c s z.t)))]) else some (.c .nils,H):=by
 have hx:=hz.x
 subst hx
 simp only [s_sneeds,h,if_true,shQ_of hz]
theorem len_sneeds (args:List AV) (H:AH) (v:AV) (H1:AH) (h:s_sneeds args H=some (v,H1)):H.length≤H1.length:=by
 unfold s_sneeds at h
 repeat' split at h
 all_goals simp at h
 all_goals rw [←h.2]
 all_goals simp
theorem ok_sneeds:FpOk Tryz.prog 9 s_sneeds:=by
 refine fp_ok (s:=s_sneeds) (tab:=[(26,.fq s_smay14),(28,.pu s_saccess),(27,.fp s_stripes)]) hmix (TabOk.cons (e:=.fq s_smay14) ok_smay14 (TabOk.cons (e:=.pu s_saccess) ok_saccess (TabOk.cons (e:=.fp s_stripes) ok_stripes TabOk.nil))) Tryz.func9 rfl Tryz.results9 Tryz.ntmps9 (by kernel_rfl) (by kernel_rfl) len_sneeds ?_
 intro args H v H1 h hargs hH
 unfold s_sneeds at h
 split at h
 ·rename_i x k a b c s op d o lv r
  split at h
  ·rename_i hr
   have lr:=hr.1
   have pr:=hr.2.1
   have ro:=hr.2.2
   have rt:r.take 10=r:=List.take_of_length_le (by omega)
   refine ⟨by simp only [List.length_cons,List.length_nil];decide,?_⟩
   split at h
   ·simp only [Option.some.injEq,Prod.mk.injEq] at h
    obtain ⟨rfl,rfl⟩:=h
    have p1:=fun H=>s_smay14_nil (H:=H) (k:=k) (a:=a) (b:=b) (c:=c) (s:=s) (op:=op) (d:=d) (o:=o) (lv:=lv) hr
    (repeat (first | simp (maxSteps:=9^9) only [go_sem,seval,lr,ro,rt,p1] | simp (disch:=omega) only [w64_d,ipos,ineg,dpos,dneg]))
    exact fin_fp rfl (subH_app _ _) hH (Nat.le_refl _)
   ·split at h
    ·rename_i z hz
     have hS:=shQ_inv hz
     have lid:=hS.lid
     have oX:=fun X=>(hS.app X).o
     have p1:=fun X=>s_smay14_eq (k:=k) (a:=a) (b:=b) (c:=c) (s:=s) (op:=op) (d:=d) (o:=o) (lv:=lv) (hS.app X) hr
     have t1:=hS.t1
     have hx:=hS.x
     subst hx
     have i1:inR z.t:=⟨by omega,by omega⟩
     cases hm:mayB z.ram.n k a b c s op
     ·rw [hm,if_neg (by decide)] at h
      simp only [Option.some.injEq,Prod.mk.injEq] at h
      obtain ⟨rfl,rfl⟩:=h
      (repeat (first | simp (maxSteps:=9^9) only [go_sem,seval,s_smay14_eq,s_saccess_eq,s_stripes_eq,lr,pr,ro,rt,p1,hm] | simp (disch:=omega) only [w64_d,ipos,ineg,dpos,dneg]))
      exact fin_fp rfl (subH_app _ _) hH (Nat.le_refl _)
     ·rw [hm,if_pos rfl] at h
      simp only [Option.some.injEq,Prod.mk.injEq] at h
      obtain ⟨rfl,rfl⟩:=h
      have sm:=(may_all hm).1
      have q:=fun H=>s_stripes_eq (a:=a) (b:=b) (c:=c) (s:=s) (st:=z.t) (H:=H) i1
      simp only [sm,if_true] at q
      (repeat (first | simp (maxSteps:=9^9) only [go_sem,seval,s_smay14_eq,s_saccess_eq,s_stripes_eq,lr,pr,ro,rt,p1,hm,oX,shC,q] | simp (disch:=omega) only [w64_d,ipos,ineg,dpos,dneg]))
      have bb:belH (H++[.dead,.vec 1 (cmpCI (srt ltI (strL a b c s z.t)))])=true:=belH_app hH (by simp only [List.mem_cons,List.not_mem_nil,or_false,forall_eq_or_imp,forall_eq];exact ⟨rfl,cmpCI_bel⟩)
      exact fin_fp (by simp [AV.bel,Sc.bel]) (subH_pre _ ⟨.inl rfl,.inr rfl,trivial⟩) bb (by simp)
    ·simp at h
  ·simp at h
 ·simp at h
def s_sram (args:List AV) (H:AH):Option AV :=
 match args with
 | [.c .nilp]=>some (.c .nilp)
 | [.c x]=>(shQ H x).map fun z=>.c (.p z.ram.id 0 0)
 | _=>none
theorem s_sram_eq {H:AH} {x:Sc} {z:ShS} (hz:ShIs H x z):s_sram [.c x] H=some (.c (.p z.ram.id 0 0)):=by
 have hx:=hz.x
 subst hx
 simp only [s_sram,shQ_of hz,Option.map_some]
theorem ok_sram:FpOk Tryz.prog 17 (fun args H=>(s_sram args H).map fun v=>(v,H)):=by
 refine fq_ok (s:=s_sram) (tab:=[]) hmix TabOk.nil Tryz.func17 rfl Tryz.results17 Tryz.ntmps17 (by kernel_rfl) (by kernel_rfl) ?_
 intro args H v h hargs hH
 unfold s_sram at h
 split at h
 ·simp only [Option.some.injEq] at h
  subst h
  refine ⟨by simp only [List.length_cons,List.length_nil];decide,rfl,?_⟩
  (repeat (first | simp (maxSteps:=9^9) only [go_sem,seval] | simp (disch:=omega) only [w64_d,ipos,ineg,dpos,dneg]))
  exact subH_refl _
 ·rename_i x hx
  rw [Option.map_eq_some_iff] at h
  obtain ⟨z,hz,rfl⟩:=h
  have hS:=shQ_inv hz
  refine ⟨by simp only [List.length_cons,List.length_nil];decide,by simp only [AV.bel,Sc.bel,decide_eq_true_eq];exact hS.r.lid,?_⟩
  obtain ⟨rfl,ho,-⟩:=hS
  (repeat (first | simp (maxSteps:=9^9) only [go_sem,seval,ho,shC] | simp (disch:=omega) only [w64_d,ipos,ineg,dpos,dneg]))
  exact subH_refl _
 ·simp at h
def s_sconf (args:List AV) (H:AH):Option AV :=
 match args with
 | [.c .nilp]=>some (.g [.i 0,.i 0,.i 0,.i 0])
 | [.c x]=>(shQ H x).map fun z=>.g [.i z.h,.i z.t,.i z.ram.n,.i z.b]
 | _=>none
def zTb:List Sc:=(List.replicate 8 (Sc.b false))++(List.replicate 8 (Sc.u 0#64))
def s_r14new (args:List AV) (H:AH):Option (AV × AH) :=
 match args with
 | [.g [.i h,.i t,.i n,.i b]]=>if 1≤n∧n≤4096 then some (.g (.i h::.i t::.i n::.i b::.sl (H.length+3) 0 (64 * n.toNat) (64 * n.toNat)::zTb),H++[.dead,.dead,.dead,.vec 1 (List.replicate (64 * n.toNat) (.k .u8 0))]) else none
 | _=>none
theorem len_r14new (args:List AV) (H:AH) (v:AV) (H1:AH) (h:s_r14new args H=some (v,H1)):H.length≤H1.length:=by
 unfold s_r14new at h
 repeat' split at h
 all_goals simp at h
 rw [←h.2]
 simp
def s_r10new (args:List AV) (H:AH):Option (AV × AH) :=
 match args with
 | [.c (.i n)]=>if 1≤n∧n≤4096 then some (.g [.sl (H.length+1) 0 (64 * n.toNat) (64 * n.toNat)],H++[.dead,.vec 1 (List.replicate (64 * n.toNat) (.k .u8 0))]) else none
 | _=>none
theorem s_r10new_eq {H:AH} {n:Int} (h:1≤n∧n≤4096):s_r10new [.c (.i n)] H=some (.g [.sl (H.length+1) 0 (64 * n.toNat) (64 * n.toNat)],H++[.dead,.vec 1 (List.replicate (64 * n.toNat) (.k .u8 0))]):=by simp only [s_r10new];rw [if_pos h]
theorem len_r10new (args:List AV) (H:AH) (v:AV) (H1:AH) (h:s_r10new args H=some (v,H1)):H.length≤H1.length:=by
 unfold s_r10new at h
 repeat' split at h
 all_goals simp at h
 rw [←h.2]
 simp
theorem rep_flat {n:Nat} {s:Sc}:(List.replicate n [s]).flatten=List.replicate n s:=by
 induction n with
 | zero=>rfl
 | succ n ih=>rw [List.replicate_succ,List.flatten_cons,ih,List.replicate_succ];rfl
theorem rep_bel {n m:Nat} {s:Sc} (h:s.num=true):(List.replicate n s).all (Sc.bel m)=true:=by rw [List.all_eq_true];intro x hx;rw [List.eq_of_mem_replicate hx];exact Sc.num_bel h m
theorem ok_r10new:FpOk Tryz.prog 22 s_r10new:=by
 refine fp_ok (s:=s_r10new) (tab:=[]) hmix TabOk.nil Tryz.func22 rfl Tryz.results22 Tryz.ntmps22 (by kernel_rfl) (by kernel_rfl) len_r10new ?_
 intro args H v H1 h hargs hH
 unfold s_r10new at h
 split at h
 ·rename_i n
  split at h
  ·rename_i hn
   simp only [Option.some.injEq,Prod.mk.injEq] at h
   obtain ⟨rfl,rfl⟩:=h
   refine ⟨by simp only [List.length_cons,List.length_nil];decide,?_⟩
   obtain ⟨m,rfl⟩:=Int.eq_ofNat_of_zero_le (show 0≤n by omega)
   have e1:w64 (64 * (m:Int))=((64 * m:Nat):Int):=by rw [w64_d (by omega) (by omega)];omega
   have e2:((64 * m:Nat):Int)≤1048576:=by omega
   have e3:(0:Int)≤((64 * m:Nat):Int):=by omega
   have bb:belH (H++[.dead,.vec 1 (List.replicate (64 * m) (.k .u8 0))])=true:=belH_app hH (by simp only [List.mem_cons,List.not_mem_nil,or_false,forall_eq_or_imp,forall_eq];exact ⟨rfl,rep_bel rfl⟩)
   (repeat (first | simp (maxSteps:=9^9) only [go_sem,seval,e1,e2,e3,rep_flat,Int.toNat_natCast] | simp (disch:=omega) only [w64_d,ipos,ineg,dpos,dneg]))
   exact fin_fp (by simp [AV.bel,Sc.bel]) (subH_pre _ ⟨.inl rfl,.inr rfl,trivial⟩) bb (by simp)
  ·simp at h
 ·simp at h
theorem s_r14new_eq {H:AH} {h t n b:Int} (hn:1≤n∧n≤4096):s_r14new [.g [.i h,.i t,.i n,.i b]] H=some (.g (.i h::.i t::.i n::.i b::.sl (H.length+3) 0 (64 * n.toNat) (64 * n.toNat)::zTb),H++[.dead,.dead,.dead,.vec 1 (List.replicate (64 * n.toNat) (.k .u8 0))]):=by simp only [s_r14new];rw [if_pos hn]
theorem ok_r14new:FpOk Tryz.prog 7 s_r14new:=by
 refine fp_ok (s:=s_r14new) (tab:=[(22,.fp s_r10new)]) hmix (TabOk.cons (e:=.fp s_r10new) ok_r10new TabOk.nil) Tryz.func7 rfl Tryz.results7 Tryz.ntmps7 (by kernel_rfl) (by kernel_rfl) len_r14new ?_
 intro args H v H1 h hargs hH
 unfold s_r14new at h
 split at h
 ·rename_i h0 t n b
  split at h
  ·rename_i hn
   simp only [Option.some.injEq,Prod.mk.injEq] at h
   obtain ⟨rfl,rfl⟩:=h
   refine ⟨by simp only [List.length_cons,List.length_nil];decide,?_⟩
   have q:=fun H=>s_r10new_eq (H:=H) hn
   have bb:belH (H++[.dead,.dead,.dead,.vec 1 (List.replicate (64 * n.toNat) (.k .u8 0))])=true:=belH_app hH (by simp only [List.mem_cons,List.not_mem_nil,or_false,forall_eq_or_imp,forall_eq];exact ⟨rfl,rfl,rfl,rep_bel rfl⟩)
   (repeat (first | simp (maxSteps:=9^9) only [go_sem,seval,q] | simp (disch:=omega) only [w64_d,ipos,ineg,dpos,dneg]))
   exact ⟨by repeat' first | apply And.intro | (intro _;kernel_rfl) | kernel_rfl,fin_fp (v:=.g (.i h0::.i t::.i n::.i b::.sl (H.length+3) 0 (64 * n.toNat) (64 * n.toNat)::zTb)) (by simp only [AV.bel,List.all_cons,Sc.bel];simp [zTb,Sc.bel]) (subH_pre _ ⟨.inl rfl,.inl rfl,.inl rfl,.inr rfl,trivial⟩) bb (by simp)⟩
  ·simp at h
 ·simp at h
def rszA (k op:Int):Int:=if k=2∨k=3 then 0 else if szA k op=0 then -1 else szA k op
theorem szp14 {op:Int} (h:67≤op∧op≤88):sizeI op=4∨sizeI op=8:=by
 obtain ⟨k,rfl⟩:=Int.eq_ofNat_of_zero_le (show 0≤op by omega)
 have:∀k:Nat,k < 89→67≤k→(sizeI k=4∨sizeI k=8):=by decide +kernel
 exact this k (by omega) (by omega)
theorem link_in {op:Int} (h:linkB op=true):67≤op∧op≤88:=by
 unfold linkB at h
 repeat' split at h
 all_goals simp at h
 all_goals omega
theorem cond_in {op:Int} (h:condB op=true):67≤op∧op≤88:=by
 unfold condB at h
 repeat' split at h
 all_goals simp at h
 all_goals omega
theorem isA_in {op:Int} (h:isAB op=true):67≤op∧op≤88:=by rw [isA_eq] at h;omega
def s_rsize14 (args:List AV):Option AV :=
 match args with
 | [.g (.i k::.u a::.u b::.i c::.i s::.i op::.u d::.u o::.b lv::r)]=>if r.length=10∧r.all Sc.pf=true∧r.all Sc.one=true then some (.c (.i (rszA k op))) else none
 | _=>none
theorem s_rsize14_eq {k a b c s op d o lv r}:s_rsize14 [.g (.i k::.u a::.u b::.i c::.i s::.i op::.u d::.u o::.b lv::r)]=if r.length=10∧r.all Sc.pf=true∧r.all Sc.one=true then some (.c (.i (rszA k op))) else none:=rfl
theorem ok_rsize14:PuOk Tryz.prog 70 s_rsize14:=by
 refine pu_ok (tab:=[(77,.pu s_ris8),(78,.pu s_rksize)]) hmix (TabOk.cons (e:=.pu s_ris8) ok_ris8 (TabOk.cons (e:=.pu s_rksize) ok_rksize TabOk.nil)) Tryz.func70 rfl Tryz.results70 Tryz.ntmps70 (by kernel_rfl) (by kernel_rfl) ?_
 intro args v h
 unfold s_rsize14 at h
 split at h
 ·rename_i k a b c s op d o lv r
  split at h
  ·rename_i hc
   simp only [Option.some.injEq] at h;subst h
   have pr:=hc.2.1
   have lr:=hc.1
   refine ⟨by simp only [List.length_cons,List.length_nil];decide,by first | rfl | simp only [List.all_cons,List.all_nil,AV.pf,Sc.pf,Bool.and_true, *],by first | rfl | simp only [List.all_cons,List.all_nil,AV.pf,Sc.pf,Bool.and_true, *],?_⟩
   have rt:r.take 10=r:=List.take_of_length_le (by omega)
   have ro:=hc.2.2
   by_cases h2:k=2
   ·subst h2
    (repeat (first | simp (maxSteps:=9^9) only [go_sem,seval,lr,rszA] | simp (disch:=omega) only [w64_d,ipos,ineg,dpos,dneg]))
   by_cases h3:k=3
   ·subst h3
    (repeat (first | simp (maxSteps:=9^9) only [go_sem,seval,lr,rszA] | simp (disch:=omega) only [w64_d,ipos,ineg,dpos,dneg]))
   have e:rszA k op=if szA k op=0 then -1 else szA k op:=by unfold rszA;rw [if_neg (by omega)]
   rw [e]
   by_cases h1:k=1
   ·subst h1
    (repeat (first | simp (maxSteps:=9^9) only [go_sem,seval,lr,szA] | simp (disch:=omega) only [w64_d,ipos,ineg,dpos,dneg]))
   by_cases h7:k=7
   ·subst h7
    (repeat (first | simp (maxSteps:=9^9) only [go_sem,seval,lr,szA] | simp (disch:=omega) only [w64_d,ipos,ineg,dpos,dneg]))
   by_cases h8:k=8
   ·subst h8
    (repeat (first | simp (maxSteps:=9^9) only [go_sem,seval,lr,szA] | simp (disch:=omega) only [w64_d,ipos,ineg,dpos,dneg]))
   by_cases h4:k=4
   ·subst h4
    have i1:(isI op=1)=(isAB op=true):=isI_1
    cases hb:isAB op
    ·(repeat (first | simp (maxSteps:=9^9) only [go_sem,seval,s_ris8_eq,s_rksize_eq,lr,szA,i1,hb] | simp (disch:=omega) only [w64_d,ipos,ineg,dpos,dneg]))
    ·have z:=szp14 (isA_in hb)
     have z0:¬sizeI op=0:=by omega
     (repeat (first | simp (maxSteps:=9^9) only [go_sem,seval,s_ris8_eq,s_rksize_eq,lr,szA,i1,hb,z0] | simp (disch:=omega) only [w64_d,ipos,ineg,dpos,dneg]))
   by_cases h5:k=5
   ·subst h5
    have i1:(isI op=2)=(linkB op=true):=isI_2
    cases hb:linkB op
    ·(repeat (first | simp (maxSteps:=9^9) only [go_sem,seval,s_ris8_eq,s_rksize_eq,lr,szA,i1,hb] | simp (disch:=omega) only [w64_d,ipos,ineg,dpos,dneg]))
    ·have z:=szp14 (link_in hb)
     have z0:¬sizeI op=0:=by omega
     (repeat (first | simp (maxSteps:=9^9) only [go_sem,seval,s_ris8_eq,s_rksize_eq,lr,szA,i1,hb,z0] | simp (disch:=omega) only [w64_d,ipos,ineg,dpos,dneg]))
   by_cases h6:k=6
   ·subst h6
    have i1:(isI op=3)=(condB op=true):=isI_3
    cases hb:condB op
    ·(repeat (first | simp (maxSteps:=9^9) only [go_sem,seval,s_ris8_eq,s_rksize_eq,lr,szA,i1,hb] | simp (disch:=omega) only [w64_d,ipos,ineg,dpos,dneg]))
    ·have z:=szp14 (cond_in hb)
     have z0:¬sizeI op=0:=by omega
     (repeat (first | simp (maxSteps:=9^9) only [go_sem,seval,s_ris8_eq,s_rksize_eq,lr,szA,i1,hb,z0] | simp (disch:=omega) only [w64_d,ipos,ineg,dpos,dneg]))
   ·have z:szA k op=0:=by unfold szA;rw [if_neg h1,if_neg h7,if_neg h8,if_neg h4,if_neg h5,if_neg h6]
    (repeat (first | simp (maxSteps:=9^9) only [go_sem,seval,lr,z,h1,h2,h3,h4,h5,h6,h7,h8] | simp (disch:=omega) only [w64_d,ipos,ineg,dpos,dneg]))
  ·simp at h
 ·simp at h
def hasM (N:Nat) (x:BitVec 64) (n:Int):Bool:=decide (1≤n) && (decide (2147483648≤x.toNat) && (decide (offN x < N) && decide (n≤((N - offN x:Nat):Int))))
theorem hasM_B {n:Nat} {x:BitVec 64} {m:Int}:hasM (64 * n) x m=hasB n x m:=rfl
def s_rhasb (args:List AV) (H:AH):Option AV :=
 match args with
 | [.g [.sl id off v N],.c (.u a),.c (.i n)]=>if N≤262144∧inR n then some (.c (.b (hasM N a n))) else none
 | _=>none
theorem s_rhasb_eq {H:AH} {id off v N:Nat} {a:BitVec 64} {n:Int} (h:N≤262144∧inR n):s_rhasb [.g [.sl id off v N],.c (.u a),.c (.i n)] H=some (.c (.b (hasM N a n))):=by simp only [s_rhasb];rw [if_pos h]
theorem ok_rhasb:FpOk Tryz.prog 72 (fun args H=>(s_rhasb args H).map fun v=>(v,H)):=by
 refine fq_ok (s:=s_rhasb) (tab:=[]) hmix TabOk.nil Tryz.func72 rfl Tryz.results72 Tryz.ntmps72 (by kernel_rfl) (by kernel_rfl) ?_
 intro args H v h hargs hH
 unfold s_rhasb at h
 split at h
 ·rename_i id off v N a n
  split at h
  ·rename_i hn
   obtain ⟨hN,i1,i2⟩:=hn
   simp only [Option.some.injEq] at h
   subst h
   refine ⟨by simp only [List.length_cons,List.length_nil];decide,rfl,?_⟩
   by_cases h1:n < 1
   ·have e:hasM N a n=false:=by unfold hasM;rw [decide_eq_false (by omega)];rfl
    (repeat (first | simp (maxSteps:=9^9) only [go_sem,seval,h1,e] | simp (disch:=omega) only [w64_d,ipos,ineg,dpos,dneg]))
    exact subH_app _ _
   have eb:(a < 2147483648#64)=(a.toNat < 2147483648):=by rw [BitVec.lt_def];rfl
   by_cases h2:a.toNat < 2147483648
   ·have e:hasM N a n=false:=by unfold hasM;rw [decide_eq_false (show ¬2147483648≤a.toNat by omega)];simp
    (repeat (first | simp (maxSteps:=9^9) only [go_sem,seval,h1,eb,h2,e] | simp (disch:=omega) only [w64_d,ipos,ineg,dpos,dneg]))
    exact subH_app _ _
   have h3:=base_nat (a:=a) (by omega)
   have e0:(BitVec.ofInt 64 (N:Int)).toNat=N:=ofI_nat (by omega)
   have e1:(BitVec.ofInt 64 (N:Int)≤a - 2147483648#64)=(N≤offN a):=by rw [BitVec.le_def,h3,e0]
   by_cases h4:N≤offN a
   ·have e:hasM N a n=false:=by unfold hasM;rw [decide_eq_false (show ¬offN a < N by omega)];simp
    (repeat (first | simp (maxSteps:=9^9) only [go_sem,seval,h1,eb,h2,e1,h4,e] | simp (disch:=omega) only [w64_d,ipos,ineg,dpos,dneg]))
    exact subH_app _ _
   ·have e2:(a - 2147483648#64).toInt=(offN a:Int):=by rw [BitVec.toInt_eq_toNat_cond,h3,if_pos (by omega)]
    have e3:w64 ((N:Int) - (offN a:Int))=((N - offN a:Nat):Int):=by rw [w64_d (by omega) (by omega)];omega
    have e:hasM N a n=decide (n≤((N - offN a:Nat):Int)):=by unfold hasM;rw [decide_eq_true (by omega),decide_eq_true (by omega),decide_eq_true (show offN a < N by omega)];simp
    (repeat (first | simp (maxSteps:=9^9) only [go_sem,seval,h1,eb,h2,e1,h4,e2,e3,e] | simp (disch:=omega) only [w64_d,ipos,ineg,dpos,dneg]))
    exact subH_app _ _
  ·simp at h
 ·simp at h
theorem pc_bytes {n:Nat} (hn:n≤4096) {p:Pc} (h1:1≤p.n) (h8:p.n≤8) (hl:∀j:Int,0≤j→j < p.n→(p.a+BitVec.ofInt 64 j) / 64#64=p.a / 64#64):hasB n p.a p.n=true ↔ ∀j:Int,0≤j→j < p.n→hasM (64 * n) (p.a+BitVec.ofInt 64 j) 1=true:=by
 constructor
 ·intro h j j0 j1
  have e:=off_add hn h j0 j1
  have h':=h
  rw [hasB_iff] at h'
  have e0:(BitVec.ofInt 64 j).toNat=j.toNat:=by rw [BitVec.toNat_ofInt];omega
  have e2:(p.a+BitVec.ofInt 64 j).toNat=p.a.toNat+j.toNat:=by
   rw [BitVec.toNat_add,e0]
   have:=p.a.isLt
   rw [offN_eq] at h'
   omega
  rw [hasM_B,hasB_iff,e,e2]
  omega
 ·intro h
  have z:=h 0 (by omega) (by omega)
  have z1:p.a+BitVec.ofInt 64 0=p.a:=BitVec.add_zero _
  rw [z1,hasM_B,hasB_iff] at z
  have y:=h (p.n - 1) (by omega) (by omega)
  rw [hasM_B,hasB_iff] at y
  have e0:(BitVec.ofInt 64 (p.n - 1)).toNat=(p.n - 1).toNat:=by rw [BitVec.toNat_ofInt];omega
  have z':=z
  rw [offN_eq] at z'
  have e2:(p.a+BitVec.ofInt 64 (p.n - 1)).toNat=p.a.toNat+(p.n - 1).toNat:=by
   rw [BitVec.toNat_add,e0]
   have:=p.a.isLt
   omega
  rw [offN_eq,e2] at y
  rw [hasB_iff]
  rw [offN_eq] at z ⊢
  omega
theorem all_bytes {n:Nat} (hn:n≤4096) {B:Int→BitVec 64} {l:List Pc}:∀{m:Int},0≤m→gd2 B l m→((l.all fun p=>hasB n p.a p.n)=true ↔ ∀i:Int,m≤i→i < m+tot l→hasM (64 * n) (B i) 1=true):=by
 induction l with
 | nil=>intro m _ _;simp only [List.all_nil,tot];exact ⟨fun _ i h1 h2=>by omega,fun _=>trivial⟩
 | cons p l ih =>
   intro m h0 h
   obtain ⟨a1,a2,a3,a4,a6⟩:=h
   have ih:=ih (by omega) a6
   have t0:=tot_drop a6 0
   rw [List.drop_zero] at t0
   have pb:=pc_bytes hn a2 (by omega) (fun j j0 j1=>(a4 j j0 j1).2)
   rw [List.all_cons,Bool.and_eq_true,ih,pb]
   simp only [tot]
   constructor
   ·rintro ⟨h1,h2⟩ i i1 i2
    by_cases c:i < m+p.n
    ·have e:=(a4 (i - m) (by omega) (by omega)).1
     rw [show m+(i - m)=i by omega] at e
     rw [e];exact h1 _ (by omega) (by omega)
    ·exact h2 i (by omega) (by omega)
   ·intro h
    refine ⟨fun j j0 j1=>?_,fun i i1 i2=>h i (by omega) (by omega)⟩
    have e:=(a4 j j0 j1).1
    rw [←e];exact h _ (by omega) (by omega)
theorem may_bytes {n:Nat} (hn:n≤4096) {a b:BitVec 64} {c s:Int} (h:smB c s=true):((accP a b c s).all fun p=>hasB n p.a p.n)=true ↔ ∀i:Int,0≤i→i < s→hasM (64 * n) (byteU a b c i) 1=true:=by
 have:=all_bytes hn (Int.le_refl 0) (gd2_acc (a:=a) (b:=b) h)
 rw [(good_acc (a:=a) (b:=b) h).2.1,Int.zero_add] at this
 exact this
def formR (k:Int) (a:BitVec 64) (c s op:Int):Bool :=
 if rszA k op < 0 then false else if rszA k op=0 then (decide (s=1) || (decide (s=2) || (decide (s=4) || decide (s=8)))) && (decide (0≤c) && decide (c < s))
 else decide (s=rszA k op) && (decide (c=0) && decide (a % BitVec.ofInt 64 (rszA k op)=0#64))
theorem form_R {k:Int} {a:BitVec 64} {c s op:Int}:formR k a c s op=formB k a c s op:=by
 have zr:=szA_le k op
 unfold formR formB rszA
 by_cases h:k=2∨k=3
 ·rw [if_pos h,if_pos h,if_neg (by decide),if_pos rfl]
  rw [Bool.eq_iff_iff]
  simp only [p2B,smB,Bool.and_eq_true,Bool.or_eq_true,decide_eq_true_eq]
  omega
 ·rw [if_neg h,if_neg h]
  by_cases hz:szA k op=0
  ·rw [if_pos hz,if_pos (by decide),hz];rfl
  ·rw [if_neg hz,if_neg (by omega),if_neg hz,decide_eq_true hz,Bool.true_and]
def tbO (tb:List Sc):Prop:=tb.length=16∧tb.all Sc.pf=true∧tb.all Sc.one=true
def s_rmay14 (args:List AV) (H:AH):Option AV :=
 match args with
 | [.g (.i h::.i t::.i n'::.i b'::.sl id off v N::tb),.g (.i k::.u a::.u b::.i c::.i s::.i op::.u d::.u o::.b lv::r)] =>
   open Classical in if askR r∧inR s∧tbO tb∧∃n,N=64 * n∧n≤4096 then some (.c (.b (mayB (N / 64) k a b c s op))) else none
 | _=>none
theorem s_rmay14_eqT {H:AH} {tb:List Sc} (ht:tbO tb) {h t n' b':Int} {id off v n:Nat} {k:Int} {a b:BitVec 64} {c s op:Int} {d o:BitVec 64} {lv:Bool} {r:List Sc} (hr:askR r) (hs:inR s) (hn:n≤4096):s_rmay14 [.g (.i h::.i t::.i n'::.i b'::.sl id off v (64 * n)::tb),.g (.i k::.u a::.u b::.i c::.i s::.i op::.u d::.u o::.b lv::r)] H=some (.c (.b (mayB n k a b c s op))):=by
 simp only [s_rmay14]
 rw [if_pos ⟨hr,hs,ht,n,rfl,hn⟩,Nat.mul_div_cancel_left _ (by decide)]
theorem ok_rmay14:FpOk Tryz.prog 39 (fun args H=>(s_rmay14 args H).map fun v=>(v,H)):=by
 refine fq_ok (s:=s_rmay14) (tab:=[(70,.pu s_rsize14),(71,.pu s_r14access),(73,.pu s_rbyte),(72,.fq s_rhasb)]) hmix (TabOk.cons (e:=.pu s_rsize14) ok_rsize14 (TabOk.cons (e:=.pu s_r14access) ok_r14access (TabOk.cons (e:=.pu s_rbyte) ok_rbyte (TabOk.cons (e:=.fq s_rhasb) ok_rhasb TabOk.nil)))) Tryz.func39 rfl Tryz.results39 Tryz.ntmps39 (by kernel_rfl) (by kernel_rfl) ?_
 intro args H v h hargs hH
 unfold s_rmay14 at h
 split at h
 ·rename_i h0 t n' b' id off v N tb k a b c s op d o lv r
  split at h
  ·rename_i hc
   obtain ⟨⟨lr,pr,ro⟩,hs,ht,n,rfl,hn⟩:=hc
   rw [Nat.mul_div_cancel_left _ (by decide)] at h
   simp only [Option.some.injEq] at h
   subst h
   have rt:r.take 10=r:=List.take_of_length_le (by omega)
   obtain ⟨tl,tp,to⟩:=ht
   have tt:tb.take 16=tb:=List.take_of_length_le (by omega)
   refine ⟨by simp only [List.length_cons,List.length_nil];decide,rfl,?_⟩
   have lid:id < H.length:=by simp only [List.all_cons,AV.bel,Sc.bel,Bool.and_eq_true,decide_eq_true_eq] at hargs;exact hargs.1.2.2.2.2.1
   have eF:=form_R (k:=k) (a:=a) (c:=c) (s:=s) (op:=op)
   have zn:¬rszA k op=0→¬rszA k op < 0→(BitVec.ofInt 64 (rszA k op)=0#64)=False:=fun h1 h2=>eq_false fun e=>by
    have z1:=szA_le k op
    have z2:rszA k op≤8:=by
     unfold rszA
     split
     ·omega
     ·split <;> omega
    have:=congrArg BitVec.toNat e
    rw [BitVec.toNat_ofInt] at this
    have e0:(0#64).toNat=0:=rfl
    rw [e0] at this
    omega
   cases hf:formB k a c s op
   ·have e:mayB n k a b c s op=false:=by unfold mayB;rw [hf];rfl
    rw [e]
    rw [hf] at eF
    unfold formR at eF
    by_cases h1:rszA k op < 0
    ·(repeat (first | simp (maxSteps:=9^9) only [go_sem,seval,s_rsize14_eq,s_r14access_eq,s_rbyte_eq,s_rhasb_eq,lr,pr,ro,rt,tl,to,h1] | simp (disch:=omega) only [w64_d,ipos,ineg,dpos,dneg]))
     exact subH_app _ _
    by_cases h2:rszA k op=0
    ·rw [if_neg h1,if_pos h2] at eF
     by_cases hx:s=1∨s=2∨s=4∨s=8
     ·have x:((s=1)=True∧True)∨((s=1)=False∧(s=2)=True)∨((s=1)=False∧(s=2)=False∧(s=4)=True)∨((s=1)=False∧(s=2)=False∧(s=4)=False∧(s=8)=True):=by
       rcases hx with h | h | h | h
       ·exact .inl ⟨eq_true h,trivial⟩
       ·exact .inr (.inl ⟨eq_false (by omega),eq_true h⟩)
       ·exact .inr (.inr (.inl ⟨eq_false (by omega),eq_false (by omega),eq_true h⟩))
       ·exact .inr (.inr (.inr ⟨eq_false (by omega),eq_false (by omega),eq_false (by omega),eq_true h⟩))
      by_cases c0:c < 0
      ·rcases x with x | x | x | x
       all_goals (repeat (first | simp (maxSteps:=9^9) only [go_sem,seval,s_rsize14_eq,s_r14access_eq,s_rbyte_eq,s_rhasb_eq,lr,pr,ro,rt,tl,to,h1,h2,x,c0] | simp (disch:=omega) only [w64_d,ipos,ineg,dpos,dneg]))
       all_goals exact subH_app _ _
      ·have c1:s≤c:=by
        rcases hx with h | h | h | h
        all_goals (rw [h] at eF ⊢;simp at eF;omega)
       rcases x with x | x | x | x
       all_goals (repeat (first | simp (maxSteps:=9^9) only [go_sem,seval,s_rsize14_eq,s_r14access_eq,s_rbyte_eq,s_rhasb_eq,lr,pr,ro,rt,tl,to,h1,h2,x,c0,c1] | simp (disch:=omega) only [w64_d,ipos,ineg,dpos,dneg]))
       all_goals exact subH_app _ _
     ·have y1:¬s=1:=fun h=>hx (.inl h)
      have y2:¬s=2:=fun h=>hx (.inr (.inl h))
      have y4:¬s=4:=fun h=>hx (.inr (.inr (.inl h)))
      have y8:¬s=8:=fun h=>hx (.inr (.inr (.inr h)))
      (repeat (first | simp (maxSteps:=9^9) only [go_sem,seval,s_rsize14_eq,s_r14access_eq,s_rbyte_eq,s_rhasb_eq,lr,pr,ro,rt,tl,to,h1,h2,y1,y2,y4,y8] | simp (disch:=omega) only [w64_d,ipos,ineg,dpos,dneg]))
      exact subH_app _ _
    ·rw [if_neg h1,if_neg h2] at eF
     have h3:0 < rszA k op:=by omega
     have z:=zn h2 h1
     by_cases x1:s=rszA k op
     ·by_cases x2:c=0
      ·have x3:¬a % BitVec.ofInt 64 (rszA k op)=0#64:=by
        intro e;rw [decide_eq_true x1,decide_eq_true x2,decide_eq_true e] at eF;simp at eF
       have x1':=eq_true x1
       (repeat (first | simp (maxSteps:=9^9) only [go_sem,seval,s_rsize14_eq,s_r14access_eq,s_rbyte_eq,s_rhasb_eq,lr,pr,ro,rt,tl,to,h1,h2,h3,z,x1',x2,x3] | simp (disch:=omega) only [w64_d,ipos,ineg,dpos,dneg]))
       exact subH_app _ _
      ·have x1':=eq_true x1
       (repeat (first | simp (maxSteps:=9^9) only [go_sem,seval,s_rsize14_eq,s_r14access_eq,s_rbyte_eq,s_rhasb_eq,lr,pr,ro,rt,tl,to,h1,h2,h3,z,x1',x2] | simp (disch:=omega) only [w64_d,ipos,ineg,dpos,dneg]))
       exact subH_app _ _
     ·(repeat (first | simp (maxSteps:=9^9) only [go_sem,seval,s_rsize14_eq,s_r14access_eq,s_rbyte_eq,s_rhasb_eq,lr,pr,ro,rt,tl,to,h1,h2,h3,z,x1] | simp (disch:=omega) only [w64_d,ipos,ineg,dpos,dneg]))
      exact subH_app _ _
   ·have hm:=p2_sm (b:=b) hf
    have hs8:1≤s∧s≤8∧0≤c∧c < s:=by simpa [smB] using hm
    have e:mayB n k a b c s op=(accP a b c s).all fun p=>hasB n p.a p.n:=by unfold mayB;rw [hf];rfl
    rw [e]
    have mb:=may_bytes (a:=a) (b:=b) hn hm
    have bS:belH (H++[.own (.i h0::.i t::.i n'::.i b'::.sl id off v (64 * n)::tb),.own (.i k::.u a::.u b::.i c::.i s::.i op::.u d::.u o::.b lv::r),.own [.u a,.u b,.i c,.i s]])=true:=belH_app hH (by
     simp only [List.mem_cons,List.not_mem_nil,or_false,forall_eq_or_imp,forall_eq,AObj.scs,List.all_cons,Sc.bel,Bool.true_and,Bool.and_eq_true,decide_eq_true_eq,List.length_append,List.length_cons,List.length_nil]
     exact ⟨⟨by omega,pf_bel _ tp⟩,pf_bel _ pr,rfl⟩)
    generalize ((accP a b c s).all fun p=>hasB n p.a p.n)=G at mb
    rw [hf] at eF
    unfold formR at eF
    have h1:¬rszA k op < 0:=fun h=>by rw [if_pos h] at eF;simp at eF
    by_cases h2:rszA k op=0
    ·rw [if_neg h1,if_pos h2] at eF
     have c0:¬c < 0:=by omega
     have c1:¬s≤c:=by omega
     simp only [Bool.and_eq_true,Bool.or_eq_true,decide_eq_true_eq] at eF
     have x:((s=1)=True∧True)∨((s=1)=False∧(s=2)=True)∨((s=1)=False∧(s=2)=False∧(s=4)=True)∨((s=1)=False∧(s=2)=False∧(s=4)=False∧(s=8)=True):=by
      rcases eF.1 with h | h | h | h
      ·exact .inl ⟨eq_true h,trivial⟩
      ·exact .inr (.inl ⟨eq_false (by omega),eq_true h⟩)
      ·exact .inr (.inr (.inl ⟨eq_false (by omega),eq_false (by omega),eq_true h⟩))
      ·exact .inr (.inr (.inr ⟨eq_false (by omega),eq_false (by omega),eq_false (by omega),eq_true h⟩))
     rcases x with x | x | x | x
     all_goals (repeat (first | simp (maxSteps:=9^9) only [go_sem,seval,s_rsize14_eq,s_r14access_eq,s_rbyte_eq,s_rhasb_eq,lr,pr,ro,rt,tl,to,h1,h2,x,c0,c1] | simp (disch:=omega) only [w64_d,ipos,ineg,dpos,dneg]))
     all_goals
      rw [arun_loop]
      refine ⟨{j:Nat // (j:Int)≤s∧∀i:Nat,i < j→hasM (64 * n) (byteU a b c i) 1=true},fun j=>([(2,.c (.p H.length 0 0)),(3,.c (.p (H.length+1) 0 0)),(6,.c (.p (H.length+2) 0 0)),(7,.c (.i j.1))],H++[.own (.i h0::.i t::.i n'::.i b'::.sl id off v (64 * n)::tb),.own (.i k::.u a::.u b::.i c::.i s::.i op::.u d::.u o::.b lv::r),.own [.u a,.u b,.i c,.i s]]),fun j=>s.toNat - j.1,⟨0,by omega,fun i hi=>absurd hi (Nat.not_lt_zero _)⟩,?_,?_⟩
      ·exact Wk.wk (by simp [lo]) (by simp [Am.get]) (by simp [AV.bel,Sc.bel]) (subH_refl _) bS
      ·rintro ⟨j,hj,hok⟩
       by_cases hlt:(j:Int) < s
       ·have e2:w64 ((j:Int)+1)=((j+1:Nat):Int):=by rw [w64_d (by omega) (by omega)];omega
        have e3:0≤c∧c≤8∧0≤(j:Int)∧(j:Int)≤8:=by omega
        have q:=fun H=>s_rhasb_eq (H:=H) (id:=id) (off:=off) (v:=v) (N:=64 * n) (a:=byteU a b c j) (n:=1) ⟨by omega,by omega,by omega⟩
        cases hb:hasM (64 * n) (byteU a b c j) 1
        ·have g:G=false:=by
          cases e:G
          ·rfl
          ·rw [e] at mb
           have:=mb.1 rfl j (by omega) hlt
           rw [hb] at this;simp at this
         (repeat (first | simp (maxSteps:=9^9) only [go_sem,seval,s_rsize14_eq,s_r14access_eq,s_rbyte_eq,s_rhasb_eq,lr,pr,ro,rt,tl,to,hlt,e3,q,hb,g] | simp (disch:=omega) only [w64_d,ipos,ineg,dpos,dneg]))
         exact subH_app _ _
        ·(repeat (first | simp (maxSteps:=9^9) only [go_sem,seval,s_rsize14_eq,s_r14access_eq,s_rbyte_eq,s_rhasb_eq,lr,pr,ro,rt,tl,to,hlt,e2,e3,q,hb] | simp (disch:=omega) only [w64_d,ipos,ineg,dpos,dneg]))
         exact ⟨⟨j+1,by omega,fun i hi=>by
          rcases Nat.lt_or_ge i j with h | h
          ·exact hok i h
          ·obtain rfl:i=j:=by omega
           exact hb⟩,by simp only;omega,Wk.wk (by simp [lo]) (by simp [Am.get]) (by simp [AV.bel,Sc.bel]) (subH_refl _) bS⟩
       ·have g:G=true:=mb.2 fun i i0 i1=>by
         obtain ⟨i,rfl⟩:=Int.eq_ofNat_of_zero_le i0
         exact hok i (by omega)
        (repeat (first | simp (maxSteps:=9^9) only [go_sem,seval,lr,ro,rt,tl,to,hlt,g] | simp (disch:=omega) only [w64_d,ipos,ineg,dpos,dneg]))
        exact subH_app _ _
    ·rw [if_neg h1,if_neg h2] at eF
     simp only [Bool.and_eq_true,decide_eq_true_eq] at eF
     obtain ⟨x1,x2,x3⟩:=eF
     have h3:0 < rszA k op:=by omega
     have z:=zn h2 h1
     have x1':=eq_true x1
     have x2':=eq_true x2
     (repeat (first | simp (maxSteps:=9^9) only [go_sem,seval,s_rsize14_eq,s_r14access_eq,s_rbyte_eq,s_rhasb_eq,lr,pr,ro,rt,tl,to,h1,h2,h3,z,x1',x2',x3] | simp (disch:=omega) only [w64_d,ipos,ineg,dpos,dneg]))
     all_goals
      rw [arun_loop]
      refine ⟨{j:Nat // (j:Int)≤s∧∀i:Nat,i < j→hasM (64 * n) (byteU a b c i) 1=true},fun j=>([(2,.c (.p H.length 0 0)),(3,.c (.p (H.length+1) 0 0)),(6,.c (.p (H.length+2) 0 0)),(7,.c (.i j.1))],H++[.own (.i h0::.i t::.i n'::.i b'::.sl id off v (64 * n)::tb),.own (.i k::.u a::.u b::.i c::.i s::.i op::.u d::.u o::.b lv::r),.own [.u a,.u b,.i c,.i s]]),fun j=>s.toNat - j.1,⟨0,by omega,fun i hi=>absurd hi (Nat.not_lt_zero _)⟩,?_,?_⟩
      ·exact Wk.wk (by simp [lo]) (by simp [Am.get]) (by simp [AV.bel,Sc.bel]) (subH_refl _) bS
      ·rintro ⟨j,hj,hok⟩
       by_cases hlt:(j:Int) < s
       ·have e2:w64 ((j:Int)+1)=((j+1:Nat):Int):=by rw [w64_d (by omega) (by omega)];omega
        have e3:0≤c∧c≤8∧0≤(j:Int)∧(j:Int)≤8:=by omega
        have q:=fun H=>s_rhasb_eq (H:=H) (id:=id) (off:=off) (v:=v) (N:=64 * n) (a:=byteU a b c j) (n:=1) ⟨by omega,by omega,by omega⟩
        cases hb:hasM (64 * n) (byteU a b c j) 1
        ·have g:G=false:=by
          cases e:G
          ·rfl
          ·rw [e] at mb
           have:=mb.1 rfl j (by omega) hlt
           rw [hb] at this;simp at this
         (repeat (first | simp (maxSteps:=9^9) only [go_sem,seval,s_rsize14_eq,s_r14access_eq,s_rbyte_eq,s_rhasb_eq,lr,pr,ro,rt,tl,to,hlt,e3,q,hb,g] | simp (disch:=omega) only [w64_d,ipos,ineg,dpos,dneg]))
         exact subH_app _ _
        ·(repeat (first | simp (maxSteps:=9^9) only [go_sem,seval,s_rsize14_eq,s_r14access_eq,s_rbyte_eq,s_rhasb_eq,lr,pr,ro,rt,tl,to,hlt,e2,e3,q,hb] | simp (disch:=omega) only [w64_d,ipos,ineg,dpos,dneg]))
         exact ⟨⟨j+1,by omega,fun i hi=>by
          rcases Nat.lt_or_ge i j with h | h
          ·exact hok i h
          ·obtain rfl:i=j:=by omega
           exact hb⟩,by simp only;omega,Wk.wk (by simp [lo]) (by simp [Am.get]) (by simp [AV.bel,Sc.bel]) (subH_refl _) bS⟩
       ·have g:G=true:=mb.2 fun i i0 i1=>by
         obtain ⟨i,rfl⟩:=Int.eq_ofNat_of_zero_le i0
         exact hok i (by omega)
        (repeat (first | simp (maxSteps:=9^9) only [go_sem,seval,lr,ro,rt,tl,to,hlt,g] | simp (disch:=omega) only [w64_d,ipos,ineg,dpos,dneg]))
        exact subH_app _ _
  ·simp at h
 ·simp at h
end
end Go.Proofs.YteclombpnhociaaGreat
set_option maxRecDepth 100000
set_option maxHeartbeats 8000000
namespace Go.Proofs.YteclombpnhociaaGreat
open Go.Am
set_option linter.unusedSimpArgs false
set_option linter.unusedVariables false
noncomputable section
def whoN (R:List Sl) (l:BitVec 64):Nat→List Int
 | 0=>[]
 | k+1=>if hasT R k l=true then whoN R l k++[(k:Int)] else whoN R l k
def whoO (r:Option (List Sl)) (l:BitVec 64):List Int:=match r with
 | some R=>whoN R l 8
 | none=>[]
def s_vwho (args:List AV) (H:AH):Option (AV × AH) :=
 match args with
 | [.c x,.c (.u l)] =>
   match tabP H x with
   | some r=>some (.c (.sl H.length 0 (whoO r l).length (whoO r l).length),H++[.vec 1 ((whoO r l).map gI)])
   | none=>none
 | _=>none
def refC (R:List Sl):List Sc:=R.map (fun x=>.b x.is)++R.map fun x=>.u x.ln
theorem refC_l {R:List Sl} (h:R.length=8):(refC R).length=16:=by simp [refC,h]
theorem refC_pf {R:List Sl}:(refC R).all Sc.pf=true:=by
 unfold refC;rw [List.all_append,List.all_map,List.all_map,Bool.and_eq_true]
 exact ⟨List.all_eq_true.2 fun _ _=>rfl,List.all_eq_true.2 fun _ _=>rfl⟩
theorem refC_bel {R:List Sl} {n:Nat}:(refC R).all (Sc.bel n)=true:=by
 unfold refC;rw [List.all_append,List.all_map,List.all_map,Bool.and_eq_true]
 exact ⟨List.all_eq_true.2 fun _ _=>rfl,List.all_eq_true.2 fun _ _=>rfl⟩
theorem refC_one {R:List Sl}:(refC R).all Sc.one=true:=by
 unfold refC;rw [List.all_append,List.all_map,List.all_map,Bool.and_eq_true]
 exact ⟨List.all_eq_true.2 fun _ _=>rfl,List.all_eq_true.2 fun _ _=>rfl⟩
theorem refC_cell {R:List Sl} {k:Nat} {x:Sl} (hR:R.length=8) (h:R[k]?=some x):(refC R).getD k .any=.b x.is∧(refC R).getD (8+k) .any=.u x.ln:=by
 have hk:k < 8:=by
  rcases Nat.lt_or_ge k 8 with h1 | h1
  ·exact h1
  ·rw [List.getElem?_eq_none (by omega)] at h;simp at h
 unfold refC
 constructor
 ·rw [List.getD_eq_getElem?_getD,List.getElem?_append_left (by simp;omega),List.getElem?_map,h];rfl
 ·rw [List.getD_eq_getElem?_getD,List.getElem?_append_right (by simp;omega),List.length_map,hR,show 8+k - 8=k by omega,List.getElem?_map,h];rfl
theorem refC_set1 {R:List Sl} {k:Nat} {q:Bool} (hR:R.length=8) (hk:k < 8):wr (refC R) k [.b q]=(R.map (fun x=>Sc.b x.is)).set k (.b q)++R.map fun x=>Sc.u x.ln:=by
 rw [wr_one (by rw [refC_l hR];omega)]
 unfold refC
 rw [List.set_append_left _ _ (by simp;omega)]
theorem refC_set2 {R:List Sl} {k:Nat} {q:Bool} {l:BitVec 64} (hR:R.length=8) (hk:k < 8):wr ((R.map (fun x=>Sc.b x.is)).set k (.b q)++R.map fun x=>Sc.u x.ln) (8+k) [.u l]=refC (R.set k ⟨q,l⟩):=by
 rw [wr_one (by simp;omega),List.set_append_right _ _ (by simp;omega)]
 simp only [List.length_set,List.length_map,hR,show 8+k - 8=k by omega]
 unfold refC
 rw [List.map_set,List.map_set]
theorem refC_inj {R S:List Sl} (hR:R.length=8) (hS:S.length=8) (h:refC R=refC S):R=S:=by
 apply List.ext_getElem (by omega)
 intro i h1 h2
 have a:=refC_cell hR (List.getElem?_eq_getElem h1)
 have b:=refC_cell hS (List.getElem?_eq_getElem h2)
 rw [h] at a
 have e1:=a.1.symm.trans b.1
 have e2:=a.2.symm.trans b.2
 simp only [Sc.b.injEq] at e1
 simp only [Sc.u.injEq] at e2
 cases hx:R[i];cases hy:S[i]
 rw [hx,hy] at e1 e2
 simp only at e1 e2
 rw [e1,e2]
def isRf (l:List Sc):Prop:=∃R:List Sl,R.length=8∧l=refC R
instance (l:List Sc):Decidable (isRf l):=Classical.propDecidable _
def rfT (l:List Sc):List Sl:=if h:isRf l then Classical.choose h else []
theorem rfT_of {R:List Sl} (h:R.length=8):rfT (refC R)=R:=by
 have hx:isRf (refC R):=⟨R,h,rfl⟩
 unfold rfT;rw [dif_pos hx]
 exact (refC_inj h (Classical.choose_spec hx).1 (Classical.choose_spec hx).2).symm
theorem isRf_of {R:List Sl} (h:R.length=8):isRf (refC R):=⟨R,h,rfl⟩
def s_vrset (args:List AV):Option AV :=
 match args with
 | [.g l,.c (.i h),.c (.u x)]=>if isRf l then some (.t [.g (refC (setT (rfT l) h ⟨true,x⟩)),.c (.b (in8 h))]) else none
 | _=>none
theorem s_vrset_eq {l h x}:s_vrset [.g l,.c (.i h),.c (.u x)]=if isRf l then some (.t [.g (refC (setT (rfT l) h ⟨true,x⟩)),.c (.b (in8 h))]) else none:=rfl
theorem ok_vrset:PuOk Tryz.prog 43 s_vrset:=by
 refine pu_ok (tab:=[]) hmix TabOk.nil Tryz.func43 rfl Tryz.results43 Tryz.ntmps43 (by kernel_rfl) (by kernel_rfl) ?_
 intro args v h
 unfold s_vrset at h
 split at h
 ·rename_i l h x
  split at h
  ·rename_i hc
   simp only [Option.some.injEq] at h;subst h
   obtain ⟨R,hR,rfl⟩:=hc
   have pl:=@refC_pf R
   have p2:=@refC_pf (setT R h ⟨true,x⟩)
   rw [rfT_of hR]
   refine ⟨by simp only [List.length_cons,List.length_nil];decide,by first | rfl | simp only [List.all_cons,List.all_nil,AV.pf,Sc.pf,Bool.and_true, *],by first | rfl | simp only [List.all_cons,List.all_nil,AV.pf,Sc.pf,Bool.and_true, *],?_⟩
   have lR:=refC_l hR
   have tk:(refC R).take 16=refC R:=by rw [←lR,List.take_length]
   have o1:=@refC_one R
   cases hi:in8 h
   ·have e:setT R h ⟨true,x⟩=R:=by unfold setT;rw [if_neg (by rw [hi];decide)]
    simp only [in8,Bool.and_eq_false_iff,decide_eq_false_iff_not] at hi
    rw [e]
    by_cases h1:h < 0
    ·(repeat (first | simp (maxSteps:=9^9) only [go_sem,seval,h1,lR,tk,o1] | simp (disch:=omega) only [w64_d,ipos,ineg,dpos,dneg]))
     done
    ·have h2:7 < h:=by omega
     (repeat (first | simp (maxSteps:=9^9) only [go_sem,seval,h1,h2,lR,tk,o1] | simp (disch:=omega) only [w64_d,ipos,ineg,dpos,dneg]))
     done
   ·obtain ⟨k,rfl,hk⟩:=in8_nat hi
    have e:setT R k ⟨true,x⟩=R.set k ⟨true,x⟩:=by unfold setT;rw [if_pos hi];rfl
    have w1:=refC_set1 (q:=true) hR hk
    have w2:=refC_set2 (q:=true) (l:=x) hR hk
    have l2:((R.map (fun x=>Sc.b x.is)).set k (.b true)++R.map fun x=>Sc.u x.ln).length=16:=by simp [hR]
    have l3:=refC_l (R:=R.set k ⟨true,x⟩) (by simp [hR])
    have tk3:(refC (R.set k ⟨true,x⟩)).take 16=refC (R.set k ⟨true,x⟩):=by rw [←l3,List.take_length]
    have o3:=@refC_one (R.set k ⟨true,x⟩)
    have h1:¬(k:Int) < 0:=by omega
    have h2:¬(7:Int) < k:=by omega
    rw [e]
    (repeat (first | simp (maxSteps:=9^9) only [go_sem,seval,h1,h2,lR,w1,w2,l2,l3,tk3,o3,Int.toNat_natCast] | simp (disch:=omega) only [w64_d,ipos,ineg,dpos,dneg]))
    done
  ·simp at h
 ·simp at h
end
end Go.Proofs.YteclombpnhociaaGreat
set_option maxRecDepth 100000
set_option maxHeartbeats 8000000
namespace Go.Proofs.YteclombpnhociaaGreat
open Go.Am
set_option linter.unusedSimpArgs false
set_option linter.unusedVariables false
noncomputable section
def s_vrclear (args:List AV):Option AV :=
 match args with
 | [.g l,.c (.i h)]=>if isRf l then some (.t [.g (refC (setT (rfT l) h z0)),.c (.b (at8 (rfT l) h).is)]) else none
 | _=>none
theorem s_vrclear_eq {l h}:s_vrclear [.g l,.c (.i h)]=if isRf l then some (.t [.g (refC (setT (rfT l) h z0)),.c (.b (at8 (rfT l) h).is)]) else none:=rfl
theorem ok_vrclear:PuOk Tryz.prog 44 s_vrclear:=by
 refine pu_ok (tab:=[]) hmix TabOk.nil Tryz.func44 rfl Tryz.results44 Tryz.ntmps44 (by kernel_rfl) (by kernel_rfl) ?_
 intro args v h
 unfold s_vrclear at h
 split at h
 ·rename_i l h
  split at h
  ·rename_i hc
   simp only [Option.some.injEq] at h;subst h
   obtain ⟨R,hR,rfl⟩:=hc
   have pl:=@refC_pf R
   have p2:=@refC_pf (setT R h z0)
   rw [rfT_of hR]
   refine ⟨by simp only [List.length_cons,List.length_nil];decide,by first | rfl | simp only [List.all_cons,List.all_nil,AV.pf,Sc.pf,Bool.and_true, *],by first | rfl | simp only [List.all_cons,List.all_nil,AV.pf,Sc.pf,Bool.and_true, *],?_⟩
   have lR:=refC_l hR
   have tk:(refC R).take 16=refC R:=by rw [←lR,List.take_length]
   have o1:=@refC_one R
   cases hi:in8 h
   ·have e:setT R h z0=R:=by unfold setT;rw [if_neg (by rw [hi];decide)]
    have e2:(at8 R h).is=false:=by unfold at8;rw [if_neg (by rw [hi];decide)];rfl
    simp only [in8,Bool.and_eq_false_iff,decide_eq_false_iff_not] at hi
    rw [e,e2]
    by_cases h1:h < 0
    ·(repeat (first | simp (maxSteps:=9^9) only [go_sem,seval,h1,lR,tk,o1] | simp (disch:=omega) only [w64_d,ipos,ineg,dpos,dneg]))
    ·have h2:7 < h:=by omega
     (repeat (first | simp (maxSteps:=9^9) only [go_sem,seval,h1,h2,lR,tk,o1] | simp (disch:=omega) only [w64_d,ipos,ineg,dpos,dneg]))
   ·obtain ⟨k,rfl,hk⟩:=in8_nat hi
    obtain ⟨y,hy⟩:=sl_some hR hk
    obtain ⟨c0,c1⟩:=refC_cell hR hy
    have e:setT R k z0=R.set k z0:=by unfold setT;rw [if_pos hi];rfl
    have e2:=at8_k hk hy
    have w1:=refC_set1 (q:=false) hR hk
    have w2:wr ((R.map (fun x=>Sc.b x.is)).set k (.b false)++R.map fun x=>Sc.u x.ln) (8+k) [.u 0#64]=refC (R.set k z0):=refC_set2 (q:=false) (l:=0#64) hR hk
    have l2:((R.map (fun x=>Sc.b x.is)).set k (.b false)++R.map fun x=>Sc.u x.ln).length=16:=by simp [hR]
    have l3:=refC_l (R:=R.set k z0) (by simp [hR])
    have tk3:(refC (R.set k z0)).take 16=refC (R.set k z0):=by rw [←l3,List.take_length]
    have o3:=@refC_one (R.set k z0)
    have h1:¬(k:Int) < 0:=by omega
    have h2:¬(7:Int) < k:=by omega
    rw [e,e2]
    (repeat (first | simp (maxSteps:=9^9) only [go_sem,seval,h1,h2,lR,w1,w2,l2,l3,tk3,o3,c0,Int.toNat_natCast] | simp (disch:=omega) only [w64_d,ipos,ineg,dpos,dneg]))
  ·simp at h
 ·simp at h
def Z8s:List Sl:=List.replicate 8 z0
theorem Z8s_l:Z8s.length=8:=rfl
theorem Z8s_c:refC Z8s=[.b false,.b false,.b false,.b false,.b false,.b false,.b false,.b false,.u 0#64,.u 0#64,.u 0#64,.u 0#64,.u 0#64,.u 0#64,.u 0#64,.u 0#64]:=rfl
def s_vrkill (args:List AV):Option AV :=
 match args with
 | [.g l,.c (.u x),.c (.i but)]=>if isRf l then some (.t [.g (refC (killN (rfT l) x but 8)),.c (.i (cntN (rfT l) x but 8))]) else none
 | _=>none
theorem s_vrkill_eq {l x but}:s_vrkill [.g l,.c (.u x),.c (.i but)]=if isRf l then some (.t [.g (refC (killN (rfT l) x but 8)),.c (.i (cntN (rfT l) x but 8))]) else none:=rfl
theorem ok_vrkill:PuOk Tryz.prog 76 s_vrkill:=by
 refine pu_ok (tab:=[]) hmix TabOk.nil Tryz.func76 rfl Tryz.results76 Tryz.ntmps76 (by kernel_rfl) (by kernel_rfl) ?_
 intro args v h
 unfold s_vrkill at h
 split at h
 ·rename_i l x but
  split at h
  ·rename_i hc
   simp only [Option.some.injEq] at h;subst h
   obtain ⟨R,hR,rfl⟩:=hc
   have pl:=@refC_pf R
   have p2:=@refC_pf (killN R x but 8)
   rw [rfT_of hR]
   refine ⟨by simp only [List.length_cons,List.length_nil];decide,by first | rfl | simp only [List.all_cons,List.all_nil,AV.pf,Sc.pf,Bool.and_true, *],by first | rfl | simp only [List.all_cons,List.all_nil,AV.pf,Sc.pf,Bool.and_true, *],?_⟩
   (repeat (first | simp (maxSteps:=9^9) only [go_sem,seval] | simp (disch:=omega) only [w64_d,ipos,ineg,dpos,dneg]))
   refine arun_for 8 (fun k=>([(1,.c (.u x)),(2,.c (.i but)),(3,.c (.p 0 0 0)),(6,.c (.p 1 0 0)),(8,.c (.i (cntN R x but k))),(9,.c (.i k))],[.own (refC (killN R x but k)),.own (refC Z8s)])) ?_ fun k hk=>?_
   ·rw [Z8s_c]
    exact Wk.wk (Nat.zero_le _) (by simp [Am.get,cntN]) (by simp [AV.bel,Sc.bel]) (subH_refl _) (by simp only [List.all_cons,List.all_nil,AObj.scs,refC_bel,Sc.bel];rfl)
   ·have kl:(killN R x but k).length=8:=by rw [killN_len,hR]
    have cl:=cntN_le (R:=R) (l:=x) (but:=but) (k:=k)
    have lK:=refC_l kl
    have tkK:(refC (killN R x but k)).take 16=refC (killN R x but k):=by rw [←lK,List.take_length]
    have oK:=@refC_one (killN R x but k)
    have lZ:=refC_l Z8s_l
    by_cases hlt:k < 8
    ·have e0:(k:Int) < 8:=by omega
     have e4:(0:Int)≤k:=by omega
     have e1:w64 ((k:Int)+1)=((k+1:Nat):Int):=by rw [w64_d (by omega) (by omega)];omega
     have e2:w64 ((cntN R x but k:Int)+1)=((cntN R x but k+1:Nat):Int):=by rw [w64_d (by omega) (by omega)];omega
     obtain ⟨y,hy⟩:=sl_some hR hlt
     have hyK:(killN R x but k)[k]?=some y:=by rw [killN_get,if_neg (by omega)];exact hy
     obtain ⟨c0,c1⟩:=refC_cell kl hyK
     have kS:killN R x but (k+1)=if killB R x but k=true then (killN R x but k).set k z0 else killN R x but k:=rfl
     have cS:cntN R x but (k+1)=if killB R x but k=true then cntN R x but k+1 else cntN R x but k:=rfl
     have kB:killB R x but k=(!decide ((k:Int)=but) && (y.is && decide (y.ln=x))):=by unfold killB hasT;rw [at8_k hlt hy,in8_k hlt];rfl
     by_cases hb:(k:Int)=but
     ·have hb':=eq_true hb
      rw [show killB R x but k=false by rw [kB];simp [hb],if_neg (by decide)] at kS cS
      (repeat (first | simp (maxSteps:=9^9) only [go_sem,seval,hb',e0,e1,c0,lK] | simp (disch:=omega) only [w64_d,ipos,ineg,dpos,dneg]))
      refine ⟨k+1,by omega,by omega,?_⟩
      rw [kS,cS]
      exact Wk.wk (by simp [lo]) (by simp [Am.get]) (by simp [AV.bel,Sc.bel]) (subH_refl _) (by simp only [List.all_cons,List.all_nil,AObj.scs,refC_bel,Sc.bel];rfl)
     ·cases hy1:y.is
      ·rw [show killB R x but k=false by rw [kB,hy1];simp,if_neg (by decide)] at kS cS
       rw [hy1] at c0
       (repeat (first | simp (maxSteps:=9^9) only [go_sem,seval,hb,e0,e1,e4,c0,lK,Int.toNat_natCast] | simp (disch:=omega) only [w64_d,ipos,ineg,dpos,dneg]))
       refine ⟨k+1,by omega,by omega,?_⟩
       rw [kS,cS]
       exact Wk.wk (by simp [lo]) (by simp [Am.get]) (by simp [AV.bel,Sc.bel]) (subH_refl _) (by simp only [List.all_cons,List.all_nil,AObj.scs,refC_bel,Sc.bel];rfl)
      ·rw [hy1] at c0
       by_cases hx:y.ln=x
       ·have hx':=eq_true hx
        rw [show killB R x but k=true by rw [kB,hy1];simp [hb,hx],if_pos rfl] at kS cS
        have w1:=refC_set1 (R:=killN R x but k) (q:=false) kl hlt
        have w2:wr (((killN R x but k).map (fun x=>Sc.b x.is)).set k (.b false)++(killN R x but k).map fun x=>Sc.u x.ln) (8+k) [.u 0#64]=refC ((killN R x but k).set k z0):=refC_set2 (q:=false) (l:=0#64) kl hlt
        have l2:(((killN R x but k).map (fun x=>Sc.b x.is)).set k (.b false)++(killN R x but k).map fun x=>Sc.u x.ln).length=16:=by simp [kl]
        (repeat (first | simp (maxSteps:=9^9) only [go_sem,seval,hb,hx',e0,e1,e2,e4,c0,c1,lK,w1,w2,l2,Int.toNat_natCast] | simp (disch:=omega) only [w64_d,ipos,ineg,dpos,dneg]))
        refine ⟨k+1,by omega,by omega,?_⟩
        rw [kS,cS]
        exact Wk.wk (by simp [lo]) (by simp [Am.get]) (by simp [AV.bel,Sc.bel]) (subH_refl _) (by simp only [List.all_cons,List.all_nil,AObj.scs,refC_bel,Sc.bel];rfl)
       ·rw [show killB R x but k=false by rw [kB];simp [hx],if_neg (by decide)] at kS cS
        (repeat (first | simp (maxSteps:=9^9) only [go_sem,seval,hb,hx,e0,e1,e4,c0,c1,lK,Int.toNat_natCast] | simp (disch:=omega) only [w64_d,ipos,ineg,dpos,dneg]))
        refine ⟨k+1,by omega,by omega,?_⟩
        rw [kS,cS]
        exact Wk.wk (by simp [lo]) (by simp [Am.get]) (by simp [AV.bel,Sc.bel]) (subH_refl _) (by simp only [List.all_cons,List.all_nil,AObj.scs,refC_bel,Sc.bel];rfl)
    ·obtain rfl:k=8:=by omega
     have dz:(refC Z8s).drop 16=[]:=by rw [Z8s_c];rfl
     (repeat (first | simp (maxSteps:=9^9) only [go_sem,seval,lK,tkK,oK,lZ,dz] | simp (disch:=omega) only [w64_d,ipos,ineg,dpos,dneg]))
  ·simp at h
 ·simp at h
def s_vrwho (args:List AV) (H:AH):Option (AV × AH) :=
 match args with
 | [.g l,.c (.u x)]=>if isRf l then some (.c (.sl H.length 0 (whoN (rfT l) x 8).length (whoN (rfT l) x 8).length),H++[.vec 1 ((whoN (rfT l) x 8).map gI)]) else none
 | _=>none
structure Rd where
 k:Int
 h:Int
 l:BitVec 64
def dcRd:List Sc→Option Rd
 | [.i k,.i h,.u l]=>some ⟨k,h,l⟩
 | _=>none
def doR (R:List Sl) (d:Rd):List Sl:=if d.k=0 then setT R d.h ⟨true,d.l⟩ else if d.k=1 then setT R d.h z0 else killN R d.l d.h 8
instance decScs (a b:List Sc):Decidable (a=b):=Classical.propDecidable _
def s_vdo (args:List AV) (H:AH):Option (AV × AH) :=
 match args with
 | [.c x,.g l,.g d] =>
   match tabP H x,dcRd d with
   | some (some R),some e=>if l=refC R then some (.t [.g (refC (doR R e)),.c (.b true)],setP H x (doR R e)) else none
   | _,_=>none
 | _=>none
end
end Go.Proofs.YteclombpnhociaaGreat
set_option maxRecDepth 100000
set_option maxHeartbeats 8000000
namespace Go.Proofs.YteclombpnhociaaGreat
open Go.Am
set_option linter.unusedSimpArgs false
set_option linter.unusedVariables false
noncomputable section
end
end Go.Proofs.YteclombpnhociaaGreat
set_option maxRecDepth 100000
set_option maxHeartbeats 8000000
namespace Go.Proofs.YteclombpnhociaaGreat
open Go.Am
set_option linter.unusedSimpArgs false
set_option linter.unusedVariables false
noncomputable section
def uyF:List Sc→Option (List (BitVec 64))
 | []=>some []
 | .u n::r=>(uyF r).map (n :: ·)
 | _=>none
def uvF (H:AH) (id v n:Nat):Option (List (BitVec 64)) :=
 match hg H id with
 | .vec 1 cs=>if v=cs.length∧n≤cs.length∧n≤1000000 then uyF (cs.take n) else none
 | _=>none
def idxW (L:List (BitVec 64)) (q:BitVec 64):Int:=match L.findIdx? (fun x=>decide (q=x)) with
 | some i=>i
 | none=>-1
section
variable {H:AH}
def s_fidxW (args:List AV) (H:AH):Option AV :=
 match args with
 | [.c (.sl id 0 v n),.c (.u q)]=>(uvF H id v n).map fun L=>.c (.i (idxW L q))
 | _=>none
def s_fcontW (args:List AV) (H:AH):Option AV :=
 match args with
 | [.c (.sl id 0 v n),.c (.u q)]=>(uvF H id v n).map fun L=>.c (.b (decide (q∈L)))
 | _=>none
end
end
end Go.Proofs.YteclombpnhociaaGreat
set_option maxRecDepth 100000
set_option maxHeartbeats 8000000
namespace Go.Proofs.YteclombpnhociaaGreat
open Go.Am
set_option linter.unusedSimpArgs false
set_option linter.unusedVariables false
noncomputable section
structure Fw where
 p:Nat
 id:Nat
 h:Int
 t:Int
 n:Int
 b:Int
 B:List Int
 R:List Sl
 bus:Sc
 m:List Sc
def fwC (s:Fw) (R:List Sl):List Sc:=wdC s.h s.t s.n s.b (.sl s.id 0 s.B.length s.B.length) (tabC R) s.bus s.m
structure FwI (H:AH) (s:Fw):Prop where
 o:hg H s.p=.own (fwC s s.R)
 v:hg H s.id=.vec 1 (s.B.flatMap e8F)
 l:s.R.length=8
 b0:0 < s.B.length
 b1:s.B.length≤262144
 lm:s.m.length=321
 hh:s.h≤8
theorem fwC_inj {s t:Fw} (h:fwC s s.R=fwC t t.R) (hs:s.R.length=8) (ht:t.R.length=8):s.h=t.h∧s.t=t.t∧s.n=t.n∧s.b=t.b∧s.id=t.id∧s.R=t.R∧s.bus=t.bus∧s.m=t.m:=by
 unfold fwC wdC at h
 simp only [List.cons.injEq,Sc.i.injEq,Sc.sl.injEq] at h
 obtain ⟨a1,a2,a3,a4,a5,a6⟩:=h
 obtain ⟨c1,c2⟩:=List.append_inj a6 (by rw [tabC_l hs,tabC_l ht])
 simp only [List.cons.injEq] at c2
 exact ⟨a1,a2,a3,a4,a5.1,tabC_inj hs ht c1,c2.1,c2.2⟩
theorem e8w_inj:∀{L M:List Int},L.flatMap e8F=M.flatMap e8F→L=M:=fun {L M} h=>by
 have:=byF_of L
 rw [h,byF_of] at this
 simpa using this.symm
theorem FwI.uniq {H:AH} {s t:Fw} (h:FwI H s) (g:FwI H t) (hp:s.p=t.p):s=t:=by
 have e:=h.o
 rw [hp,g.o] at e
 simp only [AObj.own.injEq] at e
 obtain ⟨a1,a2,a3,a4,a5,a6,a7,a8⟩:=fwC_inj e.symm h.l g.l
 have e2:=h.v
 rw [a5,g.v] at e2
 simp only [AObj.vec.injEq,true_and] at e2
 have a9:=(e8w_inj e2).symm
 cases s
 cases t
 simp only at *
 subst hp a1 a2 a3 a4 a5 a6 a7 a8 a9
 rfl
def fwQ (H:AH) (p:Nat):Option Fw:=open Classical in if h:∃s,FwI H s∧s.p=p then some h.choose else none
theorem FwI.lp {H:AH} {s:Fw} (h:FwI H s):s.p < H.length:=hg_lt (by rw [h.o];rfl)
theorem FwI.li {H:AH} {s:Fw} (h:FwI H s):s.id < H.length:=hg_lt (by rw [h.v];rfl)
theorem FwI.ne {H:AH} {s:Fw} (h:FwI H s):s.p≠s.id:=fun e=>by
 have h1:=h.o
 rw [e,h.v] at h1
 exact AObj.noConfusion h1
theorem FwI.app {H:AH} {s:Fw} (h:FwI H s) (X:AH):FwI (H++X) s:=⟨by rw [hg_lt' h.lp];exact h.o,by rw [hg_lt' h.li];exact h.v,h.l,h.b0,h.b1,h.lm,h.hh⟩
theorem FwI.R {H:AH} {s:Fw} (h:FwI H s):wdR H s.p=some (.sl s.id 0 s.B.length s.B.length,s.B):=wdV_R (wdV_of h.o h.v)
def Fw.to (s:Fw) (B:List Int) (R:List Sl):Fw:=⟨s.p,s.id,s.h,s.t,s.n,s.b,B,R,s.bus,s.m⟩
def fwSet (H:AH) (s:Fw) (B:List Int) (R:List Sl):AH:=(H.set s.id (.vec 1 (B.flatMap e8F))).set s.p (.own (fwC s R))
theorem FwI.set {H:AH} {s:Fw} (h:FwI H s) {B:List Int} {R:List Sl} (hB:B.length=s.B.length) (hR:R.length=8):FwI (fwSet H s B R) (s.to B R):=by
 refine ⟨?_,?_,hR,by have:=h.b0;simp only [Fw.to];omega,by have:=h.b1;simp only [Fw.to];omega,h.lm,h.hh⟩
 ·show hg (fwSet H s B R) s.p=.own (wdC s.h s.t s.n s.b (.sl s.id 0 B.length B.length) (tabC R) s.bus s.m)
  unfold fwSet
  rw [hg_set_same (by rw [List.length_set];exact h.lp),hB];rfl
 ·show hg (fwSet H s B R) s.id=_
  unfold fwSet
  rw [hg_set_ne' h.ne,hg_set_same h.li];rfl
theorem FwI.self {H:AH} {s:Fw} (h:FwI H s):fwSet H s s.B s.R=H:=by
 unfold fwSet
 rw [setF_self h.v h.li]
 exact setF_self h.o h.lp
theorem e8w_bel (B:List Int) (n:Nat):(B.flatMap e8F).all (Sc.bel n)=true:=by
 rw [List.all_flatMap];exact List.all_eq_true.2 fun _ _=>rfl
theorem FwI.bel {H:AH} {s:Fw} (h:FwI H s) (hH:belH H=true) (B:List Int) (R:List Sl):belH (fwSet H s B R)=true:=by
 unfold fwSet
 refine bel_set' (bel_set' hH (e8w_bel B _)) ?_
 have:=bel_at hH s.p
 rw [h.o] at this
 rw [List.length_set]
 simp only [AObj.cells,AObj.scs,fwC,wdC,List.all_cons,List.all_append,tabC_bel,Bool.true_and,Sc.bel,Bool.and_eq_true,decide_eq_true_eq] at this ⊢
 exact this
def lbW (v:BitVec 64) (i:Nat):Int:=(((v >>> (8 * i)).setWidth 8).toNat:Int)
def lbL (v:BitVec 64) (n:Nat):List Int:=(List.range n).map (lbW v)
theorem lbL_len {v:BitVec 64} {n:Nat}:(lbL v n).length=n:=by simp [lbL]
theorem lbL_0 {v:BitVec 64}:lbL v 0=[]:=rfl
theorem lbL_s {v:BitVec 64} {n:Nat}:lbL v (n+1)=lbL v n++[lbW v n]:=by unfold lbL;rw [List.range_succ,List.map_append];rfl
def layP (B:List Int) (a b:BitVec 64) (c s:Int) (v:BitVec 64):List Int :=
 if c=0 then layB B (offW a) (lbL v s.toNat) else layB (layB B (offW a) (lbL v c.toNat)) (offW b) (lbL (v >>> (8 * c.toNat)) (s - c).toNat)
def hasP (N:Nat) (a b:BitVec 64) (c s:Int):Bool:=if c=0 then hasF N a s else hasF N a c && hasF N b (s - c)
def killLB (R:List Sl) (L:List (BitVec 64)) (but:Int) (k:Nat):Bool:=!decide ((k:Int)=but) && ((R.getD k z0).is && decide ((R.getD k z0).ln∈L))
def killL (R:List Sl) (L:List (BitVec 64)) (but:Int):Nat→List Sl
 | 0=>R
 | k+1=>if killLB R L but k=true then (killL R L but k).set k z0 else killL R L but k
theorem killL_len {R:List Sl} {L:List (BitVec 64)} {but:Int}:∀{k:Nat},(killL R L but k).length=R.length
 | 0=>rfl
 | k+1=>by
   have ih:=killL_len (R:=R) (L:=L) (but:=but) (k:=k)
   simp only [killL];split
   ·simp [ih]
   ·exact ih
end
end Go.Proofs.YteclombpnhociaaGreat
set_option maxRecDepth 100000
set_option maxHeartbeats 8000000
namespace Go.Proofs.YteclombpnhociaaGreat
open Go.Am
set_option linter.unusedSimpArgs false
set_option linter.unusedVariables false
noncomputable section
section
variable {H:AH}
def s_flayW (args:List AV) (H:AH):Option (AV × AH) :=
 match args with
 | [.c (.p p 0 0),.c (.i h),.g (.i k::.u a::.u b::.i c::.i s::r),.c (.u v)] =>
   match fwQ H p with
   | some z=>if hasP z.B.length a b c s=true∧smB c s=true∧groupI k=1∧r.length=14∧r.all Sc.pf=true∧r.all Sc.one=true then some (.t [],fwSet H z (layP z.B a b c s v) (killL z.R (linL a b c s) h 8)) else none
   | none=>none
 | _=>none
theorem pt_parts {B:List Int} {id:Nat} {a b:BitVec 64} {c s:Int} {v:BitVec 64} (hp:hasP B.length a b c s=true) (hm:smB c s=true) :
 ∃x1 n0 n1 o1,ptV id 0 B.length B.length a b c s=.t [.c (.sl id (offW a) B.length n0),.c x1,.c (.b true)]∧(x1=.nils∧n1=0∨x1=.sl id o1 B.length n1)∧offW a+n0≤B.length∧o1+n1≤B.length∧n0≤8∧n1≤8 ∧
  layP B a b c s v=layB (layB B (offW a) (lbL v n0)) o1 (lbL (v >>> (8 * n0)) n1):=by
 simp only [smB,decide_eq_true_eq] at hm
 obtain ⟨m1,m2,m3,m4⟩:=hm
 unfold hasP at hp
 unfold ptV layP
 by_cases c0:c=0
 ·rw [if_pos c0] at hp
  rw [if_pos c0,if_pos c0,if_pos hp]
  rw [hasF_iff] at hp
  refine ⟨.nils,s.toNat,0,0,by rw [Nat.zero_add],.inl ⟨rfl,rfl⟩,by omega,by omega,by omega,by omega,?_⟩
  rw [lbL_0,layB_nil]
 ·rw [if_neg c0,Bool.and_eq_true] at hp
  rw [if_neg c0,if_neg c0,if_pos hp]
  rw [hasF_iff,hasF_iff] at hp
  exact ⟨.sl id (offW b) B.length (s - c).toNat,c.toNat,(s - c).toNat,offW b,by rw [Nat.zero_add,Nat.zero_add],.inr rfl,by omega,by omega,by omega,by omega,rfl⟩
end
end
end Go.Proofs.YteclombpnhociaaGreat
set_option maxRecDepth 100000
set_option maxHeartbeats 8000000
namespace Go.Proofs.YteclombpnhociaaGreat
open Go.Am
set_option linter.unusedSimpArgs false
set_option linter.unusedVariables false
noncomputable section
def btsW (B:List Int) (a b:BitVec 64) (c s:Int):List Int :=
 if c=0 then (B.drop (offW a)).take s.toNat else (B.drop (offW a)).take c.toNat++(B.drop (offW b)).take (s - c).toNat
def wV (z:Fw) (q:Ak):BitVec 64:=numW (btsW z.B q.a q.b q.c q.s)
def wOk (z:Fw) (h:Int) (q:Ak):Bool:=formB q.k q.a q.c q.s q.op && (hasP z.B.length q.a q.b q.c q.s && (decide (0≤h) && decide (h < z.h)))
def wSc (z:Fw) (h:Int) (q:Ak):Bool:=q.lv && ((z.R.getD h.toNat z0).is && decide ((z.R.getD h.toNat z0).ln=q.a / 64#64))
def wWr (z:Fw) (h:Int) (q:Ak):Option (BitVec 64) :=
 if wOk z h q=true then
  if q.k=3 then some q.d else if q.k=4 then some (amoU q.op (wV z q) q.d) else if q.k=6 then (if wSc z h q=true then some (lowU q.d (8 * q.s)) else none) else if q.k=8 then (if wV z q=q.o then some q.d else none) else none
 else none
def wB (z:Fw) (h:Int) (q:Ak):List Int:=match wWr z h q with
 | some v=>layP z.B q.a q.b q.c q.s v
 | none=>z.B
def wR1 (z:Fw) (h:Int) (q:Ak):List Sl:=match wWr z h q with
 | some _=>killL z.R (linL q.a q.b q.c q.s) h 8
 | none=>z.R
def wR (z:Fw) (h:Int) (q:Ak):List Sl:=if wOk z h q=true then (if q.k=5 then z.R.set h.toNat ⟨true,q.a / 64#64⟩ else if q.k=6 then (wR1 z h q).set h.toNat z0 else wR1 z h q) else z.R
def wD (z:Fw) (h:Int) (q:Ak):BitVec 64:=if wOk z h q=true then (if q.k=3 then 0#64 else if q.k=6 then 0#64 else wV z q) else 0#64
def wG (z:Fw) (h:Int) (q:Ak):Bool:=if wOk z h q=true then (if q.k=6 then wSc z h q else if q.k=8 then decide (wV z q=q.o) else false) else false
theorem layP_len {B:List Int} {a b:BitVec 64} {c s:Int} {v:BitVec 64} (hp:hasP B.length a b c s=true) (hm:smB c s=true):(layP B a b c s v).length=B.length:=by
 obtain ⟨x1,n0,n1,o1,_,_,q0,q1,_,_,e⟩:=pt_parts (id:=0) (v:=v) hp hm
 rw [e,layB_len (by rw [lbL_len,layB_len (by rw [lbL_len];omega)];exact q1),layB_len (by rw [lbL_len];exact q0)]
theorem wB_len {z:Fw} {h:Int} {q:Ak}:(wB z h q).length=z.B.length:=by
 unfold wB
 cases e:wWr z h q with
 | none=>rfl
 | some v =>
   have ho:wOk z h q=true:=by
    unfold wWr at e
    split at e
    ·rename_i h1;exact h1
    ·simp at e
   unfold wOk at ho
   simp only [Bool.and_eq_true] at ho
   exact layP_len ho.2.1 (p2_sm (b:=q.b) ho.1)
section
variable {H:AH}
def s_fmayW (args:List AV) (H:AH):Option AV :=
 match args with
 | [.c (.p p 0 0),.c (.i h),.g (.i k::.u a::.u b::.i c::.i s::.i op::.u d::.u o::.b lv::r)] =>
   match fwQ H p with
   | some z=>if askR r∧k≤8 then some (.c (.b (wOk z h ⟨k,a,b,c,s,op,d,o,lv⟩))) else none
   | none=>none
 | _=>none
end
end
end Go.Proofs.YteclombpnhociaaGreat
set_option maxRecDepth 100000
set_option maxHeartbeats 8000000
namespace Go.Proofs.YteclombpnhociaaGreat
open Go.Am
set_option linter.unusedSimpArgs false
set_option linter.unusedVariables false
noncomputable section
section
variable {H:AH}
def s_fmemW (args:List AV) (H:AH):Option (AV × AH) :=
 match args with
 | [.c (.p p 0 0),.c (.i h),.g (.i k::.u a::.u b::.i c::.i s::.i op::.u d::.u o::.b lv::r)] =>
   match fwQ H p with
   | some z=>if askR r∧wOk z h ⟨k,a,b,c,s,op,d,o,lv⟩=true then some (.g (anC (wD z h ⟨k,a,b,c,s,op,d,o,lv⟩) (wG z h ⟨k,a,b,c,s,op,d,o,lv⟩)),fwSet H z (wB z h ⟨k,a,b,c,s,op,d,o,lv⟩) (wR z h ⟨k,a,b,c,s,op,d,o,lv⟩)) else none
   | none=>none
 | _=>none
def s_fdoW (args:List AV) (H:AH):Option (AV × AH) :=
 match args with
 | [.c (.p p 0 0),.c (.i h),.g (.i k::.u a::.u b::.i c::.i s::.i op::.u d::.u o::.b lv::r)] =>
   match fwQ H p with
   | some z=>if askR r∧k≤8 then some (.t [.g (anC (wD z h ⟨k,a,b,c,s,op,d,o,lv⟩) (wG z h ⟨k,a,b,c,s,op,d,o,lv⟩)),.c (.b (wOk z h ⟨k,a,b,c,s,op,d,o,lv⟩))],fwSet H z (wB z h ⟨k,a,b,c,s,op,d,o,lv⟩) (wR z h ⟨k,a,b,c,s,op,d,o,lv⟩)) else none
   | none=>none
 | _=>none
end
end
end Go.Proofs.YteclombpnhociaaGreat
