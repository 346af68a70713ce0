/- The reference's bits: what 'Bit' returns, for every input. -/
import Derived.Test.YteclombpnhociaaGreatTy
import Derived.Test.YteclombpnhociaaGreatFlG
import Derived.Test.YteclombpnhociaaGreatFr
set_option maxRecDepth 100000
set_option maxHeartbeats 8000000
namespace Go.Proofs.YteclombpnhociaaGreat
open Go.Am
set_option linter.unusedSimpArgs false
set_option linter.unusedVariables false
noncomputable section
def bitU (w:BitVec 64) (i:Int):BitVec 64:=if 0≤i∧i≤63 then (if w.getLsbD i.toNat then 1#64 else 0#64) else 0#64
theorem shr_mod (w:BitVec 64) (n:Nat):(w >>> n) % 2#64=if w.getLsbD n then 1#64 else 0#64:=by
 apply BitVec.eq_of_toNat_eq
 have h:w.getLsbD n=decide (w.toNat / 2 ^ n % 2=1):=by
  simp only [BitVec.getLsbD,Nat.testBit_eq_decide_div_mod_eq]
 have h2:w.toNat / 2 ^ n % 2 < 2:=Nat.mod_lt _ (by omega)
 simp only [BitVec.toNat_umod,BitVec.toNat_ushiftRight,Nat.shiftRight_eq_div_pow,h,BitVec.toNat_ofNat]
 by_cases hb:w.toNat / 2 ^ n % 2=1
 ·simp [hb]
 ·have h0:w.toNat / 2 ^ n % 2=0:=by omega
  simp [h0]
theorem shr_succ (w:BitVec 64) (n:Nat):(w >>> n) / 2#64=w >>> (n+1):=by
 apply BitVec.eq_of_toNat_eq
 have h2:(2#64).toNat=2:=rfl
 simp only [BitVec.toNat_udiv,BitVec.toNat_ushiftRight,Nat.shiftRight_eq_div_pow,h2]
 rw [Nat.div_div_eq_div_mul,←Nat.pow_succ]
def s_bit (args:List AV):Option AV :=
 match args with
 | [.c (.u w),.c (.i m)]=>some (.c (.u (bitU w m)))
 | _=>none
theorem s_bit_eq {w m}:s_bit [.c (.u w),.c (.i m)]=some (.c (.u (bitU w m))):=rfl
theorem ok_bit:PuOk Tryz.prog 112 s_bit:=by
 refine pu_ok (tab:=[]) hmix TabOk.nil Tryz.func112 rfl Tryz.results112 Tryz.ntmps112 (by kernel_rfl) (by kernel_rfl) ?_
 intro args v h
 unfold s_bit at h
 split at h
 ·rename_i w m
  simp only [Option.some.injEq] at h;subst h
  refine ⟨by simp only [List.length_cons,List.length_nil];decide,rfl,rfl,?_⟩
  by_cases h1:m < 0
  ·have e:bitU w m=0#64:=by unfold bitU;rw [if_neg (by omega)]
   simp (maxSteps:=9^9) only [go_sem,seval,h1,e]
  ·by_cases h2:63 < m
   ·have e:bitU w m=0#64:=by unfold bitU;rw [if_neg (by omega)]
    simp (maxSteps:=9^9) only [go_sem,seval,h1,h2,e]
   ·obtain ⟨n,rfl⟩:=Int.eq_ofNat_of_zero_le (by omega:0≤m)
    have e:bitU w n=(w >>> n) % 2#64:=by unfold bitU;rw [if_pos (by omega),shr_mod];rfl
    rw [e]
    simp (maxSteps:=9^9) only [go_sem,seval,h1,h2]
    rw [arun_loop]
    refine ⟨{k:Nat // k≤n},fun k=>([(0,.c (.u (w >>> k.1))),(1,.c (.i n)),(5,.c (.i k.1))],[]),fun k=>n - k.1,⟨0,by omega⟩,?_,?_⟩
    ·exact Wk.drop (by simp [Am.get]) rfl rfl rfl
    ·rintro ⟨k,hk⟩
     by_cases hlt:k < n
     ·have e1:w64 ((k:Int)+1)=((k+1:Nat):Int):=by rw [w64_of (by omega)];omega
      have e2:((k:Int) < (n:Int))=True:=by simp;omega
      simp (maxSteps:=9^9) only [go_sem,seval,e1,e2]
      exact ⟨⟨k+1,by omega⟩,by simp;omega,Wk.drop (by simp [Am.get,shr_succ]) rfl rfl rfl⟩
     ·obtain rfl:k=n:=by omega
      have e2:((k:Int) < (k:Int))=False:=by simp
      simp (maxSteps:=9^9) only [go_sem,seval,e2]
 ·simp at h
end
end Go.Proofs.YteclombpnhociaaGreat
set_option maxRecDepth 100000
set_option maxHeartbeats 8000000
namespace Go.Proofs.YteclombpnhociaaGreat
open Go.Am
set_option linter.unusedSimpArgs false
set_option linter.unusedVariables false
noncomputable section
structure inR (x:Int):Prop where
 lo:-9223372036854775808≤x
 hi:x≤9223372036854775807
instance (x:Int):Decidable (inR x):=decidable_of_iff (-9223372036854775808≤x∧x≤9223372036854775807) ⟨fun h=>⟨h.1,h.2⟩,fun h=>⟨h.1,h.2⟩⟩
def ofGn (g:Nat→Bool):Nat→BitVec 64
 | 0=>0#64
 | k+1=>ofGn g k ||| (if g k=true then 1#64 <<< k else 0#64)
theorem ofGn_get (g:Nat→Bool) (k i:Nat) (hi:i < 64):(ofGn g k).getLsbD i=(decide (i < k) && g i):=by
 induction k with
 | zero=>simp [ofGn]
 | succ k ih =>
   simp only [ofGn,BitVec.getLsbD_or,ih]
   by_cases h:i=k
   ·subst h
    cases g i <;> simp [hi]
   ·have e:decide (i < k+1)=decide (i < k):=by simp;omega
    rw [e]
    split
    ·simp [BitVec.getLsbD_shiftLeft,BitVec.getLsbD_one,hi]
     omega
    ·simp
theorem ofG_ex (g:Nat→Bool):∃w:BitVec 64,∀i,i < 64→w.getLsbD i=g i:=⟨ofGn g 64,fun i hi=>by rw [ofGn_get _ _ _ hi];simp [hi]⟩
def ofG (g:Nat→Bool):BitVec 64:=Classical.choose (ofG_ex g)
theorem ofG_get {g:Nat→Bool} {i:Nat} (hi:i < 64):(ofG g).getLsbD i=g i:=Classical.choose_spec (ofG_ex g) i hi
theorem ofG_ext {w:BitVec 64} {g:Nat→Bool} (h:∀i,i < 64→w.getLsbD i=g i):w=ofG g:=by
 apply BitVec.eq_of_getLsbD_eq
 intro i hi
 rw [h i hi,ofG_get hi]
theorem ofG_congr {g h:Nat→Bool} (e:∀i,i < 64→g i=h i):ofG g=ofG h:=ofG_ext fun i hi=>by rw [ofG_get hi,e i hi]
def bitB (w:BitVec 64) (i:Int):Bool:=decide (0≤i) && decide (i≤63) && w.getLsbD i.toNat
def b2 (b:Bool):BitVec 64:=if b=true then 1#64 else 0#64
theorem bitU_B {w:BitVec 64} {i:Int}:bitU w i=b2 (bitB w i):=by
 unfold bitU bitB b2
 by_cases h:0≤i∧i≤63
 ·rw [if_pos h];simp [h.1,h.2]
 ·rw [if_neg h]
  have:(decide (0≤i) && decide (i≤63))=false:=by
   simp;intro h0;omega
  rw [this];rfl
theorem bitB_nat {w:BitVec 64} {i:Nat} (hi:i < 64):bitB w i=w.getLsbD i:=by
 unfold bitB;simp;intro h;omega
theorem bitB_out {w:BitVec 64} {i:Int} (h:i < 0∨63 < i):bitB w i=false:=by
 unfold bitB
 have:(decide (0≤i) && decide (i≤63))=false:=by simp;intro h0;omega
 rw [this];rfl
theorem bitB_in {w:BitVec 64} {i:Int} (h:0≤i) (h':i≤63):bitB w i=w.getLsbD i.toNat:=by
 unfold bitB;simp [h,h']
def inP (at' size:Int) (i:Nat):Bool:=decide (at'≤(i:Int)∧(i:Int) < at'+size)
def onesU (at' size:Int):BitVec 64:=ofG (inP at' size)
def shiftU (w:BitVec 64) (by':Int):BitVec 64:=ofG fun i=>bitB w (i - by')
def cutU (w:BitVec 64) (at' size:Int):BitVec 64:=ofG fun k=>decide ((k:Int) < size) && bitB w (at'+k)
def putU (w:BitVec 64) (at' size:Int) (n:BitVec 64):BitVec 64:=ofG fun i=>if inP at' size i=true then bitB n (i - at') else w.getLsbD i
def lowU (w:BitVec 64) (size:Int):BitVec 64:=ofG fun i=>decide ((i:Int) < size) && w.getLsbD i
def signU (w:BitVec 64) (size:Int):BitVec 64:=ofG fun i=>decide (1≤size) && (if (i:Int) < size then w.getLsbD i else bitB w (size - 1))
def spanF (at' size:Int):Int:=if size < 1 then 0 else if 63 < at' then 0 else if 0≤at' then at' else 0
def spanT (at' size:Int):Int:=if size < 1 then 0 else if 63 < at' then 0 else if 0≤at' then at'+min size (64 - at') else if at'+size≤0 then 0 else min (at'+size) 64
def s_span (args:List AV):Option AV :=
 match args with
 | [.c (.i a),.c (.i s)]=>if inR a∧inR s then some (.t [.c (.i (spanF a s)),.c (.i (spanT a s))]) else none
 | _=>none
theorem s_span_eq {a s}:s_span [.c (.i a),.c (.i s)]=if inR a∧inR s then some (.t [.c (.i (spanF a s)),.c (.i (spanT a s))]) else none:=rfl
theorem ok_span:PuOk Tryz.prog 129 s_span:=by
 refine pu_ok (tab:=[]) hmix TabOk.nil Tryz.func129 rfl Tryz.results129 Tryz.ntmps129 (by kernel_rfl) (by kernel_rfl) ?_
 intro args v h
 unfold s_span at h
 split at h
 ·rename_i a s
  split at h
  ·rename_i hc
   simp only [Option.some.injEq] at h;subst h
   refine ⟨by simp only [List.length_cons,List.length_nil];decide,rfl,rfl,?_⟩
   obtain ⟨⟨al,ah⟩,⟨sl,sh⟩⟩:=hc
   by_cases h1:s < 1
   ·simp (maxSteps:=9^9) only [go_sem,seval,spanF,spanT,h1]
   ·by_cases h2:63 < a
    ·simp (maxSteps:=9^9) only [go_sem,seval,spanF,spanT,h1,h2]
    ·by_cases h3:0≤a
     ·have e1:w64 (64 - a)=64 - a:=w64_of (by omega)
      have e2:w64 (a+min s (64 - a))=a+min s (64 - a):=w64_of (by omega)
      simp (maxSteps:=9^9) only [go_sem,seval,spanF,spanT,h1,h2,h3,e1,e2]
     ·have e1:w64 (a+s)=a+s:=w64_of (by omega)
      by_cases h4:a+s≤0
      ·simp (maxSteps:=9^9) only [go_sem,seval,spanF,spanT,h1,h2,h3,h4,e1]
      ·simp (maxSteps:=9^9) only [go_sem,seval,spanF,spanT,h1,h2,h3,h4,e1]
  ·simp at h
 ·simp at h
theorem spanF_b {a s:Int}:0≤spanF a s∧spanF a s≤63:=by
 unfold spanF;split <;> (try split) <;> (try split) <;> omega
theorem spanT_b {a s:Int}:0≤spanT a s∧spanT a s≤64:=by
 unfold spanT;split <;> (try split) <;> (try split) <;> (try split) <;> omega
theorem span_in {a s:Int} {i:Nat} (hi:i < 64):inP a s i=decide (spanF a s≤(i:Int)∧(i:Int) < spanT a s):=by
 unfold inP spanF spanT
 apply decide_eq_decide.2
 split <;> (try split) <;> (try split) <;> (try split) <;> omega
theorem ofI_nat {n:Nat} (h:n < 18446744073709551616):(BitVec.ofInt 64 (n:Int)).toNat=n:=by
 rw [BitVec.toNat_ofInt];omega
theorem ones_eq {f t:Nat} (h:f < t) (ht:t≤64) (i:Nat) (hi:i < 64):((18446744073709551615#64 >>> (64 - (t - f))) <<< f).getLsbD i=decide (f≤i∧i < t):=by
 have e:18446744073709551615#64=BitVec.allOnes 64:=by decide
 rw [e,BitVec.getLsbD_shiftLeft,BitVec.getLsbD_ushiftRight,BitVec.getLsbD_allOnes]
 by_cases h1:i < f
 ·simp [h1,hi];omega
 ·by_cases h2:i < t
  ·simp [h1,h2,hi];omega
  ·simp [h1,h2,hi];omega
def s_ones (args:List AV):Option AV :=
 match args with
 | [.c (.i a),.c (.i s)]=>if inR a∧inR s then some (.c (.u (onesU a s))) else none
 | _=>none
theorem s_ones_eq {a s}:s_ones [.c (.i a),.c (.i s)]=if inR a∧inR s then some (.c (.u (onesU a s))) else none:=rfl
theorem ok_ones:PuOk Tryz.prog 107 s_ones:=by
 refine pu_ok (tab:=[(129,.pu s_span)]) hmix (TabOk.cons (e:=.pu s_span) ok_span TabOk.nil) Tryz.func107 rfl Tryz.results107 Tryz.ntmps107 (by kernel_rfl) (by kernel_rfl) ?_
 intro args v h
 unfold s_ones at h
 split at h
 ·rename_i a s
  split at h
  ·rename_i hc
   simp only [Option.some.injEq] at h;subst h
   refine ⟨by simp only [List.length_cons,List.length_nil];decide,rfl,rfl,?_⟩
   obtain ⟨ia,is⟩:=hc
   have bF:=@spanF_b a s
   have bT:=@spanT_b a s
   have hw:∀g:BitVec 64,(∀i:Nat,i < 64→g.getLsbD i=decide (spanF a s≤(i:Int)∧(i:Int) < spanT a s))→g=onesU a s:=fun g hg=>ofG_ext fun i hi=>by rw [hg i hi,span_in hi]
   obtain ⟨f,hf⟩:=Int.eq_ofNat_of_zero_le bF.1
   obtain ⟨t,ht⟩:=Int.eq_ofNat_of_zero_le bT.1
   rw [hf,ht] at hw
   by_cases h:(t:Int)≤(f:Int)
   ·have e:=hw 0#64 fun i hi=>by simp;omega
    simp (maxSteps:=9^9) only [go_sem,seval,s_span_eq,ia,is,hf,ht,h,←e]
   ·have e:=hw _ fun i hi=>by rw [ones_eq (f:=f) (t:=t) (by omega) (by omega) i hi];simp
    have e1:w64 ((t:Int) - f)=((t - f:Nat):Int):=by rw [w64_of (by omega)];omega
    have e2:w64 (64 - ((t - f:Nat):Int))=((64 - (t - f):Nat):Int):=by rw [w64_of (by omega)];omega
    have e3:=ofI_nat (n:=64 - (t - f)) (by omega)
    have e4:=ofI_nat (n:=f) (by omega)
    simp (maxSteps:=9^9) only [go_sem,seval,s_span_eq,ia,is,hf,ht,h,←e,e1,e2,e3,e4]
  ·simp at h
 ·simp at h
theorem bitB_n {w:BitVec 64} {i:Nat}:bitB w i=w.getLsbD i:=by
 rcases Nat.lt_or_ge i 64 with h | h
 ·exact bitB_nat h
 ·rw [bitB_out (by omega),BitVec.getLsbD_of_ge _ _ h]
theorem shiftU_r {w:BitVec 64} {n:Nat}:shiftU w (-(n:Int))=w >>> n:=by
 refine (ofG_ext fun i hi=>?_).symm
 have e:(i:Int) - -(n:Int)=((n+i:Nat):Int):=by omega
 rw [BitVec.getLsbD_ushiftRight,e,bitB_n]
theorem cut_eq {w:BitVec 64} {a s:Int}:shiftU w (-a) &&& onesU 0 s=cutU w a s:=by
 refine ofG_ext fun i hi=>?_
 rw [BitVec.getLsbD_and,shiftU,onesU,ofG_get hi,ofG_get hi]
 have e:(i:Int) - -a=a+i:=by omega
 have e2:inP 0 s i=decide ((i:Int) < s):=by unfold inP;apply decide_eq_decide.2;omega
 rw [e,e2,Bool.and_comm]
theorem low_eq {w:BitVec 64} {s:Int}:w &&& onesU 0 s=lowU w s:=by
 refine ofG_ext fun i hi=>?_
 rw [BitVec.getLsbD_and,onesU,ofG_get hi]
 have e2:inP 0 s i=decide ((i:Int) < s):=by unfold inP;apply decide_eq_decide.2;omega
 rw [e2,Bool.and_comm]
def s_low (args:List AV):Option AV :=
 match args with
 | [.c (.u w),.c (.i s)]=>if inR s then some (.c (.u (lowU w s))) else none
 | _=>none
theorem s_low_eq {w s}:s_low [.c (.u w),.c (.i s)]=if inR s then some (.c (.u (lowU w s))) else none:=rfl
theorem ok_low:PuOk Tryz.prog 65 s_low:=by
 refine pu_ok (tab:=[(107,.pu s_ones)]) hmix (TabOk.cons (e:=.pu s_ones) ok_ones TabOk.nil) Tryz.func65 rfl Tryz.results65 Tryz.ntmps65 (by kernel_rfl) (by kernel_rfl) ?_
 intro args v h
 unfold s_low at h
 split at h
 ·rename_i w s
  split at h
  ·rename_i hc
   simp only [Option.some.injEq] at h;subst h
   refine ⟨by simp only [List.length_cons,List.length_nil];decide,rfl,rfl,?_⟩
   have i0:inR 0:=⟨by omega,by omega⟩
   simp (maxSteps:=9^9) only [go_sem,seval,s_ones_eq,hc,i0,low_eq]
  ·simp at h
 ·simp at h
end
end Go.Proofs.YteclombpnhociaaGreat
set_option maxRecDepth 100000
set_option maxHeartbeats 8000000
namespace Go.Proofs.YteclombpnhociaaGreat
open Go.Am
set_option linter.unusedSimpArgs false
set_option linter.unusedVariables false
noncomputable section
theorem sar_eq {x:BitVec 64} {u:Nat} (h:u≤64):BitVec.ofInt 64 (x.toInt / 2 ^ (min u 64))=x.sshiftRight u:=by
 rw [Nat.min_eq_left h]
 unfold BitVec.sshiftRight
 rw [Int.shiftRight_eq_div_pow]
 simp
theorem sar_get {x:BitVec 64} {u i:Nat} (hi:i < 64):(x.sshiftRight u).getLsbD i=if i+u < 64 then x.getLsbD (i+u) else x.getLsbD 63:=by
 rw [BitVec.getLsbD_sshiftRight]
 have:decide (64≤i)=false:=by simp;omega
 simp only [this,Bool.not_false,Bool.true_and,BitVec.msb_eq_getLsbD_last]
 rw [Nat.add_comm]
theorem sign_0 {w:BitVec 64} {s:Int} (h:s < 1):signU w s=0#64:=by
 refine (ofG_ext fun i hi=>?_).symm
 have:¬1≤s:=by omega
 simp [this]
theorem sign_all {w:BitVec 64} {s:Int} (h:63 < s):signU w s=w:=by
 refine (ofG_ext fun i hi=>?_).symm
 have h1:1≤s:=by omega
 have h2:(i:Int) < s:=by omega
 simp [h1,h2]
theorem sign_mid {w:BitVec 64} {s:Nat} (h:1≤s) (h':s≤63):(w <<< (64 - s)).sshiftRight (64 - s)=signU w s:=by
 refine ofG_ext fun i hi=>?_
 rw [sar_get hi]
 have h1:(1:Int)≤s:=by omega
 simp only [h1,decide_true,Bool.true_and]
 by_cases h2:i < s
 ·rw [if_pos (by omega),if_pos (by omega),BitVec.getLsbD_shiftLeft]
  have e:i+(64 - s) - (64 - s)=i:=by omega
  have e2:i+(64 - s) < 64:=by omega
  simp [e,e2]
 ·rw [if_neg (by omega),if_neg (by omega),BitVec.getLsbD_shiftLeft]
  have e:((s:Int) - 1)=((s - 1:Nat):Int):=by omega
  rw [e,bitB_n]
  have e2:63 - (64 - s)=s - 1:=by omega
  simp [e2];omega
def s_sign (args:List AV):Option AV :=
 match args with
 | [.c (.u w),.c (.i s)]=>if inR s then some (.c (.u (signU w s))) else none
 | _=>none
theorem s_sign_eq {w s}:s_sign [.c (.u w),.c (.i s)]=if inR s then some (.c (.u (signU w s))) else none:=rfl
theorem ok_sign:PuOk Tryz.prog 66 s_sign:=by
 refine pu_ok (tab:=[]) hmix TabOk.nil Tryz.func66 rfl Tryz.results66 Tryz.ntmps66 (by kernel_rfl) (by kernel_rfl) ?_
 intro args v h
 unfold s_sign at h
 split at h
 ·rename_i w s
  split at h
  ·rename_i hc
   simp only [Option.some.injEq] at h;subst h
   refine ⟨by simp only [List.length_cons,List.length_nil];decide,rfl,rfl,?_⟩
   obtain ⟨sl,sh⟩:=hc
   by_cases h1:s < 1
   ·simp (maxSteps:=9^9) only [go_sem,seval,h1,sign_0 h1]
   ·by_cases h2:63 < s
    ·simp (maxSteps:=9^9) only [go_sem,seval,h1,h2,sign_all h2]
    ·obtain ⟨n,rfl⟩:=Int.eq_ofNat_of_zero_le (by omega:0≤s)
     have e1:w64 (64 - (n:Int))=((64 - n:Nat):Int):=by rw [w64_of (by omega)];omega
     have e2:=ofI_nat (n:=64 - n) (by omega)
     have e3:=sar_eq (x:=w <<< (64 - n)) (u:=64 - n) (by omega)
     simp (maxSteps:=9^9) only [go_sem,seval,h1,h2,e1,e2,e3,sign_mid (w:=w) (s:=n) (by omega) (by omega)]
  ·simp at h
 ·simp at h
def sraU (w:BitVec 64) (f:Nat):BitVec 64:=ofG fun i=>if i+f < 64 then w.getLsbD (i+f) else w.getLsbD 63
end
end Go.Proofs.YteclombpnhociaaGreat
set_option maxRecDepth 100000
set_option maxHeartbeats 8000000
namespace Go.Proofs.YteclombpnhociaaGreat
open Go.Am
set_option linter.unusedSimpArgs false
set_option linter.unusedVariables false
noncomputable section
def cellU:Sc→BitVec 64
 | .u x=>x
 | _=>0#64
def cellIs:Sc→Bool
 | .u _=>true
 | _=>false
theorem cell_get {l:List Sc} {i:Nat} (h:l.all cellIs=true) (hi:i < l.length):l.getD i .any=.u (cellU (l.getD i .any)):=by
 have e:l.getD i .any=l[i]:=by simp [List.getD_eq_getElem?_getD,hi]
 rw [e]
 have:=List.all_eq_true.1 h l[i] (List.getElem_mem hi)
 cases hl:l[i] <;> rw [hl] at this <;> simp [cellIs] at this;rfl
def ofW (l:List Sc):Nat→BitVec 64
 | 0=>0#64
 | j+1=>2#64 * ofW l j+cellU (l.getD (l.length - 1 - j) .any)
def s_of (args:List AV) (H:AH):Option AV :=
 match args with
 | [.c (.sl id 0 v n)]=>if n≤64∧n=(hg H id).cells.length∧v=(hg H id).row∧(hg H id).cells.all cellIs=true then some (.c (.u (ofW (hg H id).cells n))) else none
 | _=>none
theorem s_of_eq {id v n:Nat} {H:AH}:s_of [.c (.sl id 0 v n)] H=if n≤64∧n=(hg H id).cells.length∧v=(hg H id).row∧(hg H id).cells.all cellIs=true then some (.c (.u (ofW (hg H id).cells n))) else none:=rfl
theorem ok_of:FpOk Tryz.prog 113 (fun args H=>(s_of args H).map fun v=>(v,H)):=by
 refine fq_ok (s:=s_of) (tab:=[]) hmix TabOk.nil Tryz.func113 rfl Tryz.results113 Tryz.ntmps113 (by kernel_rfl) (by kernel_rfl) ?_
 intro args H v h hargs hH
 unfold s_of at h
 split at h
 ·rename_i id v n
  split at h
  ·rename_i hc
   obtain ⟨h1,h3,h4,h5⟩:=hc
   simp only [Option.some.injEq] at h
   subst h
   generalize hl:(hg H id).cells=l at *
   refine ⟨by simp only [List.length_cons,List.length_nil];decide,rfl,?_⟩
   have lid:id < H.length:=by simpa [AV.bel,Sc.bel] using hargs
   have e0:w64 ((n:Int) - 1)=(n:Int) - 1:=w64_of (by omega)
   simp (maxSteps:=9^9) only [go_sem,seval,e0]
   rw [arun_loop]
   refine ⟨{k:Nat // k≤n},fun k=>([(0,.c (.sl id 0 v n)),(3,.c (.u (ofW l k.1))),(4,.c (.i (n - 1 - k.1)))],H),fun k=>n - k.1,⟨0,by omega⟩,?_,?_⟩
   ·exact Wk.wk (by simp [lo]) (by simp [Am.get,ofW]) (by simp [AV.bel,Sc.bel,lid]) (subH_refl _) hH
   ·rintro ⟨k,hk⟩
    by_cases hlt:k < n
    ·have e1:w64 ((n:Int) - 1 - (k:Int) - 1)=(n:Int) - 1 - ((k+1:Nat):Int):=by rw [w64_of (by omega)];omega
     have e2:((0:Int)≤(n:Int) - 1 - (k:Int))=True:=by simp;omega
     have e3:((n:Int) - 1 - (k:Int) < 64)=True:=by simp;omega
     have e5:((n:Int) - 1 - (k:Int) < (n:Int))=True:=by simp;omega
     have e4:((n:Int) - 1 - (k:Int)).toNat=n - 1 - k:=by omega
     have e6:(n - 1 - k+1≤l.length)=True:=by simp;omega
     have e7:=cell_get h5 (i:=n - 1 - k) (by omega)
     simp (maxSteps:=9^9) only [go_sem,seval,e1,e2,e3,e4,e5,e6,hl,←h4]
     rw [e7]
     simp (maxSteps:=9^9) only [go_sem,seval,e1]
     exact ⟨⟨k+1,by omega⟩,by simp;omega,Wk.wk (by simp [lo]) (by simp [Am.get,ofW,h3]) (by simp [AV.bel,Sc.bel,lid]) (subH_refl _) hH⟩
    ·obtain rfl:k=n:=by omega
     have e2:(0≤(k:Int) - 1 - (k:Int))=False:=by simp;omega
     simp (maxSteps:=9^9) only [go_sem,seval,e2]
     exact subH_refl _
  ·simp at h
 ·simp at h
def lst (g:Nat→Bool) (k:Nat):List Sc:=(List.range k).map fun i=>.u (b2 (g i))
theorem lst_len {g:Nat→Bool} {k:Nat}:(lst g k).length=k:=by simp [lst]
theorem lst_succ {g:Nat→Bool} {k:Nat}:lst g (k+1)=lst g k++[.u (b2 (g k))]:=by simp [lst,List.range_succ]
theorem lst_cells {g:Nat→Bool} {k:Nat}:(lst g k).all cellIs=true:=by simp [lst,cellIs]
theorem lst_get {g:Nat→Bool} {k i:Nat} (h:i < k):(lst g k).getD i .any=.u (b2 (g i)):=by simp [lst,List.getD_eq_getElem?_getD,h]
theorem lst_bel {g:Nat→Bool} {k n:Nat}:(lst g k).all (Sc.bel n)=true:=by simp [lst,Sc.bel]
theorem dbl {w:BitVec 64} {c:Bool} {i:Nat} (hi:i < 64):(2#64 * w+b2 c).getLsbD i=if i=0 then c else w.getLsbD (i - 1):=by
 have h0:2#64 * w=w <<< 1:=by
  apply BitVec.eq_of_toNat_eq
  rw [BitVec.toNat_mul,BitVec.toNat_shiftLeft,Nat.shiftLeft_eq,BitVec.toNat_ofNat]
  congr 1;omega
 have h1:∀i,(b2 c).getLsbD i=(decide (i=0) && c):=by
  intro i;unfold b2;cases c
  ·simp
  ·by_cases h:i=0
   ·subst h;simp
   ·simp [h]
 have h:(w <<< 1) &&& b2 c=0#64:=by
  apply BitVec.eq_of_getLsbD_eq
  intro i hi
  rw [BitVec.getLsbD_and,BitVec.getLsbD_shiftLeft,h1]
  by_cases h:i=0
  ·subst h;simp
  ·simp [h]
 rw [h0,BitVec.add_eq_or_of_and_eq_zero _ _ h,BitVec.getLsbD_or,BitVec.getLsbD_shiftLeft,h1]
 by_cases h:i=0
 ·subst h;simp
 ·have h2:¬i < 1:=by omega
  simp [h,h2,hi]
theorem ofW_bits (g:Nat→Bool) (n:Nat):∀j,j≤n→∀i,i < 64→(ofW (lst g n) j).getLsbD i=(decide (i < j) && g (n - j+i)):=by
 intro j
 induction j with
 | zero=>intro _ i _;simp [ofW]
 | succ j ih =>
   intro hj i hi
   simp only [ofW,lst_len]
   rw [lst_get (by omega)]
   simp only [cellU]
   rw [dbl hi]
   by_cases h:i=0
   ·subst h
    have e:n - 1 - j=n - (j+1)+0:=by omega
    simp [e]
   ·rw [if_neg h,ih (by omega) _ (by omega)]
    have e:n - j+(i - 1)=n - (j+1)+i:=by omega
    have e2:decide (i - 1 < j)=decide (i < j+1):=decide_eq_decide.2 (by omega)
    rw [e,e2]
theorem ofW_eq (g:Nat→Bool):ofW (lst g 64) 64=ofG g:=by
 refine ofG_ext fun i hi=>?_
 rw [ofW_bits g 64 64 (by omega) i hi]
 simp [hi]
def inK (a s:Int) (b:Int):Int:=if a≤b∧b < a+s then min (b - a) 1000 else 0
def inB (a s:Int) (b:Int):Bool:=decide (a≤b∧b < a+s)
def s_rin (args:List AV):Option AV :=
 match args with
 | [.c (.i a),.c (.i s),.c (.i b)]=>if inR a∧inR s∧(0≤b∧b≤63) then some (.t [.c (.i (inK a s b)),.c (.b (inB a s b))]) else none
 | _=>none
theorem s_rin_eq {a s b}:s_rin [.c (.i a),.c (.i s),.c (.i b)]=if inR a∧inR s∧(0≤b∧b≤63) then some (.t [.c (.i (inK a s b)),.c (.b (inB a s b))]) else none:=rfl
theorem ok_rin:PuOk Tryz.prog 111 s_rin:=by
 refine pu_ok (tab:=[]) hmix TabOk.nil Tryz.func111 rfl Tryz.results111 Tryz.ntmps111 (by kernel_rfl) (by kernel_rfl) ?_
 intro args v h
 unfold s_rin at h
 split at h
 ·rename_i a s b
  split at h
  ·rename_i hc
   simp only [Option.some.injEq] at h;subst h
   refine ⟨by simp only [List.length_cons,List.length_nil];decide,rfl,rfl,?_⟩
   obtain ⟨⟨al,ah⟩,⟨sl,sh⟩,b0,b1⟩:=hc
   by_cases h1:s < 1
   ·have e1:inK a s b=0:=if_neg (by omega)
    have e2:inB a s b=false:=decide_eq_false (by omega)
    simp (maxSteps:=9^9) only [go_sem,seval,h1,e1,e2]
   ·by_cases h2:b < a
    ·have e1:inK a s b=0:=if_neg (by omega)
     have e2:inB a s b=false:=decide_eq_false (by omega)
     simp (maxSteps:=9^9) only [go_sem,seval,h1,h2,e1,e2]
    ·obtain ⟨n,hn⟩:=Int.eq_ofNat_of_zero_le (by omega:0≤b - a)
     obtain ⟨m,rfl⟩:=Int.eq_ofNat_of_zero_le (by omega:0≤s)
     have e0:BitVec.ofInt 64 b - BitVec.ofInt 64 a=BitVec.ofNat 64 n:=by
      rw [←BitVec.ofInt_natCast,←hn]
      apply BitVec.eq_of_toNat_eq
      rw [BitVec.toNat_sub,BitVec.toNat_ofInt,BitVec.toNat_ofInt,BitVec.toNat_ofInt];omega
     have e3:BitVec.ofInt 64 (m:Int)=BitVec.ofNat 64 m:=BitVec.ofInt_natCast ..
     by_cases h3:m≤n
     ·have e1:inK a m b=0:=if_neg (by omega)
      have e2:inB a m b=false:=decide_eq_false (by omega)
      have e4:(BitVec.ofNat 64 m≤BitVec.ofNat 64 n)=True:=by simp [BitVec.le_def];omega
      simp (maxSteps:=9^9) only [go_sem,seval,h1,h2,e1,e2,e0,e3,e4]
     ·have e2:inB a m b=true:=decide_eq_true (by omega)
      have e4:(BitVec.ofNat 64 m≤BitVec.ofNat 64 n)=False:=by simp [BitVec.le_def];omega
      by_cases h5:1000 < n
      ·have e1:inK a m b=1000:=by unfold inK;rw [if_pos (by omega)];omega
       have e5:(1000#64 < BitVec.ofNat 64 n)=True:=by simp [BitVec.lt_def];omega
       simp (maxSteps:=9^9) only [go_sem,seval,h1,h2,e1,e2,e0,e3,e4,e5]
      ·have e1:inK a m b=(n:Int):=by unfold inK;rw [if_pos (by omega)];omega
       have e5:(1000#64 < BitVec.ofNat 64 n)=False:=by simp [BitVec.lt_def];omega
       have e6:(BitVec.ofNat 64 n).toInt=(n:Int):=by rw [BitVec.toInt_eq_toNat_cond];simp;omega
       simp (maxSteps:=9^9) only [go_sem,seval,h1,h2,e1,e2,e0,e3,e4,e5,e6]
  ·simp at h
 ·simp at h
end
end Go.Proofs.YteclombpnhociaaGreat
set_option maxRecDepth 100000
set_option maxHeartbeats 8000000
namespace Go.Proofs.YteclombpnhociaaGreat
open Go.Am
set_option linter.unusedSimpArgs false
set_option linter.unusedVariables false
noncomputable section
theorem bitU_n {w:BitVec 64} {k:Nat}:bitU w k=b2 (w.getLsbD k):=by rw [bitU_B,bitB_n]
def cutG (w:BitVec 64) (a s:Int) (k:Nat):Bool:=decide ((k:Int) < s) && bitB w (a+k)
def cutN (w:BitVec 64) (a:Int) (k i:Nat):BitVec 64:=b2 (decide (a+k < (i:Int)) && bitB w (a+k))
theorem cutN_64 {w:BitVec 64} {a:Int} {k:Nat}:cutN w a k 64=b2 (bitB w (a+k)):=by
 unfold cutN
 by_cases h:a+(k:Int) < 64
 ·have:a+(k:Int) < ((64:Nat):Int):=by omega
  rw [decide_eq_true this,Bool.true_and]
 ·rw [bitB_out (by omega)];simp
theorem cutN_hit {w:BitVec 64} {a s:Int} {k i:Nat} (h:inP a s i=true) (hk:inK a s i=k) (h6:k < 64):cutN w a k (i+1)=b2 (w.getLsbD i):=by
 have h:a≤(i:Int)∧(i:Int) < a+s:=by simpa [inP] using h
 rw [inK,if_pos h] at hk
 have e:a+(k:Int)=(i:Int):=by omega
 unfold cutN
 rw [e,bitB_n]
 have:(i:Int) < ((i+1:Nat):Int):=by omega
 rw [decide_eq_true this,Bool.true_and]
theorem cutN_miss {w:BitVec 64} {a s:Int} {k i:Nat} (hs:(k:Int) < s) (h6:k < 64) (h:inP a s i=false∨inK a s i≠k):cutN w a k (i+1)=cutN w a k i:=by
 have hne:a+(k:Int)≠(i:Int):=by
  intro e
  have hp:inP a s i=true:=by unfold inP;exact decide_eq_true (by omega)
  rcases h with h | h
  ·rw [hp] at h;simp at h
  ·apply h
   rw [inK,if_pos (by omega)];omega
 unfold cutN
 have:decide (a+(k:Int) < ((i+1:Nat):Int))=decide (a+(k:Int) < (i:Int)):=decide_eq_decide.2 (by omega)
 rw [this]
def s_rcut (args:List AV):Option AV :=
 match args with
 | [.c (.u w),.c (.i a),.c (.i s)]=>if inR a∧inR s then some (.c (.u (cutU w a s))) else none
 | _=>none
theorem s_rcut_eq {w a s}:s_rcut [.c (.u w),.c (.i a),.c (.i s)]=if inR a∧inR s then some (.c (.u (cutU w a s))) else none:=rfl
theorem ok_rcut:PuOk Tryz.prog 79 s_rcut:=by
 refine pu_ok (tab:=[(111,.pu s_rin),(113,.fq s_of),(112,.pu s_bit)]) hmix (TabOk.cons (e:=.pu s_rin) ok_rin (TabOk.cons (e:=.fq s_of) ok_of (TabOk.cons (e:=.pu s_bit) ok_bit TabOk.nil))) Tryz.func79 rfl Tryz.results79 Tryz.ntmps79 (by kernel_rfl) (by kernel_rfl) ?_
 intro args v h
 unfold s_rcut at h
 split at h
 ·rename_i w a s
  split at h
  ·rename_i hc
   simp only [Option.some.injEq] at h;subst h
   refine ⟨by simp only [List.length_cons,List.length_nil];decide,rfl,rfl,?_⟩
   obtain ⟨ia,is⟩:=hc
   simp (maxSteps:=9^9) only [go_sem,seval,s_rin_eq,s_of_eq,s_bit_eq]
   rw [arun_loop]
   refine ⟨{k:Nat // k≤64},fun k=>([(0,.c (.u w)),(1,.c (.i a)),(2,.c (.i s)),(7,.c (.sl 0 0 k.1 k.1)),(8,.c (.i k.1))],[.vec 1 (lst (cutG w a s) k.1)]),fun k=>64 - k.1,⟨0,by omega⟩,?_,?_⟩
   ·exact Wk.trans (Wk.nil 7 1 (by decide) rfl (Nat.zero_le _)) (Wk.wk (Nat.zero_le _) (by simp [Am.get]) rfl ⟨.inr rfl,trivial⟩ rfl)
   ·rintro ⟨k,hk⟩
    by_cases hlt:k < 64
    ·have e1:w64 ((k:Int)+1)=((k+1:Nat):Int):=by rw [w64_of (by omega)];omega
     have e2:((k:Int) < 64)=True:=by simp;omega
     have e5:(k+1) * 8≤1099511627776:=by omega
     have hg:cutG w a s k=(decide ((k:Int) < s) && bitB w (a+k)):=rfl
     by_cases hs:(k:Int) < s
     ·simp (maxSteps:=9^9) only [go_sem,seval,s_rin_eq,s_of_eq,s_bit_eq,e2,hs]
      rw [arun_loop]
      refine ⟨{i:Nat // i≤64},fun i=>([(0,.c (.u w)),(1,.c (.i a)),(2,.c (.i s)),(7,.c (.sl 0 0 k k)),(8,.c (.i k)),(9,.c (.u (cutN w a k i.1))),(10,.c (.i i.1))],[.vec 1 (lst (cutG w a s) k)]),fun i=>64 - i.1,⟨0,by omega⟩,?_,?_⟩
      ·have h0:cutN w a k 0=0#64:=by
        unfold cutN
        by_cases h:a+(k:Int) < ((0:Nat):Int)
        ·rw [bitB_out (by omega)];simp [b2]
        ·rw [decide_eq_false h];rfl
       exact Wk.wk (Nat.zero_le _) (by simp [Am.get,h0]) rfl ⟨.inr rfl,trivial⟩ (by simp [AObj.cells,AObj.scs,lst_bel])
      ·rintro ⟨i,hi⟩
       by_cases hlt2:i < 64
       ·have d1:w64 ((i:Int)+1)=((i+1:Nat):Int):=by rw [w64_of (by omega)];omega
        have d2:((i:Int) < 64)=True:=by simp;omega
        have d3:(0≤(i:Int))=True:=by simp
        have d4:((i:Int)≤63)=True:=by simp;omega
        have hbi:inB a s i=inP a s i:=rfl
        cases hb:inP a s i
        ·rw [hb] at hbi
         have hm:=cutN_miss (w:=w) hs hlt (.inl hb)
         simp (maxSteps:=9^9) only [go_sem,seval,s_rin_eq,s_of_eq,s_bit_eq,d1,d2,d3,d4,ia,is,hbi]
         exact ⟨⟨i+1,by omega⟩,by simp;omega,Wk.wk (Nat.zero_le _) (by simp [Am.get,hm]) rfl ⟨.inr rfl,trivial⟩ (by simp [AObj.cells,AObj.scs,lst_bel])⟩
        ·rw [hb] at hbi
         by_cases hq:inK a s i=(k:Int)
         ·have hm:=cutN_hit (w:=w) hb hq hlt
          simp (maxSteps:=9^9) only [go_sem,seval,s_rin_eq,s_of_eq,s_bit_eq,d1,d2,d3,d4,ia,is,hbi,hq,bitU_n]
          exact ⟨⟨i+1,by omega⟩,by simp;omega,Wk.wk (Nat.zero_le _) (by simp [Am.get,hm]) rfl ⟨.inr rfl,trivial⟩ (by simp [AObj.cells,AObj.scs,lst_bel])⟩
         ·have hm:=cutN_miss (w:=w) hs hlt (.inr hq)
          simp (maxSteps:=9^9) only [go_sem,seval,s_rin_eq,s_of_eq,s_bit_eq,d1,d2,d3,d4,ia,is,hbi,hq]
          exact ⟨⟨i+1,by omega⟩,by simp;omega,Wk.wk (Nat.zero_le _) (by simp [Am.get,hm]) rfl ⟨.inr rfl,trivial⟩ (by simp [AObj.cells,AObj.scs,lst_bel])⟩
       ·obtain rfl:i=64:=by omega
        have d2:((64:Int) < 64)=False:=by simp
        simp (maxSteps:=9^9) only [go_sem,seval,s_rin_eq,s_of_eq,s_bit_eq,d2,e1,e5,lst_len,cutN_64]
        exact ⟨⟨k+1,by omega⟩,by simp;omega,Wk.wk (Nat.zero_le _) (by simp [Am.get]) rfl ⟨.inr (by simp [lst_succ,hg,hs]),trivial⟩ (by simp [AObj.cells,AObj.scs,lst_bel])⟩
     ·simp (maxSteps:=9^9) only [go_sem,seval,s_rin_eq,s_of_eq,s_bit_eq,e1,e2,hs,e5,lst_len]
      exact ⟨⟨k+1,by omega⟩,by simp;omega,Wk.wk (Nat.zero_le _) (by simp [Am.get]) rfl ⟨.inr (by simp [lst_succ,hg,hs,b2]),trivial⟩ (by simp [AObj.cells,AObj.scs,lst_bel])⟩
    ·obtain rfl:k=64:=by omega
     have e2:((64:Int) < 64)=False:=by simp
     have e6:ofG (cutG w a s)=cutU w a s:=rfl
     simp (maxSteps:=9^9) only [go_sem,seval,s_rin_eq,s_of_eq,s_bit_eq,e2,lst_len,lst_cells,ofW_eq,e6]
  ·simp at h
 ·simp at h
def signG (w:BitVec 64) (s:Int) (i:Nat):Bool:=decide (1≤s) && (if (i:Int) < s then w.getLsbD i else bitB w (s - 1))
def s_rsign (args:List AV):Option AV :=
 match args with
 | [.c (.u w),.c (.i s)]=>if inR s then some (.c (.u (signU w s))) else none
 | _=>none
theorem s_rsign_eq {w s}:s_rsign [.c (.u w),.c (.i s)]=if inR s then some (.c (.u (signU w s))) else none:=rfl
theorem ok_rsign:PuOk Tryz.prog 81 s_rsign:=by
 refine pu_ok (tab:=[(113,.fq s_of),(112,.pu s_bit)]) hmix (TabOk.cons (e:=.fq s_of) ok_of (TabOk.cons (e:=.pu s_bit) ok_bit TabOk.nil)) Tryz.func81 rfl Tryz.results81 Tryz.ntmps81 (by kernel_rfl) (by kernel_rfl) ?_
 intro args v h
 unfold s_rsign at h
 split at h
 ·rename_i w s
  split at h
  ·rename_i hc
   simp only [Option.some.injEq] at h;subst h
   refine ⟨by simp only [List.length_cons,List.length_nil];decide,rfl,rfl,?_⟩
   obtain ⟨sl,sh⟩:=hc
   by_cases h1:s < 1
   ·have e:signU w s=0#64:=by
     refine (ofG_ext fun i hi=>?_).symm
     have:¬1≤s:=by omega
     simp [this]
    simp (maxSteps:=9^9) only [go_sem,seval,s_of_eq,s_bit_eq,h1,e]
   ·have h1':1≤s:=by omega
    have e0:w64 (s - 1)=s - 1:=w64_of (by omega)
    simp (maxSteps:=9^9) only [go_sem,seval,s_of_eq,s_bit_eq,h1]
    rw [arun_loop]
    refine ⟨{k:Nat // k≤64},fun k=>([(0,.c (.u w)),(1,.c (.i s)),(5,.c (.sl 0 0 k.1 k.1)),(6,.c (.i k.1))],[.vec 1 (lst (signG w s) k.1)]),fun k=>64 - k.1,⟨0,by omega⟩,?_,?_⟩
    ·exact Wk.trans (Wk.nil 5 1 (by decide) rfl (Nat.zero_le _)) (Wk.wk (Nat.zero_le _) (by simp [Am.get]) rfl ⟨.inr rfl,trivial⟩ rfl)
    ·rintro ⟨k,hk⟩
     by_cases hlt:k < 64
     ·have e1:w64 ((k:Int)+1)=((k+1:Nat):Int):=by rw [w64_of (by omega)];omega
      have e2:((k:Int) < 64)=True:=by simp;omega
      have e5:(k+1) * 8≤1099511627776:=by omega
      have hg:signG w s k=(decide (1≤s) && (if (k:Int) < s then w.getLsbD k else bitB w (s - 1))):=rfl
      by_cases hs:(k:Int) < s
      ·simp (maxSteps:=9^9) only [go_sem,seval,s_of_eq,s_bit_eq,e0,e1,e2,e5,hs,lst_len,bitU_n]
       exact ⟨⟨k+1,by omega⟩,by simp;omega,Wk.wk (Nat.zero_le _) (by simp [Am.get]) rfl ⟨.inr (by simp [lst_succ,hg,hs,h1']),trivial⟩ (by simp [AObj.cells,AObj.scs,lst_bel])⟩
      ·simp (maxSteps:=9^9) only [go_sem,seval,s_of_eq,s_bit_eq,e0,e1,e2,e5,hs,lst_len,bitU_B]
       exact ⟨⟨k+1,by omega⟩,by simp;omega,Wk.wk (Nat.zero_le _) (by simp [Am.get]) rfl ⟨.inr (by simp [lst_succ,hg,hs,h1']),trivial⟩ (by simp [AObj.cells,AObj.scs,lst_bel])⟩
     ·obtain rfl:k=64:=by omega
      have e2:((64:Int) < 64)=False:=by simp
      have e6:ofG (signG w s)=signU w s:=rfl
      simp (maxSteps:=9^9) only [go_sem,seval,s_of_eq,s_bit_eq,e2,lst_len,lst_cells,ofW_eq,e6]
  ·simp at h
 ·simp at h
end
end Go.Proofs.YteclombpnhociaaGreat
set_option maxRecDepth 100000
set_option maxHeartbeats 8000000
namespace Go.Proofs.YteclombpnhociaaGreat
open Go.Am
set_option linter.unusedSimpArgs false
set_option linter.unusedVariables false
noncomputable section
theorem Wk.same {n:Nat} {fr fr':Fr} {H:AH} (h:∀s,Am.get fr' s=Am.get fr s):Wk n fr H (fr',H) :=
 fun ρ _ _ h1 h2=>⟨ρ,fun s=>by rw [h s];exact h1 s,h2,fun i _ hi hL _=>⟨i,hi,hL⟩,fun _ _=>rfl⟩
theorem bel_app {H:AH} {o:AObj} (hH:belH H=true) (ho:o.scs.all (Sc.bel (H.length+1))=true):belH (H++[o])=true:=by
 simp only [belH,List.all_append,List.all_cons,List.all_nil,Bool.and_true,Bool.and_eq_true,List.length_append,List.length_cons,List.length_nil]
 refine ⟨List.all_eq_true.2 fun x hx=>List.all_eq_true.2 fun s hs=>?_,ho⟩
 have:=List.all_eq_true.1 (List.all_eq_true.1 hH x hx) s hs
 exact Sc.bel_mono this (by omega)
def vecAt (w:Nat) (H:AH):Sc→Option (Nat × List Sc × Nat)
 | .nils=>some (H.length,[],0)
 | .sl id off v n =>
   match hg H id with
   | .vec z cs=>if off=0∧v=cs.length∧z=w∧cs.length=n * w then some (id,cs,n) else none
   | _=>none
 | _=>none
def vecPut (w:Nat) (H:AH) (l0:Sc) (m:List Sc):AH :=
 match l0 with
 | .sl id _ _ _=>H.set id (.vec w m)
 | _=>H++[.vec w m]
theorem vecAt_nils {w:Nat} {H:AH}:vecAt w H .nils=some (H.length,[],0):=rfl
theorem vecPut_nils {w:Nat} {H:AH} {m:List Sc}:vecPut w H .nils m=H++[.vec w m]:=rfl
theorem vecPut_sl {w id a b c:Nat} {H:AH} {m:List Sc}:vecPut w H (.sl id a b c) m=H.set id (.vec w m):=rfl
theorem vecAt_sl {w id n v:Nat} {H:AH} {cs:List Sc} (h:hg H id=.vec w cs) (hl:cs.length=n * w) (hv:v=cs.length):vecAt w H (.sl id 0 v n)=some (id,cs,n):=by
 subst hv
 simp [vecAt,h,hl]
structure VecOk (w:Nat) (H:AH) (l0:Sc) (HH:List Sc→AH) (id:Nat) (cs:List Sc) (k:Nat):Prop where
 get0:∀m,hg (HH m) id=.vec w m
 get:∀m X,hg (HH m++X) id=.vec w m
 set0:∀m m',(HH m).set id (.vec w m')=HH m'
 set:∀m m' X,(HH m++X).set id (.vec w m')=HH m'++X
 hid:∀m,id < (HH m).length
 ge:∀m,H.length≤(HH m).length
 bel:∀m,m.all Sc.pf=true→belH (HH (cs++m))=true
 start:∀fr d,Am.get fr d=.c l0→Wk H.length fr H ((d,.c (.sl id 0 cs.length k))::fr,HH cs)
 len:cs.length=k * w
theorem pf_bel {m:List Sc} (n:Nat) (h:m.all Sc.pf=true):m.all (Sc.bel n)=true:=by
 rw [List.all_eq_true] at h ⊢
 intro x hx
 have:=h x hx
 cases x <;> simp_all [Sc.pf,Sc.bel]
theorem vec_ok {w:Nat} {H:AH} {l0:Sc} {id k:Nat} {cs:List Sc} (hw:0 < w) (hH:belH H=true) (h:vecAt w H l0=some (id,cs,k)):VecOk w H l0 (vecPut w H l0) id cs k:=by
 cases l0 <;> simp only [vecAt] at h <;> try (simp at h;done)
 ·obtain ⟨rfl,rfl,rfl⟩:H.length=id∧[]=cs∧0=k:=by simpa using h
  refine ⟨fun m=>?_,fun m X=>?_,fun m m'=>?_,fun m m' X=>?_,fun m=>?_,fun m=>?_,fun m hm=>?_,fun fr d hd=>?_,?_⟩
  ·exact hg_len
  ·simp only [vecPut,List.append_assoc];exact hg_len
  ·simp only [vecPut];exact set_len
  ·simp only [vecPut,List.append_assoc];exact set_len
  ·simp [vecPut]
  ·simp [vecPut]
  ·exact bel_app hH (pf_bel _ hm)
  ·exact Wk.nil d w hw hd (Nat.le_refl _)
  ·simp
 ·rename_i id' off v n
  split at h
  ·rename_i z cs' hz
   split at h
   ·rename_i hc
    obtain ⟨rfl,rfl,rfl,hl⟩:=hc
    obtain ⟨rfl,rfl,rfl⟩:id'=id∧cs'=cs∧n=k:=by simpa using h
    have hid:id' < H.length:=hg_lt (by rw [hz];rfl)
    have hself:H.set id' (.vec z cs')=H:=by
     have:H[id']=.vec z cs':=by rw [←hz];unfold hg;rw [List.getD_eq_getElem?_getD,List.getElem?_eq_getElem hid];rfl
     rw [←this,List.set_getElem_self]
    refine ⟨fun m=>?_,fun m X=>?_,fun m m'=>?_,fun m m' X=>?_,fun m=>?_,fun m=>?_,fun m hm=>?_,fun fr d hd=>?_,hl⟩
    ·exact hg_set_same hid
    ·simp only [vecPut];rw [hg_lt' (by simpa using hid)];exact hg_set_same hid
    ·simp only [vecPut,List.set_set]
    ·simp only [vecPut];rw [List.set_append_left _ _ (by simpa using hid),List.set_set]
    ·simpa [vecPut] using hid
    ·simp [vecPut]
    ·refine bel_set hH ?_
     show (cs'++m).all _=true
     rw [List.all_append,Bool.and_eq_true]
     refine ⟨?_,pf_bel _ hm⟩
     have hm:AObj.vec z cs'∈H:=by rw [←hz];unfold hg;rw [List.getD_eq_getElem?_getD,List.getElem?_eq_getElem hid];simp
     exact List.all_eq_true.1 hH _ hm
    ·simp only [vecPut];rw [hself]
     refine Wk.same fun s=>?_
     by_cases e:d=s
     ·subst e;rw [hd];simp [Am.get]
     ·simp [Am.get,e]
   ·simp at h
  ·simp at h
end
end Go.Proofs.YteclombpnhociaaGreat
set_option maxRecDepth 100000
set_option maxHeartbeats 8000000
namespace Go.Proofs.YteclombpnhociaaGreat
open Go.Am
set_option linter.unusedSimpArgs false
set_option linter.unusedVariables false
noncomputable section
def room (v:BitVec 64):Nat:=4096 - v.toNat % 4096
def smB (c s:Int):Bool:=decide (1≤s∧s≤8∧0≤c∧c < s)
def s_smay (args:List AV):Option AV :=
 match args with
 | [.g [.u a,.u n,.i c,.i s]]=>some (.c (.b (smB c s)))
 | _=>none
theorem s_smay_eq {a n c s}:s_smay [.g [.u a,.u n,.i c,.i s]]=some (.c (.b (smB c s))):=rfl
theorem ok_smay:PuOk Tryz.prog 96 s_smay:=by
 refine pu_ok (tab:=[]) hmix TabOk.nil Tryz.func96 rfl Tryz.results96 Tryz.ntmps96 (by kernel_rfl) (by kernel_rfl) ?_
 intro args v h
 unfold s_smay at h
 split at h
 ·rename_i a n c s
  simp only [Option.some.injEq] at h;subst h
  refine ⟨by simp only [List.length_cons,List.length_nil];decide,rfl,rfl,?_⟩
  by_cases h1:1≤s
  all_goals by_cases h2:s≤8
  all_goals by_cases h3:0≤c
  all_goals by_cases h4:c < s
  all_goals simp (maxSteps:=9^9) only [go_sem,seval,smB,h1,h2,h3,h4,and_false,false_and]
 ·simp at h
def s_sline (args:List AV):Option AV :=
 match args with
 | [.c (.u v)]=>some (.c (.u (v / 64#64)))
 | _=>none
theorem s_sline_eq {v}:s_sline [.c (.u v)]=some (.c (.u (v / 64#64))):=rfl
theorem ok_sline:PuOk Tryz.prog 36 s_sline:=by
 refine pu_ok (tab:=[]) hmix TabOk.nil Tryz.func36 rfl Tryz.results36 Tryz.ntmps36 (by kernel_rfl) (by kernel_rfl) ?_
 intro args v h
 unfold s_sline at h
 split at h
 ·rename_i v
  simp only [Option.some.injEq] at h;subst h
  refine ⟨by simp only [List.length_cons,List.length_nil];decide,rfl,rfl,?_⟩
  simp (maxSteps:=9^9) only [go_sem,seval]
 ·simp at h
def stripeU (v:BitVec 64) (s:Int):Int:=if s < 1 then 0 else (v / 64#64 % BitVec.ofInt 64 s).toInt
theorem st_ne {s:Int} (h:¬s < 1) (hs:inR s):(BitVec.ofInt 64 s=0#64)=False:=eq_false fun e=>by
 have h1:=hs.hi
 have:=congrArg BitVec.toNat e
 rw [BitVec.toNat_ofInt] at this
 simp at this
 omega
def s_sstripe (args:List AV):Option AV :=
 match args with
 | [.c (.u v),.c (.i s)]=>if inR s then some (.c (.i (stripeU v s))) else none
 | _=>none
theorem s_sstripe_eq {v s}:s_sstripe [.c (.u v),.c (.i s)]=if inR s then some (.c (.i (stripeU v s))) else none:=rfl
theorem ok_sstripe:PuOk Tryz.prog 56 s_sstripe:=by
 refine pu_ok (tab:=[(36,.pu s_sline)]) hmix (TabOk.cons (e:=.pu s_sline) ok_sline TabOk.nil) Tryz.func56 rfl Tryz.results56 Tryz.ntmps56 (by kernel_rfl) (by kernel_rfl) ?_
 intro args v h
 unfold s_sstripe at h
 split at h
 ·rename_i v s
  split at h
  ·rename_i hc
   simp only [Option.some.injEq] at h;subst h
   refine ⟨by simp only [List.length_cons,List.length_nil];decide,rfl,rfl,?_⟩
   by_cases h1:s < 1
   ·simp (maxSteps:=9^9) only [go_sem,seval,s_sline_eq,stripeU,h1]
   ·have e:=st_ne h1 hc
    simp (maxSteps:=9^9) only [go_sem,seval,s_sline_eq,stripeU,h1,e]
  ·simp at h
 ·simp at h
def left (a:BitVec 64):Nat:=64 - a.toNat % 64
def pcs (a:BitVec 64) (n s:Int):List Sc:=if n≤(left a:Int) then [.u a,.i n,.i s] else [.u a,.i (left a),.i s,.u (a+BitVec.ofInt 64 (left a)),.i (n - left a),.i (s+8 * left a)]
def pcN (a:BitVec 64) (n:Int):Nat:=if n≤(left a:Int) then 1 else 2
theorem mod64 (v:BitVec 64):(v % 64#64).toInt=((v.toNat % 64:Nat):Int):=by
 rw [BitVec.toInt_eq_toNat_cond,BitVec.toNat_umod]
 have e:(64#64).toNat=64:=rfl
 rw [e,if_pos (by omega)]
def s_run (args:List AV) (H:AH):Option (AV × AH) :=
 match args with
 | [.c l0,.c (.u a),.c (.i n),.c (.i s)] =>
   if 1≤n∧n≤8∧0≤s∧s≤64 then
    match vecAt 3 H l0 with
    | some (id,cs,k)=>if k≤1000 then some (.c (.sl id 0 (cs.length+3 * pcN a n) (k+pcN a n)),vecPut 3 H l0 (cs++pcs a n s)) else none
    | none=>none
   else none
 | _=>none
theorem s_run_eq {H:AH} {l0:Sc} {a:BitVec 64} {n s:Int} {id k:Nat} {cs:List Sc} (h:1≤n∧n≤8∧0≤s∧s≤64) (hv:vecAt 3 H l0=some (id,cs,k)) (hk:k≤1000):s_run [.c l0,.c (.u a),.c (.i n),.c (.i s)] H=some (.c (.sl id 0 (cs.length+3 * pcN a n) (k+pcN a n)),vecPut 3 H l0 (cs++pcs a n s)):=by
 simp only [s_run,h,hv,hk,and_self,if_true]
theorem len_run (args:List AV) (H:AH) (v:AV) (H1:AH) (h:s_run args H=some (v,H1)):H.length≤H1.length:=by
 unfold s_run at h
 split at h
 ·rename_i l0 a n s
  split at h
  ·split at h
   ·split at h
    ·simp only [Option.some.injEq,Prod.mk.injEq] at h
     rw [←h.2]
     unfold vecPut
     split <;> simp
    ·simp at h
   ·simp at h
  ·simp at h
 ·simp at h
theorem ok_run:FpOk Tryz.prog 100 s_run:=by
 refine fp_ok (s:=s_run) (tab:=[]) hmix TabOk.nil Tryz.func100 rfl Tryz.results100 Tryz.ntmps100 (by kernel_rfl) (by kernel_rfl) len_run ?_
 intro args H v H1 h hargs hH
 unfold s_run at h
 split at h
 ·rename_i l0 a n s
  split at h
  ·rename_i hc
   obtain ⟨hn1,hn8,hs0,hs64⟩:=hc
   split at h
   ·rename_i id cs k0 hv
    split at h
    ·rename_i hk0
     simp only [Option.some.injEq,Prod.mk.injEq] at h
     obtain ⟨rfl,rfl⟩:=h
     have V:=vec_ok (by decide) hH hv
     generalize vecPut 3 H l0=HH at V
     have g0:=V.get0
     have g1:=V.get
     have g2:=V.set0
     have g3:=V.set
     have hl0:=V.len
     refine ⟨by simp only [List.length_cons,List.length_nil];decide,?_⟩
     have d1:w64 (64 - ((a.toNat % 64:Nat):Int))=(left a:Int):=by rw [w64_of (by omega)];unfold left;omega
     have d2:1≤left a∧left a≤64:=by unfold left;omega
     have d3:((k0+1) * 24≤1099511627776)=True:=eq_true (by omega)
     have d3b:((k0+1+1) * 24≤1099511627776)=True:=eq_true (by omega)
     simp (maxSteps:=9^9) only [go_sem,seval]
     rw [arun_loop]
     by_cases hb:n≤(left a:Int)
     ·have e1:min n (left a:Int)=n:=by omega
      have hp:pcs a n s=[.u a,.i n,.i s]:=by simp only [pcs,hb,if_true]
      have hq:pcN a n=1:=by simp only [pcN,hb,if_true]
      have e2:(0 < n)=True:=eq_true (by omega)
      have e3:w64 (n - n)=0:=by rw [w64_of (by omega)];omega
      have e4:(cs.length=k0 * 3)=True:=eq_true hl0
      have hb1:=V.bel [.u a,.i n,.i s] rfl
      have hb0:=V.bel [] rfl
      rw [List.append_nil] at hb0
      refine ⟨Bool,fun k=>if k=true then ([(0,.c (.sl id 0 cs.length k0)),(1,.c (.u a)),(2,.c (.i n)),(3,.c (.i s))],HH cs) else ([(0,.c (.sl id 0 (cs.length+3) (k0+1))),(2,.c (.i 0))],HH (cs++[.u a,.i n,.i s])),fun k=>k.toNat,true,?_,?_⟩
      ·exact Wk.trans (V.start _ 0 (by simp [Am.get])) (Wk.wk (V.ge _) (by simp [Am.get]) (by simp [AV.bel,Sc.bel,V.hid]) (subH_refl _) hb0)
      ·rintro (_ | _)
       ·simp (maxSteps:=9^9) only [go_sem,seval,hp,hq]
        exact ⟨_,rfl,Wk.wk (V.ge _) (by simp [Am.get]) (by simp [AV.bel,Sc.bel,V.hid]) (subH_refl _) hb1⟩
       ·simp (maxSteps:=9^9) only [go_sem,seval,mod64,d1,d3,d3b,e1,e2,e3,e4,g0,g1,g2,g3]
        exact ⟨false,by decide,Wk.wk (V.ge _) (by simp [Am.get]) (by simp [AV.bel,Sc.bel,V.hid]) (subH_app _ _) hb1⟩
     ·obtain ⟨m,hm⟩:∃m,left a=m:=⟨_,rfl⟩
      have hp:pcs a n s=[.u a,.i m,.i s,.u (a+BitVec.ofInt 64 m),.i (n - m),.i (s+8 * m)]:=by unfold pcs;rw [if_neg hb,hm]
      have hq:pcN a n=2:=by simp only [pcN,hb,if_false]
      rw [hm] at d1 d2 hb
      have e1:min n (m:Int)=m:=by omega
      have e2:(0 < n)=True:=eq_true (by omega)
      have e3:w64 (n - m)=n - m:=w64_of (by omega)
      have e4:(cs.length=k0 * 3)=True:=eq_true hl0
      have e5:w64 (s+w64 (8 * (m:Int)))=s+8 * m:=by rw [w64_of (n:=8 * (m:Int)) (by omega)];exact w64_of (by omega)
      have e6:w64 (n - m - (n - m))=0:=by rw [w64_of (by omega)];omega
      have e7:(cs.length+3=(k0+1) * 3)=True:=eq_true (by omega)
      have e8:(0 < n - m)=True:=eq_true (by omega)
      have d4:(a+BitVec.ofInt 64 (m:Int)).toNat % 64=0:=by
       have e0:(BitVec.ofInt 64 (m:Int)).toNat=m:=ofI_nat (by omega)
       rw [BitVec.toNat_add,e0,←hm];unfold left;omega
      have d5:w64 64=64:=by decide
      have d6:min (n - (m:Int)) 64=n - m:=by omega
      have hb2:=V.bel [.u a,.i m,.i s,.u (a+BitVec.ofInt 64 m),.i (n - m),.i (s+8 * m)] rfl
      have hb1:=V.bel [.u a,.i m,.i s] rfl
      have hb0:=V.bel [] rfl
      rw [List.append_nil] at hb0
      refine ⟨Option Bool,fun k=>(match k with
       | none=>([(0,.c (.sl id 0 (cs.length+6) (k0+2))),(2,.c (.i 0))],HH (cs++[.u a,.i m,.i s,.u (a+BitVec.ofInt 64 m),.i (n - m),.i (s+8 * m)]))
       | some true=>([(0,.c (.sl id 0 cs.length k0)),(1,.c (.u a)),(2,.c (.i n)),(3,.c (.i s))],HH cs)
       | some false=>([(0,.c (.sl id 0 (cs.length+3) (k0+1))),(1,.c (.u (a+BitVec.ofInt 64 m))),(2,.c (.i (n - m))),(3,.c (.i (s+8 * m)))],HH (cs++[.u a,.i m,.i s]))),fun k=>(match k with
       | none=>0
       | some true=>2
       | some false=>1),some true,?_,?_⟩
      ·exact Wk.trans (V.start _ 0 (by simp [Am.get])) (Wk.wk (V.ge _) (by simp [Am.get]) (by simp [AV.bel,Sc.bel,V.hid]) (subH_refl _) hb0)
      ·rintro (_ | _ | _)
       ·simp (maxSteps:=9^9) only [go_sem,seval,hp,hq]
        exact ⟨_,rfl,Wk.wk (V.ge _) (by simp [Am.get]) (by simp [AV.bel,Sc.bel,V.hid]) (subH_refl _) hb2⟩
       ·simp (maxSteps:=9^9) only [go_sem,seval,mod64,d1,d3,d3b,d4,d5,d6,e1,e2,e3,e4,e5,e6,e7,e8,g0,g1,g2,g3]
        exact ⟨none,by decide,Wk.wk (V.ge _) (by simp [Am.get]) (by simp [AV.bel,Sc.bel,V.hid]) (subH_app _ _) hb2⟩
       ·simp (maxSteps:=9^9) only [go_sem,seval,mod64,d1,d3,d3b,e1,e2,e3,e4,e5,g0,g1,g2,g3]
        exact ⟨some false,by decide,Wk.wk (V.ge _) (by simp [Am.get]) (by simp [AV.bel,Sc.bel,V.hid]) (subH_app _ _) hb1⟩
    ·simp at h
   ·simp at h
  ·simp at h
 ·simp at h
def accL (a b:BitVec 64) (c s:Int):List Sc:=if smB c s=true then (if c=0 then pcs a s 0 else pcs a c 0++pcs b (s - c) (8 * c)) else []
def accN (a b:BitVec 64) (c s:Int):Nat:=if smB c s=true then (if c=0 then pcN a s else pcN a c+pcN b (s - c)) else 0
theorem pcs_len {a:BitVec 64} {n s:Int}:(pcs a n s).length=3 * pcN a n:=by unfold pcs pcN;split <;> rfl
theorem pcN_le {a:BitVec 64} {n:Int}:1≤pcN a n∧pcN a n≤2:=by unfold pcN;split <;> omega
def s_pieces (args:List AV) (H:AH):Option (AV × AH) :=
 match args with
 | [.g [.u a,.u b,.i c,.i s]]=>if smB c s=true then some (.c (.sl (H.length+1) 0 (3 * accN a b c s) (accN a b c s)),H++[.dead,.vec 3 (accL a b c s)]) else some (.c .nils,H)
 | _=>none
theorem s_pieces_eq {a b:BitVec 64} {c s:Int} {H:AH}:s_pieces [.g [.u a,.u b,.i c,.i s]] H=if smB c s=true then some (.c (.sl (H.length+1) 0 (3 * accN a b c s) (accN a b c s)),H++[.dead,.vec 3 (accL a b c s)]) else some (.c .nils,H):=rfl
theorem len_pieces (args:List AV) (H:AH) (v:AV) (H1:AH) (h:s_pieces args H=some (v,H1)):H.length≤H1.length:=by
 unfold s_pieces at h
 split at h
 ·split at h
  all_goals simp only [Option.some.injEq,Prod.mk.injEq] at h
  all_goals rw [←h.2]
  all_goals simp
 ·simp at h
theorem pcs_pf {a:BitVec 64} {n s:Int}:(pcs a n s).all Sc.pf=true:=by unfold pcs;split <;> rfl
theorem subH_dead1 (H:AH) (x y:AObj):subH (H++[.dead,y]) (H++[x,y]):=by
 induction H with
 | nil=>exact ⟨.inl rfl,.inr rfl,trivial⟩
 | cons o r ih=>exact ⟨.inr rfl,ih⟩
theorem bel_app2 {H:AH} {o:AObj} (hH:belH H=true) (ho:o.scs.all (Sc.bel (H.length+2))=true):belH (H++[.dead,o])=true:=by
 simp only [belH,List.all_append,List.all_cons,List.all_nil,Bool.and_true,Bool.and_eq_true,List.length_append,List.length_cons,List.length_nil]
 refine ⟨List.all_eq_true.2 fun x hx=>List.all_eq_true.2 fun s hs=>?_,rfl,ho⟩
 have:=List.all_eq_true.1 (List.all_eq_true.1 hH x hx) s hs
 exact Sc.bel_mono this (by omega)
theorem ok_pieces:FpOk Tryz.prog 54 s_pieces:=by
 refine fp_ok (s:=s_pieces) (tab:=[(96,.pu s_smay),(100,.fp s_run)]) hmix (TabOk.cons (e:=.pu s_smay) ok_smay (TabOk.cons (e:=.fp s_run) ok_run TabOk.nil)) Tryz.func54 rfl Tryz.results54 Tryz.ntmps54 (by kernel_rfl) (by kernel_rfl) len_pieces ?_
 intro args H v H1 h hargs hH
 unfold s_pieces at h
 split at h
 ·rename_i a b c s
  split at h
  ·rename_i hm
   simp only [Option.some.injEq,Prod.mk.injEq] at h
   obtain ⟨rfl,rfl⟩:=h
   refine ⟨by simp only [List.length_cons,List.length_nil];decide,?_⟩
   have hm':1≤s∧s≤8∧0≤c∧c < s:=by simpa [smB] using hm
   by_cases hc:c=0
   ·subst hc
    have r:=s_run_eq (H:=H++[.own [.u a,.u b,.i 0,.i s]]) (l0:=.nils) (a:=a) (n:=s) (s:=0) (by omega) vecAt_nils (by omega)
    have n1:accN a b 0 s=pcN a s:=by simp only [accN,hm,if_true]
    have n2:accL a b 0 s=pcs a s 0:=by simp only [accL,hm,if_true]
    simp (maxSteps:=9^9) only [go_sem,seval,s_smay_eq,s_run_eq,hm,r]
    exact ⟨_,rfl,Wk.wk (by simp [lo]) (by simp [Am.get,n1]) (by simp [AV.bel,Sc.bel]) (by rw [vecPut_nils,n2,List.append_assoc];exact subH_dead1 H _ _) (by rw [n2];exact bel_app2 hH (pf_bel _ pcs_pf))⟩
   ·have r:=s_run_eq (H:=H++[.own [.u a,.u b,.i c,.i s]]) (l0:=.nils) (a:=a) (n:=c) (s:=0) (by omega) vecAt_nils (by omega)
    have f1:(H++[AObj.own [.u a,.u b,.i c,.i s]]).length=H.length+1:=by simp
    have pa:=@pcN_le a c
    have la:=@pcs_len a c 0
    have e1:w64 (s - c)=s - c:=w64_of (by omega)
    have e2:w64 (8 * c)=8 * c:=w64_of (by omega)
    have n1:accN a b c s=pcN a c+pcN b (s - c):=by simp only [accN,hm,hc,if_true,if_false]
    have n2:accL a b c s=pcs a c 0++pcs b (s - c) (8 * c):=by simp only [accL,hm,hc,if_true,if_false]
    have r2:=s_run_eq (H:=vecPut 3 (H++[.own [.u a,.u b,.i c,.i s]]) .nils ([]++pcs a c 0)) (l0:=.sl (H.length+1) 0 (3 * pcN a c) (pcN a c)) (a:=b) (n:=s - c) (s:=8 * c) (id:=H.length+1) (cs:=pcs a c 0) (k:=pcN a c) (by omega)
     (vecAt_sl (by rw [vecPut_nils,List.append_assoc];exact hg_len_add) (by omega) la.symm) (by omega)
    rw [vecPut_sl,vecPut_nils,List.append_assoc,set_len_add] at r2
    simp only [List.cons_append,List.nil_append,List.set_cons_succ,List.set_cons_zero] at r2
    simp (maxSteps:=9^9) only [go_sem,seval,s_smay_eq,s_run_eq,hm,hc,r,vecPut_nils,e1,e2,r2]
    exact ⟨by decide,_,rfl,Wk.wk (by simp [lo]) (by simp [Am.get,n1,la];omega) (by simp [AV.bel,Sc.bel]) (by rw [n2];exact subH_dead1 H _ _) (by rw [n2];exact bel_app2 hH (pf_bel _ (by show (pcs a c 0++pcs b (s - c) (8 * c)).all Sc.pf=true;rw [List.all_append,Bool.and_eq_true];exact ⟨pcs_pf,pcs_pf⟩)))⟩
  ·rename_i hm
   simp only [Option.some.injEq,Prod.mk.injEq] at h
   obtain ⟨rfl,rfl⟩:=h
   refine ⟨by simp only [List.length_cons,List.length_nil];decide,?_⟩
   simp (maxSteps:=9^9) only [go_sem,seval,s_smay_eq,s_run_eq,hm]
   exact ⟨_,rfl,Wk.wk (by simp [lo]) (by simp [Am.get]) rfl (subH_app _ _) hH⟩
 ·simp at h
end
end Go.Proofs.YteclombpnhociaaGreat
set_option maxRecDepth 100000
set_option maxHeartbeats 8000000
namespace Go.Proofs.YteclombpnhociaaGreat
open Go.Am
set_option linter.unusedSimpArgs false
set_option linter.unusedVariables false
noncomputable section
structure Pc where
 a:BitVec 64
 n:Int
 s:Int
def encP (p:Pc):List Sc:=[.u p.a,.i p.n,.i p.s]
def dcP:List Sc→Option Pc
 | [.u a,.i n,.i s]=>some ⟨a,n,s⟩
 | _=>none
theorem dcP_e (p:Pc):dcP (encP p)=some p:=rfl
theorem dcP_d (cs:List Sc) (p:Pc) (h:dcP cs=some p):cs=encP p:=by
 unfold dcP at h
 split at h
 ·simp only [Option.some.injEq] at h;subst h;rfl
 ·simp at h
theorem encP_l (p:Pc):(encP p).length=3:=rfl
def rightB (n s:Int):Bool:=decide (1≤n) && decide (n≤8) && (decide (0≤s) && decide (s≤63))
theorem right_iff {n s:Int}:(rightB n s=true)=(1≤n∧n≤8∧0≤s∧s≤63):=by
 simp only [rightB,Bool.and_eq_true,decide_eq_true_eq,and_assoc]
def maskU (n s:Int):BitVec 64:=if rightB n s=true then onesU 0 (8 * n) else 0#64
theorem ones_n {n:Int} (h:1≤n∧n≤8):18446744073709551615#64 >>> (64 - 8 * n).toNat=onesU 0 (8 * n):=by
 refine ofG_ext fun i hi=>?_
 obtain ⟨k,rfl⟩:=Int.eq_ofNat_of_zero_le (by omega:0≤n)
 have:=ones_eq (f:=0) (t:=8 * k) (by omega) (by omega) i hi
 rw [BitVec.shiftLeft_zero] at this
 have e:(64 - 8 * (k:Int)).toNat=64 - (8 * k - 0):=by omega
 rw [e,this]
 unfold inP
 rw [Bool.eq_iff_iff];simp
 try omega
theorem mask_bit {n s:Int} {i:Nat} (h:rightB n s=true) (hi:i < 64):(maskU n s).getLsbD i=decide ((i:Int) < 8 * n):=by
 unfold maskU;rw [if_pos h];unfold onesU;rw [ofG_get hi];unfold inP
 rw [Bool.eq_iff_iff];simp
 try omega
theorem mask_0 {n s:Int}:(maskU n s=0#64)=(rightB n s=false):=by
 apply propext
 cases h:rightB n s
 ·simp [maskU,h]
 ·simp only [reduceCtorEq,iff_false]
  intro e
  have h2:=mask_bit (i:=0) h (by decide)
  rw [e] at h2
  rw [right_iff] at h
  rw [decide_eq_true (by omega)] at h2
  simp at h2
def s_smask (args:List AV):Option AV :=
 match args with
 | [.g [.u a,.i n,.i s]]=>some (.c (.u (maskU n s)))
 | _=>none
theorem s_smask_eq {a n s}:s_smask [.g [.u a,.i n,.i s]]=some (.c (.u (maskU n s))):=rfl
theorem ok_smask:PuOk Tryz.prog 103 s_smask:=by
 refine pu_ok (tab:=[]) hmix TabOk.nil Tryz.func103 rfl Tryz.results103 Tryz.ntmps103 (by kernel_rfl) (by kernel_rfl) ?_
 intro args v h
 unfold s_smask at h
 split at h
 ·rename_i a n s
  simp only [Option.some.injEq] at h;subst h
  refine ⟨by simp only [List.length_cons,List.length_nil];decide,rfl,rfl,?_⟩
  cases h:rightB n s
  ·have h':¬(1≤n∧n≤8∧0≤s∧s≤63):=by rw [←right_iff,h];simp
   (repeat (first | simp (maxSteps:=9^9) only [go_sem,seval,maskU,h] | simp (disch:=omega) only [w64_d,ipos,ineg,dpos,dneg]))
   repeat' (first
    | (refine cnd_by (fun h=>?_) (fun h=>?_) <;> (try simp only [decide_eq_true_eq,decide_eq_false_iff_not,Bool.not_eq_true',Bool.not_eq_false',Bool.not_eq_true,Bool.not_eq_false,Bool.and_eq_true,beq_iff_eq,beq_eq_false_iff_ne,ne_eq,Bool.or_eq_true] at h) <;> ((repeat (first | simp (maxSteps:=9^9) only [go_sem,seval,h] | simp (disch:=omega) only [w64_d,ipos,ineg,dpos,dneg]))))
    | (refine grd_by (fun h=>?_) (fun h=>?_) <;> (try simp only [decide_eq_true_eq,decide_eq_false_iff_not,Bool.not_eq_true',Bool.not_eq_false',Bool.not_eq_true,Bool.not_eq_false,Bool.and_eq_true,beq_iff_eq,beq_eq_false_iff_ne,ne_eq,Bool.or_eq_true] at h) <;> ((repeat (first | simp (maxSteps:=9^9) only [go_sem,seval,h] | simp (disch:=omega) only [w64_d,ipos,ineg,dpos,dneg]))))
    | (refine grdd_by (fun h=>?_) (fun h=>?_) <;> (try simp only [decide_eq_true_eq,decide_eq_false_iff_not,Bool.not_eq_true',Bool.not_eq_false',Bool.not_eq_true,Bool.not_eq_false,Bool.and_eq_true,beq_iff_eq,beq_eq_false_iff_ne,ne_eq,Bool.or_eq_true] at h) <;> ((repeat (first | simp (maxSteps:=9^9) only [go_sem,seval,h] | simp (disch:=omega) only [w64_d,ipos,ineg,dpos,dneg])))))
   all_goals exfalso
   all_goals omega
  ·have h':=h
   rw [right_iff] at h
   have e1:w64 (8 * n)=8 * n:=w64_of (by omega)
   have e2:w64 (64 - 8 * n)=64 - 8 * n:=w64_of (by omega)
   have e3:(BitVec.ofInt 64 (64 - 8 * n)).toNat=(64 - 8 * n).toNat:=by rw [BitVec.toNat_ofInt];omega
   (repeat (first | simp (maxSteps:=9^9) only [go_sem,seval,maskU,h',e1,e2,e3,ones_n ⟨h.1,h.2.1⟩] | simp (disch:=omega) only [w64_d,ipos,ineg,dpos,dneg]))
 ·simp at h
def partU (v:BitVec 64) (n s:Int):BitVec 64:=if rightB n s=true then cutU v s (8 * n) else 0#64
def s_spart (args:List AV):Option AV :=
 match args with
 | [.c (.u v),.g [.u a,.i n,.i s]]=>some (.c (.u (partU v n s)))
 | _=>none
theorem s_spart_eq {v a n s}:s_spart [.c (.u v),.g [.u a,.i n,.i s]]=some (.c (.u (partU v n s))):=rfl
theorem ok_spart:PuOk Tryz.prog 61 s_spart:=by
 refine pu_ok (tab:=[(103,.pu s_smask)]) hmix (TabOk.cons (e:=.pu s_smask) ok_smask TabOk.nil) Tryz.func61 rfl Tryz.results61 Tryz.ntmps61 (by kernel_rfl) (by kernel_rfl) ?_
 intro args v h
 unfold s_spart at h
 split at h
 ·rename_i v a n s
  simp only [Option.some.injEq] at h;subst h
  refine ⟨by simp only [List.length_cons,List.length_nil];decide,rfl,rfl,?_⟩
  cases h:rightB n s
  ·(repeat (first | simp (maxSteps:=9^9) only [go_sem,seval,s_smask_eq,mask_0,h,partU] | simp (disch:=omega) only [w64_d,ipos,ineg,dpos,dneg]))
  ·have h':=h
   rw [right_iff] at h
   have e3:(BitVec.ofInt 64 s).toNat=s.toNat:=by rw [BitVec.toNat_ofInt];omega
   have e4:v >>> s.toNat &&& maskU n s=cutU v s (8 * n):=by
    rw [←cut_eq,maskU,if_pos h']
    obtain ⟨k,rfl⟩:=Int.eq_ofNat_of_zero_le h.2.2.1
    rw [shiftU_r];rfl
   (repeat (first | simp (maxSteps:=9^9) only [go_sem,seval,s_smask_eq,mask_0,h',e3,e4,partU] | simp (disch:=omega) only [w64_d,ipos,ineg,dpos,dneg]))
 ·simp at h
def jn1 (out:BitVec 64) (p:Pc) (x:BitVec 64):BitVec 64:=if rightB p.n p.s=true then putU out p.s (8 * p.n) x else out
def jnU:List Pc→List (BitVec 64)→BitVec 64→BitVec 64
 | p::l,x::r,out=>jnU l r (jn1 out p x)
 | _,_,out=>out
theorem jn_take:∀(l:List Pc) (r:List (BitVec 64)) (k:Nat) (out:BitVec 64) (p:Pc) (x:BitVec 64),l[k]?=some p→r[k]?=some x→jnU (l.take (k+1)) (r.take (k+1)) out=jn1 (jnU (l.take k) (r.take k) out) p x:=by
 intro l
 induction l with
 | nil=>intro r k out p x h;simp at h
 | cons q l ih =>
   intro r k out p x h1 h2
   cases r with
   | nil=>simp at h2
   | cons y r =>
     cases k with
     | zero=>simp at h1 h2;subst h1;subst h2;simp [jnU]
     | succ k=>simp only [List.take_succ_cons,jnU];exact ih r k _ p x (by simpa using h1) (by simpa using h2)
theorem jn_min:∀(l:List Pc) (r:List (BitVec 64)) (out:BitVec 64),jnU (l.take (min l.length r.length)) (r.take (min l.length r.length)) out=jnU l r out:=by
 intro l
 induction l with
 | nil=>intro r out;simp [jnU]
 | cons q l ih =>
   intro r out
   cases r with
   | nil=>simp [jnU]
   | cons y r =>
     simp only [List.length_cons,Nat.add_min_add_right,List.take_succ_cons,jnU]
     exact ih r _
theorem put_join {w n:BitVec 64} {a z:Int} (h:rightB z a=true):w &&& ~~~(maskU z a <<< a.toNat) ||| (n &&& maskU z a) <<< a.toNat=putU w a (8 * z) n:=by
 refine ofG_ext fun i hi=>?_
 have h':=h
 rw [right_iff] at h
 obtain ⟨k,rfl⟩:=Int.eq_ofNat_of_zero_le h.2.2.1
 have hb:∀j,(maskU z k).getLsbD j=(decide (j < 64) && decide ((j:Int) < 8 * z)):=fun j=>by
  by_cases hj:j < 64
  ·rw [mask_bit h' hj,decide_eq_true hj];rfl
  ·rw [decide_eq_false hj,BitVec.getLsbD_of_ge _ _ (by omega)];rfl
 rw [BitVec.getLsbD_or,BitVec.getLsbD_and,BitVec.getLsbD_not,BitVec.getLsbD_shiftLeft,BitVec.getLsbD_shiftLeft,BitVec.getLsbD_and]
 rw [Int.toNat_natCast]
 unfold inP
 by_cases h1:i < k
 ·rw [decide_eq_true h1,decide_eq_true hi,decide_eq_false (by omega)];simp
 ·have e:bitB n ((i:Int) - (k:Int))=n.getLsbD (i - k):=by
   rw [show (i:Int) - (k:Int)=((i - k:Nat):Int) by omega,bitB_n]
  rw [decide_eq_false h1,decide_eq_true hi,hb,e,decide_eq_true (by omega:i - k < 64)]
  by_cases h2:(i:Int) < k+8 * z
  ·rw [decide_eq_true (by omega),decide_eq_true (by omega)];simp
  ·rw [decide_eq_false (by omega),decide_eq_false (by omega)];simp
def s_sjoin (args:List AV) (H:AH):Option AV :=
 match args with
 | [.c x,.c y] =>
   match slD 3 dcP H x,slD 1 dcU H y with
   | some l,some r=>if l.length≤1000000∧r.length≤1000000 then some (.c (.u (jnU l r 0#64))) else none
   | _,_=>none
 | _=>none
theorem s_sjoin_eq {x y:Sc} {H:AH} {l:List Pc} {r:List (BitVec 64)} (h1:slD 3 dcP H x=some l) (h2:slD 1 dcU H y=some r) (h3:l.length≤1000000∧r.length≤1000000):s_sjoin [.c x,.c y] H=some (.c (.u (jnU l r 0#64))):=by
 simp only [s_sjoin,h1,h2,h3,and_self,if_true]
theorem s_sjoin_inv {args:List AV} {H:AH} {v:AV} (h:s_sjoin args H=some v):∃x y l r,args=[.c x,.c y]∧slD 3 dcP H x=some l∧slD 1 dcU H y=some r∧l.length≤1000000∧r.length≤1000000∧v=.c (.u (jnU l r 0#64)):=by
 unfold s_sjoin at h
 split at h
 ·split at h
  ·split at h
   ·rename_i h1 h2 h3
    simp only [Option.some.injEq] at h
    exact ⟨_,_,_,_,rfl,h1,h2,h3.1,h3.2,h.symm⟩
   ·simp at h
  ·simp at h
 ·simp at h
theorem jn_nil {l:List Pc} {out:BitVec 64}:jnU l [] out=out:=by cases l <;> rfl
theorem pc_row {l:List Pc} {k:Nat} {p:Pc} (h:l[k]?=some p):(l.flatMap encP).drop (k * 3)=encP p++(l.drop (k+1)).flatMap encP:=by
 rw [fm_drop encP_l,List.drop_eq_getElem_cons (by rcases Nat.lt_or_ge k l.length with g | g;exact g;rw [List.getElem?_eq_none g] at h;simp at h),List.flatMap_cons]
 rw [List.getElem?_eq_getElem (by rcases Nat.lt_or_ge k l.length with g | g;exact g;rw [List.getElem?_eq_none g] at h;simp at h)] at h
 simp only [Option.some.injEq] at h
 rw [h]
theorem ok_sjoin:FpOk Tryz.prog 59 (fun args H=>(s_sjoin args H).map fun v=>(v,H)):=by
 refine fq_ok (s:=s_sjoin) (tab:=[(103,.pu s_smask)]) hmix (TabOk.cons (e:=.pu s_smask) ok_smask TabOk.nil) Tryz.func59 rfl Tryz.results59 Tryz.ntmps59 (by kernel_rfl) (by kernel_rfl) ?_
 intro args H v h hargs hH
 have hinv:=s_sjoin_inv h
 obtain ⟨x,y,l,r,rfl,h1,h2,h3,h4,rfl⟩:=hinv
 refine ⟨by simp only [List.length_cons,List.length_nil];decide,rfl,?_⟩
 rcases slD_inv dcP_d h1 with ⟨rfl,rfl⟩ | ⟨id,v,rfl,hv,hcs⟩
 ·rcases slD_inv dcU_d h2 with ⟨rfl,rfl⟩ | ⟨id2,v2,rfl,hv2,hcs2⟩
  all_goals (repeat (first | simp (maxSteps:=9^9) only [go_sem,seval] | simp (disch:=omega) only [w64_d,ipos,ineg,dpos,dneg]))
  all_goals rw [arun_loop]
  ·exact ⟨Unit,fun _=>([(14,.c (.i 0)),(13,.c (.i 0)),(5,.c (.u 0#64))],H),fun _=>0,(),Wk.wk (by simp [lo]) (by simp [Am.get]) (by simp [AV.bel,Sc.bel]) (subH_refl _) hH,fun _=>by (repeat (first | simp (maxSteps:=9^9) only [go_sem,seval,jnU] | simp (disch:=omega) only [w64_d,ipos,ineg,dpos,dneg]));exact subH_refl _⟩
  ·have e0:min (0:Int) (r.length:Int)=0:=by omega
   exact ⟨Unit,fun _=>([(14,.c (.i 0)),(13,.c (.i 0)),(5,.c (.u 0#64))],H),fun _=>0,(),Wk.wk (by simp [lo]) (by simp [Am.get,e0]) (by simp [AV.bel,Sc.bel]) (subH_refl _) hH,fun _=>by (repeat (first | simp (maxSteps:=9^9) only [go_sem,seval,jnU] | simp (disch:=omega) only [w64_d,ipos,ineg,dpos,dneg]));exact subH_refl _⟩
 ·rcases slD_inv dcU_d h2 with ⟨rfl,rfl⟩ | ⟨id2,v2,rfl,hv2,hcs2⟩
  ·have e0:min (l.length:Int) (0:Int)=0:=by omega
   (repeat (first | simp (maxSteps:=9^9) only [go_sem,seval] | simp (disch:=omega) only [w64_d,ipos,ineg,dpos,dneg]))
   rw [arun_loop]
   exact ⟨Unit,fun _=>([(14,.c (.i 0)),(13,.c (.i 0)),(5,.c (.u 0#64))],H),fun _=>0,(),Wk.wk (by simp [lo]) (by simp [Am.get,e0]) (by simp [AV.bel,Sc.bel]) (subH_refl _) hH,fun _=>by (repeat (first | simp (maxSteps:=9^9) only [go_sem,seval,jn_nil] | simp (disch:=omega) only [w64_d,ipos,ineg,dpos,dneg]));exact subH_refl _⟩
  ·have lid:id < H.length:=by simp only [List.all_cons,AV.bel,Sc.bel,Bool.and_eq_true,decide_eq_true_eq] at hargs;exact hargs.1
   have lid2:id2 < H.length:=by simp only [List.all_cons,AV.bel,Sc.bel,Bool.and_eq_true,decide_eq_true_eq] at hargs;exact hargs.2.1
   (repeat (first | simp (maxSteps:=9^9) only [go_sem,seval] | simp (disch:=omega) only [w64_d,ipos,ineg,dpos,dneg]))
   refine arun_for (min l.length r.length) (fun k=>([(0,.c (.sl id 0 v l.length)),(1,.c (.sl id2 0 v2 r.length)),(5,.c (.u (jnU (l.take k) (r.take k) 0#64))),(13,.c (.i (min l.length r.length:Nat))),(14,.c (.i k))],H)) ?_ fun k hk=>?_
   ·exact Wk.wk (by simp [lo]) (by simp [Am.get,jnU];omega) (by simp [AV.bel,Sc.bel,lid,lid2]) (subH_refl _) hH
   ·by_cases hlt:k < min l.length r.length
    ·obtain ⟨p,hp⟩:∃p,l[k]?=some p:=⟨_,List.getElem?_eq_getElem (by omega)⟩
     obtain ⟨q,hq⟩:∃q,r[k]?=some q:=⟨_,List.getElem?_eq_getElem (by omega)⟩
     have ej:=jn_take l r k 0#64 p q hp hq
     have e1:w64 ((k:Int)+1)=((k+1:Nat):Int):=by rw [w64_of (by omega)];omega
     have g1:=fm_le encP_l (L:=l) (k:=k) (by omega)
     have g2:=fm_le encU_l (L:=r) (k:=k) (by omega)
     have g3:=pc_row hp
     have g4:=fm1 (f:=encU) (g:=Sc.u) (fun _=>rfl) hq
     have g5:=fm_cell encP_l hp (i:=2) (by decide)
     have g6:=fm_cell encP_l hp (i:=1) (by decide)
     rw [←hcs] at g1 g3 g5 g6
     rw [←hcs2] at g2 g4
     have hv:=hv.symm
     have hv2:=hv2.symm
     cases hr:rightB p.n p.s
     ·(repeat (first | simp (maxSteps:=9^9) only [go_sem,seval,s_smask_eq,hv,hv2,e1,g1,g3,encP,mask_0,hr,List.take_succ_cons,List.take_zero] | simp (disch:=omega) only [w64_d,ipos,ineg,dpos,dneg]))
      exact ⟨k+1,by omega,by omega,Wk.wk (by simp [lo]) (by simp [Am.get,ej,jn1,hr]) (by simp [AV.bel,Sc.bel,lid,lid2]) (subH_refl _) hH⟩
     ·have hr':=hr
      rw [right_iff] at hr'
      have e3:(BitVec.ofInt 64 p.s).toNat=p.s.toNat:=by rw [BitVec.toNat_ofInt];omega
      (repeat (first | simp (maxSteps:=9^9) only [go_sem,seval,s_smask_eq,hv,hv2,e1,g1,g2,g3,g4,g5,encP,mask_0,hr,List.take_succ_cons,List.take_zero,e3,put_join hr] | simp (disch:=omega) only [w64_d,ipos,ineg,dpos,dneg]))
      exact ⟨k+1,by omega,by omega,Wk.wk (by simp [lo]) (by simp [Am.get,ej,jn1,hr]) (by simp [AV.bel,Sc.bel,lid,lid2]) (subH_refl _) hH⟩
    ·obtain rfl:k=min l.length r.length:=by omega
     have ej:=jn_min l r 0#64
     (repeat (first | simp (maxSteps:=9^9) only [go_sem,seval,ej] | simp (disch:=omega) only [w64_d,ipos,ineg,dpos,dneg]))
     exact subH_refl _
def s_rjoin (args:List AV) (H:AH):Option AV :=
 match args with
 | [.c x,.c y] =>
   match slD 3 dcP H x,slD 1 dcU H y with
   | some l,some r=>if l.length≤1000000∧r.length≤1000000∧∀p∈l,inR p.s then some (.c (.u (jnU l r 0#64))) else none
   | _,_=>none
 | _=>none
def s_sjoins (args:List AV) (H:AH):Option AV :=
 match args with
 | [.c (.u v),.c x,.c y] =>
   match slD 3 dcP H x,slD 1 dcU H y with
   | some l,some r=>if (∀p∈l,inR p.s)∧l.length≤9223372036854775807∧r.length≤9223372036854775807 then some (.c (.b true)) else none
   | _,_=>none
 | _=>none
def pcP (a:BitVec 64) (n s:Int):List Pc:=if n≤(left a:Int) then [⟨a,n,s⟩] else [⟨a,left a,s⟩,⟨a+BitVec.ofInt 64 (left a),n - left a,s+8 * left a⟩]
theorem pcs_P (a:BitVec 64) (n s:Int):pcs a n s=(pcP a n s).flatMap encP:=by unfold pcs pcP;split <;> rfl
theorem pcN_P (a:BitVec 64) (n s:Int):pcN a n=(pcP a n s).length:=by unfold pcN pcP;split <;> rfl
def accP (a b:BitVec 64) (c s:Int):List Pc:=if smB c s=true then (if c=0 then pcP a s 0 else pcP a c 0++pcP b (s - c) (8 * c)) else []
theorem accL_P (a b:BitVec 64) (c s:Int):accL a b c s=(accP a b c s).flatMap encP:=by
 unfold accL accP
 split
 ·split
  ·exact pcs_P _ _ _
  ·rw [List.flatMap_append,pcs_P,pcs_P]
 ·rfl
theorem accN_P (a b:BitVec 64) (c s:Int):accN a b c s=(accP a b c s).length:=by
 unfold accN accP
 split
 ·split
  ·exact pcN_P _ _ _
  ·rw [List.length_append,pcN_P a c 0,pcN_P b (s - c) (8 * c)]
 ·rfl
def byteU (a b:BitVec 64) (c i:Int):BitVec 64:=if 0 < c∧c≤i then b+BitVec.ofInt 64 (i - c) else a+BitVec.ofInt 64 i
def s_rbyte (args:List AV):Option AV :=
 match args with
 | [.g [.u a,.u b,.i c,.i s],.c (.i i)]=>if 0≤c∧c≤8∧0≤i∧i≤8 then some (.c (.u (byteU a b c i))) else none
 | _=>none
theorem s_rbyte_eq {a b c s i}:s_rbyte [.g [.u a,.u b,.i c,.i s],.c (.i i)]=if 0≤c∧c≤8∧0≤i∧i≤8 then some (.c (.u (byteU a b c i))) else none:=rfl
theorem ok_rbyte:PuOk Tryz.prog 73 s_rbyte:=by
 refine pu_ok (tab:=[]) hmix TabOk.nil Tryz.func73 rfl Tryz.results73 Tryz.ntmps73 (by kernel_rfl) (by kernel_rfl) ?_
 intro args v h
 unfold s_rbyte at h
 split at h
 ·rename_i a b c s i
  split at h
  ·rename_i hc
   simp only [Option.some.injEq] at h;subst h
   refine ⟨by simp only [List.length_cons,List.length_nil];decide,rfl,rfl,?_⟩
   by_cases h1:0 < c
   all_goals by_cases h2:c≤i
   all_goals (repeat (first | simp (maxSteps:=9^9) only [go_sem,seval,byteU,h1,h2,and_false,false_and] | simp (disch:=omega) only [w64_d,ipos,ineg,dpos,dneg]))
  ·simp at h
 ·simp at h
def good (B:Int→BitVec 64):List Pc→Int→Prop
 | [],_=>True
 | p::l,m=>p.s=8 * m∧1≤p.n∧m+p.n≤8∧p.a=B m∧(p.a+BitVec.ofInt 64 (p.n - 1)) / 64#64=p.a / 64#64∧good B l (m+p.n)
def tot:List Pc→Int
 | []=>0
 | p::l=>p.n+tot l
theorem tot_app (l r:List Pc):tot (l++r)=tot l+tot r:=by
 induction l with
 | nil=>simp [tot]
 | cons p l ih=>simp only [List.cons_append,tot,ih];omega
theorem good_app {B:Int→BitVec 64} {l r:List Pc} {m:Int} (h1:good B l m) (h2:good B r (m+tot l)):good B (l++r) m:=by
 induction l generalizing m with
 | nil=>simpa [tot] using h2
 | cons p l ih =>
   obtain ⟨a1,a2,a3,a4,a5,a6⟩:=h1
   refine ⟨a1,a2,a3,a4,a5,ih a6 ?_⟩
   simp only [tot] at h2
   rwa [show m+p.n+tot l=m+(p.n+tot l) by omega]
theorem line_same (a:BitVec 64) (k:Int) (h0:0≤k) (hk:k < left a):(a+BitVec.ofInt 64 k) / 64#64=a / 64#64:=by
 have ha:=a.isLt
 unfold left at hk
 have e0:(BitVec.ofInt 64 k).toNat=k.toNat:=by rw [BitVec.toNat_ofInt];omega
 have e:(64#64).toNat=64:=rfl
 apply BitVec.eq_of_toNat_eq
 rw [BitVec.toNat_udiv,BitVec.toNat_udiv,BitVec.toNat_add,e0,e]
 omega
theorem left_al (a:BitVec 64):left (a+BitVec.ofInt 64 (left a))=64:=by
 have ha:=a.isLt
 have e0:(BitVec.ofInt 64 (left a:Int)).toNat=left a:=ofI_nat (by unfold left;omega)
 have h:(a+BitVec.ofInt 64 (left a)).toNat % 64=0:=by rw [BitVec.toNat_add,e0];unfold left;omega
 unfold left at h ⊢
 omega
theorem good_pc {B:Int→BitVec 64} {a:BitVec 64} {n m:Int} (hn:1≤n) (hm:m+n≤8) (h0:0≤m) (hB:∀j,0≤j→j < n→B (m+j)=a+BitVec.ofInt 64 j):good B (pcP a n (8 * m)) m∧tot (pcP a n (8 * m))=n∧(pcP a n (8 * m)).length≤2:=by
 have hl:1≤left a∧left a≤64:=by unfold left;omega
 have b0:a=B m:=by
  have:=hB 0 (by omega) (by omega)
  rw [Int.add_zero] at this
  rw [this];exact (BitVec.add_zero _).symm
 unfold pcP
 split
 ·rename_i h
  refine ⟨⟨rfl,hn,hm,b0,line_same _ _ (by simp only;omega) (by simp only;omega),trivial⟩,by simp [tot],by simp⟩
 ·rename_i h
  refine ⟨⟨rfl,by simp only;omega,by simp only;omega,b0,line_same _ _ (by simp only;omega) (by simp only;omega),by simp only;omega,by simp only;omega,by simp only;omega,?_,?_,trivial⟩,by simp only [tot];omega,by simp⟩
  ·simp only;rw [hB _ (by omega) (by omega)]
  ·refine line_same _ _ (by simp only;omega) ?_
   simp only;rw [left_al];omega
theorem good_acc {a b:BitVec 64} {c s:Int} (h:smB c s=true):good (byteU a b c) (accP a b c s) 0∧tot (accP a b c s)=s∧(accP a b c s).length≤4:=by
 have hm:1≤s∧s≤8∧0≤c∧c < s:=by simpa [smB] using h
 unfold accP
 rw [if_pos h]
 split
 ·rename_i hc
  subst hc
  have:=good_pc (B:=byteU a b 0) (a:=a) (n:=s) (m:=0) (by omega) (by omega) (by omega) (fun j h0 h1=>by unfold byteU;rw [if_neg (by omega),Int.zero_add])
  exact ⟨this.1,this.2.1,by have:=this.2.2;simp only [Int.mul_zero] at this;omega⟩
 ·rename_i hc
  obtain ⟨g1,g2,g3⟩:=good_pc (B:=byteU a b c) (a:=a) (n:=c) (m:=0) (by omega) (by omega) (by omega) (fun j h0 h1=>by unfold byteU;rw [if_neg (by omega),Int.zero_add])
  obtain ⟨k1,k2,k3⟩:=good_pc (B:=byteU a b c) (a:=b) (n:=s - c) (m:=c) (by omega) (by omega) (by omega) (fun j h0 h1=>by unfold byteU;rw [if_pos (by omega),show c+j - c=j by omega])
  simp only [Int.mul_zero] at g1 g2 g3
  refine ⟨good_app g1 (by rw [g2,Int.zero_add];exact k1),by rw [tot_app];omega,by rw [List.length_append];omega⟩
theorem part_join {v:BitVec 64} {m n:Int} (h0:0≤m) (h1:1≤n) (h8:m+n≤8) (a:BitVec 64):jn1 (lowU v (8 * m)) ⟨a,n,8 * m⟩ (partU v n (8 * m))=lowU v (8 * (m+n)):=by
 have hr:rightB n (8 * m)=true:=by rw [right_iff];omega
 unfold jn1
 rw [if_pos hr,partU,if_pos hr]
 refine BitVec.eq_of_getLsbD_eq fun i hi=>?_
 unfold putU lowU
 rw [ofG_get hi,ofG_get hi,ofG_get hi]
 unfold inP
 by_cases h2:8 * m≤(i:Int)∧(i:Int) < 8 * m+8 * n
 ·rw [if_pos (by simpa using h2)]
  have e:bitB (cutU v (8 * m) (8 * n)) ((i:Int) - 8 * m)=v.getLsbD i:=by
   rw [show (i:Int) - 8 * m=((i - (8 * m).toNat:Nat):Int) by omega,bitB_n]
   unfold cutU
   rw [ofG_get (by omega),decide_eq_true (by omega),show 8 * m+((i - (8 * m).toNat:Nat):Int)=(i:Int) by omega,bitB_n]
   rfl
  rw [e,decide_eq_true (by omega)];rfl
 ·rw [if_neg (by simpa using h2)]
  by_cases h3:(i:Int) < 8 * m
  ·rw [decide_eq_true h3,decide_eq_true (by omega)]
  ·rw [decide_eq_false h3,decide_eq_false (by omega)]
theorem low_0 (v:BitVec 64):lowU v 0=0#64:=BitVec.eq_of_getLsbD_eq fun i hi=>by unfold lowU;rw [ofG_get hi,decide_eq_false (by omega)];simp
end
end Go.Proofs.YteclombpnhociaaGreat
set_option maxRecDepth 100000
set_option maxHeartbeats 8000000
namespace Go.Proofs.YteclombpnhociaaGreat
open Go.Am
set_option linter.unusedSimpArgs false
set_option linter.unusedVariables false
noncomputable section
structure Sl where
 is:Bool
 ln:BitVec 64
def slC (x:Sl):List Sc:=[.b x.is,.u x.ln]
def dcS:List Sc→Option Sl
 | [.b q,.u l]=>some ⟨q,l⟩
 | _=>none
theorem dcS_e (x:Sl):dcS (slC x)=some x:=rfl
theorem dcS_d (cs:List Sc) (x:Sl) (h:dcS cs=some x):cs=slC x:=by
 unfold dcS at h
 split at h
 ·simp only [Option.some.injEq] at h;subst h;rfl
 ·simp at h
theorem slC_l (x:Sl):(slC x).length=2:=rfl
def z0:Sl:=⟨false,0#64⟩
def tabC (R:List Sl):List Sc:=R.flatMap slC
def tabD:AObj→Option (List Sl)
 | .own cs=>if cs.length=16 then decN 2 dcS 8 cs else none
 | _=>none
theorem tabD_inv {o:AObj} {R:List Sl} (h:tabD o=some R):R.length=8∧o=.own (tabC R):=by
 unfold tabD at h
 split at h
 ·split at h
  ·rename_i hc
   obtain ⟨h1,h2⟩:=decN_dec (w:=2) (f:=slC) dcS_d 8 _ R hc h
   exact ⟨h1,by rw [h2];rfl⟩
  ·simp at h
 ·simp at h
theorem tabC_l {R:List Sl} (h:R.length=8):(tabC R).length=16:=by unfold tabC;rw [fm_len slC_l,h]
theorem tabC_bel (R:List Sl) (n:Nat):(tabC R).all (Sc.bel n)=true:=by unfold tabC;rw [List.all_flatMap];exact List.all_eq_true.2 fun _ _=>rfl
def in8 (h:Int):Bool:=decide (0≤h) && decide (h < 8)
theorem in8_nat {h:Int} (x:in8 h=true):∃k:Nat,h=k∧k < 8:=by
 simp only [in8,Bool.and_eq_true,decide_eq_true_eq] at x
 exact ⟨h.toNat,by omega,by omega⟩
theorem in8_k {k:Nat} (h:k < 8):in8 (k:Int)=true:=by simp [in8];omega
def at8 (R:List Sl) (h:Int):Sl:=if in8 h=true then R.getD h.toNat z0 else z0
def setT (R:List Sl) (h:Int) (x:Sl):List Sl:=if in8 h=true then R.set h.toNat x else R
theorem setT_l {R:List Sl} {h:Int} {x:Sl}:(setT R h x).length=R.length:=by unfold setT;split <;> simp
def hasT (R:List Sl) (h:Int) (l:BitVec 64):Bool:=in8 h && ((at8 R h).is && decide ((at8 R h).ln=l))
def s_vin (args:List AV):Option AV :=
 match args with
 | [.c (.i h)]=>some (.c (.b (in8 h)))
 | _=>none
theorem s_vin_eq {h}:s_vin [.c (.i h)]=some (.c (.b (in8 h))):=rfl
theorem ok_vin:PuOk Tryz.prog 69 s_vin:=by
 refine pu_ok (tab:=[]) hmix TabOk.nil Tryz.func69 rfl Tryz.results69 Tryz.ntmps69 (by kernel_rfl) (by kernel_rfl) ?_
 intro args v h
 unfold s_vin at h
 split at h
 ·rename_i h
  simp only [Option.some.injEq] at h;subst h
  refine ⟨by simp only [List.length_cons,List.length_nil];decide,rfl,rfl,?_⟩
  by_cases h1:0≤h
  all_goals (repeat (first | simp (maxSteps:=9^9) only [go_sem,seval,in8,h1] | simp (disch:=omega) only [w64_d,ipos,ineg,dpos,dneg]))
 ·simp at h
def tabP (H:AH):Sc→Option (Option (List Sl))
 | .nilp=>some none
 | .p id 0 0=>(tabD (hg H id)).map some
 | _=>none
theorem tabP_inv {H:AH} {x:Sc} {r:Option (List Sl)} (h:tabP H x=some r):(x=.nilp∧r=none)∨∃id R,x=.p id 0 0∧r=some R∧R.length=8∧hg H id=.own (tabC R):=by
 unfold tabP at h
 split at h
 ·simp at h;exact .inl ⟨rfl,h.symm⟩
 ·rw [Option.map_eq_some_iff] at h
  obtain ⟨R,h1,h2⟩:=h
  obtain ⟨h3,h4⟩:=tabD_inv h1
  exact .inr ⟨_,R,rfl,h2.symm,h3,h4⟩
 ·simp at h
def setP (H:AH) (x:Sc) (R:List Sl):AH :=
 match x with
 | .p id _ _=>H.set id (.own (tabC R))
 | _=>H
theorem setP_len {H:AH} {x:Sc} {R:List Sl}:(setP H x R).length=H.length:=by unfold setP;split <;> simp
theorem sl_cell {R:List Sl} {k:Nat} {x:Sl} (h:R[k]?=some x):(tabC R).getD (k * 2) .any=.b x.is∧(tabC R).getD (k * 2+1) .any=.u x.ln∧((tabC R).drop (k * 2)).take 2=[.b x.is,.u x.ln]:=by
 have e1:=fm_cell slC_l h (i:=0) (by decide)
 rw [Nat.add_zero] at e1
 exact ⟨e1,fm_cell slC_l h (i:=1) (by decide),fm_get slC_l h⟩
theorem at8_k {R:List Sl} {k:Nat} {x:Sl} (hk:k < 8) (h:R[k]?=some x):at8 R k=x:=by
 unfold at8;rw [if_pos (in8_k hk),Int.toNat_natCast,List.getD_eq_getElem?_getD,h];rfl
theorem sl_some {R:List Sl} {k:Nat} (hR:R.length=8) (hk:k < 8):∃x,R[k]?=some x:=⟨_,List.getElem?_eq_getElem (by omega)⟩
def s_vof (args:List AV) (H:AH):Option AV :=
 match args with
 | [.c x,.c (.i h)] =>
   match tabP H x with
   | some (some R)=>some (.t [.c (.u (at8 R h).ln),.c (.b (at8 R h).is)])
   | some none=>some (.t [.c (.u 0#64),.c (.b false)])
   | none=>none
 | _=>none
def s_vhas (args:List AV) (H:AH):Option AV :=
 match args with
 | [.c x,.c (.i h),.c (.u l)] =>
   match tabP H x with
   | some (some R)=>some (.c (.b (hasT R h l)))
   | some none=>some (.c (.b false))
   | none=>none
 | _=>none
theorem setP_bel {H:AH} {x:Sc} {R:List Sl} (hH:belH H=true):belH (setP H x R)=true:=by
 unfold setP;split
 ·exact bel_set' hH (tabC_bel _ _)
 ·exact hH
theorem wr_tab {R:List Sl} {k:Nat} {y:Sl} (h:k < R.length):wr (tabC R) (k * 2) [.b y.is,.u y.ln]=tabC (R.set k y):=wr_fm slC_l h
def s_vset (args:List AV) (H:AH):Option (AV × AH) :=
 match args with
 | [.c x,.c (.i h),.c (.u l)] =>
   match tabP H x with
   | some (some R)=>some (.c (.b (in8 h)),setP H x (setT R h ⟨true,l⟩))
   | some none=>some (.c (.b false),H)
   | none=>none
 | _=>none
theorem len_vset (args:List AV) (H:AH) (v:AV) (H1:AH) (h:s_vset args H=some (v,H1)):H.length≤H1.length:=by
 unfold s_vset at h
 repeat' split at h
 all_goals simp at h
 ·rw [←h.2,setP_len];exact Nat.le_refl _
 ·rw [←h.2];exact Nat.le_refl _
theorem ok_vset:FpOk Tryz.prog 35 s_vset:=by
 refine fp_ok (s:=s_vset) (tab:=[(69,.pu s_vin)]) hmix (TabOk.cons (e:=.pu s_vin) ok_vin TabOk.nil) Tryz.func35 rfl Tryz.results35 Tryz.ntmps35 (by kernel_rfl) (by kernel_rfl) len_vset ?_
 intro args H v H1 h hargs hH
 unfold s_vset at h
 split at h
 ·rename_i x h0 l
  split at h
  ·rename_i R hR
   simp only [Option.some.injEq,Prod.mk.injEq] at h
   obtain ⟨rfl,rfl⟩:=h
   refine ⟨by simp only [List.length_cons,List.length_nil];decide,?_⟩
   rcases tabP_inv hR with ⟨rfl,hq⟩ | ⟨id,R',rfl,hq,hl,ho⟩
   ·simp at hq
   ·simp only [Option.some.injEq] at hq;subst hq
    have lid:id < H.length:=hg_lt (by rw [ho];rfl)
    have hb:=setP_bel (x:=.p id 0 0) (R:=setT R h0 ⟨true,l⟩) hH
    simp only [setP] at hb ⊢
    cases hi:in8 h0
    ·have e:setT R h0 ⟨true,l⟩=R:=by unfold setT;rw [if_neg (by rw [hi];decide)]
     rw [e,set_self ho lid]
     (repeat (first | simp (maxSteps:=9^9) only [go_sem,seval,s_vin_eq,hi] | simp (disch:=omega) only [w64_d,ipos,ineg,dpos,dneg]))
     exact fin_fp rfl (subH_refl _) hH (Nat.le_refl _)
    ·obtain ⟨k,rfl,hk⟩:=in8_nat hi
     have e:setT R k ⟨true,l⟩=R.set k ⟨true,l⟩:=by unfold setT;rw [if_pos hi];rfl
     have lt:=tabC_l hl
     have w1:=wr_tab (R:=R) (k:=k) (y:=⟨true,l⟩) (by omega)
     rw [e] at hb ⊢
     (repeat (first | simp (maxSteps:=9^9) only [go_sem,seval,s_vin_eq,hi,ho,lt,w1,Int.toNat_natCast] | simp (disch:=omega) only [w64_d,ipos,ineg,dpos,dneg]))
     exact fin_fp rfl (subH_refl _) hb (by simp)
  ·simp only [Option.some.injEq,Prod.mk.injEq] at h
   obtain ⟨rfl,rfl⟩:=h
   rename_i hR
   refine ⟨by simp only [List.length_cons,List.length_nil];decide,?_⟩
   rcases tabP_inv hR with ⟨rfl,hq⟩ | ⟨id,R',rfl,hq,hl,ho⟩
   ·(repeat (first | simp (maxSteps:=9^9) only [go_sem,seval] | simp (disch:=omega) only [w64_d,ipos,ineg,dpos,dneg]))
    exact fin_fp rfl (subH_refl _) hH (Nat.le_refl _)
   ·simp at hq
  ·simp at h
 ·simp at h
def s_vclear (args:List AV) (H:AH):Option (AV × AH) :=
 match args with
 | [.c x,.c (.i h)] =>
   match tabP H x with
   | some (some R)=>some (.c (.b (at8 R h).is),setP H x (setT R h z0))
   | some none=>some (.c (.b false),H)
   | none=>none
 | _=>none
def killB (R:List Sl) (l:BitVec 64) (but:Int) (k:Nat):Bool:=!decide ((k:Int)=but) && hasT R k l
def killN (R:List Sl) (l:BitVec 64) (but:Int):Nat→List Sl
 | 0=>R
 | k+1=>if killB R l but k=true then (killN R l but k).set k z0 else killN R l but k
def cntN (R:List Sl) (l:BitVec 64) (but:Int):Nat→Nat
 | 0=>0
 | k+1=>if killB R l but k=true then cntN R l but k+1 else cntN R l but k
theorem killN_len {R:List Sl} {l:BitVec 64} {but:Int}:∀{k:Nat},(killN R l but k).length=R.length
 | 0=>rfl
 | k+1=>by
   have ih:=killN_len (R:=R) (l:=l) (but:=but) (k:=k)
   simp only [killN];split
   ·simp [ih]
   ·exact ih
theorem cntN_le {R:List Sl} {l:BitVec 64} {but:Int}:∀{k:Nat},cntN R l but k≤k
 | 0=>Nat.le_refl _
 | k+1=>by
   have ih:=cntN_le (R:=R) (l:=l) (but:=but) (k:=k)
   simp only [cntN];split <;> omega
theorem killN_get {R:List Sl} {l:BitVec 64} {but:Int} {j:Nat}:∀{k:Nat},(killN R l but k)[j]?=if j < k∧killB R l but j=true∧j < R.length then some z0 else R[j]?
 | 0=>by simp [killN]
 | k+1=>by
   have ih:=killN_get (R:=R) (l:=l) (but:=but) (k:=k) (j:=j)
   have hl:=killN_len (R:=R) (l:=l) (but:=but) (k:=k)
   simp only [killN]
   split
   ·rename_i hb
    rw [List.getElem?_set]
    by_cases e:k=j
    ·subst e
     rw [if_pos rfl,hl]
     by_cases h2:k < R.length
     ·rw [if_pos h2,if_pos ⟨by omega,hb,h2⟩]
     ·rw [if_neg h2,if_neg (fun h=>h2 h.2.2),List.getElem?_eq_none (by omega)]
    ·rw [if_neg e,ih]
     by_cases h2:j < k∧killB R l but j=true∧j < R.length
     ·rw [if_pos h2,if_pos ⟨by omega,h2.2⟩]
     ·rw [if_neg h2,if_neg (fun h=>h2 ⟨by omega,h.2⟩)]
   ·rename_i hb
    rw [ih]
    by_cases h2:j < k∧killB R l but j=true∧j < R.length
    ·rw [if_pos h2,if_pos ⟨by omega,h2.2⟩]
    ·rw [if_neg h2,if_neg (fun h=>h2 ⟨?_,h.2⟩)]
     rcases Nat.lt_or_eq_of_le (Nat.lt_succ_iff.1 h.1) with h3 | h3
     ·exact h3
     ·subst h3;exact (hb h.2.1).elim
theorem has_killN {R:List Sl} {l:BitVec 64} {but:Int} {k:Nat} (hk:k < 8) (hl:R.length=8):hasT (killN R l but k) k l=hasT R k l:=by
 obtain ⟨y,hy⟩:=sl_some hl hk
 have e:(killN R l but k)[k]?=some y:=by rw [killN_get,if_neg (by omega)];exact hy
 unfold hasT;rw [at8_k hk e,at8_k hk hy]
def s_vkill (args:List AV) (H:AH):Option (AV × AH) :=
 match args with
 | [.c x,.c (.u l),.c (.i but)] =>
   match tabP H x with
   | some (some R)=>some (.c (.i (cntN R l but 8)),setP H x (killN R l but 8))
   | some none=>some (.c (.i 0),H)
   | none=>none
 | _=>none
def tabQ (H:AH):Sc→Option (List Sl)
 | .p id off 0=>match hg H id with
   | .own cs=>if off+16≤cs.length then decN 2 dcS 8 ((cs.drop off).take 16) else none
   | _=>none
 | _=>none
def setQ (H:AH) (x:Sc) (R:List Sl):AH :=
 match x with
 | .p id off _=>H.set id (.own ((hg H id).cells.take off++(tabC R++(hg H id).cells.drop (off+16))))
 | _=>H
theorem setQ_len {H:AH} {x:Sc} {R:List Sl}:(setQ H x R).length=H.length:=by unfold setQ;split <;> simp
theorem tabQ_inv {H:AH} {x:Sc} {R:List Sl} (h:tabQ H x=some R):∃id A B,x=.p id A.length 0∧hg H id=.own (A++(tabC R++B))∧R.length=8:=by
 unfold tabQ at h
 split at h
 ·rename_i id off
  split at h
  ·rename_i cs hcs
   split at h
   ·rename_i hl
    obtain ⟨h1,h2⟩:=decN_dec (w:=2) (f:=slC) dcS_d 8 _ R (by rw [List.length_take,List.length_drop];omega) h
    have l1:(cs.take off).length=off:=by rw [List.length_take];omega
    refine ⟨id,cs.take off,cs.drop (off+16),by rw [l1],?_,h1⟩
    rw [hcs,show tabC R=R.flatMap slC from rfl,←h2,←List.drop_drop,List.take_append_drop,List.take_append_drop]
   ·simp at h
  ·simp at h
 ·simp at h
theorem tabQ_of {H:AH} {id:Nat} {A B:List Sc} {R:List Sl} (ho:hg H id=.own (A++(tabC R++B))) (hR:R.length=8):tabQ H (.p id A.length 0)=some R:=by
 have l1:A.length+16≤(A++(tabC R++B)).length:=by simp only [List.length_append,tabC_l hR];omega
 have e1:((A++(tabC R++B)).drop A.length).take 16=tabC R:=by
  have:=drop_mid (A:=A) (M:=tabC R) (B:=B) (i:=0) (n:=16) (by rw [tabC_l hR];omega)
  rw [Nat.add_zero,List.drop_zero] at this
  rw [this,←tabC_l hR,List.take_length]
 simp only [tabQ,ho,l1,if_true,e1]
 have:=decN_enc slC_l dcS_e R
 rw [hR] at this
 exact this
theorem setQ_of {H:AH} {id:Nat} {A B:List Sc} {R S:List Sl} (ho:hg H id=.own (A++(tabC R++B))) (hR:R.length=8):setQ H (.p id A.length 0) S=H.set id (.own (A++(tabC S++B))):=by
 simp only [setQ,ho,AObj.cells]
 rw [List.take_left,←List.append_assoc A (tabC R) B,List.drop_left' (by rw [List.length_append,tabC_l hR])]
def s_tbof (args:List AV) (H:AH):Option AV :=
 match args with
 | [.c x,.c (.i h)]=>(tabQ H x).map fun R=>.t [.c (.u (at8 R h).ln),.c (.b (at8 R h).is)]
 | _=>none
def s_tbhas (args:List AV) (H:AH):Option AV :=
 match args with
 | [.c x,.c (.i h),.c (.u l)]=>(tabQ H x).map fun R=>.c (.b (hasT R h l))
 | _=>none
theorem s_tbhas_eq {H:AH} {x:Sc} {h:Int} {l:BitVec 64} {R:List Sl} (hR:tabQ H x=some R):s_tbhas [.c x,.c (.i h),.c (.u l)] H=some (.c (.b (hasT R h l))):=by simp only [s_tbhas,hR,Option.map_some]
theorem ok_tbhas:FpOk Tryz.prog 37 (fun args H=>(s_tbhas args H).map fun v=>(v,H)):=by
 refine fq_ok (s:=s_tbhas) (tab:=[(69,.pu s_vin)]) hmix (TabOk.cons (e:=.pu s_vin) ok_vin TabOk.nil) Tryz.func37 rfl Tryz.results37 Tryz.ntmps37 (by kernel_rfl) (by kernel_rfl) ?_
 intro args H v h hargs hH
 unfold s_tbhas at h
 split at h
 ·rename_i x h0 l
  rw [Option.map_eq_some_iff] at h
  obtain ⟨R,hR,rfl⟩:=h
  refine ⟨by simp only [List.length_cons,List.length_nil];decide,rfl,?_⟩
  obtain ⟨id,A,B,rfl,ho,hl⟩:=tabQ_inv hR
  cases hi:in8 h0
  ·(repeat (first | simp (maxSteps:=9^9) only [go_sem,seval,s_vin_eq,hi,hasT] | simp (disch:=omega) only [w64_d,ipos,ineg,dpos,dneg]))
   exact subH_refl _
  ·obtain ⟨k,rfl,hk⟩:=in8_nat hi
   obtain ⟨y,hy⟩:=sl_some hl hk
   obtain ⟨c0,c1,c2⟩:=sl_cell hy
   have e:=at8_k hk hy
   have lt:=tabC_l hl
   have eq:(y.is == true)=y.is:=by cases y.is <;> rfl
   have d2:((A++(tabC R++B)).drop (A.length+k * 2)).take 2=[.b y.is,.u y.ln]:=by rw [drop_mid (by omega),c2]
   have q:A.length+k * 2+2≤(A++(tabC R++B)).length:=by simp only [List.length_append,lt];omega
   generalize A++(tabC R++B)=cs at *
   generalize A.length=off at *
   (repeat (first | simp (maxSteps:=9^9) only [go_sem,seval,s_vin_eq,hi,ho,e,d2,q,hasT,eq,Int.toNat_natCast] | simp (disch:=omega) only [w64_d,ipos,ineg,dpos,dneg]))
   exact subH_refl _
 ·simp at h
theorem setQ_bel {H:AH} {id:Nat} {A B:List Sc} {R S:List Sl} (ho:hg H id=.own (A++(tabC R++B))) (hR:R.length=8) (hH:belH H=true):belH (setQ H (.p id A.length 0) S)=true:=by
 rw [setQ_of ho hR]
 refine bel_set' hH ?_
 have lid:id < H.length:=hg_lt (by rw [ho];rfl)
 have:=bel_at hH id
 rw [ho] at this
 simp only [AObj.cells,AObj.scs,List.all_append,Bool.and_eq_true] at this ⊢
 exact ⟨this.1,tabC_bel _ _,this.2.2⟩
def s_tbset (args:List AV) (H:AH):Option (AV × AH) :=
 match args with
 | [.c x,.c (.i h),.c (.u l)]=>(tabQ H x).map fun R=>(.c (.b (in8 h)),setQ H x (setT R h ⟨true,l⟩))
 | _=>none
theorem s_tbset_eq {H:AH} {x:Sc} {h:Int} {l:BitVec 64} {R:List Sl} (hR:tabQ H x=some R):s_tbset [.c x,.c (.i h),.c (.u l)] H=some (.c (.b (in8 h)),setQ H x (setT R h ⟨true,l⟩)):=by simp only [s_tbset,hR,Option.map_some]
theorem len_tbset (args:List AV) (H:AH) (v:AV) (H1:AH) (h:s_tbset args H=some (v,H1)):H.length≤H1.length:=by
 unfold s_tbset at h
 split at h
 ·rw [Option.map_eq_some_iff] at h
  obtain ⟨R,_,h⟩:=h
  simp only [Prod.mk.injEq] at h
  rw [←h.2,setQ_len];exact Nat.le_refl _
 ·simp at h
theorem ok_tbset:FpOk Tryz.prog 35 s_tbset:=by
 refine fp_ok (s:=s_tbset) (tab:=[(69,.pu s_vin)]) hmix (TabOk.cons (e:=.pu s_vin) ok_vin TabOk.nil) Tryz.func35 rfl Tryz.results35 Tryz.ntmps35 (by kernel_rfl) (by kernel_rfl) len_tbset ?_
 intro args H v H1 h hargs hH
 unfold s_tbset at h
 split at h
 ·rename_i x h0 l
  rw [Option.map_eq_some_iff] at h
  obtain ⟨R,hR,h⟩:=h
  simp only [Prod.mk.injEq] at h
  obtain ⟨rfl,rfl⟩:=h
  refine ⟨by simp only [List.length_cons,List.length_nil];decide,?_⟩
  obtain ⟨id,A,B,rfl,ho,hl⟩:=tabQ_inv hR
  have lid:id < H.length:=hg_lt (by rw [ho];rfl)
  have hb:=fun S=>setQ_bel (S:=S) ho hl hH
  simp only [setQ_of ho hl] at hb ⊢
  cases hi:in8 h0
  ·have e:setT R h0 ⟨true,l⟩=R:=by unfold setT;rw [if_neg (by rw [hi];decide)]
   rw [e,set_self ho lid]
   (repeat (first | simp (maxSteps:=9^9) only [go_sem,seval,s_vin_eq,hi] | simp (disch:=omega) only [w64_d,ipos,ineg,dpos,dneg]))
   exact fin_fp rfl (subH_refl _) hH (Nat.le_refl _)
  ·obtain ⟨k,rfl,hk⟩:=in8_nat hi
   have e:setT R k ⟨true,l⟩=R.set k ⟨true,l⟩:=by unfold setT;rw [if_pos hi];rfl
   have lt:=tabC_l hl
   have w1:wr (A++(tabC R++B)) (A.length+k * 2) [.b true,.u l]=A++(tabC (R.set k ⟨true,l⟩)++B):=by
    rw [wr_mid (by simp;omega),wr_tab (R:=R) (k:=k) (y:=⟨true,l⟩) (by omega)]
   have q:A.length+k * 2+2≤(A++(tabC R++B)).length:=by simp only [List.length_append,lt];omega
   have hb:=hb (R.set k ⟨true,l⟩)
   rw [e]
   generalize A++(tabC (R.set k ⟨true,l⟩)++B)=cs2 at *
   generalize A++(tabC R++B)=cs at *
   generalize A.length=off at *
   (repeat (first | simp (maxSteps:=9^9) only [go_sem,seval,s_vin_eq,hi,ho,q,w1,Int.toNat_natCast] | simp (disch:=omega) only [w64_d,ipos,ineg,dpos,dneg]))
   exact fin_fp rfl (subH_refl _) hb (by simp)
 ·simp at h
def s_tbclear (args:List AV) (H:AH):Option (AV × AH) :=
 match args with
 | [.c x,.c (.i h)]=>(tabQ H x).map fun R=>(.c (.b (at8 R h).is),setQ H x (setT R h z0))
 | _=>none
theorem s_tbclear_eq {H:AH} {x:Sc} {h:Int} {R:List Sl} (hR:tabQ H x=some R):s_tbclear [.c x,.c (.i h)] H=some (.c (.b (at8 R h).is),setQ H x (setT R h z0)):=by simp only [s_tbclear,hR,Option.map_some]
theorem len_tbclear (args:List AV) (H:AH) (v:AV) (H1:AH) (h:s_tbclear args H=some (v,H1)):H.length≤H1.length:=by
 unfold s_tbclear at h
 split at h
 ·rw [Option.map_eq_some_iff] at h
  obtain ⟨R,_,h⟩:=h
  simp only [Prod.mk.injEq] at h
  rw [←h.2,setQ_len];exact Nat.le_refl _
 ·simp at h
theorem ok_tbclear:FpOk Tryz.prog 38 s_tbclear:=by
 refine fp_ok (s:=s_tbclear) (tab:=[(69,.pu s_vin)]) hmix (TabOk.cons (e:=.pu s_vin) ok_vin TabOk.nil) Tryz.func38 rfl Tryz.results38 Tryz.ntmps38 (by kernel_rfl) (by kernel_rfl) len_tbclear ?_
 intro args H v H1 h hargs hH
 unfold s_tbclear at h
 split at h
 ·rename_i x h0
  rw [Option.map_eq_some_iff] at h
  obtain ⟨R,hR,h⟩:=h
  simp only [Prod.mk.injEq] at h
  obtain ⟨rfl,rfl⟩:=h
  refine ⟨by simp only [List.length_cons,List.length_nil];decide,?_⟩
  obtain ⟨id,A,B,rfl,ho,hl⟩:=tabQ_inv hR
  have lid:id < H.length:=hg_lt (by rw [ho];rfl)
  have hb:=fun S=>setQ_bel (S:=S) ho hl hH
  simp only [setQ_of ho hl] at hb ⊢
  cases hi:in8 h0
  ·have e:setT R h0 z0=R:=by unfold setT;rw [if_neg (by rw [hi];decide)]
   have e2:at8 R h0=z0:=by unfold at8;rw [if_neg (by rw [hi];decide)]
   rw [e,set_self ho lid,e2]
   (repeat (first | simp (maxSteps:=9^9) only [go_sem,seval,s_vin_eq,hi,z0] | simp (disch:=omega) only [w64_d,ipos,ineg,dpos,dneg]))
   exact fin_fp rfl (subH_refl _) hH (Nat.le_refl _)
  ·obtain ⟨k,rfl,hk⟩:=in8_nat hi
   obtain ⟨y,hy⟩:=sl_some hl hk
   obtain ⟨c0,c1,c2⟩:=sl_cell hy
   have e0:=at8_k hk hy
   have e:setT R k z0=R.set k z0:=by unfold setT;rw [if_pos hi];rfl
   have lt:=tabC_l hl
   have d0:(A++(tabC R++B)).getD (A.length+k * 2) .any=.b y.is:=by rw [getD_mid (by omega),c0]
   have w1:wr (A++(tabC R++B)) (A.length+k * 2) [.b false,.u 0#64]=A++(tabC (R.set k z0)++B):=by
    rw [wr_mid (by simp;omega)]
    have:=wr_tab (R:=R) (k:=k) (y:=z0) (by omega)
    simp only [z0] at this ⊢
    rw [this]
   have q:A.length+k * 2+2≤(A++(tabC R++B)).length:=by simp only [List.length_append,lt];omega
   have hb:=hb (R.set k z0)
   rw [e,e0]
   generalize A++(tabC (R.set k z0)++B)=cs2 at *
   generalize A++(tabC R++B)=cs at *
   generalize A.length=off at *
   (repeat (first | simp (maxSteps:=9^9) only [go_sem,seval,s_vin_eq,hi,ho,q,d0,w1,Int.toNat_natCast] | simp (disch:=omega) only [w64_d,ipos,ineg,dpos,dneg]))
   exact fin_fp rfl (subH_refl _) hb (by simp)
 ·simp at h
def s_tbkill (args:List AV) (H:AH):Option (AV × AH) :=
 match args with
 | [.c x,.c (.u l),.c (.i but)]=>(tabQ H x).map fun R=>(.c (.i (cntN R l but 8)),setQ H x (killN R l but 8))
 | _=>none
theorem s_tbkill_eq {H:AH} {x:Sc} {l:BitVec 64} {but:Int} {R:List Sl} (hR:tabQ H x=some R):s_tbkill [.c x,.c (.u l),.c (.i but)] H=some (.c (.i (cntN R l but 8)),setQ H x (killN R l but 8)):=by simp only [s_tbkill,hR,Option.map_some]
theorem len_tbkill (args:List AV) (H:AH) (v:AV) (H1:AH) (h:s_tbkill args H=some (v,H1)):H.length≤H1.length:=by
 unfold s_tbkill at h
 split at h
 ·rw [Option.map_eq_some_iff] at h
  obtain ⟨R,_,h⟩:=h
  simp only [Prod.mk.injEq] at h
  rw [←h.2,setQ_len];exact Nat.le_refl _
 ·simp at h
theorem ok_tbkill:FpOk Tryz.prog 62 s_tbkill:=by
 refine fp_ok (s:=s_tbkill) (tab:=[(37,.fq s_tbhas),(38,.fp s_tbclear)]) hmix (TabOk.cons (e:=.fq s_tbhas) ok_tbhas (TabOk.cons (e:=.fp s_tbclear) ok_tbclear TabOk.nil)) Tryz.func62 rfl Tryz.results62 Tryz.ntmps62 (by kernel_rfl) (by kernel_rfl) len_tbkill ?_
 intro args H v H1 h hargs hH
 unfold s_tbkill at h
 split at h
 ·rename_i x l but
  rw [Option.map_eq_some_iff] at h
  obtain ⟨R,hR,h⟩:=h
  simp only [Prod.mk.injEq] at h
  obtain ⟨rfl,rfl⟩:=h
  refine ⟨by simp only [List.length_cons,List.length_nil];decide,?_⟩
  obtain ⟨id,A,B,rfl,ho,hl⟩:=tabQ_inv hR
  have lid:id < H.length:=hg_lt (by rw [ho];rfl)
  have hb:=fun S=>setQ_bel (S:=S) ho hl hH
  have bA:A.length=A.length:=rfl
  let O:List Sl→AH:=fun L=>H.set id (.own (A++(tabC L++B)))
  have gO:∀L,hg (O L) id=.own (A++(tabC L++B)):=fun L=>hg_set_same lid
  have tO:∀L,L.length=8→tabQ (O L) (.p id A.length 0)=some L:=fun L h=>tabQ_of (gO L) h
  have pO:∀L M,L.length=8→setQ (O L) (.p id A.length 0) M=O M:=fun L M h=>by rw [setQ_of (gO L) h];exact List.set_set ..
  have lO:∀L,(O L).length=H.length:=fun L=>List.length_set
  have bO:∀L,belH (O L)=true:=fun L=>by have:=hb L;rw [setQ_of ho hl] at this;exact this
  have h1:O R=H:=set_self ho lid
  have fin:setQ H (.p id A.length 0) (killN R l but 8)=O (killN R l but 8):=setQ_of ho hl
  rw [fin]
  clear_value O
  clear hb
  generalize A.length=off at *
  (repeat (first | simp (maxSteps:=9^9) only [go_sem,seval] | simp (disch:=omega) only [w64_d,ipos,ineg,dpos,dneg]))
  refine arun_for 8 (fun k=>([(0,.c (.p id off 0)),(1,.c (.u l)),(2,.c (.i but)),(7,.c (.i (cntN R l but k))),(9,.c (.i k))],O (killN R l but k))) ?_ fun k hk=>?_
  ·rw [show killN R l but 0=R from rfl,h1]
   exact Wk.wk (Nat.le_refl _) (by simp [Am.get,cntN]) (by simp [AV.bel,Sc.bel,lid]) (subH_refl _) hH
  ·have kl:=killN_len (R:=R) (l:=l) (but:=but) (k:=k)
   have cl:=cntN_le (R:=R) (l:=l) (but:=but) (k:=k)
   by_cases hlt:k < 8
   ·have e0:(k:Int) < 8:=by omega
    have e1:w64 ((k:Int)+1)=((k+1:Nat):Int):=by rw [w64_d (by omega) (by omega)];omega
    have e2:w64 ((cntN R l but k:Int)+1)=((cntN R l but k+1:Nat):Int):=by rw [w64_d (by omega) (by omega)];omega
    have p1:=s_tbhas_eq (h:=k) (l:=l) (tO (killN R l but k) (by omega))
    have p2:=s_tbclear_eq (h:=k) (tO (killN R l but k) (by omega))
    rw [has_killN hlt hl] at p1
    rw [pO _ _ (by omega)] at p2
    have e3:setT (killN R l but k) k z0=(killN R l but k).set k z0:=by unfold setT;rw [if_pos (in8_k hlt)];rfl
    rw [e3] at p2
    have kS:killN R l but (k+1)=if killB R l but k=true then (killN R l but k).set k z0 else killN R l but k:=rfl
    have cS:cntN R l but (k+1)=if killB R l but k=true then cntN R l but k+1 else cntN R l but k:=rfl
    by_cases hb:(k:Int)=but
    ·have hb':=eq_true hb
     have kB:killB R l but k=false:=by simp [killB,hb]
     rw [kB,if_neg (by decide)] at kS cS
     (repeat (first | simp (maxSteps:=9^9) only [go_sem,seval,hb',e0,e1,p1] | simp (disch:=omega) only [w64_d,ipos,ineg,dpos,dneg]))
     refine ⟨k+1,by omega,by omega,?_⟩
     rw [kS,cS]
     exact Wk.wk (by simp [lo,lO]) (by simp [Am.get]) (by simp [AV.bel,Sc.bel,lid,lO]) (subH_refl _) (bO _)
    ·cases hh:hasT R k l
     ·have kB:killB R l but k=false:=by simp [killB,hh]
      rw [kB,if_neg (by decide)] at kS cS
      rw [hh] at p1
      (repeat (first | simp (maxSteps:=9^9) only [go_sem,seval,hb,e0,e1,p1] | simp (disch:=omega) only [w64_d,ipos,ineg,dpos,dneg]))
      refine ⟨k+1,by omega,by omega,?_⟩
      rw [kS,cS]
      exact Wk.wk (by simp [lo,lO]) (by simp [Am.get]) (by simp [AV.bel,Sc.bel,lid,lO]) (subH_refl _) (bO _)
     ·have kB:killB R l but k=true:=by simp [killB,hh,hb]
      rw [kB,if_pos rfl] at kS cS
      rw [hh] at p1
      (repeat (first | simp (maxSteps:=9^9) only [go_sem,seval,hb,e0,e1,e2,p1,p2] | simp (disch:=omega) only [w64_d,ipos,ineg,dpos,dneg]))
      refine ⟨k+1,by omega,by omega,?_⟩
      rw [kS,cS]
      exact Wk.wk (by simp [lo,lO]) (by simp [Am.get]) (by simp [AV.bel,Sc.bel,lid,lO]) (subH_refl _) (bO _)
   ·obtain rfl:k=8:=by omega
    (repeat (first | simp (maxSteps:=9^9) only [go_sem,seval] | simp (disch:=omega) only [w64_d,ipos,ineg,dpos,dneg]))
    exact fin_fp rfl (subH_refl _) (bO _) (by rw [lO];exact Nat.le_refl _)
 ·simp at h
end
end Go.Proofs.YteclombpnhociaaGreat
set_option maxRecDepth 100000
set_option maxHeartbeats 8000000
namespace Go.Proofs.YteclombpnhociaaGreat
open Go.Am
set_option linter.unusedSimpArgs false
set_option linter.unusedVariables false
noncomputable section
def gi (l:List Sc) (i:Nat):Int:=match l.getD i .any with
 | .i x=>x
 | _=>0
def gu (l:List Sc) (i:Nat):BitVec 64:=match l.getD i .any with
 | .u x=>x
 | _=>0#64
def gb (l:List Sc) (i:Nat):Bool:=match l.getD i .any with
 | .b x=>x
 | _=>false
theorem fit_all {l:List Sc} {ks:List K} (h:L2 FitK l ks):l.all Sc.one=true∧l.all Sc.pf=true∧∀n,l.all (Sc.bel n)=true:=by
 induction h with
 | nil=>exact ⟨rfl,rfl,fun _=>rfl⟩
 | @cons s k l m h1 h2 ih =>
   obtain ⟨a,b,c⟩:=ih
   have:s.one=true∧s.pf=true∧∀n,s.bel n=true:=by
    cases s <;> first | exact ⟨rfl,rfl,fun _=>rfl⟩ | (cases k <;> simp [FitK] at h1)
   exact ⟨by rw [List.all_cons,this.1,a];rfl,by rw [List.all_cons,this.2.1,b];rfl,fun n=>by rw [List.all_cons,this.2.2 n,c n];rfl⟩
def ksReq:List K:=[.q,.q,.q,.n .u64,.n .i64]
def ksAsk:List K:=[.n .i64,.n .u64,.n .u64,.n .i64,.n .i64,.n .i64,.n .u64,.n .u64,.q,.n .i64,.q,.q,.q,.n .u64,.n .i64,.n .i64,.n .u64,.n .i64,.n .u64]
def ksAns:List K:=[.n .u64,.q]++(List.replicate 8 ksReq).flatten
def ksE:List K:=[.n .i64]++ksAsk++ksAns++[.n .i64,.n .i64,.n .i64]
def isE (l:List Sc):Prop:=L2 FitK l ksE
instance (l:List Sc):Decidable (isE l):=Classical.propDecidable _
abbrev Ev:={l:List Sc // isE l}
def dcE (cs:List Sc):Option Ev:=if h:isE cs then some ⟨cs,h⟩ else none
def groupI (k:Int):Int:=if k < 1 then 0 else if k≤8 then 1 else if k≤11 then 2 else if k≤14 then 3 else if k≤17 then 4 else if k≤20 then 5 else 0
def outB (l:List Sc):Bool:=decide (0≤gi l 0) && (decide (1≤groupI (gi l 1)) && decide (groupI (gi l 1)≤3))
def behB (a b:List Sc):Bool :=
 if gi b 63 < gi a 63 then false else if gi b 64 < gi a 62 then false else
 !(outB a && (outB b && decide (gi a 0=gi b 0))) || decide (gi a 64 < gi b 62)
def selfB (e:List Sc):Bool:=if gi e 62 < 0 then false else if gi e 63 < gi e 62 then false else if gi e 64 < gi e 63 then false else true
def okAt (L:List Ev) (i:Nat):Bool:=match L[i]? with
 | some e=>selfB e.1 && (L.take i).all fun a=>behB a.1 e.1
 | none=>true
def badN (L:List Ev):Option Nat:=(List.range L.length).find? fun i=>!okAt L i
def ordI (L:List Ev):Int:=match badN L with
 | some i=>i
 | none=>0
def ordB (L:List Ev):Bool:=(badN L).isNone
def s_eordered (args:List AV) (H:AH):Option AV :=
 match args with
 | [.c x] =>
   match slD 65 dcE H x with
   | some L=>if L.length≤1000000 then some (.t [.c (.i (ordI L)),.c (.b (ordB L))]) else none
   | none=>none
 | _=>none
end
end Go.Proofs.YteclombpnhociaaGreat
set_option maxRecDepth 100000
set_option maxHeartbeats 8000000
namespace Go.Proofs.YteclombpnhociaaGreat
open Go.Am
set_option linter.unusedSimpArgs false
set_option linter.unusedVariables false
noncomputable section
def s_saccess (args:List AV):Option AV :=
 match args with
 | [.g (.i k::.u a::.u b::.i c::.i s::r)]=>if r.length=14∧r.all Sc.pf=true then some (.g [.u a,.u b,.i c,.i s]) else none
 | _=>none
theorem s_saccess_eq {k a b c s r}:s_saccess [.g (.i k::.u a::.u b::.i c::.i s::r)]=if r.length=14∧r.all Sc.pf=true then some (.g [.u a,.u b,.i c,.i s]) else none:=rfl
theorem ok_saccess:PuOk Tryz.prog 28 s_saccess:=by
 refine pu_ok (tab:=[]) hmix TabOk.nil Tryz.func28 rfl Tryz.results28 Tryz.ntmps28 (by kernel_rfl) (by kernel_rfl) ?_
 intro args v h
 unfold s_saccess at h
 split at h
 ·rename_i k a b c s r
  split at h
  ·rename_i hc
   simp only [Option.some.injEq] at h;subst h
   have pr:=hc.2
   refine ⟨by simp only [List.length_cons,List.length_nil];decide,by first | rfl | simp only [List.all_cons,List.all_nil,AV.pf,Sc.pf,Bool.and_true, *],by first | rfl | simp only [List.all_cons,List.all_nil,AV.pf,Sc.pf,Bool.and_true, *],?_⟩
   (repeat (first | simp (maxSteps:=9^9) only [go_sem,seval,hc.1] | simp (disch:=omega) only [w64_d,ipos,ineg,dpos,dneg]))
  ·simp at h
 ·simp at h
def s_r14access (args:List AV):Option AV :=
 match args with
 | [.g (.i k::.u a::.u b::.i c::.i s::r)]=>if r.length=14∧r.all Sc.pf=true then some (.g [.u a,.u b,.i c,.i s]) else none
 | _=>none
theorem s_r14access_eq {k a b c s r}:s_r14access [.g (.i k::.u a::.u b::.i c::.i s::r)]=if r.length=14∧r.all Sc.pf=true then some (.g [.u a,.u b,.i c,.i s]) else none:=rfl
theorem ok_r14access:PuOk Tryz.prog 71 s_r14access:=by
 refine pu_ok (tab:=[]) hmix TabOk.nil Tryz.func71 rfl Tryz.results71 Tryz.ntmps71 (by kernel_rfl) (by kernel_rfl) ?_
 intro args v h
 unfold s_r14access at h
 split at h
 ·rename_i k a b c s r
  split at h
  ·rename_i hc
   simp only [Option.some.injEq] at h;subst h
   have pr:=hc.2
   refine ⟨by simp only [List.length_cons,List.length_nil];decide,by first | rfl | simp only [List.all_cons,List.all_nil,AV.pf,Sc.pf,Bool.and_true, *],by first | rfl | simp only [List.all_cons,List.all_nil,AV.pf,Sc.pf,Bool.and_true, *],?_⟩
   (repeat (first | simp (maxSteps:=9^9) only [go_sem,seval,hc.1] | simp (disch:=omega) only [w64_d,ipos,ineg,dpos,dneg]))
  ·simp at h
 ·simp at h
theorem ask9 {l:List Sc} (h:L2 FitK l ksAsk):∃(k:Int) (a b:BitVec 64) (c s op:Int) (d o:BitVec 64) (lv:Bool) (r:List Sc),l=.i k::.u a::.u b::.i c::.i s::.i op::.u d::.u o::.b lv::r ∧
 (r.length=10∧r.all Sc.pf=true∧r.all Sc.one=true)∧(-9223372036854775808≤k∧k≤9223372036854775807)∧(-9223372036854775808≤c∧c≤9223372036854775807)∧(-9223372036854775808≤s∧s≤9223372036854775807)∧(-9223372036854775808≤op∧op≤9223372036854775807):=by
 obtain ⟨x1,r1,rfl,k1,h⟩:=fit_cons h
 obtain ⟨x2,r2,rfl,k2,h⟩:=fit_cons h
 obtain ⟨x3,r3,rfl,k3,h⟩:=fit_cons h
 obtain ⟨x4,r4,rfl,k4,h⟩:=fit_cons h
 obtain ⟨x5,r5,rfl,k5,h⟩:=fit_cons h
 obtain ⟨x6,r6,rfl,k6,h⟩:=fit_cons h
 obtain ⟨x7,r7,rfl,k7,h⟩:=fit_cons h
 obtain ⟨x8,r8,rfl,k8,h⟩:=fit_cons h
 obtain ⟨x9,r9,rfl,k9,h9⟩:=fit_cons h
 obtain ⟨k,rfl,b1⟩:=fk_i k1
 obtain ⟨a,rfl⟩:=fk_u k2
 obtain ⟨b,rfl⟩:=fk_u k3
 obtain ⟨c,rfl,b2⟩:=fk_i k4
 obtain ⟨s,rfl,b3⟩:=fk_i k5
 obtain ⟨op,rfl,b4⟩:=fk_i k6
 obtain ⟨d,rfl⟩:=fk_u k7
 obtain ⟨o,rfl⟩:=fk_u k8
 obtain ⟨lv,rfl⟩:=fk_q k9
 exact ⟨k,a,b,c,s,op,d,o,lv,r9,rfl,⟨L2.length h9,(fit_all h9).2.1,(fit_all h9).1⟩,b1,b2,b3,b4⟩
def wrB (k:Int) (g:Bool):Bool:=if k=3 then true else if k=4 then true else if k=6 then g else if k=8 then g else false
end
end Go.Proofs.YteclombpnhociaaGreat
set_option maxRecDepth 100000
set_option maxHeartbeats 8000000
namespace Go.Proofs.YteclombpnhociaaGreat
open Go.Am
set_option linter.unusedSimpArgs false
set_option linter.unusedVariables false
noncomputable section
theorem pf_bel0 {m:List Sc} (n:Nat) (h:m.all Sc.pf=true):m.all (Sc.bel n)=true:=by
 rw [List.all_eq_true] at h ⊢
 intro x hx
 have:=h x hx
 cases x <;> simp_all [Sc.pf,Sc.bel]
def askR (r:List Sc):Prop:=r.length=10∧r.all Sc.pf=true∧r.all Sc.one=true
instance decAskR (r:List Sc):Decidable (askR r):=Classical.propDecidable _
def zMl:List Sc:=(List.replicate 8 [Sc.b false,.b false,.b false,.u 0#64,.i 0]).flatten
def anC (d:BitVec 64) (g:Bool):List Sc:=.u d::.b g::zMl
theorem zMl_len:zMl.length=40:=by decide
theorem zMl_take:zMl.take 40=zMl:=by rw [←zMl_len,List.take_length]
theorem zMl_drop:zMl.drop 40=[]:=by rw [←zMl_len,List.drop_length]
theorem zMl_one:zMl.all Sc.one=true:=rfl
theorem zMl_pf:zMl.all Sc.pf=true:=rfl
theorem zMl_bel {n:Nat}:zMl.all (Sc.bel n)=true:=(pf_bel0 n zMl_pf)
theorem anC_bel {d:BitVec 64} {g:Bool} {n:Nat}:(anC d g).all (Sc.bel n)=true:=by unfold anC;rw [List.all_cons,List.all_cons,zMl_bel];rfl
theorem anT_bel {d:BitVec 64} {g q:Bool} {n:Nat}:(AV.t [.g (anC d g),.c (.b q)]).bel n=true:=by
 show ((anC d g).all (Sc.bel n) && (true && true))=true
 rw [anC_bel];rfl
theorem zAns:zT Tryz.prog 66=some (.u 0#64::.b false::zMl):=by kernel_rfl
attribute [go_sem] zMl_len zMl_take zMl_drop zMl_one zMl_pf
attribute [go_sem 2000] zAns
end
end Go.Proofs.YteclombpnhociaaGreat
set_option maxRecDepth 100000
set_option maxHeartbeats 8000000
namespace Go.Proofs.YteclombpnhociaaGreat
open Go.Am
set_option linter.unusedSimpArgs false
set_option linter.unusedVariables false
noncomputable section
def byC (b:BitVec 8):Sc:=.k .u8 b.toNat
def lineC (L:List (BitVec 8)):List Sc:=L.map byC
def dcBy:Sc→Option (BitVec 8)
 | .k .u8 n=>if 0≤n∧n < 256 then some (BitVec.ofInt 8 n) else none
 | _=>none
theorem dcBy_e (b:BitVec 8):dcBy (byC b)=some b:=by
 have:=b.isLt
 simp only [dcBy,byC]
 rw [if_pos (by omega)]
 congr 1
 apply BitVec.eq_of_toNat_eq
 simp
def isLn (cs:List Sc):Prop:=∃L:List (BitVec 8),L.length=64∧cs=lineC L
instance decLn (cs:List Sc):Decidable (isLn cs):=Classical.propDecidable _
def lnT (cs:List Sc):List (BitVec 8):=cs.filterMap dcBy
theorem lnT_of (L:List (BitVec 8)):lnT (lineC L)=L:=by
 unfold lnT lineC
 induction L with
 | nil=>rfl
 | cons b L ih=>rw [List.map_cons,List.filterMap_cons_some (dcBy_e b),ih]
theorem lineC_len {L:List (BitVec 8)}:(lineC L).length=L.length:=List.length_map ..
theorem lineC_pf {L:List (BitVec 8)}:(lineC L).all Sc.pf=true:=by unfold lineC;rw [List.all_map];exact List.all_eq_true.2 fun _ _=>rfl
theorem lineC_one {L:List (BitVec 8)}:(lineC L).all Sc.one=true:=by unfold lineC;rw [List.all_map];exact List.all_eq_true.2 fun _ _=>rfl
theorem lineC_bel {L:List (BitVec 8)} {n:Nat}:(lineC L).all (Sc.bel n)=true:=by unfold lineC;rw [List.all_map];exact List.all_eq_true.2 fun _ _=>rfl
theorem lineC_get {L:List (BitVec 8)} {k:Nat} {b:BitVec 8} (h:L[k]?=some b):(lineC L).getD k .any=byC b:=by
 unfold lineC;rw [List.getD_eq_getElem?_getD,List.getElem?_map,h];rfl
theorem lineC_set {L:List (BitVec 8)} {k:Nat} {b:BitVec 8}:(lineC L).set k (byC b)=lineC (L.set k b):=by
 unfold lineC;rw [List.map_set]
theorem by_u {b:BitVec 8}:BitVec.ofInt 64 (b.toNat:Int)=b.setWidth 64:=by
 apply BitVec.eq_of_toNat_eq
 have:=b.isLt
 simp
theorem u_by {v:BitVec 64}:Sc.k .u8 (IntKind.u8.wrap (v.toNat:Int))=byC (v.setWidth 8):=by
 unfold byC
 congr 1
def getN (L:List (BitVec 8)) (a n:Nat):Nat→BitVec 64
 | 0=>0#64
 | m+1=>(getN L a n m <<< 8) ||| (L.getD (a+(n - 1 - m)) 0#8).setWidth 64
def putN (L:List (BitVec 8)) (a:Nat) (v:BitVec 64):Nat→List (BitVec 8)
 | 0=>L
 | m+1=>(putN L a v m).set (a+m) ((v >>> (8 * m)).setWidth 8)
theorem putN_len {L:List (BitVec 8)} {a:Nat} {v:BitVec 64}:∀{m:Nat},(putN L a v m).length=L.length
 | 0=>rfl
 | m+1=>by simp only [putN,List.length_set];exact putN_len
theorem putN_get {L:List (BitVec 8)} {a:Nat} {v:BitVec 64} {j:Nat}:∀{m:Nat},a+m≤L.length→(putN L a v m).getD j 0#8=if a≤j∧j < a+m then (v >>> (8 * (j - a))).setWidth 8 else L.getD j 0#8
 | 0,_=>by simp only [putN];rw [if_neg (by omega)]
 | m+1,h=>by
   have ih:=putN_get (L:=L) (a:=a) (v:=v) (j:=j) (m:=m) (by omega)
   simp only [putN]
   rw [List.getD_eq_getElem?_getD,List.getElem?_set]
   by_cases e:a+m=j
   ·subst e
    rw [if_pos rfl,putN_len,if_pos (by omega),if_pos (by omega)]
    simp
   ·rw [if_neg e,←List.getD_eq_getElem?_getD,ih]
    by_cases h2:a≤j∧j < a+m
    ·rw [if_pos h2,if_pos (by omega)]
    ·rw [if_neg h2,if_neg (by omega)]
theorem getN_bit {L:List (BitVec 8)} {a n i:Nat}:∀{m:Nat},m≤n→n≤8→(getN L a n m).getLsbD i=(decide (i < 8 * m) && (L.getD (a+(n - m)+i / 8) 0#8).getLsbD (i % 8))
 | 0,_,_=>by simp [getN]
 | m+1,h,h8=>by
   simp only [getN]
   rw [BitVec.getLsbD_or,BitVec.getLsbD_shiftLeft,BitVec.getLsbD_setWidth]
   rcases Nat.lt_or_ge i 8 with h1 | h1
   ·rw [show i / 8=0 by omega,show i % 8=i by omega,show a+(n - (m+1))+0=a+(n - 1 - m) by omega]
    simp [show i < 64 by omega,h1,show i < 8 * (m+1) by omega]
   ·have ih:=getN_bit (L:=L) (a:=a) (n:=n) (i:=i - 8) (m:=m) (by omega) h8
    rw [ih,show a+(n - m)+(i - 8) / 8=a+(n - (m+1))+i / 8 by omega,show (i - 8) % 8=i % 8 by omega]
    rw [BitVec.getLsbD_of_ge (L.getD (a+(n - 1 - m)) 0#8) i h1]
    by_cases h2:i < 8 * (m+1)
    ·simp [show i < 64 by omega,h2,show ¬i < 8 by omega,show i - 8 < 8 * m by omega]
    ·simp [h2,show ¬i - 8 < 8 * m by omega]
abbrev MapE:=List (Nat × Nat × List (BitVec 8))
def Z64:List (BitVec 8):=List.replicate 64 0#8
def lookE:MapE→Nat→Nat→Option (Nat × List (BitVec 8))
 | [],_,_=>none
 | e::E,i,s=>if e.2.1=i then some (s,e.2.2) else lookE E i (s+1)
def lineE (E:MapE) (i:Nat):List (BitVec 8):=match lookE E i 0 with
 | some p=>p.2
 | none=>Z64
def setE (M:Nat × MapE) (i:Nat) (L:List (BitVec 8)):Nat × MapE:=match lookE M.2 i 0 with
 | some p=>(M.1,M.2.set p.1 ((M.2.getD p.1 (0,i,L)).1,i,L))
 | none=>(M.1+1,M.2++[(M.1,i,L)])
def delE (M:Nat × MapE) (i:Nat):Nat × MapE:=match lookE M.2 i 0 with
 | some p=>(M.1,M.2.eraseIdx p.1)
 | none=>M
instance decBy (a b:List (BitVec 8)):Decidable (a=b):=inferInstance
def stE (M:Nat × MapE) (i:Nat) (L:List (BitVec 8)):Nat × MapE:=if L=Z64 then delE M i else setE M i L
def wfE (n:Nat) (M:Nat × MapE):Prop:=(M.2.map (·.2.1)).Nodup∧∀e∈M.2,e.2.1 < n∧e.2.2.length=64
theorem lookE_shift:∀{E:MapE} {i s:Nat},lookE E i s=(lookE E i 0).map fun p=>(p.1+s,p.2)
 | [],_,_=>rfl
 | e::E,i,s=>by
   simp only [lookE]
   split
   ·simp
   ·rw [lookE_shift (s:=s+1),lookE_shift (s:=0+1)]
    cases lookE E i 0 with
    | none=>rfl
    | some p=>simp only [Option.map_some];congr 2;omega
theorem lookE_some:∀{E:MapE} {i j:Nat} {L:List (BitVec 8)},lookE E i 0=some (j,L)→∃b,E[j]?=some (b,i,L)
 | [],_,_,_,h=>by simp [lookE] at h
 | e::E,i,j,L,h=>by
   simp only [lookE] at h
   split at h
   ·rename_i he
    simp only [Option.some.injEq,Prod.mk.injEq] at h
    obtain ⟨rfl,rfl⟩:=h
    exact ⟨e.1,by rw [List.getElem?_cons_zero,←he]⟩
   ·rw [lookE_shift] at h
    rw [Option.map_eq_some_iff] at h
    obtain ⟨⟨j2,L2⟩,h1,h2⟩:=h
    simp only [Prod.mk.injEq] at h2
    obtain ⟨rfl,rfl⟩:=h2
    obtain ⟨b,hb⟩:=lookE_some h1
    exact ⟨b,by rw [Nat.add_comm,Nat.add_comm,Nat.zero_add,List.getElem?_cons_succ];exact hb⟩
theorem lookE_none:∀{E:MapE} {i:Nat},lookE E i 0=none ↔ i∉E.map (·.2.1)
 | [],_=>by simp [lookE]
 | e::E,i=>by
   have ih:=lookE_none (E:=E) (i:=i)
   simp only [lookE,List.map_cons,List.mem_cons,not_or]
   split
   ·rename_i he;simp [he]
   ·rename_i he
    rw [lookE_shift,Option.map_eq_none_iff,ih]
    exact ⟨fun h=>⟨fun h2=>he h2.symm,h⟩,fun h=>h.2⟩
theorem lookE_mem {E:MapE} (hE:(E.map (·.2.1)).Nodup) {b i:Nat} {L:List (BitVec 8)} (h:(b,i,L)∈E):∃j,lookE E i 0=some (j,L):=by
 induction E with
 | nil=>simp at h
 | cons e E ih =>
   rw [List.map_cons,List.nodup_cons] at hE
   simp only [lookE]
   rcases List.mem_cons.1 h with h1 | h1
   ·subst h1;exact ⟨0,by rw [if_pos rfl]⟩
   ·have hn:¬e.2.1=i:=fun he=>hE.1 (List.mem_map.2 ⟨_,h1,he.symm⟩)
    obtain ⟨j,hj⟩:=ih hE.2 h1
    rw [if_neg hn,lookE_shift,hj]
    exact ⟨j+(0+1),rfl⟩
theorem lineE_iff {E:MapE} (hE:(E.map (·.2.1)).Nodup) {i:Nat} {L:List (BitVec 8)}:lineE E i=L ↔ (∃b,(b,i,L)∈E)∨(i∉E.map (·.2.1)∧L=Z64):=by
 unfold lineE
 constructor
 ·intro h
  cases e:lookE E i 0 with
  | none=>rw [e] at h;exact .inr ⟨lookE_none.1 e,h.symm⟩
  | some p =>
    rw [e] at h
    obtain ⟨j,L2⟩:=p
    simp only at h
    subst h
    obtain ⟨b,hb⟩:=lookE_some e
    exact .inl ⟨b,List.mem_of_getElem? hb⟩
 ·rintro (⟨b,h⟩ | ⟨h1,rfl⟩)
  ·obtain ⟨j,hj⟩:=lookE_mem hE h
   rw [hj]
  ·rw [lookE_none.2 h1]
theorem keys_set {E:MapE} {j i b b2:Nat} {L L2:List (BitVec 8)} (h:E[j]?=some (b,i,L)):(E.set j (b2,i,L2)).map (·.2.1)=E.map (·.2.1):=by
 rw [List.map_set]
 apply List.ext_getElem?
 intro k
 rw [List.getElem?_set]
 split
 ·rename_i e
  subst e
  have hj:=(List.getElem?_eq_some_iff.1 h).1
  rw [if_pos (by simpa using hj),List.getElem?_map,h];rfl
 ·rfl
theorem lineE_set {n:Nat} {M:Nat × MapE} (hM:wfE n M) {i k:Nat} {L:List (BitVec 8)}:lineE (setE M i L).2 k=if k=i then L else lineE M.2 k:=by
 unfold setE
 cases e:lookE M.2 i 0 with
 | some p =>
   obtain ⟨j,L2⟩:=p
   obtain ⟨b,hb⟩:=lookE_some e
   have hj:=(List.getElem?_eq_some_iff.1 hb).1
   simp only
   have hk:=keys_set (b2:=(M.2.getD j (0,i,L)).1) (L2:=L) hb
   rw [lineE_iff (by rw [hk];exact hM.1),hk]
   by_cases h:k=i
   ·subst h
    rw [if_pos rfl]
    exact .inl ⟨_,List.mem_of_getElem? (by rw [List.getElem?_set,if_pos rfl,if_pos hj])⟩
   ·rw [if_neg h]
    rcases (lineE_iff hM.1 (i:=k) (L:=lineE M.2 k)).1 rfl with ⟨b3,h3⟩ | h3
    ·obtain ⟨m,hm⟩:=List.mem_iff_getElem?.1 h3
     refine .inl ⟨b3,List.mem_of_getElem? (i:=m) ?_⟩
     rw [List.getElem?_set]
     split
     ·rename_i ejm
      subst ejm
      rw [hb] at hm
      simp only [Option.some.injEq,Prod.mk.injEq] at hm
      exact (h hm.2.1.symm).elim
     ·exact hm
    ·exact .inr h3
 | none =>
   simp only
   have hni:=lookE_none.1 e
   have hnd:((M.2++[(M.1,i,L)]).map (·.2.1)).Nodup:=by
    rw [List.map_append,List.nodup_append]
    refine ⟨hM.1,by simp,fun a ha b hb=>?_⟩
    simp only [List.map_cons,List.map_nil,List.mem_singleton] at hb
    subst hb
    rintro rfl
    exact hni ha
   rw [lineE_iff hnd]
   by_cases h:k=i
   ·subst h;rw [if_pos rfl];exact .inl ⟨M.1,by simp⟩
   ·rw [if_neg h]
    rcases (lineE_iff hM.1 (i:=k) (L:=lineE M.2 k)).1 rfl with ⟨b3,h3⟩ | h3
    ·exact .inl ⟨b3,List.mem_append_left _ h3⟩
    ·refine .inr ⟨?_,h3.2⟩
     rw [List.map_append,List.mem_append]
     rintro (h4 | h4)
     ·exact h3.1 h4
     ·simp only [List.map_cons,List.map_nil,List.mem_singleton] at h4;exact h h4
theorem wfE_set {n:Nat} {M:Nat × MapE} (hM:wfE n M) {i:Nat} {L:List (BitVec 8)} (hi:i < n) (hL:L.length=64):wfE n (setE M i L):=by
 unfold setE
 cases e:lookE M.2 i 0 with
 | some p =>
   obtain ⟨j,L2⟩:=p
   obtain ⟨b,hb⟩:=lookE_some e
   refine ⟨by rw [keys_set hb];exact hM.1,fun x hx=>?_⟩
   rcases List.mem_or_eq_of_mem_set hx with h1 | h1
   ·exact hM.2 x h1
   ·rw [h1];exact ⟨hi,hL⟩
 | none =>
   have hni:=lookE_none.1 e
   refine ⟨?_,fun x hx=>?_⟩
   ·rw [List.map_append,List.nodup_append]
    refine ⟨hM.1,by simp,fun a ha b hb=>?_⟩
    simp only [List.map_cons,List.map_nil,List.mem_singleton] at hb
    subst hb
    rintro rfl
    exact hni ha
   ·rcases List.mem_append.1 hx with h1 | h1
    ·exact hM.2 x h1
    ·rw [List.mem_singleton] at h1;rw [h1];exact ⟨hi,hL⟩
theorem keys_erase {E:MapE} {j:Nat}:(E.eraseIdx j).map (·.2.1)=(E.map (·.2.1)).eraseIdx j:=by
 induction E generalizing j with
 | nil=>rfl
 | cons e E ih =>
   cases j with
   | zero=>rfl
   | succ j=>simp only [List.eraseIdx_cons_succ,List.map_cons,ih]
theorem lineE_del {n:Nat} {M:Nat × MapE} (hM:wfE n M) {i k:Nat}:lineE (delE M i).2 k=if k=i then Z64 else lineE M.2 k:=by
 unfold delE
 cases e:lookE M.2 i 0 with
 | some p =>
   obtain ⟨j,L2⟩:=p
   obtain ⟨b,hb⟩:=lookE_some e
   have hj:=(List.getElem?_eq_some_iff.1 hb).1
   simp only
   have hnd:((M.2.eraseIdx j).map (·.2.1)).Nodup:=by rw [keys_erase];exact hM.1.sublist (List.eraseIdx_sublist ..)
   rw [lineE_iff hnd]
   by_cases h:k=i
   ·subst h
    rw [if_pos rfl]
    refine .inr ⟨?_,rfl⟩
    intro hk
    rw [keys_erase] at hk
    have hP:=hM.1
    obtain ⟨m,hm1,hm⟩:=List.mem_eraseIdx_iff_getElem?.1 hk
    have h5:(M.2.map (·.2.1))[j]?=some k:=by rw [List.getElem?_map,hb];rfl
    have h6:=(List.getElem?_eq_some_iff.1 hm)
    have h7:=(List.getElem?_eq_some_iff.1 h5)
    obtain ⟨l6,g6⟩:=h6
    obtain ⟨l7,g7⟩:=h7
    rw [List.nodup_iff_pairwise_ne,List.pairwise_iff_getElem] at hP
    rcases Nat.lt_trichotomy m j with h8 | h8 | h8
    ·exact hP m j l6 l7 h8 (g6.trans g7.symm)
    ·exact hm1 h8
    ·exact hP j m l7 l6 h8 (g7.trans g6.symm)
   ·rw [if_neg h]
    rcases (lineE_iff hM.1 (i:=k) (L:=lineE M.2 k)).1 rfl with ⟨b3,h3⟩ | h3
    ·obtain ⟨m,hm⟩:=List.mem_iff_getElem?.1 h3
     refine .inl ⟨b3,List.mem_eraseIdx_iff_getElem?.2 ⟨m,?_,hm⟩⟩
     rintro rfl
     rw [hb] at hm
     simp only [Option.some.injEq,Prod.mk.injEq] at hm
     exact h hm.2.1.symm
    ·refine .inr ⟨fun hk=>h3.1 ?_,h3.2⟩
     rw [keys_erase] at hk
     exact List.mem_of_mem_eraseIdx hk
 | none =>
   simp only
   by_cases h:k=i
   ·subst h;rw [if_pos rfl];unfold lineE;rw [e]
   ·rw [if_neg h]
theorem wfE_del {n:Nat} {M:Nat × MapE} (hM:wfE n M) {i:Nat}:wfE n (delE M i):=by
 unfold delE
 split
 ·exact ⟨by rw [keys_erase];exact hM.1.sublist (List.eraseIdx_sublist ..),fun x hx=>hM.2 x (List.mem_of_mem_eraseIdx hx)⟩
 ·exact hM
theorem lineE_st {n:Nat} {M:Nat × MapE} (hM:wfE n M) {i k:Nat} {L:List (BitVec 8)}:lineE (stE M i L).2 k=if k=i then L else lineE M.2 k:=by
 unfold stE
 split
 ·rename_i h;subst h;exact lineE_del hM
 ·exact lineE_set hM
theorem wfE_st {n:Nat} {M:Nat × MapE} (hM:wfE n M) {i:Nat} {L:List (BitVec 8)} (hi:i < n) (hL:L.length=64):wfE n (stE M i L):=by
 unfold stE
 split
 ·exact wfE_del hM
 ·exact wfE_set hM hi hL
theorem lineE_len {n:Nat} {M:Nat × MapE} (hM:wfE n M) {i:Nat}:(lineE M.2 i).length=64:=by
 rcases (lineE_iff hM.1 (i:=i) (L:=lineE M.2 i)).1 rfl with ⟨b,h⟩ | ⟨_,h⟩
 ·exact (hM.2 _ h).2
 ·rw [h];rfl
def memB (E:MapE) (j:Nat):BitVec 8:=(lineE E (j / 64)).getD (j % 64) 0#8
def rdB (B:Nat→BitVec 8) (a n:Nat):BitVec 64:=ofG fun i=>decide (i < 8 * n) && (B (a+i / 8)).getLsbD (i % 8)
theorem getN_rd {E:MapE} {i a n:Nat} (h:a+n≤64) (h8:n≤8):getN (lineE E i) a n n=rdB (memB E) (64 * i+a) n:=by
 refine ofG_ext fun k hk=>?_
 rw [getN_bit (Nat.le_refl _) h8]
 by_cases hb:k < 8 * n
 ·simp only [hb,decide_true,Bool.true_and]
  unfold memB
  rw [show (64 * i+a+k / 8) / 64=i by omega,show (64 * i+a+k / 8) % 64=a+k / 8 by omega,show a+(n - n)+k / 8=a+k / 8 by omega]
 ·simp [hb]
theorem rd_two {B:Nat→BitVec 8} {a m n:Nat} (h:m≤n) (h8:n≤8):(rdB B (a+m) (n - m)) <<< (8 * m) ||| rdB B a m=rdB B a n:=by
 refine ofG_ext fun k hk=>?_
 rw [BitVec.getLsbD_or,BitVec.getLsbD_shiftLeft,rdB,rdB,ofG_get hk]
 by_cases hb:k < 8 * m
 ·simp [hb,show k < 8 * n by omega]
 ·rw [ofG_get (by omega),show a+m+(k - 8 * m) / 8=a+k / 8 by omega,show (k - 8 * m) % 8=k % 8 by omega,show decide (k - 8 * m < 8 * (n - m))=decide (k < 8 * n) from decide_eq_decide.2 (by omega)]
  simp [hb,hk]
def stM (M:Nat × MapE) (a n:Nat) (v:BitVec 64):Nat × MapE :=
 if min n (64 - a % 64) < n then
  stE (stE M (a / 64) (putN (lineE M.2 (a / 64)) (a % 64) v (64 - a % 64))) (a / 64+1)
   (putN (lineE (stE M (a / 64) (putN (lineE M.2 (a / 64)) (a % 64) v (64 - a % 64))).2 (a / 64+1)) 0 (v >>> (8 * (64 - a % 64))) (n - (64 - a % 64)))
 else stE M (a / 64) (putN (lineE M.2 (a / 64)) (a % 64) v n)
theorem memB_stE {n:Nat} {M:Nat × MapE} (hM:wfE n M) {i j:Nat} {L:List (BitVec 8)}:memB (stE M i L).2 j=if j / 64=i then L.getD (j % 64) 0#8 else memB M.2 j:=by
 unfold memB;rw [lineE_st hM];split <;> rfl
theorem wfE_put {N:Nat} {M:Nat × MapE} (hM:wfE N M) {i o m:Nat} {v:BitVec 64} (hi:i < N):wfE N (stE M i (putN (lineE M.2 i) o v m)):=wfE_st hM hi (by rw [putN_len];exact lineE_len hM)
theorem wfE_stM {N:Nat} {M:Nat × MapE} (hM:wfE N M) {a n:Nat} {v:BitVec 64} (ha:a+n≤64 * N) (h1:1≤n) (h8:n≤8):wfE N (stM M a n v):=by
 unfold stM
 split
 ·exact wfE_put (wfE_put hM (by omega)) (by omega)
 ·exact wfE_put hM (by omega)
theorem memB_put {N:Nat} {M:Nat × MapE} (hM:wfE N M) {i o m j:Nat} {v:BitVec 64} (h:o+m≤64):memB (stE M i (putN (lineE M.2 i) o v m)).2 j=if 64 * i+o≤j∧j < 64 * i+o+m then (v >>> (8 * (j - (64 * i+o)))).setWidth 8 else memB M.2 j:=by
 rw [memB_stE hM]
 by_cases hj:j / 64=i
 ·rw [if_pos hj,putN_get (by rw [lineE_len hM];omega)]
  by_cases h2:o≤j % 64∧j % 64 < o+m
  ·rw [if_pos h2,if_pos (by omega),show j % 64 - o=j - (64 * i+o) by omega]
  ·rw [if_neg h2,if_neg (by omega)]
   unfold memB
   rw [hj]
 ·rw [if_neg hj,if_neg (by omega)]
theorem memB_st {N:Nat} {M:Nat × MapE} (hM:wfE N M) {a n j:Nat} {v:BitVec 64} (ha:a+n≤64 * N) (h1:1≤n) (h8:n≤8):memB (stM M a n v).2 j=if a≤j∧j < a+n then (v >>> (8 * (j - a))).setWidth 8 else memB M.2 j:=by
 unfold stM
 have ea:64 * (a / 64)+a % 64=a:=by omega
 split
 ·rw [memB_put (wfE_put hM (by omega)) (by omega),memB_put hM (by omega),ea]
  by_cases h2:a+(64 - a % 64)≤j∧j < a+n
  ·rw [if_pos (by omega),if_pos (by omega)]
   rw [←BitVec.shiftRight_add,show 8 * (64 - a % 64)+8 * (j - (64 * (a / 64+1)+0))=8 * (j - a) by omega]
  ·rw [if_neg (by omega)]
   by_cases h3:a≤j∧j < a+(64 - a % 64)
   ·rw [if_pos h3,if_pos (by omega)]
   ·rw [if_neg h3,if_neg (by omega)]
 ·rw [memB_put hM (by omega),ea]
theorem offN_ex (x:BitVec 64):∃n:Nat,n=x.toNat - 2147483648:=⟨_,rfl⟩
def offN (x:BitVec 64):Nat:=Classical.choose (offN_ex x)
theorem offN_eq (x:BitVec 64):offN x=x.toNat - 2147483648:=Classical.choose_spec (offN_ex x)
def hasB (N:Nat) (x:BitVec 64) (n:Int):Bool:=decide (1≤n) && (decide (2147483648≤x.toNat) && (decide (offN x < 64 * N) && decide (n≤((64 * N - offN x:Nat):Int))))
theorem hasB_iff {N:Nat} {x:BitVec 64} {n:Int}:hasB N x n=true ↔ 1≤n∧2147483648≤x.toNat∧offN x < 64 * N∧n≤((64 * N - offN x:Nat):Int):=by
 simp only [hasB,Bool.and_eq_true,decide_eq_true_eq]
def gd2 (B:Int→BitVec 64):List Pc→Int→Prop
 | [],_=>True
 | p::l,m=>p.s=8 * m∧1≤p.n∧m+p.n≤8∧(∀j,0≤j→j < p.n→B (m+j)=p.a+BitVec.ofInt 64 j∧(p.a+BitVec.ofInt 64 j) / 64#64=p.a / 64#64)∧gd2 B l (m+p.n)
theorem gd2_app {B:Int→BitVec 64} {l r:List Pc} {m:Int} (h1:gd2 B l m) (h2:gd2 B r (m+tot l)):gd2 B (l++r) m:=by
 induction l generalizing m with
 | nil=>simpa [tot] using h2
 | cons p l ih =>
   obtain ⟨a1,a2,a3,a4,a6⟩:=h1
   refine ⟨a1,a2,a3,a4,ih a6 ?_⟩
   simp only [tot] at h2
   rwa [show m+p.n+tot l=m+(p.n+tot l) by omega]
theorem gd2_pc {B:Int→BitVec 64} {a:BitVec 64} {n m:Int} (hn:1≤n) (hm:m+n≤8) (h0:0≤m) (hB:∀j,0≤j→j < n→B (m+j)=a+BitVec.ofInt 64 j):gd2 B (pcP a n (8 * m)) m:=by
 have hl:1≤left a∧left a≤64:=by unfold left;omega
 unfold pcP
 split
 ·rename_i h
  exact ⟨rfl,hn,hm,fun j h1 h2=>⟨hB j h1 h2,line_same _ _ h1 (by have h3:j < n:=h2;show j < (left a:Int);omega)⟩,trivial⟩
 ·rename_i h
  refine ⟨rfl,by simp only;omega,by simp only;omega,fun j h1 h2=>⟨hB j h1 (by have h3:j < (left a:Int):=h2;omega),line_same _ _ h1 h2⟩,by simp only;omega,by simp only;omega,by simp only;omega,fun j h1 h2=>⟨?_,line_same _ _ h1 (by have h3:j < n - (left a:Int):=h2;rw [left_al];omega)⟩,trivial⟩
  have h3:j < n - (left a:Int):=h2
  show B (m+(left a:Int)+j)=a+BitVec.ofInt 64 (left a)+BitVec.ofInt 64 j
  rw [show m+(left a:Int)+j=m+((left a:Int)+j) by omega,hB _ (by omega) (by omega),BitVec.add_assoc]
  congr 1
  exact BitVec.ofInt_add ..
theorem gd2_acc {a b:BitVec 64} {c s:Int} (h:smB c s=true):gd2 (byteU a b c) (accP a b c s) 0:=by
 have hm:1≤s∧s≤8∧0≤c∧c < s:=by simpa [smB] using h
 unfold accP
 rw [if_pos h]
 split
 ·rename_i hc
  subst hc
  have:=gd2_pc (B:=byteU a b 0) (a:=a) (n:=s) (m:=0) (by omega) (by omega) (by omega) (fun j h0 h1=>by unfold byteU;rw [if_neg (by omega),Int.zero_add])
  simpa only [Int.mul_zero] using this
 ·rename_i hc
  have g1:=gd2_pc (B:=byteU a b c) (a:=a) (n:=c) (m:=0) (by omega) (by omega) (by omega) (fun j h0 h1=>by unfold byteU;rw [if_neg (by omega),Int.zero_add])
  have k1:=gd2_pc (B:=byteU a b c) (a:=b) (n:=s - c) (m:=c) (by omega) (by omega) (by omega) (fun j h0 h1=>by unfold byteU;rw [if_pos (by omega),show c+j - c=j by omega])
  have g2:=(good_pc (B:=byteU a b c) (a:=a) (n:=c) (m:=0) (by omega) (by omega) (by omega) (fun j h0 h1=>by unfold byteU;rw [if_neg (by omega),Int.zero_add])).2.1
  simp only [Int.mul_zero] at g1 g2
  exact gd2_app g1 (by rw [g2,Int.zero_add];exact k1)
theorem off_add {N:Nat} {x:BitVec 64} {n j:Int} (hN:N≤4096) (h:hasB N x n=true) (h0:0≤j) (hj:j < n):offN (x+BitVec.ofInt 64 j)=offN x+j.toNat:=by
 rw [hasB_iff] at h
 have e0:(BitVec.ofInt 64 j).toNat=j.toNat:=by rw [BitVec.toNat_ofInt];omega
 rw [offN_eq,offN_eq,BitVec.toNat_add,e0]
 rw [offN_eq] at h
 omega
def getA (E:MapE) (B:Int→BitVec 64) (s:Int):BitVec 64:=ofG fun i=>decide ((i:Int) < 8 * s) && (memB E (offN (B ((i / 8:Nat):Int)))).getLsbD (i % 8)
def partsA (E:MapE) (l:List Pc):List (BitVec 64):=l.map fun p=>rdB (memB E) (offN p.a) p.n.toNat
theorem jn1_bits {out x y:BitVec 64} {p:Pc} (h:∀i:Nat,(i:Int) < 8 * p.n→i < 64→x.getLsbD i=y.getLsbD i):jn1 out p x=jn1 out p y:=by
 unfold jn1
 split
 ·rename_i hr
  rw [right_iff] at hr
  refine ofG_congr fun i hi=>?_
  split
  ·rename_i hp
   simp only [inP,decide_eq_true_eq] at hp
   rw [bitB_in (by omega) (by omega),bitB_in (by omega) (by omega)]
   exact h _ (by omega) (by omega)
  ·rfl
 ·rfl
theorem join_get {E:MapE} {B:Int→BitVec 64} {N:Nat} (hN:N≤4096) {V:BitVec 64} {l:List Pc} {m:Int} (h:gd2 B l m) (h0:0≤m) (hh:∀p∈l,hasB N p.a p.n=true)
 (hV:∀i:Nat,(i:Int) < 8 * (m+tot l)→V.getLsbD i=(memB E (offN (B ((i / 8:Nat):Int)))).getLsbD (i % 8)) (ht:m+tot l≤8) (hp:∀k,0≤tot (l.drop k)):jnU l (partsA E l) (lowU V (8 * m))=lowU V (8 * (m+tot l)):=by
 induction l generalizing m with
 | nil=>simp [jnU,tot]
 | cons p l ih =>
   obtain ⟨a1,a2,a3,a4,a6⟩:=h
   simp only [partsA,List.map_cons,jnU,tot] at *
   have e:p=⟨p.a,p.n,8 * m⟩:=by rw [←a1]
   have hq:=hp 1
   rw [List.drop_succ_cons,List.drop_zero] at hq
   have h1:jn1 (lowU V (8 * m)) p (rdB (memB E) (offN p.a) p.n.toNat)=jn1 (lowU V (8 * m)) p (partU V p.n p.s):=by
    refine jn1_bits fun i hi hi64=>?_
    have hr:rightB p.n p.s=true:=by rw [right_iff];omega
    unfold partU rdB
    rw [if_pos hr,ofG_get hi64]
    unfold cutU
    rw [ofG_get hi64,decide_eq_true (show i < 8 * p.n.toNat by omega),decide_eq_true hi,Bool.true_and,Bool.true_and,bitB_in (by omega) (by omega)]
    have e2:(p.s+(i:Int)).toNat / 8=m.toNat+i / 8:=by omega
    have e3:(p.s+(i:Int)).toNat % 8=i % 8:=by omega
    rw [hV _ (by omega),e2,e3]
    have e4:(((m.toNat+i / 8:Nat)):Int)=m+((i / 8:Nat):Int):=by omega
    rw [e4,(a4 _ (by omega) (by omega)).1,off_add hN (hh p (by simp)) (by omega) (by omega),Int.toNat_natCast]
   have:=part_join (v:=V) h0 a2 a3 p.a
   rw [h1,a1,show jn1 (lowU V (8 * m)) p (partU V p.n (8 * m))=lowU V (8 * (m+p.n)) by rw [←this];exact congrArg (fun q=>jn1 (lowU V (8 * m)) q (partU V p.n (8 * m))) e]
   rw [ih a6 (by omega) (fun q hq=>hh q (by simp [hq])) (fun i hi=>hV i (by omega)) (by omega) (fun k=>by have:=hp (k+1);simpa using this)]
   congr 1;omega
theorem tot_drop {B:Int→BitVec 64} {l:List Pc} {m:Int} (h:gd2 B l m) (k:Nat):0≤tot (l.drop k):=by
 induction l generalizing m k with
 | nil=>simp [tot]
 | cons q l ih =>
   cases k with
   | zero=>have:=ih h.2.2.2.2 0;have:=h.2.1;simp only [List.drop_zero,tot] at *;omega
   | succ k=>exact ih h.2.2.2.2 k
theorem get_acc {E:MapE} {a b:BitVec 64} {c s:Int} {N:Nat} (hN:N≤4096) (h:smB c s=true) (hh:∀p∈accP a b c s,hasB N p.a p.n=true):jnU (accP a b c s) (partsA E (accP a b c s)) 0#64=getA E (byteU a b c) s:=by
 have g:=gd2_acc (a:=a) (b:=b) h
 have ht:=(good_acc (a:=a) (b:=b) h).2.1
 have hm:1≤s∧s≤8∧0≤c∧c < s:=by simpa [smB] using h
 have:=join_get (E:=E) hN (V:=getA E (byteU a b c) s) g (by omega) hh (fun i hi=>by
  unfold getA
  rw [ofG_get (by omega),decide_eq_true (by omega)];rfl) (by omega) (tot_drop g)
 rw [show (8:Int) * 0=0 by omega,low_0,ht,Int.zero_add] at this
 rw [this]
 refine BitVec.eq_of_getLsbD_eq fun i hi=>?_
 unfold lowU getA
 rw [ofG_get hi,ofG_get hi]
 cases decide ((i:Int) < 8 * s) <;> rfl
def lfB (a n:Int):Bool:=decide (1≤n) && (decide (n≤8) && (decide (0≤a) && decide (a≤64 - n)))
theorem lfB_nat {a n:Int} (h:lfB a n=true):∃a' n':Nat,a=a'∧n=n'∧1≤n'∧n'≤8∧a'+n'≤64:=by
 simp only [lfB,Bool.and_eq_true,decide_eq_true_eq] at h
 exact ⟨a.toNat,n.toNat,by omega,by omega,by omega,by omega,by omega⟩
theorem lfB_of {a n:Nat} (h1:1≤n) (h2:n≤8) (h3:a+n≤64):lfB a n=true:=by
 simp only [lfB,Bool.and_eq_true,decide_eq_true_eq];omega
def s_lfits (args:List AV):Option AV :=
 match args with
 | [.c (.i a),.c (.i n)]=>some (.c (.b (lfB a n)))
 | _=>none
theorem s_lfits_eq {a n}:s_lfits [.c (.i a),.c (.i n)]=some (.c (.b (lfB a n))):=rfl
theorem ok_lfits:PuOk Tryz.prog 127 s_lfits:=by
 refine pu_ok (tab:=[]) hmix TabOk.nil Tryz.func127 rfl Tryz.results127 Tryz.ntmps127 (by kernel_rfl) (by kernel_rfl) ?_
 intro args v h
 unfold s_lfits at h
 split at h
 ·rename_i a n
  simp only [Option.some.injEq] at h;subst h
  refine ⟨by simp only [List.length_cons,List.length_nil];decide,rfl,rfl,?_⟩
  by_cases h1:1≤n
  ·by_cases h2:n≤8
   ·have e:w64 (64 - n)=64 - n:=w64_d (by omega) (by omega)
    by_cases h3:0≤a
    all_goals (repeat (first | simp (maxSteps:=9^9) only [go_sem,seval,lfB,h1,h2,h3,e] | simp (disch:=omega) only [w64_d,ipos,ineg,dpos,dneg]))
   ·(repeat (first | simp (maxSteps:=9^9) only [go_sem,seval,lfB,h1,h2] | simp (disch:=omega) only [w64_d,ipos,ineg,dpos,dneg]))
  ·(repeat (first | simp (maxSteps:=9^9) only [go_sem,seval,lfB,h1] | simp (disch:=omega) only [w64_d,ipos,ineg,dpos,dneg]))
 ·simp at h
theorem zRow_ln:zRow 64 (.k .u8 0)=lineC Z64:=rfl
theorem L_get {L:List (BitVec 8)} {k:Nat} (h:k < L.length):L[k]?=some (L.getD k 0#8):=by
 rw [List.getD_eq_getElem?_getD,List.getElem?_eq_getElem h];rfl
def lgetU (l:List Sc) (a n:Int):BitVec 64:=if lfB a n=true then getN (lnT l) a.toNat n.toNat n.toNat else 0#64
def lputL (l:List Sc) (a n:Int) (v:BitVec 64):List Sc:=if lfB a n=true then lineC (putN (lnT l) a.toNat v n.toNat) else l
def s_lget (args:List AV):Option AV :=
 match args with
 | [.g l,.c (.i a),.c (.i n)]=>if isLn l then some (.t [.c (.u (lgetU l a n)),.c (.b (lfB a n))]) else none
 | _=>none
theorem s_lget_eq {l a n}:s_lget [.g l,.c (.i a),.c (.i n)]=if isLn l then some (.t [.c (.u (lgetU l a n)),.c (.b (lfB a n))]) else none:=rfl
theorem ok_lget:PuOk Tryz.prog 102 s_lget:=by
 refine pu_ok (tab:=[(127,.pu s_lfits)]) hmix (TabOk.cons (e:=.pu s_lfits) ok_lfits TabOk.nil) Tryz.func102 rfl Tryz.results102 Tryz.ntmps102 (by kernel_rfl) (by kernel_rfl) ?_
 intro args v h
 unfold s_lget at h
 split at h
 ·rename_i l a n
  split at h
  ·rename_i hc
   simp only [Option.some.injEq] at h;subst h
   obtain ⟨L,hL,rfl⟩:=hc
   have pl:=@lineC_pf L
   refine ⟨by simp only [List.length_cons,List.length_nil];decide,by first | rfl | simp only [List.all_cons,List.all_nil,AV.pf,Sc.pf,Bool.and_true, *],by first | rfl | simp only [List.all_cons,List.all_nil,AV.pf,Sc.pf,Bool.and_true, *],?_⟩
   have lC:(lineC L).length=64:=by rw [lineC_len,hL]
   cases hf:lfB a n
   ·(repeat (first | simp (maxSteps:=9^9) only [go_sem,seval,s_lfits_eq,hf,lgetU] | simp (disch:=omega) only [w64_d,ipos,ineg,dpos,dneg]))
   ·obtain ⟨a,n,rfl,rfl,n1,n8,an⟩:=lfB_nat hf
    have e0:lgetU (lineC L) a n=getN L a n n:=by unfold lgetU;rw [if_pos hf,lnT_of];rfl
    rw [e0]
    (repeat (first | simp (maxSteps:=9^9) only [go_sem,seval,s_lfits_eq,hf] | simp (disch:=omega) only [w64_d,ipos,ineg,dpos,dneg]))
    refine arun_for n (fun m=>([(1,.c (.i a)),(3,.c (.p 0 0 0)),(8,.c (.u (getN L a n m))),(9,.c (.i ((n:Int) - 1 - m)))],[.own (lineC L)])) ?_ fun m hm=>?_
    ·exact Wk.wk (Nat.zero_le _) (by simp [Am.get,getN]) (by simp [AV.bel,Sc.bel]) (subH_refl _) (by simp only [belH,List.all_cons,List.all_nil,AObj.scs,lineC_bel];rfl)
    ·by_cases hlt:m < n
     ·have e1:(0:Int)≤(n:Int) - 1 - m:=by omega
      have e2:w64 ((a:Int)+((n:Int) - 1 - m))=((a+(n - 1 - m):Nat):Int):=by rw [w64_d (by omega) (by omega)];omega
      have e3:w64 ((n:Int) - 1 - m - 1)=(n:Int) - 1 - ((m+1:Nat):Int):=by rw [w64_d (by omega) (by omega)];omega
      have c:=lineC_get (L_get (L:=L) (k:=a+(n - 1 - m)) (by omega))
      have e4:a+(n - 1 - m) < 64:=by omega
      have e5:a+(n - 1 - m)+1≤64:=by omega
      have e6:getN L a n (m+1)=(getN L a n m <<< 8) ||| (L.getD (a+(n - 1 - m)) 0#8).setWidth 64:=rfl
      (repeat (first | simp (maxSteps:=9^9) only [go_sem,seval,e1,e2,e3,e4,e5,c,byC,by_u,lC,Int.toNat_natCast] | simp (disch:=omega) only [w64_d,ipos,ineg,dpos,dneg]))
      exact ⟨m+1,by omega,by omega,Wk.wk (Nat.zero_le _) (by simp [Am.get,e6]) (by simp [AV.bel,Sc.bel]) (subH_refl _) (by simp only [belH,List.all_cons,List.all_nil,AObj.scs,lineC_bel];rfl)⟩
     ·obtain rfl:m=n:=by omega
      have e1:¬(0:Int)≤(m:Int) - 1 - m:=by omega
      (repeat (first | simp (maxSteps:=9^9) only [go_sem,seval,e1] | simp (disch:=omega) only [w64_d,ipos,ineg,dpos,dneg]))
  ·simp at h
 ·simp at h
def s_lput (args:List AV):Option AV :=
 match args with
 | [.g l,.c (.i a),.c (.i n),.c (.u v)]=>if isLn l then some (.t [.g (lputL l a n v),.c (.b (lfB a n))]) else none
 | _=>none
theorem s_lput_eq {l a n v}:s_lput [.g l,.c (.i a),.c (.i n),.c (.u v)]=if isLn l then some (.t [.g (lputL l a n v),.c (.b (lfB a n))]) else none:=rfl
theorem ok_lput:PuOk Tryz.prog 104 s_lput:=by
 refine pu_ok (tab:=[(127,.pu s_lfits)]) hmix (TabOk.cons (e:=.pu s_lfits) ok_lfits TabOk.nil) Tryz.func104 rfl Tryz.results104 Tryz.ntmps104 (by kernel_rfl) (by kernel_rfl) ?_
 intro args v h
 unfold s_lput at h
 split at h
 ·rename_i l a n v
  split at h
  ·rename_i hc
   simp only [Option.some.injEq] at h;subst h
   obtain ⟨L,hL,rfl⟩:=hc
   have pl:=@lineC_pf L
   have pq:(lputL (lineC L) a n v).all Sc.pf=true:=by unfold lputL;split <;> exact lineC_pf
   refine ⟨by simp only [List.length_cons,List.length_nil];decide,by first | rfl | simp only [List.all_cons,List.all_nil,AV.pf,Sc.pf,Bool.and_true, *],by first | rfl | simp only [List.all_cons,List.all_nil,AV.pf,Sc.pf,Bool.and_true, *],?_⟩
   have lZ:(lineC Z64).length=64:=by rw [lineC_len];rfl
   have dZ:(lineC Z64).drop 64=[]:=List.drop_eq_nil_of_le (by omega)
   have lC:(lineC L).length=64:=by rw [lineC_len,hL]
   have oC:=@lineC_one L
   have tC:(lineC L).take 64=lineC L:=by rw [←lC,List.take_length]
   cases hf:lfB a n
   ·(repeat (first | simp (maxSteps:=9^9) only [go_sem,seval,s_lfits_eq,hf,lputL,lC,oC,tC,zRow_ln,dZ,lZ] | simp (disch:=omega) only [w64_d,ipos,ineg,dpos,dneg]))
   ·obtain ⟨a,n,rfl,rfl,n1,n8,an⟩:=lfB_nat hf
    have e0:lputL (lineC L) a n v=lineC (putN L a v n):=by unfold lputL;rw [if_pos hf,lnT_of];rfl
    rw [e0]
    (repeat (first | simp (maxSteps:=9^9) only [go_sem,seval,s_lfits_eq,hf,zRow_ln] | simp (disch:=omega) only [w64_d,ipos,ineg,dpos,dneg]))
    have bb:∀M:List (BitVec 8),belH [.own (lineC M),.own (lineC Z64)]=true:=fun M=>by simp only [belH,List.all_cons,List.all_nil,AObj.scs,lineC_bel];rfl
    refine arun_for n (fun m=>([(1,.c (.i a)),(3,.c (.u v)),(4,.c (.p 0 0 0)),(8,.c (.p 1 0 0)),(16,.c (.i n)),(17,.c (.i m))],[.own (lineC (putN L a v m)),.own (lineC Z64)])) ?_ fun m hm=>?_
    ·exact Wk.wk (Nat.zero_le _) (by simp [Am.get,putN]) (by simp [AV.bel,Sc.bel]) (subH_refl _) (bb _)
    ·have lM:(lineC (putN L a v m)).length=64:=by rw [lineC_len,putN_len,hL]
     by_cases hlt:m < n
     ·have e1:w64 ((a:Int)+(m:Int))=((a+m:Nat):Int):=by rw [w64_d (by omega) (by omega)];omega
      have e2:w64 (8 * (m:Int))=((8 * m:Nat):Int):=by rw [w64_d (by omega) (by omega)];omega
      have e3:w64 ((m:Int)+1)=((m+1:Nat):Int):=by rw [w64_d (by omega) (by omega)];omega
      have e4:(BitVec.ofInt 64 ((8 * m:Nat):Int)).toNat=8 * m:=ofI_nat (by omega)
      have e5:wr (lineC (putN L a v m)) (a+m) [.k .u8 (IntKind.u8.wrap ((v >>> (8 * m)).toNat:Int))]=lineC (putN L a v (m+1)):=by
       rw [u_by,wr_one (by omega),lineC_set];rfl
      have e6:a+m < 64:=by omega
      have e7:a+m+1≤64:=by omega
      (repeat (first | simp (maxSteps:=9^9) only [go_sem,seval,e1,e2,e3,e4,e5,e6,e7,lM,Int.toNat_natCast] | simp (disch:=omega) only [w64_d,ipos,ineg,dpos,dneg]))
      exact ⟨m+1,by omega,by omega,Wk.wk (Nat.zero_le _) (by simp [Am.get]) (by simp [AV.bel,Sc.bel]) (subH_refl _) (bb _)⟩
     ·obtain rfl:m=n:=by omega
      have oM:=@lineC_one (putN L a v m)
      have tM:(lineC (putN L a v m)).take 64=lineC (putN L a v m):=by rw [←lM,List.take_length]
      (repeat (first | simp (maxSteps:=9^9) only [go_sem,seval,lM,oM,tM,lZ,dZ] | simp (disch:=omega) only [w64_d,ipos,ineg,dpos,dneg]))
  ·simp at h
 ·simp at h
structure RamS where
 id:Nat
 mid:Nat
 n:Nat
 M:Nat × MapE
def keyC (i:Nat):AV:=.g [.i ((i % 16:Nat):Int),.i ((i / 16:Nat):Int)]
def entM (e:Nat × Nat × List (BitVec 8)):Nat × AV × AV:=(e.1,keyC e.2.1,.g (lineC e.2.2))
def mapO (M:Nat × MapE):AObj:=.map M.1 (M.2.map entM)
theorem lineC_inj {L M:List (BitVec 8)} (h:lineC L=lineC M):L=M:=by
 have:=congrArg lnT h
 rwa [lnT_of,lnT_of] at this
theorem keyC_inj {i j:Nat} (h:keyC i=keyC j):i=j:=by
 simp only [keyC,AV.g.injEq,List.cons.injEq,Sc.i.injEq,and_true] at h
 omega
theorem entM_inj {a b:Nat × Nat × List (BitVec 8)} (h:entM a=entM b):a=b:=by
 obtain ⟨a1,a2,a3⟩:=a
 obtain ⟨b1,b2,b3⟩:=b
 simp only [entM,Prod.mk.injEq] at h
 obtain ⟨h1,h2,h3⟩:=h
 simp only [AV.g.injEq] at h3
 rw [h1,keyC_inj h2,lineC_inj h3]
theorem map_inj {α β:Type} {f:α→β} (hf:∀a b,f a=f b→a=b):∀{L M:List α},L.map f=M.map f→L=M
 | [],[],_=>rfl
 | [],b::M,h=>by simp at h
 | a::L,[],h=>by simp at h
 | a::L,b::M,h=>by
   simp only [List.map_cons,List.cons.injEq] at h
   rw [hf _ _ h.1,map_inj hf h.2]
theorem mapO_inj {M N:Nat × MapE} (h:mapO M=mapO N):M=N:=by
 simp only [mapO,AObj.map.injEq] at h
 obtain ⟨a,A⟩:=M
 obtain ⟨b,B⟩:=N
 simp only at h
 rw [h.1,map_inj (fun _ _=>entM_inj) h.2]
structure RamIs (H:AH) (x:Sc) (s:RamS):Prop where
 x:x=.p s.id 0 0
 o:hg H s.id=.own [.i s.n,.mp s.mid]
 m:hg H s.mid=mapO s.M
 w:wfE s.n s.M
 n1:1≤s.n
 n2:s.n≤4096
theorem RamIs.uniq {H:AH} {x:Sc} {s t:RamS} (h:RamIs H x s) (g:RamIs H x t):s=t:=by
 obtain ⟨a,b,c,d⟩:=s
 obtain ⟨a',b',c',d'⟩:=t
 have h1:=h.x.symm.trans g.x
 simp only [Sc.p.injEq,and_true] at h1
 subst h1
 have h2:=h.o.symm.trans g.o
 simp only [AObj.own.injEq,List.cons.injEq,Sc.i.injEq,Sc.mp.injEq,and_true] at h2
 obtain ⟨h3,h4⟩:=h2
 obtain rfl:c=c':=by omega
 subst h4
 obtain rfl:d=d':=mapO_inj (h.m.symm.trans g.m)
 rfl
def ramQ (H:AH) (x:Sc):Option RamS:=open Classical in if h:∃s,RamIs H x s then some h.choose else none
theorem ramQ_of {H:AH} {x:Sc} {s:RamS} (h:RamIs H x s):ramQ H x=some s:=by
 unfold ramQ
 have e:∃s,RamIs H x s:=⟨s,h⟩
 rw [dif_pos e,RamIs.uniq e.choose_spec h]
theorem ramQ_inv {H:AH} {x:Sc} {s:RamS} (h:ramQ H x=some s):RamIs H x s:=by
 unfold ramQ at h
 split at h
 ·rename_i e
  simp only [Option.some.injEq] at h
  rw [←h];exact e.choose_spec
 ·simp at h
theorem RamIs.ne {H:AH} {x:Sc} {s:RamS} (h:RamIs H x s):s.id≠s.mid:=fun e=>by
 have h1:=h.o
 rw [e,h.m] at h1
 exact AObj.noConfusion h1
theorem RamIs.lid {H:AH} {x:Sc} {s:RamS} (h:RamIs H x s):s.id < H.length:=hg_lt (by rw [h.o];rfl)
theorem RamIs.lmid {H:AH} {x:Sc} {s:RamS} (h:RamIs H x s):s.mid < H.length:=hg_lt (by rw [h.m];rfl)
theorem RamIs.app {H:AH} {x:Sc} {s:RamS} (h:RamIs H x s) (X:AH):RamIs (H++X) x s:=⟨h.x,by rw [hg_lt' h.lid];exact h.o,by rw [hg_lt' h.lmid];exact h.m,h.w,h.n1,h.n2⟩
def RamS.to (s:RamS) (M:Nat × MapE):RamS:=⟨s.id,s.mid,s.n,M⟩
theorem RamIs.set {H:AH} {x:Sc} {s:RamS} (h:RamIs H x s) {M:Nat × MapE} (hM:wfE s.n M):RamIs (H.set s.mid (mapO M)) x (s.to M) :=
 ⟨h.x,by show hg _ s.id=_;rw [hg_set_ne' h.ne.symm];exact h.o,hg_set_same h.lmid,hM,h.n1,h.n2⟩
theorem RamIs.other {H:AH} {x:Sc} {s:RamS} (h:RamIs H x s) {i:Nat} {o:AObj} (h1:i≠s.id) (h2:i≠s.mid):RamIs (H.set i o) x s :=
 ⟨h.x,by rw [hg_set_ne' h1];exact h.o,by rw [hg_set_ne' h2];exact h.m,h.w,h.n1,h.n2⟩
theorem mapO_bel {M:Nat × MapE} {n:Nat}:(mapO M).scs.all (Sc.bel n)=true:=by
 simp only [mapO,AObj.scs,List.flatMap_map,List.all_flatMap,entM,AV.scs,keyC,List.all_append,lineC_bel,List.all_cons,List.all_nil,Sc.bel]
 exact List.all_eq_true.2 fun _ _=>rfl
theorem RamIs.bel {H:AH} {x:Sc} {s:RamS} (h:RamIs H x s) (hH:belH H=true) {M:Nat × MapE}:belH (H.set s.mid (mapO M))=true:=bel_set' hH mapO_bel
theorem RamIs.self {H:AH} {x:Sc} {s:RamS} (h:RamIs H x s):H.set s.mid (mapO s.M)=H:=set_self h.m h.lmid
theorem kEq_place {i j:Nat}:kEq Tryz.prog 128 (keyC i) (keyC j)=some (decide (j=i)):=by
 unfold kEq keyC
 rw [kA128,gT128]
 simp only [csEq,scEq,Option.bind_some,Bool.and_true]
 congr 1
 by_cases h:j=i
 ·subst h;simp
 ·rw [decide_eq_false h]
  by_cases h1:i % 16=j % 16
  ·have h2:¬((i / 16:Nat):Int)=((j / 16:Nat):Int):=by omega
   simp only [h2,decide_false,Bool.and_false]
  ·have h2:¬((i % 16:Nat):Int)=((j % 16:Nat):Int):=by omega
   simp only [h2,decide_false,Bool.false_and]
theorem find_ram {i:Nat}:∀{E:MapE} {k:Nat},findA Tryz.prog 128 (keyC i) (E.map entM) k=some ((lookE E i k).map fun p=>(p.1,AV.g (lineC p.2)))
 | [],_=>rfl
 | e::E,k=>by
   simp only [List.map_cons,findA,lookE,entM,kEq_place]
   by_cases h:e.2.1=i
   ·simp only [h,decide_true,if_true,Option.map_some]
   ·simp only [h,decide_false,if_false]
    exact find_ram
theorem ent_upd {M:Nat × MapE} {i j:Nat} {L L2:List (BitVec 8)} (h:lookE M.2 i 0=some (j,L2)):AObj.map M.1 ((M.2.map entM).set j (((M.2.map entM).getD j (0,keyC i,.g (lineC L))).1,keyC i,.g (lineC L)))=mapO (setE M i L):=by
 obtain ⟨b,hb⟩:=lookE_some h
 have e:(M.2.map entM).getD j (0,keyC i,AV.g (lineC L))=entM (b,i,L2):=by rw [List.getD_eq_getElem?_getD,List.getElem?_map,hb];rfl
 have e2:M.2.getD j (0,i,L)=(b,i,L2):=by rw [List.getD_eq_getElem?_getD,hb];rfl
 simp only [setE,h,mapO,e,e2,List.map_set]
 rfl
theorem ent_new {M:Nat × MapE} {i:Nat} {L:List (BitVec 8)} (h:lookE M.2 i 0=none):AObj.map (M.1+1) (M.2.map entM++[(M.1,keyC i,.g (lineC L))])=mapO (setE M i L):=by
 simp only [setE,h,mapO,List.map_append];rfl
theorem map_erase {α β:Type} {f:α→β} {L:List α} {j:Nat}:(L.map f).eraseIdx j=(L.eraseIdx j).map f:=by
 induction L generalizing j with
 | nil=>rfl
 | cons e E ih =>
   cases j with
   | zero=>rfl
   | succ j=>simp only [List.eraseIdx_cons_succ,List.map_cons,ih]
theorem ent_del {M:Nat × MapE} {i j:Nat} {L2:List (BitVec 8)} (h:lookE M.2 i 0=some (j,L2)):AObj.map M.1 ((M.2.map entM).eraseIdx j)=mapO (delE M i):=by
 simp only [delE,h,mapO,map_erase]
theorem gT_line:tagsT Tryz.prog 12 73=some (List.replicate 64 .n):=by kernel_rfl
theorem csEq_by:∀{L M:List (BitVec 8)},L.length=M.length→csEq (List.replicate L.length .n) (lineC L) (lineC M)=some (decide (L=M))
 | [],[],_=>rfl
 | [],b::M,h=>by simp at h
 | a::L,[],h=>by simp at h
 | a::L,b::M,h=>by
   have ih:=csEq_by (L:=L) (M:=M) (by simpa using h)
   have e:scEq .n (byC a) (byC b)=some (decide (a=b)):=by
    simp only [byC,scEq,if_true]
    congr 1
    by_cases h:a=b
    ·subst h;simp
    ·have:¬((a.toNat:Nat):Int)=((b.toNat:Nat):Int):=fun e=>h (BitVec.eq_of_toNat_eq (by omega))
     simp only [this,h,decide_false]
   simp only [lineC,List.length_cons,List.replicate_succ,List.map_cons,csEq] at ih ⊢
   rw [e,ih]
   simp only [List.cons.injEq]
   congr 1
   by_cases h1:a=b <;> by_cases h2:L=M <;> simp [h1,h2]
theorem ab_line {L M:List (BitVec 8)} (h1:L.length=64) (h2:M.length=64):abin Tryz.prog .eql 73 (.g (lineC L)) (.g (lineC M))=some (.c (.b (decide (L=M)))):=by
 rw [ab_g_eql _ (by simp only [dT73,D.agg]) gT_line]
 have:=csEq_by (h1.trans h2.symm)
 rw [h1] at this
 rw [this];rfl
def s_rof10 (args:List AV):Option AV :=
 match args with
 | [.c (.i i)]=>if 0≤i∧i≤4096 then some (keyC i.toNat) else none
 | _=>none
theorem s_rof10_eq {i}:s_rof10 [.c (.i i)]=if 0≤i∧i≤4096 then some (keyC i.toNat) else none:=rfl
theorem ok_rof10:PuOk Tryz.prog 49 s_rof10:=by
 refine pu_ok (tab:=[]) hmix TabOk.nil Tryz.func49 rfl Tryz.results49 Tryz.ntmps49 (by kernel_rfl) (by kernel_rfl) ?_
 intro args v h
 unfold s_rof10 at h
 split at h
 ·rename_i i
  split at h
  ·rename_i hc
   simp only [Option.some.injEq] at h;subst h
   refine ⟨by simp only [List.length_cons,List.length_nil];decide,rfl,rfl,?_⟩
   obtain ⟨k,rfl⟩:=Int.eq_ofNat_of_zero_le hc.1
   have e1:(k:Int).tmod 16=((k % 16:Nat):Int):=by rw [Int.tmod_eq_emod_of_nonneg (by omega)];omega
   have e2:w64 ((k:Int).tdiv 16)=((k / 16:Nat):Int):=by rw [Int.tdiv_eq_ediv_of_nonneg (by omega),w64_d (by omega) (by omega)];omega
   (repeat (first | simp (maxSteps:=9^9) only [go_sem,seval,e1,e2,keyC,Int.toNat_natCast] | simp (disch:=omega) only [w64_d,ipos,ineg,dpos,dneg]))
  ·simp at h
 ·simp at h
def s_rlines10 (args:List AV) (H:AH):Option AV :=
 match args with
 | [.c x]=>(ramQ H x).map fun s=>.c (.i s.n)
 | _=>none
theorem s_rlines10_eq {H:AH} {x:Sc} {s:RamS} (h:RamIs H x s):s_rlines10 [.c x] H=some (.c (.i s.n)):=by simp only [s_rlines10,ramQ_of h,Option.map_some]
theorem ok_rlines10:FpOk Tryz.prog 48 (fun args H=>(s_rlines10 args H).map fun v=>(v,H)):=by
 refine fq_ok (s:=s_rlines10) (tab:=[]) hmix TabOk.nil Tryz.func48 rfl Tryz.results48 Tryz.ntmps48 (by kernel_rfl) (by kernel_rfl) ?_
 intro args H v h hargs hH
 unfold s_rlines10 at h
 split at h
 ·rename_i x
  rw [Option.map_eq_some_iff] at h
  obtain ⟨s,hs,rfl⟩:=h
  refine ⟨by simp only [List.length_cons,List.length_nil];decide,rfl,?_⟩
  have hR:=ramQ_inv hs
  obtain ⟨rfl,ho,-⟩:=hR
  (repeat (first | simp (maxSteps:=9^9) only [go_sem,seval,ho] | simp (disch:=omega) only [w64_d,ipos,ineg,dpos,dneg]))
  exact subH_refl _
 ·simp at h
theorem op_lookup {t:Nat} {x y:Operand} {q:Bool}:opnds (.lookup t x y q)=[x,y]:=rfl
theorem op_mapUpdate {t:Nat} {x y z:Operand}:opnds (.mapUpdate t x y z)=[x,y,z]:=rfl
theorem sT_map:szT Tryz.prog 124=1:=by kernel_rfl
theorem dT_map:dT Tryz.prog 124=.other:=by kernel_rfl
attribute [go_sem] sT_map dT_map op_lookup op_mapUpdate AV.flat1
def inN (n:Nat) (i:Int):Bool:=decide (0≤i) && decide (i < n)
theorem inN_nat {n:Nat} {i:Int} (h:inN n i=true):∃k:Nat,i=k∧k < n:=by
 simp only [inN,Bool.and_eq_true,decide_eq_true_eq] at h
 exact ⟨i.toNat,by omega,by omega⟩
def lineI (s:RamS) (i:Int):List (BitVec 8):=if inN s.n i=true then lineE s.M.2 i.toNat else Z64
theorem kOk_key {i:Nat}:kOk Tryz.prog 128 (keyC i)=true:=by rw [keyC,kOkG128];rfl
theorem Z64_len:Z64.length=64:=by unfold Z64;exact List.length_replicate
def s_rline10 (args:List AV) (H:AH):Option AV :=
 match args with
 | [.c x,.c (.i i)]=>(ramQ H x).map fun s=>.g (lineC (lineI s i))
 | _=>none
theorem s_rline10_eq {H:AH} {x:Sc} {i:Int} {s:RamS} (h:RamIs H x s):s_rline10 [.c x,.c (.i i)] H=some (.g (lineC (lineI s i))):=by simp only [s_rline10,ramQ_of h,Option.map_some]
theorem ok_rline10:FpOk Tryz.prog 18 (fun args H=>(s_rline10 args H).map fun v=>(v,H)):=by
 refine fq_ok (s:=s_rline10) (tab:=[(48,.fq s_rlines10),(49,.pu s_rof10)]) hmix (TabOk.cons (e:=.fq s_rlines10) ok_rlines10 (TabOk.cons (e:=.pu s_rof10) ok_rof10 TabOk.nil)) Tryz.func18 rfl Tryz.results18 Tryz.ntmps18 (by kernel_rfl) (by kernel_rfl) ?_
 intro args H v h hargs hH
 unfold s_rline10 at h
 split at h
 ·rename_i x i
  rw [Option.map_eq_some_iff] at h
  obtain ⟨s,hs,rfl⟩:=h
  refine ⟨by simp only [List.length_cons,List.length_nil];decide,by simp only [AV.bel];exact lineC_bel,?_⟩
  have hR:=ramQ_inv hs
  have p1:=fun X=>s_rlines10_eq (hR.app X)
  have oX:=fun X=>(hR.app X).o
  have mX:=fun X=>(hR.app X).m
  have zl:(lineC Z64).length=64:=by rw [lineC_len,Z64_len]
  have dZ:(lineC Z64).drop 64=[]:=List.drop_eq_nil_of_le (by omega)
  have oZ:=@lineC_one Z64
  have tZ:(lineC Z64).take 64=lineC Z64:=by rw [←zl,List.take_length]
  obtain ⟨rfl,ho,hm,hw,n1,n2⟩:=hR
  have fin:∀(L:List (BitVec 8)),subH H (H++[.own (lineC L)]):=fun L=>subH_app _ _
  cases hi:inN s.n i
  ·have e0:lineI s i=Z64:=by unfold lineI;rw [if_neg (by simp [hi])]
   rw [e0]
   by_cases h0:i < 0
   ·(repeat (first | simp (maxSteps:=9^9) only [go_sem,seval,s_rlines10_eq,s_rof10_eq,zRow_ln,h0,zl,dZ,oZ,tZ] | simp (disch:=omega) only [w64_d,ipos,ineg,dpos,dneg]))
    exact fin _
   ·have h1:(s.n:Int)≤i:=by simp only [inN,Bool.and_eq_false_iff,decide_eq_false_iff_not] at hi;omega
    (repeat (first | simp (maxSteps:=9^9) only [go_sem,seval,s_rlines10_eq,s_rof10_eq,zRow_ln,h0,h1,p1,zl,dZ,oZ,tZ] | simp (disch:=omega) only [w64_d,ipos,ineg,dpos,dneg]))
    exact fin _
  ·obtain ⟨k,rfl,hk⟩:=inN_nat hi
   have e0:lineI s k=lineE s.M.2 k:=by unfold lineI;rw [if_pos hi];rfl
   have h0:¬(k:Int) < 0:=by omega
   have h1:¬(s.n:Int)≤(k:Int):=by omega
   have hc:(0:Int)≤k∧(k:Int)≤4096:=by omega
   have f1:=find_ram (i:=k) (E:=s.M.2) (k:=0)
   rw [e0]
   unfold lineE
   cases hl:lookE s.M.2 k 0 with
   | none =>
     rw [hl] at f1
     simp only [Option.map_none] at f1
     (repeat (first | simp (maxSteps:=9^9) only [go_sem,seval,s_rlines10_eq,s_rof10_eq,zRow_ln,h0,h1,p1,oX,mX,mapO,hc,f1,kOk_key,Int.toNat_natCast,zl,dZ,oZ,tZ] | simp (disch:=omega) only [w64_d,ipos,ineg,dpos,dneg]))
     exact ⟨by repeat' first | apply And.intro | (intro _;kernel_rfl) | kernel_rfl,fin _⟩
   | some p =>
     rw [hl] at f1
     simp only [Option.map_some] at f1
     obtain ⟨j,L⟩:=p
     have hL:(lineC L).length=64:=by
      obtain ⟨b,hb⟩:=lookE_some hl
      rw [lineC_len];exact (hw.2 _ (List.mem_of_getElem? hb)).2
     have oL:=@lineC_one L
     have tL:(lineC L).take 64=lineC L:=by rw [←hL,List.take_length]
     (repeat (first | simp (maxSteps:=9^9) only [go_sem,seval,s_rlines10_eq,s_rof10_eq,zRow_ln,h0,h1,p1,oX,mX,mapO,hc,f1,kOk_key,Int.toNat_natCast,zl,dZ,hL,oL,tL] | simp (disch:=omega) only [w64_d,ipos,ineg,dpos,dneg]))
     exact ⟨by repeat' first | apply And.intro | (intro _;kernel_rfl) | kernel_rfl,fin _⟩
 ·simp at h
def setRm (H:AH) (s:RamS) (i:Int) (L:List (BitVec 8)):AH:=if inN s.n i=true then H.set s.mid (mapO (stE s.M i.toNat L)) else H
theorem setRm_len {H:AH} {s:RamS} {i:Int} {L:List (BitVec 8)}:(setRm H s i L).length=H.length:=by unfold setRm;split <;> simp
def s_rsetl (args:List AV) (H:AH):Option (AV × AH) :=
 match args with
 | [.c x,.c (.i i),.g cs]=>match ramQ H x with
   | some s=>if isLn cs then some (.c (.b (inN s.n i)),setRm H s i (lnT cs)) else none
   | none=>none
 | _=>none
theorem s_rsetl_eq {H:AH} {x:Sc} {i:Int} {s:RamS} {L:List (BitVec 8)} (h:RamIs H x s) (hL:L.length=64):s_rsetl [.c x,.c (.i i),.g (lineC L)] H=some (.c (.b (inN s.n i)),setRm H s i L):=by
 have:isLn (lineC L):=⟨L,hL,rfl⟩
 simp only [s_rsetl,ramQ_of h,this,if_true,lnT_of]
theorem len_rsetl (args:List AV) (H:AH) (v:AV) (H1:AH) (h:s_rsetl args H=some (v,H1)):H.length≤H1.length:=by
 unfold s_rsetl at h
 repeat' split at h
 all_goals simp at h
 rw [←h.2,setRm_len];exact Nat.le_refl _
theorem ok_rsetl:FpOk Tryz.prog 105 s_rsetl:=by
 refine fp_ok (s:=s_rsetl) (tab:=[(48,.fq s_rlines10),(49,.pu s_rof10)]) hmix (TabOk.cons (e:=.fq s_rlines10) ok_rlines10 (TabOk.cons (e:=.pu s_rof10) ok_rof10 TabOk.nil)) Tryz.func105 rfl Tryz.results105 Tryz.ntmps105 (by kernel_rfl) (by kernel_rfl) len_rsetl ?_
 intro args H v H1 h hargs hH
 unfold s_rsetl at h
 split at h
 ·rename_i x i cs
  split at h
  ·rename_i s hs
   split at h
   ·rename_i hln
    obtain ⟨L,hL,rfl⟩:=hln
    simp only [Option.some.injEq,Prod.mk.injEq] at h
    obtain ⟨rfl,rfl⟩:=h
    rw [lnT_of]
    refine ⟨by simp only [List.length_cons,List.length_nil];decide,?_⟩
    have hR:=ramQ_inv hs
    have p1:=fun X=>s_rlines10_eq (hR.app X)
    have oX:=fun X=>(hR.app X).o
    have mX:=fun X=>(hR.app X).m
    have lmid:=hR.lmid
    have lid:=hR.lid
    have bb:=fun M=>hR.bel hH (M:=M)
    have slf:=hR.self
    obtain ⟨rfl,ho,hm,hw,n1,n2⟩:=hR
    have lL:(lineC L).length=64:=by rw [lineC_len,hL]
    have tL:(lineC L).take 64=lineC L:=by rw [←lL,List.take_length]
    have aL:=ab_line hL Z64_len
    have sx:∀(X:AH) (o:AObj),(H++X).set s.mid o=H.set s.mid o++X:=fun X o=>List.set_append_left _ _ lmid
    cases hi:inN s.n i
    ·have e0:setRm H s i L=H:=by unfold setRm;rw [if_neg (by simp [hi])]
     rw [e0]
     by_cases h0:i < 0
     ·(repeat (first | simp (maxSteps:=9^9) only [go_sem,seval,s_rlines10_eq,s_rof10_eq,h0] | simp (disch:=omega) only [w64_d,ipos,ineg,dpos,dneg]))
      exact fin_fp rfl (subH_app _ _) hH (Nat.le_refl _)
     ·have h1:(s.n:Int)≤i:=by simp only [inN,Bool.and_eq_false_iff,decide_eq_false_iff_not] at hi;omega
      (repeat (first | simp (maxSteps:=9^9) only [go_sem,seval,s_rlines10_eq,s_rof10_eq,h0,h1,p1] | simp (disch:=omega) only [w64_d,ipos,ineg,dpos,dneg]))
      exact fin_fp rfl (subH_app _ _) hH (Nat.le_refl _)
    ·obtain ⟨k,rfl,hk⟩:=inN_nat hi
     have e0:setRm H s k L=H.set s.mid (mapO (stE s.M k L)):=by unfold setRm;rw [if_pos hi];rfl
     have h0:¬(k:Int) < 0:=by omega
     have h1:¬(s.n:Int)≤(k:Int):=by omega
     have hc:(0:Int)≤k∧(k:Int)≤4096:=by omega
     have f1:=find_ram (i:=k) (E:=s.M.2) (k:=0)
     rw [e0]
     by_cases hz:L=Z64
     ·subst hz
      have e1:stE s.M k Z64=delE s.M k:=by unfold stE;rw [if_pos rfl]
      rw [e1]
      cases hl:lookE s.M.2 k 0 with
      | none =>
        rw [hl] at f1
        simp only [Option.map_none] at f1
        have e2:delE s.M k=s.M:=by unfold delE;rw [hl]
        rw [e2,slf]
        (repeat (first | simp (maxSteps:=9^9) only [go_sem,seval,s_rlines10_eq,s_rof10_eq,zRow_ln,h0,h1,p1,oX,mX,mapO,hc,f1,kOk_key,Int.toNat_natCast,lL,tL,aL] | simp (disch:=omega) only [w64_d,ipos,ineg,dpos,dneg]))
        exact fin_fp rfl (subH_app _ _) hH (Nat.le_refl _)
      | some p =>
        rw [hl] at f1
        simp only [Option.map_some] at f1
        obtain ⟨j,L2⟩:=p
        have e2:=ent_del hl
        have b2:=bb (delE s.M k)
        rw [←e2] at b2 ⊢
        (repeat (first | simp (maxSteps:=9^9) only [go_sem,seval,s_rlines10_eq,s_rof10_eq,zRow_ln,h0,h1,p1,oX,mX,mapO,hc,f1,kOk_key,Int.toNat_natCast,lL,tL,aL,sx] | simp (disch:=omega) only [w64_d,ipos,ineg,dpos,dneg]))
        exact ⟨by repeat' first | apply And.intro | (intro _;kernel_rfl) | kernel_rfl,fin_fp rfl (subH_app _ _) b2 (by simp)⟩
     ·have e1:stE s.M k L=setE s.M k L:=by unfold stE;rw [if_neg hz]
      rw [e1]
      cases hl:lookE s.M.2 k 0 with
      | none =>
        rw [hl] at f1
        simp only [Option.map_none] at f1
        have e2:=ent_new (L:=L) hl
        have b2:=bb (setE s.M k L)
        rw [←e2] at b2 ⊢
        (repeat (first | simp (maxSteps:=9^9) only [go_sem,seval,s_rlines10_eq,s_rof10_eq,zRow_ln,h0,h1,p1,oX,mX,mapO,hc,f1,kOk_key,Int.toNat_natCast,lL,tL,aL,hz,sx] | simp (disch:=omega) only [w64_d,ipos,ineg,dpos,dneg]))
        exact ⟨by repeat' first | apply And.intro | (intro _;kernel_rfl) | kernel_rfl,fin_fp rfl (subH_app _ _) b2 (by simp)⟩
      | some p =>
        rw [hl] at f1
        simp only [Option.map_some] at f1
        obtain ⟨j,L2⟩:=p
        have e2:=ent_upd (L:=L) hl
        have b2:=bb (setE s.M k L)
        rw [←e2] at b2 ⊢
        (repeat (first | simp (maxSteps:=9^9) only [go_sem,seval,s_rlines10_eq,s_rof10_eq,zRow_ln,h0,h1,p1,oX,mX,mapO,hc,f1,kOk_key,Int.toNat_natCast,lL,tL,aL,hz,sx] | simp (disch:=omega) only [w64_d,ipos,ineg,dpos,dneg]))
        exact ⟨by repeat' first | apply And.intro | (intro _;kernel_rfl) | kernel_rfl,fin_fp rfl (subH_app _ _) b2 (by simp)⟩
   ·simp at h
  ·simp at h
 ·simp at h
theorem zl64:(lineC Z64).length=64:=by rw [lineC_len,Z64_len]
theorem dz64:(lineC Z64).drop 64=[]:=List.drop_eq_nil_of_le (Nat.le_of_eq zl64)
theorem base_nat {a:BitVec 64} (h:2147483648≤a.toNat):(a - 2147483648#64).toNat=offN a:=by
 have e:(2147483648#64).toNat=2147483648:=rfl
 rw [offN_eq]
 rw [BitVec.toNat_sub,e]
 have:=a.isLt
 omega
def s_rhas10 (args:List AV) (H:AH):Option AV :=
 match args with
 | [.c x,.c (.u a),.c (.i n)]=>match ramQ H x with
   | some s=>if inR n then some (.c (.b (hasB s.n a n))) else none
   | none=>none
 | _=>none
theorem s_rhas10_eq {H:AH} {x:Sc} {a:BitVec 64} {n:Int} {s:RamS} (h:RamIs H x s) (hn:inR n):s_rhas10 [.c x,.c (.u a),.c (.i n)] H=some (.c (.b (hasB s.n a n))):=by simp only [s_rhas10,ramQ_of h,hn,if_true]
theorem ok_rhas10:FpOk Tryz.prog 55 (fun args H=>(s_rhas10 args H).map fun v=>(v,H)):=by
 refine fq_ok (s:=s_rhas10) (tab:=[(48,.fq s_rlines10)]) hmix (TabOk.cons (e:=.fq s_rlines10) ok_rlines10 TabOk.nil) Tryz.func55 rfl Tryz.results55 Tryz.ntmps55 (by kernel_rfl) (by kernel_rfl) ?_
 intro args H v h hargs hH
 unfold s_rhas10 at h
 split at h
 ·rename_i x a n
  split at h
  ·rename_i s hs
   split at h
   ·rename_i hn
    simp only [Option.some.injEq] at h
    subst h
    refine ⟨by simp only [List.length_cons,List.length_nil];decide,rfl,?_⟩
    have hR:=ramQ_inv hs
    have p1:=s_rlines10_eq hR
    obtain ⟨i1,i2⟩:=hn
    have n1:=hR.n1
    have n2:=hR.n2
    by_cases h1:n < 1
    ·have e:hasB s.n a n=false:=by unfold hasB;rw [decide_eq_false (by omega)];rfl
     (repeat (first | simp (maxSteps:=9^9) only [go_sem,seval,s_rlines10_eq,h1,e] | simp (disch:=omega) only [w64_d,ipos,ineg,dpos,dneg]))
     exact subH_refl _
    have eb:(a < 2147483648#64)=(a.toNat < 2147483648):=by rw [BitVec.lt_def];rfl
    by_cases h2:a.toNat < 2147483648
    ·have e:hasB s.n a n=false:=by unfold hasB;rw [decide_eq_false (show ¬2147483648≤a.toNat by omega)];simp
     (repeat (first | simp (maxSteps:=9^9) only [go_sem,seval,s_rlines10_eq,h1,eb,h2,e] | simp (disch:=omega) only [w64_d,ipos,ineg,dpos,dneg]))
     exact subH_refl _
    have h3:=base_nat (a:=a) (by omega)
    have e0:(BitVec.ofInt 64 (s.n:Int) * 64#64).toNat=64 * s.n:=by
     rw [BitVec.toNat_mul,BitVec.toNat_ofInt]
     have:(64#64).toNat=64:=rfl
     rw [this];omega
    have e1:(a - 2147483648#64 < BitVec.ofInt 64 (s.n:Int) * 64#64)=(offN a < 64 * s.n):=by rw [BitVec.lt_def,h3,e0]
    by_cases h4:offN a < 64 * s.n
    ·have e3:(BitVec.ofInt 64 n).toNat=n.toNat:=by rw [BitVec.toNat_ofInt];omega
     have e2:(BitVec.ofInt 64 n≤BitVec.ofInt 64 (s.n:Int) * 64#64 - (a - 2147483648#64))=(n≤((64 * s.n - offN a:Nat):Int)):=by
      rw [BitVec.le_def,BitVec.toNat_sub,h3,e0,e3]
      apply propext
      omega
     have e:hasB s.n a n=decide (n≤((64 * s.n - offN a:Nat):Int)):=by unfold hasB;rw [decide_eq_true (by omega),decide_eq_true (by omega),decide_eq_true h4];simp
     (repeat (first | simp (maxSteps:=9^9) only [go_sem,seval,s_rlines10_eq,h1,eb,h2,e1,h4,p1,e2,e] | simp (disch:=omega) only [w64_d,ipos,ineg,dpos,dneg]))
     exact subH_refl _
    ·have e:hasB s.n a n=false:=by unfold hasB;rw [decide_eq_false h4];simp
     (repeat (first | simp (maxSteps:=9^9) only [go_sem,seval,s_rlines10_eq,h1,eb,h2,e1,h4,p1,e] | simp (disch:=omega) only [w64_d,ipos,ineg,dpos,dneg]))
     exact subH_refl _
   ·simp at h
  ·simp at h
 ·simp at h
def inMem (a:BitVec 64):Bool:=decide (2147483648≤a.toNat) && decide (offN a < 262144)
theorem hasB_mem {N:Nat} {a:BitVec 64} {n:Int} (hN:N≤4096) (h:hasB N a n=true):inMem a=true:=by
 rw [hasB_iff] at h
 simp only [inMem,Bool.and_eq_true,decide_eq_true_eq]
 omega
def s_rspl10 (args:List AV):Option AV :=
 match args with
 | [.c (.u a),.c (.i n)]=>if inMem a=true then some (.t [.c (.i ((offN a / 64:Nat):Int)),.c (.i ((offN a % 64:Nat):Int)),.c (.i (min n ((64 - offN a % 64:Nat):Int)))]) else none
 | _=>none
theorem s_rspl10_eq {a n}:s_rspl10 [.c (.u a),.c (.i n)]=if inMem a=true then some (.t [.c (.i ((offN a / 64:Nat):Int)),.c (.i ((offN a % 64:Nat):Int)),.c (.i (min n ((64 - offN a % 64:Nat):Int)))]) else none:=rfl
theorem ok_rspl10:PuOk Tryz.prog 101 s_rspl10:=by
 refine pu_ok (tab:=[]) hmix TabOk.nil Tryz.func101 rfl Tryz.results101 Tryz.ntmps101 (by kernel_rfl) (by kernel_rfl) ?_
 intro args v h
 unfold s_rspl10 at h
 split at h
 ·rename_i a n
  split at h
  ·rename_i hc
   simp only [Option.some.injEq] at h;subst h
   refine ⟨by simp only [List.length_cons,List.length_nil];decide,rfl,rfl,?_⟩
   simp only [inMem,Bool.and_eq_true,decide_eq_true_eq] at hc
   have h3:=base_nat (a:=a) (by omega)
   have e0:(a - 2147483648#64).toInt=(offN a:Int):=by rw [BitVec.toInt_eq_toNat_cond,h3,if_pos (by omega)]
   have e1:w64 ((offN a:Int).tdiv 64)=((offN a / 64:Nat):Int):=by rw [Int.tdiv_eq_ediv_of_nonneg (by omega),w64_d (by omega) (by omega)];omega
   have e2:(offN a:Int).tmod 64=((offN a % 64:Nat):Int):=by rw [Int.tmod_eq_emod_of_nonneg (by omega)];omega
   have e3:w64 (64 - ((offN a % 64:Nat):Int))=((64 - offN a % 64:Nat):Int):=by rw [w64_d (by omega) (by omega)];omega
   (repeat (first | simp (maxSteps:=9^9) only [go_sem,seval,e0,e1,e2,e3] | simp (disch:=omega) only [w64_d,ipos,ineg,dpos,dneg]))
  ·simp at h
 ·simp at h
def ldB (s:RamS) (a:BitVec 64) (n:Int):Bool:=decide (n≤8) && hasB s.n a n
def ldU (s:RamS) (a:BitVec 64) (n:Int):BitVec 64:=if ldB s a n=true then rdB (memB s.M.2) (offN a) n.toNat else 0#64
def s_rload10 (args:List AV) (H:AH):Option AV :=
 match args with
 | [.c x,.c (.u a),.c (.i n)]=>match ramQ H x with
   | some s=>if inR n then some (.t [.c (.u (ldU s a n)),.c (.b (ldB s a n))]) else none
   | none=>none
 | _=>none
theorem s_rload10_eq {H:AH} {x:Sc} {a:BitVec 64} {n:Int} {s:RamS} (h:RamIs H x s) (hn:inR n):s_rload10 [.c x,.c (.u a),.c (.i n)] H=some (.t [.c (.u (ldU s a n)),.c (.b (ldB s a n))]):=by simp only [s_rload10,ramQ_of h,hn,if_true]
theorem lineI_in {s:RamS} {k:Nat} (h:k < s.n):lineI s (k:Int)=lineE s.M.2 k:=by
 unfold lineI
 rw [if_pos (by simp only [inN,Bool.and_eq_true,decide_eq_true_eq];omega)];rfl
theorem ok_rload10:FpOk Tryz.prog 58 (fun args H=>(s_rload10 args H).map fun v=>(v,H)):=by
 refine fq_ok (s:=s_rload10) (tab:=[(55,.fq s_rhas10),(101,.pu s_rspl10),(18,.fq s_rline10),(102,.pu s_lget)]) hmix (TabOk.cons (e:=.fq s_rhas10) ok_rhas10 (TabOk.cons (e:=.pu s_rspl10) ok_rspl10 (TabOk.cons (e:=.fq s_rline10) ok_rline10 (TabOk.cons (e:=.pu s_lget) ok_lget TabOk.nil)))) Tryz.func58 rfl Tryz.results58 Tryz.ntmps58 (by kernel_rfl) (by kernel_rfl) ?_
 intro args H v h hargs hH
 unfold s_rload10 at h
 split at h
 ·rename_i x a n
  split at h
  ·rename_i s hs
   split at h
   ·rename_i hn
    simp only [Option.some.injEq] at h
    subst h
    refine ⟨by simp only [List.length_cons,List.length_nil];decide,rfl,?_⟩
    have hR:=ramQ_inv hs
    have p1:=s_rhas10_eq (a:=a) hR hn
    have p2:=fun i=>s_rline10_eq (i:=i) hR
    have n1:=hR.n1
    have n2:=hR.n2
    by_cases h1:8 < n
    ·have e:ldB s a n=false:=by unfold ldB;rw [decide_eq_false (by omega)];rfl
     (repeat (first | simp (maxSteps:=9^9) only [go_sem,seval,h1,e,ldU] | simp (disch:=omega) only [w64_d,ipos,ineg,dpos,dneg]))
     exact subH_refl _
    cases h2:hasB s.n a n
    ·have e:ldB s a n=false:=by unfold ldB;rw [h2];simp
     (repeat (first | simp (maxSteps:=9^9) only [go_sem,seval,h1,p1,h2,e,ldU] | simp (disch:=omega) only [w64_d,ipos,ineg,dpos,dneg]))
     exact subH_refl _
    ·have e:ldB s a n=true:=by unfold ldB;rw [h2,decide_eq_true (by omega)];rfl
     have hm:=hasB_mem n2 h2
     have h2':=h2
     rw [hasB_iff] at h2'
     obtain ⟨m,rfl⟩:=Int.eq_ofNat_of_zero_le (show 0≤n by omega)
     have eU:ldU s a m=rdB (memB s.M.2) (offN a) m:=by unfold ldU;rw [if_pos e];rfl
     rw [e,eU]
     have l1:=lineI_in (s:=s) (k:=offN a / 64) (by omega)
     have iL:∀i,isLn (lineC (lineE s.M.2 i)):=fun i=>⟨_,lineE_len hR.w,rfl⟩
     by_cases h3:offN a % 64+m≤64
     ·have e3:min (m:Int) ((64 - offN a % 64:Nat):Int)=m:=by omega
      have f1:=lfB_of (a:=offN a % 64) (n:=m) (by omega) (by omega) h3
      have g1:lgetU (lineC (lineE s.M.2 (offN a / 64))) ((offN a % 64:Nat):Int) m=rdB (memB s.M.2) (offN a) m:=by
       unfold lgetU
       rw [if_pos f1,lnT_of,Int.toNat_natCast,Int.toNat_natCast,getN_rd h3 (by omega),show 64 * (offN a / 64)+offN a % 64=offN a by omega]
      (repeat (first | simp (maxSteps:=9^9) only [go_sem,seval,s_rhas10_eq,s_rspl10_eq,s_rline10_eq,s_lget_eq,h1,p1,h2,hm,e3,p2,l1,iL,f1,g1] | simp (disch:=omega) only [w64_d,ipos,ineg,dpos,dneg]))
      exact subH_refl _
     ·obtain ⟨k,hk⟩:∃k,k=64 - offN a % 64:=⟨_,rfl⟩
      have e3:min (m:Int) ((64 - offN a % 64:Nat):Int)=k:=by omega
      have l2:=lineI_in (s:=s) (k:=offN a / 64+1) (by omega)
      have f1:=lfB_of (a:=offN a % 64) (n:=k) (by omega) (by omega) (by omega)
      have f2:=lfB_of (a:=0) (n:=m - k) (by omega) (by omega) (by omega)
      have e4:w64 (((offN a / 64:Nat):Int)+1)=((offN a / 64+1:Nat):Int):=by rw [w64_d (by omega) (by omega)];omega
      have e5:w64 ((m:Int) - (k:Int))=((m - k:Nat):Int):=by rw [w64_d (by omega) (by omega)];omega
      have e6:¬((k:Int)=(m:Int)):=by omega
      have e7:w64 (8 * (k:Int))=((8 * k:Nat):Int):=by rw [w64_d (by omega) (by omega)];omega
      have e8:(BitVec.ofInt 64 ((8 * k:Nat):Int)).toNat=8 * k:=ofI_nat (by omega)
      have g1:lgetU (lineC (lineE s.M.2 (offN a / 64))) ((offN a % 64:Nat):Int) k=rdB (memB s.M.2) (offN a) k:=by
       unfold lgetU
       rw [if_pos f1,lnT_of,Int.toNat_natCast,Int.toNat_natCast,getN_rd (by omega) (by omega),show 64 * (offN a / 64)+offN a % 64=offN a by omega]
      have g2:lgetU (lineC (lineE s.M.2 (offN a / 64+1))) 0 ((m - k:Nat):Int)=rdB (memB s.M.2) (offN a+k) (m - k):=by
       unfold lgetU
       have f2':=f2
       rw [show ((0:Nat):Int)=0 from rfl] at f2'
       rw [if_pos f2',lnT_of,Int.toNat_natCast,show (0:Int).toNat=0 from rfl,getN_rd (by omega) (by omega),show 64 * (offN a / 64+1)+0=offN a+k by omega]
      have g3:=rd_two (B:=memB s.M.2) (a:=offN a) (m:=k) (n:=m) (by omega) (by omega)
      rw [show ((0:Nat):Int)=0 from rfl] at f2
      (repeat (first | simp (maxSteps:=9^9) only [go_sem,seval,s_rhas10_eq,s_rspl10_eq,s_rline10_eq,s_lget_eq,h1,p1,h2,hm,e3,p2,l1,l2,iL,f1,f2,e4,e5,e6,e7,e8,g1,g2,g3] | simp (disch:=omega) only [w64_d,ipos,ineg,dpos,dneg]))
      exact subH_refl _
   ·simp at h
  ·simp at h
 ·simp at h
def stH (H:AH) (s:RamS) (a:BitVec 64) (n:Int) (v:BitVec 64):AH:=if ldB s a n=true then H.set s.mid (mapO (stM s.M (offN a) n.toNat v)) else H
theorem stH_len {H:AH} {s:RamS} {a:BitVec 64} {n:Int} {v:BitVec 64}:(stH H s a n v).length=H.length:=by unfold stH;split <;> simp
def s_rstore10 (args:List AV) (H:AH):Option (AV × AH) :=
 match args with
 | [.c x,.c (.u a),.c (.i n),.c (.u v)]=>match ramQ H x with
   | some s=>if inR n then some (.c (.b (ldB s a n)),stH H s a n v) else none
   | none=>none
 | _=>none
theorem s_rstore10_eq {H:AH} {x:Sc} {a v:BitVec 64} {n:Int} {s:RamS} (h:RamIs H x s) (hn:inR n):s_rstore10 [.c x,.c (.u a),.c (.i n),.c (.u v)] H=some (.c (.b (ldB s a n)),stH H s a n v):=by simp only [s_rstore10,ramQ_of h,hn,if_true]
theorem len_rstore10 (args:List AV) (H:AH) (v:AV) (H1:AH) (h:s_rstore10 args H=some (v,H1)):H.length≤H1.length:=by
 unfold s_rstore10 at h
 repeat' split at h
 all_goals simp at h
 rw [←h.2,stH_len];exact Nat.le_refl _
theorem ok_rstore10:FpOk Tryz.prog 60 s_rstore10:=by
 refine fp_ok (s:=s_rstore10) (tab:=[(55,.fq s_rhas10),(101,.pu s_rspl10),(18,.fq s_rline10),(104,.pu s_lput),(105,.fp s_rsetl)]) hmix (TabOk.cons (e:=.fq s_rhas10) ok_rhas10 (TabOk.cons (e:=.pu s_rspl10) ok_rspl10 (TabOk.cons (e:=.fq s_rline10) ok_rline10 (TabOk.cons (e:=.pu s_lput) ok_lput (TabOk.cons (e:=.fp s_rsetl) ok_rsetl TabOk.nil))))) Tryz.func60 rfl Tryz.results60 Tryz.ntmps60 (by kernel_rfl) (by kernel_rfl) len_rstore10 ?_
 intro args H v H1 h hargs hH
 unfold s_rstore10 at h
 split at h
 ·rename_i x a n v
  split at h
  ·rename_i s hs
   split at h
   ·rename_i hn
    simp only [Option.some.injEq,Prod.mk.injEq] at h
    obtain ⟨rfl,rfl⟩:=h
    refine ⟨by simp only [List.length_cons,List.length_nil];decide,?_⟩
    have hR:=ramQ_inv hs
    have p1:=s_rhas10_eq (a:=a) hR hn
    have p2:=fun i=>s_rline10_eq (i:=i) hR
    have n1:=hR.n1
    have n2:=hR.n2
    by_cases h1:8 < n
    ·have e:ldB s a n=false:=by unfold ldB;rw [decide_eq_false (by omega)];rfl
     have e0:stH H s a n v=H:=by unfold stH;rw [if_neg (by simp [e])]
     rw [e0]
     (repeat (first | simp (maxSteps:=9^9) only [go_sem,seval,h1,e] | simp (disch:=omega) only [w64_d,ipos,ineg,dpos,dneg]))
     exact fin_fp rfl (subH_refl _) hH (Nat.le_refl _)
    cases h2:hasB s.n a n
    ·have e:ldB s a n=false:=by unfold ldB;rw [h2];simp
     have e0:stH H s a n v=H:=by unfold stH;rw [if_neg (by simp [e])]
     rw [e0]
     (repeat (first | simp (maxSteps:=9^9) only [go_sem,seval,h1,p1,h2,e] | simp (disch:=omega) only [w64_d,ipos,ineg,dpos,dneg]))
     exact fin_fp rfl (subH_refl _) hH (Nat.le_refl _)
    ·have e:ldB s a n=true:=by unfold ldB;rw [h2,decide_eq_true (by omega)];rfl
     have hm:=hasB_mem n2 h2
     have h2':=h2
     rw [hasB_iff] at h2'
     obtain ⟨m,rfl⟩:=Int.eq_ofNat_of_zero_le (show 0≤n by omega)
     have eU:stH H s a m v=H.set s.mid (mapO (stM s.M (offN a) m v)):=by unfold stH;rw [if_pos e];rfl
     rw [eU,e]
     have l1:=lineI_in (s:=s) (k:=offN a / 64) (by omega)
     have iL:∀i,isLn (lineC (lineE s.M.2 i)):=fun i=>⟨_,lineE_len hR.w,rfl⟩
     have z1:inN s.n ((offN a / 64:Nat):Int)=true:=by simp only [inN,Bool.and_eq_true,decide_eq_true_eq];omega
     have lmid:=hR.lmid
     have sx:∀(X:AH) (o:AObj),(H++X).set s.mid o=H.set s.mid o++X:=fun X o=>List.set_append_left _ _ lmid
     have pl:∀i o v n,(putN (lineE s.M.2 i) o v n).length=64:=fun i o v n=>by rw [putN_len];exact lineE_len hR.w
     have ll:∀{L:List (BitVec 8)},L.length=64→(lineC L).length=64∧(lineC L).all Sc.one=true∧(lineC L).take 64=lineC L∧(lineC L).drop 64=[]:=fun {L} h=>by
      have:(lineC L).length=64:=by rw [lineC_len,h]
      exact ⟨this,lineC_one,by rw [←this,List.take_length],List.drop_eq_nil_of_le (by omega)⟩
     by_cases h3:offN a % 64+m≤64
     ·have e3:min (m:Int) ((64 - offN a % 64:Nat):Int)=m:=by omega
      have f1:=lfB_of (a:=offN a % 64) (n:=m) (by omega) (by omega) h3
      have g1:lputL (lineC (lineE s.M.2 (offN a / 64))) ((offN a % 64:Nat):Int) m v=lineC (putN (lineE s.M.2 (offN a / 64)) (offN a % 64) v m):=by
       unfold lputL
       rw [if_pos f1,lnT_of,Int.toNat_natCast,Int.toNat_natCast]
      have e4:stM s.M (offN a) m v=stE s.M (offN a / 64) (putN (lineE s.M.2 (offN a / 64)) (offN a % 64) v m):=by unfold stM;rw [if_neg (by omega)]
      have bb:=hR.bel hH (M:=stM s.M (offN a) m v)
      rw [e4] at bb ⊢
      obtain ⟨l5,o5,t5,d5⟩:=ll (pl (offN a / 64) (offN a % 64) v m)
      have q1:=fun X=>s_rsetl_eq (i:=((offN a / 64:Nat):Int)) (hR.app X) (pl (offN a / 64) (offN a % 64) v m)
      generalize putN (lineE s.M.2 (offN a / 64)) (offN a % 64) v m=L1 at *
      have q2:∀X,setRm (H++X) s ((offN a / 64:Nat):Int) L1=H.set s.mid (mapO (stE s.M (offN a / 64) L1))++X:=fun X=>by unfold setRm;rw [if_pos z1,sx];rfl
      simp only [q2] at q1
      (repeat (first | simp (maxSteps:=9^9) only [go_sem,seval,s_rhas10_eq,s_rspl10_eq,s_rline10_eq,s_lput_eq,s_rsetl_eq,h1,p1,h2,hm,e3,p2,l1,iL,f1,g1,zRow_ln,zl64,dz64,l5,o5,t5,d5,q1] | simp (disch:=omega) only [w64_d,ipos,ineg,dpos,dneg]))
      exact fin_fp rfl (subH_app _ _) bb (by simp)
     ·obtain ⟨k,hk⟩:∃k,k=64 - offN a % 64:=⟨_,rfl⟩
      have e3:min (m:Int) ((64 - offN a % 64:Nat):Int)=k:=by omega
      have l2:=fun M=>lineI_in (s:=s.to M) (k:=offN a / 64+1) (by simp only [RamS.to];omega)
      have f1:=lfB_of (a:=offN a % 64) (n:=k) (by omega) (by omega) (by omega)
      have f2:=lfB_of (a:=0) (n:=m - k) (by omega) (by omega) (by omega)
      have e4:w64 (((offN a / 64:Nat):Int)+1)=((offN a / 64+1:Nat):Int):=by rw [w64_d (by omega) (by omega)];omega
      have e5:w64 ((m:Int) - (k:Int))=((m - k:Nat):Int):=by rw [w64_d (by omega) (by omega)];omega
      have e6:(k:Int) < (m:Int):=by omega
      have e7:w64 (8 * (k:Int))=((8 * k:Nat):Int):=by rw [w64_d (by omega) (by omega)];omega
      have e8:(BitVec.ofInt 64 ((8 * k:Nat):Int)).toNat=8 * k:=ofI_nat (by omega)
      have eM:stM s.M (offN a) m v=stE (stE s.M (offN a / 64) (putN (lineE s.M.2 (offN a / 64)) (offN a % 64) v k)) (offN a / 64+1) (putN (lineE (stE s.M (offN a / 64) (putN (lineE s.M.2 (offN a / 64)) (offN a % 64) v k)).2 (offN a / 64+1)) 0 (v >>> (8 * k)) (m - k)):=by unfold stM;rw [if_pos (by omega),hk]
      have bb:=hR.bel hH (M:=stM s.M (offN a) m v)
      rw [eM] at bb ⊢
      have g1:lputL (lineC (lineE s.M.2 (offN a / 64))) ((offN a % 64:Nat):Int) k v=lineC (putN (lineE s.M.2 (offN a / 64)) (offN a % 64) v k):=by
       unfold lputL
       rw [if_pos f1,lnT_of,Int.toNat_natCast,Int.toNat_natCast]
      have w1:wfE s.n (stE s.M (offN a / 64) (putN (lineE s.M.2 (offN a / 64)) (offN a % 64) v k)):=wfE_put hR.w (by omega)
      obtain ⟨l5,o5,t5,d5⟩:=ll (pl (offN a / 64) (offN a % 64) v k)
      have q1:=fun X=>s_rsetl_eq (i:=((offN a / 64:Nat):Int)) (hR.app X) (pl (offN a / 64) (offN a % 64) v k)
      generalize putN (lineE s.M.2 (offN a / 64)) (offN a % 64) v k=L1 at *
      have q2:∀X,setRm (H++X) s ((offN a / 64:Nat):Int) L1=H.set s.mid (mapO (stE s.M (offN a / 64) L1))++X:=fun X=>by unfold setRm;rw [if_pos z1,sx];rfl
      simp only [q2] at q1
      generalize stE s.M (offN a / 64) L1=M1 at *
      have g2:lputL (lineC (lineE M1.2 (offN a / 64+1))) 0 ((m - k:Nat):Int) (v >>> (8 * k))=lineC (putN (lineE M1.2 (offN a / 64+1)) 0 (v >>> (8 * k)) (m - k)):=by
       unfold lputL
       have f2':=f2
       rw [show ((0:Nat):Int)=0 from rfl] at f2'
       rw [if_pos f2',lnT_of,Int.toNat_natCast];rfl
      have hR2:=hR.set w1
      have p3:=fun X i=>s_rline10_eq (i:=i) (hR2.app X)
      have iL2:∀i,isLn (lineC (lineE M1.2 i)):=fun i=>⟨_,lineE_len w1,rfl⟩
      have pl2:(putN (lineE M1.2 (offN a / 64+1)) 0 (v >>> (8 * k)) (m - k)).length=64:=by rw [putN_len];exact lineE_len w1
      obtain ⟨l6,o6,t6,d6⟩:=ll pl2
      have q3:=fun X=>s_rsetl_eq (i:=((offN a / 64+1:Nat):Int)) (hR2.app X) pl2
      have l3:=l2 M1
      rw [show (s.to M1).M=M1 from rfl] at l3
      generalize putN (lineE M1.2 (offN a / 64+1)) 0 (v >>> (8 * k)) (m - k)=L2 at *
      have q4:∀X,setRm (H.set s.mid (mapO M1)++X) (s.to M1) ((offN a / 64+1:Nat):Int) L2=H.set s.mid (mapO (stE M1 (offN a / 64+1) L2))++X:=fun X=>by
       have z2:inN (s.to M1).n ((offN a / 64+1:Nat):Int)=true:=by
        show inN s.n ((offN a / 64+1:Nat):Int)=true
        simp only [inN,Bool.and_eq_true,decide_eq_true_eq];omega
       unfold setRm;rw [if_pos z2];simp only [RamS.to,Int.toNat_natCast]
       rw [List.set_append_left _ _ (by rw [List.length_set];exact lmid),List.set_set]
      simp only [q4] at q3
      have hl:(H.set s.mid (mapO M1)).length=H.length:=List.length_set
      have hg1:∀o,hg (H.set s.mid (mapO M1)++[o]) H.length=o:=fun o=>by rw [←hl,hg_len];rfl
      have hs1:∀o p,(H.set s.mid (mapO M1)++[o]).set H.length p=H.set s.mid (mapO M1)++[p]:=fun o p=>by rw [←hl,set_len];rfl
      rw [show ((0:Nat):Int)=0 from rfl] at f2
      generalize stE M1 (offN a / 64+1) L2=M2 at *
      (repeat (first | simp (maxSteps:=9^9) only [go_sem,seval,s_rhas10_eq,s_rspl10_eq,s_rline10_eq,s_lput_eq,s_rsetl_eq,h1,p1,h2,hm,e3,p2,l1,iL,f1,f2,e4,e5,e6,e7,e8,g1,zRow_ln,zl64,dz64,l5,o5,t5,d5,q1,p3,l3,iL2,g2,l6,o6,t6,d6,q3,hg1,hs1] | simp (disch:=omega) only [w64_d,ipos,ineg,dpos,dneg]))
      exact fin_fp rfl (subH_app _ _) bb (by simp)
   ·simp at h
  ·simp at h
 ·simp at h
end
end Go.Proofs.YteclombpnhociaaGreat
set_option maxRecDepth 100000
set_option maxHeartbeats 8000000
namespace Go.Proofs.YteclombpnhociaaGreat
open Go.Am
set_option linter.unusedSimpArgs false
set_option linter.unusedVariables false
noncomputable section
def byP (B:Int→BitVec 64) (c:Int) (l:List Pc) (i:Nat):List Pc :=
 match l.getLast? with
 | some p=>if (i:Int)≠c∧B i / 64#64=p.a / 64#64 then l.dropLast++[⟨p.a,p.n+1,p.s⟩] else l++[⟨B i,1,8 * i⟩]
 | none=>l++[⟨B i,1,8 * i⟩]
def byL (B:Int→BitVec 64) (c:Int):Nat→List Pc
 | 0=>[]
 | i+1=>byP B c (byL B c i) i
end
end Go.Proofs.YteclombpnhociaaGreat
set_option maxRecDepth 100000
set_option maxHeartbeats 8000000
namespace Go.Proofs.YteclombpnhociaaGreat
open Go.Am
set_option linter.unusedSimpArgs false
set_option linter.unusedVariables false
noncomputable section
section
variable {α:Type}
def insK (lt:α→α→Bool) (x:α) (P:List α):Nat:=(P.reverse.takeWhile fun y=>lt x y).length
def insR (lt:α→α→Bool) (x:α) (P:List α):List α:=P.take (P.length - insK lt x P)++x::P.drop (P.length - insK lt x P)
def preS (lt:α→α→Bool) (A:List α):Nat→List α
 | 0=>[]
 | i+1=>match A[i]? with
   | some x=>insR lt x (preS lt A i)
   | none=>preS lt A i
def srt (lt:α→α→Bool) (A:List α):List α:=preS lt A A.length
theorem tw_len {p:α→Bool}:∀(l:List α),(l.takeWhile p).length≤l.length
 | []=>Nat.le_refl _
 | x::l=>by
   rw [List.takeWhile_cons]
   split
   ·simp only [List.length_cons];have:=tw_len (p:=p) l;omega
   ·simp
theorem insK_le {lt:α→α→Bool} {x:α} {P:List α}:insK lt x P≤P.length:=by
 unfold insK;have:=tw_len (p:=fun y=>lt x y) P.reverse;simpa using this
theorem insR_len {lt:α→α→Bool} {x:α} {P:List α}:(insR lt x P).length=P.length+1:=by
 unfold insR;simp;omega
theorem preS_len {lt:α→α→Bool} {A:List α}:∀{i:Nat},i≤A.length→(preS lt A i).length=i
 | 0,_=>rfl
 | i+1,h=>by
   have:A[i]?=some A[i]:=List.getElem?_eq_getElem (by omega)
   simp only [preS,this,insR_len,preS_len (show i≤A.length by omega)]
theorem tw_get {p:α→Bool}:∀{l:List α} {k:Nat} {y:α},k < (l.takeWhile p).length→l[k]?=some y→p y=true
 | [],k,y,h,_=>by simp at h
 | x::l,k,y,h,hy=>by
   rw [List.takeWhile_cons] at h
   split at h
   ·cases k with
    | zero=>simp at hy;subst hy;assumption
    | succ k=>exact tw_get (l:=l) (k:=k) (by simpa using h) (by simpa using hy)
   ·simp at h
theorem tw_end {p:α→Bool}:∀{l:List α} {y:α},l[(l.takeWhile p).length]?=some y→p y=false
 | [],y,h=>by simp at h
 | x::l,y,h=>by
   rw [List.takeWhile_cons] at h
   split at h
   ·exact tw_end (l:=l) (by simpa using h)
   ·rename_i hp;simp at h;subst h;simpa using hp
theorem insK_get {lt:α→α→Bool} {x:α} {P:List α} {k:Nat} {y:α} (h:k < insK lt x P) (hy:P[P.length - 1 - k]?=some y):lt x y=true:=by
 have hl:=insK_le (lt:=lt) (x:=x) (P:=P)
 refine tw_get (p:=fun y=>lt x y) (l:=P.reverse) (k:=k) h ?_
 rw [List.getElem?_reverse (by omega)];exact hy
theorem insK_end {lt:α→α→Bool} {x:α} {P:List α} {y:α} (h:insK lt x P < P.length) (hy:P[P.length - 1 - insK lt x P]?=some y):lt x y=false:=by
 refine tw_end (p:=fun y=>lt x y) (l:=P.reverse) ?_
 show P.reverse[insK lt x P]?=_
 rw [List.getElem?_reverse h];exact hy
def mvS (P:List α) (x:α) (R:List α) (k:Nat):List α:=P.take (P.length - k)++x::(P.drop (P.length - k)++R)
theorem mvS_len {P R:List α} {x:α} {k:Nat}:(mvS P x R k).length=P.length+1+R.length:=by simp [mvS];omega
theorem mvS_x {P R:List α} {x:α} {k:Nat} (h:k≤P.length):(mvS P x R k)[P.length - k]?=some x:=by
 unfold mvS
 rw [List.getElem?_append_right (by simp),show P.length - k - (P.take (P.length - k)).length=0 by simp];rfl
theorem mvS_y {P R:List α} {x:α} {k:Nat} (h:k < P.length):(mvS P x R k)[P.length - k - 1]?=P[P.length - 1 - k]?:=by
 unfold mvS
 rw [List.getElem?_append_left (by simp;omega),List.getElem?_take_of_lt (by omega)];congr 1;omega
theorem mvS_step {P R:List α} {x y:α} {k:Nat} (h:k < P.length) (hy:P[P.length - 1 - k]?=some y):((mvS P x R k).set (P.length - k) y).set (P.length - k - 1) x=mvS P x R (k+1):=by
 have hj:P.length - 1 - k < P.length:=by omega
 have hyy:P[P.length - 1 - k]=y:=by rw [List.getElem?_eq_getElem hj] at hy;simpa using hy
 have e1:P.take (P.length - k)=P.take (P.length - (k+1))++[y]:=by
  have:P.length - k=P.length - (k+1)+1:=by omega
  rw [this,List.take_succ_eq_append_getElem (by omega)]
  have e:P.length - (k+1)=P.length - 1 - k:=by omega
  simp only [e,hyy]
 have e2:P.drop (P.length - (k+1))=y::P.drop (P.length - k):=by
  rw [List.drop_eq_getElem_cons (by omega)]
  have e:P.length - (k+1)=P.length - 1 - k:=by omega
  have e':P.length - 1 - k+1=P.length - k:=by omega
  simp only [e,e',hyy]
 unfold mvS
 rw [e1,e2]
 have l1:(P.take (P.length - (k+1))).length=P.length - k - 1:=by simp;omega
 generalize P.take (P.length - (k+1))=T at l1 ⊢
 have l2:P.length - k=T.length+1:=by omega
 have l3:P.length - k - 1=T.length:=by omega
 rw [l3,l2]
 simp [List.set_append]
def rwS (lt:α→α→Bool) (A:List α) (i:Nat):List α:=preS lt A i++A.drop i
theorem rwS_1 {lt:α→α→Bool} {A:List α}:rwS lt A 1=A:=by
 cases A with
 | nil=>rfl
 | cons x l=>simp [rwS,preS,insR,insK]
theorem rwS_mv {lt:α→α→Bool} {A:List α} {i:Nat} {x:α} (hx:A[i]?=some x):rwS lt A i=mvS (preS lt A i) x (A.drop (i+1)) 0:=by
 have hi:i < A.length:=by
  rcases Nat.lt_or_ge i A.length with h | h
  ·exact h
  ·rw [List.getElem?_eq_none h] at hx;simp at hx
 unfold rwS mvS
 rw [List.drop_eq_getElem_cons hi,Nat.sub_zero,List.take_length,List.drop_length]
 rw [List.getElem?_eq_getElem hi] at hx
 simp only [Option.some.injEq] at hx
 rw [hx];rfl
theorem rwS_end {lt:α→α→Bool} {A:List α} {i:Nat} {x:α} (hx:A[i]?=some x):mvS (preS lt A i) x (A.drop (i+1)) (insK lt x (preS lt A i))=rwS lt A (i+1):=by
 unfold rwS mvS
 simp only [preS,hx,insR,List.append_assoc,List.cons_append]
theorem rwS_all {lt:α→α→Bool} {A:List α}:rwS lt A A.length=srt lt A:=by simp [rwS,srt]
theorem srt_len {lt:α→α→Bool} {A:List α}:(srt lt A).length=A.length:=preS_len (Nat.le_refl _)
variable [DecidableEq α]
def twB (A:List α) (i:Nat):Bool:=decide (0 < i∧A[i]?=A[i - 1]?)
def ddN (A:List α):Nat→List α
 | 0=>[]
 | m+1=>match A[m]? with
   | some x=>if twB A m=true then ddN A m else ddN A m++[x]
   | none=>ddN A m
def ddp (A:List α):List α:=ddN A A.length
theorem ddN_le {A:List α}:∀{m:Nat},(ddN A m).length≤m
 | 0=>Nat.le_refl _
 | m+1=>by
   have:=ddN_le (A:=A) (m:=m)
   simp only [ddN]
   split
   ·split
    ·omega
    ·simp;omega
   ·omega
theorem ddN_lt {A:List α} {K:Nat} (hK:twB A K=true) (hl:K < A.length):∀{m:Nat},K < m→(ddN A m).length < m
 | 0,h=>by omega
 | m+1,h=>by
   have h1:=ddN_le (A:=A) (m:=m)
   simp only [ddN]
   split
   ·split
    ·omega
    ·rename_i h2
     have hm:K < m:=by
      rcases Nat.lt_or_ge K m with h3 | h3
      ·exact h3
      ·obtain rfl:K=m:=by omega
       exact (h2 hK).elim
     have:=ddN_lt hK hl hm
     simp;omega
   ·omega
theorem ddN_take {A:List α}:∀{m:Nat},m≤A.length→(∀i,i < m→twB A i=false)→ddN A m=A.take m
 | 0,_,_=>by simp [ddN]
 | m+1,h,hn=>by
   have e:A[m]?=some A[m]:=List.getElem?_eq_getElem (by omega)
   simp only [ddN,e,hn m (by omega),Bool.false_eq_true,if_false]
   rw [ddN_take (by omega) fun i hi=>hn i (by omega),List.take_succ_eq_append_getElem (by omega)]
def rwD (A:List α) (m:Nat):List α:=ddN A m++A.drop (ddN A m).length
theorem rwD_len {A:List α} {m:Nat} (h:m≤A.length):(rwD A m).length=A.length:=by
 have:=ddN_le (A:=A) (m:=m);simp [rwD];omega
theorem rwD_get {A:List α} {m i:Nat} (h:(ddN A m).length≤i):(rwD A m)[i]?=A[i]?:=by
 unfold rwD
 rw [List.getElem?_append_right h,List.getElem?_drop];congr 1;omega
theorem rwD_step {A:List α} {m:Nat} {x:α} (hx:A[m]?=some x) (hn:twB A m=false) (hl:(ddN A m).length < A.length):(rwD A m).set (ddN A m).length x=rwD A (m+1):=by
 have e:ddN A (m+1)=ddN A m++[x]:=by simp only [ddN,hx,hn,Bool.false_eq_true,if_false]
 unfold rwD
 rw [e,List.set_append_right _ _ (Nat.le_refl _),Nat.sub_self,List.append_assoc,List.length_append]
 congr 1
 rw [List.drop_eq_getElem_cons hl]
 rfl
theorem rwD_same {A:List α} {m:Nat} {x:α} (hx:A[m]?=some x) (hn:twB A m=true):rwD A (m+1)=rwD A m:=by
 unfold rwD;simp only [ddN,hx,hn,if_true]
end
structure Lin {α:Type} (lt:α→α→Bool):Prop where
 irr:∀x,lt x x=false
 tr:∀x y z,lt x y=true→lt y z=true→lt x z=true
 tot:∀x y,lt x y=false→lt y x=false→x=y
section
variable {α:Type} {lt:α→α→Bool}
theorem Lin.asym (h:Lin lt) {x y:α} (hx:lt x y=true):lt y x=false:=by
 cases e:lt y x with
 | false=>rfl
 | true=>have:=h.tr _ _ _ hx e;rw [h.irr] at this;exact this.symm
theorem Lin.le_lt (h:Lin lt) {x y z:α} (h1:lt y x=false) (h2:lt y z=true):lt x z=true:=by
 cases e:lt x y with
 | true=>exact h.tr _ _ _ e h2
 | false=>rw [h.tot _ _ e h1];exact h2
theorem Lin.le_le (h:Lin lt) {x y z:α} (h1:lt y x=false) (h2:lt z y=false):lt z x=false:=by
 cases e:lt z x with
 | false=>rfl
 | true =>
   have:=h.le_lt h2 e
   rw [h1] at this;simp at this
theorem strict_uniq (h:Lin lt):∀{L M:List α},L.Pairwise (fun x y=>lt x y=true)→M.Pairwise (fun x y=>lt x y=true)→(∀x,x∈L ↔ x∈M)→L=M
 | [],[],_,_,_=>rfl
 | [],y::M,_,_,hm=>by have:=(hm y).2 (by simp);simp at this
 | x::L,[],_,_,hm=>by have:=(hm x).1 (by simp);simp at this
 | x::L,y::M,h1,h2,hm=>by
   rw [List.pairwise_cons] at h1 h2
   have exy:x=y:=by
    have a:=(hm x).1 (by simp)
    have b:=(hm y).2 (by simp)
    rcases List.mem_cons.1 a with rfl | a
    ·rfl
    ·rcases List.mem_cons.1 b with rfl | b
     ·rfl
     ·have c:=h1.1 _ b
      have d:=h.asym (h2.1 _ a)
      rw [c] at d;simp at d
   subst exy
   congr 1
   refine strict_uniq h h1.2 h2.2 fun z=>?_
   constructor
   ·intro hz
    rcases List.mem_cons.1 ((hm z).1 (by simp [hz])) with rfl | h3
    ·have:=h1.1 _ hz;rw [h.irr] at this;simp at this
    ·exact h3
   ·intro hz
    rcases List.mem_cons.1 ((hm z).2 (by simp [hz])) with rfl | h3
    ·have:=h2.1 _ hz;rw [h.irr] at this;simp at this
    ·exact h3
theorem insR_mem {x y:α} {P:List α}:y∈insR lt x P ↔ y=x∨y∈P:=by
 unfold insR
 have e:y∈P ↔ y∈P.take (P.length - insK lt x P)∨y∈P.drop (P.length - insK lt x P):=by
  rw [←List.mem_append,List.take_append_drop]
 simp only [List.mem_append,List.mem_cons,e]
 constructor
 ·rintro (h | h | h)
  ·exact .inr (.inl h)
  ·exact .inl h
  ·exact .inr (.inr h)
 ·rintro (h | h | h)
  ·exact .inr (.inl h)
  ·exact .inl h
  ·exact .inr (.inr h)
theorem insR_sorted (h:Lin lt) {x:α} {P:List α} (hP:P.Pairwise fun x y=>lt y x=false):(insR lt x P).Pairwise fun x y=>lt y x=false:=by
 have hk:=insK_le (lt:=lt) (x:=x) (P:=P)
 have hT:∀y∈P.take (P.length - insK lt x P),lt x y=false:=by
  intro y hy
  obtain ⟨i,hi⟩:=List.getElem?_of_mem hy
  rw [List.getElem?_take] at hi
  split at hi
  ·rename_i hlt
   have hlen:insK lt x P < P.length:=by omega
   obtain ⟨z,hz⟩:∃z,P[P.length - 1 - insK lt x P]?=some z:=⟨_,List.getElem?_eq_getElem (by omega)⟩
   have e1:=insK_end hlen hz
   rcases Nat.lt_or_ge i (P.length - 1 - insK lt x P) with h2 | h2
   ·have:=List.pairwise_iff_getElem.1 hP i (P.length - 1 - insK lt x P) (by omega) (by omega) h2
    rw [List.getElem?_eq_getElem (by omega)] at hi hz
    simp only [Option.some.injEq] at hi hz
    rw [hi,hz] at this
    exact h.le_le this e1
   ·have:i=P.length - 1 - insK lt x P:=by omega
    rw [this,hz] at hi;simp at hi;rw [←hi];exact e1
  ·simp at hi
 have hD:∀y∈P.drop (P.length - insK lt x P),lt x y=true:=by
  intro y hy
  obtain ⟨i,hi⟩:=List.getElem?_of_mem hy
  rw [List.getElem?_drop] at hi
  have hlt:P.length - insK lt x P+i < P.length:=by
   rcases Nat.lt_or_ge (P.length - insK lt x P+i) P.length with h | h
   ·exact h
   ·rw [List.getElem?_eq_none h] at hi;simp at hi
  refine insK_get (P:=P) (k:=P.length - 1 - (P.length - insK lt x P+i)) (by omega) ?_
  rw [show P.length - 1 - (P.length - 1 - (P.length - insK lt x P+i))=P.length - insK lt x P+i by omega];exact hi
 unfold insR
 rw [List.pairwise_append,List.pairwise_cons]
 have hP':=hP
 rw [←List.take_append_drop (P.length - insK lt x P) P,List.pairwise_append] at hP'
 refine ⟨hP'.1,⟨fun y hy=>h.asym (hD y hy),hP'.2.1⟩,fun y hy z hz=>?_⟩
 rcases List.mem_cons.1 hz with rfl | hz
 ·exact hT y hy
 ·exact hP'.2.2 y hy z hz
theorem preS_sorted (h:Lin lt) {A:List α}:∀{i:Nat},(preS lt A i).Pairwise fun x y=>lt y x=false
 | 0=>List.Pairwise.nil
 | i+1=>by
   simp only [preS]
   split
   ·exact insR_sorted h (preS_sorted h)
   ·exact preS_sorted h
theorem preS_mem {A:List α} {y:α}:∀{i:Nat},i≤A.length→(y∈preS lt A i ↔ y∈A.take i)
 | 0,_=>by simp [preS]
 | i+1,hi=>by
   have e:A[i]?=some A[i]:=List.getElem?_eq_getElem (by omega)
   simp only [preS,e,insR_mem]
   rw [preS_mem (show i≤A.length by omega),List.take_succ_eq_append_getElem (by omega),List.mem_append,List.mem_singleton]
   exact Or.comm
theorem srt_sorted (h:Lin lt) {A:List α}:(srt lt A).Pairwise fun x y=>lt y x=false:=preS_sorted h
theorem srt_mem {A:List α} {y:α}:y∈srt lt A ↔ y∈A:=by
 unfold srt;rw [preS_mem (Nat.le_refl _),List.take_length]
def insP (lt:α→α→Bool) (s:α) (L:List α):Nat:=(L.takeWhile fun y=>lt y s).length
variable [DecidableEq α]
theorem ddN_spec (h:Lin lt) {A:List α} (hA:A.Pairwise fun x y=>lt y x=false):∀{m:Nat},m≤A.length →
 (ddN A m).Pairwise (fun x y=>lt x y=true)∧(∀y,y∈ddN A m ↔ y∈A.take m)
 | 0,_=>by simp [ddN]
 | m+1,hm=>by
   obtain ⟨h1,h2⟩:=ddN_spec h hA (show m≤A.length by omega)
   have e:A[m]?=some A[m]:=List.getElem?_eq_getElem (by omega)
   have et:A.take (m+1)=A.take m++[A[m]]:=List.take_succ_eq_append_getElem (by omega)
   simp only [ddN,e,et,List.mem_append,List.mem_singleton]
   split
   ·rename_i ht
    refine ⟨h1,fun y=>?_⟩
    rw [h2]
    refine ⟨.inl,fun hy=>?_⟩
    rcases hy with hy | rfl
    ·exact hy
    ·unfold twB at ht
     simp only [decide_eq_true_eq] at ht
     rw [e] at ht
     have:(A.take m)[m - 1]?=some A[m]:=by rw [List.getElem?_take_of_lt (by omega)];exact ht.2.symm
     exact List.mem_of_getElem? this
   ·rename_i ht
    refine ⟨?_,fun y=>by rw [List.mem_append,List.mem_singleton,h2]⟩
    rw [List.pairwise_append]
    refine ⟨h1,List.pairwise_singleton _ _,fun y hy z hz=>?_⟩
    rw [List.mem_singleton] at hz;subst hz
    rw [h2] at hy
    obtain ⟨i,hi⟩:=List.getElem?_of_mem hy
    rw [List.getElem?_take] at hi
    split at hi
    ·rename_i him
     have hne:A[m - 1]'(by omega)≠A[m]:=by
      intro hh
      refine ht ?_
      unfold twB
      simp only [decide_eq_true_eq]
      exact ⟨by omega,by rw [e,List.getElem?_eq_getElem (by omega),hh]⟩
     have a1:=List.pairwise_iff_getElem.1 hA (m - 1) m (by omega) (by omega) (by omega)
     have a2:lt (A[m - 1]'(by omega)) A[m]=true:=by
      cases hq:lt (A[m - 1]'(by omega)) A[m] with
      | true=>rfl
      | false=>exact (hne (h.tot _ _ hq a1)).elim
     rw [List.getElem?_eq_getElem (by omega)] at hi
     simp only [Option.some.injEq] at hi
     rcases Nat.lt_or_ge i (m - 1) with h3 | h3
     ·have:=List.pairwise_iff_getElem.1 hA i (m - 1) (by omega) (by omega) h3
      rw [hi] at this
      exact h.le_lt this a2
     ·have:i=m - 1:=by omega
      subst this;rw [←hi];exact a2
    ·simp at hi
theorem ddp_spec (h:Lin lt) {A:List α} (hA:A.Pairwise fun x y=>lt y x=false):(ddp A).Pairwise (fun x y=>lt x y=true)∧∀y,y∈ddp A ↔ y∈A:=by
 have:=ddN_spec h hA (Nat.le_refl A.length)
 rw [List.take_length] at this
 exact this
def insS (lt:α→α→Bool) (L:List α) (s:α):List α:=if L[insP lt s L]?=some s then L else L.take (insP lt s L)++s::L.drop (insP lt s L)
theorem ddp_full {A:List α} (hl:(ddp A).length=A.length):ddp A=A:=by
 have key:∀m,m≤A.length→(ddN A m).length=m→ddN A m=A.take m:=by
  intro m
  induction m with
  | zero=>intro _ _;simp [ddN]
  | succ m ih =>
    intro hm h
    have e:A[m]?=some A[m]:=List.getElem?_eq_getElem (by omega)
    have hle:=ddN_le (A:=A) (m:=m)
    rw [List.take_succ_eq_append_getElem (by omega)]
    simp only [ddN,e] at h ⊢
    split at h
    ·omega
    ·rename_i ht
     rw [if_neg ht,ih (by omega) (by simpa using h)]
 have:=key A.length (Nat.le_refl _) hl
 rw [List.take_length] at this
 exact this
end
def fsN (p:Nat→Bool):Nat→Nat
 | 0=>0
 | n+1=>if fsN p n < n then fsN p n else if p n=true then n else n+1
theorem fsN_le (p:Nat→Bool):∀n,fsN p n≤n
 | 0=>Nat.le_refl _
 | n+1=>by
   have:=fsN_le p n
   simp only [fsN]
   repeat' split
   all_goals omega
theorem fsN_not {p:Nat→Bool}:∀{n k:Nat},k < fsN p n→p k=false
 | 0,k,h=>by simp [fsN] at h
 | n+1,k,h=>by
   have l:=fsN_le p n
   simp only [fsN] at h
   split at h
   ·exact fsN_not h
   ·split at h
    ·exact fsN_not (n:=n) (by omega)
    ·by_cases e:k=n
     ·subst e;simpa using ‹¬p _=true›
     ·exact fsN_not (n:=n) (by omega)
theorem fsN_hit {p:Nat→Bool}:∀{n:Nat},fsN p n < n→p (fsN p n)=true
 | 0,h=>by omega
 | n+1,h=>by
   simp only [fsN] at h ⊢
   split
   ·exact fsN_hit ‹_›
   ·split
    ·assumption
    ·rename_i h1 h2;rw [if_neg h1,if_neg h2] at h;omega
theorem twB_get {α:Type} [DecidableEq α] {A:List α} {i:Nat} {x y:α} (h0:0 < i) (hx:A[i]?=some x) (hy:A[i - 1]?=some y):twB A i=decide (x=y):=by
 unfold twB
 simp [h0,hx,hy]
def blenN (x:BitVec 64):Int:=if x.toNat=0 then 0 else if x.toNat < 2 then 1 else if x.toNat < 4 then 2 else if x.toNat < 8 then 3 else 4
def s_blen64 (args:List AV):Option AV :=
 match args with
 | [.c (.u x)]=>if x.toNat≤12 then some (.c (.i (blenN x))) else none
 | _=>none
theorem s_blen64_eq {x}:s_blen64 [.c (.u x)]=if x.toNat≤12 then some (.c (.i (blenN x))) else none:=rfl
theorem ok_blen64:PuOk Tryz.prog 95 s_blen64:=by
 refine pu_ok (tab:=[]) hmix TabOk.nil Tryz.func95 rfl Tryz.results95 Tryz.ntmps95 (by kernel_rfl) (by kernel_rfl) ?_
 intro args v h
 unfold s_blen64 at h
 split at h
 ·rename_i x
  split at h
  ·rename_i hc
   simp only [Option.some.injEq] at h;subst h
   refine ⟨by simp only [List.length_cons,List.length_nil];decide,rfl,rfl,?_⟩
   have hx:x=0#64∨x=1#64∨x=2#64∨x=3#64∨x=4#64∨x=5#64∨x=6#64∨x=7#64∨x=8#64∨x=9#64∨x=10#64∨x=11#64∨x=12#64:=by
    simp only [BitVec.toNat_eq,BitVec.toNat_ofNat];omega
   rcases hx with rfl | rfl | rfl | rfl | rfl | rfl | rfl | rfl | rfl | rfl | rfl | rfl | rfl
   ·(repeat (first | simp (maxSteps:=9^9) only [go_sem,seval] | simp (disch:=omega) only [w64_d,ipos,ineg,dpos,dneg]))
    generalize hs:ByteArray.mk _=s
    have h1:s.size=256:=by rw [←hs];rfl
    have h2:s.data.getD 0 0=0:=by rw [←hs];rfl
    have h3:IntKind.u8.wrap 0=0:=by decide
    have h4:blenN 0#64=0:=by decide
    have h5:UInt8.toNat 0=0:=by decide
    have h6:s.size≤9223372036854775807:=by omega
    (repeat (first | simp (maxSteps:=9^9) only [go_sem,seval,ev,absC,absS,h1,h2,h3,h4,h5,h6,Int.toNat_natCast,Int.reduceToNat] | simp (disch:=omega) only [w64_d,ipos,ineg,dpos,dneg]))
   ·(repeat (first | simp (maxSteps:=9^9) only [go_sem,seval] | simp (disch:=omega) only [w64_d,ipos,ineg,dpos,dneg]))
    generalize hs:ByteArray.mk _=s
    have h1:s.size=256:=by rw [←hs];rfl
    have h2:s.data.getD 1 0=1:=by rw [←hs];rfl
    have h3:IntKind.u8.wrap 1=1:=by decide
    have h4:blenN 1#64=1:=by decide
    have h5:UInt8.toNat 1=1:=by decide
    have h6:s.size≤9223372036854775807:=by omega
    (repeat (first | simp (maxSteps:=9^9) only [go_sem,seval,ev,absC,absS,h1,h2,h3,h4,h5,h6,Int.toNat_natCast,Int.reduceToNat] | simp (disch:=omega) only [w64_d,ipos,ineg,dpos,dneg]))
   ·(repeat (first | simp (maxSteps:=9^9) only [go_sem,seval] | simp (disch:=omega) only [w64_d,ipos,ineg,dpos,dneg]))
    generalize hs:ByteArray.mk _=s
    have h1:s.size=256:=by rw [←hs];rfl
    have h2:s.data.getD 2 0=2:=by rw [←hs];rfl
    have h3:IntKind.u8.wrap 2=2:=by decide
    have h4:blenN 2#64=2:=by decide
    have h5:UInt8.toNat 2=2:=by decide
    have h6:s.size≤9223372036854775807:=by omega
    (repeat (first | simp (maxSteps:=9^9) only [go_sem,seval,ev,absC,absS,h1,h2,h3,h4,h5,h6,Int.toNat_natCast,Int.reduceToNat] | simp (disch:=omega) only [w64_d,ipos,ineg,dpos,dneg]))
   ·(repeat (first | simp (maxSteps:=9^9) only [go_sem,seval] | simp (disch:=omega) only [w64_d,ipos,ineg,dpos,dneg]))
    generalize hs:ByteArray.mk _=s
    have h1:s.size=256:=by rw [←hs];rfl
    have h2:s.data.getD 3 0=2:=by rw [←hs];rfl
    have h3:IntKind.u8.wrap 3=3:=by decide
    have h4:blenN 3#64=2:=by decide
    have h5:UInt8.toNat 2=2:=by decide
    have h6:s.size≤9223372036854775807:=by omega
    (repeat (first | simp (maxSteps:=9^9) only [go_sem,seval,ev,absC,absS,h1,h2,h3,h4,h5,h6,Int.toNat_natCast,Int.reduceToNat] | simp (disch:=omega) only [w64_d,ipos,ineg,dpos,dneg]))
   ·(repeat (first | simp (maxSteps:=9^9) only [go_sem,seval] | simp (disch:=omega) only [w64_d,ipos,ineg,dpos,dneg]))
    generalize hs:ByteArray.mk _=s
    have h1:s.size=256:=by rw [←hs];rfl
    have h2:s.data.getD 4 0=3:=by rw [←hs];rfl
    have h3:IntKind.u8.wrap 4=4:=by decide
    have h4:blenN 4#64=3:=by decide
    have h5:UInt8.toNat 3=3:=by decide
    have h6:s.size≤9223372036854775807:=by omega
    (repeat (first | simp (maxSteps:=9^9) only [go_sem,seval,ev,absC,absS,h1,h2,h3,h4,h5,h6,Int.toNat_natCast,Int.reduceToNat] | simp (disch:=omega) only [w64_d,ipos,ineg,dpos,dneg]))
   ·(repeat (first | simp (maxSteps:=9^9) only [go_sem,seval] | simp (disch:=omega) only [w64_d,ipos,ineg,dpos,dneg]))
    generalize hs:ByteArray.mk _=s
    have h1:s.size=256:=by rw [←hs];rfl
    have h2:s.data.getD 5 0=3:=by rw [←hs];rfl
    have h3:IntKind.u8.wrap 5=5:=by decide
    have h4:blenN 5#64=3:=by decide
    have h5:UInt8.toNat 3=3:=by decide
    have h6:s.size≤9223372036854775807:=by omega
    (repeat (first | simp (maxSteps:=9^9) only [go_sem,seval,ev,absC,absS,h1,h2,h3,h4,h5,h6,Int.toNat_natCast,Int.reduceToNat] | simp (disch:=omega) only [w64_d,ipos,ineg,dpos,dneg]))
   ·(repeat (first | simp (maxSteps:=9^9) only [go_sem,seval] | simp (disch:=omega) only [w64_d,ipos,ineg,dpos,dneg]))
    generalize hs:ByteArray.mk _=s
    have h1:s.size=256:=by rw [←hs];rfl
    have h2:s.data.getD 6 0=3:=by rw [←hs];rfl
    have h3:IntKind.u8.wrap 6=6:=by decide
    have h4:blenN 6#64=3:=by decide
    have h5:UInt8.toNat 3=3:=by decide
    have h6:s.size≤9223372036854775807:=by omega
    (repeat (first | simp (maxSteps:=9^9) only [go_sem,seval,ev,absC,absS,h1,h2,h3,h4,h5,h6,Int.toNat_natCast,Int.reduceToNat] | simp (disch:=omega) only [w64_d,ipos,ineg,dpos,dneg]))
   ·(repeat (first | simp (maxSteps:=9^9) only [go_sem,seval] | simp (disch:=omega) only [w64_d,ipos,ineg,dpos,dneg]))
    generalize hs:ByteArray.mk _=s
    have h1:s.size=256:=by rw [←hs];rfl
    have h2:s.data.getD 7 0=3:=by rw [←hs];rfl
    have h3:IntKind.u8.wrap 7=7:=by decide
    have h4:blenN 7#64=3:=by decide
    have h5:UInt8.toNat 3=3:=by decide
    have h6:s.size≤9223372036854775807:=by omega
    (repeat (first | simp (maxSteps:=9^9) only [go_sem,seval,ev,absC,absS,h1,h2,h3,h4,h5,h6,Int.toNat_natCast,Int.reduceToNat] | simp (disch:=omega) only [w64_d,ipos,ineg,dpos,dneg]))
   ·(repeat (first | simp (maxSteps:=9^9) only [go_sem,seval] | simp (disch:=omega) only [w64_d,ipos,ineg,dpos,dneg]))
    generalize hs:ByteArray.mk _=s
    have h1:s.size=256:=by rw [←hs];rfl
    have h2:s.data.getD 8 0=4:=by rw [←hs];rfl
    have h3:IntKind.u8.wrap 8=8:=by decide
    have h4:blenN 8#64=4:=by decide
    have h5:UInt8.toNat 4=4:=by decide
    have h6:s.size≤9223372036854775807:=by omega
    (repeat (first | simp (maxSteps:=9^9) only [go_sem,seval,ev,absC,absS,h1,h2,h3,h4,h5,h6,Int.toNat_natCast,Int.reduceToNat] | simp (disch:=omega) only [w64_d,ipos,ineg,dpos,dneg]))
   ·(repeat (first | simp (maxSteps:=9^9) only [go_sem,seval] | simp (disch:=omega) only [w64_d,ipos,ineg,dpos,dneg]))
    generalize hs:ByteArray.mk _=s
    have h1:s.size=256:=by rw [←hs];rfl
    have h2:s.data.getD 9 0=4:=by rw [←hs];rfl
    have h3:IntKind.u8.wrap 9=9:=by decide
    have h4:blenN 9#64=4:=by decide
    have h5:UInt8.toNat 4=4:=by decide
    have h6:s.size≤9223372036854775807:=by omega
    (repeat (first | simp (maxSteps:=9^9) only [go_sem,seval,ev,absC,absS,h1,h2,h3,h4,h5,h6,Int.toNat_natCast,Int.reduceToNat] | simp (disch:=omega) only [w64_d,ipos,ineg,dpos,dneg]))
   ·(repeat (first | simp (maxSteps:=9^9) only [go_sem,seval] | simp (disch:=omega) only [w64_d,ipos,ineg,dpos,dneg]))
    generalize hs:ByteArray.mk _=s
    have h1:s.size=256:=by rw [←hs];rfl
    have h2:s.data.getD 10 0=4:=by rw [←hs];rfl
    have h3:IntKind.u8.wrap 10=10:=by decide
    have h4:blenN 10#64=4:=by decide
    have h5:UInt8.toNat 4=4:=by decide
    have h6:s.size≤9223372036854775807:=by omega
    (repeat (first | simp (maxSteps:=9^9) only [go_sem,seval,ev,absC,absS,h1,h2,h3,h4,h5,h6,Int.toNat_natCast,Int.reduceToNat] | simp (disch:=omega) only [w64_d,ipos,ineg,dpos,dneg]))
   ·(repeat (first | simp (maxSteps:=9^9) only [go_sem,seval] | simp (disch:=omega) only [w64_d,ipos,ineg,dpos,dneg]))
    generalize hs:ByteArray.mk _=s
    have h1:s.size=256:=by rw [←hs];rfl
    have h2:s.data.getD 11 0=4:=by rw [←hs];rfl
    have h3:IntKind.u8.wrap 11=11:=by decide
    have h4:blenN 11#64=4:=by decide
    have h5:UInt8.toNat 4=4:=by decide
    have h6:s.size≤9223372036854775807:=by omega
    (repeat (first | simp (maxSteps:=9^9) only [go_sem,seval,ev,absC,absS,h1,h2,h3,h4,h5,h6,Int.toNat_natCast,Int.reduceToNat] | simp (disch:=omega) only [w64_d,ipos,ineg,dpos,dneg]))
   ·(repeat (first | simp (maxSteps:=9^9) only [go_sem,seval] | simp (disch:=omega) only [w64_d,ipos,ineg,dpos,dneg]))
    generalize hs:ByteArray.mk _=s
    have h1:s.size=256:=by rw [←hs];rfl
    have h2:s.data.getD 12 0=4:=by rw [←hs];rfl
    have h3:IntKind.u8.wrap 12=12:=by decide
    have h4:blenN 12#64=4:=by decide
    have h5:UInt8.toNat 4=4:=by decide
    have h6:s.size≤9223372036854775807:=by omega
    (repeat (first | simp (maxSteps:=9^9) only [go_sem,seval,ev,absC,absS,h1,h2,h3,h4,h5,h6,Int.toNat_natCast,Int.reduceToNat] | simp (disch:=omega) only [w64_d,ipos,ineg,dpos,dneg]))
  ·simp at h
 ·simp at h
def s_blen (args:List AV):Option AV :=
 match args with
 | [.c (.u x)]=>if x.toNat≤12 then some (.c (.i (blenN x))) else none
 | _=>none
theorem s_blen_eq {x}:s_blen [.c (.u x)]=if x.toNat≤12 then some (.c (.i (blenN x))) else none:=rfl
theorem ok_blen:PuOk Tryz.prog 52 s_blen:=by
 refine pu_ok (tab:=[(95,.pu s_blen64)]) hmix (TabOk.cons (e:=.pu s_blen64) ok_blen64 TabOk.nil) Tryz.func52 rfl Tryz.results52 Tryz.ntmps52 (by kernel_rfl) (by kernel_rfl) ?_
 intro args v h
 unfold s_blen at h
 split at h
 ·rename_i x
  split at h
  ·rename_i hc
   simp only [Option.some.injEq] at h;subst h
   refine ⟨by simp only [List.length_cons,List.length_nil];decide,rfl,rfl,?_⟩
   (repeat (first | simp (maxSteps:=9^9) only [go_sem,seval,s_blen64_eq,hc] | simp (disch:=omega) only [w64_d,ipos,ineg,dpos,dneg]))
  ·simp at h
 ·simp at h
theorem repl_flat {α:Type} {n:Nat} {x:α}:(List.replicate n [x]).flatten=List.replicate n x:=by
 induction n with
 | zero=>rfl
 | succ n ih=>simp [List.replicate_succ,ih]
def vecD {α:Type} (dc:List Sc→Option α) (H:AH):Sc→Option (List α)
 | .nils=>some []
 | .sl id 0 v n=>match hg H id with
   | .vec 1 cs=>if v=cs.length∧n=cs.length then decN 1 dc n cs else none
   | _=>none
 | _=>none
def putV (H:AH) (x:Sc) (cs:List Sc):AH :=
 match x with
 | .sl id _ _ _=>H.set id (.vec 1 cs)
 | _=>H
theorem putV_len {H:AH} {x:Sc} {cs:List Sc}:(putV H x cs).length=H.length:=by unfold putV;split <;> simp
theorem flatMap1 {α:Type} {g:α→Sc} (L:List α):L.flatMap (fun x=>[g x])=L.map g:=by
 induction L with
 | nil=>rfl
 | cons x l ih=>simp [ih]
theorem vecD_inv {α:Type} {dc:List Sc→Option α} {g:α→Sc} (hd:∀cs x,dc cs=some x→cs=[g x]) {H:AH} {x:Sc} {L:List α} (h:vecD dc H x=some L):(x=.nils∧L=[])∨∃id,x=.sl id 0 L.length L.length∧hg H id=.vec 1 (L.map g):=by
 unfold vecD at h
 split at h
 ·simp at h;exact .inl ⟨rfl,h⟩
 ·rename_i id v n
  split at h
  ·rename_i cs ho
   split at h
   ·rename_i hc
    obtain ⟨e1,e2⟩:=decN_dec (w:=1) (f:=fun x=>[g x]) hd n cs L (by omega) h
    rw [flatMap1] at e2
    exact .inr ⟨id,by rw [hc.1,←hc.2,e1],by rw [ho,e2]⟩
   ·simp at h
  ·simp at h
 ·simp at h
theorem vecD_of {α:Type} {dc:List Sc→Option α} {g:α→Sc} (hd:∀x,dc [g x]=some x) {H:AH} {id v n:Nat} {L:List α} (ho:hg H id=.vec 1 (L.map g)) (hv:v=L.length) (hn:n=L.length):vecD dc H (.sl id 0 v n)=some L:=by
 subst hv;subst hn
 simp only [vecD,ho,List.length_map,and_self,if_true]
 have:=decN_enc (w:=1) (f:=fun x=>[g x]) (dc:=dc) (fun _=>rfl) hd L
 rw [flatMap1] at this
 exact this
def gI (x:Int):Sc:=.i x
theorem gI_num (x:Int):(gI x).num=true:=rfl
theorem gI_d (cs:List Sc) (x:Int) (h:dcI cs=some x):cs=[gI x]:=dcI_d cs x h
def gU (x:BitVec 64):Sc:=.u x
def slP {α:Type} (dc:List Sc→Option α) (H:AH):Sc→Option (List α)
 | .nils=>some []
 | .sl id 0 v n=>if v=(hg H id).row∧n≤(hg H id).cells.length then decN 1 dc n ((hg H id).cells.take n) else none
 | _=>none
theorem slP_inv {α:Type} {dc:List Sc→Option α} {g:α→Sc} (hd:∀cs x,dc cs=some x→cs=[g x]) {H:AH} {x:Sc} {L:List α} (h:slP dc H x=some L) :
 (x=.nils∧L=[])∨∃id v,x=.sl id 0 v L.length∧v=(hg H id).row∧L.length≤(hg H id).cells.length∧(hg H id).cells.take L.length=L.map g:=by
 unfold slP at h
 split at h
 ·simp at h;exact .inl ⟨rfl,h⟩
 ·rename_i id v n
  split at h
  ·rename_i hc
   obtain ⟨e1,e2⟩:=decN_dec (w:=1) (f:=fun x=>[g x]) hd n _ L (by rw [List.length_take];omega) h
   rw [flatMap1] at e2
   exact .inr ⟨id,v,by rw [e1],hc.1,by omega,by rw [e1,e2]⟩
  ·simp at h
 ·simp at h
theorem slP_of {α:Type} {dc:List Sc→Option α} {g:α→Sc} (hd:∀x,dc [g x]=some x) {H:AH} {id v n:Nat} {L:List α} (hv:v=(hg H id).row) (hn:n=L.length) (hl:L.length≤(hg H id).cells.length) (hc:(hg H id).cells.take L.length=L.map g):slP dc H (.sl id 0 v n)=some L:=by
 subst hn
 simp only [slP,hv,hl,and_self,if_true,hc]
 have:=decN_enc (w:=1) (f:=fun x=>[g x]) (dc:=dc) (fun _=>rfl) hd L
 rw [flatMap1] at this
 exact this
theorem slP_get {α:Type} {g:α→Sc} {cs:List Sc} {L:List α} (hc:cs.take L.length=L.map g) {k:Nat} {x:α} (hx:L[k]?=some x):cs.getD k .any=g x:=by
 have hk:k < L.length:=by
  rcases Nat.lt_or_ge k L.length with h | h
  ·exact h
  ·rw [List.getElem?_eq_none h] at hx;simp at hx
 have:=map_getD (g:=g) hx
 rw [←hc,List.getD_eq_getElem?_getD,List.getElem?_take_of_lt hk,←List.getD_eq_getElem?_getD] at this
 exact this
def s_ints (args:List AV) (H:AH):Option AV :=
 match args with
 | [.c x,.c y] =>
   match slP dcI H x,slP dcI H y with
   | some A,some B=>if A=B∧A.length≤1000000 then some (.c (.b true)) else none
   | _,_=>none
 | _=>none
end
end Go.Proofs.YteclombpnhociaaGreat
set_option maxRecDepth 100000
set_option maxHeartbeats 8000000
namespace Go.Proofs.YteclombpnhociaaGreat
open Go.Am
set_option linter.unusedSimpArgs false
set_option linter.unusedVariables false
noncomputable section
def ltI (x y:Int):Bool:=decide (x < y)
def s_nanI (args:List AV):Option AV :=
 match args with
 | [.c (.i x)]=>some (.c (.b false))
 | _=>none
theorem s_nanI_eq {x}:s_nanI [.c (.i x)]=some (.c (.b false)):=rfl
theorem ok_nanI:PuOk Tryz.prog 124 s_nanI:=by
 refine pu_ok (tab:=[]) hmix TabOk.nil Tryz.func124 rfl Tryz.results124 Tryz.ntmps124 (by kernel_rfl) (by kernel_rfl) ?_
 intro args v h
 unfold s_nanI at h
 split at h
 ·rename_i x
  simp only [Option.some.injEq] at h;subst h
  refine ⟨by simp only [List.length_cons,List.length_nil];decide,rfl,rfl,?_⟩
  (repeat (first | simp (maxSteps:=9^9) only [go_sem,seval] | simp (disch:=omega) only [w64_d,ipos,ineg,dpos,dneg]))
 ·simp at h
def s_lessI (args:List AV):Option AV :=
 match args with
 | [.c (.i x),.c (.i y)]=>some (.c (.b (decide (x < y))))
 | _=>none
theorem s_lessI_eq {x y}:s_lessI [.c (.i x),.c (.i y)]=some (.c (.b (decide (x < y)))):=rfl
theorem ok_lessI:PuOk Tryz.prog 91 s_lessI:=by
 refine pu_ok (tab:=[(124,.pu s_nanI)]) hmix (TabOk.cons (e:=.pu s_nanI) ok_nanI TabOk.nil) Tryz.func91 rfl Tryz.results91 Tryz.ntmps91 (by kernel_rfl) (by kernel_rfl) ?_
 intro args v h
 unfold s_lessI at h
 split at h
 ·rename_i x y
  simp only [Option.some.injEq] at h;subst h
  refine ⟨by simp only [List.length_cons,List.length_nil];decide,rfl,rfl,?_⟩
  (repeat (first | simp (maxSteps:=9^9) only [go_sem,seval,s_nanI_eq] | simp (disch:=omega) only [w64_d,ipos,ineg,dpos,dneg]))
 ·simp at h
def s_isrtI (args:List AV) (H:AH):Option (AV × AH) :=
 match args with
 | [.c x,.c (.i 0),.c (.i n)] =>
   match vecD dcI H x with
   | some A=>if n=A.length∧A.length≤12 then some (.t [],putV H x ((srt ltI A).map gI)) else none
   | none=>none
 | _=>none
theorem len_isrtI (args:List AV) (H:AH) (v:AV) (H1:AH) (h:s_isrtI args H=some (v,H1)):H.length≤H1.length:=by
 unfold s_isrtI at h
 repeat' split at h
 all_goals simp at h
 rw [←h.2,putV_len];exact Nat.le_refl _
theorem s_isrtI_eq {H:AH} {x:Sc} {A:List Int} {n:Int} (hA:vecD dcI H x=some A) (hn:n=A.length) (hl:A.length≤12):s_isrtI [.c x,.c (.i 0),.c (.i n)] H=some (.t [],putV H x ((srt ltI A).map gI)):=by
 simp only [s_isrtI,hA,hn,hl,and_self,if_true]
theorem ok_isrtI:FpOk Tryz.prog 85 s_isrtI:=by
 refine fp_ok (s:=s_isrtI) (tab:=[(91,.pu s_lessI)]) hmix (TabOk.cons (e:=.pu s_lessI) ok_lessI TabOk.nil) Tryz.func85 rfl Tryz.results85 Tryz.ntmps85 (by kernel_rfl) (by kernel_rfl) len_isrtI ?_
 intro args H v H1 h hargs hH
 unfold s_isrtI at h
 split at h
 ·rename_i x n
  split at h
  ·rename_i A hA
   split at h
   ·rename_i hc
    obtain ⟨rfl,hl⟩:=hc
    simp only [Option.some.injEq,Prod.mk.injEq] at h
    obtain ⟨rfl,rfl⟩:=h
    refine ⟨by simp only [List.length_cons,List.length_nil];decide,?_⟩
    rcases vecD_inv gI_d hA with ⟨rfl,rfl⟩ | ⟨id,rfl,ho⟩
    ·(repeat (first | simp (maxSteps:=9^9) only [go_sem,seval,List.length_nil] | simp (disch:=omega) only [w64_d,ipos,ineg,dpos,dneg]))
     refine arun_for 0 (fun _=>([(0,.c .nils),(1,.c (.i 0)),(2,.c (.i 0)),(6,.c (.i 1))],H)) ?_ fun j hj=>?_
     ·exact Wk.wk (Nat.le_refl _) (by simp [Am.get]) (by rfl) (subH_refl _) hH
     ·(repeat (first | simp (maxSteps:=9^9) only [go_sem,seval] | simp (disch:=omega) only [w64_d,ipos,ineg,dpos,dneg]))
      exact fin_fp rfl (subH_refl _) hH (Nat.le_refl _)
    ·have lid:id < H.length:=hg_lt (by rw [ho];rfl)
     let O:List Int→AH:=fun L=>H.set id (.vec 1 (L.map gI))
     have gO:∀L,hg (O L) id=.vec 1 (L.map gI):=fun L=>hg_set_same lid
     have sO:∀L M,(O L).set id (.vec 1 (M.map gI))=O M:=fun L M=>List.set_set ..
     have lO:∀L,(O L).length=H.length:=fun L=>List.length_set
     have bO:∀L,belH (O L)=true:=fun L=>bel_set' hH (map_bel gI_num L _)
     have h1:O A=H:=set_self ho lid
     have fin:putV H (.sl id 0 A.length A.length) ((srt ltI A).map gI)=O (srt ltI A):=rfl
     rw [fin]
     clear_value O
     (repeat (first | simp (maxSteps:=9^9) only [go_sem,seval] | simp (disch:=omega) only [w64_d,ipos,ineg,dpos,dneg]))
     refine arun_for (A.length - 1) (fun j=>([(0,.c (.sl id 0 A.length A.length)),(1,.c (.i 0)),(2,.c (.i A.length)),(6,.c (.i (j+1:Nat)))],O (rwS ltI A (j+1)))) ?_ fun j hj=>?_
     ·rw [rwS_1,h1]
      exact Wk.wk (Nat.le_refl _) (by simp [Am.get]) (by simp [AV.bel,Sc.bel,lid]) (subH_refl _) hH
     ·by_cases hlt:j+1 < A.length
      ·obtain ⟨a,ha⟩:∃a,A[j+1]?=some a:=⟨_,List.getElem?_eq_getElem hlt⟩
       have ec:((j+1:Nat):Int) < A.length:=by omega
       (repeat (first | simp (maxSteps:=9^9) only [go_sem,seval,ec] | simp (disch:=omega) only [w64_d,ipos,ineg,dpos,dneg]))
       have lP:(preS ltI A (j+1)).length=j+1:=preS_len (by omega)
       have kP:=insK_le (lt:=ltI) (x:=a) (P:=preS ltI A (j+1))
       rw [rwS_mv ha]
       refine arun_for (insK ltI a (preS ltI A (j+1))) (fun k=>([(0,.c (.sl id 0 A.length A.length)),(1,.c (.i 0)),(2,.c (.i A.length)),(6,.c (.i (j+1:Nat))),(7,.c (.i (j+1 - k:Nat)))],O (mvS (preS ltI A (j+1)) a (A.drop (j+2)) k))) ?_ fun k hk=>?_
       ·exact Wk.wk (by simp [lo,lO]) (by simp [Am.get]) (by simp [AV.bel,Sc.bel,lid,lO]) (subH_refl _) (bO _)
       ·have lM:(mvS (preS ltI A (j+1)) a (A.drop (j+2)) k).length=A.length:=by rw [mvS_len,lP];simp;omega
        by_cases hz:k < j+1
        ·obtain ⟨y,hy⟩:∃y,(preS ltI A (j+1))[(preS ltI A (j+1)).length - 1 - k]?=some y:=⟨_,List.getElem?_eq_getElem (by omega)⟩
         have m1:=mvS_x (R:=A.drop (j+2)) (x:=a) (k:=k) (P:=preS ltI A (j+1)) (by omega)
         have m2:=mvS_y (R:=A.drop (j+2)) (x:=a) (k:=k) (P:=preS ltI A (j+1)) (by omega)
         have st:=mvS_step (R:=A.drop (j+2)) (x:=a) (k:=k) (P:=preS ltI A (j+1)) (by omega) hy
         have kg:=insK_get (lt:=ltI) (x:=a) (P:=preS ltI A (j+1)) (k:=k) (y:=y)
         have ke:=insK_end (lt:=ltI) (x:=a) (P:=preS ltI A (j+1)) (y:=y)
         have en:=rwS_end (lt:=ltI) ha
         rw [hy] at m2
         rw [lP] at m1 m2 st
         have w1:w64 ((j+1 - k:Nat) - 1)=((j+1 - k - 1:Nat):Int):=by rw [w64_d (by omega) (by omega)];omega
         generalize hL:mvS (preS ltI A (j+1)) a (A.drop (j+2)) k=L at *
         generalize hq:j+1 - k=q at *
         have q0:(0:Int) < q:=by omega
         have q1:(q:Int) < A.length:=by omega
         have q2:((q - 1:Nat):Int) < A.length:=by omega
         have q3:(0:Int)≤((q - 1:Nat):Int):=by omega
         have q4:(0:Int)≤(q:Int):=by omega
         have q5:q+1≤A.length:=by omega
         have q6:q - 1+1≤A.length:=by omega
         have c1:=map_getD (g:=gI) m1
         have c2:=map_getD (g:=gI) m2
         have r1:wr (L.map gI) q [.i y]=(L.set q y).map gI:=wr_map (g:=gI) (by omega)
         have r2:wr ((L.set q y).map gI) (q - 1) [.i a]=((L.set q y).set (q - 1) a).map gI:=wr_map (g:=gI) (by simp;omega)
         (repeat (first | simp (maxSteps:=9^9) only [go_sem,seval,s_lessI_eq,w1,q0,q1,q2,q3,q4,q5,q6,gO,lM,List.length_map,Int.toNat_natCast,c1,c2,gI] | simp (disch:=omega) only [w64_d,ipos,ineg,dpos,dneg]))
         by_cases hk2:k < insK ltI a (preS ltI A (j+1))
         ·have dy:a < y:=by
           have:=kg hk2 (by rw [←hy])
           simpa [ltI] using this
          (repeat (first | simp (maxSteps:=9^9) only [go_sem,seval,s_lessI_eq,dy,w1,q0,q1,q2,q3,q4,q5,q6,gO,sO,lM,List.length_map,List.length_set,Int.toNat_natCast,c1,c2,r1,r2,gI] | simp (disch:=omega) only [w64_d,ipos,ineg,dpos,dneg]))
          refine ⟨by repeat' first | apply And.intro | (intro _;kernel_rfl),?_⟩
          (repeat (first | simp (maxSteps:=9^9) only [go_sem,seval,s_lessI_eq,dy,w1,q0,q1,q2,q3,q4,q5,q6,gO,sO,lM,List.length_map,List.length_set,Int.toNat_natCast,c1,c2,r1,r2,gI,st] | simp (disch:=omega) only [w64_d,ipos,ineg,dpos,dneg]))
          refine ⟨by repeat' first | apply And.intro | (intro _;kernel_rfl),k+1,by omega,by omega,Wk.wk (by simp [lo,lO]) ?_ (by simp [AV.bel,Sc.bel,lid,lO]) (subH_refl _) (bO _)⟩
          have w2:j+1 - (k+1)=q - 1:=by omega
          simp [Am.get,w2]
         ·obtain rfl:k=insK ltI a (preS ltI A (j+1)):=by omega
          have dy:¬a < y:=by
           have:=ke (by omega) (by rw [←hy])
           simpa [ltI] using this
          (repeat (first | simp (maxSteps:=9^9) only [go_sem,seval,s_lessI_eq,dy,w1] | simp (disch:=omega) only [w64_d,ipos,ineg,dpos,dneg]))
          rw [←hL,en]
          refine ⟨j+1,by omega,by omega,Wk.wk (by simp [lo,lO]) ?_ (by simp [AV.bel,Sc.bel,lid,lO]) (subH_refl _) (bO _)⟩
          simp [Am.get]
        ·have hq:j+1 - k=0:=by omega
         obtain rfl:k=insK ltI a (preS ltI A (j+1)):=by omega
         have en:=rwS_end (lt:=ltI) ha
         (repeat (first | simp (maxSteps:=9^9) only [go_sem,seval,s_lessI_eq,hq,Int.natCast_zero] | simp (disch:=omega) only [w64_d,ipos,ineg,dpos,dneg]))
         rw [en]
         refine ⟨j+1,by omega,by omega,Wk.wk (by simp [lo,lO]) ?_ (by simp [AV.bel,Sc.bel,lid,lO]) (subH_refl _) (bO _)⟩
         simp [Am.get]
      ·have ec:¬((j+1:Nat):Int) < A.length:=by omega
       have e2:rwS ltI A (j+1)=srt ltI A:=by
        rcases Nat.lt_or_ge 0 A.length with h0 | h0
        ·rw [show j+1=A.length by omega,rwS_all]
        ·obtain rfl:A=[]:=List.eq_nil_of_length_eq_zero (by omega)
         obtain rfl:j=0:=by simpa using hj
         rfl
       (repeat (first | simp (maxSteps:=9^9) only [go_sem,seval,ec,e2] | simp (disch:=omega) only [w64_d,ipos,ineg,dpos,dneg]))
       exact fin_fp rfl (subH_refl _) (bO _) (by rw [lO];exact Nat.le_refl _)
   ·simp at h
  ·simp at h
 ·simp at h
def s_pdqI (args:List AV) (H:AH):Option (AV × AH) :=
 match args with
 | [.c x,.c (.i 0),.c (.i n),.c (.i _)]=>s_isrtI [.c x,.c (.i 0),.c (.i n)] H
 | _=>none
theorem len_pdqI (args:List AV) (H:AH) (v:AV) (H1:AH) (h:s_pdqI args H=some (v,H1)):H.length≤H1.length:=by
 unfold s_pdqI at h
 split at h
 ·exact len_isrtI _ _ _ _ h
 ·simp at h
theorem s_pdqI_eq {H:AH} {x:Sc} {A:List Int} {n m:Int} (hA:vecD dcI H x=some A) (hn:n=A.length) (hl:A.length≤12):s_pdqI [.c x,.c (.i 0),.c (.i n),.c (.i m)] H=some (.t [],putV H x ((srt ltI A).map gI)):=s_isrtI_eq hA hn hl
theorem isrtI_inv {H H1:AH} {x:Sc} {n:Int} {v:AV} (h:s_isrtI [.c x,.c (.i 0),.c (.i n)] H=some (v,H1)):∃A,vecD dcI H x=some A∧n=A.length∧A.length≤12∧v=.t []∧H1=putV H x ((srt ltI A).map gI):=by
 simp only [s_isrtI] at h
 split at h
 ·rename_i A hA
  split at h
  ·rename_i hc
   simp only [Option.some.injEq,Prod.mk.injEq] at h
   exact ⟨A,hA,hc.1,hc.2,h.1.symm,h.2.symm⟩
  ·simp at h
 ·simp at h
theorem srtVI_bel {H:AH} {x:Sc} {A B:List Int} (hH:belH H=true) (hA:vecD dcI H x=some A):belH (putV H x (B.map gI))=true:=by
 rcases vecD_inv gI_d hA with ⟨rfl,rfl⟩ | ⟨id,rfl,ho⟩
 ·exact hH
 ·exact bel_set' hH (map_bel gI_num B _)
theorem vecI_bel {H:AH} {x:Sc} {A:List Int} (hA:vecD dcI H x=some A):x.bel H.length=true:=by
 rcases vecD_inv gI_d hA with ⟨rfl,rfl⟩ | ⟨id,rfl,ho⟩
 ·rfl
 ·simpa [Sc.bel] using hg_lt (H:=H) (i:=id) (by rw [ho];rfl)
theorem ok_pdqI:FpOk Tryz.prog 51 s_pdqI:=by
 refine fp_ok (s:=s_pdqI) (tab:=[(85,.fp s_isrtI)]) hmix (TabOk.cons (e:=.fp s_isrtI) ok_isrtI TabOk.nil) Tryz.func51 rfl Tryz.results51 Tryz.ntmps51 (by kernel_rfl) (by kernel_rfl) len_pdqI ?_
 intro args H v H1 h hargs hH
 unfold s_pdqI at h
 split at h
 ·rename_i x n m
  have h0:=h
  obtain ⟨A,hA,rfl,hl,rfl,rfl⟩:=isrtI_inv h
  refine ⟨by simp only [List.length_cons,List.length_nil];decide,?_⟩
  (repeat (first | simp (maxSteps:=9^9) only [go_sem,seval] | simp (disch:=omega) only [w64_d,ipos,ineg,dpos,dneg]))
  refine arun_for 0 (fun _=>([(0,.c x),(1,.c (.i 0)),(2,.c (.i A.length))],H)) ?_ fun j hj=>?_
  ·exact Wk.wk (Nat.le_refl _) (by simp [Am.get]) (by simp only [List.all_cons,List.all_nil,AV.bel,vecI_bel hA];rfl) (subH_refl _) hH
  ·have w1:w64 ((A.length:Int) - 0)=A.length:=by rw [w64_d (by omega) (by omega)];omega
   have c1:(A.length:Int)≤12:=by omega
   (repeat (first | simp (maxSteps:=9^9) only [go_sem,seval,w1,c1,h0] | simp (disch:=omega) only [w64_d,ipos,ineg,dpos,dneg]))
   exact fin_fp rfl (subH_refl _) (srtVI_bel hH hA) (by rw [putV_len];exact Nat.le_refl _)
 ·simp at h
def s_sortI (args:List AV) (H:AH):Option (AV × AH) :=
 match args with
 | [.c x] =>
   match vecD dcI H x with
   | some A=>if A.length≤12 then some (.t [],putV H x ((srt ltI A).map gI)) else none
   | none=>none
 | _=>none
theorem len_sortI (args:List AV) (H:AH) (v:AV) (H1:AH) (h:s_sortI args H=some (v,H1)):H.length≤H1.length:=by
 unfold s_sortI at h
 repeat' split at h
 all_goals simp at h
 rw [←h.2,putV_len];exact Nat.le_refl _
theorem s_sortI_eq {H:AH} {x:Sc} {A:List Int} (hA:vecD dcI H x=some A) (hl:A.length≤12):s_sortI [.c x] H=some (.t [],putV H x ((srt ltI A).map gI)):=by
 simp only [s_sortI,hA,hl,if_true]
theorem ok_sortI:FpOk Tryz.prog 24 s_sortI:=by
 refine fp_ok (s:=s_sortI) (tab:=[(52,.pu s_blen),(51,.fp s_pdqI)]) hmix (TabOk.cons (e:=.pu s_blen) ok_blen (TabOk.cons (e:=.fp s_pdqI) ok_pdqI TabOk.nil)) Tryz.func24 rfl Tryz.results24 Tryz.ntmps24 (by kernel_rfl) (by kernel_rfl) len_sortI ?_
 intro args H v H1 h hargs hH
 unfold s_sortI at h
 split at h
 ·rename_i x
  split at h
  ·rename_i A hA
   split at h
   ·rename_i hl
    simp only [Option.some.injEq,Prod.mk.injEq] at h
    obtain ⟨rfl,rfl⟩:=h
    refine ⟨by simp only [List.length_cons,List.length_nil];decide,?_⟩
    have xl:∀e,lenB (.sl e) (.c x)=some (.c (.i A.length)):=by
     intro e
     rcases vecD_inv gI_d hA with ⟨rfl,rfl⟩ | ⟨id2,rfl,ho⟩ <;> rfl
    have xa:∀(l:Array Operand) (ts:List Nat) (t:Nat) (tab:Tab),astep Tryz.prog tab (.call ⟨.builtin .len,l,(t::ts).toArray⟩) [.c x] H=(lenA Tryz.prog t (.c x)).map fun v=>(v,H):=by
     intro l ts t tab
     rcases vecD_inv gI_d hA with ⟨rfl,rfl⟩ | ⟨id2,rfl,ho⟩
     ·exact as_len_nils
     ·exact as_len_sl
    have xb:tcM [.c x]=.no:=by
     rcases vecD_inv gI_d hA with ⟨rfl,rfl⟩ | ⟨id2,rfl,ho⟩ <;> rfl
    have e1:(BitVec.ofInt 64 (A.length:Int)).toNat≤12:=by rw [BitVec.toNat_ofInt];omega
    have p1:=fun m=>s_pdqI_eq (m:=m) hA rfl hl
    (repeat (first | simp (maxSteps:=9^9) only [go_sem,seval,s_blen_eq,s_pdqI_eq,xa,xb,xl,e1,p1] | simp (disch:=omega) only [w64_d,ipos,ineg,dpos,dneg]))
    exact fin_fp rfl (subH_refl _) (srtVI_bel hH hA) (by rw [putV_len];exact Nat.le_refl _)
   ·simp at h
  ·simp at h
 ·simp at h
def cmpCI (A:List Int):List Sc:=(ddp A).map gI++List.replicate (A.length - (ddp A).length) (gI 0)
def cmpI (H:AH) (x:Sc) (A:List Int):Sc × AH :=
 if (ddp A).length=A.length then (x,H)
 else match x with
  | .sl id o v _=>(.sl id o v (ddp A).length,H.set id (.vec 1 (cmpCI A)))
  | x=>(x,H)
def s_cmpI (args:List AV) (H:AH):Option (AV × AH) :=
 match args with
 | [.c x] =>
   match vecD dcI H x with
   | some A=>if A.length≤12 then some (.c (cmpI H x A).1,(cmpI H x A).2) else none
   | none=>none
 | _=>none
theorem cmpI_len {H:AH} {x:Sc} {A:List Int}:(cmpI H x A).2.length=H.length:=by
 unfold cmpI
 repeat' split
 all_goals simp
theorem len_cmpI (args:List AV) (H:AH) (v:AV) (H1:AH) (h:s_cmpI args H=some (v,H1)):H.length≤H1.length:=by
 unfold s_cmpI at h
 repeat' split at h
 all_goals simp at h
 rw [←h.2,cmpI_len];exact Nat.le_refl _
theorem s_cmpI_eq {H:AH} {x:Sc} {A:List Int} (hA:vecD dcI H x=some A) (hl:A.length≤12):s_cmpI [.c x] H=some (.c (cmpI H x A).1,(cmpI H x A).2):=by
 simp only [s_cmpI,hA,hl,if_true]
theorem ok_cmpI:FpOk Tryz.prog 25 s_cmpI:=by
 refine fp_ok (s:=s_cmpI) (tab:=[]) hmix TabOk.nil Tryz.func25 rfl Tryz.results25 Tryz.ntmps25 (by kernel_rfl) (by kernel_rfl) len_cmpI ?_
 intro args H v H1 h hargs hH
 unfold s_cmpI at h
 split at h
 ·rename_i x
  split at h
  ·rename_i A hA
   split at h
   ·rename_i hl
    simp only [Option.some.injEq,Prod.mk.injEq] at h
    obtain ⟨rfl,rfl⟩:=h
    refine ⟨by simp only [List.length_cons,List.length_nil];decide,?_⟩
    rcases vecD_inv gI_d hA with ⟨rfl,rfl⟩ | ⟨id,rfl,ho⟩
    ·(repeat (first | simp (maxSteps:=9^9) only [go_sem,seval] | simp (disch:=omega) only [w64_d,ipos,ineg,dpos,dneg]))
     exact fin_fp rfl (subH_refl _) hH (Nat.le_refl _)
    ·have lid:id < H.length:=hg_lt (by rw [ho];rfl)
     by_cases h2:A.length < 2
     ·have e1:(A.length:Int) < 2:=by omega
      have e2:cmpI H (.sl id 0 A.length A.length) A=(.sl id 0 A.length A.length,H):=by
       unfold cmpI
       rw [if_pos]
       match A,h2 with
       | [],_=>rfl
       | [a],_=>simp [ddp,ddN,twB]
      (repeat (first | simp (maxSteps:=9^9) only [go_sem,seval,e1,e2] | simp (disch:=omega) only [w64_d,ipos,ineg,dpos,dneg]))
      exact fin_fp (by simp [AV.bel,Sc.bel,lid]) (subH_refl _) hH (Nat.le_refl _)
     ·have e1:¬(A.length:Int) < 2:=by omega
      let O:List Int→AH:=fun L=>H.set id (.vec 1 (L.map gI))
      have gO:∀L,hg (O L) id=.vec 1 (L.map gI):=fun L=>hg_set_same lid
      have sO:∀L M,(O L).set id (.vec 1 (M.map gI))=O M:=fun L M=>List.set_set ..
      have sC:∀L cs,(O L).set id (.vec 1 cs)=H.set id (.vec 1 cs):=fun L cs=>List.set_set ..
      have lO:∀L,(O L).length=H.length:=fun L=>List.length_set
      have bO:∀L,belH (O L)=true:=fun L=>bel_set' hH (map_bel gI_num L _)
      have h1:O A=H:=set_self ho lid
      clear_value O
      have kle:=fsN_le (twB A) A.length
      have knot:=fun k h=>fsN_not (p:=twB A) (n:=A.length) (k:=k) h
      have khit:=fsN_hit (p:=twB A) (n:=A.length)
      generalize hK:fsN (twB A) A.length=K at *
      have k1:1≤K:=by
       rcases Nat.lt_or_ge 0 K with h | h
       ·exact h
       ·obtain rfl:K=0:=by omega
        have:=khit (by omega)
        simp [twB] at this
      have ddle:∀m,(ddN A m).length≤m:=fun m=>ddN_le
      (repeat (first | simp (maxSteps:=9^9) only [go_sem,seval,e1] | simp (disch:=omega) only [w64_d,ipos,ineg,dpos,dneg]))
      refine arun_for (K - 1) (fun j=>([(0,.c (.sl id 0 A.length A.length)),(3,.c (.i (j+1:Nat)))],O A)) ?_ fun j hj=>?_
      ·rw [h1]
       exact Wk.wk (Nat.le_refl _) (by simp [Am.get]) (by simp [AV.bel,Sc.bel,lid]) (subH_refl _) hH
      ·by_cases hlt:j+1 < A.length
       ·obtain ⟨a,ha⟩:∃a,A[j+1]?=some a:=⟨_,List.getElem?_eq_getElem hlt⟩
        obtain ⟨b,hb⟩:∃b,A[j]?=some b:=⟨_,List.getElem?_eq_getElem (by omega)⟩
        have ec:((j+1:Nat):Int) < A.length:=by omega
        have w1:w64 ((j+1:Nat) - 1)=(j:Nat):=by rw [w64_d (by omega) (by omega)];omega
        have tw:=twB_get (by omega) ha (y:=b) (by simpa using hb)
        have c1:=map_getD (g:=gI) ha
        have c2:=map_getD (g:=gI) hb
        have q1:(0:Int)≤((j+1:Nat):Int):=by omega
        have q2:(0:Int)≤(j:Int):=by omega
        have q3:(j:Int) < A.length:=by omega
        have q4:j+1+1≤A.length:=by omega
        have q5:j+1≤A.length:=by omega
        have q6:((j+1:Nat):Int)≤A.length:=by omega
        (repeat (first | simp (maxSteps:=9^9) only [go_sem,seval,ec,w1,gO,c1,c2,List.length_map,Int.toNat_natCast,q1,q2,q3,q4,q5,gI] | simp (disch:=omega) only [w64_d,ipos,ineg,dpos,dneg]))
        by_cases hjk:j+1 < K
        ·have dab:¬a=b:=by
          have:=knot _ hjk
          rw [tw] at this;simpa using this
         (repeat (first | simp (maxSteps:=9^9) only [go_sem,seval,dab] | simp (disch:=omega) only [w64_d,ipos,ineg,dpos,dneg]))
         refine ⟨j+1,by omega,by omega,Wk.wk (by simp [lo,lO]) ?_ (by simp [AV.bel,Sc.bel,lid,lO]) (subH_refl _) (bO _)⟩
         simp [Am.get]
        ·obtain rfl:K=j+1:=by omega
         have tk:=khit hlt
         have dab:a=b:=by rw [tw] at tk;simpa using tk
         have dd0:ddN A (j+1)=A.take (j+1):=ddN_take (by omega) knot
         have dd1:ddN A (j+2)=A.take (j+1):=by simp only [ddN,ha,tk,if_true] at dd0 ⊢;exact dd0
         have rw1:rwD A (j+2)=A:=by unfold rwD;rw [dd1];simp [Nat.min_eq_left (show j+1≤A.length by omega)]
         have ddl1:(ddN A (j+2)).length=j+1:=by rw [dd1];simp;omega
         have ddlt:∀m,j+1 < m→(ddN A m).length < m:=fun m h=>ddN_lt tk hlt h
         (repeat (first | simp (maxSteps:=9^9) only [go_sem,seval,dab,q1,q6,Int.toNat_natCast] | simp (disch:=omega) only [w64_d,ipos,ineg,dpos,dneg]))
         refine arun_for (A.length - (j+2)) (fun i=>([(0,.c (.sl id 0 A.length A.length)),(3,.c (.i (ddN A (j+2+i)).length)),(4,.c (.sl id (j+1) A.length (A.length - (j+1)))),(5,.c (.i (i+1:Nat)))],O (rwD A (j+2+i)))) ?_ fun i hi=>?_
         ·rw [Nat.add_zero,rw1,ddl1]
          exact Wk.wk (by simp [lo,lO]) (by simp [Am.get]) (by simp [AV.bel,Sc.bel,lid,lO]) (subH_refl _) (bO _)
         ·have lM:(rwD A (j+2+i)).length=A.length:=rwD_len (by omega)
          have dl:=ddlt (j+2+i) (by omega)
          by_cases hm:j+2+i < A.length
          ·obtain ⟨c,hc⟩:∃c,A[j+2+i]?=some c:=⟨_,List.getElem?_eq_getElem hm⟩
           obtain ⟨d,hd⟩:∃d,A[j+1+i]?=some d:=⟨_,List.getElem?_eq_getElem (by omega)⟩
           have tw2:=twB_get (by omega) hc (y:=d) (by rw [show j+2+i - 1=j+1+i by omega];exact hd)
           have st:=fun h=>rwD_step hc h (by omega)
           have sm:=fun h=>rwD_same hc h
           have g1:(rwD A (j+2+i))[j+1+(i+1)]?=some c:=by rw [rwD_get (by omega),show j+1+(i+1)=j+2+i by omega];exact hc
           have g2:(rwD A (j+2+i))[j+1+i]?=some d:=by rw [rwD_get (by omega)];exact hd
           have dS:ddN A (j+2+(i+1))=if twB A (j+2+i)=true then ddN A (j+2+i) else ddN A (j+2+i)++[c]:=by
            show ddN A (j+2+i+1)=_
            simp only [ddN,hc]
           generalize hL:rwD A (j+2+i)=L at *
           generalize hq:(ddN A (j+2+i)).length=q at *
           have c3:=map_getD (g:=gI) g1
           have c4:=map_getD (g:=gI) g2
           have v1:((i+1:Nat):Int) < ((A.length - (j+1):Nat):Int):=by omega
           have v2:(0:Int)≤((i+1:Nat):Int):=by omega
           have v3:w64 ((i+1:Nat) - 1)=(i:Nat):=by rw [w64_d (by omega) (by omega)];omega
           have v4:(0:Int)≤(i:Int):=by omega
           have v5:(i:Int) < ((A.length - (j+1):Nat):Int):=by omega
           have v6:j+1+(i+1)+1≤A.length:=by omega
           have v7:j+1+i+1≤A.length:=by omega
           have v8:(0:Int)≤(q:Int):=by omega
           have v9:(q:Int) < A.length:=by omega
           have v10:q+1≤A.length:=by omega
           have v11:w64 ((q:Int)+1)=((q+1:Nat):Int):=by rw [w64_d (by omega) (by omega)];omega
           have r1:wr (L.map gI) q [.i c]=(L.set q c).map gI:=wr_map (g:=gI) (by omega)
           (repeat (first | simp (maxSteps:=9^9) only [go_sem,seval,v1,v2,v3,v4,v5,v6,v7,v8,v9,v10,gO,lM,c3,c4,List.length_map,Int.toNat_natCast,gI] | simp (disch:=omega) only [w64_d,ipos,ineg,dpos,dneg]))
           by_cases hcd:c=d
           ·have tt:twB A (j+2+i)=true:=by rw [tw2];simpa using hcd
            have sm':rwD A (j+2+(i+1))=L:=sm tt
            have dS':(ddN A (j+2+(i+1))).length=q:=by rw [dS,if_pos tt,hq]
            (repeat (first | simp (maxSteps:=9^9) only [go_sem,seval,hcd] | simp (disch:=omega) only [w64_d,ipos,ineg,dpos,dneg]))
            refine ⟨i+1,by omega,by omega,?_⟩
            rw [sm',dS']
            refine Wk.wk (by simp [lo,lO]) ?_ (by simp [AV.bel,Sc.bel,lid,lO]) (subH_refl _) (bO _)
            simp [Am.get]
           ·have tt:twB A (j+2+i)=false:=by rw [tw2];simpa using hcd
            have st':L.set q c=rwD A (j+2+(i+1)):=st tt
            have dS':(ddN A (j+2+(i+1))).length=q+1:=by rw [dS,if_neg (by rw [tt];decide),List.length_append,hq];rfl
            (repeat (first | simp (maxSteps:=9^9) only [go_sem,seval,hcd,v8,v9,v10,v11,r1,sO,gO,lM,List.length_map,Int.toNat_natCast,c3,gI,st'] | simp (disch:=omega) only [w64_d,ipos,ineg,dpos,dneg]))
            refine ⟨i+1,by omega,by omega,?_⟩
            rw [dS']
            refine Wk.wk (by simp [lo,lO]) ?_ (by simp [AV.bel,Sc.bel,lid,lO]) (subH_refl _) (bO _)
            simp [Am.get]
          ·obtain rfl:i=A.length - (j+2):=by omega
           have em:j+2+(A.length - (j+2))=A.length:=by omega
           rw [em] at dl lM
           have ei:A.length - (j+2)+1=A.length - (j+1):=by omega
           have dpl:(ddN A A.length).length=(ddp A).length:=rfl
           have fin:(cmpI H (.sl id 0 A.length A.length) A)=(.sl id 0 A.length (ddp A).length,H.set id (.vec 1 (cmpCI A))):=by
            unfold cmpI;rw [if_neg (by rw [←dpl];omega)]
           have lC:(cmpCI A).length=A.length:=by simp [cmpCI];rw [←dpl];omega
           have r3:wr ((rwD A A.length).map gI) (ddp A).length (List.replicate (A.length - (ddp A).length) (.i 0))=cmpCI A:=by
            have e3:rwD A A.length=ddp A++A.drop (ddp A).length:=rfl
            unfold wr
            rw [e3,List.map_append]
            have e4:((ddp A).map gI).length=(ddp A).length:=by simp
            rw [List.take_append_of_le_length (by omega),←e4,List.take_length,List.drop_of_length_le (by simp)]
            simp [cmpCI,gI]
           rw [dpl] at dl
           generalize hq:(ddp A).length=q at *
           have v1:(0:Int)≤(q:Int):=by omega
           have v2:(q:Int)≤A.length:=by omega
           have v3:A.length - q≠0:=by omega
           have v4:q+(A.length - q)≤A.length:=by omega
           (repeat (first | simp (maxSteps:=9^9) only [go_sem,seval,em,ei,dpl,hq,gO,lM,v1,v2,v3,v4,List.length_map,Int.toNat_natCast,repl_flat,List.length_replicate,r3,sC,fin,clrA] | simp (disch:=omega) only [w64_d,ipos,ineg,dpos,dneg]))
           exact fin_fp (by simp [AV.bel,Sc.bel,lid]) (subH_refl _) (bel_set' hH (by simp only [AObj.scs];unfold cmpCI;rw [List.all_append,Bool.and_eq_true];exact ⟨map_bel gI_num _ _,by rw [List.all_replicate];split <;> rfl⟩)) (by rw [List.length_set];exact Nat.le_refl _)
       ·obtain rfl:K=A.length:=by omega
        have ec:¬((j+1:Nat):Int) < A.length:=by omega
        have e2:cmpI H (.sl id 0 A.length A.length) A=(.sl id 0 A.length A.length,H):=by
         unfold cmpI
         rw [if_pos]
         rw [ddp,ddN_take (Nat.le_refl _) knot];simp
        (repeat (first | simp (maxSteps:=9^9) only [go_sem,seval,ec,e2] | simp (disch:=omega) only [w64_d,ipos,ineg,dpos,dneg]))
        rw [h1]
        exact fin_fp (by simp [AV.bel,Sc.bel,lid]) (subH_refl _) hH (Nat.le_refl _)
   ·simp at h
  ·simp at h
 ·simp at h
theorem linI:Lin ltI where
 irr x:=by simp [ltI]
 tr x y z h1 h2:=by simp only [ltI,decide_eq_true_eq] at *;omega
 tot x y h1 h2:=by simp only [ltI,decide_eq_false_iff_not] at *;omega
theorem cmpI_sl {H:AH} {id v n:Nat} {A:List Int} (ho:hg H id=.vec 1 (A.map gI)) (lid:id < H.length) (hn:n=A.length):cmpI H (.sl id 0 v n) A=(.sl id 0 v (ddp A).length,H.set id (.vec 1 (cmpCI A))):=by
 unfold cmpI
 split
 ·rename_i h
  have e:cmpCI A=A.map gI:=by unfold cmpCI;rw [ddp_full h,Nat.sub_self];simp
  rw [e,set_self ho lid,h,hn]
 ·rfl
end
end Go.Proofs.YteclombpnhociaaGreat
set_option maxRecDepth 100000
set_option maxHeartbeats 8000000
namespace Go.Proofs.YteclombpnhociaaGreat
open Go.Am
set_option linter.unusedSimpArgs false
set_option linter.unusedVariables false
noncomputable section
def ltU (x y:(BitVec 64)):Bool:=decide (x < y)
def s_isrtU (args:List AV) (H:AH):Option (AV × AH) :=
 match args with
 | [.c x,.c (.i 0),.c (.i n)] =>
   match vecD dcU H x with
   | some A=>if n=A.length∧A.length≤12 then some (.t [],putV H x ((srt ltU A).map gU)) else none
   | none=>none
 | _=>none
def s_sortU (args:List AV) (H:AH):Option (AV × AH) :=
 match args with
 | [.c x] =>
   match vecD dcU H x with
   | some A=>if A.length≤12 then some (.t [],putV H x ((srt ltU A).map gU)) else none
   | none=>none
 | _=>none
def cmpCU (A:List (BitVec 64)):List Sc:=(ddp A).map gU++List.replicate (A.length - (ddp A).length) (gU 0#64)
def cmpU (H:AH) (x:Sc) (A:List (BitVec 64)):Sc × AH :=
 if (ddp A).length=A.length then (x,H)
 else match x with
  | .sl id o v _=>(.sl id o v (ddp A).length,H.set id (.vec 1 (cmpCU A)))
  | x=>(x,H)
def s_cmpU (args:List AV) (H:AH):Option (AV × AH) :=
 match args with
 | [.c x] =>
   match vecD dcU H x with
   | some A=>if A.length≤12 then some (.c (cmpU H x A).1,(cmpU H x A).2) else none
   | none=>none
 | _=>none
end
end Go.Proofs.YteclombpnhociaaGreat
set_option maxRecDepth 100000
set_option maxHeartbeats 8000000
namespace Go.Proofs.YteclombpnhociaaGreat
open Go.Am
set_option linter.unusedSimpArgs false
set_option linter.unusedVariables false
noncomputable section
def strL (a b:BitVec 64) (c s st:Int):List Int:=(accP a b c s).map fun p=>stripeU p.a st
theorem strL_len {a b:BitVec 64} {c s st:Int}:(strL a b c s st).length=(accP a b c s).length:=by simp [strL]
theorem accP_le {a b:BitVec 64} {c s:Int}:(accP a b c s).length≤4:=by
 cases h:smB c s
 ·unfold accP;rw [if_neg (by simp [h])];simp
 ·exact (good_acc h).2.2
def s_stripes (args:List AV) (H:AH):Option (AV × AH) :=
 match args with
 | [.g [.u a,.u b,.i c,.i s],.c (.i st)] =>
   if inR st then
    if smB c s=true then some (.c (.sl H.length 0 (strL a b c s st).length (ddp (srt ltI (strL a b c s st))).length),H++[.vec 1 (cmpCI (srt ltI (strL a b c s st)))])
    else some (.c .nils,H)
   else none
 | _=>none
theorem len_stripes (args:List AV) (H:AH) (v:AV) (H1:AH) (h:s_stripes args H=some (v,H1)):H.length≤H1.length:=by
 unfold s_stripes at h
 repeat' split at h
 all_goals simp at h
 all_goals rw [←h.2]
 all_goals simp
theorem cmpCI_bel {A:List Int} {n:Nat}:(cmpCI A).all (Sc.bel n)=true:=by
 unfold cmpCI
 rw [List.all_append,Bool.and_eq_true];exact ⟨map_bel gI_num _ _,by rw [List.all_replicate];split <;> rfl⟩
theorem ok_stripes:FpOk Tryz.prog 27 s_stripes:=by
 refine fp_ok (s:=s_stripes) (tab:=[(54,.fp s_pieces),(56,.pu s_sstripe),(24,.fp s_sortI),(25,.fp s_cmpI)]) hmix (TabOk.cons (e:=.fp s_pieces) ok_pieces (TabOk.cons (e:=.pu s_sstripe) ok_sstripe (TabOk.cons (e:=.fp s_sortI) ok_sortI (TabOk.cons (e:=.fp s_cmpI) ok_cmpI TabOk.nil)))) Tryz.func27 rfl Tryz.results27 Tryz.ntmps27 (by kernel_rfl) (by kernel_rfl) len_stripes ?_
 intro args H v H1 h hargs hH
 unfold s_stripes at h
 split at h
 ·rename_i a b c s st
  split at h
  ·rename_i hst
   cases hm:smB c s
   ·rw [hm] at h
    simp only [Bool.false_eq_true,if_false,Option.some.injEq,Prod.mk.injEq] at h
    obtain ⟨rfl,rfl⟩:=h
    refine ⟨by simp only [List.length_cons,List.length_nil];decide,?_⟩
    have v0:∀H,vecD dcI H .nils=some []:=fun _=>rfl
    have p1:=fun H=>s_sortI_eq (v0 H) (by decide)
    have p2:=fun H=>s_cmpI_eq (v0 H) (by decide)
    have e2:∀H,cmpI H .nils []=(.nils,H):=fun _=>rfl
    have e3:∀H cs,putV H .nils cs=H:=fun _ _=>rfl
    (repeat (first | simp (maxSteps:=9^9) only [go_sem,seval,s_pieces_eq,s_sstripe_eq,s_sortI_eq,s_cmpI_eq,hm] | simp (disch:=omega) only [w64_d,ipos,ineg,dpos,dneg]))
    refine arun_for 0 (fun _=>([(5,.c .nils),(10,.c (.i 0)),(11,.c (.i 0))],H)) ?_ fun j hj=>?_
    ·exact Wk.wk (Nat.le_refl _) (by simp [Am.get]) (by rfl) (subH_app _ _) hH
    ·(repeat (first | simp (maxSteps:=9^9) only [go_sem,seval,p1,p2,e2,e3] | simp (disch:=omega) only [w64_d,ipos,ineg,dpos,dneg]))
     exact fin_fp rfl (subH_refl _) hH (Nat.le_refl _)
   ·rw [hm] at h
    simp only [if_true,Option.some.injEq,Prod.mk.injEq] at h
    obtain ⟨rfl,rfl⟩:=h
    refine ⟨by simp only [List.length_cons,List.length_nil];decide,?_⟩
    have l4:=@accP_le a b c s
    have sl:=@strL_len a b c s st
    have eL:=accL_P a b c s
    have eN:=accN_P a b c s
    have sg:∀(k:Nat) (p:Pc),(accP a b c s)[k]?=some p→(strL a b c s st)[k]?=some (stripeU p.a st):=fun k p h=>by simp [strL,h]
    generalize strL a b c s st=A at *
    generalize accP a b c s=l at *
    (repeat (first | simp (maxSteps:=9^9) only [go_sem,seval,s_pieces_eq,s_sstripe_eq,s_sortI_eq,s_cmpI_eq,hm,eL,eN] | simp (disch:=omega) only [w64_d,ipos,ineg,dpos,dneg]))
    have fl:(l.flatMap encP).length=3 * l.length:=by rw [fm_len encP_l,Nat.mul_comm]
    have lb:∀n,(l.flatMap encP).all (Sc.bel n)=true:=fun n=>by rw [List.all_flatMap];exact List.all_eq_true.2 fun _ _=>rfl
    have bb:∀k,belH (H++[.dead,.dead,.vec 3 (l.flatMap encP),.vec 1 ((A.take k).map gI)])=true:=fun k=>belH_app hH (by simp only [List.mem_cons,List.not_mem_nil,or_false,forall_eq_or_imp,forall_eq];exact ⟨rfl,rfl,lb _,map_bel gI_num _ _⟩)
    refine arun_for l.length (fun k=>([(1,.c (.i st)),(5,.c (.sl (H.length+3) 0 k k)),(9,.c (.sl (H.length+2) 0 (3 * l.length) l.length)),(10,.c (.i l.length)),(11,.c (.i k))],H++[.dead,.dead,.vec 3 (l.flatMap encP),.vec 1 ((A.take k).map gI)])) ?_ fun k hk=>?_
    ·exact Wk.trans (Wk.nil 5 1 (by decide) rfl (by simp [lo])) (Wk.wk (by simp [lo]) (by simp [Am.get]) (by simp [AV.bel,Sc.bel]) (by rw [List.append_assoc];exact subH_pre _ ⟨.inl rfl,.inl rfl,.inr rfl,.inr rfl,trivial⟩) (bb 0))
    ·have tl:((A.take k).map gI).length=k:=by simp;omega
     by_cases hlt:k < l.length
     ·obtain ⟨p,hp⟩:∃p,l[k]?=some p:=⟨_,List.getElem?_eq_getElem hlt⟩
      have e1:w64 ((k:Int)+1)=((k+1:Nat):Int):=by rw [w64_d (by omega) (by omega)];omega
      have g1:=fm_le encP_l (L:=l) (k:=k) hlt
      have g3:=pc_row hp
      rw [fl] at g1
      have hA:=sg k p hp
      have ht:(A.take (k+1)).map gI=(A.take k).map gI++[.i (stripeU p.a st)]:=by rw [List.take_add_one,hA,Option.toList_some,List.map_append];rfl
      have k5:(k+1) * 8≤1099511627776:=by omega
      (repeat (first | simp (maxSteps:=9^9) only [go_sem,seval,s_pieces_eq,s_sstripe_eq,s_sortI_eq,s_cmpI_eq,e1,g1,g3,encP,fl,tl,hst,k5,List.take_succ_cons,List.take_zero] | simp (disch:=omega) only [w64_d,ipos,ineg,dpos,dneg]))
      exact ⟨k+1,by omega,by omega,Wk.wk (by simp [lo]) (by simp [Am.get]) (by simp [AV.bel,Sc.bel]) (subH_pre _ ⟨.inl rfl,.inl rfl,.inr rfl,.inr (by rw [ht]),trivial⟩) (bb (k+1))⟩
     ·obtain rfl:k=l.length:=by omega
      have tA:A.take l.length=A:=by rw [←sl,List.take_length]
      rw [tA]
      have lS:(srt ltI A).length=A.length:=srt_len
      have p1:s_sortI [.c (.sl (H.length+3) 0 l.length l.length)] (H++[.dead,.dead,.vec 3 (l.flatMap encP),.vec 1 (A.map gI)])=some (.t [],H++[.dead,.dead,.vec 3 (l.flatMap encP),.vec 1 ((srt ltI A).map gI)]):=by
       rw [s_sortI_eq (A:=A) (vecD_of (g:=gI) dcI_e (by rw [hg_len_add];rfl) sl.symm sl.symm) (by omega)]
       simp only [putV,set_len_add];rfl
      have p2:s_cmpI [.c (.sl (H.length+3) 0 l.length l.length)] (H++[.dead,.dead,.vec 3 (l.flatMap encP),.vec 1 ((srt ltI A).map gI)])=some (.c (.sl (H.length+3) 0 l.length (ddp (srt ltI A)).length),H++[.dead,.dead,.vec 3 (l.flatMap encP),.vec 1 (cmpCI (srt ltI A))]):=by
       rw [s_cmpI_eq (A:=srt ltI A) (vecD_of (g:=gI) dcI_e (by rw [hg_len_add];rfl) (by omega) (by omega)) (by omega),cmpI_sl (by rw [hg_len_add];rfl) (by simp) (by omega)]
       simp only [set_len_add];rfl
      (repeat (first | simp (maxSteps:=9^9) only [go_sem,seval,p1,p2] | simp (disch:=omega) only [w64_d,ipos,ineg,dpos,dneg]))
      rw [sl]
      exact fin_tail1 3 (Nat.le_refl _) hH rfl cmpCI_bel ren_sl0.symm (by simp [AV.bel,Sc.bel])
  ·simp at h
 ·simp at h
def setL (A:List Int):List Int:=A.foldl (insS ltI) []
def s_rstripes (args:List AV) (H:AH):Option (AV × AH) :=
 match args with
 | [.g [.u a,.u b,.i c,.i s],.c (.i st)] =>
   if inR st then
    if smB c s=true then some (.c (.sl H.length 0 (setL (strL a b c s st)).length (setL (strL a b c s st)).length),H++[.vec 1 ((setL (strL a b c s st)).map gI)])
    else some (.c .nils,H)
   else none
 | _=>none
theorem s_stripes_eq {a b:BitVec 64} {c s st:Int} {H:AH} (h:inR st):s_stripes [.g [.u a,.u b,.i c,.i s],.c (.i st)] H=if smB c s=true then some (.c (.sl H.length 0 (strL a b c s st).length (ddp (srt ltI (strL a b c s st))).length),H++[.vec 1 (cmpCI (srt ltI (strL a b c s st)))]) else some (.c .nils,H):=by simp only [s_stripes,h,if_true]
end
end Go.Proofs.YteclombpnhociaaGreat
set_option maxRecDepth 100000
set_option maxHeartbeats 8000000
namespace Go.Proofs.YteclombpnhociaaGreat
open Go.Am
set_option linter.unusedSimpArgs false
set_option linter.unusedVariables false
noncomputable section
def linL (a b:BitVec 64) (c s:Int):List (BitVec 64):=(accP a b c s).map fun p=>p.a / 64#64
theorem accP_le9 {a b:BitVec 64} {c s:Int}:(accP a b c s).length≤4:=by
 cases h:smB c s
 ·unfold accP;rw [if_neg (by simp [h])];simp
 ·exact (good_acc h).2.2
def isL (k c s:Int):Bool:=decide (groupI k=1) && smB c s
def isR (r:List Sc):Prop:=r.length=14∧r.all Sc.pf=true
instance (r:List Sc):Decidable (isR r):=Classical.propDecidable _
def s_elines (args:List AV) (H:AH):Option (AV × AH) :=
 match args with
 | [.g (.i k::.u a::.u b::.i c::.i s::r)] =>
   if isR r then
    if isL k c s=true then some (.c (.sl H.length 0 (linL a b c s).length (ddp (srt ltU (linL a b c s))).length),H++[.vec 1 (cmpCU (srt ltU (linL a b c s)))])
    else some (.c .nils,H)
   else none
 | _=>none
end
end Go.Proofs.YteclombpnhociaaGreat
set_option maxRecDepth 100000
set_option maxHeartbeats 8000000
namespace Go.Proofs.YteclombpnhociaaGreat
open Go.Am
set_option linter.unusedSimpArgs false
set_option linter.unusedVariables false
noncomputable section
def timesLo (a b:BitVec 64):BitVec 64:=((a &&& 4294967295#64) * (b >>> 32)+((a >>> 32) * (b &&& 4294967295#64)+((a &&& 4294967295#64) * (b &&& 4294967295#64)) >>> 32 &&& 4294967295#64)) <<< 32 ||| (a &&& 4294967295#64) * (b &&& 4294967295#64) &&& 4294967295#64
def timesHi (a b:BitVec 64):BitVec 64 :=
 (a >>> 32) * (b >>> 32)+((a >>> 32) * (b &&& 4294967295#64)+((a &&& 4294967295#64) * (b &&& 4294967295#64)) >>> 32) >>> 32 +
 ((a &&& 4294967295#64) * (b >>> 32)+((a >>> 32) * (b &&& 4294967295#64)+((a &&& 4294967295#64) * (b &&& 4294967295#64)) >>> 32 &&& 4294967295#64)) >>> 32
def divS (a b:BitVec 64):BitVec 64:=if b=0#64 then 18446744073709551615#64 else if b=18446744073709551615#64 then -a else BitVec.ofInt 64 (w64 (a.toInt.tdiv b.toInt))
def divU (a b:BitVec 64):BitVec 64:=if b=0#64 then 18446744073709551615#64 else a / b
def belowU (a:BitVec 64):Bool:=decide (bitU a 63=1#64)
def s_below (args:List AV):Option AV :=
 match args with
 | [.c (.u a)]=>some (.c (.b (belowU a)))
 | _=>none
theorem s_below_eq {a}:s_below [.c (.u a)]=some (.c (.b (belowU a))):=rfl
theorem ok_below:PuOk Tryz.prog 140 s_below:=by
 refine pu_ok (tab:=[(112,.pu s_bit)]) hmix (TabOk.cons (e:=.pu s_bit) ok_bit TabOk.nil) Tryz.func140 rfl Tryz.results140 Tryz.ntmps140 (by kernel_rfl) (by kernel_rfl) ?_
 intro args v h
 unfold s_below at h
 split at h
 ·rename_i a
  simp only [Option.some.injEq] at h;subst h
  refine ⟨by simp only [List.length_cons,List.length_nil];decide,rfl,rfl,?_⟩
  simp (maxSteps:=9^9) only [go_sem,seval,s_bit_eq]
  rfl
 ·simp at h
def amountU (a:BitVec 64):BitVec 64:=if belowU a=true then 0#64 - a else a
def s_amount (args:List AV):Option AV :=
 match args with
 | [.c (.u a)]=>some (.c (.u (amountU a)))
 | _=>none
theorem s_amount_eq {a}:s_amount [.c (.u a)]=some (.c (.u (amountU a))):=rfl
theorem ok_amount:PuOk Tryz.prog 142 s_amount:=by
 refine pu_ok (tab:=[(140,.pu s_below)]) hmix (TabOk.cons (e:=.pu s_below) ok_below TabOk.nil) Tryz.func142 rfl Tryz.results142 Tryz.ntmps142 (by kernel_rfl) (by kernel_rfl) ?_
 intro args v h
 unfold s_amount at h
 split at h
 ·rename_i a
  simp only [Option.some.injEq] at h;subst h
  refine ⟨by simp only [List.length_cons,List.length_nil];decide,rfl,rfl,?_⟩
  by_cases h:belowU a=true
  ·simp (maxSteps:=9^9) only [go_sem,seval,s_below_eq,amountU,h]
  ·simp (maxSteps:=9^9) only [go_sem,seval,s_below_eq,amountU,h]
 ·simp at h
def ovBit (hi lo:BitVec 64) (k:Nat):BitVec 64:=if (63:Int) < 127 - k then bitU hi (127 - k - 64) else bitU lo (127 - k)
def ovR (hi lo b:BitVec 64):Nat→BitVec 64
 | 0=>0#64
 | k+1 =>
   if (9223372036854775807#64 < ovR hi lo b k∨2#64 * ovR hi lo b k+ovBit hi lo k < 2#64 * ovR hi lo b k)∨b≤2#64 * ovR hi lo b k+ovBit hi lo k then 2#64 * ovR hi lo b k+ovBit hi lo k - b
   else 2#64 * ovR hi lo b k+ovBit hi lo k
def ovQ (hi lo b:BitVec 64) (k:Nat):BitVec 64 :=
 if (9223372036854775807#64 < ovR hi lo b k∨2#64 * ovR hi lo b k+ovBit hi lo k < 2#64 * ovR hi lo b k)∨b≤2#64 * ovR hi lo b k+ovBit hi lo k then 1#64 else 0#64
def ovL (hi lo b:BitVec 64) (k:Nat):List Sc:=(List.range k).map fun j=>.u (ovQ hi lo b j)
def ovQh (hi lo b:BitVec 64) (at':Nat):Nat→BitVec 64
 | 0=>0#64
 | k+1=>2#64 * ovQh hi lo b at' k+ovQ hi lo b (at'+k)
theorem ovL_len {hi lo b:BitVec 64} {k:Nat}:(ovL hi lo b k).length=k:=by simp [ovL]
theorem ovL_succ {hi lo b:BitVec 64} {k:Nat}:ovL hi lo b (k+1)=ovL hi lo b k++[.u (ovQ hi lo b k)]:=by simp [ovL,List.range_succ]
theorem ovL_get {hi lo b:BitVec 64} {k i:Nat} (h:i < k):(ovL hi lo b k)[i]?=some (.u (ovQ hi lo b i)):=by simp [ovL,h]
def s_refOver (args:List AV):Option AV :=
 match args with
 | [.c (.u hi),.c (.u lo),.c (.u b)]=>some (.t [.c (.u (ovQh hi lo b 0 64)),.c (.u (ovQh hi lo b 64 64)),.c (.u (ovR hi lo b 128))])
 | _=>none
theorem s_refOver_eq {hi lo b}:s_refOver [.c (.u hi),.c (.u lo),.c (.u b)]=some (.t [.c (.u (ovQh hi lo b 0 64)),.c (.u (ovQh hi lo b 64 64)),.c (.u (ovR hi lo b 128))]):=rfl
theorem ok_refOver:PuOk Tryz.prog 141 s_refOver:=by
 refine pu_ok (tab:=[(112,.pu s_bit)]) hmix (TabOk.cons (e:=.pu s_bit) ok_bit TabOk.nil) Tryz.func141 rfl Tryz.results141 Tryz.ntmps141 (by kernel_rfl) (by kernel_rfl) ?_
 intro args v h
 unfold s_refOver at h
 split at h
 ·rename_i hi lo b
  simp only [Option.some.injEq] at h;subst h
  refine ⟨by simp only [List.length_cons,List.length_nil];decide,rfl,rfl,?_⟩
  simp (maxSteps:=9^9) only [go_sem,seval,s_bit_eq]
  rw [arun_loop]
  refine ⟨{k:Nat // k≤128},fun k=>([(0,.c (.u hi)),(1,.c (.u lo)),(2,.c (.u b)),(9,.c (.sl 0 0 k.1 k.1)),(10,.c (.u (ovR hi lo b k.1))),(11,.c (.i (127 - k.1)))],[.vec 1 (ovL hi lo b k.1)]),fun k=>128 - k.1,⟨0,by omega⟩,?_,?_⟩
  ·exact Wk.trans (Wk.nil 9 1 (by decide) rfl (Nat.zero_le _)) (Wk.wk (Nat.zero_le _) (by simp [Am.get,ovR]) rfl ⟨.inr rfl,trivial⟩ rfl)
  ·rintro ⟨k,hk⟩
   by_cases hlt:k < 128
   ·have e1:w64 (127 - (k:Int) - 1)=127 - ((k+1:Nat):Int):=by rw [w64_of (by omega)];omega
    have e2:((0:Int)≤127 - (k:Int))=True:=by simp;omega
    have e3:w64 (127 - (k:Int) - 64)=127 - k - 64:=w64_of (by omega)
    have e4:((k:Nat)+1) * 8≤1099511627776:=by omega
    have hb:ovBit hi lo k=if (63:Int) < 127 - k then bitU hi (127 - k - 64) else bitU lo (127 - k):=rfl
    have hr:=ovR.eq_2 hi lo b k
    have hq:=ovQ.eq_1 hi lo b k
    generalize hB:ovBit hi lo k=B at hb hr hq
    have hc:9223372036854775807#64 < ovR hi lo b k∨(¬9223372036854775807#64 < ovR hi lo b k∧2#64 * ovR hi lo b k+B < 2#64 * ovR hi lo b k)∨(¬9223372036854775807#64 < ovR hi lo b k∧¬2#64 * ovR hi lo b k+B < 2#64 * ovR hi lo b k∧b≤2#64 * ovR hi lo b k+B)∨(¬9223372036854775807#64 < ovR hi lo b k∧¬2#64 * ovR hi lo b k+B < 2#64 * ovR hi lo b k∧¬b≤2#64 * ovR hi lo b k+B):=by
     by_cases h2:9223372036854775807#64 < ovR hi lo b k
     ·exact .inl h2
     ·by_cases h3:2#64 * ovR hi lo b k+B < 2#64 * ovR hi lo b k
      ·exact .inr (.inl ⟨h2,h3⟩)
      ·by_cases h4:b≤2#64 * ovR hi lo b k+B
       ·exact .inr (.inr (.inl ⟨h2,h3,h4⟩))
       ·exact .inr (.inr (.inr ⟨h2,h3,h4⟩))
    clear hB
    by_cases h1:(63:Int) < 127 - k
    all_goals rcases hc with h2 | ⟨h2,h3⟩ | ⟨h2,h3,h4⟩ | ⟨h2,h3,h4⟩
    all_goals simp only [h1,if_true,if_false] at hb
    all_goals replace hb:=hb.symm
    all_goals simp only [*,if_true,if_false,or_true,true_or,or_false,false_or] at hr hq
    all_goals simp (maxSteps:=9^9) only [go_sem,seval,s_bit_eq, *,ovL_len]
    all_goals exact ⟨⟨k+1,by omega⟩,by simp;omega,Wk.wk (Nat.zero_le _) (by simp [Am.get,hr,e1]) rfl ⟨.inr (by simp [ovL_succ,hq]),trivial⟩ (by simp [AObj.cells,AObj.scs,ovL,Sc.bel])⟩
   ·obtain rfl:k=128:=by omega
    have e0:((0:Int)≤127 - 128)=False:=by simp
    simp (maxSteps:=9^9) only [go_sem,seval,s_bit_eq,e0]
    rw [arun_loop]
    refine ⟨{k:Nat // k≤64},fun k=>([(9,.c (.sl 0 0 128 128)),(10,.c (.u (ovR hi lo b 128))),(15,.c (.u (ovQh hi lo b 0 k.1))),(16,.c (.u (ovQh hi lo b 64 k.1))),(17,.c (.i k.1))],[.vec 1 (ovL hi lo b 128)]),fun k=>64 - k.1,⟨0,by omega⟩,?_,?_⟩
    ·exact Wk.wk (Nat.zero_le _) (by simp [Am.get,ovQh]) rfl ⟨.inr rfl,trivial⟩ rfl
    ·rintro ⟨k,hk⟩
     by_cases hlt:k < 64
     ·have e1:w64 ((k:Int)+1)=((k+1:Nat):Int):=by rw [w64_of (by omega)];omega
      have e2:((k:Int) < 64)=True:=by simp;omega
      have e3:w64 (64+(k:Int))=((64+k:Nat):Int):=by rw [w64_of (by omega)];omega
      have e4:((k:Int) < 128)=True:=by simp;omega
      have e5:(((64+k:Nat):Int) < 128)=True:=by simp;omega
      have e6:(0≤(k:Int))=True:=by simp
      have e7:(0≤((64+k:Nat):Int))=True:=by simp;omega
      have e8:(k+1≤128)=True:=by simp;omega
      have e9:(64+k+1≤128)=True:=by simp;omega
      have g1:(ovL hi lo b 128).getD k .any=.u (ovQ hi lo b k):=by rw [List.getD_eq_getElem?_getD,ovL_get (by omega)];rfl
      have g2:(ovL hi lo b 128).getD (64+k) .any=.u (ovQ hi lo b (64+k)):=by rw [List.getD_eq_getElem?_getD,ovL_get (by omega)];rfl
      simp (maxSteps:=9^9) only [go_sem,seval,e1,e2,e3,e4,e5,e6,e7,e8,e9,g1,g2,ovL_len]
      exact ⟨⟨k+1,by omega⟩,by simp;omega,Wk.wk (Nat.zero_le _) (by simp [Am.get,ovQh]) rfl ⟨.inr rfl,trivial⟩ (by simp [AObj.cells,AObj.scs,ovL,Sc.bel])⟩
     ·obtain rfl:k=64:=by omega
      have e2:((64:Int) < 64)=False:=by simp
      simp (maxSteps:=9^9) only [go_sem,seval,e2]
 ·simp at h
def refDivU (a b:BitVec 64) (pl:Bool):BitVec 64 :=
 if b=0#64 then 18446744073709551615#64 else
 if pl=true then ovQh 0#64 a b 64 64 else
 if belowU a=belowU b then ovQh 0#64 (amountU a) (amountU b) 64 64 else 0#64 - ovQh 0#64 (amountU a) (amountU b) 64 64
def refRemU (a b:BitVec 64) (pl:Bool):BitVec 64 :=
 if b=0#64 then a else
 if pl=true then ovR 0#64 a b 128 else
 if belowU a=true then 0#64 - ovR 0#64 (amountU a) (amountU b) 128 else ovR 0#64 (amountU a) (amountU b) 128
def s_refDiv (args:List AV):Option AV :=
 match args with
 | [.c (.u a),.c (.u b),.c (.b pl)]=>some (.c (.u (refDivU a b pl)))
 | _=>none
theorem s_refDiv_eq {a b pl}:s_refDiv [.c (.u a),.c (.u b),.c (.b pl)]=some (.c (.u (refDivU a b pl))):=rfl
theorem ok_refDiv:PuOk Tryz.prog 133 s_refDiv:=by
 refine pu_ok (tab:=[(141,.pu s_refOver),(142,.pu s_amount),(140,.pu s_below)]) hmix (TabOk.cons (e:=.pu s_refOver) ok_refOver (TabOk.cons (e:=.pu s_amount) ok_amount (TabOk.cons (e:=.pu s_below) ok_below TabOk.nil))) Tryz.func133 rfl Tryz.results133 Tryz.ntmps133 (by kernel_rfl) (by kernel_rfl) ?_
 intro args v h
 unfold s_refDiv at h
 split at h
 ·rename_i a b pl
  simp only [Option.some.injEq] at h;subst h
  refine ⟨by simp only [List.length_cons,List.length_nil];decide,rfl,rfl,?_⟩
  by_cases h1:b=0#64
  ·simp (maxSteps:=9^9) only [go_sem,seval,s_refOver_eq,s_amount_eq,s_below_eq,refDivU,h1]
  ·cases pl
   ·cases h2:belowU a <;> cases h3:belowU b <;> simp (maxSteps:=9^9) only [go_sem,seval,s_refOver_eq,s_amount_eq,s_below_eq,refDivU,h1,h2,h3]
   ·simp (maxSteps:=9^9) only [go_sem,seval,s_refOver_eq,s_amount_eq,s_below_eq,refDivU,h1]
 ·simp at h
def s_refRem (args:List AV):Option AV :=
 match args with
 | [.c (.u a),.c (.u b),.c (.b pl)]=>some (.c (.u (refRemU a b pl)))
 | _=>none
theorem s_refRem_eq {a b pl}:s_refRem [.c (.u a),.c (.u b),.c (.b pl)]=some (.c (.u (refRemU a b pl))):=rfl
theorem ok_refRem:PuOk Tryz.prog 134 s_refRem:=by
 refine pu_ok (tab:=[(141,.pu s_refOver),(142,.pu s_amount),(140,.pu s_below)]) hmix (TabOk.cons (e:=.pu s_refOver) ok_refOver (TabOk.cons (e:=.pu s_amount) ok_amount (TabOk.cons (e:=.pu s_below) ok_below TabOk.nil))) Tryz.func134 rfl Tryz.results134 Tryz.ntmps134 (by kernel_rfl) (by kernel_rfl) ?_
 intro args v h
 unfold s_refRem at h
 split at h
 ·rename_i a b pl
  simp only [Option.some.injEq] at h;subst h
  refine ⟨by simp only [List.length_cons,List.length_nil];decide,rfl,rfl,?_⟩
  by_cases h1:b=0#64
  ·simp (maxSteps:=9^9) only [go_sem,seval,s_refOver_eq,s_amount_eq,s_below_eq,refRemU,h1]
  ·cases pl
   ·by_cases h2:belowU a=true
    ·simp (maxSteps:=9^9) only [go_sem,seval,s_refOver_eq,s_amount_eq,s_below_eq,refRemU,h1,h2]
    ·have h2:belowU a=false:=by simpa using h2
     simp (maxSteps:=9^9) only [go_sem,seval,s_refOver_eq,s_amount_eq,s_below_eq,refRemU,h1,h2]
   ·simp (maxSteps:=9^9) only [go_sem,seval,s_refOver_eq,s_amount_eq,s_below_eq,refRemU,h1]
 ·simp at h
theorem bitU_nat {w:BitVec 64} {i:Nat} (h:i≤63):(bitU w i).toNat=w.toNat / 2 ^ i % 2:=by
 unfold bitU
 rw [if_pos (by omega)]
 simp only [Int.toNat_natCast,BitVec.getLsbD,Nat.testBit_eq_decide_div_mod_eq]
 have h2:w.toNat / 2 ^ i % 2 < 2:=Nat.mod_lt _ (by omega)
 by_cases hb:w.toNat / 2 ^ i % 2=1
 ·simp [hb]
 ·have h0:w.toNat / 2 ^ i % 2=0:=by omega
  simp [h0]
theorem ovBit_nat {hi lo:BitVec 64} {k:Nat} (hk:k < 128):(ovBit hi lo k).toNat=(hi.toNat * 2 ^ 64+lo.toNat) / 2 ^ (127 - k) % 2:=by
 have hl:lo.toNat < 2 ^ 64:=lo.isLt
 unfold ovBit
 split
 ·rename_i h
  have e:(127 - (k:Int) - 64)=((63 - k:Nat):Int):=by omega
  rw [e,bitU_nat (by omega)]
  have e2:127 - k=64+(63 - k):=by omega
  rw [e2,Nat.pow_add,←Nat.div_div_eq_div_mul]
  have e3:(hi.toNat * 2 ^ 64+lo.toNat) / 2 ^ 64=hi.toNat:=by omega
  rw [e3]
 ·rename_i h
  have e:(127 - (k:Int))=((127 - k:Nat):Int):=by omega
  rw [e,bitU_nat (by omega)]
  have hj:127 - k≤63:=by omega
  generalize 127 - k=j at hj
  have e2:2 ^ 64=2 ^ (63 - j) * 2 * 2 ^ j:=by rw [←Nat.pow_succ,←Nat.pow_add];congr 1;omega
  rw [e2,←Nat.mul_assoc,Nat.add_comm,Nat.add_mul_div_right _ _ (Nat.two_pow_pos j),←Nat.mul_assoc,Nat.add_mul_mod_self_right]
theorem pow_half {N k:Nat} (hk:k < 128):N / 2 ^ (128 - k)=N / 2 ^ (127 - k) / 2:=by
 have:128 - k=(127 - k)+1:=by omega
 rw [this,Nat.pow_succ,Nat.div_div_eq_div_mul]
theorem ov_step {M M' r b bit:Nat} (hb:0 < b) (hM:M'=2 * M+bit) (hr:r=M % b):(2 * r+bit < b→M' % b=2 * r+bit∧M' / b=2 * (M / b))∧(b≤2 * r+bit→bit < 2→M' % b=2 * r+bit - b∧M' / b=2 * (M / b)+1):=by
 have h1:M=b * (M / b)+M % b:=(Nat.div_add_mod M b).symm
 have h2:M % b < b:=Nat.mod_lt _ hb
 have e:M'=2 * r+bit+b * (2 * (M / b)):=by
  have:b * (2 * (M / b))=2 * (b * (M / b)):=by rw [Nat.mul_left_comm]
  omega
 constructor
 ·intro h
  rw [e,Nat.add_mul_mod_self_left,Nat.add_mul_div_left _ _ hb,Nat.mod_eq_of_lt h,Nat.div_eq_of_lt h]
  omega
 ·intro h hbit
  have h3:2 * r+bit - b < b:=by omega
  have e':M'=(2 * r+bit - b)+b * (2 * (M / b)+1):=by rw [Nat.mul_add,Nat.mul_one];omega
  rw [e',Nat.add_mul_mod_self_left,Nat.add_mul_div_left _ _ hb,Nat.mod_eq_of_lt h3,Nat.div_eq_of_lt h3]
  omega
theorem ov_inv {hi lo b:BitVec 64} (hb:b≠0#64) (k:Nat) (hk:k≤128) :
 (ovR hi lo b k).toNat=(hi.toNat * 2 ^ 64+lo.toNat) / 2 ^ (128 - k) % b.toNat ∧
 (k < 128→(ovQ hi lo b k).toNat+2 * ((hi.toNat * 2 ^ 64+lo.toNat) / 2 ^ (128 - k) / b.toNat)=(hi.toNat * 2 ^ 64+lo.toNat) / 2 ^ (127 - k) / b.toNat)∧(ovQ hi lo b k).toNat < 2:=by
 have hl:lo.toNat < 2 ^ 64:=lo.isLt
 have hh:hi.toNat < 2 ^ 64:=hi.isLt
 have hb0:0 < b.toNat:=by
  rcases Nat.eq_zero_or_pos b.toNat with h | h
  ·exact absurd (BitVec.eq_of_toNat_eq (by simpa using h)) hb
  ·exact h
 have hq2:∀k,(ovQ hi lo b k).toNat < 2:=by
  intro k;unfold ovQ;split <;> simp
 generalize hN:hi.toNat * 2 ^ 64+lo.toNat=N
 have key:∀k,k < 128→(ovR hi lo b k).toNat=N / 2 ^ (128 - k) % b.toNat →
  (ovR hi lo b (k+1)).toNat=N / 2 ^ (127 - k) % b.toNat∧(ovQ hi lo b k).toNat+2 * (N / 2 ^ (128 - k) / b.toNat)=N / 2 ^ (127 - k) / b.toNat:=by
  intro k hk hr
  have hbit:(ovBit hi lo k).toNat=N / 2 ^ (127 - k) % 2:=by rw [←hN];exact ovBit_nat hk
  have hM:N / 2 ^ (127 - k)=2 * (N / 2 ^ (128 - k))+(ovBit hi lo k).toNat:=by rw [hbit,pow_half hk];omega
  have hst:=ov_step hb0 hM hr
  have hb2:(ovBit hi lo k).toNat < 2:=by rw [hbit];exact Nat.mod_lt _ (by omega)
  have hrb:(ovR hi lo b k).toNat < b.toNat:=by rw [hr];exact Nat.mod_lt _ hb0
  have hbl:b.toNat < 2 ^ 64:=b.isLt
  simp only [ovR,ovQ]
  generalize ovR hi lo b k=r at *
  generalize ovBit hi lo k=B at *
  have e1:(2#64 * r+B).toNat=(2 * r.toNat+B.toNat) % 2 ^ 64:=by simp [BitVec.toNat_add,BitVec.toNat_mul]
  have e2:(2#64 * r).toNat=(2 * r.toNat) % 2 ^ 64:=by simp [BitVec.toNat_mul]
  have hc:((9223372036854775807#64 < r∨2#64 * r+B < 2#64 * r)∨b≤2#64 * r+B) ↔ b.toNat≤2 * r.toNat+B.toNat:=by
   simp only [BitVec.lt_def,BitVec.le_def,e1,e2]
   simp only [BitVec.toNat_ofNat]
   omega
  by_cases h:b.toNat≤2 * r.toNat+B.toNat
  ·obtain ⟨h1,h2⟩:=hst.2 h hb2
   rw [if_pos (hc.2 h),if_pos (hc.2 h),h1,h2]
   refine ⟨?_,by simp;omega⟩
   rw [BitVec.toNat_sub,e1]
   omega
  ·obtain ⟨h1,h2⟩:=hst.1 (by omega)
   rw [if_neg (fun h'=>h (hc.1 h')),if_neg (fun h'=>h (hc.1 h')),h1,h2]
   refine ⟨?_,by simp⟩
   rw [e1]
   omega
 have inv:∀k,k≤128→(ovR hi lo b k).toNat=N / 2 ^ (128 - k) % b.toNat:=by
  intro k
  induction k with
  | zero=>intro _;have:N / 2 ^ 128=0:=by omega
          simp [ovR,this]
  | succ k ih =>
    intro hk
    have:=(key k (by omega) (ih (by omega))).1
    have e:127 - k=128 - (k+1):=by omega
    rw [this,e]
 exact ⟨inv k hk,fun h=>(key k h (inv k hk)).2,hq2 k⟩
theorem ovQh_nat {hi lo b:BitVec 64} (hb:b≠0#64) (a k:Nat) (hk:k≤64) (ha:a+k≤128) :
 (hi.toNat * 2 ^ 64+lo.toNat) / 2 ^ (128 - (a+k)) / b.toNat=(hi.toNat * 2 ^ 64+lo.toNat) / 2 ^ (128 - a) / b.toNat * 2 ^ k+(ovQh hi lo b a k).toNat∧(ovQh hi lo b a k).toNat < 2 ^ k:=by
 induction k with
 | zero=>simp [ovQh]
 | succ k ih =>
   obtain ⟨h1,h2⟩:=ih (by omega) (by omega)
   obtain ⟨_,h3,h4⟩:=ov_inv (hi:=hi) (lo:=lo) hb (a+k) (by omega)
   have h3:=h3 (by omega)
   have hp:2 ^ k * 2≤2 ^ 64:=by rw [←Nat.pow_succ];exact Nat.pow_le_pow_right (by omega) (by omega)
   have e:(ovQh hi lo b a (k+1)).toNat=2 * (ovQh hi lo b a k).toNat+(ovQ hi lo b (a+k)).toNat:=by
    simp only [ovQh,BitVec.toNat_add,BitVec.toNat_mul,BitVec.toNat_ofNat]
    omega
   have e2:128 - (a+(k+1))=127 - (a+k):=by omega
   rw [e,e2,←h3,h1]
   have hp2:2 ^ (k+1)=2 ^ k * 2:=Nat.pow_succ ..
   constructor
   ·generalize (hi.toNat * 2 ^ 64+lo.toNat) / 2 ^ (128 - a) / b.toNat=X
    have:X * 2 ^ (k+1)=X * 2 ^ k * 2:=by rw [hp2,Nat.mul_assoc]
    omega
   ·omega
theorem over_nat {hi lo b:BitVec 64} (hb:b≠0#64) :
 (ovQh hi lo b 0 64).toNat=hi.toNat / b.toNat∧(hi.toNat * 2 ^ 64+lo.toNat) / b.toNat=(ovQh hi lo b 0 64).toNat * 2 ^ 64+(ovQh hi lo b 64 64).toNat∧(ovR hi lo b 128).toNat=(hi.toNat * 2 ^ 64+lo.toNat) % b.toNat:=by
 have hl:lo.toNat < 2 ^ 64:=lo.isLt
 have hh:hi.toNat < 2 ^ 64:=hi.isLt
 obtain ⟨h1,_⟩:=ovQh_nat (hi:=hi) (lo:=lo) hb 0 64 (by omega) (by omega)
 obtain ⟨h2,_⟩:=ovQh_nat (hi:=hi) (lo:=lo) hb 64 64 (by omega) (by omega)
 obtain ⟨h3,_⟩:=ov_inv (hi:=hi) (lo:=lo) hb 128 (by omega)
 have e0:(hi.toNat * 2 ^ 64+lo.toNat) / 2 ^ 128=0:=by omega
 have e1:(hi.toNat * 2 ^ 64+lo.toNat) / 2 ^ 64=hi.toNat:=by omega
 simp only [Nat.reduceAdd,Nat.reduceSub,e0,e1,Nat.zero_div,Nat.zero_mul,Nat.zero_add,Nat.pow_zero,Nat.div_one] at h1 h2 h3
 exact ⟨h1.symm,h2.trans (by rw [h1]),h3⟩
theorem over_small {a b:BitVec 64} (hb:b≠0#64):ovQh 0#64 a b 64 64=a / b∧ovR 0#64 a b 128=a % b:=by
 obtain ⟨h1,h2,h3⟩:=over_nat (hi:=0#64) (lo:=a) hb
 simp at h1 h2 h3
 rw [h1] at h2
 exact ⟨BitVec.eq_of_toNat_eq (by simp;omega),BitVec.eq_of_toNat_eq (by simp;omega)⟩
theorem belowU_msb {a:BitVec 64}:belowU a=a.msb:=by
 have:a.msb=a.getLsbD 63:=by simp [BitVec.msb_eq_getLsbD_last]
 rw [this]
 unfold belowU bitU
 rw [if_pos (by omega)]
 show decide ((if a.getLsbD 63=true then 1#64 else 0#64)=1#64)=a.getLsbD 63
 cases a.getLsbD 63 <;> rfl
theorem amountU_nat {a:BitVec 64}:(amountU a).toNat=a.toInt.natAbs:=by
 unfold amountU
 rw [belowU_msb,BitVec.toInt_eq_msb_cond]
 have hl:a.toNat < 2 ^ 64:=a.isLt
 split
 ·rename_i h
  have:=BitVec.msb_eq_true_iff_two_mul_ge.1 h
  simp only [BitVec.toNat_sub,BitVec.toNat_ofNat]
  omega
 ·rename_i h
  simp
theorem ofInt_w64 {x:Int}:BitVec.ofInt 64 (w64 x)=BitVec.ofInt 64 x:=by
 apply BitVec.eq_of_toNat_eq
 simp only [BitVec.toNat_ofInt]
 congr 1
 unfold w64;simp only [IntKind.wrap,IntKind.bits,IntKind.signed,Bool.true_and]
 split <;> simp at * <;> omega
theorem tdiv_abs (a b:Int):a.tdiv b=if decide (a < 0)=decide (b < 0) then ((a.natAbs / b.natAbs:Nat):Int) else -((a.natAbs / b.natAbs:Nat):Int):=by
 rcases (by omega:a < 0∨0≤a) with ha | ha <;> rcases (by omega:b < 0∨0≤b) with hb | hb
 ·have e1:a = -(a.natAbs:Int):=by omega
  have e2:b = -(b.natAbs:Int):=by omega
  rw [if_pos (by simp [ha,hb])]
  generalize a.natAbs=x at *;generalize b.natAbs=y at *
  subst e1 e2
  rw [Int.neg_tdiv_neg,Int.ofNat_tdiv]
 ·have e1:a = -(a.natAbs:Int):=by omega
  have e2:b=(b.natAbs:Int):=by omega
  rw [if_neg (by simp [ha];omega)]
  generalize a.natAbs=x at *;generalize b.natAbs=y at *
  subst e1 e2
  rw [Int.neg_tdiv,Int.ofNat_tdiv]
 ·have e1:a=(a.natAbs:Int):=by omega
  have e2:b = -(b.natAbs:Int):=by omega
  rw [if_neg (by simp [hb];omega)]
  generalize a.natAbs=x at *;generalize b.natAbs=y at *
  subst e1 e2
  rw [Int.tdiv_neg,Int.ofNat_tdiv]
 ·have e1:a=(a.natAbs:Int):=by omega
  have e2:b=(b.natAbs:Int):=by omega
  rw [if_pos (by simp;omega)]
  generalize a.natAbs=x at *;generalize b.natAbs=y at *
  subst e1 e2
  rw [Int.ofNat_tdiv]
theorem amount_ne {b:BitVec 64} (h:b≠0#64):amountU b≠0#64:=by
 intro e
 have:=amountU_nat (a:=b)
 rw [e] at this
 exact h (BitVec.eq_of_toInt_eq (by simp at this;simp;omega))
theorem below_neg {a:BitVec 64}:belowU a=decide (a.toInt < 0):=by
 rw [belowU_msb,BitVec.msb_eq_toInt]
theorem divU_ref (a b:BitVec 64):divU a b=refDivU a b true:=by
 unfold divU refDivU
 split
 ·rfl
 ·rename_i h;rw [if_pos rfl,(over_small h).1]
theorem remU_ref (a b:BitVec 64):a - b * divU a b=refRemU a b true:=by
 unfold divU refRemU
 split
 ·rename_i h;simp [h]
 ·rename_i h
  rw [if_pos rfl,(over_small h).2]
  apply BitVec.eq_of_toNat_eq
  have hd:=Nat.div_add_mod a.toNat b.toNat
  have hl:a.toNat < 2 ^ 64:=a.isLt
  simp only [BitVec.toNat_sub,BitVec.toNat_mul,BitVec.toNat_udiv,BitVec.toNat_umod]
  generalize b.toNat * (a.toNat / b.toNat)=X at *
  omega
theorem divS_int (a b:BitVec 64) (hb:b≠0#64):divS a b=BitVec.ofInt 64 (a.toInt.tdiv b.toInt):=by
 unfold divS
 rw [if_neg hb]
 split
 ·rename_i h
  subst h
  have:(18446744073709551615#64).toInt = -1:=by decide
  rw [this,Int.tdiv_neg,Int.tdiv_one,BitVec.ofInt_neg,BitVec.ofInt_toInt]
 ·exact ofInt_w64
theorem quo_abs (a b:BitVec 64) (hb:b≠0#64):ovQh 0#64 (amountU a) (amountU b) 64 64=BitVec.ofInt 64 (a.toInt.natAbs / b.toInt.natAbs:Nat):=by
 rw [(over_small (amount_ne hb)).1]
 apply BitVec.eq_of_toNat_eq
 rw [BitVec.toNat_udiv,amountU_nat,amountU_nat]
 have h1:=amountU_nat (a:=a)
 have h2:(amountU a).toNat < 2 ^ 64:=(amountU a).isLt
 have h3:=Nat.div_le_self a.toInt.natAbs b.toInt.natAbs
 generalize a.toInt.natAbs / b.toInt.natAbs=X at *
 simp only [BitVec.toNat_ofInt]
 omega
theorem rem_abs (a b:BitVec 64) (hb:b≠0#64):ovR 0#64 (amountU a) (amountU b) 128=BitVec.ofInt 64 (a.toInt.natAbs % b.toInt.natAbs:Nat):=by
 rw [(over_small (amount_ne hb)).2]
 apply BitVec.eq_of_toNat_eq
 rw [BitVec.toNat_umod,amountU_nat,amountU_nat]
 have h1:=amountU_nat (a:=a)
 have h2:(amountU a).toNat < 2 ^ 64:=(amountU a).isLt
 have h3:=Nat.mod_le a.toInt.natAbs b.toInt.natAbs
 generalize a.toInt.natAbs % b.toInt.natAbs=X at *
 simp only [BitVec.toNat_ofInt]
 omega
theorem ofInt_sub' (x y:Int):BitVec.ofInt 64 (x - y)=BitVec.ofInt 64 x - BitVec.ofInt 64 y:=by
 rw [Int.sub_eq_add_neg,BitVec.ofInt_add,BitVec.ofInt_neg,BitVec.sub_eq_add_neg]
theorem divS_ref (a b:BitVec 64):divS a b=refDivU a b false:=by
 by_cases h:b=0#64
 ·unfold divS refDivU;rw [if_pos h,if_pos h]
 ·rw [divS_int a b h,tdiv_abs]
  simp only [refDivU,h,if_false,Bool.false_eq_true,quo_abs a b h,below_neg]
  by_cases h2:decide (a.toInt < 0)=decide (b.toInt < 0)
  ·rw [if_pos h2,if_pos h2]
  ·rw [if_neg h2,if_neg h2,BitVec.ofInt_neg,BitVec.zero_sub]
theorem tmod_abs (a b:Int):a.tmod b=if a < 0 then -((a.natAbs % b.natAbs:Nat):Int) else ((a.natAbs % b.natAbs:Nat):Int):=by
 rw [Int.tmod_def,tdiv_abs]
 have hd:=Nat.div_add_mod a.natAbs b.natAbs
 have hd:((b.natAbs * (a.natAbs / b.natAbs):Nat):Int)+((a.natAbs % b.natAbs:Nat):Int)=(a.natAbs:Int):=by omega
 rw [Int.natCast_mul] at hd
 generalize ((a.natAbs / b.natAbs:Nat):Int)=q at *
 generalize ((a.natAbs % b.natAbs:Nat):Int)=r at *
 rcases (by omega:a < 0∨0≤a) with ha | ha <;> rcases (by omega:b < 0∨0≤b) with hb | hb
 ·have e2:(b.natAbs:Int) = -b:=by omega
  rw [e2,Int.neg_mul] at hd
  rw [if_pos (by simp [ha,hb]),if_pos ha];omega
 ·have e2:(b.natAbs:Int)=b:=by omega
  rw [e2] at hd
  rw [if_neg (by simp [ha];omega),if_pos ha,Int.mul_neg];omega
 ·have e2:(b.natAbs:Int) = -b:=by omega
  rw [e2,Int.neg_mul] at hd
  rw [if_neg (by simp [hb];omega),if_neg (by omega),Int.mul_neg];omega
 ·have e2:(b.natAbs:Int)=b:=by omega
  rw [e2] at hd
  rw [if_pos (by simp;omega),if_neg (by omega)];omega
theorem remS_ref (a b:BitVec 64):a - b * divS a b=refRemU a b false:=by
 by_cases h:b=0#64
 ·unfold refRemU;rw [if_pos h,h];simp
 ·have e:a - b * divS a b=BitVec.ofInt 64 (a.toInt.tmod b.toInt):=by
   rw [divS_int a b h,Int.tmod_def,ofInt_sub',BitVec.ofInt_mul,BitVec.ofInt_toInt,BitVec.ofInt_toInt]
  rw [e,tmod_abs]
  simp only [refRemU,h,if_false,Bool.false_eq_true,rem_abs a b h,below_neg,decide_eq_true_eq]
  by_cases h2:a.toInt < 0
  ·rw [if_pos h2,if_pos h2,BitVec.ofInt_neg,BitVec.zero_sub]
  ·rw [if_neg h2,if_neg h2]
def tk (part b:BitVec 64) (s:BitVec 64 × BitVec 64):Nat→BitVec 64 × BitVec 64
 | 0=>s
 | k+1 =>
   if (tk part b s k).1 >>> 63=1#64∨b≤((tk part b s k).1 <<< 1 ||| (part >>> (63 - k) &&& 1#64)) then
    (((tk part b s k).1 <<< 1 ||| (part >>> (63 - k) &&& 1#64)) - b,(tk part b s k).2 <<< 1 ||| 1#64)
   else (((tk part b s k).1 <<< 1 ||| (part >>> (63 - k) &&& 1#64)),(tk part b s k).2 <<< 1)
def carryU (a b:BitVec 64):BitVec 64:=if a+b < a then 1#64 else 0#64
def s_digits (args:List AV) (H:AH):Option (AV × AH) :=
 match args with
 | [.c (.u w)]=>some (.c (.sl H.length 0 4 4),H++[.vec 1 [.u (w % 65536#64),.u (w / 65536#64 % 65536#64),.u (w / 4294967296#64 % 65536#64),.u (w / 281474976710656#64)]])
 | _=>none
theorem s_digits_eq {w:BitVec 64} {H:AH}:s_digits [.c (.u w)] H=some (.c (.sl H.length 0 4 4),H++[.vec 1 [.u (w % 65536#64),.u (w / 65536#64 % 65536#64),.u (w / 4294967296#64 % 65536#64),.u (w / 281474976710656#64)]]):=rfl
theorem len_digits (args:List AV) (H:AH) (v:AV) (H1:AH) (h:s_digits args H=some (v,H1)):H.length≤H1.length:=by
 unfold s_digits at h
 split at h <;> simp at h
 rw [←h.2];simp
theorem ok_digits:FpOk Tryz.prog 138 s_digits:=by
 refine fp_ok (s:=s_digits) (tab:=[]) hmix TabOk.nil Tryz.func138 rfl Tryz.results138 Tryz.ntmps138 (by kernel_rfl) (by kernel_rfl) len_digits ?_
 intro args H v H1 h hargs hH
 unfold s_digits at h
 split at h
 ·rename_i w
  simp only [Option.some.injEq,Prod.mk.injEq] at h
  obtain ⟨rfl,rfl⟩:=h
  refine ⟨by simp only [List.length_cons,List.length_nil];decide,?_⟩
  simp (maxSteps:=9^9) only [go_sem,seval]
  refine ⟨_,rfl,Wk.wk (by simp) (by simp [Am.get]) (by simp [AV.bel,Sc.bel]) (subH_refl _) ?_⟩
  simp only [List.all_append,List.all_cons,List.all_nil,Bool.and_true,Bool.and_eq_true,AObj.cells,AObj.scs,Sc.bel,and_true,List.length_append]
  refine List.all_eq_true.2 fun o ho=>List.all_eq_true.2 fun s hs=>?_
  have:=List.all_eq_true.1 (List.all_eq_true.1 hH o ho) s hs
  exact Sc.bel_mono this (by omega)
 ·simp at h
def uOf:Sc→BitVec 64
 | .u x=>x
 | _=>0#64
def isU:Sc→Bool
 | .u _=>true
 | _=>false
def wv (l:List Sc) (a:Nat):Nat→BitVec 64
 | 0=>0#64
 | k+1=>wv l a k * 65536#64+uOf (l.getD (a+(3 - k)) .any)
def s_word (args:List AV) (H:AH):Option AV :=
 match args with
 | [.c (.sl id 0 v n),.c (.i a)]=>if 0≤a∧a≤1000∧a+4≤n∧n≤(hg H id).cells.length∧v=(hg H id).row∧(hg H id).cells.all isU=true then some (.c (.u (wv (hg H id).cells a.toNat 4))) else none
 | _=>none
theorem s_word_eq {id v n:Nat} {a:Int} {H:AH}:s_word [.c (.sl id 0 v n),.c (.i a)] H=if 0≤a∧a≤1000∧a+4≤n∧n≤(hg H id).cells.length∧v=(hg H id).row∧(hg H id).cells.all isU=true then some (.c (.u (wv (hg H id).cells a.toNat 4))) else none:=rfl
theorem getU {l:List Sc} {i:Nat} (h:l.all isU=true) (hi:i < l.length):l.getD i .any=.u (uOf (l.getD i .any)):=by
 have e:l.getD i .any=l[i]:=by simp [List.getD_eq_getElem?_getD,hi]
 rw [e]
 have:=List.all_eq_true.1 h l[i] (List.getElem_mem hi)
 cases hl:l[i] <;> rw [hl] at this <;> simp [isU] at this;rfl
theorem ok_word:FpOk Tryz.prog 139 (fun args H=>(s_word args H).map fun v=>(v,H)):=by
 refine fq_ok (s:=s_word) (tab:=[]) hmix TabOk.nil Tryz.func139 rfl Tryz.results139 Tryz.ntmps139 (by kernel_rfl) (by kernel_rfl) ?_
 intro args H v h hargs hH
 unfold s_word at h
 split at h
 ·rename_i id v n a
  split at h
  ·rename_i hc
   obtain ⟨h0,h1,h2,h3,h4,h5⟩:=hc
   simp only [Option.some.injEq] at h
   subst h
   obtain ⟨m,rfl⟩:=Int.eq_ofNat_of_zero_le h0
   generalize hl:(hg H id).cells=l at *
   have lid:id < H.length:=by
    refine hg_lt ?_
    cases hh:hg H id <;> first | rfl | (rw [hh] at hl;simp [AObj.cells,AObj.scs] at hl;subst hl;simp at h3;omega)
   refine ⟨by simp only [List.length_cons,List.length_nil];decide,rfl,?_⟩
   simp (maxSteps:=9^9) only [go_sem,seval]
   rw [arun_loop]
   refine ⟨{k:Nat // k≤4},fun k=>([(0,.c (.sl id 0 v n)),(1,.c (.i m)),(5,.c (.u (wv l m k.1))),(6,.c (.i (3 - k.1)))],H),fun k=>4 - k.1,⟨0,by omega⟩,?_,?_⟩
   ·exact Wk.wk (by simp [lo]) (by simp [Am.get,wv]) (by simp [AV.bel,Sc.bel,lid]) (subH_refl _) hH
   ·rintro ⟨k,hk⟩
    by_cases hlt:k < 4
    ·have e1:w64 (3 - (k:Int) - 1)=3 - ((k+1:Nat):Int):=by rw [w64_of (by omega)];omega
     have e2:((0:Int)≤3 - (k:Int))=True:=by simp;omega
     have e3:w64 ((m:Int)+(3 - (k:Int)))=((m+(3 - k):Nat):Int):=by rw [w64_of (by omega)];omega
     have e4:(0≤((m+(3 - k):Nat):Int))=True:=by simp;omega
     have e5:(((m+(3 - k):Nat):Int) < (n:Int))=True:=by simp;omega
     have e6:(m+(3 - k)+1≤l.length)=True:=by simp;omega
     have e7:=getU h5 (i:=m+(3 - k)) (by omega)
     simp (maxSteps:=9^9) only [go_sem,seval,e1,e2,e3,e4,e5,hl,e6,←h4]
     rw [e7]
     simp (maxSteps:=9^9) only [go_sem,seval,e1]
     exact ⟨⟨k+1,by omega⟩,by simp;omega,Wk.wk (by simp [lo]) (by simp [Am.get,wv]) (by simp [AV.bel,Sc.bel,lid]) (subH_refl _) hH⟩
    ·obtain rfl:k=4:=by omega
     have e2:((0:Int)≤3 - 4)=False:=by simp
     simp (maxSteps:=9^9) only [go_sem,seval,e2]
     exact subH_refl _
  ·simp at h
 ·simp at h
def sizeU (a:BitVec 64):BitVec 64:=if a.toInt < 0 then -a else a
def negHi (h l:BitVec 64):BitVec 64:= ~~~h+0#64+carryU (~~~l) 1#64
def highMixedU (a b:BitVec 64):BitVec 64:=if a.toInt < 0 then negHi (timesHi (sizeU a) b) (timesLo (sizeU a) b) else timesHi (sizeU a) b
def highU (a b:BitVec 64):BitVec 64:=if decide (a.toInt < 0)=decide (b.toInt < 0) then timesHi (sizeU a) (sizeU b) else negHi (timesHi (sizeU a) (sizeU b)) (timesLo (sizeU a) (sizeU b))
def oH (hi b:BitVec 64):BitVec 64:=if b=0#64 then 0#64 else (tk hi b (0#64,0#64) 64).2
def oL (hi lo b:BitVec 64):BitVec 64:=if b=0#64 then 0#64 else (tk lo b ((tk hi b (0#64,0#64) 64).1,0#64) 64).2
end
end Go.Proofs.YteclombpnhociaaGreat
set_option maxRecDepth 100000
set_option maxHeartbeats 8000000
namespace Go.Proofs.YteclombpnhociaaGreat
open Go.Am
set_option linter.unusedSimpArgs false
set_option linter.unusedVariables false
noncomputable section
def ofF (pl:Bool) (a:BitVec 64):BitVec 64:=if pl=true then lowU a 32 else signU a 32
def opF (fn:Nat) (x y:BitVec 64):BitVec 64 :=
 if fn=900001 then x * y else if fn=900002 then divS x y else if fn=900003 then x - y * divS x y else if fn=900004 then divU x y else x - y * divU x y
def s_short (args:List AV):Option AV :=
 match args with
 | [.c .nilf,.c (.b _),.c (.u _),.c (.u _)]=>some (.c (.u 0#64))
 | [.c (.f fn []),.c (.b pl),.c (.u a),.c (.u b)] =>
   if fn=900001∨fn=900002∨fn=900003∨fn=900004∨fn=900005 then some (.c (.u (signU (opF fn (ofF pl a) (ofF pl b)) 32))) else none
 | _=>none
def s_rhalf (args:List AV):Option AV :=
 match args with
 | [.c (.u a),.c (.b pl)]=>some (.c (.u (ofF pl a)))
 | _=>none
theorem s_rhalf_eq {a pl}:s_rhalf [.c (.u a),.c (.b pl)]=some (.c (.u (ofF pl a))):=rfl
theorem ok_rhalf:PuOk Tryz.prog 130 s_rhalf:=by
 refine pu_ok (tab:=[(81,.pu s_rsign)]) hmix (TabOk.cons (e:=.pu s_rsign) ok_rsign TabOk.nil) Tryz.func130 rfl Tryz.results130 Tryz.ntmps130 (by kernel_rfl) (by kernel_rfl) ?_
 intro args v h
 unfold s_rhalf at h
 split at h
 ·rename_i a pl
  simp only [Option.some.injEq] at h;subst h
  refine ⟨by simp only [List.length_cons,List.length_nil];decide,rfl,rfl,?_⟩
  have i1:inR 32:=⟨by omega,by omega⟩
  have e:a % 4294967296#64=lowU a 32:=by
   refine ofG_ext fun i hi=>?_
   have e1:(a % 4294967296#64).getLsbD i=(a.toNat % 2 ^ 32).testBit i:=by
    have:(a % 4294967296#64).toNat=a.toNat % 2 ^ 32:=by rw [BitVec.toNat_umod];rfl
    rw [←this];rfl
   rw [e1,Nat.testBit_mod_two_pow]
   have:decide (i < 32)=decide ((i:Int) < 32):=decide_eq_decide.2 (by omega)
   rw [this];rfl
  cases pl
  ·simp (maxSteps:=9^9) only [go_sem,seval,s_rsign_eq,i1,ofF]
  ·simp (maxSteps:=9^9) only [go_sem,seval,s_rsign_eq,e,ofF]
 ·simp at h
end
end Go.Proofs.YteclombpnhociaaGreat
