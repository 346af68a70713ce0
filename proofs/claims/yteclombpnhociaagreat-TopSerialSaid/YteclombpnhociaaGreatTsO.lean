/- Layer 32: a world's bytes, and memory in lines: plain laws. -/
import Derived.Test.YteclombpnhociaaGreatFlL
import Derived.Test.YteclombpnhociaaGreatTy
import Derived.Test.YteclombpnhociaaGreatWideX
set_option maxRecDepth 100000
set_option maxHeartbeats 8000000
namespace Go.Proofs.YteclombpnhociaaGreat
open Go.Am
set_option linter.unusedSimpArgs false
set_option linter.unusedVariables false
noncomputable section
theorem off_same (x:BitVec 64):offW x=offN x:=by rw [ofF_eq,offN_eq]
theorem hasF_B {n:Nat} {x:BitVec 64} {m:Int}:hasF (64 * n) x m=hasB n x m:=by unfold hasF hasB;rw [off_same]
theorem has_bytes {n:Nat} (hn:n≤4096) {a:BitVec 64} {m:Int} (h1:1≤m) (h8:m≤8):hasB n a m=true ↔ ∀j:Int,0≤j→j < m→hasB n (a+BitVec.ofInt 64 j) 1=true:=by
 constructor
 ·intro h j j0 j1
  have e:=off_add hn h j0 j1
  have h':=h
  rw [hasB_iff] at h'
  have e0:(BitVec.ofInt 64 j).toNat=j.toNat:=by rw [BitVec.toNat_ofInt];omega
  have e2:(a+BitVec.ofInt 64 j).toNat=a.toNat+j.toNat:=by
   rw [BitVec.toNat_add,e0]
   have:=a.isLt
   rw [offN_eq] at h'
   omega
  rw [hasB_iff,e,e2]
  omega
 ·intro h
  have z:=h 0 (by omega) (by omega)
  have z1:a+BitVec.ofInt 64 0=a:=BitVec.add_zero _
  rw [z1,hasB_iff] at z
  have y:=h (m - 1) (by omega) (by omega)
  rw [hasB_iff] at y
  have e0:(BitVec.ofInt 64 (m - 1)).toNat=(m - 1).toNat:=by rw [BitVec.toNat_ofInt];omega
  have z':=z
  rw [offN_eq] at z'
  have e2:(a+BitVec.ofInt 64 (m - 1)).toNat=a.toNat+(m - 1).toNat:=by
   rw [BitVec.toNat_add,e0]
   have:=a.isLt
   omega
  rw [offN_eq,e2] at y
  rw [hasB_iff]
  rw [offN_eq] at z ⊢
  omega
theorem all_bytesF {n:Nat} (hn:n≤4096) {B:Int→BitVec 64} {l:List Pc}:∀{m:Int},0≤m→gd2 B l m→((l.all fun p=>hasB n p.a p.n)=true ↔ ∀i:Int,m≤i→i < m+tot l→hasB n (B i) 1=true):=by
 induction l with
 | nil=>intro m _ _;simp only [List.all_nil,tot];exact ⟨fun _ i h1 h2=>by omega,fun _=>trivial⟩
 | cons p l ih =>
   intro m h0 h
   obtain ⟨a1,a2,a3,a4,a6⟩:=h
   have ih:=ih (by omega) a6
   have t0:=tot_drop a6 0
   rw [List.drop_zero] at t0
   have pb:=has_bytes hn (a:=p.a) a2 (by omega)
   rw [List.all_cons,Bool.and_eq_true,ih,pb]
   simp only [tot]
   constructor
   ·rintro ⟨h1,h2⟩ i i1 i2
    by_cases c:i < m+p.n
    ·have e:=(a4 (i - m) (by omega) (by omega)).1
     rw [show m+(i - m)=i by omega] at e
     rw [e];exact h1 _ (by omega) (by omega)
    ·exact h2 i (by omega) (by omega)
   ·intro h
    refine ⟨fun j j0 j1=>?_,fun i i1 i2=>h i (by omega) (by omega)⟩
    have e:=(a4 j j0 j1).1
    rw [←e];exact h _ (by omega) (by omega)
theorem has_parts {n:Nat} (hn:n≤4096) {a b:BitVec 64} {c s:Int} (h:smB c s=true):hasP (64 * n) a b c s=((accP a b c s).all fun p=>hasB n p.a p.n):=by
 have hm:1≤s∧s≤8∧0≤c∧c < s:=by simpa [smB] using h
 have e:=all_bytesF hn (Int.le_refl 0) (gd2_acc (a:=a) (b:=b) h)
 rw [(good_acc (a:=a) (b:=b) h).2.1,Int.zero_add] at e
 rw [Bool.eq_iff_iff,e]
 unfold hasP
 by_cases c0:c=0
 ·subst c0
  rw [if_pos rfl,hasF_B,has_bytes hn (by omega) (by omega)]
  have q:∀i:Int,byteU a b 0 i=a+BitVec.ofInt 64 i:=fun i=>by unfold byteU;rw [if_neg (by omega)]
  simp only [q]
 ·rw [if_neg c0,Bool.and_eq_true,hasF_B,hasF_B,has_bytes hn (by omega) (by omega),has_bytes hn (by omega) (by omega)]
  constructor
  ·rintro ⟨h1,h2⟩ i i0 i1
   unfold byteU
   by_cases ci:c≤i
   ·rw [if_pos ⟨by omega,ci⟩];exact h2 _ (by omega) (by omega)
   ·rw [if_neg (by omega)];exact h1 _ i0 (by omega)
  ·intro h
   refine ⟨fun j j0 j1=>?_,fun j j0 j1=>?_⟩
   ·have:=h j j0 (by omega)
    unfold byteU at this
    rwa [if_neg (by omega)] at this
   ·have:=h (c+j) (by omega) (by omega)
    unfold byteU at this
    rwa [if_pos (by omega),show c+j - c=j by omega] at this
def byN (f:Nat→BitVec 8) (N:Nat):List Int:=(List.range N).map fun j=>((f j).toNat:Int)
theorem byN_len {f:Nat→BitVec 8} {N:Nat}:(byN f N).length=N:=by simp [byN]
theorem byN_at {f:Nat→BitVec 8} {N j:Nat} (h:j < N):(byN f N)[j]?=some ((f j).toNat:Int):=by
 unfold byN
 rw [List.getElem?_map,List.getElem?_range h];rfl
theorem byN_by {f:Nat→BitVec 8} {N:Nat}:∀x∈byN f N,0≤x∧x≤255:=fun x hx=>by
 unfold byN at hx
 obtain ⟨j,_,rfl⟩:=List.mem_map.1 hx
 have:=(f j).isLt
 omega
theorem numW_bit {L:List Int} (hL:∀x∈L,0≤x∧x≤255) {i:Nat} (hi:i < 64):(numW L).getLsbD i=((L.getD (i / 8) 0).toNat).testBit (i % 8):=by
 induction L generalizing i with
 | nil=>simp [numW]
 | cons b L ih =>
   have hb:=hL b (by simp)
   obtain ⟨n,rfl⟩:∃n:Nat,b=(n:Int):=⟨b.toNat,by omega⟩
   have hn:n < 256:=by omega
   show (stF (n:Int) (numW L)).getLsbD i=_
   unfold stF
   have eb:(BitVec.ofInt 64 (n:Int)).getLsbD i=n.testBit i:=by
    rw [BitVec.getLsbD,BitVec.toNat_ofInt]
    congr 1
    omega
   rw [BitVec.getLsbD_or,BitVec.getLsbD_shiftLeft,eb]
   by_cases c:i < 8
   ·rw [show i / 8=0 by omega,show i % 8=i by omega]
    simp [c]
   ·have e0:n.testBit i=false:=by
     apply Nat.testBit_lt_two_pow
     have:2 ^ 8≤2 ^ i:=Nat.pow_le_pow_right (by decide) (by omega)
     have e8:(2:Nat) ^ 8=256:=rfl
     omega
    obtain ⟨j,rfl⟩:∃j,i=j+8:=⟨i - 8,by omega⟩
    rw [e0,show j+8 - 8=j by omega,ih (fun x hx=>hL x (by simp [hx])) (by omega),show (j+8) / 8=j / 8+1 by omega,show (j+8) % 8=j % 8 by omega]
    simp [c,hi]
theorem num_cut {f:Nat→BitVec 8} {N o n:Nat} (h:o+n≤N) (h8:n≤8):numW (((byN f N).drop o).take n)=rdB f o n:=by
 unfold rdB
 refine ofG_ext fun i hi=>?_
 rw [numW_bit (fun x hx=>byN_by x (List.mem_of_mem_drop (List.mem_of_mem_take hx))) hi,List.getD_eq_getElem?_getD,List.getElem?_take]
 by_cases c:i / 8 < n
 ·rw [if_pos c,List.getElem?_drop,byN_at (by omega),decide_eq_true (by omega)]
  simp [BitVec.getLsbD]
 ·rw [if_neg c,decide_eq_false (by omega)]
  simp
theorem wV_get {n:Nat} (hn:n≤4096) {M:Nat × MapE} {a b:BitVec 64} {c s:Int} (hm:smB c s=true) (hp:hasP (64 * n) a b c s=true):numW (btsW (byN (memB M.2) (64 * n)) a b c s)=getA M.2 (byteU a b c) s:=by
 have hm':1≤s∧s≤8∧0≤c∧c < s:=by simpa [smB] using hm
 unfold getA
 refine ofG_ext fun i hi=>?_
 unfold hasP at hp
 by_cases c0:c=0
 ·subst c0
  rw [if_pos rfl,hasF_B] at hp
  have h':=hp
  rw [hasB_iff] at h'
  unfold btsW
  rw [if_pos rfl,off_same,num_cut (by omega) (by omega)]
  unfold rdB
  rw [ofG_get hi]
  by_cases ci:i / 8 < s.toNat
  ·have e:=off_add hn hp (j:=((i / 8:Nat):Int)) (by omega) (by omega)
   unfold byteU
   rw [if_neg (by omega),e,Int.toNat_natCast,decide_eq_true (by omega),decide_eq_true (by omega)]
  ·rw [decide_eq_false (by omega),decide_eq_false (by omega)];rfl
 ·rw [if_neg c0,Bool.and_eq_true,hasF_B,hasF_B] at hp
  obtain ⟨p1,p2⟩:=hp
  have h1:=p1
  have h2:=p2
  rw [hasB_iff] at h1 h2
  unfold btsW
  rw [if_neg c0,off_same,off_same]
  have l1:(((byN (memB M.2) (64 * n)).drop (offN a)).take c.toNat).length=c.toNat:=by rw [List.length_take,List.length_drop,byN_len];omega
  rw [numW_bit (fun x hx=>by
   rcases List.mem_append.1 hx with g | g
   ·exact byN_by x (List.mem_of_mem_drop (List.mem_of_mem_take g))
   ·exact byN_by x (List.mem_of_mem_drop (List.mem_of_mem_take g))) hi,List.getD_eq_getElem?_getD]
  by_cases c1:i / 8 < c.toNat
  ·have e:=off_add hn p1 (j:=((i / 8:Nat):Int)) (by omega) (by omega)
   unfold byteU
   rw [List.getElem?_append_left (by omega),List.getElem?_take_of_lt c1,List.getElem?_drop,byN_at (by omega),if_neg (by omega),e,Int.toNat_natCast,decide_eq_true (by omega)]
   simp [BitVec.getLsbD]
  ·rw [List.getElem?_append_right (by omega),l1]
   by_cases c2:i / 8 < s.toNat
   ·have e:=off_add hn p2 (j:=((i / 8:Nat):Int) - c) (by omega) (by omega)
    unfold byteU
    rw [List.getElem?_take_of_lt (by omega),List.getElem?_drop,byN_at (by omega),if_pos (by omega),e,decide_eq_true (by omega),show (((i / 8:Nat):Int) - c).toNat=i / 8 - c.toNat by omega]
    simp [BitVec.getLsbD]
   ·rw [List.getElem?_eq_none (by rw [List.length_take];omega),decide_eq_false (by omega)]
    simp
def wrW (f:Nat→BitVec 8) (A:Nat→Nat) (v:BitVec 64) (m:Nat):Nat→Nat→BitVec 8
 | 0=>f
 | k+1=>fun j=>if j=A (m+k) then (v >>> (8 * (m+k))).setWidth 8 else wrW f A v m k j
theorem wrW_add {f:Nat→BitVec 8} {A:Nat→Nat} {v:BitVec 64} {m k:Nat}:∀{l:Nat},wrW f A v m (k+l)=wrW (wrW f A v m k) A v (m+k) l
 | 0=>rfl
 | l+1=>by
   funext j
   show (if j=A (m+(k+l)) then (v >>> (8 * (m+(k+l)))).setWidth 8 else wrW f A v m (k+l) j)=(if j=A (m+k+l) then (v >>> (8 * (m+k+l))).setWidth 8 else wrW (wrW f A v m k) A v (m+k) l j)
   rw [wrW_add (l:=l),Nat.add_assoc]
theorem wrW_run {f:Nat→BitVec 8} {A:Nat→Nat} {v:BitVec 64} {m o:Nat}:∀{k:Nat},(∀i,i < k→A (m+i)=o+i)→∀j,wrW f A v m k j=if o≤j∧j < o+k then (v >>> (8 * (m+(j - o)))).setWidth 8 else f j
 | 0,_,j=>by rw [if_neg (by omega)];rfl
 | k+1,h,j=>by
   show (if j=A (m+k) then _ else wrW f A v m k j)=_
   rw [h k (by omega),wrW_run (fun i hi=>h i (by omega)) j]
   by_cases c:j=o+k
   ·rw [if_pos c,if_pos (by omega)]
    congr 3
    omega
   ·rw [if_neg c]
    by_cases c2:o≤j∧j < o+k
    ·rw [if_pos c2,if_pos (by omega)]
    ·rw [if_neg c2,if_neg (by omega)]
theorem part_byte {v:BitVec 64} {n m:Int} (h1:1≤n) (h0:0≤m) (h8:m+n≤8) {i:Nat} (hi:(i:Int) < n):((partU v n (8 * m)) >>> (8 * i)).setWidth 8=(v >>> (8 * (m.toNat+i))).setWidth 8:=by
 have hr:rightB n (8 * m)=true:=by simp [rightB];omega
 unfold partU
 rw [if_pos hr]
 apply BitVec.eq_of_getLsbD_eq
 intro j hj
 rw [BitVec.getLsbD_setWidth,BitVec.getLsbD_setWidth,BitVec.getLsbD_ushiftRight,BitVec.getLsbD_ushiftRight]
 unfold cutU bitB
 rw [ofG_get (by omega),decide_eq_true (by omega)]
 have e:(8 * m+((8 * i+j:Nat):Int)).toNat=8 * (m.toNat+i)+j:=by omega
 simp only [e,Bool.true_and]
 rw [decide_eq_true (show (0:Int)≤8 * m+((8 * i+j:Nat):Int) by omega),decide_eq_true (show 8 * m+((8 * i+j:Nat):Int)≤63 by omega),decide_eq_true (show ((8 * i+j:Nat):Int) < 8 * n by omega)]
 rfl
theorem stA_wrW {N:Nat} (hN:N≤4096) {B:Int→BitVec 64} {v:BitVec 64} {l:List Pc}:∀{m:Int} {M:Nat × MapE},0≤m→gd2 B l m→wfE N M→(∀p∈l,hasB N p.a p.n=true)→memB (stA M l v).2=wrW (memB M.2) (fun i=>offN (B i)) v m.toNat (tot l).toNat:=by
 induction l with
 | nil=>intro m M _ _ _ _;rfl
 | cons p l ih =>
   intro m M h0 hg hM hh
   obtain ⟨a1,a2,a3,a4,a6⟩:=hg
   have hp:=hh p (by simp)
   have hp':=hp
   rw [hasB_iff] at hp'
   have t0:=tot_drop a6 0
   rw [List.drop_zero] at t0
   have w1:wfE N (stM M (offN p.a) p.n.toNat (partU v p.n p.s)):=wfE_stM hM (by omega) (by omega) (by omega)
   have e:=ih (m:=m+p.n) (M:=stM M (offN p.a) p.n.toNat (partU v p.n p.s)) (by omega) a6 w1 (fun q hq=>hh q (by simp [hq]))
   have e1:memB (stM M (offN p.a) p.n.toNat (partU v p.n p.s)).2=wrW (memB M.2) (fun i=>offN (B i)) v m.toNat p.n.toNat:=by
    funext j
    rw [memB_st hM (by omega) (by omega) (by omega),wrW_run (o:=offN p.a) (fun i hi=>?_)]
    ·by_cases c:offN p.a≤j∧j < offN p.a+p.n.toNat
     ·rw [if_pos c,if_pos c,a1]
      exact part_byte a2 h0 a3 (by omega)
     ·rw [if_neg c,if_neg c]
    ·have q:=(a4 (i:Int) (by omega) (by omega)).1
     rw [show ((m.toNat+i:Nat):Int)=m+(i:Int) by omega,q,off_add hN hp (by omega) (by omega),Int.toNat_natCast]
   show memB (stA (stM M (offN p.a) p.n.toNat (partU v p.n p.s)) l v).2=_
   rw [e,e1]
   show _=wrW _ _ _ _ (p.n+tot l).toNat
   rw [show (p.n+tot l).toNat=p.n.toNat+(tot l).toNat by omega,wrW_add,show (m+p.n).toNat=m.toNat+p.n.toNat by omega]
theorem layB_byN {f:Nat→BitVec 8} {A:Nat→Nat} {v:BitVec 64} {N o k m:Nat} (hA:∀i,i < k→A (m+i)=o+i) (h:o+k≤N):layB (byN f N) o (lbL (v >>> (8 * m)) k)=byN (wrW f A v m k) N:=by
 apply List.ext_getElem?
 intro j
 have e:=wrW_run (f:=f) (v:=v) hA j
 have l1:((byN f N).take o).length=o:=by rw [List.length_take,byN_len];omega
 rcases Nat.lt_or_ge j N with hj | hj
 ·rw [byN_at hj,e]
  unfold layB
  rw [lbL_len]
  by_cases c1:j < o
  ·rw [if_neg (by omega),List.append_assoc,List.getElem?_append_left (by omega),List.getElem?_take_of_lt c1,byN_at hj]
  ·by_cases c2:j < o+k
   ·rw [if_pos (by omega),List.getElem?_append_left (by rw [List.length_append,l1,lbL_len];omega),List.getElem?_append_right (by omega),l1]
    unfold lbL
    rw [List.getElem?_map,List.getElem?_range (by omega)]
    show some (lbW (v >>> (8 * m)) (j - o))=_
    unfold lbW
    rw [←BitVec.shiftRight_add,show 8 * m+8 * (j - o)=8 * (m+(j - o)) by omega]
   ·rw [if_neg (by omega),List.getElem?_append_right (by rw [List.length_append,l1,lbL_len];omega),List.length_append,l1,lbL_len,List.getElem?_drop,show o+k+(j - (o+k))=j by omega,byN_at hj]
 ·rw [List.getElem?_eq_none (by rw [layB_len (by rw [lbL_len,byN_len];exact h),byN_len];exact hj),List.getElem?_eq_none (by rw [byN_len];exact hj)]
theorem lay_byN {n:Nat} (hn:n≤4096) {f:Nat→BitVec 8} {a b:BitVec 64} {c s:Int} {v:BitVec 64} (hm:smB c s=true) (hp:hasP (64 * n) a b c s=true):layP (byN f (64 * n)) a b c s v=byN (wrW f (fun i=>offN (byteU a b c i)) v 0 s.toNat) (64 * n):=by
 have hm':1≤s∧s≤8∧0≤c∧c < s:=by simpa [smB] using hm
 unfold hasP at hp
 unfold layP
 by_cases c0:c=0
 ·subst c0
  rw [if_pos rfl,hasF_B] at hp
  have h':=hp
  rw [hasB_iff] at h'
  rw [if_pos rfl,off_same]
  have:=layB_byN (f:=f) (A:=fun i=>offN (byteU a b 0 i)) (v:=v) (N:=64 * n) (o:=offN a) (k:=s.toNat) (m:=0) (fun i hi=>?_) (by omega)
  ·simpa using this
  ·show offN (byteU a b 0 ((0+i:Nat):Int))=_
   unfold byteU
   rw [if_neg (by omega),off_add hn hp (by omega) (by omega),Nat.zero_add,Int.toNat_natCast]
 ·rw [if_neg c0,Bool.and_eq_true,hasF_B,hasF_B] at hp
  obtain ⟨p1,p2⟩:=hp
  have h1:=p1
  have h2:=p2
  rw [hasB_iff] at h1 h2
  rw [if_neg c0,off_same,off_same]
  have e1:=layB_byN (f:=f) (A:=fun i=>offN (byteU a b c i)) (v:=v) (N:=64 * n) (o:=offN a) (k:=c.toNat) (m:=0) (fun i hi=>by
   show offN (byteU a b c ((0+i:Nat):Int))=_
   unfold byteU
   rw [if_neg (by omega),off_add hn p1 (by omega) (by omega),Nat.zero_add,Int.toNat_natCast]) (by omega)
  have e2:=layB_byN (f:=wrW f (fun i=>offN (byteU a b c i)) v 0 c.toNat) (A:=fun i=>offN (byteU a b c i)) (v:=v) (N:=64 * n) (o:=offN b) (k:=(s - c).toNat) (m:=c.toNat) (fun i hi=>by
   show offN (byteU a b c ((c.toNat+i:Nat):Int))=_
   unfold byteU
   rw [if_pos (by omega),off_add hn p2 (by omega) (by omega)]
   omega) (by omega)
  rw [Nat.mul_zero,BitVec.ushiftRight_zero] at e1
  rw [e1,e2,show s.toNat=c.toNat+(s - c).toNat by omega,wrW_add,Nat.zero_add]
theorem lay_st {n:Nat} (hn:n≤4096) {M:Nat × MapE} (hw:wfE n M) {a b:BitVec 64} {c s:Int} {v:BitVec 64} (hm:smB c s=true) (hp:hasP (64 * n) a b c s=true):layP (byN (memB M.2) (64 * n)) a b c s v=byN (memB (stA M (accP a b c s) v).2) (64 * n):=by
 rw [lay_byN hn hm hp]
 rw [has_parts hn hm] at hp
 have:=stA_wrW hn (v:=v) (Int.le_refl 0) (gd2_acc (a:=a) (b:=b) hm) hw (fun p hq=>List.all_eq_true.1 hp p hq)
 rw [this,(good_acc (a:=a) (b:=b) hm).2.1];rfl
theorem lbL_low {v:BitVec 64} {s:Int} {m k:Nat} (h:((m+k:Nat):Int)≤s) (h8:s≤8):lbL ((lowU v (8 * s)) >>> (8 * m)) k=lbL (v >>> (8 * m)) k:=by
 unfold lbL
 refine List.map_congr_left fun i hi=>?_
 rw [List.mem_range] at hi
 unfold lbW
 congr 2
 apply BitVec.eq_of_getLsbD_eq
 intro j hj
 simp only [BitVec.getLsbD_setWidth,BitVec.getLsbD_ushiftRight]
 unfold lowU
 rw [ofG_get (by omega),decide_eq_true (show ((8 * m+(8 * i+j):Nat):Int) < 8 * s by omega),Bool.true_and]
theorem layP_low {B:List Int} {a b:BitVec 64} {c s:Int} {v:BitVec 64} (hm:smB c s=true):layP B a b c s (lowU v (8 * s))=layP B a b c s v:=by
 have hm':1≤s∧s≤8∧0≤c∧c < s:=by simpa [smB] using hm
 unfold layP
 by_cases c0:c=0
 ·rw [if_pos c0,if_pos c0]
  have:=lbL_low (v:=v) (s:=s) (m:=0) (k:=s.toNat) (by omega) (by omega)
  simp only [Nat.mul_zero,BitVec.ushiftRight_zero] at this
  rw [this]
 ·rw [if_neg c0,if_neg c0]
  have e1:=lbL_low (v:=v) (s:=s) (m:=0) (k:=c.toNat) (by omega) (by omega)
  have e2:=lbL_low (v:=v) (s:=s) (m:=c.toNat) (k:=(s - c).toNat) (by omega) (by omega)
  simp only [Nat.mul_zero,BitVec.ushiftRight_zero] at e1
  rw [e1,e2]
end
end Go.Proofs.YteclombpnhociaaGreat
set_option maxRecDepth 100000
set_option maxHeartbeats 8000000
namespace Go.Proofs.YteclombpnhociaaGreat
open Go.Am
set_option linter.unusedSimpArgs false
set_option linter.unusedVariables false
noncomputable section
theorem killL_get {R:List Sl} {L:List (BitVec 64)} {but:Int} {j:Nat}:∀{k:Nat},(killL R L but k)[j]?=if j < k∧killLB R L but j=true∧j < R.length then some z0 else R[j]?
 | 0=>by simp [killL]
 | k+1=>by
   have ih:=killL_get (R:=R) (L:=L) (but:=but) (k:=k) (j:=j)
   have hl:=killL_len (R:=R) (L:=L) (but:=but) (k:=k)
   simp only [killL]
   split
   ·rename_i hb
    rw [List.getElem?_set]
    by_cases e:k=j
    ·subst e
     rw [if_pos rfl,hl]
     by_cases h2:k < R.length
     ·rw [if_pos h2,if_pos ⟨by omega,hb,h2⟩]
     ·rw [if_neg h2,if_neg (fun h=>h2 h.2.2),List.getElem?_eq_none (by omega)]
    ·rw [if_neg e,ih]
     by_cases h2:j < k∧killLB R L but j=true∧j < R.length
     ·rw [if_pos h2,if_pos ⟨by omega,h2.2⟩]
     ·rw [if_neg h2,if_neg (fun h=>h2 ⟨by omega,h.2⟩)]
   ·rename_i hb
    rw [ih]
    by_cases h2:j < k∧killLB R L but j=true∧j < R.length
    ·rw [if_pos h2,if_pos ⟨by omega,h2.2⟩]
    ·rw [if_neg h2,if_neg (fun h=>h2 ⟨?_,h.2⟩)]
     rcases Nat.lt_or_eq_of_le (Nat.lt_succ_iff.1 h.1) with h3 | h3
     ·exact h3
     ·subst h3;exact (hb h.2.1).elim
theorem killB_at {R:List Sl} {l:BitVec 64} {but:Int} {j:Nat} (hj:j < 8):killB R l but j=(!decide ((j:Int)=but) && ((R.getD j z0).is && decide ((R.getD j z0).ln=l))):=by
 unfold killB hasT
 rw [in8_k hj]
 unfold at8
 rw [if_pos (in8_k hj),Int.toNat_natCast]
 simp
theorem kill_same {but:Int} {l:List Pc}:∀{R:List Sl},R.length=8→killL R (l.map fun p=>p.a / 64#64) but 8=kiA R l but:=by
 induction l with
 | nil =>
   intro R hR
   apply List.ext_getElem?
   intro j
   rw [killL_get,if_neg (by simp [killLB])];rfl
 | cons p l ih =>
   intro R hR
   show _=kiA (killN R (p.a / 64#64) but 8) l but
   rw [←ih (by rw [killN_len,hR])]
   apply List.ext_getElem?
   intro j
   rw [killL_get,killL_get,killN_get,killN_len]
   by_cases hj:j < 8
   rotate_left
   ·rw [if_neg (fun c=>hj c.1),if_neg (fun c=>hj c.1),if_neg (fun c=>hj c.1)]
   obtain ⟨x,hx⟩:∃x,R[j]?=some x:=⟨_,List.getElem?_eq_getElem (by omega)⟩
   have gx:R.getD j z0=x:=by rw [List.getD_eq_getElem?_getD,hx];rfl
   have gk:(killN R (p.a / 64#64) but 8).getD j z0=if killB R (p.a / 64#64) but j=true then z0 else x:=by
    rw [List.getD_eq_getElem?_getD,killN_get,hx]
    by_cases c:killB R (p.a / 64#64) but j=true
    ·rw [if_pos ⟨hj,c,by omega⟩,if_pos c];rfl
    ·rw [if_neg (fun h=>c h.2.1),if_neg c];rfl
   have kb:=killB_at (R:=R) (l:=p.a / 64#64) (but:=but) hj
   unfold killLB
   rw [gx,gk,hx]
   rw [gx] at kb
   simp only [hj,hR,true_and,and_true,List.map_cons,List.mem_cons]
   cases c:killB R (p.a / 64#64) but j
   ·rw [c] at kb
    simp only [Bool.false_eq_true,if_false]
    have e:(!decide ((j:Int)=but) && (x.is && decide (x.ln=p.a / 64#64∨x.ln∈List.map (fun p=>p.a / 64#64) l)))=(!decide ((j:Int)=but) && (x.is && decide (x.ln∈List.map (fun p=>p.a / 64#64) l))):=by
     have kb:=kb.symm
     by_cases e1:(j:Int)=but
     ·simp [e1]
     ·by_cases e2:x.ln=p.a / 64#64
      ·have:x.is=false:=by simpa [e1,e2] using kb
       simp [this]
      ·simp [e2]
    rw [e]
   ·rw [c] at kb
    have kb:=kb.symm
    simp only [Bool.and_eq_true,Bool.not_eq_true',decide_eq_false_iff_not,decide_eq_true_eq] at kb
    obtain ⟨e1,e2,e3⟩:=kb
    simp [e1,e2,e3,z0]
structure Rel (w:Fw) (z:ShS):Prop where
 h:w.h=z.h
 hh:z.h≤8
 n:z.ram.n≤4096
 wf:wfE z.ram.n z.ram.M
 B:w.B=byN (memB z.ram.M.2) (64 * z.ram.n)
 R:w.R=z.R
 l:z.R.length=8
 o:∀j:Nat,z.h≤(j:Int)→z.R.getD j z0=z0
theorem kiA_z {R:List Sl} {l:List Pc} {but:Int} (hR:R.length=8) {j:Nat} (h:R.getD j z0=z0):(kiA R l but).getD j z0=z0:=by
 rw [←kill_same hR,List.getD_eq_getElem?_getD,killL_get]
 split
 ·rfl
 ·rw [←List.getD_eq_getElem?_getD];exact h
theorem set_z {R:List Sl} {j k:Nat} {x:Sl} (h:R.getD j z0=z0) (hne:k≠j):(R.set k x).getD j z0=z0:=by
 rw [List.getD_eq_getElem?_getD,List.getElem?_set_ne hne,←List.getD_eq_getElem?_getD];exact h
theorem Rel.step {w:Fw} {z:ShS} (g:Rel w z) (h:Int) (q:Ak):wOk w h q=dOk z h q∧wD w h q=dD z h q∧wG w h q=dG z h q∧Rel (w.to (wB w h q) (wR w h q)) (z.to (dM z h q) (dR z h q)):=by
 have lB:w.B.length=64 * z.ram.n:=by rw [g.B,byN_len]
 have eOk:wOk w h q=dOk z h q:=by
  unfold wOk dOk mayB
  rw [g.h,lB]
  cases hf:formB q.k q.a q.c q.s q.op
  ·simp
  ·rw [has_parts g.n (p2_sm (b:=q.b) hf)]
   simp [Bool.and_assoc]
 refine ⟨eOk,?_⟩
 cases ok:dOk z h q
 ·rw [ok] at eOk
  have e1:wWr w h q=none:=by unfold wWr;rw [if_neg (by simp [eOk])]
  have e2:dWr z h q=none:=by unfold dWr;rw [if_neg (by simp [ok])]
  have e3:wB w h q=w.B:=by unfold wB;rw [e1]
  have e4:dM z h q=z.ram.M:=by unfold dM;rw [e2]
  have e5:wR w h q=w.R:=by unfold wR;rw [if_neg (by simp [eOk])]
  have e6:dR z h q=z.R:=by unfold dR;rw [if_neg (by simp [ok])]
  refine ⟨by unfold wD dD;rw [if_neg (by simp [eOk]),if_neg (by simp [ok])],by unfold wG dG;rw [if_neg (by simp [eOk]),if_neg (by simp [ok])],?_⟩
  rw [e3,e4,e5,e6]
  exact ⟨g.h,g.hh,g.n,g.wf,g.B,g.R,g.l,g.o⟩
 ·rw [ok] at eOk
  have k1:=ok
  unfold dOk at k1
  simp only [Bool.and_eq_true,decide_eq_true_eq] at k1
  obtain ⟨k1,h0,h1⟩:=k1
  have hm:=(may_all k1).1
  have hp:hasP (64 * z.ram.n) q.a q.b q.c q.s=true:=by
   rw [has_parts g.n hm]
   unfold mayB at k1
   rw [Bool.and_eq_true] at k1
   exact k1.2
  have hh:=g.hh
  obtain ⟨m,rfl⟩:∃m:Nat,h=(m:Int):=⟨h.toNat,by omega⟩
  have m8:m < 8:=by omega
  have eV:wV w q=dV z q:=by unfold wV dV;rw [g.B];exact wV_get g.n hm hp
  have eS:wSc w m q=dSc z m q:=by
   unfold wSc dSc hasT at8
   rw [in8_k m8,if_pos rfl,g.R,Int.toNat_natCast,Bool.true_and]
  have eL:∀v,layP w.B q.a q.b q.c q.s v=byN (memB (stA z.ram.M q.l v).2) (64 * z.ram.n):=fun v=>by rw [g.B];exact lay_st g.n g.wf hm hp
  have eK:killL w.R (linL q.a q.b q.c q.s) m 8=kiA z.R q.l m:=by rw [g.R];exact kill_same g.l
  have eB:wB w m q=byN (memB (dM z m q).2) (64 * z.ram.n):=by
   unfold wB wWr dM dWr
   rw [if_pos eOk,if_pos ok,eV,eS]
   by_cases k3:q.k=3
   ·rw [if_pos k3,if_pos k3];exact eL _
   rw [if_neg k3,if_neg k3]
   by_cases k4:q.k=4
   ·rw [if_pos k4,if_pos k4];exact eL _
   rw [if_neg k4,if_neg k4]
   by_cases k6:q.k=6
   ·rw [if_pos k6,if_pos k6]
    cases dSc z m q
    ·exact g.B
    ·rw [if_pos rfl,if_pos rfl]
     simp only
     rw [layP_low hm];exact eL _
   rw [if_neg k6,if_neg k6]
   by_cases k8:q.k=8
   ·rw [if_pos k8]
    by_cases hv:dV z q=q.o
    ·rw [if_pos hv];exact eL _
    ·rw [if_neg hv];exact g.B
   rw [if_neg k8]
   exact g.B
  have eR1:wR1 w m q=dR1 z m q:=by
   unfold wR1 wWr dR1 dWr
   rw [if_pos eOk,if_pos ok,eV,eS]
   by_cases k3:q.k=3
   ·rw [if_pos k3,if_pos k3];exact eK
   rw [if_neg k3,if_neg k3]
   by_cases k4:q.k=4
   ·rw [if_pos k4,if_pos k4];exact eK
   rw [if_neg k4,if_neg k4]
   by_cases k6:q.k=6
   ·rw [if_pos k6,if_pos k6]
    cases dSc z m q
    ·exact g.R
    ·rw [if_pos rfl,if_pos rfl];exact eK
   rw [if_neg k6,if_neg k6]
   by_cases k8:q.k=8
   ·rw [if_pos k8]
    by_cases hv:dV z q=q.o
    ·rw [if_pos hv];exact eK
    ·rw [if_neg hv];exact g.R
   rw [if_neg k8]
   exact g.R
  have sT:∀(R:List Sl) (x:Sl),setT R (m:Int) x=R.set m x:=fun R x=>by unfold setT;rw [if_pos (in8_k m8),Int.toNat_natCast]
  have eR:wR w m q=dR z m q:=by
   unfold wR dR
   rw [if_pos eOk,if_pos ok,eR1,g.R,sT,sT,Int.toNat_natCast]
  have oz:∀j:Nat,z.h≤(j:Int)→(dR1 z m q).getD j z0=z0:=fun j hj=>by
   unfold dR1
   split
   ·exact kiA_z g.l (g.o j hj)
   ·exact g.o j hj
  refine ⟨?_,?_,⟨g.h,g.hh,g.n,dM_wf g.wf,eB,eR,dR_len g.l,fun j hj=>?_⟩⟩
  ·unfold wD dD;rw [if_pos eOk,if_pos ok,eV]
  ·unfold wG dG;rw [if_pos eOk,if_pos ok,eV,eS]
  ·have hj':z.h≤(j:Int):=hj
   show (dR z m q).getD j z0=z0
   unfold dR
   rw [if_pos ok,sT,sT]
   have hne:m≠j:=by omega
   split
   ·exact set_z (g.o j hj) hne
   ·split
    ·exact set_z (oz j hj) hne
    ·exact oz j hj
theorem Rel.ld {w:Fw} {z:ShS} (g:Rel w z) {a:BitVec 64}:ldV w.B a 8=.t [.c (.u (ldU z.ram a 8)),.c (.b (ldB z.ram a 8))]:=by
 have lB:w.B.length=64 * z.ram.n:=by rw [g.B,byN_len]
 unfold ldV ldU ldB
 rw [lB,hasF_B]
 cases hb:hasB z.ram.n a 8
 ·rw [if_neg (by simp)];simp
 ·have hb':=hb
  rw [hasB_iff] at hb'
  rw [if_pos ⟨rfl,by decide⟩,g.B,off_same,num_cut (by omega) (by decide)]
  simp
section
variable {H:AH}
def s_fresvW (args:List AV) (H:AH):Option AV :=
 match args with
 | [.c (.p p 0 0),.c (.i h)]=>(fwQ H p).map fun z=>if 0≤h∧h < z.h then .t [.c (.u (z.R.getD h.toNat z0).ln),.c (.b (z.R.getD h.toNat z0).is)] else .t [.c (.u 0#64),.c (.b false)]
 | _=>none
def s_stable (args:List AV) (H:AH):Option AV :=
 match args with
 | [.c x]=>(shQ H x).map fun z=>.g (tabC z.R)
 | _=>none
def s_fsram (args:List AV) (H:AH):Option AV :=
 match args with
 | [.c x]=>(shQ H x).map fun z=>.c (.p z.ram.id 0 0)
 | _=>none
end
end
end Go.Proofs.YteclombpnhociaaGreat
set_option maxRecDepth 100000
set_option maxHeartbeats 8000000
namespace Go.Proofs.YteclombpnhociaaGreat
open Go.Am
set_option linter.unusedSimpArgs false
set_option linter.unusedVariables false
noncomputable section
theorem byte_has {m:Nat} (hn:m≤4096) {a b:BitVec 64} {c s:Int} (hm:smB c s=true) (hp:hasP (64 * m) a b c s=true) {i:Int} (h0:0≤i) (h1:i < s):hasB m (byteU a b c i) 1=true:=by
 rw [has_parts hn hm] at hp
 have e:=all_bytesF hn (Int.le_refl 0) (gd2_acc (a:=a) (b:=b) hm)
 rw [(good_acc (a:=a) (b:=b) hm).2.1,Int.zero_add] at e
 exact e.1 hp i h0 h1
theorem byte_off {m:Nat} (hn:m≤4096) {a b:BitVec 64} {c s:Int} (hm:smB c s=true) (hp:hasP (64 * m) a b c s=true) {i:Nat} (h1:(i:Int) < s) :
 offW (byteU a b c i)=if c=0∨(i:Int) < c then offW a+i else offW b+(i - c.toNat):=by
 have hm':1≤s∧s≤8∧0≤c∧c < s:=by simpa [smB] using hm
 unfold hasP at hp
 unfold byteU
 rw [off_same,off_same,off_same]
 by_cases c0:c=0
 ·subst c0
  rw [if_pos rfl,hasF_B] at hp
  rw [if_neg (by omega),if_pos (.inl rfl),off_add hn hp (by omega) (by omega),Int.toNat_natCast]
 ·rw [if_neg c0,Bool.and_eq_true,hasF_B,hasF_B] at hp
  by_cases ci:(i:Int) < c
  ·rw [if_neg (by omega),if_pos (.inr ci),off_add hn hp.1 (by omega) ci,Int.toNat_natCast]
  ·rw [if_pos (by omega),if_neg (by omega),off_add hn hp.2 (by omega) (by omega)]
   omega
theorem has_ends {N:Nat} {a b:BitVec 64} {c s:Int} (hm:smB c s=true) (hp:hasP N a b c s=true):if c=0 then offW a+s.toNat≤N else offW a+c.toNat≤N∧offW b+(s - c).toNat≤N:=by
 have hm':1≤s∧s≤8∧0≤c∧c < s:=by simpa [smB] using hm
 unfold hasP at hp
 by_cases c0:c=0
 ·rw [if_pos c0,hasF_iff] at hp
  rw [if_pos c0];omega
 ·rw [if_neg c0,Bool.and_eq_true,hasF_iff,hasF_iff] at hp
  rw [if_neg c0];omega
theorem btsW_len {B:List Int} {a b:BitVec 64} {c s:Int} (hm:smB c s=true) (hp:hasP B.length a b c s=true):(btsW B a b c s).length=s.toNat:=by
 have hm':1≤s∧s≤8∧0≤c∧c < s:=by simpa [smB] using hm
 have he:=has_ends hm hp
 unfold btsW
 by_cases c0:c=0
 ·rw [if_pos c0] at he ⊢
  rw [List.length_take,List.length_drop];omega
 ·rw [if_neg c0] at he ⊢
  rw [List.length_append,List.length_take,List.length_drop,List.length_take,List.length_drop];omega
theorem btsW_at {B:List Int} {m:Nat} (hl:B.length=64 * m) (hn:m≤4096) {a b:BitVec 64} {c s:Int} (hm:smB c s=true) (hp:hasP B.length a b c s=true) {i:Nat} (hi:(i:Int) < s):(btsW B a b c s)[i]?=B[offW (byteU a b c i)]?:=by
 have hm':1≤s∧s≤8∧0≤c∧c < s:=by simpa [smB] using hm
 have he:=has_ends hm hp
 rw [byte_off hn hm (by rw [←hl];exact hp) hi]
 unfold btsW
 by_cases c0:c=0
 ·rw [if_pos c0] at he ⊢
  rw [List.getElem?_take_of_lt (by omega),List.getElem?_drop,if_pos (.inl c0)]
 ·rw [if_neg c0] at he ⊢
  have l1:((B.drop (offW a)).take c.toNat).length=c.toNat:=by rw [List.length_take,List.length_drop];omega
  by_cases ci:(i:Int) < c
  ·rw [List.getElem?_append_left (by omega),List.getElem?_take_of_lt (by omega),List.getElem?_drop,if_pos (.inr ci)]
  ·rw [List.getElem?_append_right (by omega),l1,List.getElem?_take_of_lt (by omega),List.getElem?_drop,if_neg (by omega)]
def bW (B:List Int) (a b:BitVec 64) (c:Int) (v:BitVec 64):Nat→List Int
 | 0=>B
 | i+1=>layB (bW B a b c v i) (offW (byteU a b c i)) [lbW v i]
theorem bW_eq {B:List Int} {m:Nat} (hl:B.length=64 * m) (hn:m≤4096) {a b:BitVec 64} {c s:Int} {v:BitVec 64} (hm:smB c s=true) (hp:hasP B.length a b c s=true):∀{i:Nat},(i:Int)≤s →
 bW B a b c v i=if c=0∨(i:Int)≤c then layB B (offW a) (lbL v i) else layB (layB B (offW a) (lbL v c.toNat)) (offW b) (lbL (v >>> (8 * c.toNat)) (i - c.toNat))
 | 0,_=>by
   have hm':1≤s∧s≤8∧0≤c∧c < s:=by simpa [smB] using hm
   rw [if_pos (by omega),lbL_0,layB_nil];rfl
 | i+1,h=>by
   have hm':1≤s∧s≤8∧0≤c∧c < s:=by simpa [smB] using hm
   have he:=has_ends hm hp
   show layB (bW B a b c v i) (offW (byteU a b c i)) [lbW v i]=_
   rw [bW_eq hl hn hm hp (by omega),byte_off hn hm (by rw [←hl];exact hp) (by omega)]
   by_cases c0:c=0
   ·rw [if_pos c0] at he
    rw [if_pos (.inl c0),if_pos (.inl c0),if_pos (.inl c0)]
    have:=layB_step (B:=B) (c:=lbL v i) (k:=offW a) (q:=lbW v i) (by rw [lbL_len];omega)
    rw [lbL_len,←lbL_s] at this
    exact this
   rw [if_neg c0] at he
   by_cases ci:(i:Int) < c
   ·rw [if_pos (.inr (by omega)),if_pos (.inr ci),if_pos (.inr (by omega))]
    have:=layB_step (B:=B) (c:=lbL v i) (k:=offW a) (q:=lbW v i) (by rw [lbL_len];omega)
    rw [lbL_len,←lbL_s] at this
    exact this
   ·rw [if_neg (show ¬(c=0∨(i:Int) < c) by omega),if_neg (show ¬(c=0∨((i+1:Nat):Int)≤c) by omega)]
    have lq:(layB B (offW a) (lbL v c.toNat)).length=B.length:=layB_len (by rw [lbL_len];omega)
    have e0:(if c=0∨(i:Int)≤c then layB B (offW a) (lbL v i) else layB (layB B (offW a) (lbL v c.toNat)) (offW b) (lbL (v >>> (8 * c.toNat)) (i - c.toNat)))=layB (layB B (offW a) (lbL v c.toNat)) (offW b) (lbL (v >>> (8 * c.toNat)) (i - c.toNat)):=by
     by_cases ce:(i:Int)≤c
     ·rw [if_pos (.inr ce),show i - c.toNat=0 by omega,lbL_0,layB_nil,show i=c.toNat by omega]
     ·rw [if_neg (by omega)]
    rw [e0]
    have:=layB_step (B:=layB B (offW a) (lbL v c.toNat)) (c:=lbL (v >>> (8 * c.toNat)) (i - c.toNat)) (k:=offW b) (q:=lbW v i) (by rw [lbL_len,lq];omega)
    rw [lbL_len] at this
    rw [this,show i+1 - c.toNat=(i - c.toNat)+1 by omega,lbL_s]
    congr 2
    unfold lbW
    rw [←BitVec.shiftRight_add,show 8 * c.toNat+8 * (i - c.toNat)=8 * i by omega]
theorem bW_all {B:List Int} {m:Nat} (hl:B.length=64 * m) (hn:m≤4096) {a b:BitVec 64} {c s:Int} {v:BitVec 64} (hm:smB c s=true) (hp:hasP B.length a b c s=true):bW B a b c v s.toNat=layP B a b c s v:=by
 have hm':1≤s∧s≤8∧0≤c∧c < s:=by simpa [smB] using hm
 rw [bW_eq hl hn hm hp (by omega)]
 unfold layP
 by_cases c0:c=0
 ·rw [if_pos (.inl c0),if_pos c0]
 ·rw [if_neg (by omega),if_neg c0,show s.toNat - c.toNat=(s - c).toNat by omega]
theorem bW_len {B:List Int} {m:Nat} (hl:B.length=64 * m) (hn:m≤4096) {a b:BitVec 64} {c s:Int} {v:BitVec 64} (hm:smB c s=true) (hp:hasP B.length a b c s=true):∀{i:Nat},(i:Int)≤s→(bW B a b c v i).length=B.length
 | 0,_=>rfl
 | i+1,h=>by
   show (layB (bW B a b c v i) _ _).length=_
   have ih:=bW_len (v:=v) hl hn hm hp (i:=i) (by omega)
   have hb:=byte_has hn hm (by rw [←hl];exact hp) (i:=(i:Int)) (by omega) (by omega)
   rw [hasB_iff,←off_same] at hb
   rw [layB_len (by rw [ih,hl];show offW _+1≤_;omega),ih]
def kW (R:List Sl) (a b:BitVec 64) (c:Int) (h:Int):Nat→List Sl
 | 0=>R
 | i+1=>killN (kW R a b c h i) (byteU a b c i / 64#64) h 8
theorem kW_len {R:List Sl} {a b:BitVec 64} {c h:Int}:∀{i:Nat},(kW R a b c h i).length=R.length
 | 0=>rfl
 | i+1=>by show (killN (kW R a b c h i) _ h 8).length=_;rw [killN_len,kW_len]
theorem kill_cons {R:List Sl} (hR:R.length=8) {l:BitVec 64} {L:List (BitVec 64)} {but:Int}:killL (killN R l but 8) L but 8=killL R (l::L) but 8:=by
 apply List.ext_getElem?
 intro j
 rw [killL_get,killL_get,killN_get,killN_len]
 by_cases hj:j < 8
 rotate_left
 ·rw [if_neg (fun c=>hj c.1),if_neg (fun c=>hj c.1),if_neg (fun c=>hj c.1)]
 obtain ⟨x,hx⟩:∃x,R[j]?=some x:=⟨_,List.getElem?_eq_getElem (by omega)⟩
 have gx:R.getD j z0=x:=by rw [List.getD_eq_getElem?_getD,hx];rfl
 have gk:(killN R l but 8).getD j z0=if killB R l but j=true then z0 else x:=by
  rw [List.getD_eq_getElem?_getD,killN_get,hx]
  by_cases c:killB R l but j=true
  ·rw [if_pos ⟨hj,c,by omega⟩,if_pos c];rfl
  ·rw [if_neg (fun h=>c h.2.1),if_neg c];rfl
 have kb:=killB_at (R:=R) (l:=l) (but:=but) hj
 unfold killLB
 rw [gx,gk,hx]
 rw [gx] at kb
 simp only [hj,hR,true_and,and_true,List.mem_cons]
 cases c:killB R l but j
 ·rw [c] at kb
  have kb:=kb.symm
  simp only [Bool.false_eq_true,if_false]
  have e:(!decide ((j:Int)=but) && (x.is && decide (x.ln=l∨x.ln∈L)))=(!decide ((j:Int)=but) && (x.is && decide (x.ln∈L))):=by
   by_cases e1:(j:Int)=but
   ·simp [e1]
   ·by_cases e2:x.ln=l
    ·have:x.is=false:=by simpa [e1,e2] using kb
     simp [this]
    ·simp [e2]
  rw [e]
 ·rw [c] at kb
  have kb:=kb.symm
  simp only [Bool.and_eq_true,Bool.not_eq_true',decide_eq_false_iff_not,decide_eq_true_eq] at kb
  obtain ⟨e1,e2,e3⟩:=kb
  simp [e1,e2,e3,z0]
theorem kill_mem {R:List Sl} {L M:List (BitVec 64)} {but:Int} (h:∀x,x∈L ↔ x∈M):killL R L but 8=killL R M but 8:=by
 apply List.ext_getElem?
 intro j
 rw [killL_get,killL_get]
 unfold killLB
 simp only [h]
theorem kW_L {a b:BitVec 64} {c h:Int}:∀{i:Nat} {R:List Sl} {L:List (BitVec 64)},R.length=8→killL (kW R a b c h i) L h 8=killL R ((List.range i).map (fun (k:Nat)=>byteU a b c k / 64#64)++L) h 8
 | 0,R,L,_=>rfl
 | i+1,R,L,hR=>by
   show killL (killN (kW R a b c h i) _ h 8) L h 8=_
   rw [kill_cons (by rw [kW_len,hR]),kW_L hR,List.range_succ,List.map_append,List.append_assoc];rfl
theorem killL_nil {R:List Sl} {but:Int}:killL R [] but 8=R:=by
 apply List.ext_getElem?
 intro j
 rw [killL_get,if_neg (by simp [killLB])]
theorem kW_all {R:List Sl} (hR:R.length=8) {a b:BitVec 64} {c s h:Int} (hm:smB c s=true):kW R a b c h s.toNat=killL R (linL a b c s) h 8:=by
 have e:=kW_L (a:=a) (b:=b) (c:=c) (h:=h) (i:=s.toNat) (L:=[]) hR
 rw [killL_nil,List.append_nil] at e
 rw [e]
 refine kill_mem fun x=>?_
 have hm':1≤s∧s≤8∧0≤c∧c < s:=by simpa [smB] using hm
 have g:=gd2_acc (a:=a) (b:=b) hm
 have t:=(good_acc (a:=a) (b:=b) hm).2.1
 have key:∀{l:List Pc} {m:Int},0≤m→gd2 (byteU a b c) l m→(x∈l.map (fun p=>p.a / 64#64) ↔ ∃i:Int,m≤i∧i < m+tot l∧byteU a b c i / 64#64=x):=by
  intro l
  induction l with
  | nil=>intro m _ _;simp only [List.map_nil,List.not_mem_nil,tot,false_iff];rintro ⟨i,h1,h2,_⟩;omega
  | cons p l ih =>
    intro m h0 hg
    obtain ⟨a1,a2,a3,a4,a6⟩:=hg
    have t0:=tot_drop a6 0
    rw [List.drop_zero] at t0
    rw [List.map_cons,List.mem_cons,ih (by omega) a6]
    simp only [tot]
    constructor
    ·rintro (rfl | ⟨i,h1,h2,h3⟩)
     ·have:=a4 0 (by omega) (by omega)
      refine ⟨m,by omega,by omega,?_⟩
      rw [show m+0=m by omega] at this
      rw [this.1,this.2]
     ·exact ⟨i,by omega,by omega,h3⟩
    ·rintro ⟨i,h1,h2,h3⟩
     by_cases c1:i < m+p.n
     ·have:=a4 (i - m) (by omega) (by omega)
      rw [show m+(i - m)=i by omega] at this
      left
      rw [←h3,this.1,this.2]
     ·exact .inr ⟨i,by omega,by omega,h3⟩
 have k:=key (Int.le_refl 0) g
 rw [t,Int.zero_add] at k
 show x∈_ ↔ x∈(accP a b c s).map _
 rw [k,List.mem_map]
 constructor
 ·rintro ⟨i,hi,rfl⟩
  rw [List.mem_range] at hi
  exact ⟨i,by omega,by omega,rfl⟩
 ·rintro ⟨i,h0,h1,h2⟩
  exact ⟨i.toNat,by rw [List.mem_range];omega,by rw [Int.toNat_of_nonneg h0];exact h2⟩
theorem div256 (v:BitVec 64):v / 256#64=v >>> 8:=by
 apply BitVec.eq_of_toNat_eq
 rw [BitVec.toNat_udiv,BitVec.toNat_ushiftRight,Nat.shiftRight_eq_div_pow];rfl
theorem mod256 (v:BitVec 64):(v % 256#64).toNat=v.toNat % 256:=by rw [BitVec.toNat_umod];rfl
theorem wrap_mod (v:BitVec 64) (i:Nat):IntKind.u8.wrap (((v >>> (8 * i)) % 256#64 % 256#64).toNat:Int)=lbW v i:=by
 have e:=u_by (v:=(v >>> (8 * i)) % 256#64 % 256#64)
 simp only [byC,Sc.k.injEq,true_and] at e
 rw [e]
 unfold lbW
 congr 1
 rw [BitVec.toNat_setWidth,BitVec.toNat_setWidth,mod256,mod256]
 omega
theorem numW_1 (b:Int):numW [b]=BitVec.ofInt 64 b:=by
 show (0#64 <<< 8) ||| BitVec.ofInt 64 b=_
 rw [BitVec.zero_shiftLeft,BitVec.zero_or]
section
variable {H:AH}
def s_rst1 (args:List AV) (H:AH):Option (AV × AH) :=
 match args with
 | [.g [.sl id 0 v N],.c (.u a),.c (.i 1),.c (.u x)] =>
   match roV H id v N with
   | some B=>if B.length≤262144∧hasF B.length a 1=true then some (.c (.b true),H.set id (.vec 1 ((layB B (offW a) [IntKind.u8.wrap ((x % 256#64).toNat:Int)]).flatMap e8F))) else none
   | none=>none
 | _=>none
theorem s_rst1_eq {id:Nat} {B:List Int} {a x:BitVec 64} (h:hg H id=.vec 1 (B.flatMap e8F)) (hl:B.length≤262144) (hh:hasF B.length a 1=true):s_rst1 [.g [.sl id 0 B.length B.length],.c (.u a),.c (.i 1),.c (.u x)] H=some (.c (.b true),H.set id (.vec 1 ((layB B (offW a) [IntKind.u8.wrap ((x % 256#64).toNat:Int)]).flatMap e8F))):=by
 simp only [s_rst1,roV_of h];rw [if_pos ⟨hl,hh⟩]
theorem len_rst1 (args:List AV) (H:AH) (v:AV) (H1:AH) (h:s_rst1 args H=some (v,H1)):H.length≤H1.length:=by
 unfold s_rst1 at h
 repeat' split at h
 all_goals simp at h
 rw [←h.2];simp
theorem ok_rst1:FpOk Tryz.prog 75 s_rst1:=by
 refine fp_ok (s:=s_rst1) (tab:=[(72,.fq s_frhas)]) hmix (TabOk.cons (e:=.fq s_frhas) ok_frhas TabOk.nil) Tryz.func75 rfl Tryz.results75 Tryz.ntmps75 (by kernel_rfl) (by kernel_rfl) len_rst1 ?_
 intro args H v H1 h hargs hH
 unfold s_rst1 at h
 split at h <;> try (simp at h;done)
 rename_i id v N a x
 split at h <;> try (simp at h;done)
 rename_i B hv
 split at h <;> try (simp at h;done)
 rename_i hc
 obtain ⟨hB,hh⟩:=hc
 simp only [Option.some.injEq,Prod.mk.injEq] at h
 obtain ⟨rfl,rfl⟩:=h
 obtain ⟨ho,rfl,rfl⟩:=roV_inv hv
 refine ⟨by simp only [List.length_cons,List.length_nil];decide,?_⟩
 have lid:id < H.length:=hg_lt (by rw [ho];rfl)
 have oX:∀X,hg (H++X) id=.vec 1 (B.flatMap e8F):=fun X=>by rw [hg_lt' lid,ho]
 have sp:=fun X=>s_frhas_eq (cutF_vec (oX X)) hB (show (1:Int)≤9223372036854775807 by decide) (a:=a)
 simp only [hh] at sp
 rw [hasF_iff] at hh
 have h3:=baseF (a:=a) (by omega)
 have e3:(a - 2147483648#64).toInt=(offW a:Int):=by rw [BitVec.toInt_eq_toNat_cond,h3,if_pos (by omega)]
 obtain ⟨q,hq⟩:∃q,q=IntKind.u8.wrap ((x % 256#64).toNat:Int):=⟨_,rfl⟩
 rw [←hq]
 obtain ⟨C,hC⟩:∃C,C=layB B (offW a) [q]:=⟨_,rfl⟩
 rw [←hC]
 have w1:wr (B.flatMap e8F) (offW a) [.k .u8 q]=C.flatMap e8F:=by rw [hC];exact wr_e8 B [q] (offW a)
 have w2:List.take (offW a) (B.flatMap e8F)++Sc.k .u8 q::List.drop (offW a+1) (B.flatMap e8F)=C.flatMap e8F:=by
  rw [←w1,wr_un];simp
 have lB:(B.flatMap e8F).length=B.length:=e8w_len B
 have k0:(0:Int)≤(offW a:Int):=by omega
 have k1:(offW a:Int) < (B.length:Int):=by omega
 have k2:offW a+1≤B.length:=by omega
 have w0:w64 ((offW a:Int)+0)=(offW a:Int):=by rw [w64_d (by omega) (by omega)];omega
 have bC:belH (H.set id (.vec 1 (C.flatMap e8F)))=true:=bel_set' hH (e8w_bel C _)
 have sX:∀o X,(H++X).set id o=H.set id o++X:=fun o X=>List.set_append_left _ _ lid
 have gN:∀o X n,hg (H.set id o++X) (H.length+n)=hg X n:=fun o X n=>by
  have:=hg_len_add (H:=H.set id o) (X:=X) (n:=n)
  rwa [List.length_set] at this
 have g0:∀o X,hg (H.set id o++X) H.length=hg X 0:=fun o X=>gN o X 0
 (repeat (first | simp (maxSteps:=9^9) only [go_sem,seval,sp] | simp (disch:=omega) only [w64_d,ipos,ineg,dpos,dneg]))
 refine arun_for 1 (fun j=>([(2,.c (.i 1)),(9,.c (.i j))]++(if j=0 then [(1,.c (.u a)),(3,.c (.u x)),(4,.c (.p H.length 0 0))] else []),if j=0 then H++[.own [.sl id 0 B.length B.length]] else H.set id (.vec 1 (C.flatMap e8F)))) ?_ fun j hj=>?_
 ·simp only [if_true]
  exact wkF (by simp [Am.get])
 ·rcases (show j=0∨j=1 by omega) with rfl | rfl
  ·simp only [if_true]
   (repeat (first | simp (maxSteps:=9^9) only [go_sem,seval,oX,e3,w0,k0,k1,k2,lB,w1,w2,sX,←hq,Int.toNat_natCast] | simp (disch:=omega) only [w64_d,ipos,ineg,dpos,dneg]))
   refine ⟨1,by omega,by omega,?_⟩
   exact Wk.wk (by simp [lo]) (by simp [Am.get]) (by simp [AV.bel,Sc.bel]) (subH_app _ _) bC
  ·simp only [if_neg (show ¬(1:Nat)=0 by decide)]
   (repeat (first | simp (maxSteps:=9^9) only [go_sem,seval] | simp (disch:=omega) only [w64_d,ipos,ineg,dpos,dneg]))
   exact fin_sameF
end
end
end Go.Proofs.YteclombpnhociaaGreat
set_option maxRecDepth 100000
set_option maxHeartbeats 8000000
namespace Go.Proofs.YteclombpnhociaaGreat
open Go.Am
set_option linter.unusedSimpArgs false
set_option linter.unusedVariables false
noncomputable section
def rdC (h t n b:Int) (id N:Nat) (R:List Sl):List Sc:=.i h::.i t::.i n::.i b::.sl id 0 N N::refC R
theorem rdC_len {h t n b:Int} {id N:Nat} {R:List Sl} (hR:R.length=8):(rdC h t n b id N R).length=21:=by unfold rdC;simp [refC_l hR]
theorem rdC_one {h t n b:Int} {id N:Nat} {R:List Sl}:(rdC h t n b id N R).all Sc.one=true:=by unfold rdC;simp [Sc.one,refC_one]
theorem rdC_bel {h t n b:Int} {id N:Nat} {R:List Sl} {k:Nat} (hk:id < k):(rdC h t n b id N R).all (Sc.bel k)=true:=by unfold rdC;simp [Sc.bel,refC_bel,hk]
theorem rdC_T {h t n b:Int} {id N:Nat} {R:List Sl} (hR:R.length=8):((rdC h t n b id N R).drop 5).take 16=refC R:=by
 unfold rdC
 show (refC R).take 16=_
 exact List.take_of_length_le (by rw [refC_l hR];exact Nat.le_refl _)
theorem rdC_M {h t n b:Int} {id N:Nat} {R:List Sl}:((rdC h t n b id N R).drop 4).take 1=[.sl id 0 N N]:=rfl
theorem rdC_wr {h t n b:Int} {id N:Nat} {R S:List Sl} (hR:R.length=8) (hS:S.length=8):wr (rdC h t n b id N R) 5 (refC S)=rdC h t n b id N S:=by
 unfold rdC wr
 rw [refC_l hS]
 show [Sc.i h,.i t,.i n,.i b,.sl id 0 N N]++refC S++((refC R).drop 16)=_
 rw [List.drop_of_length_le (by rw [refC_l hR];exact Nat.le_refl _),List.append_nil];rfl
structure RdOk (H:AH) (id v N:Nat) (rf:List Sc) (B:List Int) (m:Nat) (R:List Sl):Prop where
 o:hg H id=.vec 1 (B.flatMap e8F)
 v:v=B.length
 N:N=B.length
 l:B.length=64 * m
 m:m≤4096
 by':∀y∈B,0≤y∧y≤255
 rf:rf=refC R
 R:R.length=8
section
variable {H:AH}
open Classical in
def rdQ (H:AH) (id v N:Nat) (rf:List Sc):Option (List Int × List Sl):=if h:∃x:List Int × Nat × List Sl,RdOk H id v N rf x.1 x.2.1 x.2.2 then some (h.choose.1,h.choose.2.2) else none
theorem rdQ_of {id v N:Nat} {rf:List Sc} {B:List Int} {m:Nat} {R:List Sl} (h:RdOk H id v N rf B m R):rdQ H id v N rf=some (B,R):=by
 unfold rdQ
 have e:∃x:List Int × Nat × List Sl,RdOk H id v N rf x.1 x.2.1 x.2.2:=⟨(B,m,R),h⟩
 rw [dif_pos e]
 have g:=e.choose_spec
 have h1:=g.o
 rw [h.o] at h1
 simp only [AObj.vec.injEq,true_and] at h1
 have e1:=e8w_inj h1.symm
 have e2:=refC_inj g.R h.R (g.rf.symm.trans h.rf)
 rw [e1,e2]
theorem rdQ_inv {id v N:Nat} {rf:List Sc} {B:List Int} {R:List Sl} (h:rdQ H id v N rf=some (B,R)):∃m,RdOk H id v N rf B m R:=by
 unfold rdQ at h
 split at h
 ·rename_i e
  simp only [Option.some.injEq,Prod.mk.injEq] at h
  obtain ⟨rfl,rfl⟩:=h
  exact ⟨_,e.choose_spec⟩
 ·simp at h
theorem RdOk.lt {id v N:Nat} {rf:List Sc} {B:List Int} {m:Nat} {R:List Sl} (h:RdOk H id v N rf B m R):id < H.length:=hg_lt (by rw [h.o];rfl)
theorem RdOk.app {id v N:Nat} {rf:List Sc} {B:List Int} {m:Nat} {R:List Sl} (h:RdOk H id v N rf B m R) (X:AH):RdOk (H++X) id v N rf B m R:=⟨by rw [hg_lt' h.lt];exact h.o,h.v,h.N,h.l,h.m,h.by',h.rf,h.R⟩
def s_r14get (args:List AV) (H:AH):Option AV :=
 match args with
 | [.g (.i _::.i _::.i _::.i _::.sl id 0 v N::rf),.g (.i k::.u a::.u b::.i c::.i s::r)] =>
   match rdQ H id v N rf with
   | some (B,_)=>if r.length=14∧r.all Sc.pf=true∧r.all Sc.one=true∧smB c s=true∧hasP B.length a b c s=true then some (.c (.u (numW (btsW B a b c s)))) else none
   | none=>none
 | _=>none
theorem s_r14get_eq {h t n b':Int} {id v N:Nat} {rf:List Sc} {B:List Int} {m:Nat} {R:List Sl} (hd:RdOk H id v N rf B m R) {k:Int} {a b:BitVec 64} {c s:Int} {r:List Sc} (l1:r.length=14) (l2:r.all Sc.pf=true) (l3:r.all Sc.one=true) (hm:smB c s=true) (hp:hasP B.length a b c s=true) :
 s_r14get [.g (.i h::.i t::.i n::.i b'::.sl id 0 v N::rf),.g (.i k::.u a::.u b::.i c::.i s::r)] H=some (.c (.u (numW (btsW B a b c s)))):=by
 simp only [s_r14get,rdQ_of hd];rw [if_pos ⟨l1,l2,l3,hm,hp⟩]
theorem ok_r14get:FpOk Tryz.prog 40 (fun args H=>(s_r14get args H).map fun v=>(v,H)):=by
 refine fq_ok (s:=s_r14get) (tab:=[(71,.pu s_r14access),(73,.pu s_rbyte),(74,.fq s_frload)]) hmix (TabOk.cons (e:=.pu s_r14access) ok_r14access (TabOk.cons (e:=.pu s_rbyte) ok_rbyte (TabOk.cons (e:=.fq s_frload) ok_frload TabOk.nil))) Tryz.func40 rfl Tryz.results40 Tryz.ntmps40 (by kernel_rfl) (by kernel_rfl) ?_
 intro args H v h hargs hH
 unfold s_r14get at h
 split at h <;> try (simp at h;done)
 rename_i q1 q2 q3 q4 id v N rf k a b c s r
 split at h <;> try (simp at h;done)
 rename_i B R hd
 split at h <;> try (simp at h;done)
 rename_i hc
 obtain ⟨lr,pr,ro,hm,hp⟩:=hc
 simp only [Option.some.injEq] at h
 subst h
 obtain ⟨m,hd⟩:=rdQ_inv hd
 obtain ⟨ho,rfl,rfl,hl,hm4,hby,rfl,hR⟩:=hd
 refine ⟨by simp only [List.length_cons,List.length_nil];decide,rfl,?_⟩
 have hm':1≤s∧s≤8∧0≤c∧c < s:=by simpa [smB] using hm
 have rt:r.take 14=r:=List.take_of_length_le (by omega)
 have lid:id < H.length:=hg_lt (by rw [ho];rfl)
 have oX:∀X,hg (H++X) id=.vec 1 (B.flatMap e8F):=fun X=>by rw [hg_lt' lid,ho]
 obtain ⟨j,rfl⟩:∃j:Nat,s=(j:Int):=⟨s.toNat,by omega⟩
 obtain ⟨L,hL⟩:∃L,L=btsW B a b c (j:Int):=⟨_,rfl⟩
 have lL:L.length=j:=by rw [hL,btsW_len hm hp,Int.toNat_natCast]
 have at':∀i:Nat,i < j→L[i]?=B[offW (byteU a b c i)]?:=fun i hi=>by rw [hL];exact btsW_at hl hm4 hm hp (by omega)
 have hs:∀i:Nat,i < j→hasF B.length (byteU a b c i) 1=true:=fun i hi=>by
  rw [hl,hasF_B]
  exact byte_has hm4 hm (by rw [←hl];exact hp) (by omega) (by omega)
 have bL:∀x∈L,0≤x∧x≤255:=fun x hx=>by
  obtain ⟨i,hi⟩:=List.mem_iff_getElem?.1 hx
  have il:i < j:=by
   rcases Nat.lt_or_ge i j with c1 | c1
   ·exact c1
   ·rw [List.getElem?_eq_none (by omega)] at hi;simp at hi
  rw [at' i il] at hi
  exact hby x (List.mem_of_getElem? hi)
 rw [←hL,←numG_eq bL]
 have lds:∀(i:Nat) (q:Int) X,i < j→L[i]?=some q→s_frload [.g [.sl id 0 B.length B.length],.c (.u (byteU a b c i)),.c (.i 1)] (H++X)=some (.t [.c (.u (BitVec.ofInt 64 q)),.c (.b true)]):=fun i q X hi hq=>by
  rw [s_frload_eq (cutF_vec (oX X)) (by omega) (by decide) hby]
  unfold ldV
  have h1:=hs i hi
  rw [if_pos ⟨h1,by decide⟩]
  rw [hasF_iff] at h1
  have:(B.drop (offW (byteU a b c i))).take (1:Int).toNat=[q]:=by
   rw [at' i hi] at hq
   apply List.ext_getElem?
   intro k
   rcases k with _ | k
   ·rw [List.getElem?_take_of_lt (by decide),List.getElem?_drop,Nat.add_zero,hq];rfl
   ·rw [List.getElem?_eq_none (by rw [List.length_take];simp;omega),List.getElem?_eq_none (by simp)]
  rw [this,numW_1]
 have w1:w64 ((j:Int) - 1)=(j:Int) - 1:=w64_d (by omega) (by omega)
 have ra:=s_r14access_eq (k:=k) (a:=a) (b:=b) (c:=c) (s:=(j:Int)) (r:=r)
 rw [if_pos ⟨lr,pr⟩] at ra
 obtain ⟨S,hS⟩:∃S:List Sc,S=.i q1::.i q2::.i q3::.i q4::.sl id 0 B.length B.length::refC R:=⟨_,rfl⟩
 have lS:S.length=21:=by rw [hS];exact rdC_len (h:=q1) (t:=q2) (n:=q3) (b:=q4) hR
 have tS:S.take 21=S:=List.take_of_length_le (by omega)
 have oS:S.all Sc.one=true:=by rw [hS];exact rdC_one (h:=q1) (t:=q2) (n:=q3) (b:=q4)
 have dS:(S.drop 4).take 1=[.sl id 0 B.length B.length]:=by rw [hS];rfl
 rw [←hS]
 (repeat (first | simp (maxSteps:=9^9) only [go_sem,seval,lr,ro,rt,lS,tS,oS,w1] | simp (disch:=omega) only [w64_d,ipos,ineg,dpos,dneg]))
 refine arun_for j (fun r'=>([(2,.c (.p H.length 0 0)),(3,.c (.p (H.length+1) 0 0)),(5,.c (.u ((L.drop (j - r')).foldr stG 0#64))),(6,.c (.i ((j:Int) - 1 - r')))],H++[.own S,.own (.i k::.u a::.u b::.i c::.i j::r)])) ?_ fun r' hr=>?_
 ·exact wkF (by simp [Am.get,←lL])
 by_cases hlt:r' < j
 rotate_left
 ·obtain rfl:r'=j:=by omega
  have e0:((r':Int) - 1 - (r':Int)) = -1:=by omega
  have d0:L.drop (r' - r')=L:=by rw [Nat.sub_self];rfl
  (repeat (first | simp (maxSteps:=9^9) only [go_sem,seval,e0,d0] | simp (disch:=omega) only [w64_d,ipos,ineg,dpos,dneg]))
  exact subH_app _ _
 obtain ⟨i,hi⟩:∃i,i=j - 1 - r':=⟨_,rfl⟩
 have e0:((j:Int) - 1 - (r':Int))=(i:Int):=by omega
 have e1:w64 ((i:Int) - 1)=(i:Int) - 1:=w64_d (by omega) (by omega)
 have k0:(0:Int)≤(i:Int):=by omega
 obtain ⟨q,hq⟩:∃q,L[i]?=some q:=⟨_,List.getElem?_eq_getElem (by omega)⟩
 have ld:=fun X=>lds i q X (by omega) hq
 have rb:=s_rbyte_eq (a:=a) (b:=b) (c:=c) (s:=(j:Int)) (i:=(i:Int))
 rw [if_pos ⟨by omega,by omega,by omega,by omega⟩] at rb
 have st:=stG_step 0#64 (M:=L) (by omega) (by omega) hq (r:=r')
 rw [lL] at st
 have e4:(i:Int) - 1=(j:Int) - 1 - ((r'+1:Nat):Int):=by omega
 have cm:∀x:BitVec 64,256#64 * x=x * 256#64:=fun x=>BitVec.mul_comm _ _
 (repeat (first | simp (maxSteps:=9^9) only [go_sem,seval,lr,ro,rt,lS,dS,e0,e1,k0,ra,rb,ld,cm,←st,e4] | simp (disch:=omega) only [w64_d,ipos,ineg,dpos,dneg]))
 exact ⟨r'+1,by omega,by omega,wkF (by simp [Am.get])⟩
def rdZ:List Sc:=[.i 0,.i 0,.i 0,.i 0,.nils,.b false,.b false,.b false,.b false,.b false,.b false,.b false,.b false,.u 0#64,.u 0#64,.u 0#64,.u 0#64,.u 0#64,.u 0#64,.u 0#64,.u 0#64]
def s_r14put (args:List AV) (H:AH):Option (AV × AH) :=
 match args with
 | [.g (.i q1::.i q2::.i q3::.i q4::.sl id 0 v N::rf),.c (.i h),.g (.i k::.u a::.u b::.i c::.i s::r),.c (.u x)] =>
   match rdQ H id v N rf with
   | some (B,R)=>if r.length=14∧r.all Sc.pf=true∧r.all Sc.one=true∧smB c s=true∧hasP B.length a b c s=true then
      some (.g (rdC q1 q2 q3 q4 id B.length (killL R (linL a b c s) h 8)),H.set id (.vec 1 ((layP B a b c s x).flatMap e8F))) else none
   | none=>none
 | _=>none
theorem s_r14put_eq {q1 q2 q3 q4 h:Int} {id v N:Nat} {rf:List Sc} {B:List Int} {m:Nat} {R:List Sl} (hd:RdOk H id v N rf B m R) {k:Int} {a b:BitVec 64} {c s:Int} {r:List Sc} {x:BitVec 64} (l1:r.length=14) (l2:r.all Sc.pf=true) (l3:r.all Sc.one=true) (hm:smB c s=true) (hp:hasP B.length a b c s=true) :
 s_r14put [.g (.i q1::.i q2::.i q3::.i q4::.sl id 0 v N::rf),.c (.i h),.g (.i k::.u a::.u b::.i c::.i s::r),.c (.u x)] H=some (.g (rdC q1 q2 q3 q4 id B.length (killL R (linL a b c s) h 8)),H.set id (.vec 1 ((layP B a b c s x).flatMap e8F))):=by
 simp only [s_r14put,rdQ_of hd];rw [if_pos ⟨l1,l2,l3,hm,hp⟩]
theorem len_r14put (args:List AV) (H:AH) (v:AV) (H1:AH) (h:s_r14put args H=some (v,H1)):H.length≤H1.length:=by
 unfold s_r14put at h
 repeat' split at h
 all_goals simp at h
 rw [←h.2];simp
theorem ok_r14put:FpOk Tryz.prog 41 s_r14put:=by
 refine fp_ok (s:=s_r14put) (tab:=[(71,.pu s_r14access),(73,.pu s_rbyte),(75,.fp s_rst1),(76,.pu s_vrkill)]) hmix (TabOk.cons (e:=.pu s_r14access) ok_r14access (TabOk.cons (e:=.pu s_rbyte) ok_rbyte (TabOk.cons (e:=.fp s_rst1) ok_rst1 (TabOk.cons (e:=.pu s_vrkill) ok_vrkill TabOk.nil)))) Tryz.func41 rfl Tryz.results41 Tryz.ntmps41 (by kernel_rfl) (by kernel_rfl) len_r14put ?_
 intro args H v H1 h hargs hH
 unfold s_r14put at h
 split at h <;> try (simp at h;done)
 rename_i q1 q2 q3 q4 id v N rf h0 k a b c s r x
 split at h <;> try (simp at h;done)
 rename_i B R hd
 split at h <;> try (simp at h;done)
 rename_i hc
 obtain ⟨lr,pr,ro,hm,hp⟩:=hc
 simp only [Option.some.injEq,Prod.mk.injEq] at h
 obtain ⟨rfl,rfl⟩:=h
 obtain ⟨m,hd⟩:=rdQ_inv hd
 obtain ⟨ho,rfl,rfl,hl,hm4,hby,rfl,hR⟩:=hd
 refine ⟨by simp only [List.length_cons,List.length_nil];decide,?_⟩
 have hm':1≤s∧s≤8∧0≤c∧c < s:=by simpa [smB] using hm
 have rt:r.take 14=r:=List.take_of_length_le (by omega)
 have lid:id < H.length:=hg_lt (by rw [ho];rfl)
 rw [←bW_all hl hm4 hm hp,←kW_all hR hm]
 obtain ⟨j,rfl⟩:∃j:Nat,s=(j:Int):=⟨s.toNat,by omega⟩
 rw [Int.toNat_natCast]
 let O:Nat→AH:=fun i=>H.set id (.vec 1 ((bW B a b c x i).flatMap e8F))
 have lO:∀i,(O i).length=H.length:=fun i=>List.length_set
 have bO:∀i,belH (O i)=true:=fun i=>bel_set' hH (e8w_bel _ _)
 have lb:∀i,i≤j→(bW B a b c x i).length=B.length:=fun i hi=>bW_len hl hm4 hm hp (by omega)
 have gO:∀i X,hg (O i++X) id=.vec 1 ((bW B a b c x i).flatMap e8F):=fun i X=>by rw [hg_lt' (by rw [lO];exact lid)];exact hg_set_same lid
 have sO:∀i X (C:List Int),(O i++X).set id (.vec 1 (C.flatMap e8F))=H.set id (.vec 1 (C.flatMap e8F))++X:=fun i X C=>by rw [List.set_append_left _ _ (by rw [lO];exact lid)];show (H.set id _).set id _++X=_;rw [List.set_set]
 have eO:∀i,H.set id (.vec 1 ((bW B a b c x (i+1)).flatMap e8F))=O (i+1):=fun i=>rfl
 have e0:O 0=H:=setF_self ho lid
 have eF:H.set id (.vec 1 ((bW B a b c x j).flatMap e8F))=O j:=rfl
 have st:∀i X,i < j→s_rst1 [.g [.sl id 0 B.length B.length],.c (.u (byteU a b c i)),.c (.i 1),.c (.u ((x >>> (8 * i)) % 256#64))] (O i++X)=some (.c (.b true),O (i+1)++X):=fun i X hi=>by
  have hb:=byte_has hm4 hm (by rw [←hl];exact hp) (i:=(i:Int)) (by omega) (by omega)
  rw [←hasF_B,←hl] at hb
  have l1:=lb i (by omega)
  have e:=s_rst1_eq (x:=(x >>> (8 * i)) % 256#64) (gO i X) (by rw [l1];omega) (by rw [l1];exact hb)
  rw [l1,wrap_mod,sO] at e
  exact e
 have kR:∀i,(kW R a b c h0 i).length=8:=fun i=>by rw [kW_len,hR]
 have vk:∀i:Nat,∃n:Nat,s_vrkill [.g (refC (kW R a b c h0 i)),.c (.u (byteU a b c i / 64#64)),.c (.i h0)]=some (.t [.g (refC (kW R a b c h0 (i+1))),.c (.i n)]):=fun i=>⟨_,by rw [s_vrkill_eq,if_pos (isRf_of (kR i)),rfT_of (kR i)];rfl⟩
 rw [eF]
 clear_value O
 obtain ⟨ask,hask⟩:∃ask:List Sc,ask=.i k::.u a::.u b::.i c::.i j::r:=⟨_,rfl⟩
 obtain ⟨S,hS⟩:∃S:Nat→List Sc,S=fun i=>rdC q1 q2 q3 q4 id B.length (kW R a b c h0 i):=⟨_,rfl⟩
 have hS0:(Sc.i q1::.i q2::.i q3::.i q4::.sl id 0 B.length B.length::refC R)=S 0:=by rw [hS];rfl
 have lS:∀i,(S i).length=21:=fun i=>by rw [hS];exact rdC_len (kR i)
 have oS:∀i,(S i).all Sc.one=true:=fun i=>by rw [hS];exact rdC_one
 have bS:∀i k,id < k→(S i).all (Sc.bel k)=true:=fun i k hk=>by rw [hS];exact rdC_bel hk
 have tS:∀i,(S i).take 21=S i:=fun i=>List.take_of_length_le (by rw [lS];exact Nat.le_refl _)
 have dT:∀i,((S i).drop 5).take 16=refC (kW R a b c h0 i):=fun i=>by rw [hS];exact rdC_T (kR i)
 have dM:∀i,((S i).drop 4).take 1=[.sl id 0 B.length B.length]:=fun i=>by rw [hS];exact rdC_M
 have wS:∀i,wr (S i) 5 (refC (kW R a b c h0 (i+1)))=S (i+1):=fun i=>by rw [hS];exact rdC_wr (kR i) (kR (i+1))
 have fS:rdC q1 q2 q3 q4 id B.length (kW R a b c h0 j)=S j:=by rw [hS]
 have lT:∀i,(refC (kW R a b c h0 i)).length=16:=fun i=>refC_l (kR i)
 have tT:∀i,(refC (kW R a b c h0 i)).take 16=refC (kW R a b c h0 i):=fun i=>List.take_of_length_le (by rw [lT];exact Nat.le_refl _)
 have oT:∀i,(refC (kW R a b c h0 i)).all Sc.one=true:=fun i=>refC_one
 have lZ:rdZ.length=21:=rfl
 have bask:∀k,ask.all (Sc.bel k)=true:=fun k=>by rw [hask];simp [Sc.bel,pf_bel k pr]
 have lask:ask.length=19:=by rw [hask];simp [lr]
 have task:ask.take 19=ask:=List.take_of_length_le (by omega)
 have oask:ask.all Sc.one=true:=by rw [hask];simp [Sc.one,ro]
 have gask:ask.getD 4 .any=.i j:=by rw [hask];rfl
 have ra:s_r14access [.g ask]=some (.g [.u a,.u b,.i c,.i j]):=by rw [hask,s_r14access_eq,if_pos ⟨lr,pr⟩]
 have g0:∀i X,hg (O i++X) H.length=hg X 0:=fun i X=>by rw [←lO i,hg_len]
 have gN:∀i X n,hg (O i++X) (H.length+n)=hg X n:=fun i X n=>by rw [←lO i,hg_len_add]
 have s0:∀i X o,(O i++X).set H.length o=O i++X.set 0 o:=fun i X o=>by rw [←lO i,set_len]
 have sN:∀i X n o,(O i++X).set (H.length+n) o=O i++X.set n o:=fun i X n o=>by rw [←lO i,set_len_add]
 rw [hS0,fS,←hask]
 clear hS
 (repeat (first | simp (maxSteps:=9^9) only [go_sem,seval,lS,tS,oS,lask,task,oask] | simp (disch:=omega) only [w64_d,ipos,ineg,dpos,dneg]))
 refine arun_for j (fun i=>([(1,.c (.i h0)),(3,.c (.u (x >>> (8 * i)))),(4,.c (.p H.length 0 0)),(6,.c (.p (H.length+1) 0 0)),(8,.c (.p (H.length+2) 0 0)),(9,.c (.i i))],O i++[.own (S i),.own ask,.own rdZ])) ?_ fun i hi=>?_
 ·refine wkFe ?_ (by simp [Am.get])
  rw [e0];rfl
 by_cases hlt:i < j
 rotate_left
 ·obtain rfl:i=j:=by omega
  have iI:¬((i:Int) < i):=by omega
  have dZ:rdZ.drop 21=[]:=rfl
  (repeat (first | simp (maxSteps:=9^9) only [go_sem,seval,g0,gN,sN,s0,lO,lask,gask,iI,lS,tS,oS,lZ,dZ] | simp (disch:=omega) only [w64_d,ipos,ineg,dpos,dneg]))
  exact fin_fp (bS _ _ (by rw [lO];exact lid)) (subH_app _ _) (bO _) (by rw [lO];exact Nat.le_refl _)
 have iI:(i:Int) < j:=by omega
 have F1:w64 ((i:Int)+1)=((i+1:Nat):Int):=by rw [w64_d (by omega) (by omega)];omega
 have rb:=s_rbyte_eq (a:=a) (b:=b) (c:=c) (s:=(j:Int)) (i:=(i:Int))
 rw [if_pos ⟨by omega,by omega,by omega,by omega⟩] at rb
 have st:=fun X=>st i X hlt
 obtain ⟨n,vk⟩:=vk i
 have sh:(x >>> (8 * i)) / 256#64=x >>> (8 * (i+1)):=by rw [div256,←BitVec.shiftRight_add];rfl
 have bb:belH (O (i+1)++[.own (S (i+1)),.own ask,.own rdZ])=true:=belH_app (bO _) (by simp only [List.mem_cons,List.not_mem_nil,or_false,forall_eq_or_imp,forall_eq];exact ⟨bS _ _ (by rw [List.length_append,lO];omega),bask _,rfl⟩)
 (repeat (first | simp (maxSteps:=9^9) only [go_sem,seval,g0,gN,sN,s0,lO,lask,task,oask,gask,iI,F1,lS,tS,oS,dM,dT,wS,lT,tT,oT,ra,rb,st,sh,vk] | simp (disch:=omega) only [w64_d,ipos,ineg,dpos,dneg]))
 exact ⟨i+1,by omega,by omega,Wk.wk (by simp [lo,lO]) (by simp [Am.get]) (by simp [AV.bel,Sc.bel,lO]) (subH_pre _ ⟨.inr rfl,.inr rfl,.inr rfl,trivial⟩) bb⟩
end
end
end Go.Proofs.YteclombpnhociaaGreat
set_option maxRecDepth 100000
set_option maxHeartbeats 8000000
namespace Go.Proofs.YteclombpnhociaaGreat
open Go.Am
set_option linter.unusedSimpArgs false
set_option linter.unusedVariables false
noncomputable section
def dmW (h t n b:Int) (B:List Int) (R:List Sl):Fw:=⟨0,0,h,t,n,b,B,R,.nilp,[]⟩
theorem may_P {m:Nat} (hm:m≤4096) {k:Int} {a b:BitVec 64} {c s op:Int}:mayB m k a b c s op=(formB k a c s op && hasP (64 * m) a b c s):=by
 unfold mayB
 cases hf:formB k a c s op
 ·rfl
 ·rw [has_parts hm (p2_sm (b:=b) hf)]
section
variable {H:AH}
def s_r14do (args:List AV) (H:AH):Option (AV × AH) :=
 match args with
 | [.g (.i q1::.i q2::.i q3::.i q4::.sl id 0 v N::rf),.c (.i h),.g (.i k::.u a::.u b::.i c::.i s::.i op::.u d::.u o::.b lv::r)] =>
   match rdQ H id v N rf with
   | some (B,R)=>open Classical in if askR r∧inR s∧q1≤8 then
      some (.t [.g (rdC q1 q2 q3 q4 id B.length (wR (dmW q1 q2 q3 q4 B R) h ⟨k,a,b,c,s,op,d,o,lv⟩)),.g (anC (wD (dmW q1 q2 q3 q4 B R) h ⟨k,a,b,c,s,op,d,o,lv⟩) (wG (dmW q1 q2 q3 q4 B R) h ⟨k,a,b,c,s,op,d,o,lv⟩)),.c (.b (wOk (dmW q1 q2 q3 q4 B R) h ⟨k,a,b,c,s,op,d,o,lv⟩))],
       H.set id (.vec 1 ((wB (dmW q1 q2 q3 q4 B R) h ⟨k,a,b,c,s,op,d,o,lv⟩).flatMap e8F))) else none
   | none=>none
 | _=>none
theorem s_r14do_eq {q1 q2 q3 q4 h:Int} {id v N:Nat} {rf:List Sc} {B:List Int} {m:Nat} {R:List Sl} (hd:RdOk H id v N rf B m R) {k:Int} {a b:BitVec 64} {c s op:Int} {d o:BitVec 64} {lv:Bool} {r:List Sc} (hr:askR r) (hs:inR s) (hq:q1≤8) :
 s_r14do [.g (.i q1::.i q2::.i q3::.i q4::.sl id 0 v N::rf),.c (.i h),.g (.i k::.u a::.u b::.i c::.i s::.i op::.u d::.u o::.b lv::r)] H=some (.t [.g (rdC q1 q2 q3 q4 id B.length (wR (dmW q1 q2 q3 q4 B R) h ⟨k,a,b,c,s,op,d,o,lv⟩)),.g (anC (wD (dmW q1 q2 q3 q4 B R) h ⟨k,a,b,c,s,op,d,o,lv⟩) (wG (dmW q1 q2 q3 q4 B R) h ⟨k,a,b,c,s,op,d,o,lv⟩)),.c (.b (wOk (dmW q1 q2 q3 q4 B R) h ⟨k,a,b,c,s,op,d,o,lv⟩))],
  H.set id (.vec 1 ((wB (dmW q1 q2 q3 q4 B R) h ⟨k,a,b,c,s,op,d,o,lv⟩).flatMap e8F))):=by
 simp only [s_r14do,rdQ_of hd];rw [if_pos ⟨hr,hs,hq⟩]
theorem len_r14do (args:List AV) (H:AH) (v:AV) (H1:AH) (h:s_r14do args H=some (v,H1)):H.length≤H1.length:=by
 unfold s_r14do at h
 repeat' split at h
 all_goals simp at h
 rw [←h.2];simp
theorem lowL {B:List Int} {a b:BitVec 64} {c s:Int} {v:BitVec 64} (hm:smB c s=true):layP B a b c s (lowU v (8 * s))=layP B a b c s v:=layP_low hm
theorem ok_r14do:FpOk Tryz.prog 14 s_r14do:=by
 refine fp_ok (s:=s_r14do) (tab:=[(39,.fq s_rmay14),(40,.fq s_r14get),(41,.fp s_r14put),(42,.pu s_rdo8),(43,.pu s_vrset),(44,.pu s_vrclear)]) hmix (TabOk.cons (e:=.fq s_rmay14) ok_rmay14 (TabOk.cons (e:=.fq s_r14get) ok_r14get (TabOk.cons (e:=.fp s_r14put) ok_r14put (TabOk.cons (e:=.pu s_rdo8) ok_rdo8 (TabOk.cons (e:=.pu s_vrset) ok_vrset (TabOk.cons (e:=.pu s_vrclear) ok_vrclear TabOk.nil)))))) Tryz.func14 rfl Tryz.results14 Tryz.ntmps14 (by kernel_rfl) (by kernel_rfl) len_r14do ?_
 intro args H v H1 h hargs hH
 unfold s_r14do at h
 split at h <;> try (simp at h;done)
 rename_i q1 q2 q3 q4 id v N rf h0 k a b c s op d o lv r
 split at h <;> try (simp at h;done)
 rename_i B R hd
 split at h <;> try (simp at h;done)
 rename_i hc
 obtain ⟨hr,hs,hq⟩:=hc
 simp only [Option.some.injEq,Prod.mk.injEq] at h
 obtain ⟨rfl,rfl⟩:=h
 obtain ⟨m,hd⟩:=rdQ_inv hd
 have hd':=hd
 obtain ⟨ho,rfl,rfl,hl,hm4,hby,rfl,hR⟩:=hd'
 have hr':=hr
 obtain ⟨lr,pr,ro⟩:=hr'
 refine ⟨by simp only [List.length_cons,List.length_nil];decide,?_⟩
 have rt:r.take 10=r:=List.take_of_length_le (by omega)
 have lid:id < H.length:=hg_lt (by rw [ho];rfl)
 obtain ⟨w,hw⟩:∃w,w=dmW q1 q2 q3 q4 B R:=⟨_,rfl⟩
 have wB':w.B=B:=by rw [hw];rfl
 have wR':w.R=R:=by rw [hw];rfl
 have wh:w.h=q1:=by rw [hw];rfl
 rw [←hw]
 obtain ⟨ask,hask⟩:∃ask:List Sc,ask=.i k::.u a::.u b::.i c::.i s::.i op::.u d::.u o::.b lv::r:=⟨_,rfl⟩
 obtain ⟨S,hS⟩:∃S:List Sl→List Sc,S=fun T=>rdC q1 q2 q3 q4 id B.length T:=⟨_,rfl⟩
 have hS0:(Sc.i q1::.i q2::.i q3::.i q4::.sl id 0 B.length B.length::refC R)=S R:=by rw [hS];rfl
 have lS:∀T,T.length=8→(S T).length=21:=fun T hT=>by rw [hS];exact rdC_len hT
 have oS:∀T,(S T).all Sc.one=true:=fun T=>by rw [hS];exact rdC_one
 have bS:∀T n,id < n→(S T).all (Sc.bel n)=true:=fun T n hn=>by rw [hS];exact rdC_bel hn
 have tS:∀T,T.length=8→(S T).take 21=S T:=fun T hT=>List.take_of_length_le (by rw [lS T hT];exact Nat.le_refl _)
 have dT:∀T,T.length=8→((S T).drop 5).take 16=refC T:=fun T hT=>by rw [hS];exact rdC_T hT
 have wS:∀T U,T.length=8→U.length=8→wr (S T) 5 (refC U)=S U:=fun T U hT hU=>by rw [hS];exact rdC_wr hT hU
 have g0S:∀T,(S T).getD 0 .any=.i q1:=fun T=>by rw [hS];rfl
 have lT:∀T:List Sl,T.length=8→(refC T).length=16:=fun T hT=>refC_l hT
 have tT:∀T:List Sl,T.length=8→(refC T).take 16=refC T:=fun T hT=>List.take_of_length_le (by rw [lT T hT];exact Nat.le_refl _)
 have oT:∀T:List Sl,(refC T).all Sc.one=true:=fun T=>refC_one
 have pT:tbO (refC R):=⟨refC_l hR,refC_pf,refC_one⟩
 have zS:(rdZ.drop 21:List Sc)=[]:=rfl
 have lask:ask.length=19:=by rw [hask];simp [lr]
 have task:ask.take 19=ask:=List.take_of_length_le (by omega)
 have oask:ask.all Sc.one=true:=by rw [hask];simp [Sc.one,ro]
 have a0:ask.getD 0 .any=.i k:=by rw [hask];rfl
 have a1:ask.getD 1 .any=.u a:=by rw [hask];rfl
 have a5:ask.getD 5 .any=.i op:=by rw [hask];rfl
 have a6:ask.getD 6 .any=.u d:=by rw [hask];rfl
 have a7:ask.getD 7 .any=.u o:=by rw [hask];rfl
 have a8:ask.getD 8 .any=.b lv:=by rw [hask];rfl
 have my:∀X,s_rmay14 [.g (S R),.g ask] (H++X)=some (.c (.b (mayB m k a b c s op))):=fun X=>by
  rw [←hS0,hask,hl];exact s_rmay14_eqT pT hr hs hm4
 have bSH:∀(T:List Sl) (d:BitVec 64) (g q:Bool) (K:AH),id < K.length→(AV.t [.g (S T),.g (anC d g),.c (.b q)]).bel K.length=true:=fun T d g q K hK=>by
  simp only [AV.bel,List.all_cons,List.all_nil,bS T _ hK,anC_bel,Sc.bel,Bool.and_true]
 have bset:∀C:List Int,belH (H.set id (.vec 1 (C.flatMap e8F)))=true:=fun C=>bel_set' hH (e8w_bel C _)
 have zA:(Sc.u 0#64::.b false::zMl).drop 42=[]:=List.drop_of_length_le (by simp [zMl_len])
 have slf:H.set id (.vec 1 (B.flatMap e8F))=H:=setF_self ho lid
 have gX:∀(C:List Int) X n,hg (H.set id (.vec 1 (C.flatMap e8F))++X) (H.length+n)=hg X n:=fun C X n=>by
  have:=hg_len_add (H:=H.set id (.vec 1 (List.flatMap e8F C))) (X:=X) (n:=n)
  rwa [List.length_set] at this
 have gX0:∀(C:List Int) X,hg (H.set id (.vec 1 (C.flatMap e8F))++X) H.length=hg X 0:=fun C X=>gX C X 0
 have sX:∀(C:List Int) X n o,(H.set id (.vec 1 (C.flatMap e8F))++X).set (H.length+n) o=H.set id (.vec 1 (C.flatMap e8F))++X.set n o:=fun C X n o=>by
  have:=set_len_add (H:=H.set id (.vec 1 (List.flatMap e8F C))) (X:=X) (n:=n) (o:=o)
  rwa [List.length_set] at this
 have sX0:∀(C:List Int) X o,(H.set id (.vec 1 (C.flatMap e8F))++X).set H.length o=H.set id (.vec 1 (C.flatMap e8F))++X.set 0 o:=fun C X o=>sX C X 0 o
 have eS:∀T,rdC q1 q2 q3 q4 id B.length T=S T:=fun T=>by rw [hS]
 rw [hS0,←hask,eS]
 have no:∀q:Ak,wOk w h0 q=false→wD w h0 q=0#64∧wG w h0 q=false∧wB w h0 q=B∧wR w h0 q=R:=fun q e=>by
  have eW:wWr w h0 q=none:=by unfold wWr;rw [if_neg (by simp [e])]
  exact ⟨by unfold wD;rw [if_neg (by simp [e])],by unfold wG;rw [if_neg (by simp [e])],by unfold wB;rw [eW];exact wB',by unfold wR;rw [if_neg (by simp [e])];exact wR'⟩
 have fin0:∀(n:Nat) (X:AH),n=H.length→∃v',some (AV.t [.g (S R),.g (.u 0#64::.b false::zMl),.c (.b false)])=some v'∧Wk n [(0,v')] (H++X) ([(0,.t [.g (S R),.g (anC 0#64 false),.c (.b false)])],H):=fun n X hn=>by
  subst hn
  exact fin_fp (bSH R 0#64 false false H lid) (subH_app _ _) hH (Nat.le_refl _)
 cases hmay:mayB m k a b c s op
 ·have e:wOk w h0 ⟨k,a,b,c,s,op,d,o,lv⟩=false:=by
   rw [may_P hm4] at hmay
   unfold wOk
   rw [wB',hl]
   cases hf:formB k a c s op
   ·rfl
   ·rw [hf,Bool.true_and] at hmay;rw [hmay];simp
  obtain ⟨e1,e2,e3,e4⟩:=no _ e
  rw [e,e1,e2,e3,e4,slf]
  (repeat (first | simp (maxSteps:=9^9) only [go_sem,seval,lS R hR,oS,tS R hR,lask,task,oask,my,hmay,zS,zA] | simp (disch:=omega) only [w64_d,ipos,ineg,dpos,dneg]))
  exact fin_fp (bSH R 0#64 false false H lid) (subH_app _ _) hH (Nat.le_refl _)
 by_cases h1:h0 < 0
 ·have e:wOk w h0 ⟨k,a,b,c,s,op,d,o,lv⟩=false:=by unfold wOk;rw [decide_eq_false (show ¬0≤h0 by omega)];simp
  obtain ⟨e1,e2,e3,e4⟩:=no _ e
  rw [e,e1,e2,e3,e4,slf]
  (repeat (first | simp (maxSteps:=9^9) only [go_sem,seval,lS R hR,oS,tS R hR,lask,task,oask,my,hmay,h1,zS,zA] | simp (disch:=omega) only [w64_d,ipos,ineg,dpos,dneg]))
  exact fin_fp (bSH R 0#64 false false H lid) (subH_app _ _) hH (Nat.le_refl _)
 by_cases h2:q1≤h0
 ·have e:wOk w h0 ⟨k,a,b,c,s,op,d,o,lv⟩=false:=by unfold wOk;rw [wh,decide_eq_false (show ¬h0 < q1 by omega)];simp
  obtain ⟨e1,e2,e3,e4⟩:=no _ e
  rw [e,e1,e2,e3,e4,slf]
  (repeat (first | simp (maxSteps:=9^9) only [go_sem,seval,lS R hR,oS,tS R hR,g0S,lask,task,oask,my,hmay,h1,h2,zS,zA] | simp (disch:=omega) only [w64_d,ipos,ineg,dpos,dneg]))
  exact fin_fp (bSH R 0#64 false false H lid) (subH_app _ _) hH (Nat.le_refl _)
 obtain ⟨x0,hx0⟩:∃x0:Nat,h0=(x0:Int):=⟨h0.toNat,by omega⟩
 subst hx0
 have x8:x0 < 8:=by omega
 have xI:(x0:Int) < 8:=by omega
 have x00:(0:Int)≤(x0:Int):=by omega
 have hmp:=hmay
 rw [may_P hm4,Bool.and_eq_true,←hl] at hmp
 obtain ⟨hf,hp⟩:=hmp
 have hm:=p2_sm (b:=b) hf
 have hok:wOk w x0 ⟨k,a,b,c,s,op,d,o,lv⟩=true:=by
  unfold wOk
  rw [wB',hf,hp,wh,decide_eq_true x00,decide_eq_true (show (x0:Int) < q1 by omega)];rfl
 rw [hok]
 have l14:(Sc.i op::.u d::.u o::.b lv::r).length=14:=by simp [lr]
 have p14:(Sc.i op::.u d::.u o::.b lv::r).all Sc.pf=true:=by simp [Sc.pf,pr]
 have o14:(Sc.i op::.u d::.u o::.b lv::r).all Sc.one=true:=by simp [Sc.one,ro]
 have gt:∀X,s_r14get [.g (S R),.g ask] (H++X)=some (.c (.u (wV w ⟨k,a,b,c,s,op,d,o,lv⟩))):=fun X=>by
  have:=s_r14get_eq (h:=q1) (t:=q2) (n:=q3) (b':=q4) (k:=k) (hd.app X) l14 p14 o14 hm hp
  rw [←hS0,hask,this]
  unfold wV
  rw [wB']
 have pu:∀X y,s_r14put [.g (S R),.c (.i x0),.g ask,.c (.u y)] (H++X)=some (.g (S (killL R (linL a b c s) x0 8)),H.set id (.vec 1 ((layP B a b c s y).flatMap e8F))++X):=fun X y=>by
  have:=s_r14put_eq (q1:=q1) (q2:=q2) (q3:=q3) (q4:=q4) (h:=(x0:Int)) (k:=k) (x:=y) (hd.app X) l14 p14 o14 hm hp
  rw [←hS0,hask,this,eS,List.set_append_left _ _ lid]
 have kl:(killL R (linL a b c s) x0 8).length=8:=by rw [killL_len,hR]
 obtain ⟨y,hy⟩:∃y,R[x0]?=some y:=⟨_,List.getElem?_eq_getElem (by omega)⟩
 have gy:R.getD x0 z0=y:=by rw [List.getD_eq_getElem?_getD,hy];rfl
 obtain ⟨c0,c1⟩:=refC_cell hR hy
 have d0:(S R).getD (5+x0) .any=.b y.is:=by
  rw [hS,←c0]
  show (rdC q1 q2 q3 q4 id B.length R).getD (5+x0) .any=_
  unfold rdC
  rw [Nat.add_comm];rfl
 have d1:(S R).getD (13+x0) .any=.u y.ln:=by
  rw [hS,←c1]
  show (rdC q1 q2 q3 q4 id B.length R).getD (13+x0) .any=_
  unfold rdC
  rw [show 13+x0=(8+x0)+5 by omega];rfl
 have d2:5+x0+1≤21:=by omega
 have d3:13+x0+1≤21:=by omega
 have sT:∀(T:List Sl) (u:Sl),setT T (x0:Int) u=T.set x0 u:=fun T u=>by unfold setT;rw [if_pos (in8_k x8),Int.toNat_natCast]
 have vs:∀u,s_vrset [.g (refC R),.c (.i x0),.c (.u u)]=some (.t [.g (refC (R.set x0 ⟨true,u⟩)),.c (.b true)]):=fun u=>by
  rw [s_vrset_eq,if_pos (isRf_of hR),rfT_of hR,sT,in8_k x8]
 have vc:∀T:List Sl,T.length=8→∃q,s_vrclear [.g (refC T),.c (.i x0)]=some (.t [.g (refC (T.set x0 z0)),.c (.b q)]):=fun T hT=>⟨_,by
  rw [s_vrclear_eq,if_pos (isRf_of hT),rfT_of hT,sT]⟩
 have ls:∀(T:List Sl) u,T.length=8→(T.set x0 u).length=8:=fun T u hT=>by rw [List.length_set,hT]
 have fin:=fun (T:List Sl) (dd:BitVec 64) (g:Bool) (C:List Int) (X:AH)=>fin_fp (n:=H.length) (bSH T dd g true (H.set id (.vec 1 (C.flatMap e8F))) (by rw [List.length_set];exact lid)) (subH_app _ X) (bset C) (by rw [List.length_set];exact Nat.le_refl _)
 by_cases k3:k=3
 ·subst k3
  have eW:wWr w x0 ⟨3,a,b,c,s,op,d,o,lv⟩=some d:=by unfold wWr;rw [if_pos hok,if_pos rfl]
  have eD:wD w x0 ⟨3,a,b,c,s,op,d,o,lv⟩=0#64:=by unfold wD;rw [if_pos hok,if_pos rfl]
  have eG:wG w x0 ⟨3,a,b,c,s,op,d,o,lv⟩=false:=by unfold wG;rw [if_pos hok,if_neg (show ¬(3:Int)=6 by decide),if_neg (show ¬(3:Int)=8 by decide)]
  have eB:wB w x0 ⟨3,a,b,c,s,op,d,o,lv⟩=layP B a b c s d:=by unfold wB;rw [eW,wB']
  have eR:wR w x0 ⟨3,a,b,c,s,op,d,o,lv⟩=killL R (linL a b c s) x0 8:=by unfold wR wR1;rw [if_pos hok,if_neg (show ¬(3:Int)=5 by decide),if_neg (show ¬(3:Int)=6 by decide),eW,wR']
  rw [eD,eG,eB,eR]
  (repeat (first | simp (maxSteps:=9^9) only [go_sem,seval,lS R hR,oS,tS R hR,dT R hR,g0S,lask,task,oask,a0,a1,a5,a6,a7,a8,my,hmay,h1,h2,zS,zA,gt,pu,gX,gX0,sX,sX0,lS _ kl,tS _ kl] | simp (disch:=omega) only [w64_d,ipos,ineg,dpos,dneg]))
  exact fin _ _ _ _ _
 by_cases k4:k=4
 ·subst k4
  have eW:wWr w x0 ⟨4,a,b,c,s,op,d,o,lv⟩=some (amoU op (wV w ⟨4,a,b,c,s,op,d,o,lv⟩) d):=by unfold wWr;rw [if_pos hok,if_neg (show ¬(4:Int)=3 by decide),if_pos rfl]
  have eD:wD w x0 ⟨4,a,b,c,s,op,d,o,lv⟩=wV w ⟨4,a,b,c,s,op,d,o,lv⟩:=by unfold wD;rw [if_pos hok,if_neg (show ¬(4:Int)=3 by decide),if_neg (show ¬(4:Int)=6 by decide)]
  have eG:wG w x0 ⟨4,a,b,c,s,op,d,o,lv⟩=false:=by unfold wG;rw [if_pos hok,if_neg (show ¬(4:Int)=6 by decide),if_neg (show ¬(4:Int)=8 by decide)]
  have eB:wB w x0 ⟨4,a,b,c,s,op,d,o,lv⟩=layP B a b c s (amoU op (wV w ⟨4,a,b,c,s,op,d,o,lv⟩) d):=by unfold wB;rw [eW,wB']
  have eR:wR w x0 ⟨4,a,b,c,s,op,d,o,lv⟩=killL R (linL a b c s) x0 8:=by unfold wR wR1;rw [if_pos hok,if_neg (show ¬(4:Int)=5 by decide),if_neg (show ¬(4:Int)=6 by decide),eW,wR']
  rw [eD,eG,eB,eR]
  generalize wV w ⟨4,a,b,c,s,op,d,o,lv⟩=V at *
  (repeat (first | simp (maxSteps:=9^9) only [go_sem,seval,s_rdo8_eq,lS R hR,oS,tS R hR,dT R hR,g0S,lask,task,oask,a0,a1,a5,a6,a7,a8,my,hmay,h1,h2,zS,zA,gt,pu,gX,gX0,sX,sX0,lS _ kl,tS _ kl] | simp (disch:=omega) only [w64_d,ipos,ineg,dpos,dneg]))
  exact fin _ _ _ _ _
 by_cases k5:k=5
 ·subst k5
  have eW:wWr w x0 ⟨5,a,b,c,s,op,d,o,lv⟩=none:=by unfold wWr;rw [if_pos hok];rfl
  have eD:wD w x0 ⟨5,a,b,c,s,op,d,o,lv⟩=wV w ⟨5,a,b,c,s,op,d,o,lv⟩:=by unfold wD;rw [if_pos hok,if_neg (show ¬(5:Int)=3 by decide),if_neg (show ¬(5:Int)=6 by decide)]
  have eG:wG w x0 ⟨5,a,b,c,s,op,d,o,lv⟩=false:=by unfold wG;rw [if_pos hok,if_neg (show ¬(5:Int)=6 by decide),if_neg (show ¬(5:Int)=8 by decide)]
  have eB:wB w x0 ⟨5,a,b,c,s,op,d,o,lv⟩=B:=by unfold wB;rw [eW];exact wB'
  have eR:wR w x0 ⟨5,a,b,c,s,op,d,o,lv⟩=R.set x0 ⟨true,a / 64#64⟩:=by unfold wR;rw [if_pos hok,if_pos rfl,wR',Int.toNat_natCast]
  rw [eD,eG,eB,eR,slf]
  generalize wV w ⟨5,a,b,c,s,op,d,o,lv⟩=V at *
  have l8:=ls R ⟨true,a / 64#64⟩ hR
  (repeat (first | simp (maxSteps:=9^9) only [go_sem,seval,lS R hR,oS,tS R hR,dT R hR,g0S,lask,task,oask,a0,a1,a5,a6,a7,a8,my,hmay,h1,h2,zS,zA,gt,vs,lT R hR,lT _ l8,tT _ l8,oT,wS R _ hR l8,lS _ l8,tS _ l8] | simp (disch:=omega) only [w64_d,ipos,ineg,dpos,dneg]))
  exact fin_fp (bSH _ V false true H lid) (subH_app _ _) hH (Nat.le_refl _)
 by_cases k6:k=6
 ·subst k6
  have eD:wD w x0 ⟨6,a,b,c,s,op,d,o,lv⟩=0#64:=by unfold wD;rw [if_pos hok,if_neg (show ¬(6:Int)=3 by decide),if_pos rfl]
  have eG:wG w x0 ⟨6,a,b,c,s,op,d,o,lv⟩=wSc w x0 ⟨6,a,b,c,s,op,d,o,lv⟩:=by unfold wG;rw [if_pos hok,if_pos rfl]
  have eS':wSc w x0 ⟨6,a,b,c,s,op,d,o,lv⟩=(lv && (y.is && decide (y.ln=a / 64#64))):=by unfold wSc;simp only [Int.toNat_natCast,wR',gy]
  rw [eD,eG]
  cases hgg:wSc w x0 ⟨6,a,b,c,s,op,d,o,lv⟩
  ·have eW:wWr w x0 ⟨6,a,b,c,s,op,d,o,lv⟩=none:=by unfold wWr;rw [if_pos hok,if_neg (show ¬(6:Int)=3 by decide),if_neg (show ¬(6:Int)=4 by decide),if_pos rfl,hgg];rfl
   have eB:wB w x0 ⟨6,a,b,c,s,op,d,o,lv⟩=B:=by unfold wB;rw [eW];exact wB'
   have eR:wR w x0 ⟨6,a,b,c,s,op,d,o,lv⟩=R.set x0 z0:=by unfold wR wR1;rw [if_pos hok,if_neg (show ¬(6:Int)=5 by decide),if_pos rfl,eW,wR',Int.toNat_natCast]
   rw [eB,eR,slf]
   rw [hgg] at eS'
   obtain ⟨qq,vc⟩:=vc R hR
   have l8:=ls R z0 hR
   cases lv
   ·(repeat (first | simp (maxSteps:=9^9) only [go_sem,seval,lS R hR,oS,tS R hR,dT R hR,g0S,lask,task,oask,a0,a1,a5,a6,a7,a8,my,hmay,h1,h2,zS,zA,gt,vc,lT R hR,lT _ l8,tT _ l8,oT,wS R _ hR l8,lS _ l8,tS _ l8] | simp (disch:=omega) only [w64_d,ipos,ineg,dpos,dneg]))
    exact fin_fp (bSH _ 0#64 false true H lid) (subH_app _ _) hH (Nat.le_refl _)
   ·rw [Bool.true_and] at eS'
    cases hyi:y.is
    ·rw [hyi] at d0
     (repeat (first | simp (maxSteps:=9^9) only [go_sem,seval,lS R hR,oS,tS R hR,dT R hR,g0S,lask,task,oask,a0,a1,a5,a6,a7,a8,my,hmay,h1,h2,zS,zA,gt,vc,lT R hR,lT _ l8,tT _ l8,oT,wS R _ hR l8,lS _ l8,tS _ l8,xI,x00,d0,d2,d3,Int.toNat_natCast] | simp (disch:=omega) only [w64_d,ipos,ineg,dpos,dneg]))
     exact fin_fp (bSH _ 0#64 false true H lid) (subH_app _ _) hH (Nat.le_refl _)
    ·rw [hyi] at d0 eS'
     rw [Bool.true_and] at eS'
     have eS':=of_decide_eq_false eS'.symm
     (repeat (first | simp (maxSteps:=9^9) only [go_sem,seval,lS R hR,oS,tS R hR,dT R hR,g0S,lask,task,oask,a0,a1,a5,a6,a7,a8,my,hmay,h1,h2,zS,zA,gt,vc,lT R hR,lT _ l8,tT _ l8,oT,wS R _ hR l8,lS _ l8,tS _ l8,xI,x00,d0,d1,d2,d3,eS',Int.toNat_natCast] | simp (disch:=omega) only [w64_d,ipos,ineg,dpos,dneg]))
     exact fin_fp (bSH _ 0#64 false true H lid) (subH_app _ _) hH (Nat.le_refl _)
  ·have eW:wWr w x0 ⟨6,a,b,c,s,op,d,o,lv⟩=some (lowU d (8 * s)):=by unfold wWr;rw [if_pos hok,if_neg (show ¬(6:Int)=3 by decide),if_neg (show ¬(6:Int)=4 by decide),if_pos rfl,hgg];rfl
   have eB:wB w x0 ⟨6,a,b,c,s,op,d,o,lv⟩=layP B a b c s d:=by unfold wB;rw [eW,wB'];exact lowL hm
   have eR:wR w x0 ⟨6,a,b,c,s,op,d,o,lv⟩=(killL R (linL a b c s) x0 8).set x0 z0:=by unfold wR wR1;rw [if_pos hok,if_neg (show ¬(6:Int)=5 by decide),if_pos rfl,eW,wR',Int.toNat_natCast]
   rw [eB,eR]
   rw [hgg] at eS'
   have eS':=eS'.symm
   simp only [Bool.and_eq_true,decide_eq_true_eq] at eS'
   obtain ⟨rfl,e1,e2⟩:=eS'
   rw [e1] at d0
   have e2:=eq_true e2
   obtain ⟨qq,vc⟩:=vc _ kl
   have l8:=ls _ z0 kl
   have dZ:(S R).drop 21=[]:=List.drop_of_length_le (by rw [lS R hR];exact Nat.le_refl _)
   (repeat (first | simp (maxSteps:=9^9) only [go_sem,seval,lS R hR,oS,tS R hR,dT R hR,g0S,lask,task,oask,a0,a1,a5,a6,a7,a8,my,hmay,h1,h2,zS,zA,gt,dZ,List.append_nil,pu,gX,gX0,sX,sX0,vc,lT _ kl,lT _ l8,tT _ l8,oT,dT _ kl,wS _ _ kl l8,lS _ kl,tS _ kl,lS _ l8,tS _ l8,xI,x00,d0,d1,d2,d3,e2,Int.toNat_natCast] | simp (disch:=omega) only [w64_d,ipos,ineg,dpos,dneg]))
   exact fin _ _ _ _ _
 by_cases k8:k=8
 ·subst k8
  have eD:wD w x0 ⟨8,a,b,c,s,op,d,o,lv⟩=wV w ⟨8,a,b,c,s,op,d,o,lv⟩:=by unfold wD;rw [if_pos hok,if_neg (show ¬(8:Int)=3 by decide),if_neg (show ¬(8:Int)=6 by decide)]
  have eG:wG w x0 ⟨8,a,b,c,s,op,d,o,lv⟩=decide (wV w ⟨8,a,b,c,s,op,d,o,lv⟩=o):=by unfold wG;rw [if_pos hok,if_neg (show ¬(8:Int)=6 by decide),if_pos rfl]
  rw [eD,eG]
  by_cases hv:wV w ⟨8,a,b,c,s,op,d,o,lv⟩=o
  ·have eW:wWr w x0 ⟨8,a,b,c,s,op,d,o,lv⟩=some d:=by unfold wWr;rw [if_pos hok,if_neg (show ¬(8:Int)=3 by decide),if_neg (show ¬(8:Int)=4 by decide),if_neg (show ¬(8:Int)=6 by decide),if_pos rfl,if_pos hv]
   have eB:wB w x0 ⟨8,a,b,c,s,op,d,o,lv⟩=layP B a b c s d:=by unfold wB;rw [eW,wB']
   have eR:wR w x0 ⟨8,a,b,c,s,op,d,o,lv⟩=killL R (linL a b c s) x0 8:=by unfold wR wR1;rw [if_pos hok,if_neg (show ¬(8:Int)=5 by decide),if_neg (show ¬(8:Int)=6 by decide),eW,wR']
   rw [eB,eR]
   generalize wV w ⟨8,a,b,c,s,op,d,o,lv⟩=V at *
   have hv':=eq_true hv
   (repeat (first | simp (maxSteps:=9^9) only [go_sem,seval,lS R hR,oS,tS R hR,dT R hR,g0S,lask,task,oask,a0,a1,a5,a6,a7,a8,my,hmay,h1,h2,zS,zA,gt,hv',pu,gX,gX0,sX,sX0,lS _ kl,tS _ kl] | simp (disch:=omega) only [w64_d,ipos,ineg,dpos,dneg]))
   exact fin _ _ _ _ _
  ·have eW:wWr w x0 ⟨8,a,b,c,s,op,d,o,lv⟩=none:=by unfold wWr;rw [if_pos hok,if_neg (show ¬(8:Int)=3 by decide),if_neg (show ¬(8:Int)=4 by decide),if_neg (show ¬(8:Int)=6 by decide),if_pos rfl,if_neg hv]
   have eB:wB w x0 ⟨8,a,b,c,s,op,d,o,lv⟩=B:=by unfold wB;rw [eW];exact wB'
   have eR:wR w x0 ⟨8,a,b,c,s,op,d,o,lv⟩=R:=by unfold wR wR1;rw [if_pos hok,if_neg (show ¬(8:Int)=5 by decide),if_neg (show ¬(8:Int)=6 by decide),eW];exact wR'
   rw [eB,eR,slf]
   generalize wV w ⟨8,a,b,c,s,op,d,o,lv⟩=V at *
   have hv':=eq_false hv
   (repeat (first | simp (maxSteps:=9^9) only [go_sem,seval,lS R hR,oS,tS R hR,dT R hR,g0S,lask,task,oask,a0,a1,a5,a6,a7,a8,my,hmay,h1,h2,zS,zA,gt,hv'] | simp (disch:=omega) only [w64_d,ipos,ineg,dpos,dneg]))
   exact fin_fp (bSH _ V false true H lid) (subH_app _ _) hH (Nat.le_refl _)
 have eW:wWr w x0 ⟨k,a,b,c,s,op,d,o,lv⟩=none:=by unfold wWr;rw [if_pos hok,if_neg k3,if_neg k4,if_neg k6,if_neg k8]
 have eD:wD w x0 ⟨k,a,b,c,s,op,d,o,lv⟩=wV w ⟨k,a,b,c,s,op,d,o,lv⟩:=by unfold wD;rw [if_pos hok,if_neg k3,if_neg k6]
 have eG:wG w x0 ⟨k,a,b,c,s,op,d,o,lv⟩=false:=by unfold wG;rw [if_pos hok,if_neg k6,if_neg k8]
 have eB:wB w x0 ⟨k,a,b,c,s,op,d,o,lv⟩=B:=by unfold wB;rw [eW];exact wB'
 have eR:wR w x0 ⟨k,a,b,c,s,op,d,o,lv⟩=R:=by unfold wR wR1;rw [if_pos hok,if_neg k5,if_neg k6,eW];exact wR'
 rw [eD,eG,eB,eR,slf]
 generalize wV w ⟨k,a,b,c,s,op,d,o,lv⟩=V at *
 (repeat (first | simp (maxSteps:=9^9) only [go_sem,seval,lS R hR,oS,tS R hR,dT R hR,g0S,lask,task,oask,a0,a1,a5,a6,a7,a8,my,hmay,h1,h2,zS,zA,gt,k3,k4,k5,k6,k8] | simp (disch:=omega) only [w64_d,ipos,ineg,dpos,dneg]))
 exact fin_fp (bSH _ V false true H lid) (subH_app _ _) hH (Nat.le_refl _)
end
end
end Go.Proofs.YteclombpnhociaaGreat
set_option maxRecDepth 100000
set_option maxHeartbeats 8000000
namespace Go.Proofs.YteclombpnhociaaGreat
open Go.Am
set_option linter.unusedSimpArgs false
set_option linter.unusedVariables false
noncomputable section
section
variable {P:Program} {tab:Tab} {f:Nat} {fn:Func} {code:Code} {rs:List ResultVar} {n:Nat} {args:List AV} {H:AH} {v:AV} {H1:AH}
def RunP (P:Program) (tab:Tab) (f:Nat) (args:List AV) (H:AH) (v:AV) (H1:AH):Prop :=
 ∀fn code,P.funcs[f]?=some fn→fn.body=some code→(args.all (AV.bel H.length))=true→belH H=true→args.length≤fn.ntmps ∧
  arun P ((1000000,.lo H.length)::tab) [.c code] (frA 0 args) H (fun fr H'=>∃v',resA P fr H' fn.results.toList=some v'∧Wk H.length [(0,v')] H' ([(0,v)],H1))
def sCh (R:AV→AH→Prop):Option (AV × AH):=by
 classical
 exact if h:∃r:AV × AH,R r.1 r.2 then some h.choose else none
theorem sCh_inv {R:AV→AH→Prop} (h:sCh R=some (v,H1)):R v H1:=by
 unfold sCh at h
 split at h
 ·rename_i h1
  simp only [Option.some.injEq] at h
  have:=h1.choose_spec
  rw [h] at this
  exact this
 ·simp at h
theorem sCh_of {R:AV→AH→Prop} (h:R v H1):∃v H1,sCh R=some (v,H1)∧R v H1:=by
 have h1:∃r:AV × AH,R r.1 r.2:=⟨(v,H1),h⟩
 refine ⟨h1.choose.1,h1.choose.2,?_,h1.choose_spec⟩
 unfold sCh
 rw [dif_pos h1]
def frS (P:Program) (tab:Tab) (f:Nat) (post:List AV→AH→AV→AH→Prop) (args:List AV) (H:AH):Option (AV × AH) :=
 sCh fun v H1=>RunP P tab f args H v H1∧H.length≤H1.length∧post args H v H1
variable {post:List AV→AH→AV→AH→Prop}
theorem frS_len (args:List AV) (H:AH) (v:AV) (H1:AH) (h:frS P tab f post args H=some (v,H1)):H.length≤H1.length:=(sCh_inv h).2.1
theorem frS_ok (hmix:P.follows .mixedOrders=true) (ht:TabOk P tab)
 (hf:P.funcs[f]?=some fn) (hb:fn.body=some code) (hrs:fn.results=rs.toArray) (hn:fn.ntmps=n) (hname:(fn.name == "runtime.NumGoroutine")=false) (hok:okC n ddr code=true):FpOk P f (frS P tab f post):=by
 refine fp_ok (s:=frS P tab f post) (tab:=tab) hmix ht hf hb hrs hn hname hok frS_len ?_
 intro args H v H1 h ha hH
 have:=(sCh_inv h).1 fn code hf hb ha hH
 rw [hn,hrs] at this
 exact this
theorem frS_ex (hf:P.funcs[f]?=some fn) (hb:fn.body=some code) (hrs:fn.results=rs.toArray) (hn:fn.ntmps=n) (hl:args.length≤n)
 (h:(args.all (AV.bel H.length))=true→belH H=true→arun P ((1000000,.lo H.length)::tab) [.c code] (frA 0 args) H (fun fr H'=>∃v',resA P fr H' rs=some v'∧Wk H.length [(0,v')] H' ([(0,v)],H1)))
 (hlen:H.length≤H1.length) (hp:post args H v H1):∃v H1,frS P tab f post args H=some (v,H1)∧H.length≤H1.length∧post args H v H1:=by
 obtain ⟨v,H1,h1,_,h2,h3⟩:=sCh_of (R:=fun v H1=>RunP P tab f args H v H1∧H.length≤H1.length∧post args H v H1) ⟨fun fn' code' e1 e2 ha hH=>by
  rw [hf] at e1
  simp only [Option.some.injEq] at e1
  subst e1
  rw [hb] at e2
  simp only [Option.some.injEq] at e2
  subst e2
  rw [hn,hrs]
  exact ⟨hl,h ha hH⟩,hlen,hp⟩
 exact ⟨v,H1,h1,h2,h3⟩
def RunQ (P:Program) (tab:Tab) (f:Nat) (args:List AV) (H:AH) (v:AV):Prop :=
 ∀fn code,P.funcs[f]?=some fn→fn.body=some code→(args.all (AV.bel H.length))=true→belH H=true→args.length≤fn.ntmps∧v.bel H.length=true ∧
  arun P ((1000000,.lo H.length)::tab) [.c code] (frA 0 args) H (fun fr H'=>resA P fr H' fn.results.toList=some v∧subH H H')
def sCq (R:AV→Prop):Option AV:=by
 classical
 exact if h:∃r:AV,R r then some h.choose else none
theorem sCq_inv {R:AV→Prop} (h:sCq R=some v):R v:=by
 unfold sCq at h
 split at h
 ·rename_i h1
  simp only [Option.some.injEq] at h
  have:=h1.choose_spec
  rw [h] at this
  exact this
 ·simp at h
theorem sCq_of {R:AV→Prop} (h:R v):∃v,sCq R=some v∧R v:=by
 have h1:∃r:AV,R r:=⟨v,h⟩
 refine ⟨h1.choose,?_,h1.choose_spec⟩
 unfold sCq
 rw [dif_pos h1]
def frQ (P:Program) (tab:Tab) (f:Nat) (post:List AV→AH→AV→Prop) (args:List AV) (H:AH):Option AV :=
 sCq fun v=>RunQ P tab f args H v∧post args H v
variable {postq:List AV→AH→AV→Prop}
theorem frQ_ok (hmix:P.follows .mixedOrders=true) (ht:TabOk P tab)
 (hf:P.funcs[f]?=some fn) (hb:fn.body=some code) (hrs:fn.results=rs.toArray) (hn:fn.ntmps=n) (hname:(fn.name == "runtime.NumGoroutine")=false) (hok:okC n ddr code=true) :
 FpOk P f (fun args H=>(frQ P tab f postq args H).map fun v=>(v,H)):=by
 refine fq_ok (s:=frQ P tab f postq) (tab:=tab) hmix ht hf hb hrs hn hname hok ?_
 intro args H v h ha hH
 have:=(sCq_inv h).1 fn code hf hb ha hH
 rw [hn,hrs] at this
 exact this
theorem frQ_ex (hf:P.funcs[f]?=some fn) (hb:fn.body=some code) (hrs:fn.results=rs.toArray) (hn:fn.ntmps=n) (hl:args.length≤n) (hv:(args.all (AV.bel H.length))=true→belH H=true→v.bel H.length=true)
 (h:(args.all (AV.bel H.length))=true→belH H=true→arun P ((1000000,.lo H.length)::tab) [.c code] (frA 0 args) H (fun fr H'=>resA P fr H' rs=some v∧subH H H'))
 (hp:postq args H v):∃v,frQ P tab f postq args H=some v∧postq args H v:=by
 obtain ⟨v,h1,_,h3⟩:=sCq_of (R:=fun v=>RunQ P tab f args H v∧postq args H v) ⟨fun fn' code' e1 e2 ha hH=>by
  rw [hf] at e1
  simp only [Option.some.injEq] at e1
  subst e1
  rw [hb] at e2
  simp only [Option.some.injEq] at e2
  subst e2
  rw [hn,hrs]
  exact ⟨hl,hv ha hH,h ha hH⟩,hp⟩
 exact ⟨v,h1,h3⟩
end
end
end Go.Proofs.YteclombpnhociaaGreat
set_option maxRecDepth 100000
set_option maxHeartbeats 8000000
namespace Go.Proofs.YteclombpnhociaaGreat
open Go.Am
set_option linter.unusedSimpArgs false
set_option linter.unusedVariables false
noncomputable section
theorem fin_same {n:Nat} {v:AV} {H:AH}:∃v',some v=some v'∧Wk n [(0,v')] H ([(0,v)],H) :=
 ⟨_,rfl,fun ρ _ _ h1 h2=>⟨ρ,h1,h2,fun i _ hi hL _=>⟨i,hi,hL⟩,fun _ _=>rfl⟩⟩
def idxI (K:List Int) (k:Int):Int:=match K.findIdx? (fun x=>decide (k=x)) with
 | some i=>(i:Int)
 | none=>-1
def s_lidx (args:List AV) (H:AH):Option AV :=
 match args with
 | [.c x,.c (.i k)] =>
   match slD 1 dcI H x with
   | some K=>if K.length≤1000000 then some (.c (.i (idxI K k))) else none
   | none=>none
 | _=>none
theorem s_lidx_of {x:Sc} {H:AH} {K:List Int} {k:Int} (h:slD 1 dcI H x=some K) (hl:K.length≤1000000):s_lidx [.c x,.c (.i k)] H=some (.c (.i (idxI K k))):=by
 simp only [s_lidx,h,hl,if_true]
theorem ok_lidx:FpOk Tryz.prog 84 (fun args H=>(s_lidx args H).map fun v=>(v,H)):=by
 refine fq_ok (s:=s_lidx) (tab:=[]) hmix TabOk.nil Tryz.func84 rfl Tryz.results84 Tryz.ntmps84 (by kernel_rfl) (by kernel_rfl) ?_
 intro args H v h hargs hH
 unfold s_lidx at h
 split at h
 ·rename_i x q
  split at h
  ·rename_i K hK
   split at h
   ·rename_i hn
    simp only [Option.some.injEq] at h
    subst h
    refine ⟨by simp only [List.length_cons,List.length_nil];decide,rfl,?_⟩
    have bx:x.bel H.length=true:=by simp only [List.all_cons,AV.bel,Bool.and_eq_true] at hargs;exact hargs.1
    have hx:=slD_inv dcI_d hK
    have xl:∀e,lenB (.sl e) (.c x)=some (.c (.i K.length)):=by
     intro e
     rcases hx with ⟨rfl,rfl⟩ | ⟨id2,v2,rfl,_,_⟩ <;> rfl
    (repeat (first | simp (maxSteps:=9^9) only [go_sem,seval,xl] | simp (disch:=omega) only [w64_d,ipos,ineg,dpos,dneg]))
    rw [arun_loop]
    refine ⟨{k:Nat // k≤K.length∧∀j,j < k→∀y,K[j]?=some y→q≠y},fun k=>([(0,.c x),(1,.c (.i q)),(7,.c (.i K.length)),(8,.c (.i k.1))],H),fun k=>K.length - k.1,⟨0,by omega,fun j hj=>absurd hj (Nat.not_lt_zero _)⟩,?_,?_⟩
    ·exact Wk.wk (by simp [lo]) (by simp [Am.get]) (by simp only [List.all_cons,List.all_nil,Bool.and_true,Bool.and_eq_true,AV.bel];exact ⟨bx,rfl,rfl,rfl⟩) (subH_refl _) hH
    ·rintro ⟨k,hk,hj⟩
     have k0:(0:Int)≤(k:Int):=by omega
     by_cases hlt:k < K.length
     rotate_left
     ·obtain rfl:k=K.length:=by omega
      have e:idxI K q = -1:=by
       unfold idxI
       rw [List.findIdx?_eq_none_iff.2 (fun y hy=>by
        obtain ⟨j,hjl,rfl⟩:=List.mem_iff_getElem.1 hy
        simpa using hj j hjl _ (List.getElem?_eq_getElem hjl))]
      (repeat (first | simp (maxSteps:=9^9) only [go_sem,seval,e] | simp (disch:=omega) only [w64_d,ipos,ineg,dpos,dneg]))
      exact subH_refl _
     have kI:((k:Int) < (K.length:Int)):=by omega
     obtain ⟨y,hy⟩:∃y,K[k]?=some y:=⟨_,List.getElem?_eq_getElem hlt⟩
     have e1:w64 ((k:Int)+1)=((k+1:Nat):Int):=by rw [w64_d (by omega) (by omega)];omega
     rcases hx with ⟨rfl,rfl⟩ | ⟨i1,v1,rfl,hv1,hcs1⟩
     ·simp at hlt
     have hv1:=hv1.symm
     have g1:(hg H i1).cells.getD k .any=.i y:=by rw [hcs1];exact fm1 (g:=Sc.i) (fun _=>rfl) hy
     have b1:k+1≤(hg H i1).cells.length:=by
      rw [hcs1]
      have:=fm_le encI_l (L:=K) (k:=k) hlt
      omega
     by_cases hq:q=y
     ·have e:idxI K q=(k:Int):=by
       unfold idxI
       rw [List.findIdx?_eq_some_iff_getElem.2 ⟨hlt,by rw [List.getElem?_eq_getElem hlt] at hy;simp at hy;simp [hy,hq],fun j hjl=>by
        have:=hj j hjl _ (List.getElem?_eq_getElem (by omega))
        simpa using this⟩]
      subst hq
      (repeat (first | simp (maxSteps:=9^9) only [go_sem,seval,kI,k0,hv1,b1,g1,e] | simp (disch:=omega) only [w64_d,ipos,ineg,dpos,dneg]))
      exact subH_refl _
     ·(repeat (first | simp (maxSteps:=9^9) only [go_sem,seval,kI,k0,hv1,b1,g1,hq,e1] | simp (disch:=omega) only [w64_d,ipos,ineg,dpos,dneg]))
      exact ⟨⟨k+1,by omega,fun j hj' z hz=>by
       rcases Nat.lt_succ_iff_lt_or_eq.1 hj' with h' | rfl
       ·exact hj j h' z hz
       ·rw [hy] at hz;simp at hz;subst hz;exact hq⟩,by simp only;omega,Wk.wk (by simp [lo]) (by simp [Am.get]) (by simp only [List.all_cons,List.all_nil,Bool.and_true,Bool.and_eq_true,AV.bel];exact ⟨bx,rfl,rfl,rfl⟩) (subH_refl _) hH⟩
   ·simp at h
  ·simp at h
 ·simp at h
theorem idx_in (K:List Int) (k:Int):decide (0≤idxI K k)=decide (k∈K):=by
 unfold idxI
 cases h:K.findIdx? (fun x=>decide (k=x)) with
 | none =>
   have:=List.findIdx?_eq_none_iff.1 h
   have hn:¬k∈K:=fun hk=>by have:=this k hk;simp at this
   simp [hn]
 | some i =>
   obtain ⟨hi,h1,_⟩:=List.findIdx?_eq_some_iff_getElem.1 h
   have hk:k∈K:=by simp at h1;rw [h1];exact List.getElem_mem hi
   simp [hk]
def s_lcon (args:List AV) (H:AH):Option AV :=
 match args with
 | [.c x,.c (.i k)] =>
   match slD 1 dcI H x with
   | some K=>if K.length≤1000000 then some (.c (.b (decide (k∈K)))) else none
   | none=>none
 | _=>none
theorem s_lcon_of {x:Sc} {H:AH} {K:List Int} {k:Int} (h:slD 1 dcI H x=some K) (hl:K.length≤1000000):s_lcon [.c x,.c (.i k)] H=some (.c (.b (decide (k∈K)))):=by
 simp only [s_lcon,h,hl,if_true]
theorem ok_lcon:FpOk Tryz.prog 47 (fun args H=>(s_lcon args H).map fun v=>(v,H)):=by
 refine fq_ok (s:=s_lcon) (tab:=[(84,.fq s_lidx)]) hmix (TabOk.cons (e:=.fq s_lidx) ok_lidx TabOk.nil) Tryz.func47 rfl Tryz.results47 Tryz.ntmps47 (by kernel_rfl) (by kernel_rfl) ?_
 intro args H v h hargs hH
 unfold s_lcon at h
 split at h
 ·rename_i x q
  split at h
  ·rename_i K hK
   split at h
   ·rename_i hn
    simp only [Option.some.injEq] at h
    subst h
    refine ⟨by simp only [List.length_cons,List.length_nil];decide,rfl,?_⟩
    have q1:=s_lidx_of (k:=q) hK hn
    have q2:=idx_in K q
    (repeat (first | simp (maxSteps:=9^9) only [go_sem,seval,q1,q2] | simp (disch:=omega) only [w64_d,ipos,ineg,dpos,dneg]))
    exact subH_refl _
   ·simp at h
  ·simp at h
 ·simp at h
def cloneI (H:AH) (x:Sc):Option (Sc × AH) :=
 match x with
 | .nils=>some (.sl H.length 0 0 0,H++[.vec 1 []])
 | .sl i o v n=>if v=(hg H i).row∧o+n≤(hg H i).cells.length∧(((hg H i).cells.drop o).take n).all Sc.one=true∧n≤1000000 then some (.sl H.length 0 n n,H++[.vec 1 (((hg H i).cells.drop o).take n)]) else none
 | _=>none
def s_lclone (args:List AV) (H:AH):Option (AV × AH) :=
 match args with
 | [.c x]=>(cloneI H x).map fun r=>(.c r.1,r.2)
 | _=>none
theorem cloneI_len {H:AH} {x x':Sc} {H1:AH} (h:cloneI H x=some (x',H1)):H.length≤H1.length:=by
 unfold cloneI at h
 repeat' split at h
 all_goals simp at h
 all_goals rw [←h.2]
 all_goals simp
theorem len_lclone (args:List AV) (H:AH) (v:AV) (H1:AH) (h:s_lclone args H=some (v,H1)):H.length≤H1.length:=by
 unfold s_lclone at h
 split at h
 ·rw [Option.map_eq_some_iff] at h
  obtain ⟨r,h1,h2⟩:=h
  simp only [Prod.mk.injEq] at h2
  rw [←h2.2]
  exact cloneI_len h1
 ·simp at h
theorem s_lclone_eq {x x':Sc} {H H1:AH} (h:cloneI H x=some (x',H1)):s_lclone [.c x] H=some (.c x',H1):=by
 simp only [s_lclone,h,Option.map_some]
theorem fin_nilI {n:Nat} {H:AH} (hb:belH H=true) (hn:n≤H.length):∃v',some (AV.c .nils)=some v'∧Wk n [(0,v')] H ([(0,.c (.sl H.length 0 0 0))],H++[.vec 1 []]) :=
 ⟨_,rfl,Wk.trans (Wk.nil 0 1 (by decide) rfl hn) (Wk.wk (by simp;omega) (by simp [Am.get]) (by simp [AV.bel,Sc.bel]) (subH_refl _) (belH_app hb (by simp [AObj.cells,AObj.scs])))⟩
theorem ok_lclone:FpOk Tryz.prog 23 s_lclone:=by
 refine fp_ok (s:=s_lclone) (tab:=[]) hmix TabOk.nil Tryz.func23 rfl Tryz.results23 Tryz.ntmps23 (by kernel_rfl) (by kernel_rfl) len_lclone ?_
 intro args H v H1 h hargs hH
 unfold s_lclone at h
 split at h
 ·rename_i x
  rw [Option.map_eq_some_iff] at h
  obtain ⟨⟨x',H2⟩,h1,h2⟩:=h
  simp only [Prod.mk.injEq] at h2
  obtain ⟨rfl,rfl⟩:=h2
  refine ⟨by simp only [List.length_cons,List.length_nil];decide,?_⟩
  unfold cloneI at h1
  split at h1
  ·simp only [Option.some.injEq,Prod.mk.injEq] at h1
   obtain ⟨rfl,rfl⟩:=h1
   (repeat (first | simp (maxSteps:=9^9) only [go_sem,seval] | simp (disch:=omega) only [w64_d,ipos,ineg,dpos,dneg]))
   exact fin_nilI hH (Nat.le_refl _)
  ·rename_i i o v n
   split at h1
   ·rename_i hc
    obtain ⟨c1,c2,c3,c4⟩:=hc
    simp only [Option.some.injEq,Prod.mk.injEq] at h1
    obtain ⟨rfl,rfl⟩:=h1
    have li:i < H.length:=by simpa [AV.bel,Sc.bel] using hargs
    have gi:∀X,hg (H++X) i=hg H i:=fun X=>hg_lt' li
    have c5:n * 8≤1099511627776:=by omega
    generalize hq:((hg H i).cells.drop o).take n=q at c3 ⊢
    have lq:q.length=n:=by rw [←hq];simp;omega
    have bq:q.all (Sc.bel H.length)=true:=by
     have:=bel_at hH i
     rw [←hq]
     exact List.all_eq_true.2 fun s hs=>List.all_eq_true.1 this s (List.mem_of_mem_drop (List.mem_of_mem_take hs))
    have fin:∃v',some (AV.c (.sl H.length 0 n n))=some v'∧Wk H.length [(0,v')] (H++[.vec 1 q]) ([(0,.c (.sl H.length 0 n n))],H++[.vec 1 q]):=by
     apply fin_fp
     ·simp [AV.bel,Sc.bel]
     ·exact subH_refl _
     ·refine belH_app hH ?_
      simp only [List.mem_singleton,forall_eq,AObj.cells,AObj.scs]
      exact List.all_eq_true.2 fun s hs=>Sc.bel_mono (List.all_eq_true.1 bq s hs) (by simp)
     ·simp
    by_cases hz:n=0
    ·subst hz
     obtain rfl:q=[]:=List.eq_nil_of_length_eq_zero lq
     (repeat (first | simp (maxSteps:=9^9) only [go_sem,seval,cnd_qq,c1,c2,c3,c5,gi,hq,lq] | simp (disch:=omega) only [w64_d,ipos,ineg,dpos,dneg]))
     exact ⟨fin_nilI hH (Nat.le_refl _),fin⟩
    ·(repeat (first | simp (maxSteps:=9^9) only [go_sem,seval,c1,c2,c3,c5,gi,hq,lq,hz] | simp (disch:=omega) only [w64_d,ipos,ineg,dpos,dneg]))
     exact fin
   ·simp at h1
  ·simp at h1
 ·simp at h
def sidI:Sc→Option Nat
 | .sl i _ _ _=>some i
 | _=>none
def isx (H:AH) (x:Sc) (A:List Int):Prop:=(x=.nils∧A=[])∨∃i,x=.sl i 0 A.length A.length∧hg H i=.vec 1 (A.flatMap encI)
theorem isx_sl {H:AH} {x:Sc} {A:List Int} (h:isx H x A):slD 1 dcI H x=some A:=by
 rcases h with ⟨rfl,rfl⟩ | ⟨i,rfl,hi⟩
 ·rfl
 ·exact slD_of encI_l dcI_e (by rw [hi];simp [AObj.row,fm_len encI_l]) rfl (by rw [hi];rfl)
theorem encI_gI (A:List Int):A.flatMap encI=A.map gI:=flatMap1 A
theorem isx_lt {H:AH} {x:Sc} {A:List Int} (h:isx H x A) {i:Nat} (hi:sidI x=some i):i < H.length∧hg H i=.vec 1 (A.flatMap encI):=by
 rcases h with ⟨rfl,rfl⟩ | ⟨j,rfl,hj⟩
 ·simp [sidI] at hi
 ·simp only [sidI,Option.some.injEq] at hi
  subst hi
  exact ⟨hg_lt (by rw [hj];rfl),hj⟩
theorem isx_frame {H K:AH} {x:Sc} {A:List Int} (h:isx H x A) (hk:∀i,sidI x=some i→hg K i=hg H i):isx K x A:=by
 rcases h with ⟨rfl,rfl⟩ | ⟨i,rfl,hi⟩
 ·exact .inl ⟨rfl,rfl⟩
 ·exact .inr ⟨i,rfl,by rw [hk i rfl,hi]⟩
theorem encI_inj {A B:List Int} (h:A.flatMap encI=B.flatMap encI):A=B:=by
 rw [encI_gI,encI_gI] at h
 exact (List.map_inj_right (f:=gI) (fun x y e=>by simpa [gI] using e)).1 h
theorem isx_uniq {H:AH} {x:Sc} {A B:List Int} (h:isx H x A) (h':isx H x B):A=B:=by
 rcases h with ⟨rfl,rfl⟩ | ⟨i,rfl,hi⟩ <;> rcases h' with ⟨h1,rfl⟩ | ⟨j,h1,hj⟩
 ·rfl
 ·simp at h1
 ·simp at h1
 ·simp only [Sc.sl.injEq] at h1
  obtain ⟨rfl,_⟩:=h1
  rw [hi] at hj
  simp only [AObj.vec.injEq,true_and] at hj
  exact encI_inj hj
theorem encI_one (A:List Int):(A.flatMap encI).all Sc.one=true:=by
 rw [encI_gI,List.all_map]
 exact List.all_eq_true.2 fun _ _=>rfl
theorem isx_tail {H:AH} {i:Nat} {a:Int} {A:List Int} (hi:hg H i=.vec 1 ((a::A).flatMap encI)) (hs:A.length≤1000000) :
 cloneI H (.sl i 1 (A.length+1) A.length)=some (.sl H.length 0 A.length A.length,H++[.vec 1 (A.flatMap encI)]):=by
 have l:((a::A).flatMap encI).length=A.length+1:=by rw [fm_len encI_l];simp
 have l2:(A.flatMap encI).length=A.length:=by rw [fm_len encI_l,Nat.mul_one]
 have e:(A.flatMap encI).take A.length=A.flatMap encI:=List.take_of_length_le (by omega)
 have e2:((a::A).flatMap encI).drop 1=A.flatMap encI:=rfl
 simp only [cloneI,hi,AObj.row,AObj.cells,AObj.scs,e2,e,l,List.length_cons]
 rw [if_pos ⟨trivial,by omega,encI_one A,hs⟩]
theorem isx_app {H:AH} (X:AH) {x:Sc} {A:List Int} (h:isx H x A):isx (H++X) x A:=isx_frame h fun i hi=>hg_lt' (isx_lt h hi).1
end
end Go.Proofs.YteclombpnhociaaGreat
set_option maxRecDepth 100000
set_option maxHeartbeats 8000000
namespace Go.Proofs.YteclombpnhociaaGreat
open Go.Am
set_option linter.unusedSimpArgs false
set_option linter.unusedVariables false
noncomputable section
abbrev LS:=List (Int × List Int)
def rgtS (S:LS) (w a:Int):Bool:=decide (0≤w) && decide (w < 8) && decide (0≤a) && decide (a < S.length)
def atS (S:LS) (a:Int):Int × List Int:=S.getD a.toNat (-1,[])
def tkB (S:LS) (w a:Int):Bool:=rgtS S w a && (decide ((atS S a).1=w) || decide ((atS S a).1 < 0))
def tkS (S:LS) (w a:Int):LS :=
 if rgtS S w a=true then
  if (atS S a).1=w then S
  else if (atS S a).1 < 0 then S.set a.toNat (w,[])
  else if w∈(atS S a).2 then S
  else S.set a.toNat ((atS S a).1,(atS S a).2++[w])
 else S
def drB (S:LS) (w a:Int):Bool:=rgtS S w a && decide ((atS S a).1=w)
def drS (S:LS) (w a:Int):LS :=
 if drB S w a=true then
  match (atS S a).2 with
  | []=>S.set a.toNat (-1,[])
  | x::r=>S.set a.toNat (x,r)
 else S
structure En where
 b:Nat
 k:Int
 l:Nat
 h:Int
 x:Sc
 q:List Int
def enM (e:En):Nat × AV × AV:=(e.b,.c (.i e.k),.c (.p e.l 0 0))
def eids (e:En):List Nat:=e.l::(sidI e.x).toList
structure Ld where
 p:Nat
 m:Nat
 n:Int
 clk:Nat
 es:List En
def Ld.ids (D:Ld):List Nat:=D.p::D.m::D.es.flatMap eids
def enS:Option En→Int × List Int
 | some e=>(e.h,e.q)
 | none=>(-1,[])
def fdK (es:List En) (a:Int):Option En:=es.find? fun e=>decide (e.k=a)
def Ld.S (D:Ld):LS:=(List.range D.n.toNat).map fun (k:Nat)=>enS (fdK D.es (k:Int))
structure EnOk (n:Int) (clk:Nat) (e:En):Prop where
 b:e.b < clk
 k0:0≤e.k
 kn:e.k < n
 h0:0≤e.h
 h8:e.h < 8
 q:∀w∈e.q,0≤w∧w < 8
 nd:e.q.Nodup
structure LI (H:AH) (D:Ld):Prop where
 hp:hg H D.p=.own [.i D.n,.mp D.m]
 hm:hg H D.m=.map D.clk (D.es.map enM)
 he:∀e∈D.es,hg H e.l=.own [.i e.h,e.x]∧isx H e.x e.q
 nd:D.ids.Nodup
 kd:(D.es.map (·.k)).Nodup
 bd:(D.es.map (·.b)).Nodup
 ok:∀e∈D.es,EnOk D.n D.clk e
 n1:1≤D.n
 n128:D.n≤128
section
variable {H:AH} {D:Ld}
theorem enM_inj {e f:En} (h:enM e=enM f):e.b=f.b∧e.k=f.k∧e.l=f.l:=by
 simp only [enM,Prod.mk.injEq,AV.c.injEq,Sc.i.injEq,Sc.p.injEq,and_true] at h
 exact h
theorem LI.uniq {E:Ld} (h:LI H D) (h':LI H E) (e:D.p=E.p):D=E:=by
 have hp:=h.hp
 rw [e,h'.hp] at hp
 simp only [AObj.own.injEq,List.cons.injEq,Sc.i.injEq,Sc.mp.injEq,and_true] at hp
 obtain ⟨e1,e2⟩:=hp
 have hm:=h.hm
 rw [←e2,h'.hm] at hm
 simp only [AObj.map.injEq] at hm
 obtain ⟨e3,e4⟩:=hm
 have key:∀(l m:List En),(∀e∈l,hg H e.l=.own [.i e.h,e.x]∧isx H e.x e.q)→(∀e∈m,hg H e.l=.own [.i e.h,e.x]∧isx H e.x e.q)→m.map enM=l.map enM→l=m:=by
  intro l
  induction l with
  | nil=>intro m _ _ hm;cases m with
    | nil=>rfl
    | cons _ _=>simp at hm
  | cons a l ih =>
    intro m hl hm' hm
    cases m with
    | nil=>simp at hm
    | cons b m =>
      simp only [List.map_cons,List.cons.injEq] at hm
      obtain ⟨g1,g2,g3⟩:=enM_inj hm.1
      obtain ⟨a1,a2⟩:=hl a (by simp)
      obtain ⟨b1,b2⟩:=hm' b (by simp)
      rw [←g3,b1] at a1
      simp only [AObj.own.injEq,List.cons.injEq,Sc.i.injEq,and_true] at a1
      have hq:a.q=b.q:=isx_uniq a2 (a1.2 ▸ b2)
      have hab:a=b:=by
       cases a;cases b
       simp only at *
       obtain ⟨rfl,rfl⟩:=a1
       subst g1 g2 g3 hq
       rfl
      rw [hab,ih m (fun e he=>hl e (by simp [he])) (fun e he=>hm' e (by simp [he])) hm.2]
 have hes:=key _ _ h.he h'.he e4
 cases D;cases E
 simp only at *
 subst e e1 e2 e3 hes
 rfl
theorem LI.lt (h:LI H D) {i:Nat} (hi:i∈D.ids):i < H.length:=by
 simp only [Ld.ids,List.mem_cons,List.mem_flatMap] at hi
 rcases hi with rfl | rfl | ⟨e,he,hi⟩
 ·exact hg_lt (by rw [h.hp];rfl)
 ·exact hg_lt (by rw [h.hm];rfl)
 ·obtain ⟨h1,h2⟩:=h.he e he
  simp only [eids,List.mem_cons,Option.mem_toList] at hi
  rcases hi with rfl | hi
  ·exact hg_lt (by rw [h1];rfl)
  ·exact (isx_lt h2 hi).1
theorem mem_eids {e:En} (he:e∈D.es) {i:Nat} (hi:i∈eids e):i∈D.ids:=by
 simp only [Ld.ids,List.mem_cons,List.mem_flatMap]
 exact .inr (.inr ⟨e,he,hi⟩)
theorem LI.frame {K:AH} (h:LI H D) (hk:∀i∈D.ids,hg K i=hg H i):LI K D:=by
 refine ⟨by rw [hk _ (by simp [Ld.ids]),h.hp],by rw [hk _ (by simp [Ld.ids]),h.hm],fun e he=>?_,h.nd,h.kd,h.bd,h.ok,h.n1,h.n128⟩
 obtain ⟨h1,h2⟩:=h.he e he
 exact ⟨by rw [hk _ (mem_eids he (by simp [eids])),h1],isx_frame h2 fun i hi=>hk _ (mem_eids he (by simp [eids,hi]))⟩
theorem LI.app (h:LI H D) (X:AH):LI (H++X) D:=h.frame fun _ hi=>hg_lt' (h.lt hi)
theorem S_len (h:LI H D):D.S.length=D.n.toNat:=by simp [Ld.S]
theorem S_lenI (h:LI H D):(D.S.length:Int)=D.n:=by rw [S_len h];have:=h.n1;omega
theorem S_at (h:LI H D) {a:Int} (h0:0≤a) (hn:a < D.n):atS D.S a=enS (fdK D.es a):=by
 unfold atS Ld.S
 have e:((a.toNat:Nat):Int)=a:=by omega
 rw [List.getD_eq_getElem?_getD,List.getElem?_map,List.getElem?_range (by omega)]
 simp only [Option.map_some,Option.getD_some,e]
theorem fdK_some {es:List En} {a:Int} {e:En} (h:fdK es a=some e):e∈es∧e.k=a:=by
 unfold fdK at h
 exact ⟨List.mem_of_find?_eq_some h,by simpa using List.find?_some h⟩
theorem fdK_none {es:List En} {a:Int} (h:fdK es a=none):∀e∈es,e.k≠a:=by
 unfold fdK at h
 intro e he
 simpa using List.find?_eq_none.1 h e he
theorem fdK_split {es:List En} {a:Int} {e:En} (h:fdK es a=some e):∃A B,es=A++e::B∧e.k=a∧∀x∈A,x.k≠a:=by
 unfold fdK at h
 obtain ⟨h1,A,B,h2,h3⟩:=List.find?_eq_some_iff_append.1 h
 exact ⟨A,B,h2,by simpa using h1,fun x hx=>by simpa using h3 x hx⟩
def fdE:List En→Int→Nat→Option (Nat × AV)
 | [],_,_=>none
 | e::es,a,i=>if a=e.k then some (i,.c (.p e.l 0 0)) else fdE es a (i+1)
theorem findA_en {P:Program} {kt:Nat} (hk:kA P kt=some false) (a:Int):∀(es:List En) (i:Nat),findA P kt (.c (.i a)) (es.map enM) i=some (fdE es a i):=by
 intro es
 induction es with
 | nil=>intro i;rfl
 | cons e es ih =>
   intro i
   have e1:kEq P kt (.c (.i a)) (.c (.i e.k))=some (decide (a=e.k)):=by unfold kEq;rw [hk]
   simp only [List.map_cons,findA,enM,e1,fdE]
   by_cases c:a=e.k
   ·simp [c]
   ·rw [decide_eq_false c,if_neg c];exact ih _
theorem fdE_none {es:List En} {a:Int} (h:fdK es a=none):∀i,fdE es a i=none:=by
 have hn:=fdK_none h
 clear h
 induction es with
 | nil=>intro i;rfl
 | cons e es ih =>
   intro i
   rw [fdE,if_neg (fun c=>hn e (by simp) c.symm)]
   exact ih (fun x hx=>hn x (by simp [hx])) _
theorem fdE_app {A B:List En} {e:En} {a:Int} (he:e.k=a) (hA:∀x∈A,x.k≠a):∀i,fdE (A++e::B) a i=some (i+A.length,.c (.p e.l 0 0)):=by
 induction A with
 | nil=>intro i;rw [List.nil_append,fdE,if_pos he.symm];rfl
 | cons x A ih =>
   intro i
   rw [List.cons_append,fdE,if_neg (fun c=>hA x (by simp) c.symm),ih (fun x hx=>hA x (by simp [hx]))]
   simp only [List.length_cons]
   congr 2
   omega
theorem LI.find (h:LI H D) (a:Int):(fdK D.es a=none∧∀i,fdE D.es a i=none)∨∃A e B,D.es=A++e::B∧e.k=a∧fdK D.es a=some e∧(∀x∈A,x.k≠a)∧∀i,fdE D.es a i=some (i+A.length,.c (.p e.l 0 0)):=by
 cases hf:fdK D.es a with
 | none=>exact .inl ⟨rfl,fdE_none hf⟩
 | some e =>
   obtain ⟨A,B,h1,h2,h3⟩:=fdK_split hf
   exact .inr ⟨A,e,B,h1,h2,rfl,h3,by rw [h1];exact fdE_app h2 h3⟩
theorem LI.qlen (h:LI H D) {e:En} (he:e∈D.es):e.q.length≤8:=by
 have h1:=(h.ok e he).q
 have h2:=(h.ok e he).nd
 have key:∀(n:Nat) (l:List Int),l.Nodup→(∀w∈l,0≤w∧w < n)→l.length≤n:=by
  intro n
  induction n with
  | zero=>intro l _ hl;cases l with
    | nil=>simp
    | cons a l=>have:=hl a (by simp);omega
  | succ n ih =>
    intro l hn hl
    have:=ih (l.erase (n:Int)) (hn.erase _) (fun w hw=>by
     have a:=hl w (List.mem_of_mem_erase hw)
     have b:w≠(n:Int):=fun e=>by subst e;exact (List.Nodup.not_mem_erase hn) hw
     omega)
    rw [List.length_erase] at this
    split at this <;> omega
 exact key 8 _ h2 (by simpa using h1)
end
structure LKp (H K:AH) (D E:Ld):Prop where
 p:E.p=D.p
 n:E.n=D.n
 len:H.length≤K.length
 old:∀i,i < H.length→i∉D.ids→hg K i=hg H i
 ids:∀i∈E.ids,i∈D.ids∨H.length≤i
theorem LKp.refl {H:AH} {D:Ld}:LKp H H D D:=⟨rfl,rfl,Nat.le_refl _,fun _ _ _=>rfl,fun _ h=>.inl h⟩
theorem LKp.app {H X:AH} {D:Ld}:LKp H (H++X) D D:=⟨rfl,rfl,by simp,fun _ h _=>hg_lt' h,fun _ h=>.inl h⟩
theorem LKp.trans {H K J:AH} {D E F:Ld} (h:LKp H K D E) (h':LKp K J E F):LKp H J D F :=
 ⟨h'.p.trans h.p,h'.n.trans h.n,Nat.le_trans h.len h'.len,fun i hi hn=>by
   rw [h'.old i (Nat.lt_of_lt_of_le hi h.len) (fun hm=>(h.ids i hm).elim hn (fun hle=>by omega)),h.old i hi hn],fun i hi=>by
   rcases h'.ids i hi with h1 | h1
   ·exact h.ids i h1
   ·exact .inr (Nat.le_trans h.len h1)⟩
theorem nd_repl {α:Type} {l1 l2 l3 m:List α} (h:(l1++(l2++l3)).Nodup) (h2:m.Nodup) (hs:∀x∈m,x∈l2∨(x∉l1∧x∉l3)):(l1++(m++l3)).Nodup:=by
 rw [List.nodup_append] at h ⊢
 obtain ⟨a,b,c⟩:=h
 rw [List.nodup_append] at b
 obtain ⟨d,e,f⟩:=b
 refine ⟨a,List.nodup_append.2 ⟨h2,e,fun x hx y hy hxy=>?_⟩,fun x hx y hy hxy=>?_⟩
 ·subst hxy
  rcases hs x hx with g | g
  ·exact f x g x hy rfl
  ·exact g.2 hy
 ·subst hxy
  rcases List.mem_append.1 hy with g | g
  ·rcases hs x g with k | k
   ·exact c x hx x (List.mem_append_left _ k) rfl
   ·exact k.1 hx
  ·exact c x hx x (List.mem_append_right _ g) rfl
theorem S_ext {D E:Ld} (hn:E.n=D.n) {a:Int} (h0:0≤a) (h:∀k,k≠a→fdK E.es k=fdK D.es k):E.S=D.S.set a.toNat (enS (fdK E.es a)):=by
 unfold Ld.S
 rw [hn]
 apply List.ext_getElem?
 intro k
 rw [List.getElem?_set,List.getElem?_map,List.getElem?_map]
 rcases Nat.lt_or_ge k D.n.toNat with hk | hk
 ·rw [List.getElem?_range hk]
  by_cases e:a.toNat=k
  ·have e2:(k:Int)=a:=by omega
   simp [e,hk,e2]
  ·have e2:(k:Int)≠a:=by omega
   simp [e,h _ e2]
 ·rw [List.getElem?_eq_none (by simpa using hk)]
  simp;omega
theorem LI.repl {H K:AH} {D:Ld} {A B:List En} {e f:En} (h:LI H D) (hes:D.es=A++e::B) (hlen:H.length≤K.length) (hold:∀i,i < H.length→i∉eids e→hg K i=hg H i)
 (hf:f.l=e.l∧f.k=e.k∧f.b=e.b) (hl:hg K e.l=.own [.i f.h,f.x]) (hxq:isx K f.x f.q) (hs:∀i,sidI f.x=some i→sidI e.x=some i∨H.length≤i) (hok:EnOk D.n D.clk f) :
 LI K {D with es:=A++f::B}∧LKp H K D {D with es:=A++f::B}∧({D with es:=A++f::B}:Ld).S=D.S.set e.k.toNat (f.h,f.q):=by
 obtain ⟨f1,f2,f3⟩:=hf
 have hnd:=h.nd
 have hids:D.ids=(D.p::D.m::A.flatMap eids)++(eids e++B.flatMap eids):=by simp [Ld.ids,hes]
 have hids2:({D with es:=A++f::B}:Ld).ids=(D.p::D.m::A.flatMap eids)++(eids f++B.flatMap eids):=by simp [Ld.ids]
 have hem:e∈D.es:=by rw [hes];simp
 have hlt:∀i∈D.ids,i < H.length:=fun i hi=>h.lt hi
 rw [hids] at hnd hlt
 have hsep:∀i∈(D.p::D.m::A.flatMap eids),i∉eids e:=fun i hi hc=>by
  rw [List.nodup_append] at hnd
  exact hnd.2.2 i hi i (List.mem_append_left _ hc) rfl
 have hsepB:∀i∈B.flatMap eids,i∉eids e:=fun i hi hc=>by
  rw [List.nodup_append] at hnd
  have:=hnd.2.1
  rw [List.nodup_append] at this
  exact this.2.2 i hc i hi rfl
 have hsub:∀x∈eids f,x∈eids e∨H.length≤x:=by
  intro x hx
  simp only [eids,List.mem_cons,Option.mem_toList] at hx ⊢
  rcases hx with rfl | hx
  ·exact .inl (.inl f1)
  ·rcases hs x hx with g | g
   ·exact .inl (.inr g)
   ·exact .inr g
 have hother:∀x∈A++B,x∈D.es∧∀i∈eids x,hg K i=hg H i:=by
  intro x hx
  have hxm:x∈D.es:=by rw [hes];rcases List.mem_append.1 hx with g | g <;> simp [g]
  refine ⟨hxm,fun i hi=>hold i (h.lt (mem_eids hxm hi)) ?_⟩
  rcases List.mem_append.1 hx with g | g
  ·exact hsep i (by simp only [List.mem_cons,List.mem_flatMap];exact .inr (.inr ⟨x,g,hi⟩))
  ·exact hsepB i (List.mem_flatMap.2 ⟨x,g,hi⟩)
 have hmap:(A++f::B).map enM=D.es.map enM:=by rw [hes];simp [enM,f1,f2,f3]
 have hmapk:(A++f::B).map (·.k)=D.es.map (·.k):=by rw [hes];simp [f2]
 have hmapb:(A++f::B).map (·.b)=D.es.map (·.b):=by rw [hes];simp [f3]
 refine ⟨⟨?_,?_,?_,?_,?_,?_,?_,h.n1,h.n128⟩,⟨rfl,rfl,hlen,fun i hi hn=>hold i hi (fun hc=>hn (mem_eids hem hc)),?_⟩,?_⟩
 ·show hg K D.p=_
  rw [hold _ (hlt _ (by simp)) (hsep _ (by simp)),h.hp]
 ·show hg K D.m=_
  rw [hold _ (hlt _ (by simp)) (hsep _ (by simp)),h.hm,←hmap]
 ·intro x hx
  rcases List.mem_append.1 hx with g | g
  ·obtain ⟨a,b⟩:=hother x (List.mem_append_left _ g)
   obtain ⟨c,d⟩:=h.he x a
   exact ⟨by rw [b _ (by simp [eids]),c],isx_frame d fun i hi=>b _ (by simp [eids,hi])⟩
  ·rcases List.mem_cons.1 g with rfl | g
   ·exact ⟨by rw [f1];exact hl,hxq⟩
   ·obtain ⟨a,b⟩:=hother x (List.mem_append_right _ g)
    obtain ⟨c,d⟩:=h.he x a
    exact ⟨by rw [b _ (by simp [eids]),c],isx_frame d fun i hi=>b _ (by simp [eids,hi])⟩
 ·rw [hids2]
  refine nd_repl hnd ?_ fun x hx=>?_
  ·simp only [eids]
   cases hsx:sidI f.x with
   | none=>simp
   | some j =>
     simp only [Option.toList_some,List.nodup_cons,List.mem_singleton,List.not_mem_nil,not_false_eq_true,List.nodup_nil,and_self,and_true]
     intro hj
     rcases hs j hsx with g | g
     ·have:(eids e).Nodup:=by rw [List.nodup_append] at hnd;have:=hnd.2.1;rw [List.nodup_append] at this;exact this.1
      simp [eids,g] at this
      exact this (by rw [←f1,hj])
     ·have:=h.lt (mem_eids hem (show e.l∈eids e by simp [eids]))
      omega
  ·rcases hsub x hx with g | g
   ·exact .inl g
   ·exact .inr ⟨fun hc=>by have:=hlt x (List.mem_append_left _ hc);omega,fun hc=>by have:=hlt x (List.mem_append_right _ (List.mem_append_right _ hc));omega⟩
 ·rw [hmapk];exact h.kd
 ·rw [hmapb];exact h.bd
 ·intro x hx
  rcases List.mem_append.1 hx with g | g
  ·exact h.ok x (hother x (List.mem_append_left _ g)).1
  ·rcases List.mem_cons.1 g with rfl | g
   ·exact hok
   ·exact h.ok x (hother x (List.mem_append_right _ g)).1
 ·intro i hi
  rw [hids2] at hi
  rw [hids]
  rcases List.mem_append.1 hi with g | g
  ·exact .inl (List.mem_append_left _ g)
  ·rcases List.mem_append.1 g with g | g
   ·rcases hsub i g with k | k
    ·exact .inl (List.mem_append_right _ (List.mem_append_left _ k))
    ·exact .inr k
   ·exact .inl (List.mem_append_right _ (List.mem_append_right _ g))
 ·have hA:∀x∈A,x.k≠e.k:=by
   have:=h.kd
   rw [hes,List.map_append,List.nodup_append] at this
   exact fun x hx hc=>this.2.2 x.k (List.mem_map.2 ⟨x,hx,rfl⟩) e.k (by simp) hc
  have e1:fdK (A++f::B) e.k=some f:=by
   unfold fdK
   rw [List.find?_append,List.find?_eq_none.2 (fun x hx=>by simpa using hA x hx),Option.none_or,List.find?_cons]
   simp [f2]
  rw [S_ext (D:=D) (E:={D with es:=A++f::B}) rfl (a:=e.k) (h.ok e hem).k0 (fun k hk=>?_)]
  ·show D.S.set _ (enS (fdK (A++f::B) e.k))=_
   rw [e1];rfl
  ·show fdK (A++f::B) k=fdK D.es k
   rw [hes]
   unfold fdK
   rw [List.find?_append,List.find?_append,List.find?_cons,List.find?_cons]
   rw [decide_eq_false (show ¬f.k=k from fun c=>hk (by rw [←c,f2])),decide_eq_false (show ¬e.k=k from fun c=>hk c.symm)]
theorem LI.more {H K:AH} {D:Ld} {f:En} (h:LI H D) (hlen:H.length≤K.length) (hold:∀i,i < H.length→i≠D.m→hg K i=hg H i) (hm:hg K D.m=.map (D.clk+1) (D.es.map enM++[enM f]))
 (hfr:fdK D.es f.k=none) (hb:f.b=D.clk) (hl:H.length≤f.l) (hlv:hg K f.l=.own [.i f.h,f.x]) (hxq:isx K f.x f.q) (hsx:∀i,sidI f.x=some i→H.length≤i∧i≠f.l) (hok:EnOk D.n (D.clk+1) f) :
 LI K {D with clk:=D.clk+1,es:=D.es++[f]}∧LKp H K D {D with clk:=D.clk+1,es:=D.es++[f]}∧({D with clk:=D.clk+1,es:=D.es++[f]}:Ld).S=D.S.set f.k.toNat (f.h,f.q):=by
 have hk0:=hok.k0
 have hkn:=hok.kn
 have hge:∀i∈eids f,H.length≤i:=by
  intro i hi
  simp only [eids,List.mem_cons,Option.mem_toList] at hi
  rcases hi with rfl | hi
  ·exact hl
  ·exact (hsx i hi).1
 have hfn:(eids f).Nodup:=by
  simp only [eids]
  cases hs:sidI f.x with
  | none=>simp
  | some j =>
    have:=(hsx j hs).2
    simp only [Option.toList_some,List.nodup_cons,List.mem_singleton,List.not_mem_nil,not_false_eq_true,List.nodup_nil,and_self,and_true]
    exact fun c=>this c.symm
 have hmn:∀i∈D.es.flatMap eids,i≠D.m∧i < H.length:=by
  intro i hi
  have hnd:=h.nd
  refine ⟨fun c=>?_,h.lt (by simp [Ld.ids] at hi ⊢;exact .inr (.inr hi))⟩
  simp only [Ld.ids,List.nodup_cons] at hnd
  exact hnd.2.1 (c ▸ hi)
 have hpm:D.p≠D.m:=by
  have hnd:=h.nd
  simp only [Ld.ids,List.nodup_cons,List.mem_cons,not_or] at hnd
  exact hnd.1.1
 have hids2:({D with clk:=D.clk+1,es:=D.es++[f]}:Ld).ids=D.ids++eids f:=by simp [Ld.ids]
 have hn:=fdK_none hfr
 refine ⟨⟨?_,?_,?_,?_,?_,?_,?_,h.n1,h.n128⟩,⟨rfl,rfl,hlen,fun i hi hnn=>hold i hi (fun c=>hnn (by simp [Ld.ids,c])),?_⟩,?_⟩
 ·show hg K D.p=_
  rw [hold _ (h.lt (by simp [Ld.ids])) hpm,h.hp]
 ·show hg K D.m=.map (D.clk+1) ((D.es++[f]).map enM)
  rw [hm];simp
 ·intro x hx
  rcases List.mem_append.1 hx with g | g
  ·obtain ⟨c,d⟩:=h.he x g
   have hh:∀i∈eids x,hg K i=hg H i:=fun i hi=>by
    have:=hmn i (List.mem_flatMap.2 ⟨x,g,hi⟩)
    exact hold i this.2 this.1
   exact ⟨by rw [hh _ (by simp [eids]),c],isx_frame d fun i hi=>hh _ (by simp [eids,hi])⟩
  ·rw [List.mem_singleton] at g
   subst g
   exact ⟨hlv,hxq⟩
 ·rw [hids2,List.nodup_append]
  refine ⟨h.nd,hfn,fun x hx y hy hxy=>?_⟩
  have:=h.lt hx
  have:=hge y hy
  omega
 ·simp only [List.map_append,List.map_cons,List.map_nil]
  rw [List.nodup_append]
  refine ⟨h.kd,by simp,fun x hx y hy hxy=>?_⟩
  rw [List.mem_singleton] at hy
  obtain ⟨z,hz,rfl⟩:=List.mem_map.1 hx
  exact hn z hz (hxy.trans hy)
 ·simp only [List.map_append,List.map_cons,List.map_nil]
  rw [List.nodup_append]
  refine ⟨h.bd,by simp,fun x hx y hy hxy=>?_⟩
  rw [List.mem_singleton] at hy
  obtain ⟨z,hz,rfl⟩:=List.mem_map.1 hx
  have:=(h.ok z hz).b
  omega
 ·intro x hx
  rcases List.mem_append.1 hx with g | g
  ·have:=h.ok x g
   exact ⟨Nat.lt_succ_of_lt this.b,this.k0,this.kn,this.h0,this.h8,this.q,this.nd⟩
  ·rw [List.mem_singleton] at g
   subst g
   exact hok
 ·intro i hi
  rw [hids2] at hi
  rcases List.mem_append.1 hi with g | g
  ·exact .inl g
  ·exact .inr (hge i g)
 ·rw [S_ext (D:=D) (E:={D with clk:=D.clk+1,es:=D.es++[f]}) rfl (a:=f.k) hk0 (fun k hk=>?_)]
  ·show D.S.set _ (enS (fdK (D.es++[f]) f.k))=_
   have:fdK (D.es++[f]) f.k=some f:=by
    have hfr':=hfr
    unfold fdK at hfr' ⊢
    rw [List.find?_append,hfr'];simp
   rw [this];rfl
  ·show fdK (D.es++[f]) k=fdK D.es k
   unfold fdK
   rw [List.find?_append]
   simp [show ¬f.k=k from fun c=>hk c.symm]
theorem LI.less {H K:AH} {D:Ld} {A B:List En} {e:En} (h:LI H D) (hes:D.es=A++e::B) (hlen:H.length≤K.length) (hold:∀i,i < H.length→i≠D.m→hg K i=hg H i) (hm:hg K D.m=.map D.clk ((A++B).map enM)) :
 LI K {D with es:=A++B}∧LKp H K D {D with es:=A++B}∧({D with es:=A++B}:Ld).S=D.S.set e.k.toNat (-1,[]):=by
 have hsubl:(A++B).Sublist D.es:=by rw [hes];exact List.Sublist.append_left (List.sublist_cons_self e B) A
 have hsub:∀x∈A++B,x∈D.es:=fun x hx=>hsubl.subset hx
 have hidl:(({D with es:=A++B}:Ld).ids).Sublist D.ids:=by
  simp only [Ld.ids,hes,List.flatMap_append,List.flatMap_cons]
  exact ((List.Sublist.append_left (List.sublist_append_right _ _) _).cons_cons _).cons_cons _
 have hem:e∈D.es:=by rw [hes];simp
 have hmn:∀i∈D.es.flatMap eids,i≠D.m∧i < H.length:=by
  intro i hi
  have hnd:=h.nd
  refine ⟨fun c=>?_,h.lt (by simp [Ld.ids] at hi ⊢;exact .inr (.inr hi))⟩
  simp only [Ld.ids,List.nodup_cons] at hnd
  exact hnd.2.1 (c ▸ hi)
 have hpm:D.p≠D.m:=by
  have hnd:=h.nd
  simp only [Ld.ids,List.nodup_cons,List.mem_cons,not_or] at hnd
  exact hnd.1.1
 refine ⟨⟨?_,hm,?_,hidl.nodup h.nd,(hsubl.map _).nodup h.kd,(hsubl.map _).nodup h.bd,fun x hx=>h.ok x (hsub x hx),h.n1,h.n128⟩,⟨rfl,rfl,hlen,fun i hi hnn=>hold i hi (fun c=>hnn (by simp [Ld.ids,c])),fun i hi=>.inl (hidl.subset hi)⟩,?_⟩
 ·show hg K D.p=_
  rw [hold _ (h.lt (by simp [Ld.ids])) hpm,h.hp]
 ·intro x hx
  obtain ⟨c,d⟩:=h.he x (hsub x hx)
  have hh:∀i∈eids x,hg K i=hg H i:=fun i hi=>by
   have:=hmn i (List.mem_flatMap.2 ⟨x,hsub x hx,hi⟩)
   exact hold i this.2 this.1
  exact ⟨by rw [hh _ (by simp [eids]),c],isx_frame d fun i hi=>hh _ (by simp [eids,hi])⟩
 ·have hkd:=h.kd
  rw [hes,List.map_append,List.map_cons,List.nodup_append,List.nodup_cons] at hkd
  have hA:∀x∈A,x.k≠e.k:=fun x hx hc=>hkd.2.2 x.k (List.mem_map.2 ⟨x,hx,rfl⟩) e.k (by simp) hc
  have hB:∀x∈B,x.k≠e.k:=fun x hx hc=>hkd.2.1.1 (hc ▸ List.mem_map.2 ⟨x,hx,rfl⟩)
  rw [S_ext (D:=D) (E:={D with es:=A++B}) rfl (a:=e.k) (h.ok e hem).k0 (fun k hk=>?_)]
  ·show D.S.set _ (enS (fdK (A++B) e.k))=_
   have:fdK (A++B) e.k=none:=by
    unfold fdK
    rw [List.find?_eq_none]
    intro x hx
    rcases List.mem_append.1 hx with g | g
    ·simpa using hA x g
    ·simpa using hB x g
   rw [this];rfl
  ·show fdK (A++B) k=fdK D.es k
   rw [hes]
   unfold fdK
   rw [List.find?_append,List.find?_append,List.find?_cons]
   rw [decide_eq_false (show ¬e.k=k from fun c=>hk c.symm)]
end
end Go.Proofs.YteclombpnhociaaGreat
set_option maxRecDepth 100000
set_option maxHeartbeats 8000000
namespace Go.Proofs.YteclombpnhociaaGreat
open Go.Am
set_option linter.unusedSimpArgs false
set_option linter.unusedVariables false
noncomputable section
theorem sT_mapL:szT Tryz.prog 91=1:=by kernel_rfl
theorem dT_mapL:dT Tryz.prog 91=.other:=by kernel_rfl
theorem op_makeMap0L {t:Nat}:opnds (.makeMap t none)=[]:=rfl
theorem op_makeMap1 {t:Nat} {x:Operand}:opnds (.makeMap t (some x))=[x]:=rfl
theorem op_lookupL {t:Nat} {x y:Operand} {q:Bool}:opnds (.lookup t x y q)=[x,y]:=rfl
theorem op_mapUpdateL {t:Nat} {x y z:Operand}:opnds (.mapUpdate t x y z)=[x,y,z]:=rfl
attribute [go_sem] sT_mapL dT_mapL op_makeMap0L op_makeMap1 op_lookupL op_mapUpdateL AV.flat1
section
variable {H:AH} {D:Ld}
def s_lthere (args:List AV) (H:AH):Option AV :=
 match args with
 | [.c .nilp,.c (.i _),.c (.i _)]=>some (.c (.b false))
 | [.c (.p id 0 0),.c (.i w),.c (.i a)] =>
   match hg H id with
   | .own [.i n,.mp _]=>some (.c (.b (decide (0≤w) && decide (w < 8) && decide (0≤a) && decide (a < n))))
   | _=>none
 | _=>none
theorem ok_lthere:FpOk Tryz.prog 57 (fun args H=>(s_lthere args H).map fun v=>(v,H)):=by
 refine fq_ok (s:=s_lthere) (tab:=[]) hmix TabOk.nil Tryz.func57 rfl Tryz.results57 Tryz.ntmps57 (by kernel_rfl) (by kernel_rfl) ?_
 intro args H v h hargs hH
 unfold s_lthere at h
 split at h
 ·rename_i w a
  simp only [Option.some.injEq] at h
  subst h
  refine ⟨by simp only [List.length_cons,List.length_nil];decide,rfl,?_⟩
  (repeat (first | simp (maxSteps:=9^9) only [go_sem,seval] | simp (disch:=omega) only [w64_d,ipos,ineg,dpos,dneg]))
  exact subH_refl _
 ·rename_i id w a
  split at h
  ·rename_i n m ho
   simp only [Option.some.injEq] at h
   subst h
   refine ⟨by simp only [List.length_cons,List.length_nil];decide,rfl,?_⟩
   by_cases c1:0≤w
   ·by_cases c2:w < 8
    ·by_cases c3:0≤a
     ·(repeat (first | simp (maxSteps:=9^9) only [go_sem,seval,c1,c2,c3,ho] | simp (disch:=omega) only [w64_d,ipos,ineg,dpos,dneg]))
      exact subH_refl _
     ·(repeat (first | simp (maxSteps:=9^9) only [go_sem,seval,c1,c2,c3,ho] | simp (disch:=omega) only [w64_d,ipos,ineg,dpos,dneg]))
      exact subH_refl _
    ·(repeat (first | simp (maxSteps:=9^9) only [go_sem,seval,c1,c2,ho] | simp (disch:=omega) only [w64_d,ipos,ineg,dpos,dneg]))
     exact subH_refl _
   ·(repeat (first | simp (maxSteps:=9^9) only [go_sem,seval,c1,ho] | simp (disch:=omega) only [w64_d,ipos,ineg,dpos,dneg]))
    exact subH_refl _
  ·simp at h
 ·simp at h
theorem s_lthere_eq (h:LI H D) {w a:Int}:s_lthere [.c (.p D.p 0 0),.c (.i w),.c (.i a)] H=some (.c (.b (rgtS D.S w a))):=by
 simp only [s_lthere,h.hp,rgtS,S_lenI h]
def gE (D:Ld) (a:Int):AV :=
 match fdK D.es a with
 | some e=>.c (.p e.l 0 0)
 | none=>.c .nilp
def q_lget (args:List AV) (H:AH) (v:AV):Prop:=(∀a,args=[.c .nilp,.c (.i a)]→v=.c .nilp)∧∀D a,args=[.c (.p D.p 0 0),.c (.i a)]→LI H D→v=gE D a
def s_lkget:List AV→AH→Option AV:=frQ Tryz.prog [] 31 q_lget
theorem ok_lkget:FpOk Tryz.prog 31 (fun args H=>(s_lkget args H).map fun v=>(v,H)):=frQ_ok hmix TabOk.nil Tryz.func31 rfl Tryz.results31 Tryz.ntmps31 (by kernel_rfl) (by kernel_rfl)
theorem s_lkget_eq (h:LI H D) {a:Int}:s_lkget [.c (.p D.p 0 0),.c (.i a)] H=some (gE D a):=by
 have:∃v,s_lkget [.c (.p D.p 0 0),.c (.i a)] H=some v∧q_lget [.c (.p D.p 0 0),.c (.i a)] H v:=by
  have hp:=h.hp
  have hm:=h.hm
  have fA:=findA_en (P:=Tryz.prog) (kt:=3) (by kernel_rfl) a D.es 0
  unfold s_lkget
  apply frQ_ex (v:=gE D a) Tryz.func31 rfl Tryz.results31 Tryz.ntmps31 (by simp only [List.length_cons,List.length_nil];decide)
  ·intro _ _
   unfold gE
   cases hf:fdK D.es a with
   | none=>rfl
   | some e =>
     have:=h.lt (mem_eids (fdK_some hf).1 (show e.l∈eids e by simp [eids]))
     simpa [AV.bel,Sc.bel] using this
  ·intro _ _
   unfold gE
   rcases h.find a with ⟨f1,f2⟩ | ⟨A,e,B,f1,f2,f3,f4,f5⟩
   ·rw [f2] at fA
    (repeat (first | simp (maxSteps:=9^9) only [go_sem,seval,hp,hm,fA,f1] | simp (disch:=omega) only [w64_d,ipos,ineg,dpos,dneg]))
    exact subH_refl _
   ·rw [f5] at fA
    (repeat (first | simp (maxSteps:=9^9) only [go_sem,seval,hp,hm,fA,f3] | simp (disch:=omega) only [w64_d,ipos,ineg,dpos,dneg]))
    exact subH_refl _
  ·refine ⟨fun _ he=>by simp at he,fun E k he hE=>?_⟩
   simp only [List.cons.injEq,AV.c.injEq,Sc.p.injEq,Sc.i.injEq,and_true] at he
   obtain ⟨e1,rfl⟩:=he
   rw [h.uniq hE e1]
 obtain ⟨v,h1,h2⟩:=this
 rw [h1,h2.2 D a rfl h]
def hoV (S:LS) (a:Int):AV:=if 0≤a∧a < S.length∧0≤(atS S a).1 then .t [.c (.i (atS S a).1),.c (.b true)] else .t [.c (.i 0),.c (.b false)]
theorem fd_at (h:LI H D) {a:Int} {e:En} (hf:fdK D.es a=some e):0≤a∧a < D.n∧atS D.S a=(e.h,e.q)∧0≤e.h∧e.h < 8:=by
 obtain ⟨h1,h2⟩:=fdK_some hf
 have o:=h.ok e h1
 have a1:=o.k0
 have a2:=o.kn
 have a3:=S_at h (a:=a) (by omega) (by omega)
 rw [hf] at a3
 exact ⟨by omega,by omega,a3,o.h0,o.h8⟩
theorem fd_free (h:LI H D) {a:Int} (h0:0≤a) (hn:a < D.n) (hf:fdK D.es a=none):atS D.S a=(-1,[]):=by
 rw [S_at h h0 hn,hf];rfl
theorem hoV_n (h:LI H D) {a:Int} (hf:fdK D.es a=none):hoV D.S a=.t [.c (.i 0),.c (.b false)]:=by
 unfold hoV
 rw [if_neg]
 rintro ⟨h0,hn,hh⟩
 rw [S_lenI h] at hn
 rw [fd_free h h0 hn hf] at hh
 simp at hh
theorem hoV_s (h:LI H D) {a:Int} {e:En} (hf:fdK D.es a=some e):hoV D.S a=.t [.c (.i e.h),.c (.b true)]:=by
 obtain ⟨h1,h2,h3,h4,_⟩:=fd_at h hf
 unfold hoV
 rw [h3,if_pos ⟨h1,by rw [S_lenI h];exact h2,h4⟩]
def q_lholder (args:List AV) (H:AH) (v:AV):Prop:=(∀a,args=[.c .nilp,.c (.i a)]→v=.t [.c (.i 0),.c (.b false)])∧∀D a,args=[.c (.p D.p 0 0),.c (.i a)]→LI H D→v=hoV D.S a
def s_lholder:List AV→AH→Option AV:=frQ Tryz.prog [(31,.fq s_lkget)] 12 q_lholder
theorem ok_lholder:FpOk Tryz.prog 12 (fun args H=>(s_lholder args H).map fun v=>(v,H)):=frQ_ok hmix (TabOk.cons (e:=.fq s_lkget) ok_lkget TabOk.nil) Tryz.func12 rfl Tryz.results12 Tryz.ntmps12 (by kernel_rfl) (by kernel_rfl)
theorem s_lholder_eq (h:LI H D) {a:Int}:s_lholder [.c (.p D.p 0 0),.c (.i a)] H=some (hoV D.S a):=by
 have:∃v,s_lholder [.c (.p D.p 0 0),.c (.i a)] H=some v∧q_lholder [.c (.p D.p 0 0),.c (.i a)] H v:=by
  have g:=s_lkget_eq h (a:=a)
  unfold s_lholder
  apply frQ_ex (v:=hoV D.S a) Tryz.func12 rfl Tryz.results12 Tryz.ntmps12 (by simp only [List.length_cons,List.length_nil];decide)
  ·intro _ _
   unfold hoV
   split <;> rfl
  ·intro _ _
   unfold gE at g
   cases hf:fdK D.es a with
   | none =>
     rw [hf] at g
     (repeat (first | simp (maxSteps:=9^9) only [go_sem,seval,g,hoV_n h hf] | simp (disch:=omega) only [w64_d,ipos,ineg,dpos,dneg]))
     exact subH_refl _
   | some e =>
     rw [hf] at g
     have hl:=(h.he e (fdK_some hf).1).1
     (repeat (first | simp (maxSteps:=9^9) only [go_sem,seval,g,hl,hoV_s h hf] | simp (disch:=omega) only [w64_d,ipos,ineg,dpos,dneg]))
     exact subH_refl _
  ·refine ⟨fun _ he=>by simp at he,fun E k he hE=>?_⟩
   simp only [List.cons.injEq,AV.c.injEq,Sc.p.injEq,Sc.i.injEq,and_true] at he
   obtain ⟨e1,rfl⟩:=he
   rw [h.uniq hE e1]
 obtain ⟨v,h1,h2⟩:=this
 rw [h1,h2.2 D a rfl h]
structure Own1 (H H1:AH) (v:AV) (L:List Int):Prop where
 ex:∃x,v=.c x∧isx H1 x L∧∀i,sidI x=some i→H.length≤i
 old:∀i,i < H.length→hg H1 i=hg H i
theorem Own1.nils {H:AH}:Own1 H H (.c .nils) []:=⟨⟨.nils,rfl,.inl ⟨rfl,rfl⟩,fun i hi=>by simp [sidI] at hi⟩,fun _ _=>rfl⟩
theorem Own1.vec {H:AH} {n:Nat} {L:List Int} (hn:n=L.length):Own1 H (H++[.vec 1 (L.flatMap encI)]) (.c (.sl H.length 0 n n)) L:=by
 subst hn
 exact ⟨⟨_,rfl,.inr ⟨H.length,rfl,by rw [hg_len];rfl⟩,fun i hi=>by simp only [sidI,Option.some.injEq] at hi;omega⟩,fun i hi=>hg_lt' hi⟩
end
end
end Go.Proofs.YteclombpnhociaaGreat
set_option maxRecDepth 100000
set_option maxHeartbeats 8000000
namespace Go.Proofs.YteclombpnhociaaGreat
open Go.Am
set_option linter.unusedSimpArgs false
set_option linter.unusedVariables false
noncomputable section
section
variable {H:AH} {D:Ld}
def waK (S:LS) (w:Int):Option Nat:=S.findIdx? fun y=>decide (w∈y.2)
def waV (S:LS) (w:Int):AV :=
 match waK S w with
 | some k=>.t [.c (.i k),.c (.b true)]
 | none=>.t [.c (.i 0),.c (.b false)]
theorem fd_rng (h:LI H D) {k:Nat} (hk:k < D.S.length):D.S[k]?=some (enS (fdK D.es (k:Int))):=by
 have e:=S_at h (a:=(k:Int)) (by omega) (by rw [←S_lenI h];omega)
 unfold atS at e
 rw [Int.toNat_natCast,List.getD_eq_getElem?_getD,List.getElem?_eq_getElem hk] at e
 rw [List.getElem?_eq_getElem hk,←e];rfl
def q_lwaits (args:List AV) (H:AH) (v:AV):Prop:=(∀a,args=[.c .nilp,.c (.i a)]→v=.t [.c (.i 0),.c (.b false)])∧∀D a,args=[.c (.p D.p 0 0),.c (.i a)]→LI H D→v=waV D.S a
def s_lwaits:List AV→AH→Option AV:=frQ Tryz.prog [(47,.fq s_lcon)] 45 q_lwaits
theorem ok_lwaits:FpOk Tryz.prog 45 (fun args H=>(s_lwaits args H).map fun v=>(v,H)):=frQ_ok hmix (TabOk.cons (e:=.fq s_lcon) ok_lcon TabOk.nil) Tryz.func45 rfl Tryz.results45 Tryz.ntmps45 (by kernel_rfl) (by kernel_rfl)
theorem s_lwaits_eq (h:LI H D) {w:Int}:s_lwaits [.c (.p D.p 0 0),.c (.i w)] H=some (waV D.S w):=by
 have:∃v,s_lwaits [.c (.p D.p 0 0),.c (.i w)] H=some v∧q_lwaits [.c (.p D.p 0 0),.c (.i w)] H v:=by
  have hp:=h.hp
  have hm:=h.hm
  have fA:=fun a=>findA_en (P:=Tryz.prog) (kt:=3) (by kernel_rfl) a D.es 0
  have hn:=S_lenI h
  have hn1:=h.n128
  unfold s_lwaits
  apply frQ_ex (v:=waV D.S w) Tryz.func45 rfl Tryz.results45 Tryz.ntmps45 (by simp only [List.length_cons,List.length_nil];decide)
  ·intro _ _
   unfold waV
   split <;> rfl
  ·intro ha hH
   (repeat (first | simp (maxSteps:=9^9) only [go_sem,seval,hp] | simp (disch:=omega) only [w64_d,ipos,ineg,dpos,dneg]))
   have lid:=h.lt (show D.p∈D.ids by simp [Ld.ids])
   rw [arun_loop]
   refine ⟨{k:Nat // k≤D.S.length∧∀j,j < k→∀y,D.S[j]?=some y→w∉y.2},fun k=>([(0,.c (.p D.p 0 0)),(1,.c (.i w)),(13,.c (.i D.n)),(14,.c (.i k.1))],H),fun k=>D.S.length - k.1,⟨0,by omega,fun j hj=>absurd hj (Nat.not_lt_zero _)⟩,?_,?_⟩
   ·exact Wk.wk (by simp [lo]) (by simp [Am.get]) (by simp [AV.bel,Sc.bel,lid]) (subH_refl _) hH
   ·rintro ⟨k,hk,hj⟩
    have k0:(0:Int)≤(k:Int):=by omega
    by_cases hlt:k < D.S.length
    rotate_left
    ·obtain rfl:k=D.S.length:=by omega
     have e:waK D.S w=none:=by
      unfold waK
      rw [List.findIdx?_eq_none_iff]
      intro y hy
      obtain ⟨j,hjl,rfl⟩:=List.mem_iff_getElem.1 hy
      simpa using hj j hjl _ (List.getElem?_eq_getElem hjl)
     have kI:¬((D.S.length:Int) < D.n):=by omega
     (repeat (first | simp (maxSteps:=9^9) only [go_sem,seval,kI,waV,e] | simp (disch:=omega) only [w64_d,ipos,ineg,dpos,dneg]))
     exact subH_refl _
    have kI:(k:Int) < D.n:=by omega
    have hs:=fd_rng h hlt
    have e1:w64 ((k:Int)+1)=((k+1:Nat):Int):=by rw [w64_d (by omega) (by omega)];omega
    have fk:=fA (k:Int)
    have go:w∉(enS (fdK D.es (k:Int))).2→∃j:{k:Nat // k≤D.S.length∧∀j,j < k→∀y,D.S[j]?=some y→w∉y.2},j.1=k+1:=fun hw=>⟨⟨k+1,by omega,fun j hj' y hy=>by
     rcases Nat.lt_succ_iff_lt_or_eq.1 hj' with h' | rfl
     ·exact hj j h' y hy
     ·rw [hs] at hy;simp only [Option.some.injEq] at hy;rw [←hy];exact hw⟩,rfl⟩
    rcases h.find (k:Int) with ⟨f1,f2⟩ | ⟨A,e,B,f1,f2,f3,f4,f5⟩
    ·rw [f2] at fk
     obtain ⟨j,hj1⟩:=go (by rw [f1];simp [enS])
     (repeat (first | simp (maxSteps:=9^9) only [go_sem,seval,hp,hm,fk,kI,e1] | simp (disch:=omega) only [w64_d,ipos,ineg,dpos,dneg]))
     refine ⟨j,by omega,?_⟩
     rw [hj1]
     exact Wk.wk (by simp [lo]) (by simp [Am.get]) (by simp [AV.bel,Sc.bel,lid]) (subH_refl _) hH
    ·rw [f5] at fk
     have hem:=(fdK_some f3).1
     obtain ⟨hl,hx⟩:=h.he e hem
     have hcn:=s_lcon_of (k:=w) (isx_sl hx) (by have:=h.qlen hem;omega)
     by_cases hw:w∈e.q
     ·rw [decide_eq_true hw] at hcn
      have e:waK D.S w=some k:=by
       unfold waK
       rw [List.findIdx?_eq_some_iff_getElem]
       refine ⟨hlt,?_,fun j hjl=>?_⟩
       ·rw [List.getElem?_eq_getElem hlt,Option.some.injEq] at hs
        rw [hs,f3];exact decide_eq_true (show w∈(enS (some e)).2 from hw)
       ·have:=hj j hjl _ (List.getElem?_eq_getElem (by omega))
        simpa using this
      (repeat (first | simp (maxSteps:=9^9) only [go_sem,seval,hp,hm,fk,kI,hl,hcn,waV,e] | simp (disch:=omega) only [w64_d,ipos,ineg,dpos,dneg]))
      exact subH_refl _
     ·rw [decide_eq_false hw] at hcn
      obtain ⟨j,hj1⟩:=go (by rw [f3];exact hw)
      (repeat (first | simp (maxSteps:=9^9) only [go_sem,seval,hp,hm,fk,kI,hl,hcn,e1] | simp (disch:=omega) only [w64_d,ipos,ineg,dpos,dneg]))
      refine ⟨j,by omega,?_⟩
      rw [hj1]
      exact Wk.wk (by simp [lo]) (by simp [Am.get]) (by simp [AV.bel,Sc.bel,lid]) (subH_refl _) hH
  ·refine ⟨fun _ he=>by simp at he,fun E k he hE=>?_⟩
   simp only [List.cons.injEq,AV.c.injEq,Sc.p.injEq,Sc.i.injEq,and_true] at he
   obtain ⟨e1,rfl⟩:=he
   rw [h.uniq hE e1]
 obtain ⟨v,h1,h2⟩:=this
 rw [h1,h2.2 D w rfl h]
def heN (S:LS) (w:Int):Nat→List Int
 | 0=>[]
 | k+1=>if 0≤(atS S k).1∧(atS S k).1=w then heN S w k++[(k:Int)] else heN S w k
def heS (S:LS) (w:Int):List Int:=heN S w S.length
end
end
end Go.Proofs.YteclombpnhociaaGreat
set_option maxRecDepth 100000
set_option maxHeartbeats 8000000
namespace Go.Proofs.YteclombpnhociaaGreat
open Go.Am
set_option linter.unusedSimpArgs false
set_option linter.unusedVariables false
noncomputable section
section
variable {H:AH} {D:Ld}
def LStep (H H1:AH) (D:Ld) (S:LS):Prop:=∃E,LI H1 E∧LKp H H1 D E∧E.S=S
def q_ltake (args:List AV) (H:AH) (v:AV) (H1:AH):Prop:=(∀w a,args=[.c .nilp,.c (.i w),.c (.i a)]→v=.c (.b false)∧H1=H) ∧
 ∀D w a,args=[.c (.p D.p 0 0),.c (.i w),.c (.i a)]→LI H D→v=.c (.b (tkB D.S w a))∧LStep H H1 D (tkS D.S w a)
def s_ltake:List AV→AH→Option (AV × AH):=frS Tryz.prog [(57,.fq s_lthere),(47,.fq s_lcon)] 29 q_ltake
theorem ok_ltake:FpOk Tryz.prog 29 s_ltake:=frS_ok hmix (TabOk.cons (e:=.fq s_lthere) ok_lthere (TabOk.cons (e:=.fq s_lcon) ok_lcon TabOk.nil)) Tryz.func29 rfl Tryz.results29 Tryz.ntmps29 (by kernel_rfl) (by kernel_rfl)
theorem rgt_inv {S:LS} {w a:Int} (h:rgtS S w a=true):0≤w∧w < 8∧0≤a∧a < S.length:=by
 simp only [rgtS,Bool.and_eq_true,decide_eq_true_eq] at h
 exact ⟨h.1.1.1,h.1.1.2,h.1.2,h.2⟩
theorem s_ltake_ex (h:LI H D) (w a:Int):∃H1,s_ltake [.c (.p D.p 0 0),.c (.i w),.c (.i a)] H=some (.c (.b (tkB D.S w a)),H1)∧H.length≤H1.length∧LStep H H1 D (tkS D.S w a):=by
 have:∃v H1,s_ltake [.c (.p D.p 0 0),.c (.i w),.c (.i a)] H=some (v,H1)∧H.length≤H1.length∧q_ltake [.c (.p D.p 0 0),.c (.i w),.c (.i a)] H v H1:=by
  have g:=s_lthere_eq h (w:=w) (a:=a)
  have hp:=h.hp
  have hm:=h.hm
  have hpX:=fun X=>(h.app X).hp
  have hmX:=fun X=>(h.app X).hm
  have lm:=h.lt (show D.m∈D.ids by simp [Ld.ids])
  have fA:=findA_en (P:=Tryz.prog) (kt:=3) (by kernel_rfl) a D.es 0
  have post:∀{v H1},v=.c (.b (tkB D.S w a))→LStep H H1 D (tkS D.S w a)→q_ltake [.c (.p D.p 0 0),.c (.i w),.c (.i a)] H v H1:=by
   intro v H1 h1 h2
   refine ⟨fun _ _ he=>by simp at he,fun E k x he hE=>?_⟩
   simp only [List.cons.injEq,AV.c.injEq,Sc.p.injEq,Sc.i.injEq,and_true] at he
   obtain ⟨e1,rfl,rfl⟩:=he
   rw [←h.uniq hE e1]
   exact ⟨h1,h2⟩
  cases hr:rgtS D.S w a with
  | false =>
    rw [hr] at g
    unfold s_ltake
    apply frS_ex (v:=.c (.b false)) Tryz.func29 rfl Tryz.results29 Tryz.ntmps29 (by simp only [List.length_cons,List.length_nil];decide)
    ·intro _ _
     (repeat (first | simp (maxSteps:=9^9) only [go_sem,seval,g] | simp (disch:=omega) only [w64_d,ipos,ineg,dpos,dneg]))
     exact fin_same
    ·exact Nat.le_refl _
    ·exact post (by unfold tkB;rw [hr];rfl) ⟨D,h,LKp.refl,by unfold tkS;rw [hr];rfl⟩
  | true =>
    rw [hr] at g
    obtain ⟨w0,w8,a0,an⟩:=rgt_inv hr
    rw [S_lenI h] at an
    rcases h.find a with ⟨f1,f2⟩ | ⟨A,e,B,f1,f2,f3,f4,f5⟩
    ·
     rw [f2] at fA
     have hat:=fd_free h a0 an f1
     have lX:(D.m == H.length)=false:=by simp;omega
     obtain ⟨m1,m2,m3⟩:=h.more (K:=(H++[AObj.own [.i w,.nils]]).set D.m (.map (D.clk+1) (D.es.map enM++[(D.clk,AV.c (.i a),AV.c (.p H.length 0 0))]))) (f:=⟨D.clk,a,H.length,w,.nils,[]⟩)
      (by simp) (fun i hi hne=>by rw [hg_set_ne' (fun c=>hne c.symm),hg_lt' hi]) (by rw [hg_set_same (by simp;omega)];rfl) f1 rfl (Nat.le_refl _)
      (by show hg _ H.length=_;rw [hg_set_ne' (by omega),hg_len];rfl) (.inl ⟨rfl,rfl⟩) (fun i hi=>by simp [sidI] at hi) ⟨Nat.lt_succ_self _,a0,an,w0,w8,by simp,by simp⟩
     unfold s_ltake
     apply frS_ex (v:=.c (.b true)) (H1:=(H++[AObj.own [.i w,.nils]]).set D.m (.map (D.clk+1) (D.es.map enM++[(D.clk,AV.c (.i a),AV.c (.p H.length 0 0))]))) Tryz.func29 rfl Tryz.results29 Tryz.ntmps29 (by simp only [List.length_cons,List.length_nil];decide)
     ·intro _ _
      (repeat (first | simp (maxSteps:=9^9) only [go_sem,seval,g,hp,hm,hpX,hmX,fA] | simp (disch:=omega) only [w64_d,ipos,ineg,dpos,dneg]))
      exact fin_same
     ·simp
     ·refine post ?_ ⟨_,m1,m2,?_⟩
      ·unfold tkB;rw [hr,hat];simp
      ·rw [m3]
       unfold tkS
       rw [hr,hat,if_pos rfl,if_neg (show ¬((-1:Int)=w) by omega),if_pos (by decide)]
    ·rw [f5] at fA
     have hem:=(fdK_some f3).1
     obtain ⟨hl,hx⟩:=h.he e hem
     obtain ⟨_,_,hat,h0,h8⟩:=fd_at h f3
     have ok:=h.ok e hem
     by_cases hw:e.h=w
     ·have hw':=eq_true hw
      unfold s_ltake
      apply frS_ex (v:=.c (.b true)) Tryz.func29 rfl Tryz.results29 Tryz.ntmps29 (by simp only [List.length_cons,List.length_nil];decide)
      ·intro _ _
       (repeat (first | simp (maxSteps:=9^9) only [go_sem,seval,g,hp,hm,fA,hl,hw'] | simp (disch:=omega) only [w64_d,ipos,ineg,dpos,dneg]))
       exact fin_same
      ·exact Nat.le_refl _
      ·refine post ?_ ⟨D,h,LKp.refl,?_⟩
       ·unfold tkB;rw [hr,hat];simp [hw]
       ·unfold tkS;rw [hr,hat,if_pos rfl,if_pos hw]
     ·have ql:=h.qlen hem
      have hcn:=s_lcon_of (k:=w) (isx_sl hx) (by omega)
      have tb:tkB D.S w a=false:=by
       unfold tkB;rw [hr,hat]
       simp [hw];omega
      by_cases hq:w∈e.q
      ·rw [decide_eq_true hq] at hcn
       unfold s_ltake
       apply frS_ex (v:=.c (.b false)) Tryz.func29 rfl Tryz.results29 Tryz.ntmps29 (by simp only [List.length_cons,List.length_nil];decide)
       ·intro _ _
        (repeat (first | simp (maxSteps:=9^9) only [go_sem,seval,g,hp,hm,fA,hl,hw,hcn] | simp (disch:=omega) only [w64_d,ipos,ineg,dpos,dneg]))
        exact fin_same
       ·exact Nat.le_refl _
       ·refine post (by rw [tb]) ⟨D,h,LKp.refl,?_⟩
        unfold tkS;rw [hr,hat,if_pos rfl,if_neg hw,if_neg (show ¬e.h < 0 by omega),if_pos hq]
      ·rw [decide_eq_false hq] at hcn
       have ts:tkS D.S w a=D.S.set e.k.toNat (e.h,e.q++[w]):=by
        unfold tkS;rw [hr,hat,if_pos rfl,if_neg hw,if_neg (show ¬e.h < 0 by omega),if_neg hq,f2]
       have okn:EnOk D.n D.clk {e with q:=e.q++[w]}:=⟨ok.b,ok.k0,ok.kn,ok.h0,ok.h8,fun x hx=>by
        rcases List.mem_append.1 hx with c | c
        ·exact ok.q x c
        ·rw [List.mem_singleton] at c;omega,by
        show (e.q++[w]).Nodup
        rw [List.nodup_append]
        exact ⟨ok.nd,by simp,fun x hx y hy hxy=>by rw [List.mem_singleton] at hy;exact hq (by rw [←hy,←hxy];exact hx)⟩⟩
       have ll:=h.lt (mem_eids hem (show e.l∈eids e by simp [eids]))
       have hlX:∀X,hg (H++X) e.l=.own [.i e.h,e.x]:=fun X=>by rw [hg_lt' ll,hl]
       rcases hx with ⟨x1,x2⟩ | ⟨i,x1,hi⟩
       ·
        rw [x1] at hl hlX hcn
        obtain ⟨m1,m2,m3⟩:=h.repl (K:=(H++[AObj.vec 1 [.i w],AObj.vec 1 [.i w]]).set e.l (.own [.i e.h,.sl (H.length+1) 0 1 1])) (f:={e with x:=.sl (H.length+1) 0 1 1,q:=e.q++[w]}) f1
         (by simp) (fun i hi hne=>by rw [hg_set_ne' (fun c=>hne (by simp [eids,c])),hg_lt' hi]) ⟨rfl,rfl,rfl⟩ (by rw [hg_set_same (by simp;omega)])
         (by rw [x2];exact .inr ⟨H.length+1,rfl,by rw [hg_set_ne' (by omega),hg_len_add];rfl⟩) (fun i hi=>by simp only [sidI,Option.some.injEq] at hi;omega) ⟨okn.b,okn.k0,okn.kn,okn.h0,okn.h8,okn.q,okn.nd⟩
        unfold s_ltake
        apply frS_ex (v:=.c (.b false)) (H1:=(H++[AObj.vec 1 [.i w],AObj.vec 1 [.i w]]).set e.l (.own [.i e.h,.sl (H.length+1) 0 1 1])) Tryz.func29 rfl Tryz.results29 Tryz.ntmps29 (by simp only [List.length_cons,List.length_nil];decide)
        ·intro _ _
         (repeat (first | simp (maxSteps:=9^9) only [go_sem,seval,g,hp,hm,fA,hl,hlX,hw,hcn] | simp (disch:=omega) only [w64_d,ipos,ineg,dpos,dneg]))
         exact fin_same
        ·simp
        ·exact post (by rw [tb]) ⟨_,m1,m2,by rw [ts,m3]⟩
       ·have li:=(isx_lt (.inr ⟨i,x1,hi⟩) (x:=e.x) (A:=e.q) (by rw [x1];rfl)).1
        rw [x1] at hl hlX hcn
        have hiX:∀X,hg (H++X) i=.vec 1 (e.q.flatMap encI):=fun X=>by rw [hg_lt' li,hi]
        have qL:(e.q.flatMap encI).length=e.q.length:=by rw [fm_len encI_l,Nat.mul_one]
        have ne:i≠e.l:=fun c=>by rw [c,hl] at hi;simp at hi
        have q5:(e.q.length+1) * 8≤1099511627776:=by omega
        have hq':e.q.flatMap encI++[Sc.i w]=(e.q++[w]).flatMap encI:=by rw [fm_app];rfl
        obtain ⟨m1,m2,m3⟩:=h.repl (K:=((H++[AObj.vec 1 [.i w]]).set i (.vec 1 (e.q.flatMap encI++[Sc.i w]))).set e.l (.own [.i e.h,.sl i 0 (e.q.length+1) (e.q.length+1)])) (f:={e with x:=.sl i 0 (e.q.length+1) (e.q.length+1),q:=e.q++[w]}) f1
         (by simp) (fun j hj hne=>by rw [hg_set_ne' (fun c=>hne (by simp [eids,c])),hg_set_ne' (fun c=>hne (by simp [eids,x1,sidI,c])),hg_lt' hj]) ⟨rfl,rfl,rfl⟩ (by rw [hg_set_same (by simp;omega)])
         (.inr ⟨i,by simp,by rw [hg_set_ne' (fun c=>ne c.symm),hg_set_same (by simp;omega),hq']⟩) (fun j hj=>by rw [x1];exact .inl hj) ⟨okn.b,okn.k0,okn.kn,okn.h0,okn.h8,okn.q,okn.nd⟩
        have hset:∀o,hg (((H++[AObj.vec 1 [.i w]]).set i o)) e.l=.own [.i e.h,.sl i 0 e.q.length e.q.length]:=fun o=>by rw [hg_set_ne' ne,hlX]
        unfold s_ltake
        apply frS_ex (v:=.c (.b false)) (H1:=((H++[AObj.vec 1 [.i w]]).set i (.vec 1 (e.q.flatMap encI++[Sc.i w]))).set e.l (.own [.i e.h,.sl i 0 (e.q.length+1) (e.q.length+1)])) Tryz.func29 rfl Tryz.results29 Tryz.ntmps29 (by simp only [List.length_cons,List.length_nil];decide)
        ·intro _ _
         (repeat (first | simp (maxSteps:=9^9) only [go_sem,seval,g,hp,hm,fA,hl,hlX,hiX,hw,hcn,qL,q5,hset] | simp (disch:=omega) only [w64_d,ipos,ineg,dpos,dneg]))
         exact fin_same
        ·simp
        ·exact post (by rw [tb]) ⟨_,m1,m2,by rw [ts,m3]⟩
 obtain ⟨v,H1,h1,hlen,h2⟩:=this
 obtain ⟨rfl,h3⟩:=h2.2 D w a rfl h
 exact ⟨H1,h1,hlen,h3⟩
end
end
end Go.Proofs.YteclombpnhociaaGreat
set_option maxRecDepth 100000
set_option maxHeartbeats 8000000
namespace Go.Proofs.YteclombpnhociaaGreat
open Go.Am
set_option linter.unusedSimpArgs false
set_option linter.unusedVariables false
noncomputable section
section
variable {H:AH} {D:Ld}
theorem op_delete {l:List Operand} {ts:Array Nat}:opnds (.call ⟨.builtin .delete,l.toArray,ts⟩)=l:=rfl
def q_ldrop (args:List AV) (H:AH) (v:AV) (H1:AH):Prop:=(∀w a,args=[.c .nilp,.c (.i w),.c (.i a)]→v=.c (.b false)∧H1=H) ∧
 ∀D w a,args=[.c (.p D.p 0 0),.c (.i w),.c (.i a)]→LI H D→v=.c (.b (drB D.S w a))∧LStep H H1 D (drS D.S w a)
def s_ldrop:List AV→AH→Option (AV × AH):=frS Tryz.prog [(57,.fq s_lthere),(23,.fp s_lclone)] 30 q_ldrop
theorem ok_ldrop:FpOk Tryz.prog 30 s_ldrop:=frS_ok hmix (TabOk.cons (e:=.fq s_lthere) ok_lthere (TabOk.cons (e:=.fp s_lclone) ok_lclone TabOk.nil)) Tryz.func30 rfl Tryz.results30 Tryz.ntmps30 (by kernel_rfl) (by kernel_rfl)
theorem erM {A B:List En} {e:En}:((A++e::B).map enM).eraseIdx A.length=(A++B).map enM:=by
 rw [List.map_append,List.map_cons,List.eraseIdx_append_of_length_le (by simp),List.length_map,Nat.sub_self,List.eraseIdx_cons_zero,List.map_append]
theorem s_ldrop_ex (h:LI H D) (w a:Int):∃H1,s_ldrop [.c (.p D.p 0 0),.c (.i w),.c (.i a)] H=some (.c (.b (drB D.S w a)),H1)∧H.length≤H1.length∧LStep H H1 D (drS D.S w a):=by
 have:∃v H1,s_ldrop [.c (.p D.p 0 0),.c (.i w),.c (.i a)] H=some (v,H1)∧H.length≤H1.length∧q_ldrop [.c (.p D.p 0 0),.c (.i w),.c (.i a)] H v H1:=by
  have g:=s_lthere_eq h (w:=w) (a:=a)
  have hp:=h.hp
  have hm:=h.hm
  have lm:=h.lt (show D.m∈D.ids by simp [Ld.ids])
  have fA:=findA_en (P:=Tryz.prog) (kt:=3) (by kernel_rfl) a D.es 0
  have post:∀{v H1},v=.c (.b (drB D.S w a))→LStep H H1 D (drS D.S w a)→q_ldrop [.c (.p D.p 0 0),.c (.i w),.c (.i a)] H v H1:=by
   intro v H1 h1 h2
   refine ⟨fun _ _ he=>by simp at he,fun E k x he hE=>?_⟩
   simp only [List.cons.injEq,AV.c.injEq,Sc.p.injEq,Sc.i.injEq,and_true] at he
   obtain ⟨e1,rfl,rfl⟩:=he
   rw [←h.uniq hE e1]
   exact ⟨h1,h2⟩
  have no:drB D.S w a=false→LStep H H D (drS D.S w a):=fun hb=>⟨D,h,LKp.refl,by unfold drS;rw [hb];rfl⟩
  cases hr:rgtS D.S w a with
  | false =>
    rw [hr] at g
    have nb:drB D.S w a=false:=by unfold drB;rw [hr];rfl
    unfold s_ldrop
    apply frS_ex (v:=.c (.b false)) Tryz.func30 rfl Tryz.results30 Tryz.ntmps30 (by simp only [List.length_cons,List.length_nil];decide)
    ·intro _ _
     (repeat (first | simp (maxSteps:=9^9) only [go_sem,seval,g] | simp (disch:=omega) only [w64_d,ipos,ineg,dpos,dneg]))
     exact fin_same
    ·exact Nat.le_refl _
    ·exact post (by rw [nb]) (no nb)
  | true =>
    rw [hr] at g
    obtain ⟨w0,w8,a0,an⟩:=rgt_inv hr
    rw [S_lenI h] at an
    rcases h.find a with ⟨f1,f2⟩ | ⟨A,e,B,f1,f2,f3,f4,f5⟩
    ·rw [f2] at fA
     have hat:=fd_free h a0 an f1
     have nb:drB D.S w a=false:=by unfold drB;rw [hr,hat];simp;omega
     unfold s_ldrop
     apply frS_ex (v:=.c (.b false)) Tryz.func30 rfl Tryz.results30 Tryz.ntmps30 (by simp only [List.length_cons,List.length_nil];decide)
     ·intro _ _
      (repeat (first | simp (maxSteps:=9^9) only [go_sem,seval,g,hp,hm,fA] | simp (disch:=omega) only [w64_d,ipos,ineg,dpos,dneg]))
      exact fin_same
     ·exact Nat.le_refl _
     ·exact post (by rw [nb]) (no nb)
    ·rw [f5] at fA
     have hem:=(fdK_some f3).1
     obtain ⟨hl,hx⟩:=h.he e hem
     obtain ⟨_,_,hat,h0,h8⟩:=fd_at h f3
     have ok:=h.ok e hem
     have ql:=h.qlen hem
     by_cases hw:e.h=w
     ·have hw':=eq_true hw
      have yb:drB D.S w a=true:=by unfold drB;rw [hr,hat];simp [hw]
      have ys:drS D.S w a=match e.q with | []=>D.S.set a.toNat (-1,[]) | x::r=>D.S.set a.toNat (x,r):=by
       unfold drS;rw [yb,if_pos rfl,hat];try rfl
      have ll:=h.lt (mem_eids hem (show e.l∈eids e by simp [eids]))
      cases hq:e.q with
      | nil =>
        have xl:∀t,lenB (.sl t) (.c e.x)=some (.c (.i 0)):=by
         intro t
         rw [hq] at hx
         rcases hx with ⟨x1,_⟩ | ⟨i,x1,_⟩ <;> rw [x1] <;> rfl
        have xs:(lenB (.sl 0) (.c e.x)).isSome=true:=by rw [xl];rfl
        have er:=erM (A:=A) (B:=B) (e:=e)
        rw [←f1] at er
        obtain ⟨m1,m2,m3⟩:=h.less (K:=H.set D.m (.map D.clk ((A++B).map enM))) f1 (by simp) (fun i hi hne=>hg_set_ne' (fun c=>hne c.symm)) (hg_set_same lm)
        unfold s_ldrop
        apply frS_ex (v:=.c (.b true)) (H1:=H.set D.m (.map D.clk ((A++B).map enM))) Tryz.func30 rfl Tryz.results30 Tryz.ntmps30 (by simp only [List.length_cons,List.length_nil];decide)
        ·intro _ _
         (repeat (first | simp (maxSteps:=9^9) only [go_sem,seval,g,hp,hm,fA,hl,hw',xl,xs,as_len_y,op_delete,er] | simp (disch:=omega) only [w64_d,ipos,ineg,dpos,dneg]))
         exact fin_same
        ·simp
        ·exact post (by rw [yb]) ⟨_,m1,m2,by rw [ys,m3,hq,f2]⟩
      | cons x r =>
        have hx2:=hx
        rw [hq] at hx2
        rcases hx2 with ⟨x1,x2⟩ | ⟨i,x1,hi⟩
        ·simp at x2
        have li:=(isx_lt (.inr ⟨i,x1,hi⟩) (x:=e.x) (A:=x::r) (by rw [x1];rfl)).1
        have ne:i≠e.l:=fun c=>by rw [c,hl] at hi;simp at hi
        rw [hq] at ql
        simp only [List.length_cons] at ql
        have cl:=isx_tail (H:=H.set e.l (.own [.i x,e.x])) (i:=i) (a:=x) (A:=r) (by rw [hg_set_ne' (fun c=>ne c.symm),hi]) (by omega)
        have hc:=s_lclone_eq cl
        rw [List.length_set] at hc
        rw [x1] at hl hc
        simp only [List.length_cons] at hl hc
        have gl:((x::r).flatMap encI).length=r.length+1:=by rw [fm_len encI_l];simp
        have g0:((x::r).flatMap encI).getD 0 .any=.i x:=rfl
        have hls:∀o,hg (H.set e.l o) e.l=o:=fun o=>hg_set_same ll
        have hls2:∀o X,hg (H.set e.l o++X) e.l=o:=fun o X=>by rw [hg_lt' (by simpa using ll),hls]
        have lx:(x::r).length=r.length+1:=rfl
        have okr:EnOk D.n D.clk {e with h:=x,x:=.sl H.length 0 r.length r.length,q:=r}:=by
         have o1:=ok.q
         have o2:=ok.nd
         rw [hq] at o1 o2
         exact ⟨ok.b,ok.k0,ok.kn,(o1 x (by simp)).1,(o1 x (by simp)).2,fun y hy=>o1 y (by simp [hy]),(List.nodup_cons.1 o2).2⟩
        obtain ⟨m1,m2,m3⟩:=h.repl (K:=(H.set e.l (AObj.own [.i x,.sl i 0 (r.length+1) (r.length+1)])++[AObj.vec 1 (r.flatMap encI)]).set e.l (.own [.i x,.sl H.length 0 r.length r.length])) (f:={e with h:=x,x:=.sl H.length 0 r.length r.length,q:=r}) f1
         (by simp) (fun j hj hne=>by rw [hg_set_ne' (fun c=>hne (by simp [eids,c])),hg_lt' (by simpa using hj),hg_set_ne' (fun c=>hne (by simp [eids,c]))]) ⟨rfl,rfl,rfl⟩ (by rw [hg_set_same (by simp;omega)])
         (.inr ⟨H.length,rfl,by rw [hg_set_ne' (by omega)];have:=hg_len (H:=H.set e.l (AObj.own [.i x,.sl i 0 (r.length+1) (r.length+1)])) (X:=[AObj.vec 1 (r.flatMap encI)]);rw [List.length_set] at this;rw [this];rfl⟩) (fun j hj=>by simp only [sidI,Option.some.injEq] at hj;omega) okr
        unfold s_ldrop
        apply frS_ex (v:=.c (.b true)) (H1:=(H.set e.l (AObj.own [.i x,.sl i 0 (r.length+1) (r.length+1)])++[AObj.vec 1 (r.flatMap encI)]).set e.l (.own [.i x,.sl H.length 0 r.length r.length])) Tryz.func30 rfl Tryz.results30 Tryz.ntmps30 (by simp only [List.length_cons,List.length_nil];decide)
        ·intro _ _
         (repeat (first | simp (maxSteps:=9^9) only [go_sem,seval,g,hp,hm,fA,hl,hw',hi,gl,g0,hls,hls2,hc,lx] | simp (disch:=omega) only [w64_d,ipos,ineg,dpos,dneg]))
         exact fin_same
        ·simp
        ·exact post (by rw [yb]) ⟨_,m1,m2,by rw [ys,m3,hq,f2]⟩
     ·have nb:drB D.S w a=false:=by unfold drB;rw [hr,hat];simp [hw]
      unfold s_ldrop
      apply frS_ex (v:=.c (.b false)) Tryz.func30 rfl Tryz.results30 Tryz.ntmps30 (by simp only [List.length_cons,List.length_nil];decide)
      ·intro _ _
       (repeat (first | simp (maxSteps:=9^9) only [go_sem,seval,g,hp,hm,fA,hl,hw] | simp (disch:=omega) only [w64_d,ipos,ineg,dpos,dneg]))
       exact fin_same
      ·exact Nat.le_refl _
      ·exact post (by rw [nb]) (no nb)
 obtain ⟨v,H1,h1,hlen,h2⟩:=this
 obtain ⟨rfl,h3⟩:=h2.2 D w a rfl h
 exact ⟨H1,h1,hlen,h3⟩
def s_lnew (args:List AV) (H:AH):Option (AV × AH) :=
 match args with
 | [.c (.i n)]=>if 1≤n∧n≤128 then some (.t [.c (.p (H.length+1) 0 0),.c (.i 0)],H++[.map 0 [],.own [.i n,.mp H.length]]) else some (.t [.c .nilp,.c (.i 1)],H)
 | _=>none
theorem len_lnew (args:List AV) (H:AH) (v:AV) (H1:AH) (h:s_lnew args H=some (v,H1)):H.length≤H1.length:=by
 unfold s_lnew at h
 repeat' split at h
 all_goals simp at h
 all_goals rw [←h.2]
 all_goals simp
theorem ok_lnew:FpOk Tryz.prog 5 s_lnew:=by
 refine fp_ok (s:=s_lnew) (tab:=[]) hmix TabOk.nil Tryz.func5 rfl Tryz.results5 Tryz.ntmps5 (by kernel_rfl) (by kernel_rfl) len_lnew ?_
 intro args H v H1 h hargs hH
 unfold s_lnew at h
 split at h
 ·rename_i n
  refine ⟨by simp only [List.length_cons,List.length_nil];decide,?_⟩
  by_cases c1:n < 1
  ·rw [if_neg (by omega)] at h
   simp only [Option.some.injEq,Prod.mk.injEq] at h
   obtain ⟨rfl,rfl⟩:=h
   (repeat (first | simp (maxSteps:=9^9) only [go_sem,seval,c1] | simp (disch:=omega) only [w64_d,ipos,ineg,dpos,dneg]))
   exact fin_same
  ·by_cases c2:128 < n
   ·rw [if_neg (by omega)] at h
    simp only [Option.some.injEq,Prod.mk.injEq] at h
    obtain ⟨rfl,rfl⟩:=h
    (repeat (first | simp (maxSteps:=9^9) only [go_sem,seval,c1,c2] | simp (disch:=omega) only [w64_d,ipos,ineg,dpos,dneg]))
    exact fin_same
   ·rw [if_pos (by omega)] at h
    simp only [Option.some.injEq,Prod.mk.injEq] at h
    obtain ⟨rfl,rfl⟩:=h
    (repeat (first | simp (maxSteps:=9^9) only [go_sem,seval,c1,c2] | simp (disch:=omega) only [w64_d,ipos,ineg,dpos,dneg]))
    exact fin_same
 ·simp at h
def L0 (n:Int):LS:=List.replicate n.toNat (-1,[])
theorem LI.new {n:Int} (h1:1≤n) (h2:n≤128):LI (H++[.map 0 [],.own [.i n,.mp H.length]]) ⟨H.length+1,H.length,n,0,[]⟩∧(⟨H.length+1,H.length,n,0,[]⟩:Ld).S=L0 n:=by
 refine ⟨⟨by show hg _ (H.length+1)=_;rw [hg_len_add];rfl,by show hg _ H.length=_;rw [hg_len];rfl,by simp,by simp [Ld.ids],by simp,by simp,by simp,h1,h2⟩,?_⟩
 unfold Ld.S L0
 apply List.ext_getElem?
 intro k
 rw [List.getElem?_map,List.getElem?_replicate]
 by_cases c:k < n.toNat
 ·rw [List.getElem?_range c,if_pos c];rfl
 ·rw [List.getElem?_eq_none (by simpa using c),if_neg c];rfl
end
end
end Go.Proofs.YteclombpnhociaaGreat
set_option maxRecDepth 100000
set_option maxHeartbeats 8000000
namespace Go.Proofs.YteclombpnhociaaGreat
open Go.Am
set_option linter.unusedSimpArgs false
set_option linter.unusedVariables false
noncomputable section
section
variable {H:AH} {D:Ld}
def wtP (S:LS) (B:List Bool) (w:Int):Bool:=S.any fun y=>decide (0≤y.1) && (B.getD y.1.toNat false && decide (w∈y.2))
theorem wt_true (h:LI H D) {B:List Bool} {w:Int} {e:En} (he:e∈D.es) (hb:B.getD e.h.toNat false=true) (hw:w∈e.q):wtP D.S B w=true:=by
 have ok:=h.ok e he
 have hf:fdK D.es e.k=some e:=by
  cases hf:fdK D.es e.k with
  | none=>exact absurd rfl (fdK_none hf e he)
  | some f =>
    obtain ⟨h1,h2⟩:=fdK_some hf
    have:=h.kd
    rw [show f=e from by
     obtain ⟨i,hi,rfl⟩:=List.mem_iff_getElem.1 h1
     obtain ⟨j,hj,rfl⟩:=List.mem_iff_getElem.1 he
     have:=(List.getElem_inj (i:=i) (j:=j) (h₀:=by simpa using hi) (h₁:=by simpa using hj) h.kd).1 (by simpa using h2)
     subst this;rfl]
 obtain ⟨a0,an,hat,h0,h8⟩:=fd_at h hf
 unfold wtP
 rw [List.any_eq_true]
 have hlt:e.k.toNat < D.S.length:=by have:=S_lenI h;omega
 refine ⟨D.S[e.k.toNat],List.getElem_mem hlt,?_⟩
 have:D.S[e.k.toNat]=(e.h,e.q):=by
  unfold atS at hat
  rw [List.getD_eq_getElem?_getD,List.getElem?_eq_getElem hlt] at hat
  exact hat
 rw [this]
 simp only [hb,Bool.true_and,Bool.and_eq_true,decide_eq_true_eq]
 exact ⟨h0,hw⟩
theorem wt_false (h:LI H D) {B:List Bool} {w:Int} (hn:∀e∈D.es,B.getD e.h.toNat false=true→w∉e.q):wtP D.S B w=false:=by
 unfold wtP
 rw [List.any_eq_false]
 intro y hy
 obtain ⟨k,hk,rfl⟩:=List.mem_iff_getElem.1 hy
 have hs:=fd_rng h hk
 rw [List.getElem?_eq_getElem hk,Option.some.injEq] at hs
 rw [hs]
 cases hf:fdK D.es (k:Int) with
 | none=>simp [enS]
 | some e =>
   have:=hn e (fdK_some hf).1
   simp only [enS,Bool.and_eq_true,decide_eq_true_eq,not_and]
   exact fun _ h1 h2=>this h1 (of_decide_eq_true h2)
def q_lstk1 (args:List AV) (H:AH) (v:AV):Prop:=∀D B w bx ar,args=[.c (.i w),.c (.p bx 0 0),.c (.p ar 0 0)]→LI H D→hg H bx=.own [.p D.p 0 0]→hg H ar=.own (B.map Sc.b)→B.length=8→v=.c (.b (wtP D.S B w))
def s_lstk1:List AV→AH→Option AV:=frQ Tryz.prog [(47,.fq s_lcon)] 46 q_lstk1
theorem ok_lstk1:FpOk Tryz.prog 46 (fun args H=>(s_lstk1 args H).map fun v=>(v,H)):=frQ_ok hmix (TabOk.cons (e:=.fq s_lcon) ok_lcon TabOk.nil) Tryz.func46 rfl Tryz.results46 Tryz.ntmps46 (by kernel_rfl) (by kernel_rfl)
theorem b_inj {A B:List Bool} (h:A.map Sc.b=B.map Sc.b):A=B:=(List.map_inj_right (f:=Sc.b) (fun x y e=>by simpa using e)).1 h
theorem ent_find (h:LI H D) {e:En} (he:e∈D.es):((D.es.map enM).find? fun x=>x.1 == e.b)=some (enM e):=by
 have hb:=h.bd
 generalize D.es=l at he hb
 induction l with
 | nil=>simp at he
 | cons a l ih =>
   rw [List.map_cons,List.find?_cons]
   rcases List.mem_cons.1 he with rfl | hm
   ·simp [enM]
   ·rw [List.map_cons,List.nodup_cons] at hb
    have:(a.b == e.b)=false:=by
     rw [beq_eq_false_iff_ne]
     exact fun c=>hb.1 (List.mem_map.2 ⟨e,hm,c.symm⟩)
    show (match (a.b == e.b) with | true=>some (enM a) | false=>_)=_
    rw [this]
    exact ih hm hb.2
def uns (es:List En) (seen:List Nat):Nat:=(es.filter fun e=>!seen.contains e.b).length
theorem uns_lt {es:List En} {seen:List Nat} {e:En} (he:e∈es) (hs:e.b∉seen):uns es (seen++[e.b]) < uns es seen:=by
 unfold uns
 refine filter_lt (fun x=>!seen.contains x.b) (fun x=>!(seen++[e.b]).contains x.b) ?_ e ?_ ?_ es he
 ·intro x hx
  simp at hx
  simpa using hx.1
 ·simpa using hs
 ·simp
theorem uns_0 {es:List En} {seen:List Nat} (h:((es.map enM).filter fun e=>!seen.contains e.1)=[]):∀e∈es,e.b∈seen:=by
 intro e he
 have:=List.filter_eq_nil_iff.1 h (enM e) (List.mem_map.2 ⟨e,he,rfl⟩)
 simpa [enM] using this
theorem s_lstk1_eq (h:LI H D) {B:List Bool} {w:Int} {bx ar:Nat} (hbx:hg H bx=.own [.p D.p 0 0]) (har:hg H ar=.own (B.map Sc.b)) (hB:B.length=8):s_lstk1 [.c (.i w),.c (.p bx 0 0),.c (.p ar 0 0)] H=some (.c (.b (wtP D.S B w))):=by
 have:∃v,s_lstk1 [.c (.i w),.c (.p bx 0 0),.c (.p ar 0 0)] H=some v∧q_lstk1 [.c (.i w),.c (.p bx 0 0),.c (.p ar 0 0)] H v:=by
  have lbx:bx < H.length:=hg_lt (by rw [hbx];rfl)
  have lar:ar < H.length:=hg_lt (by rw [har];rfl)
  have hbX:∀X,hg (H++X) bx=.own [.p D.p 0 0]:=fun X=>by rw [hg_lt' lbx,hbx]
  have haX:∀X,hg (H++X) ar=.own (B.map Sc.b):=fun X=>by rw [hg_lt' lar,har]
  have hp:=h.hp
  have hm:=h.hm
  have hpX:=fun X=>(h.app X).hp
  have hmX:=fun X=>(h.app X).hm
  have lm:=h.lt (show D.m∈D.ids by simp [Ld.ids])
  unfold s_lstk1
  apply frQ_ex (v:=.c (.b (wtP D.S B w))) Tryz.func46 rfl Tryz.results46 Tryz.ntmps46 (by simp only [List.length_cons,List.length_nil];decide)
  ·exact fun _ _=>rfl
  ·intro ha hH
   have bH:∀s l,belH (H++[.iter D.m D.clk s l])=true:=fun s l=>belH_app hH (by simp only [List.mem_singleton,forall_eq,AObj.scs,List.all_cons,List.all_nil,Sc.bel,Bool.and_true,decide_eq_true_eq,List.length_append,List.length_cons,List.length_nil];omega)
   (repeat (first | simp (maxSteps:=9^9) only [go_sem,seval,hbx,hp,hm] | simp (disch:=omega) only [w64_d,ipos,ineg,dpos,dneg]))
   rw [arun_loop]
   refine ⟨{s:List Nat // ∀e∈D.es,e.b∈s→B.getD e.h.toNat false=true→w∉e.q},fun s=>([(0,.c (.i w)),(2,.c (.p ar 0 0)),(11,.c (.p H.length 0 0))],H++[.iter D.m D.clk s.1 D.clk]),fun s=>uns D.es s.1,⟨[],fun e _ hs=>by simp at hs⟩,?_,?_⟩
   ·exact Wk.wk (by simp [lo]) (by simp [Am.get]) (by simp [AV.bel,Sc.bel];omega) (subH_refl _) (bH _ _)
   ·rintro ⟨s,hs⟩
    (repeat (first | simp (maxSteps:=9^9) only [go_sem,seval] | simp (disch:=omega) only [w64_d,ipos,ineg,dpos,dneg]))
    refine nxt_next (es:=D.es.map enM) (id:=H.length) (m:=D.m) (since:=D.clk) (last:=D.clk) (clk:=D.clk) (seen:=s) (by simp [ev,Am.get]) (by rw [hg_len];rfl) (hmX _) ?_ (Nat.le_refl _) ?_ ?_
    ·rw [List.all_map]
     exact List.all_eq_true.2 fun e he=>decide_eq_true (h.ok e he).b
    ·intro h0
     have hu:=uns_0 h0
     rw [wt_false h (fun e he=>hs e he (hu e he))]
     (repeat (first | simp (maxSteps:=9^9) only [go_sem,seval] | simp (disch:=omega) only [w64_d,ipos,ineg,dpos,dneg]))
     exact subH_app _ _
    ·intro e' he' hne
     obtain ⟨e,he,rfl⟩:=List.mem_map.1 he'
     have hne:e.b∉s:=hne
     have ef:=ent_find h he
     have gl:(s++[e.b]).getLast?=some e.b:=by simp
     have ok:=h.ok e he
     obtain ⟨hl,hx⟩:=h.he e he
     have hlX:=fun X=>((h.app X).he e he).1
     have b0:e.h.toNat+1≤(B.map Sc.b).length:=by rw [List.length_map,hB];have:=ok.h8;have:=ok.h0;omega
     have b1:(B.map Sc.b).getD e.h.toNat .any=.b (B.getD e.h.toNat false):=by
      rw [List.length_map] at b0
      rw [List.getD_eq_getElem?_getD,List.getElem?_map,List.getD_eq_getElem?_getD,List.getElem?_eq_getElem (by omega)];rfl
     have e0:=ok.h0
     have e8:=ok.h8
     have hcn:=fun X=>s_lcon_of (k:=w) (isx_sl (isx_app X hx)) (by have:=h.qlen he;omega)
     have go:(B.getD e.h.toNat false=true→w∉e.q)→∀fr',(∀p∈[(0,AV.c (.i w)),(2,.c (.p ar 0 0)),(11,.c (.p H.length 0 0))],Am.get fr' p.1=p.2)→∃j:{s:List Nat // ∀e∈D.es,e.b∈s→B.getD e.h.toNat false=true→w∉e.q},uns D.es j.1 < uns D.es s∧Wk (lo [(1000000,Ent.lo H.length),(47,.fq s_lcon)]) fr' (H++[.iter D.m D.clk (s++[e.b]) D.clk]) ([(0,.c (.i w)),(2,.c (.p ar 0 0)),(11,.c (.p H.length 0 0))],H++[.iter D.m D.clk j.1 D.clk]):=by
      intro hq fr' hf
      refine ⟨⟨s++[e.b],fun x hx hxs=>?_⟩,uns_lt he hne,?_⟩
      ·rcases List.mem_append.1 hxs with g | g
       ·exact hs x hx g
       ·rw [List.mem_singleton] at g
        have:x=e:=by
         obtain ⟨i,hi,rfl⟩:=List.mem_iff_getElem.1 hx
         obtain ⟨j,hj,rfl⟩:=List.mem_iff_getElem.1 he
         have:=(List.getElem_inj (i:=i) (j:=j) (h₀:=by simpa using hi) (h₁:=by simpa using hj) h.bd).1 (by simpa using g)
         subst this;rfl
        rw [this];exact hq
      ·exact Wk.wk (by simp [lo]) hf (by simp [AV.bel,Sc.bel];omega) (subH_refl _) (bH _ _)
     cases hb:B.getD e.h.toNat false with
     | false =>
       rw [hb] at b1 go
       (repeat (first | simp (maxSteps:=9^9) only [go_sem,seval,enM,ef,gl,hmX,hlX,haX,b0,b1,e0,e8] | simp (disch:=omega) only [w64_d,ipos,ineg,dpos,dneg]))
       exact go (by simp) _ (by simp [Am.get])
     | true =>
       rw [hb] at b1 go
       by_cases hw:w∈e.q
       ·rw [decide_eq_true hw] at hcn
        (repeat (first | simp (maxSteps:=9^9) only [go_sem,seval,enM,ef,gl,hmX,hlX,haX,b0,b1,e0,e8,hcn] | simp (disch:=omega) only [w64_d,ipos,ineg,dpos,dneg]))
        rw [wt_true h he hb hw]
        exact ⟨rfl,subH_app _ _⟩
       ·rw [decide_eq_false hw] at hcn
        (repeat (first | simp (maxSteps:=9^9) only [go_sem,seval,enM,ef,gl,hmX,hlX,haX,b0,b1,e0,e8,hcn] | simp (disch:=omega) only [w64_d,ipos,ineg,dpos,dneg]))
        exact go (fun _=>hw) _ (by simp [Am.get])
  ·intro E C x b a he hE h1 h2 h3
   simp only [List.cons.injEq,AV.c.injEq,Sc.p.injEq,Sc.i.injEq,and_true] at he
   obtain ⟨rfl,rfl,rfl⟩:=he
   rw [hbx] at h1
   simp only [AObj.own.injEq,List.cons.injEq,Sc.p.injEq,and_true] at h1
   rw [har] at h2
   simp only [AObj.own.injEq] at h2
   rw [b_inj h2,h.uniq hE h1]
 obtain ⟨v,h1,h2⟩:=this
 rw [h1,h2 D B w bx ar rfl h hbx har hB]
end
end
end Go.Proofs.YteclombpnhociaaGreat
set_option maxRecDepth 100000
set_option maxHeartbeats 8000000
namespace Go.Proofs.YteclombpnhociaaGreat
open Go.Am
set_option linter.unusedSimpArgs false
set_option linter.unusedVariables false
noncomputable section
def atB (B:List Bool) (k:Nat):Bool:=B.getD k false
structure Gfp (S:LS) (B:List Bool):Prop where
 len:B.length=8
 cl:∀k,k < 8→atB B k=true→wtP S B (k:Int)=true
 gr:∀C:List Bool,C.length=8→(∀k,k < 8→atB C k=true→wtP S C (k:Int)=true)→∀k,k < 8→atB C k=true→atB B k=true
def trN (B:List Bool):Nat→List Int
 | 0=>[]
 | k+1=>if atB B k=true then trN B k++[(k:Int)] else trN B k
def trB (B:List Bool):List Int:=trN B 8
theorem trN_len {B:List Bool}:∀k,(trN B k).length≤k
 | 0=>Nat.le_refl _
 | k+1=>by
   have:=trN_len (B:=B) k
   unfold trN
   split
   ·simp;omega
   ·omega
theorem wt_mono {S:LS} {B C:List Bool} (h:∀k,atB B k=true→atB C k=true) {w:Int} (hw:wtP S B w=true):wtP S C w=true:=by
 unfold wtP at hw ⊢
 rw [List.any_eq_true] at hw ⊢
 obtain ⟨y,hy,h1⟩:=hw
 refine ⟨y,hy,?_⟩
 simp only [Bool.and_eq_true] at h1 ⊢
 exact ⟨h1.1,h _ h1.2.1,h1.2.2⟩
def inKl (S:LS) (k:Nat):List Bool:=(List.range 8).map fun j=>decide (j < k) && (waK S (j:Int)).isSome
theorem inK_len {S:LS} {k:Nat}:(inKl S k).length=8:=by simp [inKl]
theorem inK_at {S:LS} {k j:Nat} (hj:j < 8):atB (inKl S k) j=(decide (j < k) && (waK S (j:Int)).isSome):=by
 unfold atB inKl
 rw [List.getD_eq_getElem?_getD,List.getElem?_map,List.getElem?_range hj];rfl
theorem at_lt {B:List Bool} (hB:B.length=8) {k:Nat} (h:atB B k=true):k < 8:=by
 rcases Nat.lt_or_ge k 8 with h1 | h1
 ·exact h1
 ·unfold atB at h
  rw [List.getD_eq_getElem?_getD,List.getElem?_eq_none (by omega)] at h
  simp at h
theorem inK_set {S:LS} {k:Nat} (hk:k < 8):wr ((inKl S k).map Sc.b) k [.b (waK S (k:Int)).isSome]=(inKl S (k+1)).map Sc.b:=by
 rw [wr_map (g:=Sc.b) (by rw [inK_len];exact hk)]
 congr 1
 apply List.ext_getElem?
 intro j
 unfold inKl
 rw [List.getElem?_set,List.getElem?_map,List.getElem?_map]
 rcases Nat.lt_or_ge j 8 with hj | hj
 ·rw [List.getElem?_range hj]
  by_cases e:k=j
  ·subst e;simp [hk]
  ·have e2:(j < k)=(j < k+1):=propext (by omega)
   simp [e,e2]
 ·rw [List.getElem?_eq_none (by simpa using hj)]
  simp;omega
def cntB (B:List Bool):Nat:=(B.filter id).length
theorem cnt_set {B:List Bool} {k:Nat} (h:atB B k=true) (hB:B.length=8):cntB (B.set k false) < cntB B:=by
 have hk:=at_lt hB h
 unfold atB at h
 rw [List.getD_eq_getElem?_getD,List.getElem?_eq_getElem (by omega)] at h
 have e:B=B.take k++true::B.drop (k+1):=by
  conv=>lhs;rw [←List.take_append_drop k B,List.drop_eq_getElem_cons (by omega)]
  rw [show B[k]=true from h]
 have e2:B.set k false=B.take k++false::B.drop (k+1):=by rw [List.set_eq_take_append_cons_drop,if_pos (by omega)]
 unfold cntB
 rw [e2]
 conv=>rhs;rw [e]
 simp
theorem set_at {B:List Bool} {k j:Nat} (hB:B.length=8) (hk:k < 8):atB (B.set k false) j=if k=j then false else atB B j:=by
 unfold atB
 rw [List.getD_eq_getElem?_getD,List.getElem?_set,List.getD_eq_getElem?_getD]
 split
 ·rw [if_pos (by omega)];rfl
 ·rfl
def Inn (S:LS) (B:List Bool):Prop:=B.length=8∧∀C:List Bool,C.length=8→(∀k,k < 8→atB C k=true→wtP S C (k:Int)=true)→∀k,k < 8→atB C k=true→atB B k=true
theorem Inn.set {S:LS} {B:List Bool} (h:Inn S B) {k:Nat} (hk:k < 8) (hw:wtP S B (k:Int)=false):Inn S (B.set k false):=by
 refine ⟨by rw [List.length_set];exact h.1,fun C hC hc j hj hCj=>?_⟩
 rw [set_at h.1 hk]
 split
 ·rename_i e
  subst e
  have:=wt_mono (S:=S) (B:=C) (C:=B) (fun i hi=>h.2 C hC hc i (at_lt hC hi) hi) (hc k hk hCj)
  rw [hw] at this;exact this
 ·exact h.2 C hC hc j hj hCj
theorem Inn.start (S:LS):Inn S (inKl S 8):=by
 refine ⟨inK_len,fun C hC hc k hk hCk=>?_⟩
 rw [inK_at hk,decide_eq_true hk,Bool.true_and]
 have:=hc k hk hCk
 unfold wtP at this
 rw [List.any_eq_true] at this
 obtain ⟨y,hy,h1⟩:=this
 simp only [Bool.and_eq_true,decide_eq_true_eq] at h1
 unfold waK
 rw [List.findIdx?_isSome,List.any_eq_true]
 exact ⟨y,hy,decide_eq_true h1.2.2⟩
theorem waV_t (S:LS) (w:Int):waV S w=.t [.c (.i (match waK S w with | some k=>(k:Int) | none=>0)),.c (.b (waK S w).isSome)]:=by
 unfold waV
 cases waK S w <;> rfl
section
variable {H:AH} {D:Ld}
def q_lstk (args:List AV) (H:AH) (v:AV) (H1:AH):Prop:=(args=[.c .nilp]→v=.c .nils∧H1=H)∧∀D,args=[.c (.p D.p 0 0)]→LI H D→∃B,Gfp D.S B∧Own1 H H1 v (trB B)
def s_lstk:List AV→AH→Option (AV × AH):=frS Tryz.prog [(45,.fq s_lwaits),(46,.fq s_lstk1)] 16 q_lstk
theorem ok_lstk:FpOk Tryz.prog 16 s_lstk:=frS_ok hmix (TabOk.cons (e:=.fq s_lwaits) ok_lwaits (TabOk.cons (e:=.fq s_lstk1) ok_lstk1 TabOk.nil)) Tryz.func16 rfl Tryz.results16 Tryz.ntmps16 (by kernel_rfl) (by kernel_rfl)
theorem gfp_ex (S:LS):∃B,Gfp S B:=by
 have key:∀(n:Nat) (B:List Bool),cntB B=n→Inn S B→∃B,Gfp S B:=by
  intro n
  induction n using Nat.strongRecOn with
  | _ n ih =>
    intro B hn hB
    by_cases hc:∀k,k < 8→atB B k=true→wtP S B (k:Int)=true
    ·exact ⟨B,hB.1,hc,hB.2⟩
    ·simp only [Classical.not_forall] at hc
     obtain ⟨k,hk,hb,hw⟩:=hc
     exact ih _ (by rw [←hn];exact cnt_set hb hB.1) _ rfl (hB.set hk (by simpa using hw))
 exact key _ _ rfl (Inn.start S)
theorem gfp_uniq {S:LS} {B C:List Bool} (h:Gfp S B) (h':Gfp S C):B=C:=by
 apply List.ext_getElem (by rw [h.len,h'.len])
 intro k h1 h2
 have e1:atB B k=B[k]:=by unfold atB;rw [List.getD_eq_getElem?_getD,List.getElem?_eq_getElem h1];rfl
 have e2:atB C k=C[k]:=by unfold atB;rw [List.getD_eq_getElem?_getD,List.getElem?_eq_getElem h2];rfl
 rw [←e1,←e2]
 have hk:k < 8:=by rw [←h.len];exact h1
 cases hb:atB B k with
 | true=>exact (h'.gr B h.len h.cl k hk hb).symm
 | false =>
   cases hc:atB C k with
   | false=>rfl
   | true=>rw [h.gr C h'.len h'.cl k hk hc] at hb;simp at hb
end
end
end Go.Proofs.YteclombpnhociaaGreat
set_option maxRecDepth 100000
set_option maxHeartbeats 8000000
namespace Go.Proofs.YteclombpnhociaaGreat
open Go.Am
set_option linter.unusedSimpArgs false
set_option linter.unusedVariables false
noncomputable section
section
variable {H:AH} {D:Ld}
theorem arr_of (B:List Bool) (hB:B.length=8) {k:Nat} (hk:k < 8):k+1≤(B.map Sc.b).length∧(B.map Sc.b).getD k .any=.b (atB B k):=by
 refine ⟨by rw [List.length_map];omega,?_⟩
 unfold atB
 rw [List.getD_eq_getElem?_getD,List.getElem?_map,List.getD_eq_getElem?_getD,List.getElem?_eq_getElem (by omega)];rfl
structure Pas (S:LS) (B C:List Bool) (a:Bool) (k:Nat):Prop where
 inn:Inn S C
 no:a=false→C=B∧∀j,j < k→atB B j=true→wtP S B (j:Int)=true
 yes:a=true→cntB C < cntB B
theorem s_lstk_ex (h:LI H D):∃v H1,s_lstk [.c (.p D.p 0 0)] H=some (v,H1)∧H.length≤H1.length∧∃B,Gfp D.S B∧Own1 H H1 v (trB B):=by
 have:∃v H1,s_lstk [.c (.p D.p 0 0)] H=some (v,H1)∧H.length≤H1.length∧q_lstk [.c (.p D.p 0 0)] H v H1:=by
  obtain ⟨G,hG⟩:=gfp_ex D.S
  have lp:=h.lt (show D.p∈D.ids by simp [Ld.ids])
  have gm:∀B:List Bool,(B.map Sc.b).all (Sc.bel (H.length+2))=true:=fun B=>by rw [List.all_map];exact List.all_eq_true.2 fun _ _=>rfl
  have gm3:∀B:List Bool,(B.map Sc.b).all (Sc.bel (H.length+3))=true:=fun B=>by rw [List.all_map];exact List.all_eq_true.2 fun _ _=>rfl
  have one:∀B:List Bool,(B.map Sc.b).all Sc.one=true:=fun B=>by rw [List.all_map];exact List.all_eq_true.2 fun _ _=>rfl
  unfold s_lstk
  apply frS_ex (v:=.c (.sl (H.length+2) 0 (trB G).length (trB G).length)) (H1:=H++[.own [.p D.p 0 0],.own (G.map Sc.b),.vec 1 ((trB G).flatMap encI)]) Tryz.func16 rfl Tryz.results16 Tryz.ntmps16 (by simp only [List.length_cons,List.length_nil];decide)
  ·intro ha hH
   have bH:∀B:List Bool,belH (H++[.own [.p D.p 0 0],.own (B.map Sc.b)])=true:=fun B=>belH_app hH (by
    simp only [List.mem_cons,List.not_mem_nil,or_false,forall_eq_or_imp,forall_eq,AObj.scs,List.length_append,List.length_cons,List.length_nil]
    exact ⟨by simp [Sc.bel];omega,gm B⟩)
   have bH3:∀(B:List Bool) (L:List Int),belH (H++[.own [.p D.p 0 0],.own (B.map Sc.b),.vec 1 (L.flatMap encI)])=true:=fun B L=>belH_app hH (by
    simp only [List.mem_cons,List.not_mem_nil,or_false,forall_eq_or_imp,forall_eq,AObj.scs,List.length_append,List.length_cons,List.length_nil]
    exact ⟨by simp [Sc.bel];omega,gm3 B,by rw [encI_gI];exact map_bel gI_num _ _⟩)
   have z0:(inKl D.S 0).map Sc.b=[.b false,.b false,.b false,.b false,.b false,.b false,.b false,.b false]:=rfl
   (repeat (first | simp (maxSteps:=9^9) only [go_sem,seval] | simp (disch:=omega) only [w64_d,ipos,ineg,dpos,dneg]))
   refine arun_for 8 (fun k=>([(1,.c (.p H.length 0 0)),(3,.c (.p (H.length+1) 0 0)),(13,.c (.i k))],H++[.own [.p D.p 0 0],.own ((inKl D.S k).map Sc.b)])) ?_ fun k hk=>?_
   ·rw [z0]
    exact Wk.wk (by simp [lo]) (by simp [Am.get]) (by simp [AV.bel,Sc.bel]) (subH_refl _) (bH (inKl D.S 0))
   ·by_cases hlt:k < 8
    rotate_left
    ·obtain rfl:k=8:=by omega
     (repeat (first | simp (maxSteps:=9^9) only [go_sem,seval] | simp (disch:=omega) only [w64_d,ipos,ineg,dpos,dneg]))
     rw [arun_loop]
     refine ⟨{x:Bool × List Bool // Inn D.S x.2∧(x.1=false→∀k,k < 8→atB x.2 k=true→wtP D.S x.2 (k:Int)=true)},fun x=>([(1,.c (.p H.length 0 0)),(3,.c (.p (H.length+1) 0 0)),(5,.c (.f 46 [(H.length,0,0),(H.length+1,0,0)])),(6,.c (.b x.1.1))],H++[.own [.p D.p 0 0],.own (x.1.2.map Sc.b)]),
      fun x=>2 * cntB x.1.2+(if x.1.1=true then 1 else 0),⟨(true,inKl D.S 8),Inn.start _,by simp⟩,?_,?_⟩
     ·exact Wk.wk (by simp [lo]) (by simp [Am.get]) (by simp [AV.bel,Sc.bel]) (subH_refl _) (bH _)
     ·rintro ⟨⟨again,B⟩,hB,hcl⟩
      simp only at hB hcl
      cases again with
      | false =>
        have hG2:B=G:=gfp_uniq ⟨hB.1,hcl rfl,hB.2⟩ hG
        subst hG2
        have lB:(B.map Sc.b).length=8:=by rw [List.length_map,hB.1]
        have tB:(B.map Sc.b).take 8=B.map Sc.b:=List.take_of_length_le (by omega)
        (repeat (first | simp (maxSteps:=9^9) only [go_sem,seval,lB,tB] | simp (disch:=omega) only [w64_d,ipos,ineg,dpos,dneg]))
        refine arun_for 8 (fun k=>([(8,.c (.sl (H.length+2) 0 (trN B k).length (trN B k).length)),(42,.g (B.map Sc.b)),(43,.c (.i k))],H++[.own [.p D.p 0 0],.own (B.map Sc.b),.vec 1 ((trN B k).flatMap encI)])) ?_ fun k hk=>?_
        ·refine Wk.trans (Wk.nil 8 1 (by decide) rfl (by simp [lo])) (Wk.wk (by simp [lo]) (by simp [Am.get,trN]) (by simp [AV.bel,Sc.bel]) ?_ (bH3 _ _))
         rw [List.append_assoc];exact subH_refl _
        ·have wl:=trN_len (B:=B) k
         have eL:((trN B k).flatMap encI).length=(trN B k).length:=by rw [fm_len encI_l,Nat.mul_one]
         by_cases hlt:k < 8
         ·have e0:(k:Int) < 8:=by omega
          have e4:(0:Int)≤k:=by omega
          have e1:w64 ((k:Int)+1)=((k+1:Nat):Int):=by rw [w64_d (by omega) (by omega)];omega
          have k5:((trN B k).length+1) * 8≤1099511627776:=by omega
          have sk:trN B (k+1)=if atB B k=true then trN B k++[(k:Int)] else trN B k:=rfl
          obtain ⟨c0,c1⟩:=arr_of B hB.1 hlt
          rw [lB] at c0
          cases hb:atB B k with
          | false =>
            rw [hb] at c1 sk
            rw [if_neg (by decide)] at sk
            (repeat (first | simp (maxSteps:=9^9) only [go_sem,seval,e0,e1,e4,c0,c1,lB,Int.toNat_natCast] | simp (disch:=omega) only [w64_d,ipos,ineg,dpos,dneg]))
            refine ⟨k+1,by omega,by omega,?_⟩
            rw [sk]
            exact Wk.wk (by simp [lo]) (by simp [Am.get]) (by simp [AV.bel,Sc.bel,gm3]) (subH_refl _) (bH3 _ _)
          | true =>
            rw [hb] at c1 sk
            rw [if_pos rfl] at sk
            (repeat (first | simp (maxSteps:=9^9) only [go_sem,seval,e0,e1,e4,c0,c1,lB,k5,eL,Int.toNat_natCast] | simp (disch:=omega) only [w64_d,ipos,ineg,dpos,dneg]))
            refine ⟨k+1,by omega,by omega,?_⟩
            rw [sk]
            exact Wk.wk (by simp [lo]) (by simp [Am.get]) (by simp [AV.bel,Sc.bel,gm3]) (subH_pre _ ⟨.inr rfl,.inr rfl,.inr (by rw [fm_app];rfl),trivial⟩) (bH3 _ _)
         ·obtain rfl:k=8:=by omega
          (repeat (first | simp (maxSteps:=9^9) only [go_sem,seval] | simp (disch:=omega) only [w64_d,ipos,ineg,dpos,dneg]))
          exact fin_same
      | true =>
        (repeat (first | simp (maxSteps:=9^9) only [go_sem,seval] | simp (disch:=omega) only [w64_d,ipos,ineg,dpos,dneg]))
        rw [arun_loop]
        refine ⟨{y:Nat × List Bool × Bool // y.1≤8∧Pas D.S B y.2.1 y.2.2 y.1},fun y=>([(1,.c (.p H.length 0 0)),(3,.c (.p (H.length+1) 0 0)),(5,.c (.f 46 [(H.length,0,0),(H.length+1,0,0)])),(6,.c (.b y.1.2.2)),(27,.c (.i y.1.1))],H++[.own [.p D.p 0 0],.own (y.1.2.1.map Sc.b)]),
         fun y=>8 - y.1.1,⟨(0,B,false),by omega,hB,fun _=>⟨rfl,fun j hj=>absurd hj (Nat.not_lt_zero _)⟩,fun c=>by simp at c⟩,?_,?_⟩
        ·exact Wk.wk (by simp [lo]) (by simp [Am.get]) (by simp [AV.bel,Sc.bel]) (subH_refl _) (bH _)
        ·rintro ⟨⟨k,C,a⟩,hk8,hP⟩
         simp only at hk8 hP
         by_cases hlt:k < 8
         rotate_left
         ·obtain rfl:k=8:=by omega
          (repeat (first | simp (maxSteps:=9^9) only [go_sem,seval] | simp (disch:=omega) only [w64_d,ipos,ineg,dpos,dneg]))
          cases a with
          | false =>
            obtain ⟨rfl,hq⟩:=hP.no rfl
            exact ⟨⟨(false,C),hP.inn,fun _=>hq⟩,by simp,Wk.wk (by simp [lo]) (by simp [Am.get]) (by simp [AV.bel,Sc.bel]) (subH_refl _) (bH _)⟩
          | true =>
            have:=hP.yes rfl
            exact ⟨⟨(true,C),hP.inn,fun c=>by simp at c⟩,by simp;omega,Wk.wk (by simp [lo]) (by simp [Am.get]) (by simp [AV.bel,Sc.bel]) (subH_refl _) (bH _)⟩
         ·have e0:(k:Int) < 8:=by omega
          have e4:(0:Int)≤k:=by omega
          have e1:w64 ((k:Int)+1)=((k+1:Nat):Int):=by rw [w64_d (by omega) (by omega)];omega
          have hC:=hP.inn.1
          obtain ⟨c0,c1⟩:=arr_of C hC hlt
          have lC:(C.map Sc.b).length=8:=by rw [List.length_map,hC]
          have o1:=one C
          have st:=s_lstk1_eq (h.app [.own [.p D.p 0 0],.own (C.map Sc.b)]) (B:=C) (w:=(k:Int)) (bx:=H.length) (ar:=H.length+1) (by rw [hg_len];rfl) (by rw [hg_len_add];rfl) hC
          have go:(C.getD k false=atB C k):=rfl
          have keep:(atB C k=true→wtP D.S C (k:Int)=true)→Pas D.S B C a (k+1):=fun hw=>⟨hP.inn,fun ha=>by
           obtain ⟨rfl,hq⟩:=hP.no ha
           refine ⟨rfl,fun j hj hb=>?_⟩
           rcases Nat.lt_succ_iff_lt_or_eq.1 hj with h' | rfl
           ·exact hq j h' hb
           ·exact hw hb,hP.yes⟩
          cases hb:atB C k with
          | false =>
            rw [hb] at c1
            (repeat (first | simp (maxSteps:=9^9) only [go_sem,seval,e0,e1,e4,c0,c1,lC,Int.toNat_natCast] | simp (disch:=omega) only [w64_d,ipos,ineg,dpos,dneg]))
            exact ⟨⟨(k+1,C,a),by omega,keep (by rw [hb];simp)⟩,by simp only;omega,Wk.wk (by simp [lo]) (by simp [Am.get]) (by simp [AV.bel,Sc.bel]) (subH_refl _) (bH _)⟩
          | true =>
            rw [hb] at c1
            cases hw:wtP D.S C (k:Int) with
            | true =>
              rw [hw] at st
              (repeat (first | simp (maxSteps:=9^9) only [go_sem,seval,e0,e1,e4,c0,c1,lC,st,Int.toNat_natCast] | simp (disch:=omega) only [w64_d,ipos,ineg,dpos,dneg]))
              exact ⟨⟨(k+1,C,a),by omega,keep (fun _=>hw)⟩,by simp only;omega,Wk.wk (by simp [lo]) (by simp [Am.get]) (by simp [AV.bel,Sc.bel]) (subH_refl _) (bH _)⟩
            | false =>
              rw [hw] at st
              have r1:wr (C.map Sc.b) k [.b false]=(C.set k false).map Sc.b:=wr_map (g:=Sc.b) (by omega)
              (repeat (first | simp (maxSteps:=9^9) only [go_sem,seval,e0,e1,e4,c0,c1,lC,st,r1,Int.toNat_natCast] | simp (disch:=omega) only [w64_d,ipos,ineg,dpos,dneg]))
              refine ⟨⟨(k+1,C.set k false,true),by omega,hP.inn.set hlt hw,fun c=>by simp at c,fun _=>?_⟩,by simp only;omega,Wk.wk (by simp [lo]) (by simp [Am.get]) (by simp [AV.bel,Sc.bel]) (subH_refl _) (bH _)⟩
              have l1:=cnt_set hb hC
              cases a with
              | false=>obtain ⟨rfl,_⟩:=hP.no rfl;exact l1
              | true=>have:=hP.yes rfl;simp only;omega
    ·have e0:(k:Int) < 8:=by omega
     have e4:(0:Int)≤k:=by omega
     have e1:w64 ((k:Int)+1)=((k+1:Nat):Int):=by rw [w64_d (by omega) (by omega)];omega
     have wq:=fun X=>s_lwaits_eq (h.app X) (w:=(k:Int))
     rw [waV_t] at wq
     have r1:=inK_set (S:=D.S) hlt
     have lB:((inKl D.S k).map Sc.b).length=8:=by rw [List.length_map,inK_len]
     have k1:k+1≤8:=by omega
     (repeat (first | simp (maxSteps:=9^9) only [go_sem,seval,e0,e1,e4,wq,r1,lB,k1,Int.toNat_natCast] | simp (disch:=omega) only [w64_d,ipos,ineg,dpos,dneg]))
     exact ⟨k+1,by omega,by omega,Wk.wk (by simp [lo]) (by simp [Am.get]) (by simp [AV.bel,Sc.bel]) (subH_refl _) (bH _)⟩
  ·simp
  ·refine ⟨fun he=>by simp at he,fun E he hE=>?_⟩
   simp only [List.cons.injEq,AV.c.injEq,Sc.p.injEq,and_true] at he
   rw [←h.uniq hE he]
   exact ⟨G,hG,⟨_,rfl,.inr ⟨_,rfl,by rw [hg_len_add];rfl⟩,fun i hi=>by simp only [sidI,Option.some.injEq] at hi;omega⟩,fun i hi=>hg_lt' hi⟩
 obtain ⟨v,H1,h1,hlen,h2⟩:=this
 exact ⟨v,H1,h1,hlen,h2.2 D rfl h⟩
end
end
end Go.Proofs.YteclombpnhociaaGreat
set_option maxRecDepth 100000
set_option maxHeartbeats 8000000
namespace Go.Proofs.YteclombpnhociaaGreat
open Go.Am
set_option linter.unusedSimpArgs false
set_option linter.unusedVariables false
noncomputable section
section
variable {H:AH} {D:Ld}
structure LCp (H H1:AH) (D E:Ld):Prop where
 li:LI H1 E
 len:H.length≤H1.length
 old:∀i,i < H.length→hg H1 i=hg H i
 ids:∀i∈E.ids,H.length≤i
 s:E.S=D.S
structure LPr (H K:AH) (D E:Ld) (s:List Nat):Prop where
 li:LI K E
 old:∀i,i < H.length→hg K i=hg H i
 len:H.length+3≤K.length
 ids:∀i∈E.ids,H.length≤i∧i≠H.length+2
 n:E.n=D.n
 p:E.p=H.length+1
 it:hg K (H.length+2)=.iter D.m D.clk s D.clk
 fd:∀k,enS (fdK E.es k)=match fdK D.es k with | some e=>if e.b∈s then (e.h,e.q) else (-1,[]) | none=>(-1,[])
theorem fd_of (h:LI H D) {e:En} (he:e∈D.es):fdK D.es e.k=some e:=by
 cases hf:fdK D.es e.k with
 | none=>exact absurd rfl (fdK_none hf e he)
 | some f =>
   obtain ⟨h1,h2⟩:=fdK_some hf
   obtain ⟨i,hi,rfl⟩:=List.mem_iff_getElem.1 h1
   obtain ⟨j,hj,rfl⟩:=List.mem_iff_getElem.1 he
   have:=(List.getElem_inj (i:=i) (j:=j) (h₀:=by simpa using hi) (h₁:=by simpa using hj) h.kd).1 (by simpa using h2)
   subst this;rfl
theorem enS_free {D:Ld} {K:AH} (h:LI K D) {k:Int} (he:enS (fdK D.es k)=(-1,[])):fdK D.es k=none:=by
 cases hf:fdK D.es k with
 | none=>rfl
 | some e =>
   rw [hf] at he
   have:=(h.ok e (fdK_some hf).1).h0
   simp only [enS,Prod.mk.injEq] at he
   omega
theorem LPr.step {K:AH} {E:Ld} {s:List Nat} (h:LI H D) (hP:LPr H K D E s) {e:En} (he:e∈D.es) (hs:e.b∉s) (K1:AH)
 (hK1:K1=((K.set (H.length+2) (AObj.iter D.m D.clk (s++[e.b]) D.clk)++[AObj.vec 1 (e.q.flatMap encI),AObj.own [.i e.h,.sl K.length 0 e.q.length e.q.length]]).set E.m (.map (E.clk+1) (E.es.map enM++[(E.clk,.c (.i e.k),.c (.p (K.length+1) 0 0))])))) :
 ∃F,LPr H K1 D F (s++[e.b]):=by
 have hE:=hP.li
 have lm:=hE.lt (show E.m∈E.ids by simp [Ld.ids])
 have mne:=(hP.ids E.m (by simp [Ld.ids])).2
 have hl:=hP.len
 have ok:=h.ok e he
 have fe:=fd_of h he
 have hfree:fdK E.es e.k=none:=enS_free hE (by rw [hP.fd,fe];simp [hs])
 have hge:=(hP.ids E.m (by simp [Ld.ids])).1
 subst hK1
 have lenK:(K.set (H.length+2) (AObj.iter D.m D.clk (s++[e.b]) D.clk)).length=K.length:=by simp
 have hfr:LI (K.set (H.length+2) (AObj.iter D.m D.clk (s++[e.b]) D.clk)) E:=hE.frame fun i hi=>hg_set_ne' (fun c=>(hP.ids i hi).2 c.symm)
 obtain ⟨m1,m2,m3⟩:=hfr.more (K:=((K.set (H.length+2) (AObj.iter D.m D.clk (s++[e.b]) D.clk)++[AObj.vec 1 (e.q.flatMap encI),AObj.own [.i e.h,.sl K.length 0 e.q.length e.q.length]]).set E.m (.map (E.clk+1) (E.es.map enM++[(E.clk,AV.c (.i e.k),AV.c (.p (K.length+1) 0 0))]))))
  (f:=⟨E.clk,e.k,K.length+1,e.h,.sl K.length 0 e.q.length e.q.length,e.q⟩) (by simp) (fun i hi hne=>by rw [hg_set_ne' (fun c=>hne c.symm),hg_lt' hi]) (by rw [hg_set_same (by simp;omega)];rfl) hfree rfl (by simp)
  (by show hg _ (K.length+1)=_;rw [hg_set_ne' (by omega)];have:=hg_len_add (H:=K.set (H.length+2) (AObj.iter D.m D.clk (s++[e.b]) D.clk)) (X:=[AObj.vec 1 (e.q.flatMap encI),AObj.own [.i e.h,.sl K.length 0 e.q.length e.q.length]]) (n:=1);rw [lenK] at this;rw [this];rfl)
  (.inr ⟨K.length,rfl,by rw [hg_set_ne' (by omega)];have:=hg_len (H:=K.set (H.length+2) (AObj.iter D.m D.clk (s++[e.b]) D.clk)) (X:=[AObj.vec 1 (e.q.flatMap encI),AObj.own [.i e.h,.sl K.length 0 e.q.length e.q.length]]);rw [lenK] at this;rw [this];rfl⟩)
  (fun i hi=>by simp only [sidI,Option.some.injEq] at hi;subst hi;exact ⟨by simp,by simp⟩) ⟨Nat.lt_succ_self _,ok.k0,by rw [hP.n];exact ok.kn,ok.h0,ok.h8,ok.q,ok.nd⟩
 refine ⟨_,⟨m1,fun i hi=>?_,by simp;omega,fun i hi=>?_,hP.n,hP.p,?_,fun k=>?_⟩⟩
 ·rw [hg_set_ne' (by omega),hg_lt' (by simp;omega),hg_set_ne' (by omega),hP.old i hi]
 ·rcases m2.ids i hi with g | g
  ·exact hP.ids i g
  ·rw [lenK] at g;exact ⟨by omega,by omega⟩
 ·rw [hg_set_ne' mne,hg_lt' (by simp;omega),hg_set_same (by omega)]
 ·show enS (fdK (E.es++[_]) k)=_
  have fa:∀f:En,fdK (E.es++[f]) k=(fdK E.es k).or (if f.k=k then some f else none):=fun f=>by
   unfold fdK
   rw [List.find?_append,List.find?_cons]
   by_cases c:f.k=k <;> simp [c]
  rw [fa]
  by_cases ck:e.k=k
  ·subst ck
   rw [hfree,fe]
   simp [enS]
  ·rw [if_neg ck,Option.or_none,hP.fd k]
   cases hf:fdK D.es k with
   | none=>rfl
   | some e2 =>
     have hne:e2.b≠e.b:=by
      intro hb
      have h2:=(fdK_some hf)
      obtain ⟨i,hi,rfl⟩:=List.mem_iff_getElem.1 h2.1
      obtain ⟨j,hj,rfl⟩:=List.mem_iff_getElem.1 he
      have:=(List.getElem_inj (i:=i) (j:=j) (h₀:=by simpa using hi) (h₁:=by simpa using hj) h.bd).1 (by simpa using hb)
      subst this
      exact ck h2.2
     simp [hne]
theorem LPr.fin {K:AH} {E:Ld} {s:List Nat} (h:LI H D) (hP:LPr H K D E s) (ha:∀e∈D.es,e.b∈s):LCp H K D E:=by
 refine ⟨hP.li,by have:=hP.len;omega,hP.old,fun i hi=>(hP.ids i hi).1,?_⟩
 unfold Ld.S
 rw [hP.n]
 refine List.map_congr_left fun k _=>?_
 rw [hP.fd]
 cases hf:fdK D.es (k:Int) with
 | none=>rfl
 | some e=>simp [ha e (fdK_some hf).1,enS]
theorem getL_cases (fr:Fr) (s:Nat):Am.get fr s=.c .any∨∃p∈fr,p.1=s∧Am.get fr s=p.2:=by
 induction fr with
 | nil=>exact .inl rfl
 | cons a r ih =>
   obtain ⟨d,v⟩:=a
   by_cases h:d=s
   ·exact .inr ⟨(d,v),by simp,h,by simp [Am.get,h]⟩
   ·have e:Am.get ((d,v)::r) s=Am.get r s:=by simp [Am.get,h]
    rw [e]
    rcases ih with h1 | ⟨p,h1,h2,h3⟩
    ·exact .inl h1
    ·exact .inr ⟨p,by simp [h1],h2,h3⟩
theorem wkFL {n:Nat} {fr fr':Fr} {H:AH} (hf:∀p∈fr',Am.get fr p.1=p.2):Wk n fr H (fr',H):=fun ρ w tm h1 h2 =>
 ⟨ρ,fun s=>by
   show VRel ρ (Am.get fr' s) (tm s)
   rcases getL_cases fr' s with e | ⟨p,hp,rfl,e⟩
   ·rw [e];exact trivial
   ·rw [e,←hf p hp];exact h1 p.1,h2,fun i _ hi hL _=>⟨i,hi,hL⟩,fun _ _=>rfl⟩
open Classical in
end
end
end Go.Proofs.YteclombpnhociaaGreat
set_option maxRecDepth 100000
set_option maxHeartbeats 8000000
namespace Go.Proofs.YteclombpnhociaaGreat
open Go.Am
set_option linter.unusedSimpArgs false
set_option linter.unusedVariables false
noncomputable section
section
variable {H:AH}
theorem clone_slP {x:Sc} {A:List Int} (h:slP dcI H x=some A) (hs:A.length≤1000000):cloneI H x=some (.sl H.length 0 A.length A.length,H++[.vec 1 (A.flatMap encI)]):=by
 rcases slP_inv gI_d h with ⟨rfl,rfl⟩ | ⟨id,v,rfl,hv,hl,hc⟩
 ·rfl
 ·have e:=encI_gI A
  simp only [cloneI,List.drop_zero,hc,←e]
  rw [if_pos ⟨hv,by omega,encI_one A,hs⟩]
theorem slP_len {x:Sc} {A:List Int} (h:slP dcI H x=some A):∀t,lenB (.sl t) (.c x)=some (.c (.i A.length)):=by
 intro t
 rcases slP_inv gI_d h with ⟨rfl,rfl⟩ | ⟨id,v,rfl,_⟩ <;> rfl
theorem slP_isS {x:Sc} {A:List Int} (h:slP dcI H x=some A):(lenB (.sl 0) (.c x)).isSome=true:=by rw [slP_len h];rfl
theorem slP_frame {K:AH} {x:Sc} {A:List Int} (h:slP dcI H x=some A) (hk:∀i,sidI x=some i→hg K i=hg H i):slP dcI K x=some A:=by
 unfold slP at h ⊢
 split at h
 ·exact h
 ·rename_i id v n
  rw [hk id rfl]
  exact h
 ·simp at h
def nN (A:List Int):List Int:=ddp (srt ltI A)
def s_lplan (args:List AV) (H:AH):Option (AV × AH) :=
 match args with
 | [.c x] =>
   match slD 1 dcI H x with
   | some A=>if A.length≤12 then some (.g [.sl (H.length+1) 0 A.length (nN A).length,.i 0,.b false,.i 0],H++[.own [.sl (H.length+1) 0 A.length (nN A).length,.i 0,.b false,.i 0],.vec 1 (cmpCI (srt ltI A))]) else none
   | none=>none
 | _=>none
def jbA (H:AH) (id off:Nat):Option (Sc × Int × Bool × Int) :=
 match hg H id with
 | .own cs =>
   match cs.drop off with
   | nx::.i t::.b d::.i g::_=>some (nx,t,d,g)
   | _=>none
 | _=>none
theorem jbA_inv {id off:Nat} {nx:Sc} {t g:Int} {d:Bool} (h:jbA H id off=some (nx,t,d,g)):∃cs,hg H id=.own cs∧off+4≤cs.length∧cs.getD off .any=nx∧cs.getD (off+1) .any=.i t∧cs.getD (off+2) .any=.b d∧cs.getD (off+3) .any=.i g:=by
 unfold jbA at h
 split at h <;> try (simp at h;done)
 rename_i cs ho
 split at h <;> try (simp at h;done)
 rename_i a b c e r hd
 simp only [Option.some.injEq,Prod.mk.injEq] at h
 obtain ⟨rfl,rfl,rfl,rfl⟩:=h
 have hl:=congrArg List.length hd
 simp only [List.length_drop,List.length_cons] at hl
 have gt:∀i,cs.getD (off+i) .any=(cs.drop off).getD i .any:=fun i=>by rw [List.getD_eq_getElem?_getD,List.getD_eq_getElem?_getD,List.getElem?_drop]
 refine ⟨cs,ho,by omega,?_,?_,?_,?_⟩
 ·have:=gt 0;rw [hd] at this;exact this
 ·rw [gt,hd];rfl
 ·rw [gt,hd];rfl
 ·rw [gt,hd];rfl
theorem jbA_own {id off:Nat} {A B:List Sc} {nx:Sc} {t g:Int} {d:Bool} (ho:hg H id=.own (A++(nx::.i t::.b d::.i g::B))) (hoff:off=A.length):jbA H id off=some (nx,t,d,g):=by
 unfold jbA
 rw [ho,hoff]
 simp only [List.drop_left]
def s_lneeds (args:List AV) (H:AH):Option (AV × AH) :=
 match args with
 | [.c .nilp]=>some (.c .nils,H)
 | [.c (.p id off 0)] =>
   match jbA H id off with
   | some (nx,_,_,_) =>
     match slP dcI H nx with
     | some L=>if L.length≤1000000 then some (.c (.sl H.length 0 L.length L.length),H++[.vec 1 (L.flatMap encI)]) else none
     | none=>none
   | none=>none
 | _=>none
def dnJ (L:List Int) (d:Bool) (g:Int):Bool:=d && decide (g=L.length)
def s_ldone (args:List AV) (H:AH):Option AV :=
 match args with
 | [.c .nilp]=>some (.c (.b true))
 | [.c (.p id off 0)] =>
   match jbA H id off with
   | some (nx,_,d,g) =>
     match slP dcI H nx with
     | some L=>some (.c (.b (dnJ L d g)))
     | none=>none
   | none=>none
 | _=>none
theorem s_ldone_eq {id off:Nat} {nx:Sc} {t g:Int} {d:Bool} {L:List Int} (h:jbA H id off=some (nx,t,d,g)) (hL:slP dcI H nx=some L):s_ldone [.c (.p id off 0)] H=some (.c (.b (dnJ L d g))):=by
 simp only [s_ldone,h,hL]
theorem ok_ldone:FpOk Tryz.prog 15 (fun args H=>(s_ldone args H).map fun v=>(v,H)):=by
 refine fq_ok (s:=s_ldone) (tab:=[]) hmix TabOk.nil Tryz.func15 rfl Tryz.results15 Tryz.ntmps15 (by kernel_rfl) (by kernel_rfl) ?_
 intro args H v h hargs hH
 unfold s_ldone at h
 split at h
 ·simp only [Option.some.injEq] at h
  subst h
  refine ⟨by simp only [List.length_cons,List.length_nil];decide,rfl,?_⟩
  (repeat (first | simp (maxSteps:=9^9) only [go_sem,seval] | simp (disch:=omega) only [w64_d,ipos,ineg,dpos,dneg]))
  (repeat' first | apply And.intro | (intro _;kernel_rfl) | kernel_rfl)
  exact subH_refl _
 ·rename_i id off
  split at h <;> try (simp at h;done)
  rename_i nx t d g hj
  split at h <;> try (simp at h;done)
  rename_i L hL
  simp only [Option.some.injEq] at h
  subst h
  refine ⟨by simp only [List.length_cons,List.length_nil];decide,rfl,?_⟩
  obtain ⟨cs,ho,hle,g0,g1,g2,g3⟩:=jbA_inv hj
  have k0:off+1≤cs.length:=by omega
  have k2:off+2+1≤cs.length:=by omega
  have k3:off+3+1≤cs.length:=by omega
  have xl:=slP_len hL
  have xs:=slP_isS hL
  cases d with
  | false =>
    (repeat (first | simp (maxSteps:=9^9) only [go_sem,seval,ho,g0,g2,g3,k0,k2,k3,dnJ,xl,xs,as_len_y,tm_y] | simp (disch:=omega) only [w64_d,ipos,ineg,dpos,dneg]))
    (repeat' first | apply And.intro | (intro _;kernel_rfl) | kernel_rfl)
    exact subH_refl _
  | true =>
    (repeat (first | simp (maxSteps:=9^9) only [go_sem,seval,ho,g0,g2,g3,k0,k2,k3,dnJ,xl,xs,as_len_y,tm_y] | simp (disch:=omega) only [w64_d,ipos,ineg,dpos,dneg]))
    (repeat' first | apply And.intro | (intro _;kernel_rfl) | kernel_rfl)
    exact subH_refl _
 ·simp at h
end
end
end Go.Proofs.YteclombpnhociaaGreat
set_option maxRecDepth 100000
set_option maxHeartbeats 8000000
namespace Go.Proofs.YteclombpnhociaaGreat
open Go.Am
set_option linter.unusedSimpArgs false
set_option linter.unusedVariables false
noncomputable section
structure TsV where
 bs:Nat
 ba:Nat
 bl:Nat
 bf:Nat
 bh:Nat
 bx:Nat
 x:Sc
 z:ShS
 D:Ld
 id:Nat
 B:List Int
 m:Nat
 h:Int
 q:Ak
 r:List Sc
def TsV.args (e:TsV):List AV:=[.c (.p e.bs 0 0),.c (.p e.ba 0 0),.c (.p e.bl 0 0),.c (.p e.bf 0 0),.c (.p e.bh 0 0),.c (.p e.bx 0 0)]
def TsV.ask (e:TsV):List Sc:=.i e.q.k::.u e.q.a::.u e.q.b::.i e.q.c::.i e.q.s::.i e.q.op::.u e.q.d::.u e.q.o::.b e.q.lv::e.r
def TsV.w (e:TsV):Fw:=dmW e.z.h e.z.t e.z.ram.n e.z.b e.B e.z.R
structure TsI (H:AH) (e:TsV):Prop where
 s:hg H e.bs=.own [e.x]
 sh:ShIs H e.x e.z
 a:hg H e.ba=.own e.ask
 ar:askR e.r
 as':inR e.q.s
 l:hg H e.bl=.own [.p e.D.p 0 0]
 li:LI H e.D
 f:hg H e.bf=.own [.b true]
 hh:hg H e.bh=.own [.i e.h]
 o:hg H e.bx=.own (rdC e.z.h e.z.t e.z.ram.n e.z.b e.id e.B.length e.z.R)
 rd:RdOk H e.id e.B.length e.B.length (refC e.z.R) e.B e.m e.z.R
 rel:Rel e.w e.z
 h0:0≤e.h
 ho:∀n∈strL e.q.a e.q.b e.q.c e.q.s e.z.t,mayB e.z.ram.n e.q.k e.q.a e.q.b e.q.c e.q.s e.q.op=true→0≤n∧n < e.D.S.length∧(atS e.D.S n).1=e.h
 n1:e.z.id≠e.bs∧e.z.id≠e.ba∧e.z.id≠e.bl∧e.z.id≠e.bf∧e.z.id≠e.bh∧e.z.id≠e.bx
 n2:e.bf≠e.bs∧e.bf≠e.ba∧e.bf≠e.bl∧e.bf≠e.bh∧e.bf≠e.bx
 n3:e.bx≠e.bs∧e.bx≠e.ba∧e.bx≠e.bl∧e.bx≠e.bh
def TsV.to (e:TsV):TsV:={e with z:=e.z.to (dM e.z e.h e.q) (dR e.z e.h e.q),B:=wB e.w e.h e.q}
structure TsP (H H1:AH) (e:TsV):Prop where
 len:H.length≤H1.length
 sh:ShIs H1 e.x e.to.z
 o:hg H1 e.bx=.own (rdC e.z.h e.z.t e.z.ram.n e.z.b e.id e.to.B.length e.to.z.R)
 rd:RdOk H1 e.id e.to.B.length e.to.B.length (refC e.to.z.R) e.to.B e.m e.to.z.R
 rel:Rel e.to.w e.to.z
 f:hg H1 e.bf=.own [.b true]
 old:∀i,i < H.length→i≠e.z.id→i≠e.z.ram.mid→i≠e.id→i≠e.bx→hg H1 i=hg H i
section
variable {H:AH}
theorem TsI.uniqE {e e':TsV} (h:e.args=e'.args):e.bs=e'.bs∧e.ba=e'.ba∧e.bl=e'.bl∧e.bf=e'.bf∧e.bh=e'.bh∧e.bx=e'.bx:=by
 simp only [TsV.args,List.cons.injEq,AV.c.injEq,Sc.p.injEq,and_true] at h
 exact h
theorem dd_leT {A:List Int}:(ddp A).length≤A.length:=ddN_le
theorem cmp_lenT (A:List Int):(cmpCI (srt ltI A)).length=A.length:=by
 have h1:(srt ltI A).length=A.length:=srt_len
 have h2:=dd_leT (A:=srt ltI A)
 unfold cmpCI
 rw [List.length_append,List.length_map,List.length_replicate]
 omega
theorem slP_planT {H:AH} {id:Nat} {A:List Int} (h:hg H id=.vec 1 (cmpCI (srt ltI A))):slP dcI H (.sl id 0 A.length (nN A).length)=some (nN A):=by
 have h1:(srt ltI A).length=A.length:=srt_len
 have h2:=dd_leT (A:=srt ltI A)
 refine slP_of (g:=gI) (fun _=>rfl) (by rw [h];simp only [AObj.row];rw [cmp_lenT]) rfl ?_ ?_
 ·rw [h];simp only [AObj.cells];rw [cmp_lenT];show (ddp (srt ltI A)).length≤_;omega
 ·rw [h]
  simp only [AObj.cells]
  unfold cmpCI nN
  rw [List.take_append_of_le_length (by rw [List.length_map];exact Nat.le_refl _),List.take_of_length_le (by rw [List.length_map];exact Nat.le_refl _)]
theorem ab_ansE (d:BitVec 64) (g:Bool):abin Tryz.prog .eql 66 (.g (anC d g)) (.g (anC d g))=some (.c (.b true)):=by
 have gT:tagsT Tryz.prog 12 66=some (Tg.n::Tg.q::(List.replicate 8 [Tg.q,.q,.q,.n,.n]).flatten):=by kernel_rfl
 rw [ab_g_eql _ (by kernel_rfl) gT]
 have h:csEq (List.replicate 8 [Tg.q,.q,.q,.n,.n]).flatten zMl zMl=some true:=by kernel_rfl
 have:csEq (Tg.n::Tg.q::(List.replicate 8 [Tg.q,.q,.q,.n,.n]).flatten) (anC d g) (anC d g)=some true:=by
  unfold anC
  simp only [csEq,h,scEq]
  simp
 rw [this];rfl
theorem needs_ex {K:AH} {e:TsV} (hs:ShIs K e.x e.z) (hr:askR e.r):∃nx Y A,s_sneeds [.c e.x,.g e.ask] K=some (.c nx,K++Y)∧slP dcI (K++Y) nx=some A∧A.length≤4∧(∀i,sidI nx=some i→K.length≤i) ∧
 ∀n∈A,mayB e.z.ram.n e.q.k e.q.a e.q.b e.q.c e.q.s e.q.op=true∧n∈strL e.q.a e.q.b e.q.c e.q.s e.z.t:=by
 have h:=s_sneeds_eq (k:=e.q.k) (a:=e.q.a) (b:=e.q.b) (c:=e.q.c) (s:=e.q.s) (op:=e.q.op) (d:=e.q.d) (o:=e.q.o) (lv:=e.q.lv) (r:=e.r) hs hr
 unfold TsV.ask
 cases hm:mayB e.z.ram.n e.q.k e.q.a e.q.b e.q.c e.q.s e.q.op
 ·rw [hm,if_neg (by decide)] at h
  exact ⟨.nils,[],[],by rw [List.append_nil];exact h,rfl,by simp,fun i hi=>by simp [sidI] at hi,fun n hn=>by simp at hn⟩
 ·rw [hm,if_pos rfl] at h
  refine ⟨_,_,ddp (srt ltI (strL e.q.a e.q.b e.q.c e.q.s e.z.t)),h,?_,?_,fun i hi=>by simp only [sidI,Option.some.injEq] at hi;omega,fun n hn=>⟨rfl,?_⟩⟩
  ·exact slP_planT (by rw [hg_len_add];rfl)
  ·have l1:(strL e.q.a e.q.b e.q.c e.q.s e.z.t).length≤4:=by rw [strL_len];exact accP_le
   have l2:=ddN_le (A:=srt ltI (strL e.q.a e.q.b e.q.c e.q.s e.z.t)) (m:=(srt ltI (strL e.q.a e.q.b e.q.c e.q.s e.z.t)).length)
   rw [srt_len] at l2
   exact Nat.le_trans (by unfold ddp;rw [srt_len];exact l2) l1
  ·rw [(ddp_spec linI (srt_sorted linI)).2 n,srt_mem] at hn
   exact hn
def q_ts (args:List AV) (H:AH) (v:AV) (H1:AH):Prop:=∀e:TsV,args=e.args→TsI H e→v=.t []∧TsP H H1 e
def s_tsact:List AV→AH→Option (AV × AH):=frS Tryz.prog [(9,.fp s_sneeds),(12,.fq s_lholder),(13,.fp s_sdo14),(14,.fp s_r14do)] 11 q_ts
theorem ok_tsact:FpOk Tryz.prog 11 s_tsact:=frS_ok hmix (TabOk.cons (e:=.fp s_sneeds) ok_sneeds (TabOk.cons (e:=.fq s_lholder) ok_lholder (TabOk.cons (e:=.fp s_sdo14) ok_sdo14 (TabOk.cons (e:=.fp s_r14do) ok_r14do TabOk.nil)))) Tryz.func11 rfl Tryz.results11 Tryz.ntmps11 (by kernel_rfl) (by kernel_rfl)
theorem TsI.same {e e':TsV} (h:TsI H e) (h':TsI H e') (he:e.args=e'.args):e=e':=by
 obtain ⟨e1,e2,e3,e4,e5,e6⟩:=TsI.uniqE he
 have hs:=h.s
 rw [e1,h'.s] at hs
 simp only [AObj.own.injEq,List.cons.injEq,and_true] at hs
 have hx:=hs.symm
 have hz:e.z=e'.z:=h.sh.uniq (hx ▸ h'.sh)
 have ha:=h.a
 rw [e2,h'.a] at ha
 simp only [AObj.own.injEq,TsV.ask,List.cons.injEq,Sc.i.injEq,Sc.u.injEq,Sc.b.injEq] at ha
 obtain ⟨a1,a2,a3,a4,a5,a6,a7,a8,a9,a10⟩:=ha
 have hq:e.q=e'.q:=by
  cases hq:e.q;cases hq':e'.q
  simp only [hq,hq'] at a1 a2 a3 a4 a5 a6 a7 a8 a9
  subst a1 a2 a3 a4 a5 a6 a7 a8 a9
  rfl
 have hl:=h.l
 rw [e3,h'.l] at hl
 simp only [AObj.own.injEq,List.cons.injEq,Sc.p.injEq,and_true] at hl
 have hD:e.D=e'.D:=h.li.uniq h'.li hl.symm
 have hh:=h.hh
 rw [e5,h'.hh] at hh
 simp only [AObj.own.injEq,List.cons.injEq,Sc.i.injEq,and_true] at hh
 have ho:=h.o
 rw [e6,h'.o] at ho
 simp only [AObj.own.injEq,rdC,List.cons.injEq,Sc.sl.injEq] at ho
 have hid:e.id=e'.id:=ho.2.2.2.2.1.1.symm
 have r1:=h.rd.o
 rw [hid,h'.rd.o] at r1
 simp only [AObj.vec.injEq,true_and] at r1
 have hB:e.B=e'.B:=(e8w_inj r1).symm
 have hm:e.m=e'.m:=by
  have l1:=h.rd.l
  have l2:=h'.rd.l
  rw [hB] at l1
  omega
 have hh:=hh.symm
 have a10:=a10.symm
 clear hs hl ho r1 h h' he
 cases e;cases e'
 simp only at *
 subst e1 e2 e3 e4 e5 e6 hx hz hD hid hB hm hh hq a10
 rfl
theorem s_tsact_ex {e:TsV} (h:TsI H e):∃K,s_tsact e.args H=some (.t [],K)∧TsP H K e:=by
 have:∃v H1,s_tsact e.args H=some (v,H1)∧H.length≤H1.length∧q_ts e.args H v H1:=by
  have hI:=h
  obtain ⟨hs,sh,ha,ar,as',hl,li,hf,hh,ho,rd,rel,h0,hho,n1,n2,n3⟩:=h
  obtain ⟨nx,Y,A,nd,nA,lA,nxs,nAm⟩:=needs_ex (e:=e) sh ar
  obtain ⟨H0,hH0⟩:∃H0,H0=H++Y:=⟨_,rfl⟩
  rw [←hH0] at nd nA
  have l0:H.length≤H0.length:=by rw [hH0,List.length_append];omega
  have old0:∀i,i < H.length→hg H0 i=hg H i:=fun i hi=>by rw [hH0,hg_lt' hi]
  have bx_:∀{i:Nat} {cs:List Sc},hg H i=.own cs→i < H.length:=fun h=>hg_lt (by rw [h];rfl)
  have s0:hg H0 e.bs=.own [e.x]:=by rw [old0 _ (bx_ hs),hs]
  have a0:hg H0 e.ba=.own e.ask:=by rw [old0 _ (bx_ ha),ha]
  have l0':hg H0 e.bl=.own [.p e.D.p 0 0]:=by rw [old0 _ (bx_ hl),hl]
  have f0:hg H0 e.bf=.own [.b true]:=by rw [old0 _ (bx_ hf),hf]
  have h00:hg H0 e.bh=.own [.i e.h]:=by rw [old0 _ (bx_ hh),hh]
  have o0:hg H0 e.bx=.own (rdC e.z.h e.z.t e.z.ram.n e.z.b e.id e.B.length e.z.R):=by rw [old0 _ (bx_ ho),ho]
  have sh0:ShIs H0 e.x e.z:=by rw [hH0];exact sh.app Y
  have li0:LI H0 e.D:=by rw [hH0];exact li.app Y
  have rd0:=rd.app Y
  rw [←hH0] at rd0
  have lf:e.bf < H0.length:=Nat.lt_of_lt_of_le (bx_ hf) l0
  have lx:e.bx < H0.length:=Nat.lt_of_lt_of_le (bx_ ho) l0
  have sf:H0.set e.bf (.own [.b true])=H0:=setF_self f0 lf
  have neq:∀{i j:Nat} {o p:AObj},hg H0 i=o→hg H0 j=p→o≠p→i≠j:=fun h1 h2 h3 h4=>h3 (by rw [←h1,h4,h2])
  have mm:∀(cs:List Sc),AObj.own cs≠mapO e.z.ram.M:=fun cs h=>AObj.noConfusion h
  have mv:∀(cs:List Sc),AObj.vec 1 cs≠mapO e.z.ram.M:=fun cs h=>AObj.noConfusion h
  have ov:∀(cs ds:List Sc),AObj.own cs≠AObj.vec 1 ds:=fun cs ds h=>AObj.noConfusion h
  have gm:=sh0.r.m
  have gz:=sh0.o
  have gv:=rd0.o
  obtain ⟨N,hN⟩:∃N,N=H0.length:=⟨_,rfl⟩
  obtain ⟨K1,hK1⟩:∃K1,K1=shSet H0 e.z (dM e.z e.h e.q) (dR e.z e.h e.q):=⟨_,rfl⟩
  have l1:K1.length=N:=by rw [hK1,shSet_len,hN]
  have k1:∀i,i≠e.z.id→i≠e.z.ram.mid→hg K1 i=hg H0 i:=fun i h1 h2=>by
   rw [hK1];unfold shSet
   rw [hg_set_ne' (fun c=>h1 c.symm),hg_set_ne' (fun c=>h2 c.symm)]
  have sh1:ShIs K1 e.x e.to.z:=by rw [hK1];exact sh0.set (dM_wf sh0.r.w) (dR_len sh0.l)
  have do14:s_sdo14 [.c e.x,.c (.i e.h),.g e.ask] H0=some (.t [.g (anC (dD e.z e.h e.q) (dG e.z e.h e.q)),.c (.b (dOk e.z e.h e.q))],K1):=by rw [hK1];exact s_sdo14_eq sh0 ar
  have idz:e.id≠e.z.id:=fun c=>ov _ _ ((by rw [←gz,←c,gv]):AObj.own _=AObj.vec 1 _)
  have idm:e.id≠e.z.ram.mid:=neq gv gm (mv _)
  have a1:hg K1 e.ba=.own e.ask:=by rw [k1 _ n1.2.1.symm (neq a0 gm (mm _)),a0]
  have h1':hg K1 e.bh=.own [.i e.h]:=by rw [k1 _ n1.2.2.2.2.1.symm (neq h00 gm (mm _)),h00]
  have f1:hg K1 e.bf=.own [.b true]:=by rw [k1 _ n1.2.2.2.1.symm (neq f0 gm (mm _)),f0]
  have o1:hg K1 e.bx=.own (rdC e.z.h e.z.t e.z.ram.n e.z.b e.id e.B.length e.z.R):=by rw [k1 _ n1.2.2.2.2.2.symm (neq o0 gm (mm _)),o0]
  have v1:hg K1 e.id=.vec 1 (e.B.flatMap e8F):=by rw [k1 _ idz idm,gv]
  have rd1:RdOk K1 e.id e.B.length e.B.length (refC e.z.R) e.B e.m e.z.R:=⟨v1,rd0.v,rd0.N,rd0.l,rd0.m,rd0.by',rd0.rf,rd0.R⟩
  obtain ⟨t1,t2,t3,t4⟩:=Rel.step rel e.h e.q
  have tR:wR e.w e.h e.q=dR e.z e.h e.q:=t4.R
  have tB:=t4.B
  have lid1:e.id < K1.length:=hg_lt (by rw [v1];rfl)
  obtain ⟨K2,hK2⟩:∃K2,K2=K1.set e.id (.vec 1 ((wB e.w e.h e.q).flatMap e8F)):=⟨_,rfl⟩
  have l2:K2.length=N:=by rw [hK2,List.length_set,l1]
  have k2:∀i,i≠e.id→hg K2 i=hg K1 i:=fun i hi=>by rw [hK2,hg_set_ne' (fun c=>hi c.symm)]
  have z8:e.z.h≤8:=rel.hh
  obtain ⟨Q,hQ⟩:∃Q,Q=anC (dD e.z e.h e.q) (dG e.z e.h e.q):=⟨_,rfl⟩
  obtain ⟨S0,hS0⟩:∃S0,S0=rdC e.z.h e.z.t e.z.ram.n e.z.b e.id e.B.length e.z.R:=⟨_,rfl⟩
  obtain ⟨S1,hS1⟩:∃S1,S1=rdC e.z.h e.z.t e.z.ram.n e.z.b e.id e.B.length (dR e.z e.h e.q):=⟨_,rfl⟩
  have d14:∀X,s_r14do [.g S0,.c (.i e.h),.g e.ask] (K1++X)=some (.t [.g S1,.g Q,.c (.b (dOk e.z e.h e.q))],K2++X):=fun X=>by
   have q:=s_r14do_eq (q1:=e.z.h) (q2:=e.z.t) (q3:=e.z.ram.n) (q4:=e.z.b) (h:=e.h) (k:=e.q.k) (a:=e.q.a) (b:=e.q.b) (c:=e.q.c) (s:=e.q.s) (op:=e.q.op) (d:=e.q.d) (o:=e.q.o) (lv:=e.q.lv) (r:=e.r) (rd1.app X) ar as' z8
   have ew:dmW e.z.h e.z.t e.z.ram.n e.z.b e.B e.z.R=e.w:=rfl
   have eq':(⟨e.q.k,e.q.a,e.q.b,e.q.c,e.q.s,e.q.op,e.q.d,e.q.o,e.q.lv⟩:Ak)=e.q:=rfl
   rw [ew,eq',t1,t2,t3,tR,List.set_append_left _ _ lid1,←hK2,←hQ,←hS1] at q
   rw [hS0]
   exact q
  rw [←hQ] at do14
  rw [←hS0] at o0 o1
  have bxi:e.bx≠e.id:=fun c=>ov _ _ ((by rw [←o1,c,v1]):AObj.own _=AObj.vec 1 _)
  have bfi:e.bf≠e.id:=fun c=>ov _ _ ((by rw [←f1,c,v1]):AObj.own _=AObj.vec 1 _)
  have o2:hg K2 e.bx=.own S0:=by rw [k2 _ bxi,o1]
  have f2:hg K2 e.bf=.own [.b true]:=by rw [k2 _ bfi,f1]
  obtain ⟨K3,hK3⟩:∃K3,K3=K2.set e.bx (.own S1):=⟨_,rfl⟩
  have l3:K3.length=N:=by rw [hK3,List.length_set,l2]
  have k3:∀i,i≠e.bx→hg K3 i=hg K2 i:=fun i hi=>by rw [hK3,hg_set_ne' (fun c=>hi c.symm)]
  have f3:hg K3 e.bf=.own [.b true]:=by rw [k3 _ n2.2.2.2.2,f2]
  have sf3:∀X,(K3++X).set e.bf (.own [.b true])=K3++X:=fun X=>by
   rw [List.set_append_left _ _ (by rw [l3,hN];exact lf),setF_self f3 (by rw [l3,hN];exact lf)]
  have sx:∀X,(K2++X).set e.bx (.own S1)=K3++X:=fun X=>by rw [List.set_append_left _ _ (by rw [l2,hN];exact lx),←hK3]
  have lS0:S0.length=21:=by rw [hS0];exact rdC_len sh0.l
  have lS1:S1.length=21:=by rw [hS1];exact rdC_len (dR_len sh0.l)
  have tS0:S0.take 21=S0:=List.take_of_length_le (by omega)
  have tS1:S1.take 21=S1:=List.take_of_length_le (by omega)
  have oS1:S1.all Sc.one=true:=by rw [hS1];exact rdC_one
  have oS0:S0.all Sc.one=true:=by rw [hS0];exact rdC_one
  have dS0:S0.drop 21=[]:=List.drop_of_length_le (by omega)
  have lQ:Q.length=42:=by rw [hQ];unfold anC;simp [zMl_len]
  have tQ:Q.take 42=Q:=List.take_of_length_le (by omega)
  have oQ:Q.all Sc.one=true:=by rw [hQ];unfold anC;simp [Sc.one,zMl_one]
  have ab:abin Tryz.prog .eql 66 (.g Q) (.g Q)=some (.c (.b true)):=by rw [hQ];exact ab_ansE _ _
  have lask:e.ask.length=19:=by unfold TsV.ask;simp [ar.1]
  have task:e.ask.take 19=e.ask:=List.take_of_length_le (by omega)
  have gA:∀i X,i < N→hg (K1++X) i=hg K1 i:=fun i X hi=>hg_lt' (by omega)
  have gB:∀i X,i < N→hg (K2++X) i=hg K2 i:=fun i X hi=>hg_lt' (by omega)
  have gC:∀i X,i < N→hg (K3++X) i=hg K3 i:=fun i X hi=>hg_lt' (by omega)
  have lba:e.ba < N:=by rw [hN];exact Nat.lt_of_lt_of_le (bx_ ha) l0
  have lbh:e.bh < N:=by rw [hN];exact Nat.lt_of_lt_of_le (bx_ hh) l0
  have a1X:=fun X=>(gA e.ba X lba).trans a1
  have h1X:=fun X=>(gA e.bh X lbh).trans h1'
  have o1X:=fun X=>(gA e.bx X (by omega)).trans o1
  have o2X:=fun X=>(gB e.bx X (by omega)).trans o2
  have f3X:=fun X=>(gC e.bf X (by omega)).trans f3
  have nA0:∀X,hg (K1++X) N=hg X 0:=fun X=>by rw [←l1,hg_len]
  have nAj:∀X j,hg (K1++X) (N+j)=hg X j:=fun X j=>by rw [←l1,hg_len_add]
  have sA0:∀X o,(K1++X).set N o=K1++X.set 0 o:=fun X o=>by rw [←l1,set_len]
  have nB0:∀X,hg (K2++X) N=hg X 0:=fun X=>by rw [←l2,hg_len]
  have nBj:∀X j,hg (K2++X) (N+j)=hg X j:=fun X j=>by rw [←l2,hg_len_add]
  have sB0:∀X o,(K2++X).set N o=K2++X.set 0 o:=fun X o=>by rw [←l2,set_len]
  have sBj:∀X j o,(K2++X).set (N+j) o=K2++X.set j o:=fun X j o=>by rw [←l2,set_len_add]
  have nC0:∀X,hg (K3++X) N=hg X 0:=fun X=>by rw [←l3,hg_len]
  have nCj:∀X j,hg (K3++X) (N+j)=hg X j:=fun X j=>by rw [←l3,hg_len_add]
  have xl:=slP_len nA
  have xs:=slP_isS nA
  unfold TsV.args
  unfold s_tsact
  apply frS_ex (v:=.t []) (H1:=K3++[.own Q,.own S1,.own Q]) Tryz.func11 rfl Tryz.results11 Tryz.ntmps11 (by simp only [List.length_cons,List.length_nil];decide)
  ·intro _ _
   (repeat (first | simp (maxSteps:=9^9) only [go_sem,seval,hs,ha,lask,task,nd] | simp (disch:=omega) only [w64_d,ipos,ineg,dpos,dneg]))
   refine arun_for A.length (fun i=>([(0,.c (.p e.bs 0 0)),(1,.c (.p e.ba 0 0)),(2,.c (.p e.bl 0 0)),(3,.c (.p e.bf 0 0)),(4,.c (.p e.bh 0 0)),(5,.c (.p e.bx 0 0)),(6,.c nx),(7,.c (.i i))],H0)) ?_ fun i hi=>?_
   ·exact wkF (by simp [Am.get])
   by_cases hlt:i < A.length
   rotate_left
   ·obtain rfl:i=A.length:=by omega
    have iI:¬((A.length:Int) < A.length):=by omega
    cases hok:dOk e.z e.h e.q
    all_goals rw [hok] at do14 d14
    all_goals (repeat (first | simp (maxSteps:=9^9) only [go_sem,seval,xl,xs,as_len_y,iI,s0,h00,a0,lask,task,do14,l1,l2,l3,nA0,nAj,sA0,nB0,nBj,sB0,sBj,nC0,nCj,a1X,h1X,o1X,o2X,f3X,d14,lS0,lS1,tS0,tS1,oS0,oS1,dS0,lQ,tQ,oQ,sx,sf3,ab] | simp (disch:=omega) only [w64_d,ipos,ineg,dpos,dneg]))
    all_goals exact fin_same
   obtain ⟨n,hn⟩:∃n,A[i]?=some n:=⟨_,List.getElem?_eq_getElem hlt⟩
   obtain ⟨m1,m2⟩:=nAm n (List.mem_of_getElem? hn)
   obtain ⟨w1,w2,w3⟩:=hho n m2 m1
   have hd:s_lholder [.c (.p e.D.p 0 0),.c (.i n)] H0=some (.t [.c (.i e.h),.c (.b true)]):=by
    rw [s_lholder_eq li0]
    unfold hoV
    rw [if_pos ⟨w1,w2,by rw [w3];exact h0⟩,w3]
   rcases slP_inv gI_d nA with ⟨rfl,rfl⟩ | ⟨j,v,rfl,hv,hlen,hcs⟩
   ·simp at hlt
   have b2:=slP_get hcs hn
   have b1:i+1≤(hg H0 j).cells.length:=by omega
   have hv':=hv.symm
   have iI:(i:Int) < A.length:=by omega
   have i0:(0:Int)≤(i:Int):=by omega
   have F1:w64 ((i:Int)+1)=((i+1:Nat):Int):=by rw [w64_d (by omega) (by omega)];omega
   (repeat (first | simp (maxSteps:=9^9) only [go_sem,seval,xl,xs,as_len_y,iI,i0,F1,l0',b1,b2,gI,hv',hd,f0,h00,sf,Int.toNat_natCast] | simp (disch:=omega) only [w64_d,ipos,ineg,dpos,dneg]))
   exact ⟨i+1,by omega,by omega,wkF (by simp [Am.get])⟩
  ·rw [List.length_append,l3,hN];omega
  ·intro e' he hI'
   obtain rfl:=TsI.same hI hI' he
   refine ⟨rfl,?_⟩
   have lidN:e.id < N:=by rw [←l1];exact lid1
   have lB:(wB e.w e.h e.q).length=e.B.length:=wB_len
   have ed:∀i,i < N→i≠e.z.id→i≠e.z.ram.mid→i≠e.id→i≠e.bx→hg (K3++[.own Q,.own S1,.own Q]) i=hg H0 i:=fun i hi h1 h2 h3 h4=>by
    rw [gC i _ hi,k3 i h4,k2 i h3,k1 i h1 h2]
   refine ⟨by rw [List.length_append,l3,hN];omega,?_,?_,?_,?_,?_,fun i hi h1 h2 h3 h4=>?_⟩
   ·refine ShIs.app ?_ _
    have g3:∀i,i≠e.bx→i≠e.id→hg K3 i=hg K1 i:=fun i h1 h2=>by rw [k3 i h1,k2 i h2]
    have zrid:hg K1 e.z.ram.id=hg H0 e.z.ram.id:=k1 _ (fun c=>sh0.ne1 c.symm) sh0.r.ne
    have rr:=sh1.r
    have e1:e.to.z.id≠e.bx:=n1.2.2.2.2.2
    have e2:e.to.z.id≠e.id:=fun c=>idz c.symm
    refine ⟨sh1.x,by rw [g3 _ e1 e2];exact sh1.o,?_,sh1.l,sh1.h1,sh1.t1⟩
    have e3:e.to.z.ram.mid≠e.bx:=fun c=>by
     have c1:=rr.m
     rw [c,o1] at c1
     exact AObj.noConfusion c1
    have e4:e.to.z.ram.mid≠e.id:=fun c=>idm c.symm
    have e5:e.to.z.ram.id≠e.bx:=fun c=>by
     have c1:=rr.o
     rw [c,o1,hS0] at c1
     simp [rdC] at c1
    have e6:e.to.z.ram.id≠e.id:=fun c=>by
     have c1:=rr.o
     rw [c,v1] at c1
     exact AObj.noConfusion c1
    rw [hK3,hK2]
    exact (rr.other e6.symm e4.symm).other e5.symm e3.symm
   ·rw [gC _ _ (by omega),hK3,hg_set_same (by rw [l2];omega),hS1]
    show _=AObj.own (rdC e.z.h e.z.t e.z.ram.n e.z.b e.id (wB e.w e.h e.q).length (dR e.z e.h e.q))
    rw [lB]
   ·refine ⟨?_,rfl,rfl,?_,rd0.m,?_,rfl,dR_len sh0.l⟩
    ·rw [gC _ _ lidN,k3 _ bxi.symm,hK2,hg_set_same lid1];rfl
    ·show (wB e.w e.h e.q).length=_
     rw [lB];exact rd0.l
    ·intro y hy
     have hy:y∈wB e.w e.h e.q:=hy
     have tB':wB e.w e.h e.q=byN (memB (dM e.z e.h e.q).2) (64 * e.z.ram.n):=tB
     rw [tB'] at hy
     exact byN_by y hy
   ·have t5:=t4
    rw [tR] at t5
    exact t5
   ·rw [gC _ _ (by omega),f3]
   ·rw [ed i (by omega) h1 h2 h3 h4,old0 i hi]
 obtain ⟨v,H1,h1,_,h2⟩:=this
 obtain ⟨rfl,h3⟩:=h2 e rfl h
 exact ⟨H1,h1,h3⟩
end
end
end Go.Proofs.YteclombpnhociaaGreat
set_option maxRecDepth 100000
set_option maxHeartbeats 8000000
namespace Go.Proofs.YteclombpnhociaaGreat
open Go.Am
set_option linter.unusedSimpArgs false
set_option linter.unusedVariables false
noncomputable section
section
variable {H:AH}
def s_act (fn:Nat) (caps:List (Nat × Nat × Nat)) (H:AH):Option (AV × AH) :=
 if fn=11 then s_tsact (caps.map capV) H else none
theorem act_len {fn:Nat} {caps:List (Nat × Nat × Nat)} {H H1:AH} {v:AV} (h:s_act fn caps H=some (v,H1)):H.length≤H1.length:=by
 unfold s_act at h
 split at h
 ·exact frS_len _ _ _ _ h
 ·simp at h
def ownC:AObj→Option (List Sc)
 | .own cs=>some cs
 | _=>none
theorem ownC_inv {o:AObj} {cs:List Sc} (h:ownC o=some cs):o=.own cs:=by
 unfold ownC at h
 split at h
 ·simp at h;rw [h]
 ·simp at h
def stTk (id off:Nat) (z:Sc) (w t:Int) (L:List Int) (H:AH):Option (AV × AH) :=
 match s_ltake [.c z,.c (.i w),.c (.i (L.getD t.toNat 0))] H with
 | some (.c (.b true),K) =>
   match jbA K id off,ownC (hg K id) with
   | some (_,t',_,_),some cs=>some (.c (.i 1),K.set id (.own (cs.set (off+1) (.i (w64 (t'+1))))))
   | _,_=>none
 | some (.c (.b false),K)=>some (.c (.i 0),K)
 | _=>none
def stDo (id off:Nat) (fn:Nat) (caps:List (Nat × Nat × Nat)) (H:AH):Option (AV × AH) :=
 match ownC (hg H id) with
 | some cs =>
   match s_act fn caps (H.set id (.own (cs.set (off+2) (.b true)))) with
   | some (_,K) =>
     match jbA K id off with
     | some (nx,_,_,_) =>
       match slP dcI K nx with
       | some L=>some (.c (.i (if L.length=0 then 4 else 2)),K)
       | none=>none
     | none=>none
   | none=>none
 | none=>none
def stGv (id off:Nat) (z:Sc) (w g:Int) (L:List Int) (H:AH):Option (AV × AH) :=
 match ownC (hg H id) with
 | some cs =>
   match s_ldrop [.c z,.c (.i w),.c (.i (L.getD ((L.length:Int) - (g+1)).toNat 0))] (H.set id (.own (cs.set (off+3) (.i (g+1))))) with
   | some (.c (.b _),K) =>
     match s_ldone [.c (.p id off 0)] K with
     | some (.c (.b q))=>some (.c (.i (if q=true then 4 else 3)),K)
     | _=>none
   | _=>none
 | none=>none
def s_lstep (args:List AV) (H:AH):Option (AV × AH) :=
 match args with
 | [.c .nilp,.c _,.c (.i _),.c (.f _ _)]=>some (.c (.i 4),H)
 | [.c (.p id off 0),.c z,.c (.i w),.c (.f fn caps)] =>
   match jbA H id off with
   | some (nx,t,d,g) =>
     match slP dcI H nx with
     | some L =>
       if ¬(sidI nx=some id)∧0≤t∧0≤g∧L.length≤1000000 then
        if dnJ L d g=true then some (.c (.i 4),H)
        else if t < L.length then stTk id off z w t L H
        else if d=false then stDo id off fn caps H
        else if g < L.length then stGv id off z w g L H
        else none
       else none
     | none=>none
   | none=>none
 | _=>none
theorem ltake_len {args:List AV} {H:AH} {v:AV} {H1:AH} (h:s_ltake args H=some (v,H1)):H.length≤H1.length:=frS_len _ _ _ _ h
theorem ldrop_len {args:List AV} {H:AH} {v:AV} {H1:AH} (h:s_ldrop args H=some (v,H1)):H.length≤H1.length:=frS_len _ _ _ _ h
theorem len_lstep (args:List AV) (H:AH) (v:AV) (H1:AH) (h:s_lstep args H=some (v,H1)):H.length≤H1.length:=by
 unfold s_lstep at h
 split at h
 ·simp only [Option.some.injEq,Prod.mk.injEq] at h;rw [←h.2];exact Nat.le_refl _
 ·split at h <;> try (simp at h;done)
  split at h <;> try (simp at h;done)
  split at h <;> try (simp at h;done)
  split at h
  ·simp only [Option.some.injEq,Prod.mk.injEq] at h;rw [←h.2];exact Nat.le_refl _
  split at h
  ·unfold stTk at h
   split at h <;> try (simp at h;done)
   ·rename_i h1
    split at h <;> try (simp at h;done)
    simp only [Option.some.injEq,Prod.mk.injEq] at h
    rw [←h.2,List.length_set]
    exact ltake_len h1
   ·rename_i h1
    simp only [Option.some.injEq,Prod.mk.injEq] at h
    rw [←h.2]
    exact ltake_len h1
  split at h
  ·unfold stDo at h
   split at h <;> try (simp at h;done)
   split at h <;> try (simp at h;done)
   rename_i h1
   split at h <;> try (simp at h;done)
   split at h <;> try (simp at h;done)
   simp only [Option.some.injEq,Prod.mk.injEq] at h
   rw [←h.2]
   have:=act_len h1
   rwa [List.length_set] at this
  split at h <;> try (simp at h;done)
  unfold stGv at h
  split at h <;> try (simp at h;done)
  split at h <;> try (simp at h;done)
  rename_i h1
  split at h <;> try (simp at h;done)
  simp only [Option.some.injEq,Prod.mk.injEq] at h
  rw [←h.2]
  have:=ldrop_len h1
  rwa [List.length_set] at this
 ·simp at h
theorem ok_lstep:FpOk Tryz.prog 10 s_lstep:=by
 refine fp_ok (s:=s_lstep) (tab:=[(15,.fq s_ldone),(29,.fp s_ltake),(30,.fp s_ldrop),(11,.fp s_tsact)]) hmix (TabOk.cons (e:=.fq s_ldone) ok_ldone (TabOk.cons (e:=.fp s_ltake) ok_ltake (TabOk.cons (e:=.fp s_ldrop) ok_ldrop (TabOk.cons (e:=.fp s_tsact) ok_tsact TabOk.nil)))) Tryz.func10 rfl Tryz.results10 Tryz.ntmps10 (by kernel_rfl) (by kernel_rfl) len_lstep ?_
 intro args H v H1 h hargs hH
 unfold s_lstep at h
 split at h
 ·simp only [Option.some.injEq,Prod.mk.injEq] at h
  obtain ⟨rfl,rfl⟩:=h
  refine ⟨by simp only [List.length_cons,List.length_nil];decide,?_⟩
  have dn:s_ldone [.c .nilp] H=some (.c (.b true)):=rfl
  (repeat (first | simp (maxSteps:=9^9) only [go_sem,seval,dn] | simp (disch:=omega) only [w64_d,ipos,ineg,dpos,dneg]))
  exact fin_same
 ·rename_i id off z w fn caps
  split at h <;> try (simp at h;done)
  rename_i nx t d g hj
  split at h <;> try (simp at h;done)
  rename_i L hL
  split at h <;> try (simp at h;done)
  rename_i hc
  obtain ⟨k1,k2,k3,k4⟩:=hc
  refine ⟨by simp only [List.length_cons,List.length_nil];decide,?_⟩
  obtain ⟨cs,ho,hle,g0,g1,g2,g3⟩:=jbA_inv hj
  have lid:id < H.length:=hg_lt (by rw [ho];rfl)
  have q0:off+1≤cs.length:=by omega
  have q1:off+1+1≤cs.length:=by omega
  have q2:off+2+1≤cs.length:=by omega
  have q3:off+3+1≤cs.length:=by omega
  have xl:=slP_len hL
  have xs:=slP_isS hL
  have dn:=s_ldone_eq hj hL
  split at h
  ·rename_i hd
   rw [hd] at dn
   simp only [Option.some.injEq,Prod.mk.injEq] at h
   obtain ⟨rfl,rfl⟩:=h
   (repeat (first | simp (maxSteps:=9^9) only [go_sem,seval,dn] | simp (disch:=omega) only [w64_d,ipos,ineg,dpos,dneg]))
   exact fin_same
  rename_i hd
  rw [show dnJ L d g=false by simpa using hd] at dn
  split at h
  ·rename_i ht
   have hget:∃a,L[t.toNat]?=some a:=⟨_,List.getElem?_eq_getElem (by omega)⟩
   obtain ⟨a,ha⟩:=hget
   have hgd:L.getD t.toNat 0=a:=by rw [List.getD_eq_getElem?_getD,ha];rfl
   rcases slP_inv gI_d hL with ⟨rfl,rfl⟩ | ⟨i,v,rfl,hv,hlen,hcs⟩
   ·simp at ht;omega
   have b2:=slP_get hcs ha
   have b1:t.toNat+1≤(hg H i).cells.length:=by omega
   have hv':=hv.symm
   unfold stTk at h
   rw [hgd] at h
   split at h <;> try (simp at h;done)
   ·rename_i K htk
    split at h <;> try (simp at h;done)
    rename_i e1 t' e2 e3 cs' hj2 hcs2
    simp only [Option.some.injEq,Prod.mk.injEq] at h
    obtain ⟨rfl,rfl⟩:=h
    obtain ⟨cs2,ho2,hle2,m0,m1,m2,m3⟩:=jbA_inv hj2
    have hcs2:=ownC_inv hcs2
    rw [ho2] at hcs2
    simp only [AObj.own.injEq] at hcs2
    subst hcs2
    have q1':off+1+1≤cs2.length:=by omega
    have r1:wr cs2 (off+1) [.i (w64 (t'+1))]=cs2.set (off+1) (.i (w64 (t'+1))):=wr_one (by omega)
    (repeat (first | simp (maxSteps:=9^9) only [go_sem,seval,dn,ho,g0,g1,g2,q0,q1,xl,xs,as_len_y,tm_y,ht,k2,b1,b2,gI,hv',htk,ho2,m1,q1',r1] | simp (disch:=omega) only [w64_d,ipos,ineg,dpos,dneg]))
    (repeat' first | apply And.intro | (intro _;kernel_rfl) | kernel_rfl)
    exact fin_same
   ·rename_i K htk
    simp only [Option.some.injEq,Prod.mk.injEq] at h
    obtain ⟨rfl,rfl⟩:=h
    (repeat (first | simp (maxSteps:=9^9) only [go_sem,seval,dn,ho,g0,g1,g2,q0,q1,xl,xs,as_len_y,tm_y,ht,k2,b1,b2,gI,hv',htk] | simp (disch:=omega) only [w64_d,ipos,ineg,dpos,dneg]))
    (repeat' first | apply And.intro | (intro _;kernel_rfl) | kernel_rfl)
    exact fin_same
  rename_i ht
  split at h
  ·rename_i hdf
   subst hdf
   unfold stDo at h
   rw [ho] at h
   simp only [ownC] at h
   split at h <;> try (simp at h;done)
   rename_i va K hac
   split at h <;> try (simp at h;done)
   rename_i nx' e1 e2 e3 hj2
   split at h <;> try (simp at h;done)
   rename_i L' hL'
   simp only [Option.some.injEq,Prod.mk.injEq] at h
   obtain ⟨rfl,rfl⟩:=h
   obtain ⟨cs2,ho2,hle2,m0,m1,m2,m3⟩:=jbA_inv hj2
   have xl':=slP_len hL'
   have xs':=slP_isS hL'
   have q0':off+1≤cs2.length:=by omega
   have r1:wr cs (off+2) [.b true]=cs.set (off+2) (.b true):=wr_one (by omega)
   unfold s_act at hac
   split at hac
   ·rename_i hfn
    subst hfn
    by_cases hz:L'.length=0
    ·rw [if_pos hz]
     (repeat (first | simp (maxSteps:=9^9) only [go_sem,seval,dn,ho,g0,g1,g2,q0,q1,q2,xl,xs,as_len_y,tm_y,ht,r1,hac,ho2,m0,q0',xl',xs',hz] | simp (disch:=omega) only [w64_d,ipos,ineg,dpos,dneg]))
     (repeat' first | apply And.intro | (intro _;kernel_rfl) | kernel_rfl)
     exact fin_same
    ·rw [if_neg hz]
     have hz':¬((L'.length:Int)=0):=by omega
     (repeat (first | simp (maxSteps:=9^9) only [go_sem,seval,dn,ho,g0,g1,g2,q0,q1,q2,xl,xs,as_len_y,tm_y,ht,r1,hac,ho2,m0,q0',xl',xs',hz'] | simp (disch:=omega) only [w64_d,ipos,ineg,dpos,dneg]))
     (repeat' first | apply And.intro | (intro _;kernel_rfl) | kernel_rfl)
     exact fin_same
   ·simp at hac
  rename_i hdf
  have hdt:d=true:=by simpa using hdf
  subst hdt
  split at h <;> try (simp at h;done)
  rename_i hg1
  unfold stGv at h
  rw [ho] at h
  simp only [ownC] at h
  split at h <;> try (simp at h;done)
  rename_i bq K hdr
  split at h <;> try (simp at h;done)
  rename_i q hdn
  simp only [Option.some.injEq,Prod.mk.injEq] at h
  obtain ⟨rfl,rfl⟩:=h
  obtain ⟨j,hjj⟩:∃j:Nat,(L.length:Int) - (g+1)=(j:Int):=⟨((L.length:Int) - (g+1)).toNat,by omega⟩
  rw [hjj,Int.toNat_natCast] at hdr
  have jl:j < L.length:=by omega
  obtain ⟨a,ha⟩:∃a,L[j]?=some a:=⟨_,List.getElem?_eq_getElem jl⟩
  rw [show L.getD j 0=a by rw [List.getD_eq_getElem?_getD,ha];rfl] at hdr
  rcases slP_inv gI_d hL with ⟨rfl,rfl⟩ | ⟨i,v,rfl,hv,hlen,hcs⟩
  ·simp at jl
  have ne:i≠id:=fun c=>k1 (by rw [c];rfl)
  have hi:∀o,hg (H.set id o) i=hg H i:=fun o=>hg_set_ne' (fun c=>ne c.symm)
  have hid:∀o,hg (H.set id o) id=o:=fun o=>hg_set_same lid
  have b2:=slP_get hcs ha
  have b1:j+1≤(hg H i).cells.length:=by omega
  have hv':=hv.symm
  have w1:w64 (g+1)=g+1:=w64_d (by omega) (by omega)
  have r1:wr cs (off+3) [.i (g+1)]=cs.set (off+3) (.i (g+1)):=wr_one (by omega)
  have s0:(cs.set (off+3) (.i (g+1))).getD off .any=.sl i 0 v L.length:=by
   rw [List.getD_eq_getElem?_getD,List.getElem?_set_ne (by omega),←List.getD_eq_getElem?_getD,g0]
  have s3:(cs.set (off+3) (.i (g+1))).getD (off+3) .any=.i (g+1):=by
   rw [List.getD_eq_getElem?_getD,List.getElem?_set_self (by omega)];rfl
  have sL:(cs.set (off+3) (.i (g+1))).length=cs.length:=List.length_set
  have w2:w64 ((L.length:Int) - (g+1))=(j:Int):=by rw [w64_d (by omega) (by omega),hjj]
  have j0:(j:Int) < L.length:=by omega
  cases q with
  | true =>
    (repeat (first | simp (maxSteps:=9^9) only [go_sem,seval,dn,ho,g0,g1,g2,g3,q0,q1,q2,q3,xl,xs,as_len_y,tm_y,ht,w1,r1,hi,hid,s0,s3,sL,w2,j0,b1,b2,gI,hv',hdr,hdn,Int.toNat_natCast] | simp (disch:=omega) only [w64_d,ipos,ineg,dpos,dneg]))
    (repeat' first | apply And.intro | (intro _;kernel_rfl) | kernel_rfl)
    exact fin_same
  | false =>
    (repeat (first | simp (maxSteps:=9^9) only [go_sem,seval,dn,ho,g0,g1,g2,g3,q0,q1,q2,q3,xl,xs,as_len_y,tm_y,ht,w1,r1,hi,hid,s0,s3,sL,w2,j0,b1,b2,gI,hv',hdr,hdn,Int.toNat_natCast] | simp (disch:=omega) only [w64_d,ipos,ineg,dpos,dneg]))
    (repeat' first | apply And.intro | (intro _;kernel_rfl) | kernel_rfl)
    exact fin_same
 ·simp at h
end
end
end Go.Proofs.YteclombpnhociaaGreat
set_option maxRecDepth 100000
set_option maxHeartbeats 8000000
namespace Go.Proofs.YteclombpnhociaaGreat
open Go.Am
set_option linter.unusedSimpArgs false
set_option linter.unusedVariables false
noncomputable section
def stV (S:LS) (w:Int) (L:List Int) (s:Nat):Int :=
 if 2 * L.length < s then 4 else if s < L.length then (if tkB S w (L.getD s 0)=true then 1 else 0) else if s=L.length then (if L.length=0 then 4 else 2) else (if 2 * L.length < s+1 then 4 else 3)
def stNl (S:LS) (w:Int) (L:List Int) (s:Nat):Nat:=if 2 * L.length < s then s else if s < L.length then (if tkB S w (L.getD s 0)=true then s+1 else s) else s+1
def stSl (S:LS) (w:Int) (L:List Int) (s:Nat):LS:=if 2 * L.length < s then S else if s < L.length then tkS S w (L.getD s 0) else if s=L.length then S else drS S w (L.getD (2 * L.length - s) 0)
section
variable {H:AH} {D:Ld}
def jbC (nx:Sc) (n s:Nat) (B:List Sc):List Sc:=nx::.i ((min s n:Nat):Int)::.b (decide (n < s))::.i ((s - (n+1):Nat):Int)::B
theorem jb_at {id:Nat} {A B:List Sc} {nx:Sc} {n s:Nat} (ho:hg H id=.own (A++jbC nx n s B)):jbA H id A.length=some (nx,((min s n:Nat):Int),decide (n < s),((s - (n+1):Nat):Int)):=jbA_own ho rfl
theorem set_a {A B:List Sc} {a b c d x:Sc}:(A++(a::b::c::d::B)).set (A.length+1) x=A++(a::x::c::d::B)∧(A++(a::b::c::d::B)).set (A.length+2) x=A++(a::b::x::d::B)∧(A++(a::b::c::d::B)).set (A.length+3) x=A++(a::b::c::x::B):=by
 refine ⟨?_,?_,?_⟩ <;> rw [List.set_append_right _ _ (by omega),Nat.add_sub_cancel_left] <;> rfl
structure JSt (H H1:AH) (D E:Ld) (id:Nat) (S:LS) (cs:List Sc):Prop where
 li:LI H1 E
 s:E.S=S
 p:E.p=D.p
 n:E.n=D.n
 len:H.length≤H1.length
 old:∀i,i < H.length→i∉D.ids→i≠id→hg H1 i=hg H i
 ids:∀i∈E.ids,i∈D.ids∨H.length≤i
 o:hg H1 id=.own cs
theorem JSt.of {K:AH} {E:Ld} {id:Nat} {S:LS} {cs cs2:List Sc} (hk:LKp H K D E) (hE:LI K E) (hS:E.S=S) (lid:id < H.length) (hid:id∉D.ids):JSt H (K.set id (.own cs2)) D E id S cs2:=by
 have nid:id∉E.ids:=fun c=>by
  rcases hk.ids id c with g | g
  ·exact hid g
  ·omega
 have lK:=hk.len
 exact ⟨hE.frame fun i hi=>hg_set_ne' (fun c=>nid (c ▸ hi)),hS,hk.p,hk.n,by simpa using hk.len,fun i hi hn hne=>by rw [hg_set_ne' (fun c=>hne c.symm),hk.old i hi hn],hk.ids,hg_set_same (by omega)⟩
theorem s_lstep_ex (h:LI H D) {id:Nat} {A B:List Sc} {nx:Sc} {L:List Int} {s:Nat} {w:Int} (hj:hg H id=.own (A++jbC nx L.length s B)) (hL:slP dcI H nx=some L) (hs:s≤2 * L.length+1) (hn:s≠L.length) (hid:id∉D.ids)
 (hnx:∀i,sidI nx=some i→i∉D.ids∧i≠id) (hlen:L.length≤1000) (fn:Nat) (caps:List (Nat × Nat × Nat)) :
 ∃H1 E,s_lstep [.c (.p id A.length 0),.c (.p D.p 0 0),.c (.i w),.c (.f fn caps)] H=some (.c (.i (stV D.S w L s)),H1)∧JSt H H1 D E id (stSl D.S w L s) (A++jbC nx L.length (stNl D.S w L s) B):=by
 have hjb:=jb_at hj
 have lid:id < H.length:=hg_lt (by rw [hj];rfl)
 have k1:¬(sidI nx=some id):=fun c=>(hnx id c).2 rfl
 have hb:¬(sidI nx=some id)∧(0:Int)≤((min s L.length:Nat):Int)∧(0:Int)≤((s - (L.length+1):Nat):Int)∧L.length≤1000000:=⟨k1,by omega,by omega,by omega⟩
 unfold s_lstep
 simp only [hjb,hL]
 rw [if_pos hb]
 by_cases c1:2 * L.length < s
 ·have hd:dnJ L (decide (L.length < s)) ((s - (L.length+1):Nat):Int)=true:=by
   unfold dnJ
   rw [decide_eq_true (show L.length < s by omega),Bool.true_and]
   exact decide_eq_true (by omega)
  rw [if_pos hd]
  unfold stV stSl stNl
  rw [if_pos c1,if_pos c1,if_pos c1]
  exact ⟨H,D,rfl,h,rfl,rfl,rfl,Nat.le_refl _,fun _ _ _ _=>rfl,fun _ hi=>.inl hi,hj⟩
 have hd:¬(dnJ L (decide (L.length < s)) ((s - (L.length+1):Nat):Int)=true):=by
  unfold dnJ
  simp only [Bool.and_eq_true,decide_eq_true_eq,not_and]
  omega
 rw [if_neg hd]
 by_cases c2:s < L.length
 ·rw [if_pos (show ((min s L.length:Nat):Int) < L.length by omega)]
  have em:min s L.length=s:=by omega
  unfold stTk
  obtain ⟨K,t1,t2,E,e1,e2,e3⟩:=s_ltake_ex h w (L.getD s 0)
  rw [em,Int.toNat_natCast,t1]
  have nid:id∉E.ids:=fun c=>by
   rcases e2.ids id c with g | g
   ·exact hid g
   ·omega
  have hjK:hg K id=.own (A++jbC nx L.length s B):=by rw [e2.old id lid hid,hj]
  unfold stV stSl stNl
  rw [if_neg c1,if_pos c2,if_neg c1,if_pos c2,if_neg c1,if_pos c2]
  cases hb:tkB D.S w (L.getD s 0) with
  | true =>
    simp only [jb_at hjK,hjK,ownC]
    have ec:(A++jbC nx L.length s B).set (A.length+1) (.i (w64 (((min s L.length:Nat):Int)+1)))=A++jbC nx L.length (s+1) B:=by
     unfold jbC
     rw [set_a.1,w64_d (by omega) (by omega)]
     have a1:((min s L.length:Nat):Int)+1=((min (s+1) L.length:Nat):Int):=by omega
     have a2:decide (L.length < s)=decide (L.length < s+1):=by rw [decide_eq_false (show ¬L.length < s by omega),decide_eq_false (show ¬L.length < s+1 by omega)]
     have a3:s - (L.length+1)=s+1 - (L.length+1):=by omega
     rw [a1,a2,a3]
    rw [ec]
    exact ⟨_,E,rfl,JSt.of (cs:=[]) e2 e1 e3 lid hid⟩
  | false =>
    exact ⟨K,E,rfl,e1,e3,e2.p,e2.n,e2.len,fun i hi hn _=>e2.old i hi hn,e2.ids,hjK⟩
 ·rw [if_neg (show ¬((min s L.length:Nat):Int) < L.length by omega)]
  have c3:L.length < s:=by omega
  rw [decide_eq_true c3]
  rw [if_neg (by decide),if_pos (show ((s - (L.length+1):Nat):Int) < L.length by omega)]
  unfold stGv
  rw [hj]
  simp only [ownC]
  have ec:(A++jbC nx L.length s B).set (A.length+3) (.i (((s - (L.length+1):Nat):Int)+1))=A++jbC nx L.length (s+1) B:=by
   unfold jbC
   rw [set_a.2.2]
   have a1:min s L.length=min (s+1) L.length:=by omega
   have a2:decide (L.length < s)=decide (L.length < s+1):=by rw [decide_eq_true c3,decide_eq_true (show L.length < s+1 by omega)]
   have a3:((s - (L.length+1):Nat):Int)+1=((s+1 - (L.length+1):Nat):Int):=by omega
   rw [a1,a2,a3]
  rw [ec]
  have ej:((L.length:Int) - (((s - (L.length+1):Nat):Int)+1)).toNat=2 * L.length - s:=by omega
  rw [ej]
  have h':LI (H.set id (.own (A++jbC nx L.length (s+1) B))) D:=h.frame fun i hi=>hg_set_ne' (fun c=>hid (c ▸ hi))
  obtain ⟨K,t1,t2,E,e1,e2,e3⟩:=s_ldrop_ex h' w (L.getD (2 * L.length - s) 0)
  rw [t1]
  have l2:=e2.len
  rw [List.length_set] at l2
  have hjK:hg K id=.own (A++jbC nx L.length (s+1) B):=by rw [e2.old id (by simpa using lid) hid,hg_set_same lid]
  have hLK:slP dcI K nx=some L:=slP_frame hL fun i hi=>by
   obtain ⟨m1,m2⟩:=hnx i hi
   have li:i < H.length:=by
    rcases slP_inv gI_d hL with ⟨rfl,_⟩ | ⟨j,v,rfl,hv,hl,hc⟩
    ·simp [sidI] at hi
    ·simp only [sidI,Option.some.injEq] at hi
     subst hi
     have:0 < L.length:=by omega
     rcases Nat.lt_or_ge j H.length with h3 | h3
     ·exact h3
     ·have e0:(hg H j).cells.length=0:=by rw [hg_ge H h3];rfl
      omega
   rw [e2.old i (by simpa using li) m1,hg_set_ne' (fun c=>m2 c.symm)]
  have dn:=s_ldone_eq (jb_at hjK) hLK
  simp only [dn]
  have dq:(if dnJ L (decide (L.length < s+1)) ((s+1 - (L.length+1):Nat):Int)=true then (4:Int) else 3)=stV D.S w L s:=by
   unfold stV
   rw [if_neg c1,if_neg c2,if_neg hn]
   unfold dnJ
   rw [decide_eq_true (show L.length < s+1 by omega),Bool.true_and]
   by_cases c4:2 * L.length < s+1
   ·rw [if_pos (decide_eq_true (by omega)),if_pos c4]
   ·rw [if_neg (by simp;omega),if_neg c4]
  rw [dq]
  unfold stSl stNl
  rw [if_neg c1,if_neg c2,if_neg hn,if_neg c1,if_neg c2]
  refine ⟨K,E,rfl,e1,e3,e2.p,e2.n,l2,fun i hi hnn hne=>?_,fun i hi=>?_,hjK⟩
  ·rw [e2.old i (by simpa using hi) hnn,hg_set_ne' (fun c=>hne c.symm)]
  ·rcases e2.ids i hi with g | g
   ·exact .inl g
   ·exact .inr (by simpa using g)
theorem s_lstep_do {id:Nat} {A B:List Sc} {nx:Sc} {L:List Int} {w:Int} {z:Sc} (hj:hg H id=.own (A++jbC nx L.length L.length B)) (hL:slP dcI H nx=some L) (hnx:¬(sidI nx=some id)) (hlen:L.length≤1000) {fn:Nat} {caps:List (Nat × Nat × Nat)} {v:AV} {K:AH}
 (ha:s_act fn caps (H.set id (.own (A++jbC nx L.length (L.length+1) B)))=some (v,K)) (hK:hg K id=.own (A++jbC nx L.length (L.length+1) B)) (hLK:slP dcI K nx=some L) :
 s_lstep [.c (.p id A.length 0),.c z,.c (.i w),.c (.f fn caps)] H=some (.c (.i (if L.length=0 then 4 else 2)),K):=by
 have hjb:=jb_at hj
 have hb:¬(sidI nx=some id)∧(0:Int)≤((min L.length L.length:Nat):Int)∧(0:Int)≤((L.length - (L.length+1):Nat):Int)∧L.length≤1000000:=⟨hnx,by omega,by omega,by omega⟩
 unfold s_lstep
 simp only [hjb,hL]
 rw [if_pos hb,if_neg (by unfold dnJ;simp),if_neg (show ¬((min L.length L.length:Nat):Int) < L.length by omega),if_pos (by simp)]
 unfold stDo
 rw [hj]
 simp only [ownC]
 have ec:(A++jbC nx L.length L.length B).set (A.length+2) (.b true)=A++jbC nx L.length (L.length+1) B:=by
  unfold jbC
  rw [set_a.2.1]
  have a1:min L.length L.length=min (L.length+1) L.length:=by omega
  have a2:(true:Bool)=decide (L.length < L.length+1):=by rw [decide_eq_true (by omega)]
  have a3:L.length - (L.length+1)=L.length+1 - (L.length+1):=by omega
  rw [a1,a3,←a2]
 rw [ec,ha]
 simp only [jb_at hK,hLK]
end
end
end Go.Proofs.YteclombpnhociaaGreat
set_option maxRecDepth 100000
set_option maxHeartbeats 8000000
namespace Go.Proofs.YteclombpnhociaaGreat
open Go.Am
set_option linter.unusedSimpArgs false
set_option linter.unusedVariables false
noncomputable section
structure Jb where
 nx:Sc
 L:List Int
 s:Nat
def capJ (n s:Nat):Nat:=if s≤n then s else 2 * n+1 - s
def mayJ (n s:Nat):Nat:=if s < n then s+1 else capJ n s
structure JbOk (N:Nat) (j:Jb):Prop where
 up:j.L.Pairwise (fun x y=>x < y)
 rng:∀a∈j.L,0≤a∧a < N
 s:j.s≤2 * j.L.length+1
structure Inv (N:Nat) (S:LS) (J:List Jb):Prop where
 len:S.length=N
 jl:J.length≤8
 ok:∀j∈J,JbOk N j
 fr:∀a:Nat,a < N→(atS S a).1 < 0→(atS S a).2=[]
 h8:∀a:Nat,a < N→(atS S a).1 < 8
 nd:∀a:Nat,a < N→(atS S a).2.Nodup
 q:∀a:Nat,a < N→∀w∈(atS S a).2,∃k:Nat,w=k∧∃j,J[k]?=some j∧j.L[j.s]?=some (a:Int)∧(atS S a).1≠w
 d:∀a:Nat,a < N→∀(k:Nat) (j:Jb),J[k]?=some j→(atS S a).1=k→(a:Int)∈j.L.take (mayJ j.L.length j.s)
 e:∀(k:Nat) (j:Jb),J[k]?=some j→∀a:Nat,a < N→(a:Int)∈j.L.take (capJ j.L.length j.s)→(atS S a).1=k
section
variable {N:Nat} {S:LS} {J:List Jb}
theorem at_set {S:LS} {a b:Nat} {v:Int × List Int} (hb:b < S.length):atS (S.set b v) a=if b=a then v else atS S a:=by
 unfold atS
 rw [Int.toNat_natCast,List.getD_eq_getElem?_getD,List.getElem?_set,List.getD_eq_getElem?_getD]
 split
 ·simp [hb]
 ·rfl
theorem getJ_lt {k:Nat} {j:Jb} (h:J[k]?=some j):k < J.length:=by
 rcases Nat.lt_or_ge k J.length with c | c
 ·exact c
 ·rw [List.getElem?_eq_none c] at h;simp at h
theorem getJ_set {k i:Nat} {j:Jb} (hk:k < J.length):(J.set k j)[i]?=if k=i then some j else J[i]?:=by
 rw [List.getElem?_set]
 split
 ·simp [hk]
 ·rfl
theorem mem_take {α:Type} {l:List α} {n:Nat} {x:α}:x∈l.take n ↔ ∃i,i < n∧l[i]?=some x:=by
 rw [List.mem_iff_getElem?]
 constructor
 ·rintro ⟨i,hi⟩
  rw [List.getElem?_take] at hi
  split at hi
  ·exact ⟨i,by omega,hi⟩
  ·simp at hi
 ·rintro ⟨i,h1,h2⟩
  exact ⟨i,by rw [List.getElem?_take,if_pos h1];exact h2⟩
theorem up_inj {L:List Int} (h:L.Pairwise (fun x y=>x < y)) {i k:Nat} {x:Int} (hi:L[i]?=some x) (hk:L[k]?=some x):i=k:=by
 rw [List.pairwise_iff_getElem] at h
 obtain ⟨a,ha⟩:=List.getElem?_eq_some_iff.1 hi
 obtain ⟨b,hb⟩:=List.getElem?_eq_some_iff.1 hk
 rcases Nat.lt_trichotomy i k with c | c | c
 ·have:=h i k a b c;omega
 ·exact c
 ·have:=h k i b a c;omega
theorem Inv.upd (h:Inv N S J) {k:Nat} {j:Jb} (hj:J[k]?=some j) {t:Nat} (ht:t≤2 * j.L.length+1) {b:Nat} (hb:b < N) {v:Int × List Int}
 (v1:v.1 < 0→v.2=[]) (v2:v.1 < 8) (v3:v.2.Nodup)
 (vq:∀w∈v.2,∃i:Nat,w=i∧∃x,(J.set k {j with s:=t})[i]?=some x∧x.L[x.s]?=some (b:Int)∧v.1≠w)
 (oq:∀a:Nat,a < N→a≠b→(k:Int)∈(atS S a).2→j.L[t]?=some (a:Int))
 (vd:∀(i:Nat) (x:Jb),(J.set k {j with s:=t})[i]?=some x→v.1=i→(b:Int)∈x.L.take (mayJ x.L.length x.s))
 (od:∀a:Nat,a < N→a≠b→(atS S a).1=k→(a:Int)∈j.L.take (mayJ j.L.length t))
 (ve:∀(i:Nat) (x:Jb),(J.set k {j with s:=t})[i]?=some x→(b:Int)∈x.L.take (capJ x.L.length x.s)→v.1=i)
 (oe:∀a:Nat,a < N→a≠b→(a:Int)∈j.L.take (capJ j.L.length t)→(atS S a).1=k):Inv N (S.set b v) (J.set k {j with s:=t}):=by
 have hk:=getJ_lt hj
 have at':∀a:Nat,atS (S.set b v) a=if b=a then v else atS S a:=fun a=>at_set (by rw [h.len];exact hb)
 have js:∀i:Nat,(J.set k {j with s:=t})[i]?=if k=i then some {j with s:=t} else J[i]?:=fun i=>getJ_set hk
 refine ⟨by rw [List.length_set,h.len],by rw [List.length_set];exact h.jl,fun x hx=>?_,fun a ha=>?_,fun a ha=>?_,fun a ha=>?_,fun a ha w hw=>?_,fun a ha i x hx hi=>?_,fun i x hx a ha hm=>?_⟩
 ·rcases List.mem_or_eq_of_mem_set hx with g | rfl
  ·exact h.ok x g
  ·have:=h.ok j (List.mem_of_getElem? hj)
   exact ⟨this.up,this.rng,ht⟩
 ·rw [at'];split
  ·exact v1
  ·exact h.fr a ha
 ·rw [at'];split
  ·exact v2
  ·exact h.h8 a ha
 ·rw [at'];split
  ·exact v3
  ·exact h.nd a ha
 ·rw [at'] at hw ⊢
  by_cases c:b=a
  ·subst c
   rw [if_pos rfl] at hw ⊢
   exact vq w hw
  ·rw [if_neg c] at hw ⊢
   obtain ⟨i,rfl,x,hx,hl,hne⟩:=h.q a ha w hw
   refine ⟨i,rfl,?_⟩
   rw [js]
   by_cases ck:k=i
   ·subst ck
    rw [if_pos rfl]
    exact ⟨_,rfl,oq a ha (fun e=>c e.symm) hw,hne⟩
   ·rw [if_neg ck]
    exact ⟨x,hx,hl,hne⟩
 ·rw [at'] at hi
  by_cases c:b=a
  ·subst c
   rw [if_pos rfl] at hi
   exact vd i x hx hi
  ·rw [if_neg c] at hi
   rw [js] at hx
   by_cases ck:k=i
   ·subst ck
    rw [if_pos rfl] at hx
    simp only [Option.some.injEq] at hx
    subst hx
    exact od a ha (fun e=>c e.symm) hi
   ·rw [if_neg ck] at hx
    exact h.d a ha i x hx hi
 ·rw [at']
  by_cases c:b=a
  ·subst c
   rw [if_pos rfl]
   exact ve i x hx hm
  ·rw [if_neg c]
   rw [js] at hx
   by_cases ck:k=i
   ·subst ck
    rw [if_pos rfl] at hx
    simp only [Option.some.injEq] at hx
    subst hx
    exact oe a ha (fun e=>c e.symm) hm
   ·rw [if_neg ck] at hx
    exact h.e i x hx a ha hm
theorem Inv.upd0 (h:Inv N S J) {k:Nat} {j:Jb} (hj:J[k]?=some j) {t:Nat} (ht:t≤2 * j.L.length+1)
 (oq:∀a:Nat,a < N→(k:Int)∈(atS S a).2→j.L[t]?=some (a:Int))
 (od:∀a:Nat,a < N→(atS S a).1=k→(a:Int)∈j.L.take (mayJ j.L.length t))
 (oe:∀a:Nat,a < N→(a:Int)∈j.L.take (capJ j.L.length t)→(atS S a).1=k):Inv N S (J.set k {j with s:=t}):=by
 have hk:=getJ_lt hj
 have js:∀i:Nat,(J.set k {j with s:=t})[i]?=if k=i then some {j with s:=t} else J[i]?:=fun i=>getJ_set hk
 refine ⟨h.len,by rw [List.length_set];exact h.jl,fun x hx=>?_,h.fr,h.h8,h.nd,fun a ha w hw=>?_,fun a ha i x hx hi=>?_,fun i x hx a ha hm=>?_⟩
 ·rcases List.mem_or_eq_of_mem_set hx with g | rfl
  ·exact h.ok x g
  ·have:=h.ok j (List.mem_of_getElem? hj)
   exact ⟨this.up,this.rng,ht⟩
 ·obtain ⟨i,rfl,x,hx,hl,hne⟩:=h.q a ha w hw
  refine ⟨i,rfl,?_⟩
  rw [js]
  by_cases ck:k=i
  ·subst ck
   rw [if_pos rfl]
   exact ⟨_,rfl,oq a ha hw,hne⟩
  ·rw [if_neg ck]
   exact ⟨x,hx,hl,hne⟩
 ·rw [js] at hx
  by_cases ck:k=i
  ·subst ck
   rw [if_pos rfl] at hx
   simp only [Option.some.injEq] at hx
   subst hx
   exact od a ha hi
  ·rw [if_neg ck] at hx
   exact h.d a ha i x hx hi
 ·rw [js] at hx
  by_cases ck:k=i
  ·subst ck
   rw [if_pos rfl] at hx
   simp only [Option.some.injEq] at hx
   subst hx
   exact oe a ha hm
  ·rw [if_neg ck] at hx
   exact h.e i x hx a ha hm
theorem set_sameJ {k:Nat} {j:Jb} (hj:J[k]?=some j):J.set k {j with s:=j.s}=J:=by
 apply List.ext_getElem?
 intro i
 rw [getJ_set (getJ_lt hj)]
 split
 ·rename_i e;subst e;exact hj.symm
 ·rfl
theorem Inv.step (h:Inv N S J) {k:Nat} {j:Jb} (hj:J[k]?=some j):Inv N (stSl S k j.L j.s) (J.set k {j with s:=stNl S k j.L j.s}):=by
 have hk:=getJ_lt hj
 have k8:k < 8:=by have:=h.jl;omega
 have ok:=h.ok j (List.mem_of_getElem? hj)
 have jq:∀a:Nat,a < N→(k:Int)∈(atS S a).2→j.L[j.s]?=some (a:Int)∧(atS S a).1≠k:=fun a ha hm=>by
  obtain ⟨i,e1,x,hx,hl,hne⟩:=h.q a ha _ hm
  obtain rfl:k=i:=by omega
  rw [hj,Option.some.injEq] at hx
  subst hx
  exact ⟨hl,hne⟩
 unfold stSl stNl
 by_cases c1:2 * j.L.length < j.s
 ·rw [if_pos c1,if_pos c1,set_sameJ hj];exact h
 rw [if_neg c1,if_neg c1]
 by_cases c2:j.s < j.L.length
 ·rw [if_pos c2,if_pos c2]
  obtain ⟨a,ha⟩:∃a,j.L[j.s]?=some a:=⟨_,List.getElem?_eq_getElem c2⟩
  have gd:j.L.getD j.s 0=a:=by rw [List.getD_eq_getElem?_getD,ha];rfl
  rw [gd]
  obtain ⟨a0,a10⟩:=ok.rng a (List.mem_of_getElem? ha)
  obtain ⟨b,rfl⟩:∃b:Nat,a=b:=⟨a.toNat,by omega⟩
  have hb:b < N:=by omega
  have rg:rgtS S k b=true:=by
   unfold rgtS
   rw [h.len]
   simp only [Bool.and_eq_true,decide_eq_true_eq]
   omega
  have mayt:mayJ j.L.length j.s=j.s+1:=by unfold mayJ;rw [if_pos c2]
  have capt:capJ j.L.length j.s=j.s:=by unfold capJ;rw [if_pos (by omega)]
  have may1:j.s+1≤mayJ j.L.length (j.s+1):=by unfold mayJ capJ;split;omega;rw [if_pos (by omega)];exact Nat.le_refl _
  have cap1:capJ j.L.length (j.s+1)=j.s+1:=by unfold capJ;rw [if_pos (by omega)]
  have tk:∀{m:Nat} {x:Int},j.s+1≤m→x∈j.L.take (j.s+1)→x∈j.L.take m:=fun hm hx=>by
   obtain ⟨i,h1,h2⟩:=mem_take.1 hx
   exact mem_take.2 ⟨i,by omega,h2⟩
  have sp:∀{x:Int},x∈j.L.take (j.s+1)→x≠b→x∈j.L.take j.s:=fun hx hne=>by
   obtain ⟨i,h1,h2⟩:=mem_take.1 hx
   refine mem_take.2 ⟨i,?_,h2⟩
   rcases Nat.lt_succ_iff_lt_or_eq.1 h1 with c | rfl
   ·exact c
   ·rw [ha,Option.some.injEq] at h2;exact absurd h2.symm hne
  have btk:(b:Int)∈j.L.take (j.s+1):=mem_take.2 ⟨j.s,by omega,ha⟩
  by_cases e1:(atS S b).1=k
  ·have tb:tkB S k b=true:=by unfold tkB;rw [rg];simp [e1]
   have ts:tkS S k b=S:=by unfold tkS;rw [rg,if_pos rfl,if_pos e1]
   rw [tb,ts,if_pos rfl]
   refine h.upd0 hj (by omega) (fun a ha' hm=>?_) (fun a ha' hh=>?_) (fun a ha' hm=>?_)
   ·obtain ⟨q1,q2⟩:=jq a ha' hm
    rw [ha,Option.some.injEq] at q1
    have:a=b:=by omega
    subst this
    exact absurd e1 q2
   ·have:=h.d a ha' k j hj hh
    rw [mayt] at this
    exact tk may1 this
   ·rw [cap1] at hm
    by_cases c:a=b
    ·rw [c];exact e1
    ·exact h.e k j hj a ha' (by rw [capt];exact sp hm (by omega))
  ·by_cases e2:(atS S b).1 < 0
   ·have tb:tkB S k b=true:=by unfold tkB;rw [rg];simp [e2]
    have ts:tkS S k b=S.set b (k,[]):=by unfold tkS;rw [rg,if_pos rfl,if_neg e1,if_pos e2];rfl
    rw [tb,ts,if_pos rfl]
    have js:∀i:Nat,(J.set k {j with s:=j.s+1})[i]?=if k=i then some {j with s:=j.s+1} else J[i]?:=fun i=>getJ_set hk
    refine h.upd hj (by omega) hb (fun c=>by simp only at c;omega) (by simp only;omega) (by simp) (fun w hw=>by simp at hw) (fun a ha' hne hm=>?_) (fun i x hx hi=>?_) (fun a ha' hne hh=>?_) (fun i x hx hm=>?_) (fun a ha' hne hm=>?_)
    ·obtain ⟨q1,q2⟩:=jq a ha' hm
     rw [ha,Option.some.injEq] at q1
     exact absurd (show a=b by omega) hne
    ·simp only at hi
     obtain rfl:k=i:=by omega
     rw [js,if_pos rfl,Option.some.injEq] at hx
     subst hx
     exact tk may1 btk
    ·have:=h.d a ha' k j hj hh
     rw [mayt] at this
     exact tk may1 this
    ·simp only
     by_cases c:k=i
     ·omega
     ·rw [js,if_neg c] at hx
      have:=h.e i x hx b hb hm
      omega
    ·rw [cap1] at hm
     exact h.e k j hj a ha' (by rw [capt];exact sp hm (by omega))
   ·have tb:tkB S k b=false:=by unfold tkB;rw [rg];simp [e1];omega
    rw [tb,if_neg (by decide)]
    by_cases e3:(k:Int)∈(atS S b).2
    ·have ts:tkS S k b=S:=by unfold tkS;rw [rg,if_pos rfl,if_neg e1,if_neg e2,if_pos e3]
     rw [ts,set_sameJ hj];exact h
    ·have ts:tkS S k b=S.set b ((atS S b).1,(atS S b).2++[(k:Int)]):=by unfold tkS;rw [rg,if_pos rfl,if_neg e1,if_neg e2,if_neg e3];rfl
     rw [ts]
     have js:∀i:Nat,(J.set k {j with s:=j.s})[i]?=J[i]?:=fun i=>by rw [set_sameJ hj]
     refine h.upd hj ok.s hb (fun c=>absurd c e2) (h.h8 b hb) ?_ (fun w hw=>?_) (fun a ha' hne hm=>(jq a ha' hm).1) (fun i x hx hi=>?_) (fun a ha' hne hh=>h.d a ha' k j hj hh) (fun i x hx hm=>?_) (fun a ha' hne hm=>h.e k j hj a ha' hm)
     ·rw [List.nodup_append]
      exact ⟨h.nd b hb,by simp,fun x hx y hy hxy=>by rw [List.mem_singleton] at hy;exact e3 (by rw [←hy,←hxy];exact hx)⟩
     ·rcases List.mem_append.1 hw with g | g
      ·obtain ⟨i,rfl,x,hx,hl,hne⟩:=h.q b hb w g
       exact ⟨i,rfl,x,by rw [js];exact hx,hl,hne⟩
      ·rw [List.mem_singleton] at g
       exact ⟨k,g,j,by rw [js];exact hj,ha,by rw [g];exact e1⟩
     ·rw [js] at hx
      exact h.d b hb i x hx hi
     ·rw [js] at hx
      exact h.e i x hx b hb hm
 ·rw [if_neg c2,if_neg c2]
  have noq:∀a:Nat,a < N→¬(k:Int)∈(atS S a).2:=fun a ha hm=>by
   have:=(jq a ha hm).1
   rw [List.getElem?_eq_none (by omega)] at this
   simp at this
  have mayt:mayJ j.L.length j.s=capJ j.L.length j.s:=by unfold mayJ;rw [if_neg c2]
  have may1:mayJ j.L.length (j.s+1)=capJ j.L.length (j.s+1):=by unfold mayJ;rw [if_neg (by omega)]
  by_cases c3:j.s=j.L.length
  ·rw [if_pos c3]
   have capt:capJ j.L.length j.s=j.L.length:=by unfold capJ;rw [if_pos (by omega)];exact c3
   have cap1:capJ j.L.length (j.s+1)=j.L.length:=by unfold capJ;rw [if_neg (by omega)];omega
   refine h.upd0 hj (by omega) (fun a ha' hm=>absurd hm (noq a ha')) (fun a ha' hh=>?_) (fun a ha' hm=>?_)
   ·have:=h.d a ha' k j hj hh
    rw [mayt,capt] at this
    rw [may1,cap1];exact this
   ·rw [cap1] at hm
    exact h.e k j hj a ha' (by rw [capt];exact hm)
  ·rw [if_neg c3]
   obtain ⟨m,hm⟩:∃m,m=2 * j.L.length - j.s:=⟨_,rfl⟩
   have ml:m < j.L.length:=by omega
   obtain ⟨a,ha⟩:∃a,j.L[m]?=some a:=⟨_,List.getElem?_eq_getElem ml⟩
   have gd:j.L.getD (2 * j.L.length - j.s) 0=a:=by rw [←hm,List.getD_eq_getElem?_getD,ha];rfl
   rw [gd]
   obtain ⟨a0,a10⟩:=ok.rng a (List.mem_of_getElem? ha)
   obtain ⟨b,rfl⟩:∃b:Nat,a=b:=⟨a.toNat,by omega⟩
   have hb:b < N:=by omega
   have capt:capJ j.L.length j.s=m+1:=by unfold capJ;rw [if_neg (by omega)];omega
   have cap1:capJ j.L.length (j.s+1)=m:=by unfold capJ;rw [if_neg (by omega)];omega
   have hol:(atS S b).1=k:=h.e k j hj b hb (by rw [capt];exact mem_take.2 ⟨m,by omega,ha⟩)
   have rg:rgtS S k b=true:=by
    unfold rgtS
    rw [h.len]
    simp only [Bool.and_eq_true,decide_eq_true_eq]
    omega
   have db:drB S k b=true:=by unfold drB;rw [rg];simp [hol]
   have js:∀i:Nat,(J.set k {j with s:=j.s+1})[i]?=if k=i then some {j with s:=j.s+1} else J[i]?:=fun i=>getJ_set hk
   have od:∀a:Nat,a < N→a≠b→(atS S a).1=k→(a:Int)∈j.L.take (mayJ j.L.length (j.s+1)):=fun a ha' hne hh=>by
    have:=h.d a ha' k j hj hh
    rw [mayt,capt] at this
    rw [may1,cap1]
    obtain ⟨i,h1,h2⟩:=mem_take.1 this
    refine mem_take.2 ⟨i,?_,h2⟩
    rcases Nat.lt_succ_iff_lt_or_eq.1 h1 with c | rfl
    ·exact c
    ·rw [ha,Option.some.injEq] at h2
     exact absurd (show a=b by omega) hne
   have oe:∀a:Nat,a < N→a≠b→(a:Int)∈j.L.take (capJ j.L.length (j.s+1))→(atS S a).1=k:=fun a ha' hne hm'=>by
    rw [cap1] at hm'
    obtain ⟨i,h1,h2⟩:=mem_take.1 hm'
    exact h.e k j hj a ha' (by rw [capt];exact mem_take.2 ⟨i,by omega,h2⟩)
   have kb:(b:Int)∉j.L.take (capJ j.L.length (j.s+1)):=fun hc=>by
    rw [cap1] at hc
    obtain ⟨i,h1,h2⟩:=mem_take.1 hc
    have:=up_inj ok.up h2 ha
    omega
   have eb:∀(i:Nat) (x:Jb),(J.set k {j with s:=j.s+1})[i]?=some x→(b:Int)∈x.L.take (capJ x.L.length x.s)→False:=fun i x hx hm'=>by
    by_cases c:k=i
    ·subst c
     rw [js,if_pos rfl,Option.some.injEq] at hx
     subst hx
     exact kb hm'
    ·rw [js,if_neg c] at hx
     have:=h.e i x hx b hb hm'
     omega
   cases hq:(atS S b).2 with
   | nil =>
     have ds:drS S k b=S.set b (-1,[]):=by unfold drS;rw [db,if_pos rfl,hq];rfl
     rw [ds]
     exact h.upd hj (by omega) hb (fun _=>rfl) (by simp only;omega) (by simp) (fun w hw=>by simp at hw) (fun a ha' hne hm'=>absurd hm' (noq a ha')) (fun i x hx hi=>by simp only at hi;omega) od (fun i x hx hm'=>(eb i x hx hm').elim) oe
   | cons y r =>
     have ds:drS S k b=S.set b (y,r):=by unfold drS;rw [db,if_pos rfl,hq];rfl
     rw [ds]
     have hnd:=h.nd b hb
     rw [hq,List.nodup_cons] at hnd
     have hqb:∀w∈(atS S b).2,∃i:Nat,w=i∧∃x:Jb,J[i]?=some x∧x.L[x.s]?=some (b:Int)∧(atS S b).1≠w:=h.q b hb
     rw [hq] at hqb
     obtain ⟨iy,ey,xy,hxy,hly,hny⟩:=hqb y (by simp)
     have nk:k≠iy:=by omega
     refine h.upd hj (by omega) hb (fun c=>by simp only at c;omega) (by simp only;have:=getJ_lt hxy;have h8:=h.jl;omega) hnd.2 (fun w hw=>?_) (fun a ha' hne hm'=>absurd hm' (noq a ha')) (fun i x hx hi=>?_) od (fun i x hx hm'=>(eb i x hx hm').elim) oe
     ·obtain ⟨i,rfl,x,hx,hl,hne⟩:=hqb w (by simp only at hw;simp [hw])
      refine ⟨i,rfl,x,?_,hl,?_⟩
      ·rw [js,if_neg (fun c=>by omega)];exact hx
      ·simp only
       intro c
       exact hnd.1 (by rw [c];exact hw)
     ·simp only at hi
      obtain rfl:iy=i:=by omega
      rw [js,if_neg nk,hxy,Option.some.injEq] at hx
      subst hx
      have hs:xy.s < xy.L.length:=by
       rcases Nat.lt_or_ge xy.s xy.L.length with c | c
       ·exact c
       ·rw [List.getElem?_eq_none c] at hly;simp at hly
      exact mem_take.2 ⟨xy.s,by unfold mayJ;rw [if_pos hs];omega,hly⟩
theorem mem_trN {B:List Bool} {x:Int}:∀{k:Nat},x∈trN B k ↔ ∃j:Nat,j < k∧x=j∧atB B j=true
 | 0=>by simp [trN]
 | k+1=>by
   unfold trN
   have ih:=mem_trN (B:=B) (x:=x) (k:=k)
   split
   ·rename_i h
    rw [List.mem_append,ih,List.mem_singleton]
    constructor
    ·rintro (⟨j,h1,h2,h3⟩ | rfl)
     ·exact ⟨j,by omega,h2,h3⟩
     ·exact ⟨k,by omega,rfl,h⟩
    ·rintro ⟨j,h1,h2,h3⟩
     rcases Nat.lt_succ_iff_lt_or_eq.1 h1 with h4 | rfl
     ·exact .inl ⟨j,h4,h2,h3⟩
     ·exact .inr h2
   ·rename_i h
    rw [ih]
    constructor
    ·rintro ⟨j,h1,h2,h3⟩;exact ⟨j,by omega,h2,h3⟩
    ·rintro ⟨j,h1,h2,h3⟩
     rcases Nat.lt_succ_iff_lt_or_eq.1 h1 with h4 | rfl
     ·exact ⟨j,h4,h2,h3⟩
     ·exact absurd h3 h
theorem atS_mem {S:LS} {y:Int × List Int} (hy:y∈S):∃a:Nat,a < S.length∧atS S a=y:=by
 obtain ⟨a,ha,rfl⟩:=List.mem_iff_getElem.1 hy
 refine ⟨a,ha,?_⟩
 unfold atS
 rw [Int.toNat_natCast,List.getD_eq_getElem?_getD,List.getElem?_eq_getElem ha];rfl
theorem Inv.free (h:Inv N S J) {B:List Bool} (hB:Gfp S B):∀k,k < 8→atB B k=false:=by
 have key:∀(n k:Nat) (j:Jb) (a:Nat),a < N→N - a=n→k < 8→atB B k=true→J[k]?=some j→j.L[j.s]?=some (a:Int)→(k:Int)∈(atS S a).2→0≤(atS S a).1→atB B (atS S a).1.toNat=true→False:=by
  intro n
  induction n using Nat.strongRecOn with
  | _ n ih =>
    intro k j a ha hn hk hb hj hl hm h0 hbh
    have h8:=h.h8 a ha
    obtain ⟨i,hi⟩:∃i:Nat,(atS S a).1=i:=⟨(atS S a).1.toNat,by omega⟩
    rw [hi,Int.toNat_natCast] at hbh
    have i8:i < 8:=by omega
    have wt:=hB.cl i i8 hbh
    unfold wtP at wt
    rw [List.any_eq_true] at wt
    obtain ⟨y,hy,h1⟩:=wt
    simp only [Bool.and_eq_true,decide_eq_true_eq] at h1
    obtain ⟨c,hc,ec⟩:=atS_mem hy
    rw [h.len] at hc
    rw [←ec] at h1
    obtain ⟨i',e',x,hx,hxl,hne⟩:=h.q c hc _ h1.2.2
    obtain rfl:i=i':=by omega
    have hd:=h.d a ha i x hx hi
    have xs:x.s < x.L.length:=by
     rcases Nat.lt_or_ge x.s x.L.length with c2 | c2
     ·exact c2
     ·rw [List.getElem?_eq_none c2] at hxl;simp at hxl
    unfold mayJ at hd
    rw [if_pos xs] at hd
    obtain ⟨p,p1,p2⟩:=mem_take.1 hd
    have ok:=h.ok x (List.mem_of_getElem? hx)
    have hlt:a < c:=by
     rcases Nat.lt_succ_iff_lt_or_eq.1 p1 with q | rfl
     ·have up:=ok.up
      rw [List.pairwise_iff_getElem] at up
      obtain ⟨l1,e1⟩:=List.getElem?_eq_some_iff.1 p2
      obtain ⟨l2,e2⟩:=List.getElem?_eq_some_iff.1 hxl
      have:=up p x.s l1 l2 q
      omega
     ·rw [p2,Option.some.injEq] at hxl
      have:a=c:=by omega
      subst this
      exact absurd hi hne
    exact ih (N - c) (by omega) i x c hc rfl i8 hbh hx hxl h1.2.2 h1.1 h1.2.1
 intro k hk
 cases hb:atB B k with
 | false=>rfl
 | true =>
   exfalso
   have wt:=hB.cl k hk hb
   unfold wtP at wt
   rw [List.any_eq_true] at wt
   obtain ⟨y,hy,h1⟩:=wt
   simp only [Bool.and_eq_true,decide_eq_true_eq] at h1
   obtain ⟨c,hc,ec⟩:=atS_mem hy
   rw [h.len] at hc
   rw [←ec] at h1
   obtain ⟨i',e',x,hx,hxl,hne⟩:=h.q c hc _ h1.2.2
   obtain rfl:k=i':=by omega
   exact key _ k x c hc rfl hk hb hx hxl h1.2.2 h1.1 h1.2.1
theorem Inv.unstuck (h:Inv N S J) {B:List Bool} (hB:Gfp S B):trB B=[]:=by
 cases ht:trB B with
 | nil=>rfl
 | cons x l =>
   have:x∈trB B:=by rw [ht];simp
   obtain ⟨j,h1,_,h3⟩:=mem_trN.1 this
   rw [h.free hB j h1] at h3
   simp at h3
theorem heN_spec {S:LS} {w:Int}:∀k,(heN S w k).Pairwise (fun x y=>x < y)∧∀x,x∈heN S w k ↔ ∃a:Nat,a < k∧x=a∧0≤(atS S a).1∧(atS S a).1=w
 | 0=>⟨List.Pairwise.nil,fun x=>by simp [heN]⟩
 | k+1=>by
   obtain ⟨h1,h2⟩:=heN_spec (S:=S) (w:=w) k
   unfold heN
   split
   ·rename_i hc
    refine ⟨List.pairwise_append.2 ⟨h1,List.pairwise_singleton _ _,fun x hx y hy=>?_⟩,fun x=>?_⟩
    ·rw [List.mem_singleton] at hy
     obtain ⟨a,a1,a2,_⟩:=(h2 x).1 hx
     omega
    ·rw [List.mem_append,h2,List.mem_singleton]
     constructor
     ·rintro (⟨a,a1,a2⟩ | rfl)
      ·exact ⟨a,by omega,a2⟩
      ·exact ⟨k,by omega,rfl,hc⟩
     ·rintro ⟨a,a1,a2,a3⟩
      rcases Nat.lt_succ_iff_lt_or_eq.1 a1 with q | rfl
      ·exact .inl ⟨a,q,a2,a3⟩
      ·exact .inr a2
   ·rename_i hc
    refine ⟨h1,fun x=>?_⟩
    rw [h2]
    constructor
    ·rintro ⟨a,a1,a2⟩;exact ⟨a,by omega,a2⟩
    ·rintro ⟨a,a1,a2,a3⟩
     rcases Nat.lt_succ_iff_lt_or_eq.1 a1 with q | rfl
     ·exact ⟨a,q,a2,a3⟩
     ·exact absurd a3 hc
theorem Inv.held (h:Inv N S J) {k:Nat} {j:Jb} (hj:J[k]?=some j) (hs:j.s=j.L.length):heS S k=j.L:=by
 have ok:=h.ok j (List.mem_of_getElem? hj)
 obtain ⟨h1,h2⟩:=heN_spec (S:=S) (w:=(k:Int)) S.length
 have cp:capJ j.L.length j.s=j.L.length:=by unfold capJ;rw [if_pos (by omega)];exact hs
 have my:mayJ j.L.length j.s=j.L.length:=by unfold mayJ;rw [if_neg (by omega),cp]
 refine strict_uniq linI (h1.imp fun h=>by simpa [ltI] using h) (ok.up.imp fun h=>by simpa [ltI] using h) fun x=>?_
 show x∈heN S k S.length ↔ _
 rw [h2]
 constructor
 ·rintro ⟨a,a1,rfl,_,a3⟩
  have:=h.d a (by rw [←h.len];exact a1) k j hj a3
  rw [my,List.take_length] at this
  exact this
 ·intro hx
  obtain ⟨x0,x10⟩:=ok.rng x hx
  obtain ⟨a,rfl⟩:∃a:Nat,x=a:=⟨x.toNat,by omega⟩
  have:=h.e k j hj a (by omega) (by rw [cp,List.take_length];exact hx)
  exact ⟨a,by rw [h.len];omega,rfl,by omega,this⟩
theorem Inv.none (h:Inv N S J) {k:Nat} {j:Jb} (hj:J[k]?=some j) (hs:j.s=2 * j.L.length+1):heS S k=[]:=by
 obtain ⟨h1,h2⟩:=heN_spec (S:=S) (w:=(k:Int)) S.length
 have cp:capJ j.L.length j.s=0:=by unfold capJ;rw [if_neg (by omega)];omega
 have my:mayJ j.L.length j.s=0:=by unfold mayJ;rw [if_neg (by omega),cp]
 unfold heS
 cases hh:heN S k S.length with
 | nil=>rfl
 | cons x l =>
   have:x∈heN S k S.length:=by rw [hh];simp
   obtain ⟨a,a1,rfl,_,a3⟩:=(h2 x).1 this
   have:=h.d a (by rw [←h.len];exact a1) k j hj a3
   rw [my,List.take_zero] at this
   simp at this
end
end
end Go.Proofs.YteclombpnhociaaGreat
set_option maxRecDepth 100000
set_option maxHeartbeats 8000000
namespace Go.Proofs.YteclombpnhociaaGreat
open Go.Am
set_option linter.unusedSimpArgs false
set_option linter.unusedVariables false
noncomputable section
section
variable {H:AH}
def s_tplan (args:List AV) (H:AH):Option (AV × AH) :=
 match args with
 | [.c x] =>
   match slP dcI H x with
   | some A=>if A.length≤12 then some (.g [.sl (H.length+1) 0 A.length (nN A).length,.i 0,.b false,.i 0],H++[.own [.sl (H.length+1) 0 A.length (nN A).length,.i 0,.b false,.i 0],.vec 1 (cmpCI (srt ltI A))]) else none
   | none=>none
 | _=>none
theorem s_tplan_eq {x:Sc} {A:List Int} (h:slP dcI H x=some A) (hl:A.length≤12):s_tplan [.c x] H=some (.g [.sl (H.length+1) 0 A.length (nN A).length,.i 0,.b false,.i 0],H++[.own [.sl (H.length+1) 0 A.length (nN A).length,.i 0,.b false,.i 0],.vec 1 (cmpCI (srt ltI A))]):=by
 simp only [s_tplan,h];rw [if_pos hl]
theorem len_tplan (args:List AV) (H:AH) (v:AV) (H1:AH) (h:s_tplan args H=some (v,H1)):H.length≤H1.length:=by
 unfold s_tplan at h
 repeat' split at h
 all_goals simp at h
 rw [←h.2];simp
theorem sid_bel {x:Sc} {i n:Nat} (h:sidI x=some i) (hb:x.bel n=true):i < n:=by
 cases x <;> simp [sidI] at h
 subst h
 simpa [Sc.bel] using hb
theorem ok_tplan:FpOk Tryz.prog 8 s_tplan:=by
 refine fp_ok (s:=s_tplan) (tab:=[(23,.fp s_lclone),(24,.fp s_sortI),(25,.fp s_cmpI)]) hmix (TabOk.cons (e:=.fp s_lclone) ok_lclone (TabOk.cons (e:=.fp s_sortI) ok_sortI (TabOk.cons (e:=.fp s_cmpI) ok_cmpI TabOk.nil))) Tryz.func8 rfl Tryz.results8 Tryz.ntmps8 (by kernel_rfl) (by kernel_rfl) len_tplan ?_
 intro args H v H1 h hargs hH
 unfold s_tplan at h
 split at h <;> try (simp at h;done)
 rename_i x
 split at h <;> try (simp at h;done)
 rename_i A hA
 split at h <;> try (simp at h;done)
 rename_i hl
 simp only [Option.some.injEq,Prod.mk.injEq] at h
 obtain ⟨rfl,rfl⟩:=h
 refine ⟨by simp only [List.length_cons,List.length_nil];decide,?_⟩
 have bx:x.bel H.length=true:=by simpa [AV.bel] using hargs
 have c1:=fun Z:AObj=>s_lclone_eq (clone_slP (slP_frame (K:=H++[Z]) hA fun i hi=>hg_lt' (sid_bel hi bx)) (by omega))
 have hv:∀Z:AObj,hg (H++[Z,.vec 1 (A.flatMap encI)]) (H.length+1)=.vec 1 (A.map gI):=fun Z=>by rw [hg_len_add,encI_gI];rfl
 have c2:=fun Z=>s_sortI_eq (vecD_of (dc:=dcI) (fun _=>rfl) (hv Z) rfl rfl) hl
 have hv2:∀Z:AObj,hg (H++[Z,.vec 1 ((srt ltI A).map gI)]) (H.length+1)=.vec 1 ((srt ltI A).map gI):=fun Z=>by rw [hg_len_add];rfl
 have sl:(srt ltI A).length=A.length:=srt_len
 have c3:=fun Z=>s_cmpI_eq (vecD_of (dc:=dcI) (fun _=>rfl) (hv2 Z) sl.symm sl.symm) (by omega)
 have c4:=fun Z=>cmpI_sl (v:=A.length) (n:=A.length) (hv2 Z) (by simp) sl.symm
 have l1:∀Z:AObj,(H++[Z]).length=H.length+1:=fun Z=>by simp
 simp only [l1] at c1
 simp only [putV,set_len_add,List.set_cons_succ,List.set_cons_zero] at c2
 simp only [c4,set_len_add,List.set_cons_succ,List.set_cons_zero] at c3
 simp only [List.append_assoc,List.cons_append,List.nil_append] at c1
 (repeat (first | simp (maxSteps:=9^9) only [go_sem,seval,c1,c2,c3] | simp (disch:=omega) only [w64_d,ipos,ineg,dpos,dneg]))
 exact fin_same
def s_tline (args:List AV) (H:AH):Option AV :=
 match args with
 | [.g (.i _::.i _::.i _::.i _::.sl id 0 v N::rf),.c (.i i)] =>
   match rdQ H id v N rf with
   | some (B,_)=>if 0≤i∧64 * i+64≤B.length then some (.g (((B.drop (64 * i.toNat)).take 64).flatMap e8F)) else none
   | none=>none
 | _=>none
theorem s_tline_eq {h t n b':Int} {id v N:Nat} {rf:List Sc} {B:List Int} {m:Nat} {R:List Sl} (hd:RdOk H id v N rf B m R) {i:Int} (h0:0≤i) (h1:64 * i+64≤B.length) :
 s_tline [.g (.i h::.i t::.i n::.i b'::.sl id 0 v N::rf),.c (.i i)] H=some (.g (((B.drop (64 * i.toNat)).take 64).flatMap e8F)):=by
 simp only [s_tline,rdQ_of hd];rw [if_pos ⟨h0,h1⟩]
def lnC (L:List Int) (k:Nat):List Sc:=(L.take k).flatMap e8F++List.replicate (64 - k) (.k .u8 0)
theorem lnC_len {L:List Int} (hL:L.length=64) {k:Nat} (hk:k≤64):(lnC L k).length=64:=by
 unfold lnC
 rw [List.length_append,e8w_len,List.length_take,List.length_replicate];omega
theorem lnC_wr {L:List Int} (hL:L.length=64) {k:Nat} (hk:k < 64) {q:Int} (hq:L[k]?=some q):wr (lnC L k) k [.k .u8 q]=lnC L (k+1):=by
 have l1:((L.take k).flatMap e8F).length=k:=by rw [e8w_len,List.length_take];omega
 have l2:List.drop (k+1) ((L.take k).flatMap e8F++List.replicate (64 - k) (Sc.k .u8 0))=List.replicate (64 - (k+1)) (Sc.k .u8 0):=by
  rw [List.drop_append,l1,List.drop_eq_nil_of_le (by rw [l1];omega),List.nil_append,List.drop_replicate]
  congr 1
  omega
 have l3:(L.take (k+1)).flatMap e8F=(L.take k).flatMap e8F++[.k .u8 q]:=by
  rw [List.take_add_one,hq,List.flatMap_append];rfl
 unfold lnC
 rw [wr_un,List.take_left' l1]
 show _++[Sc.k .u8 q]++List.drop (k+1) _=_
 rw [l2,l3]
theorem lnC_all {L:List Int} (hL:L.length=64):lnC L 64=L.flatMap e8F:=by
 unfold lnC
 rw [List.take_of_length_le (by omega),Nat.sub_self];simp
theorem lnC_one {L:List Int} {k:Nat}:(lnC L k).all Sc.one=true:=by
 unfold lnC
 rw [List.all_append,e8w_one,Bool.true_and]
 exact List.all_eq_true.2 fun x hx=>by rw [List.eq_of_mem_replicate hx];rfl
theorem ok_tline:FpOk Tryz.prog 19 (fun args H=>(s_tline args H).map fun v=>(v,H)):=by
 refine fq_ok (s:=s_tline) (tab:=[]) hmix TabOk.nil Tryz.func19 rfl Tryz.results19 Tryz.ntmps19 (by kernel_rfl) (by kernel_rfl) ?_
 intro args H v h hargs hH
 unfold s_tline at h
 split at h <;> try (simp at h;done)
 rename_i q1 q2 q3 q4 id v N rf i
 split at h <;> try (simp at h;done)
 rename_i B R hd
 split at h <;> try (simp at h;done)
 rename_i hc
 obtain ⟨i0,i1⟩:=hc
 simp only [Option.some.injEq] at h
 subst h
 obtain ⟨m,hd⟩:=rdQ_inv hd
 obtain ⟨ho,rfl,rfl,hl,hm4,hby,rfl,hR⟩:=hd
 refine ⟨by simp only [List.length_cons,List.length_nil];decide,e8w_bel _ _,?_⟩
 have lid:id < H.length:=hg_lt (by rw [ho];rfl)
 have oX:∀X,hg (H++X) id=.vec 1 (B.flatMap e8F):=fun X=>by rw [hg_lt' lid,ho]
 obtain ⟨j,rfl⟩:∃j:Nat,i=(j:Int):=⟨i.toNat,by omega⟩
 rw [Int.toNat_natCast]
 obtain ⟨L,hL⟩:∃L,L=(B.drop (64 * j)).take 64:=⟨_,rfl⟩
 have lL:L.length=64:=by rw [hL,List.length_take,List.length_drop];omega
 rw [←hL]
 obtain ⟨S,hS⟩:∃S:List Sc,S=.i q1::.i q2::.i q3::.i q4::.sl id 0 B.length B.length::refC R:=⟨_,rfl⟩
 have lS:S.length=21:=by rw [hS];exact rdC_len (h:=q1) (t:=q2) (n:=q3) (b:=q4) hR
 have tS:S.take 21=S:=List.take_of_length_le (by omega)
 have oS:S.all Sc.one=true:=by rw [hS];exact rdC_one (h:=q1) (t:=q2) (n:=q3) (b:=q4)
 have gS:S.getD 4 .any=.sl id 0 B.length B.length:=by rw [hS];rfl
 have w0:w64 (64 * (j:Int))=((64 * j:Nat):Int):=by rw [w64_d (by omega) (by omega)];omega
 rw [←hS]
 have z64:zRow 64 (.k .u8 0)=lnC L 0:=by unfold lnC;simp [zRow]
 have l64:=lnC_all lL
 have dz:(lnC L 0).drop 64=[]:=List.drop_of_length_le (by rw [lnC_len lL (by decide)];exact Nat.le_refl _)
 have o1:=lnC_one (L:=L) (k:=64)
 have t64:(lnC L 64).take 64=lnC L 64:=List.take_of_length_le (by rw [lnC_len lL (by decide)];exact Nat.le_refl _)
 have ll:=fun k (hk:k≤64)=>lnC_len lL hk
 rw [←l64]
 (repeat (first | simp (maxSteps:=9^9) only [go_sem,seval,lS,tS,oS,z64] | simp (disch:=omega) only [w64_d,ipos,ineg,dpos,dneg]))
 refine arun_for 64 (fun k=>([(1,.c (.i j)),(2,.c (.p H.length 0 0)),(4,.c (.p (H.length+1) 0 0)),(5,.c (.p (H.length+2) 0 0)),(6,.c (.i k))],H++[.own S,.own (lnC L 0),.own (lnC L k)])) ?_ fun k hk=>?_
 ·exact wkF (by simp [Am.get])
 by_cases hlt:k < 64
 rotate_left
 ·obtain rfl:k=64:=by omega
  have l0:=ll 0 (by decide)
  have l1:=ll 64 (by decide)
  (repeat (first | simp (maxSteps:=9^9) only [go_sem,seval,l0,l1,t64,o1,dz] | simp (disch:=omega) only [w64_d,ipos,ineg,dpos,dneg]))
  exact subH_app _ _
 have kI:(k:Int) < 64:=by omega
 have k0:(0:Int)≤(k:Int):=by omega
 have F1:w64 ((k:Int)+1)=((k+1:Nat):Int):=by rw [w64_d (by omega) (by omega)];omega
 have F2:w64 (((64 * j:Nat):Int)+(k:Int))=((64 * j+k:Nat):Int):=by rw [w64_d (by omega) (by omega)];omega
 obtain ⟨q,hq⟩:∃q,L[k]?=some q:=⟨_,List.getElem?_eq_getElem (by omega)⟩
 have hqB:B[64 * j+k]?=some q:=by
  rw [hL,List.getElem?_take_of_lt hlt,List.getElem?_drop] at hq;exact hq
 have b1:(0:Int)≤((64 * j+k:Nat):Int):=by omega
 have b2:((64 * j+k:Nat):Int) < (B.length:Int):=by omega
 have b3:64 * j+k+1≤(B.flatMap e8F).length:=by rw [e8w_len];omega
 have b4:(B.flatMap e8F).getD (64 * j+k) .any=.k .u8 q:=fm1 (f:=e8F) (g:=Sc.k .u8) (fun _=>rfl) hqB
 have b5:(B.flatMap e8F).length=B.length:=e8w_len B
 have lk:=ll k (by omega)
 have w1:=lnC_wr lL hlt hq
 have w2:List.take k (lnC L k)++Sc.k .u8 q::List.drop (k+1) (lnC L k)=lnC L (k+1):=by rw [←w1,wr_un];simp
 have b6:k+1≤64:=by omega
 have b7:64 * j+k+1≤B.length:=by omega
 (repeat (first | simp (maxSteps:=9^9) only [go_sem,seval,lS,gS,w0,kI,k0,F1,F2,oX,b1,b2,b3,b4,b5,b6,b7,lk,w1,w2,Int.toNat_natCast] | simp (disch:=omega) only [w64_d,ipos,ineg,dpos,dneg]))
 exact ⟨k+1,by omega,by omega,wkF (by simp [Am.get])⟩
end
theorem line_by {s:RamS} {i:Nat} (hw:wfE s.n s.M) (hi:i < s.n):lineC (lineI s i)=(((byN (memB s.M.2) (64 * s.n)).drop (64 * i)).take 64).flatMap e8F:=by
 rw [lineI_in hi]
 have l1:=lineE_len hw (i:=i)
 have l2:(((byN (memB s.M.2) (64 * s.n)).drop (64 * i)).take 64).length=64:=by rw [List.length_take,List.length_drop,byN_len];omega
 apply List.ext_getElem?
 intro k
 rcases Nat.lt_or_ge k 64 with hk | hk
 ·have e1:(lineC (lineE s.M.2 i))[k]?=some (byC ((lineE s.M.2 i).getD k 0#8)):=by
   unfold lineC
   rw [List.getElem?_map,L_get (by omega)];rfl
  have e2:(((byN (memB s.M.2) (64 * s.n)).drop (64 * i)).take 64)[k]?=some ((memB s.M.2 (64 * i+k)).toNat:Int):=by
   rw [List.getElem?_take_of_lt hk,List.getElem?_drop,byN_at (by omega)]
  have e3:((((byN (memB s.M.2) (64 * s.n)).drop (64 * i)).take 64).flatMap e8F)[k]?=some (.k .u8 ((memB s.M.2 (64 * i+k)).toNat:Int)):=by
   have:=fm1 (f:=e8F) (g:=Sc.k .u8) (fun _=>rfl) e2
   rw [List.getD_eq_getElem?_getD] at this
   have hl:k < ((((byN (memB s.M.2) (64 * s.n)).drop (64 * i)).take 64).flatMap e8F).length:=by rw [e8w_len,l2];exact hk
   rw [List.getElem?_eq_getElem hl] at this ⊢
   simpa using this
  rw [e1,e3]
  unfold memB byC
  rw [show (64 * i+k) / 64=i by omega,show (64 * i+k) % 64=k by omega]
 ·rw [List.getElem?_eq_none (by rw [lineC_len];omega),List.getElem?_eq_none (by rw [e8w_len,l2];exact hk)]
theorem gT_64:tagsT Tryz.prog 12 72=some (List.replicate 64 .n):=by kernel_rfl
theorem ab_64 {L:List (BitVec 8)} (h1:L.length=64):abin Tryz.prog .neq 72 (.g (lineC L)) (.g (lineC L))=some (.c (.b false)):=by
 rw [ab_g_neq _ (by simp only [dT72,D.agg]) gT_64]
 have:=csEq_by (L:=L) (M:=L) rfl
 rw [h1] at this
 rw [this];simp [eqU]
end
end Go.Proofs.YteclombpnhociaaGreat
set_option maxRecDepth 100000
set_option maxHeartbeats 8000000
namespace Go.Proofs.YteclombpnhociaaGreat
open Go.Am
set_option linter.unusedSimpArgs false
set_option linter.unusedVariables false
noncomputable section
def loS:Ak:=⟨3,2147483648#64,0#64,0,8,0,7#64,0#64,false⟩
def loL:Ak:=⟨2,2147483648#64,0#64,0,8,0,0#64,0#64,false⟩
def loZ:ShS:=nwS 0 1 1 1 1
def loW:Fw:=dmW 1 1 1 1 (List.replicate 64 0) (List.replicate 8 z0)
theorem memB_00 (j:Nat):memB [] j=0#8:=by
 unfold memB lineE lookE
 show Z64.getD (j % 64) 0#8=0#8
 unfold Z64
 rw [List.getD_eq_getElem?_getD,List.getElem?_replicate]
 split <;> rfl
theorem byN_00 {N:Nat}:byN (memB []) N=List.replicate N 0:=by
 unfold byN
 apply List.ext_getElem?
 intro j
 rw [List.getElem?_map,List.getElem?_replicate]
 rcases Nat.lt_or_ge j N with h | h
 ·rw [List.getElem?_range h,if_pos h]
  simp [memB_00]
 ·rw [List.getElem?_eq_none (by simpa using h),if_neg (by omega)];rfl
theorem getZ (j:Nat):(List.replicate 8 z0).getD j z0=z0:=by
 rw [List.getD_eq_getElem?_getD,List.getElem?_replicate]
 split <;> rfl
theorem loR:Rel loW loZ:=by
 refine ⟨rfl,by decide,by decide,⟨List.nodup_nil,fun e he=>by simp [loZ,nwS] at he⟩,?_,rfl,rfl,fun j _=>getZ j⟩
 show List.replicate 64 0=byN (memB []) 64
 rw [byN_00]
theorem lo_has:hasP 64 2147483648#64 0#64 0 8=true:=by
 unfold hasP
 rw [if_pos rfl]
 exact has_base (by decide) (by decide)
theorem lo_okS:wOk loW 0 loS=true:=by
 unfold wOk
 show (formB 3 2147483648#64 0 8 0 && (hasP 64 2147483648#64 0#64 0 8 && (decide ((0:Int)≤0) && decide ((0:Int) < 1))))=true
 rw [lo_has];decide
theorem lo_B:wB loW 0 loS=layB (List.replicate 64 0) 0 (lbL 7#64 8):=by
 have eW:wWr loW 0 loS=some 7#64:=by unfold wWr;rw [if_pos lo_okS];rfl
 unfold wB
 rw [eW]
 show layP (List.replicate 64 0) 2147483648#64 0#64 0 8 7#64=_
 unfold layP
 rw [if_pos rfl,of_base];rfl
theorem lo_okL (R:List Sl):wOk (loW.to (wB loW 0 loS) R) 0 loL=true:=by
 unfold wOk
 have l1:(wB loW 0 loS).length=64:=wB_len
 show (formB 2 2147483648#64 0 8 0 && (hasP (wB loW 0 loS).length 2147483648#64 0#64 0 8 && (decide ((0:Int)≤0) && decide ((0:Int) < 1))))=true
 rw [l1,lo_has];decide
theorem lo_V (R:List Sl):wD (loW.to (wB loW 0 loS) R) 0 loL=7#64:=by
 unfold wD
 rw [if_pos (lo_okL R),if_neg (by decide),if_neg (by decide)]
 unfold wV
 show numW (btsW (wB loW 0 loS) 2147483648#64 0#64 0 8)=_
 unfold btsW
 rw [if_pos rfl,of_base,lo_B]
 decide
def s_tlone (args:List AV):Option AV :=
 match args with
 | []=>some (.c (.b true))
 | _=>none
theorem s_tlone_eq:s_tlone []=some (.c (.b true)):=rfl
theorem ok_tlone:PuOk Tryz.prog 6 s_tlone:=by
 refine pu_ok (tab:=[(4,.fp s_snew),(13,.fp s_sdo14)]) hmix (TabOk.cons (e:=.fp s_snew) ok_snew (TabOk.cons (e:=.fp s_sdo14) ok_sdo14 TabOk.nil)) Tryz.func6 rfl Tryz.results6 Tryz.ntmps6 (by kernel_rfl) (by kernel_rfl) ?_
 intro args v h
 unfold s_tlone at h
 split at h
 ·simp only [Option.some.injEq] at h;subst h
  refine ⟨by simp only [List.length_cons,List.length_nil];decide,rfl,rfl,?_⟩
  obtain ⟨K,hK⟩:∃K:AH,K=nwH 0 1 1 1 1:=⟨_,rfl⟩
  have lK:K.length=4:=by rw [hK];rfl
  have hr:rightB14 1 1 1 1=true:=by decide
  have p0:s_snew [.g [.i 1,.i 1,.i 1,.i 1]] []=some (.t [.c (.p 3 0 0),.c (.i 0)],K):=by
   rw [s_snew_eq,if_pos hr,hK];rfl
  have hS:ShIs K (.p 3 0 0) loZ:=by
   have:=nwIs (H:=[]) hr
   rw [hK];exact this
  obtain ⟨a1,a2,a3,r1⟩:=Rel.step loR 0 loS
  obtain ⟨b1,b2,b3,_⟩:=Rel.step r1 0 loL
  rw [lo_okS] at a1
  have a1:=a1.symm
  rw [lo_okL] at b1
  have b1:=b1.symm
  rw [lo_V] at b2
  have b2:=b2.symm
  obtain ⟨K1,hK1⟩:∃K1,K1=shSet K loZ (dM loZ 0 loS) (dR loZ 0 loS):=⟨_,rfl⟩
  have lK1:K1.length=4:=by rw [hK1,shSet_len,lK]
  have h1:ShIs K1 (.p 3 0 0) (loZ.to (dM loZ 0 loS) (dR loZ 0 loS)):=by rw [hK1];exact hS.set (dM_wf hS.r.w) (dR_len hS.l)
  have d1:=s_sdo14_eq (h:=0) (k:=3) (a:=2147483648#64) (b:=0#64) (c:=0) (s:=8) (op:=0) (d:=7#64) (o:=0#64) (lv:=false) hS zA10
  have e1:(⟨3,2147483648#64,0#64,0,8,0,7#64,0#64,false⟩:Ak)=loS:=rfl
  rw [e1,←hK1,a1] at d1
  have d2:=s_sdo14_eq (h:=0) (k:=2) (a:=2147483648#64) (b:=0#64) (c:=0) (s:=8) (op:=0) (d:=0#64) (o:=0#64) (lv:=false) h1 zA10
  have e2:(⟨2,2147483648#64,0#64,0,8,0,0#64,0#64,false⟩:Ak)=loL:=rfl
  rw [e2,b1,b2] at d2
  obtain ⟨K2,hK2⟩:∃K2,K2=shSet K1 (loZ.to (dM loZ 0 loS) (dR loZ 0 loS)) (dM (loZ.to (dM loZ 0 loS) (dR loZ 0 loS)) 0 loL) (dR (loZ.to (dM loZ 0 loS) (dR loZ 0 loS)) 0 loL):=⟨_,rfl⟩
  have lK2:K2.length=4:=by rw [hK2,shSet_len,lK1]
  rw [←hK2] at d2
  unfold anC at d1 d2
  generalize dD loZ 0 loS=q1 at *
  generalize dG loZ 0 loS=q2 at *
  generalize dG (loZ.to (dM loZ 0 loS) (dR loZ 0 loS)) 0 loL=q3 at *
  have g2:∀X,hg (K2++X) 4=hg X 0:=fun X=>by rw [←lK2,hg_len]
  have s2:∀X o,(K2++X).set 4 o=K2++X.set 0 o:=fun X o=>by rw [←lK2,set_len]
  (repeat (first | simp (maxSteps:=9^9) only [go_sem,seval,p0,d1,d2,lK2,g2,s2] | simp (disch:=omega) only [w64_d,ipos,ineg,dpos,dneg]))
 ·simp at h
end
end Go.Proofs.YteclombpnhociaaGreat
set_option maxRecDepth 100000
set_option maxHeartbeats 8000000
namespace Go.Proofs.YteclombpnhociaaGreat
open Go.Am
set_option linter.unusedSimpArgs false
set_option linter.unusedVariables false
noncomputable section
def jbc (j:Jb):List Sc:=jbC j.nx j.L.length j.s []
theorem jbc_l (j:Jb):(jbc j).length=4:=rfl
theorem jbc_set {J:List Jb} {k:Nat} (hk:k < J.length) (y:Jb):(J.set k y).flatMap jbc=(J.take k).flatMap jbc++jbC y.nx y.L.length y.s ((J.drop (k+1)).flatMap jbc):=by
 rw [List.set_eq_take_append_cons_drop,if_pos hk,List.flatMap_append,List.flatMap_cons];rfl
theorem jbc_pre {J:List Jb} {k:Nat} (hk:k < J.length):((J.take k).flatMap jbc).length=k * 4:=by rw [fm_len jbc_l,List.length_take,Nat.min_eq_left (by omega)]
theorem jbc_at {J:List Jb} {k:Nat} {j:Jb} (h:J[k]?=some j):J.flatMap jbc=(J.take k).flatMap jbc++jbC j.nx j.L.length j.s ((J.drop (k+1)).flatMap jbc):=by
 have e:=set_sameJ h
 have e2:({j with s:=j.s}:Jb)=j:=rfl
 rw [e2] at e
 have:=jbc_set (getJ_lt h) j
 rw [e] at this
 exact this
theorem jbc_wr {J:List Jb} {k:Nat} (hk:k < J.length) (y:Jb):wr (J.flatMap jbc) (k * 4) (jbc y)=(J.set k y).flatMap jbc:=by
 obtain ⟨j,hj⟩:∃j,J[k]?=some j:=⟨_,List.getElem?_eq_getElem hk⟩
 rw [jbc_set hk,jbc_at hj]
 have pl:=jbc_pre hk
 rw [wr_un,jbc_l,List.take_append,List.take_of_length_le (by omega),pl,Nat.sub_self,List.take_zero,List.append_nil,List.drop_append,List.drop_eq_nil_of_le (by omega),pl,Nat.add_sub_cancel_left,List.append_assoc]
 rfl
theorem Inv.fresh {N:Nat} {S:LS} {J:List Jb} (h:Inv N S J) {k:Nat} {j y:Jb} (hj:J[k]?=some j) (hf:(j.L=[]∧j.s=0)∨j.s=2 * j.L.length+1) (hy:y.s=0) (up:y.L.Pairwise (fun a b=>a < b)) (rn:∀a∈y.L,0≤a∧a < N):Inv N S (J.set k y):=by
 have hk:=getJ_lt hj
 have js:∀i:Nat,(J.set k y)[i]?=if k=i then some y else J[i]?:=fun i=>getJ_set hk
 have nq:∀a:Nat,a < N→¬(k:Int)∈(atS S a).2:=fun a ha hm=>by
  obtain ⟨i,e1,x,hx,hl,_⟩:=h.q a ha _ hm
  obtain rfl:k=i:=by omega
  rw [hj,Option.some.injEq] at hx
  subst hx
  rcases hf with ⟨f1,f2⟩ | f
  ·rw [f1] at hl;simp at hl
  ·rw [List.getElem?_eq_none (by omega)] at hl;simp at hl
 have nd:∀a:Nat,a < N→(atS S a).1≠k:=fun a ha hh=>by
  have:=h.d a ha k j hj hh
  have e:mayJ j.L.length j.s=0:=by
   unfold mayJ capJ
   rcases hf with ⟨f1,f2⟩ | f
   ·rw [f1,f2];rfl
   ·rw [if_neg (by omega),if_neg (by omega)];omega
  rw [e,List.take_zero] at this
  simp at this
 refine ⟨h.len,by rw [List.length_set];exact h.jl,fun x hx=>?_,h.fr,h.h8,h.nd,fun a ha w hw=>?_,fun a ha i x hx hi=>?_,fun i x hx a ha hm=>?_⟩
 ·rcases List.mem_or_eq_of_mem_set hx with g | rfl
  ·exact h.ok x g
  ·exact ⟨up,rn,by omega⟩
 ·obtain ⟨i,rfl,x,hx,hl,hne⟩:=h.q a ha w hw
  refine ⟨i,rfl,x,?_,hl,hne⟩
  rw [js,if_neg (fun c=>nq a ha (by rw [c];exact hw))];exact hx
 ·rw [js] at hx
  by_cases c:k=i
  ·subst c;exact absurd hi (nd a ha)
  ·rw [if_neg c] at hx;exact h.d a ha i x hx hi
 ·rw [js] at hx
  by_cases c:k=i
  ·subst c
   rw [if_pos rfl,Option.some.injEq] at hx
   subst hx
   rw [hy] at hm
   unfold capJ at hm
   rw [if_pos (Nat.zero_le _),List.take_zero] at hm
   simp at hm
  ·rw [if_neg c] at hx;exact h.e i x hx a ha hm
def jb0:Jb:=⟨.nils,[],0⟩
theorem Inv.init4 {n:Int} (h1:1≤n):Inv n.toNat (L0 n) (List.replicate 4 jb0):=by
 have at0:∀a:Nat,a < n.toNat→atS (L0 n) a=(-1,[]):=fun a ha=>by
  have:a < (L0 n).length:=by simpa [L0] using ha
  unfold atS
  rw [Int.toNat_natCast,List.getD_eq_getElem?_getD,List.getElem?_eq_getElem this]
  simp only [L0,Option.getD_some,List.getElem_replicate]
 have em:∀{k:Nat} {j:Jb},(List.replicate 4 jb0)[k]?=some j→j=jb0:=fun {k j} hj=>List.eq_of_mem_replicate (List.mem_of_getElem? hj)
 refine ⟨by simp [L0],by simp,fun j hj=>?_,fun a ha _=>by rw [at0 a ha],fun a ha=>by rw [at0 a ha];decide,fun a ha=>by rw [at0 a ha];exact List.nodup_nil,fun a ha w hw=>by rw [at0 a ha] at hw;simp at hw,fun a ha k j _ hk=>by rw [at0 a ha] at hk;simp only at hk;omega,fun k j hj a ha hm=>?_⟩
 ·rw [List.eq_of_mem_replicate hj]
  exact ⟨List.Pairwise.nil,fun a ha=>by simp [jb0] at ha,by decide⟩
 ·rw [em hj] at hm
  simp [jb0] at hm
def isQa (l:List Sc):Prop:=L2 FitK l ksAsk
instance decIsQa (l:List Sc):Decidable (isQa l):=Classical.propDecidable _
abbrev Qa:={l:List Sc // isQa l}
def encQ (e:Qa):List Sc:=e.1
def dcQ (cs:List Sc):Option Qa:=if h:isQa cs then some ⟨cs,h⟩ else none
theorem dcQ_e (e:Qa):dcQ (encQ e)=some e:=by unfold dcQ encQ;rw [dif_pos e.2]
theorem dcQ_d (cs:List Sc) (e:Qa) (h:dcQ cs=some e):cs=encQ e:=by
 unfold dcQ at h
 split at h
 ·simp only [Option.some.injEq] at h;subst h;rfl
 ·simp at h
theorem encQ_l (e:Qa):(encQ e).length=19:=L2.length e.2
def qaK (e:Qa):Ak:=⟨gi e.1 0,gu e.1 1,gu e.1 2,gi e.1 3,gi e.1 4,gi e.1 5,gu e.1 6,gu e.1 7,gb e.1 8⟩
def qaR (e:Qa):List Sc:=e.1.drop 9
theorem qa_of (e:Qa):encQ e=.i (qaK e).k::.u (qaK e).a::.u (qaK e).b::.i (qaK e).c::.i (qaK e).s::.i (qaK e).op::.u (qaK e).d::.u (qaK e).o::.b (qaK e).lv::qaR e∧askR (qaR e)∧inR (qaK e).s:=by
 obtain ⟨l,hl⟩:=e
 obtain ⟨k,a,b,c,s,op,d,o,lv,r,rfl,hr,b1,b2,b3,b4⟩:=ask9 hl
 exact ⟨rfl,hr,⟨b3.1,b3.2⟩⟩
structure TS where
 D:Ld
 J:List Jb
 M:Nat × MapE
 R:List Sl
 bz:List Bool
 at':List Nat
def zzS (g:Nat) (n:Int):ShS:=nwS (g+2) 4 n 6 1
structure TJ (H:AH) (l:List Sc) (n:Int) (A:List (List Qa)) (K:AH) (x:TS):Prop where
 len:H.length+19≤K.length
 old:∀i,i < H.length→hg K i=hg H i
 oA:hg K H.length=.own l
 oC:hg K (H.length+1)=.own [.i 4,.i n,.i 6,.i 1]
 oS:hg K (H.length+6)=.own [.p (H.length+5) 0 0]
 oL:hg K (H.length+9)=.own [.p (H.length+8) 0 0]
 oX:hg K (H.length+14)=.own (rdC 4 n 6 1 (H.length+13) 384 x.R)
 oJ:hg K (H.length+15)=.own (x.J.flatMap jbc)
 oB:hg K (H.length+16)=.own (x.bz.map Sc.b)
 oT:hg K (H.length+17)=.own (x.at'.map fun (k:Nat)=>Sc.i k)
 oF:hg K (H.length+18)=.own [.b true]
 sh:ShIs K (.p (H.length+5) 0 0) ((zzS H.length n).to x.M x.R)
 rd:RdOk K (H.length+13) 384 384 (refC x.R) (byN (memB x.M.2) 384) 6 x.R
 rel:Rel (dmW 4 n 6 1 (byN (memB x.M.2) 384) x.R) ((zzS H.length n).to x.M x.R)
 li:LI K x.D
 dn:x.D.n=n
 dp:x.D.p=H.length+8
 ids:∀i∈x.D.ids,i=H.length+7∨i=H.length+8∨H.length+19≤i
 inv:Inv n.toNat x.D.S x.J
 jl:x.J.length=4
 bl:x.bz.length=4
 tl:x.at'.length=4
 nx:∀j∈x.J,slP dcI K j.nx=some j.L∧(∀i,sidI j.nx=some i→H.length+19≤i∧i < K.length∧i∉x.D.ids)∧j.L.length≤4
 gb:∀(k:Nat) (j:Jb),x.J[k]?=some j→x.bz.getD k false=true→j.s≤2 * j.L.length∧∃q,(A.getD k [])[x.at'.getD k 0]?=some q∧∀m,mayB 6 (qaK q).k (qaK q).a (qaK q).b (qaK q).c (qaK q).s (qaK q).op=true→m∈strL (qaK q).a (qaK q).b (qaK q).c (qaK q).s n→m∈j.L
 gf:∀(k:Nat) (j:Jb),x.J[k]?=some j→x.bz.getD k false=false→(j.L=[]∧j.s=0)∨j.s=2 * j.L.length+1
 ta:∀k:Nat,x.at'.getD k 0≤12
section
variable {H:AH} {l:List Sc} {n:Int} {A:List (List Qa)} {K K1:AH} {x:TS}
theorem TJ.upd (I:TJ H l n A K x) (hl:K.length≤K1.length) (hk:∀i,i < K.length→i≠H.length+15→i≠H.length+16→i≠H.length+17→hg K1 i=hg K i) {J:List Jb} {bz:List Bool} {at':List Nat}
 (oJ:hg K1 (H.length+15)=.own (J.flatMap jbc)) (oB:hg K1 (H.length+16)=.own (bz.map Sc.b)) (oT:hg K1 (H.length+17)=.own (at'.map fun (k:Nat)=>Sc.i k))
 (inv:Inv n.toNat x.D.S J) (jl:J.length=4) (bl:bz.length=4) (tl:at'.length=4)
 (nx:∀j∈J,slP dcI K1 j.nx=some j.L∧(∀i,sidI j.nx=some i→H.length+19≤i∧i < K1.length∧i∉x.D.ids)∧j.L.length≤4)
 (gb:∀(k:Nat) (j:Jb),J[k]?=some j→bz.getD k false=true→j.s≤2 * j.L.length∧∃q,(A.getD k [])[at'.getD k 0]?=some q∧∀m,mayB 6 (qaK q).k (qaK q).a (qaK q).b (qaK q).c (qaK q).s (qaK q).op=true→m∈strL (qaK q).a (qaK q).b (qaK q).c (qaK q).s n→m∈j.L)
 (gf:∀(k:Nat) (j:Jb),J[k]?=some j→bz.getD k false=false→(j.L=[]∧j.s=0)∨j.s=2 * j.L.length+1) (ta:∀k:Nat,at'.getD k 0≤12):TJ H l n A K1 ⟨x.D,J,x.M,x.R,bz,at'⟩:=by
 have L:=I.len
 have f:∀i,i < H.length+19→i≠H.length+15→i≠H.length+16→i≠H.length+17→hg K1 i=hg K i:=fun i h1=>hk i (by omega)
 have sh:=I.sh
 have zi:((zzS H.length n).to x.M x.R).id=H.length+5:=rfl
 have zr:((zzS H.length n).to x.M x.R).ram.id=H.length+4:=rfl
 have zm:((zzS H.length n).to x.M x.R).ram.mid=H.length+3:=rfl
 refine ⟨by omega,fun i hi=>by rw [f i (by omega) (by omega) (by omega) (by omega),I.old i hi],by rw [f _ (by omega) (by omega) (by omega) (by omega),I.oA],by rw [f _ (by omega) (by omega) (by omega) (by omega),I.oC],by rw [f _ (by omega) (by omega) (by omega) (by omega),I.oS],by rw [f _ (by omega) (by omega) (by omega) (by omega),I.oL],by rw [f _ (by omega) (by omega) (by omega) (by omega),I.oX],oJ,oB,oT,by rw [f _ (by omega) (by omega) (by omega) (by omega),I.oF],?_,?_,I.rel,?_,I.dn,I.dp,I.ids,inv,jl,bl,tl,nx,gb,gf,ta⟩
 ·refine ⟨sh.x,by rw [zi,f _ (by omega) (by omega) (by omega) (by omega)];exact sh.o,⟨sh.r.x,by rw [zr,f _ (by omega) (by omega) (by omega) (by omega)];exact sh.r.o,by rw [zm,f _ (by omega) (by omega) (by omega) (by omega)];exact sh.r.m,sh.r.w,sh.r.n1,sh.r.n2⟩,sh.l,sh.h1,sh.t1⟩
 ·exact ⟨by rw [f _ (by omega) (by omega) (by omega) (by omega)];exact I.rd.o,I.rd.v,I.rd.N,I.rd.l,I.rd.m,I.rd.by',I.rd.rf,I.rd.R⟩
 ·exact I.li.frame fun i hi=>by
   have h1:=I.li.lt hi
   have h2:=I.ids i hi
   exact hk i h1 (by omega) (by omega) (by omega)
theorem TJ.app (I:TJ H l n A K x) (X:AH):TJ H l n A (K++X) x:=by
 have L:=I.len
 refine I.upd (by rw [List.length_append];omega) (fun i hi _ _ _=>hg_lt' hi) (by rw [hg_lt' (by omega),I.oJ]) (by rw [hg_lt' (by omega),I.oB]) (by rw [hg_lt' (by omega),I.oT]) I.inv I.jl I.bl I.tl (fun j hj=>?_) I.gb I.gf I.ta
 obtain ⟨h1,h2,h3⟩:=I.nx j hj
 exact ⟨slP_frame h1 fun i hi=>hg_lt' (h2 i hi).2.1,fun i hi=>⟨(h2 i hi).1,by rw [List.length_append];have:=(h2 i hi).2.1;omega,(h2 i hi).2.2⟩,h3⟩
theorem TJ.plan (I:TJ H l n A K x) {k:Nat} {j:Jb} (hj:x.J[k]?=some j) (hb:x.bz.getD k false=false) {y:Jb} (hs:y.s=0) (h1:slP dcI K y.nx=some y.L) (h2:∀i,sidI y.nx=some i→H.length+19≤i∧i < K.length∧i∉x.D.ids) (h3:y.L.length≤4)
 (up:y.L.Pairwise (fun a b=>a < b)) (rn:∀a∈y.L,0≤a∧a < n) {q:Qa} (hq:(A.getD k [])[x.at'.getD k 0]?=some q)
 (hn:∀m,mayB 6 (qaK q).k (qaK q).a (qaK q).b (qaK q).c (qaK q).s (qaK q).op=true→m∈strL (qaK q).a (qaK q).b (qaK q).c (qaK q).s n→m∈y.L) :
 TJ H l n A ((K.set (H.length+16) (.own ((x.bz.set k true).map Sc.b))).set (H.length+15) (.own ((x.J.set k y).flatMap jbc))) ⟨x.D,x.J.set k y,x.M,x.R,x.bz.set k true,x.at'⟩:=by
 have L:=I.len
 have kl:=getJ_lt hj
 have k4:k < 4:=by rw [←I.jl];exact kl
 have fr:∀i,i≠H.length+15→i≠H.length+16→hg ((K.set (H.length+16) (.own ((x.bz.set k true).map Sc.b))).set (H.length+15) (.own ((x.J.set k y).flatMap jbc))) i=hg K i:=fun i h1 h2=>by
  rw [hg_set_ne' (fun c=>h1 c.symm),hg_set_ne' (fun c=>h2 c.symm)]
 refine I.upd (by simp) (fun i hi a b _=>fr i a b) (hg_set_same (by rw [List.length_set];omega)) (by rw [hg_set_ne' (by omega),hg_set_same (by omega)]) (by rw [fr _ (by omega) (by omega),I.oT]) (I.inv.fresh hj (I.gf k j hj hb) hs up (fun a ha=>by have:=rn a ha;omega)) (by rw [List.length_set,I.jl]) (by rw [List.length_set,I.bl]) I.tl (fun y' hy'=>?_) (fun i y' hy' hbi=>?_) (fun i y' hy' hbi=>?_) I.ta
 ·have key:slP dcI K y'.nx=some y'.L∧(∀i,sidI y'.nx=some i→H.length+19≤i∧i < K.length∧i∉x.D.ids)∧y'.L.length≤4:=by
   rcases List.mem_or_eq_of_mem_set hy' with g | rfl
   ·exact I.nx y' g
   ·exact ⟨h1,h2,h3⟩
  obtain ⟨a,b,c⟩:=key
  exact ⟨slP_frame a fun i hi=>fr i (by have:=b i hi;omega) (by have:=b i hi;omega),fun i hi=>⟨(b i hi).1,by simpa using (b i hi).2.1,(b i hi).2.2⟩,c⟩
 ·rw [getJ_set kl] at hy'
  by_cases c:k=i
  ·subst c
   rw [if_pos rfl,Option.some.injEq] at hy'
   subst hy'
   exact ⟨by omega,q,hq,hn⟩
  ·rw [if_neg c] at hy'
   refine I.gb i y' hy' ?_
   rw [List.getD_eq_getElem?_getD,List.getElem?_set_ne c,←List.getD_eq_getElem?_getD] at hbi
   exact hbi
 ·rw [getJ_set kl] at hy'
  by_cases c:k=i
  ·subst c
   rw [List.getD_eq_getElem?_getD,List.getElem?_set_self (by rw [I.bl];exact k4)] at hbi
   simp at hbi
  ·rw [if_neg c] at hy'
   refine I.gf i y' hy' ?_
   rw [List.getD_eq_getElem?_getD,List.getElem?_set_ne c,←List.getD_eq_getElem?_getD] at hbi
   exact hbi
end
end
end Go.Proofs.YteclombpnhociaaGreat
