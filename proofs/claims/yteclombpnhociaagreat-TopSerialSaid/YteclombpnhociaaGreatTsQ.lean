/- Memory behind locks: a job's step, and nobody is stuck: plain. -/
import Derived.Test.YteclombpnhociaaGreatTsO
set_option maxRecDepth 100000
set_option maxHeartbeats 8000000
namespace Go.Proofs.YteclombpnhociaaGreat
open Go.Am
set_option linter.unusedSimpArgs false
set_option linter.unusedVariables false
noncomputable section
section
variable {H:AH} {l:List Sc} {n:Int} {A:List (List Qa)} {K:AH} {x:TS}
structure TSt (H:AH) (l:List Sc) (n:Int) (A:List (List Qa)) (K K1:AH) (x:TS) (D:Ld) (J:List Jb) (M:Nat × MapE) (R:List Sl):Prop where
 len:K.length≤K1.length
 far:∀i,H.length+19≤i→i < K.length→i∉x.D.ids→hg K1 i=hg K i
 oL:hg K1 (H.length+9)=.own [.p (H.length+8) 0 0]
 oJ:hg K1 (H.length+15)=.own (J.flatMap jbc)
 oB:hg K1 (H.length+16)=.own (x.bz.map Sc.b)
 oT:hg K1 (H.length+17)=.own (x.at'.map fun (k:Nat)=>Sc.i k)
 all:∀K',K'.length=K1.length→(∀i,i≠H.length+16→i≠H.length+17→hg K' i=hg K1 i)→∀bz at',hg K' (H.length+16)=.own (bz.map Sc.b)→hg K' (H.length+17)=.own (at'.map fun (k:Nat)=>Sc.i k)→bz.length=4→at'.length=4 →
  (∀(k:Nat) (j:Jb),J[k]?=some j→bz.getD k false=true→j.s≤2 * j.L.length∧∃q,(A.getD k [])[at'.getD k 0]?=some q∧∀m,mayB 6 (qaK q).k (qaK q).a (qaK q).b (qaK q).c (qaK q).s (qaK q).op=true→m∈strL (qaK q).a (qaK q).b (qaK q).c (qaK q).s n→m∈j.L) →
  (∀(k:Nat) (j:Jb),J[k]?=some j→bz.getD k false=false→(j.L=[]∧j.s=0)∨j.s=2 * j.L.length+1)→(∀k:Nat,at'.getD k 0≤12)→TJ H l n A K' ⟨D,J,M,R,bz,at'⟩
theorem TSt.of {K1:AH} (I:TJ H l n A K x) {D:Ld} {J:List Jb} {M:Nat × MapE} {R:List Sl} (len:K.length≤K1.length)
 (near:∀i,i < H.length+19→i≠H.length+3→i≠H.length+5→i≠H.length+7→i≠H.length+8→i≠H.length+13→i≠H.length+14→i≠H.length+15→hg K1 i=hg K i)
 (far:∀i,H.length+19≤i→i < K.length→i∉x.D.ids→hg K1 i=hg K i)
 (oJ:hg K1 (H.length+15)=.own (J.flatMap jbc)) (oX:hg K1 (H.length+14)=.own (rdC 4 n 6 1 (H.length+13) 384 R)) (sh:ShIs K1 (.p (H.length+5) 0 0) ((zzS H.length n).to M R)) (rd:RdOk K1 (H.length+13) 384 384 (refC R) (byN (memB M.2) 384) 6 R)
 (rel:Rel (dmW 4 n 6 1 (byN (memB M.2) 384) R) ((zzS H.length n).to M R)) (li:LI K1 D) (dn:D.n=n) (dp:D.p=H.length+8) (ids:∀i∈D.ids,i∈x.D.ids∨K.length≤i) (inv:Inv n.toNat D.S J) (jl:J.length=4)
 (nx:∀j∈J,∃j'∈x.J,j.nx=j'.nx∧j.L=j'.L):TSt H l n A K K1 x D J M R:=by
 have L:=I.len
 have f:=fun i (h1:i < H.length+19) h2 h3 h4 h5 h6 h7 h8=>near i h1 h2 h3 h4 h5 h6 h7 h8
 refine ⟨len,far,by rw [f _ (by omega) (by omega) (by omega) (by omega) (by omega) (by omega) (by omega) (by omega),I.oL],oJ,by rw [f _ (by omega) (by omega) (by omega) (by omega) (by omega) (by omega) (by omega) (by omega),I.oB],by rw [f _ (by omega) (by omega) (by omega) (by omega) (by omega) (by omega) (by omega) (by omega),I.oT],fun K' kl kf bz at' oB oT bl tl gb gf ta=>?_⟩
 have f':∀i,i < H.length+19→i≠H.length+3→i≠H.length+5→i≠H.length+7→i≠H.length+8→i≠H.length+13→i≠H.length+14→i≠H.length+15→i≠H.length+16→i≠H.length+17→hg K' i=hg K i:=fun i h1 h2 h3 h4 h5 h6 h7 h8 h9 h10=>by
  rw [kf i h9 h10,near i h1 h2 h3 h4 h5 h6 h7 h8]
 have zi:((zzS H.length n).to M R).id=H.length+5:=rfl
 have zr:((zzS H.length n).to M R).ram.id=H.length+4:=rfl
 have zm:((zzS H.length n).to M R).ram.mid=H.length+3:=rfl
 have lf:∀{p q r s t u v w y:Prop},p→q→r→s→t→u→v→w→y→(p∧q∧r∧s∧t∧u∧v∧w∧y):=fun a b c d e f g h i=>⟨a,b,c,d,e,f,g,h,i⟩
 have idn:∀i∈D.ids,i=H.length+7∨i=H.length+8∨H.length+19≤i:=fun i hi=>by
  rcases ids i hi with g | g
  ·exact I.ids i g
  ·omega
 refine ⟨by show H.length+19≤_;omega,fun i hi=>?_,?_,?_,?_,?_,?_,?_,oB,oT,?_,?_,?_,rel,?_,dn,dp,idn,inv,jl,bl,tl,fun j hj=>?_,gb,gf,ta⟩
 ·rw [f' i (by omega) (by omega) (by omega) (by omega) (by omega) (by omega) (by omega) (by omega) (by omega) (by omega),I.old i hi]
 ·rw [f' _ (by omega) (by omega) (by omega) (by omega) (by omega) (by omega) (by omega) (by omega) (by omega) (by omega),I.oA]
 ·rw [f' _ (by omega) (by omega) (by omega) (by omega) (by omega) (by omega) (by omega) (by omega) (by omega) (by omega),I.oC]
 ·rw [f' _ (by omega) (by omega) (by omega) (by omega) (by omega) (by omega) (by omega) (by omega) (by omega) (by omega),I.oS]
 ·rw [f' _ (by omega) (by omega) (by omega) (by omega) (by omega) (by omega) (by omega) (by omega) (by omega) (by omega),I.oL]
 ·rw [kf _ (by omega) (by omega),oX]
 ·rw [kf _ (by omega) (by omega),oJ]
 ·rw [f' _ (by omega) (by omega) (by omega) (by omega) (by omega) (by omega) (by omega) (by omega) (by omega) (by omega),I.oF]
 ·refine ⟨sh.x,by rw [zi,kf _ (by omega) (by omega)];exact sh.o,⟨sh.r.x,by rw [zr,kf _ (by omega) (by omega)];exact sh.r.o,by rw [zm,kf _ (by omega) (by omega)];exact sh.r.m,sh.r.w,sh.r.n1,sh.r.n2⟩,sh.l,sh.h1,sh.t1⟩
 ·exact ⟨by rw [kf _ (by omega) (by omega)];exact rd.o,rd.v,rd.N,rd.l,rd.m,rd.by',rd.rf,rd.R⟩
 ·exact li.frame fun i hi=>kf i (by have:=idn i hi;omega) (by have:=idn i hi;omega)
 ·obtain ⟨j',hj',e1,e2⟩:=nx j hj
  obtain ⟨a,b,c⟩:=I.nx j' hj'
  rw [e1,e2]
  have key:∀i,sidI j'.nx=some i→H.length+19≤i∧i < K.length∧i∉x.D.ids:=b
  refine ⟨slP_frame a fun i hi=>?_,fun i hi=>⟨(b i hi).1,by have:=(b i hi).2.1;omega,fun c'=>?_⟩,c⟩
  ·obtain ⟨b1,b2,b3⟩:=b i hi
   rw [kf i (by omega) (by omega),far i b1 b2 b3]
  ·obtain ⟨b1,b2,b3⟩:=b i hi
   rcases ids i c' with g | g
   ·exact b3 g
   ·omega
theorem TJ.step (I:TJ H l n A K x) {k:Nat} {j:Jb} (hj:x.J[k]?=some j) (hb:x.bz.getD k false=true) {q:Qa} (hq:(A.getD k [])[x.at'.getD k 0]?=some q) {b1 b2:Nat} (g1:H.length+19≤b1) (g2:H.length+19≤b2) (n1:b1∉x.D.ids) (n2:b2∉x.D.ids)
 (o1:hg K b1=.own [.i k]) (o2:hg K b2=.own (encQ q)) :
 ∃r K1 D M R,s_lstep [.c (.p (H.length+15) (k * 4) 0),.c (.p (H.length+8) 0 0),.c (.i k),.c (.f 11 [(H.length+6,0,0),(b2,0,0),(H.length+9,0,0),(H.length+18,0,0),(b1,0,0),(H.length+14,0,0)])] K=some (.c (.i r),K1) ∧
  TSt H l n A K K1 x D (x.J.set k {j with s:=stNl x.D.S k j.L j.s}) M R∧s_ldone [.c (.p (H.length+15) (k * 4) 0)] K1=some (.c (.b (decide (2 * j.L.length < stNl x.D.S k j.L j.s)))):=by
 have L:=I.len
 have kl:=getJ_lt hj
 have pre:=jbc_pre kl
 have ok:=I.inv.ok j (List.mem_of_getElem? hj)
 obtain ⟨s2,q',hq',hn⟩:=I.gb k j hj hb
 obtain rfl:q=q':=by rw [hq] at hq';simpa using hq'
 obtain ⟨nxP,nxI,nx4⟩:=I.nx j (List.mem_of_getElem? hj)
 have hjK:hg K (H.length+15)=.own ((x.J.take k).flatMap jbc++jbC j.nx j.L.length j.s ((x.J.drop (k+1)).flatMap jbc)):=by rw [I.oJ,jbc_at hj]
 have idJ:H.length+15∉x.D.ids:=fun c=>by have:=I.ids _ c;omega
 have inv:=I.inv.step hj
 have jm:∀y∈x.J.set k {j with s:=stNl x.D.S k j.L j.s},∃j'∈x.J,y.nx=j'.nx∧y.L=j'.L:=fun y hy=>by
  rcases List.mem_or_eq_of_mem_set hy with g | rfl
  ·exact ⟨y,g,rfl,rfl⟩
  ·exact ⟨j,List.mem_of_getElem? hj,rfl,rfl⟩
 have jl:(x.J.set k {j with s:=stNl x.D.S k j.L j.s}).length=4:=by rw [List.length_set,I.jl]
 have dne:∀{K1:AH} {s:Nat},hg K1 (H.length+15)=.own ((x.J.take k).flatMap jbc++jbC j.nx j.L.length s ((x.J.drop (k+1)).flatMap jbc))→slP dcI K1 j.nx=some j.L→s≤2 * j.L.length+1→s_ldone [.c (.p (H.length+15) (k * 4) 0)] K1=some (.c (.b (decide (2 * j.L.length < s)))):=fun {K1 s} h1 h2 h3=>by
  have:=s_ldone_eq (jb_at h1) h2
  rw [pre] at this
  rw [this]
  congr 3
  unfold dnJ
  rw [←Bool.decide_and]
  exact decide_eq_decide.2 (by omega)
 have sle:stNl x.D.S k j.L j.s≤2 * j.L.length+1:=(inv.ok _ (List.mem_of_getElem? (by rw [getJ_set kl,if_pos rfl]))).s
 by_cases hs:j.s=j.L.length
 ·obtain ⟨Kd,hKd⟩:∃Kd,Kd=K.set (H.length+15) (.own ((x.J.take k).flatMap jbc++jbC j.nx j.L.length (j.L.length+1) ((x.J.drop (k+1)).flatMap jbc))):=⟨_,rfl⟩
  have kd:∀i,i≠H.length+15→hg Kd i=hg K i:=fun i hi=>by rw [hKd,hg_set_ne' (fun c=>hi c.symm)]
  have ld:Kd.length=K.length:=by rw [hKd,List.length_set]
  have lidD:∀i∈x.D.ids,i≠H.length+15:=fun i hi c=>by have:=I.ids i hi;omega
  have liD:LI Kd x.D:=I.li.frame fun i hi=>kd i (lidD i hi)
  obtain ⟨eq1,eq2,eq3⟩:=qa_of q
  obtain ⟨e,he⟩:∃e:TsV,e=⟨H.length+6,b2,H.length+9,H.length+18,b1,H.length+14,.p (H.length+5) 0 0,(zzS H.length n).to x.M x.R,x.D,H.length+13,byN (memB x.M.2) 384,6,k,qaK q,qaR q⟩:=⟨_,rfl⟩
  have sh:=I.sh
  have rd:=I.rd
  have zi:((zzS H.length n).to x.M x.R).id=H.length+5:=rfl
  have zr:((zzS H.length n).to x.M x.R).ram.id=H.length+4:=rfl
  have zm:((zzS H.length n).to x.M x.R).ram.mid=H.length+3:=rfl
  have bl:(byN (memB x.M.2) 384).length=384:=byN_len
  have TI:TsI Kd e:=by
   subst he
   refine ⟨by rw [kd _ (by simp only;omega),I.oS],?_,?_,eq2,eq3,?_,liD,?_,?_,?_,?_,I.rel,?_,?_,?_,?_,?_⟩
   ·exact ⟨sh.x,by rw [zi,kd _ (by omega)];exact sh.o,⟨sh.r.x,by rw [zr,kd _ (by omega)];exact sh.r.o,by rw [zm,kd _ (by omega)];exact sh.r.m,sh.r.w,sh.r.n1,sh.r.n2⟩,sh.l,sh.h1,sh.t1⟩
   ·rw [kd _ (by simp only;omega),o2,eq1];rfl
   ·rw [kd _ (by simp only;omega),I.oL];simp only [I.dp]
   ·rw [kd _ (by simp only;omega),I.oF]
   ·rw [kd _ (by simp only;omega),o1]
   ·rw [kd _ (by simp only;omega),I.oX];simp only [bl];rfl
   ·simp only [bl]
    exact ⟨by rw [kd _ (by omega)];exact rd.o,rd.v,rd.N,rd.l,rd.m,rd.by',rd.rf,rd.R⟩
   ·simp only;omega
   ·intro m hm hy
    have hL:m∈j.L:=hn m hy hm
    rw [←I.inv.held hj hs] at hL
    unfold heS at hL
    obtain ⟨a,a1,rfl,a2,a3⟩:=((heN_spec x.D.S.length).2 m).1 hL
    exact ⟨by omega,by simp only;omega,a3⟩
   ·simp only [zi];omega
   ·simp only;omega
   ·simp only;omega
  obtain ⟨K1,t1,P⟩:=s_tsact_ex TI
  have act:s_act 11 [(H.length+6,0,0),(b2,0,0),(H.length+9,0,0),(H.length+18,0,0),(b1,0,0),(H.length+14,0,0)] Kd=some (.t [],K1):=by
   unfold s_act
   rw [if_pos rfl,←t1,he];rfl
  have ez:e.z=(zzS H.length n).to x.M x.R:=by rw [he]
  have old:∀i,i < K.length→i≠H.length+5→i≠H.length+3→i≠H.length+13→i≠H.length+14→hg K1 i=hg Kd i:=fun i h1 h2 h3 h4 h5=>by
   have:=P.old i (by rw [ld];exact h1)
   rw [he] at this
   exact this h2 h3 h4 h5
  have hK1:hg K1 (H.length+15)=.own ((x.J.take k).flatMap jbc++jbC j.nx j.L.length (j.L.length+1) ((x.J.drop (k+1)).flatMap jbc)):=by
   rw [old _ (by omega) (by omega) (by omega) (by omega) (by omega),hKd,hg_set_same (by omega)]
  have nxK:slP dcI K1 j.nx=some j.L:=slP_frame nxP fun i hi=>by
   obtain ⟨a,b,c⟩:=nxI i hi
   rw [old i b (by omega) (by omega) (by omega) (by omega),kd i (by omega)]
  rw [hs] at hjK
  rw [hKd] at act
  have st:=s_lstep_do (w:=(k:Int)) (z:=.p (H.length+8) 0 0) hjK nxP (fun c=>by have:=(nxI _ c).1;omega) (by omega) act hK1 nxK
  rw [pre] at st
  have sn:stNl x.D.S k j.L j.s=j.L.length+1:=by
   unfold stNl
   rw [if_neg (by omega),if_neg (by omega),hs]
  have sl:stSl x.D.S k j.L j.s=x.D.S:=by
   unfold stSl
   rw [if_neg (by omega),if_neg (by omega),if_pos hs]
  rw [sl] at inv
  rw [sn] at inv jm jl ⊢
  have lK1:=P.len
  rw [ld] at lK1
  have near:∀i,i < H.length+19→i≠H.length+3→i≠H.length+5→i≠H.length+13→i≠H.length+14→i≠H.length+15→hg K1 i=hg K i:=fun i h1 h2 h3 h4 h5 h6=>by
   rw [old i (by omega) h3 h2 h4 h5,kd i h6]
  have idf:∀i∈x.D.ids,hg K1 i=hg K i:=fun i hi=>by
   have:=I.ids i hi
   have:=I.li.lt hi
   rw [old i (by omega) (by omega) (by omega) (by omega) (by omega),kd i (by omega)]
  have ewB:e.to.B=byN (memB (dM e.z e.h e.q).2) 384:=by
   have:=P.rel.B
   have q1:e.to.z.ram.n=6:=by rw [he];rfl
   rw [q1] at this
   exact this
  have zM:e.to.z=(zzS H.length n).to (dM e.z e.h e.q) (dR e.z e.h e.q):=by rw [he];rfl
  have xM:e.x=.p (H.length+5) 0 0:=by rw [he]
  have iM:e.id=H.length+13:=by rw [he]
  have mM:e.m=6:=by rw [he]
  have bM:e.bx=H.length+14:=by rw [he]
  have c4:e.z.h=4:=by rw [he];rfl
  have c5:e.z.t=n:=by rw [he];rfl
  have c6:e.z.ram.n=6:=by rw [he];rfl
  have c7:e.z.b=1:=by rw [he];rfl
  have bN:(byN (memB (dM e.z e.h e.q).2) 384).length=384:=byN_len
  have sh1:=P.sh
  have o1':=P.o
  have rd1:=P.rd
  have rl1:=P.rel
  rw [zM,xM] at sh1
  have eR:e.to.z.R=dR e.z e.h e.q:=by rw [zM];rfl
  rw [ewB,eR,bN,bM,iM,c4,c5,c6,c7] at o1'
  rw [ewB,eR,bN,iM,mM] at rd1
  refine ⟨_,K1,x.D,dM e.z e.h e.q,dR e.z e.h e.q,st,TSt.of I lK1 (fun i h1 h2 h3 h4 h5 h6 h7 h8=>near i h1 h2 h3 h6 h7 h8) (fun i h1 h2 h3=>by rw [old i h2 (by omega) (by omega) (by omega) (by omega),kd i (by omega)]) (by rw [jbc_set kl];exact hK1) o1' sh1 rd1 ?_ (I.li.frame idf) I.dn I.dp (fun i hi=>.inl hi) inv jl jm,dne hK1 nxK (by omega)⟩
  have ew:e.to.w=dmW 4 n 6 1 (byN (memB (dM e.z e.h e.q).2) 384) (dR e.z e.h e.q):=by
   show dmW e.to.z.h e.to.z.t e.to.z.ram.n e.to.z.b e.to.B e.to.z.R=_
   rw [ewB,zM];rfl
  rw [ew,zM] at rl1
  exact rl1
 ·obtain ⟨K1,E,e1,P⟩:=s_lstep_ex I.li (w:=(k:Int)) hjK nxP ok.s hs idJ (fun i hi=>⟨(nxI i hi).2.2,by have:=(nxI i hi).1;omega⟩) (by omega) 11 [(H.length+6,0,0),(b2,0,0),(H.length+9,0,0),(H.length+18,0,0),(b1,0,0),(H.length+14,0,0)]
  rw [pre,I.dp] at e1
  have near:∀i,i < H.length+19→i≠H.length+7→i≠H.length+8→i≠H.length+15→hg K1 i=hg K i:=fun i h1 h2 h3 h4=>P.old i (by omega) (fun c=>by have:=I.ids i c;omega) h4
  have nxP':slP dcI K1 j.nx=some j.L:=slP_frame nxP fun i hi=>by
   obtain ⟨a,b,c⟩:=nxI i hi
   exact P.old i b c (by omega)
  refine ⟨_,K1,E,x.M,x.R,e1,TSt.of I P.len (fun i h1 h2 h3 h4 h5 h6 h7 h8=>near i h1 h4 h5 h8) (fun i h1 h2 h3=>P.old i h2 h3 (by omega)) (by rw [jbc_set kl];exact P.o) (by rw [near _ (by omega) (by omega) (by omega) (by omega),I.oX]) ?_ ?_ I.rel P.li (P.n.trans I.dn) (P.p.trans I.dp) P.ids (by rw [P.s];exact inv) jl jm,dne P.o nxP' sle⟩
  ·have sh:=I.sh
   have zi:((zzS H.length n).to x.M x.R).id=H.length+5:=rfl
   have zr:((zzS H.length n).to x.M x.R).ram.id=H.length+4:=rfl
   have zm:((zzS H.length n).to x.M x.R).ram.mid=H.length+3:=rfl
   exact ⟨sh.x,by rw [zi,near _ (by omega) (by omega) (by omega) (by omega)];exact sh.o,⟨sh.r.x,by rw [zr,near _ (by omega) (by omega) (by omega) (by omega)];exact sh.r.o,by rw [zm,near _ (by omega) (by omega) (by omega) (by omega)];exact sh.r.m,sh.r.w,sh.r.n1,sh.r.n2⟩,sh.l,sh.h1,sh.t1⟩
  ·have rd:=I.rd
   exact ⟨by rw [near _ (by omega) (by omega) (by omega) (by omega)];exact rd.o,rd.v,rd.N,rd.l,rd.m,rd.by',rd.rf,rd.R⟩
theorem TSt.on {K1:AH} {D:Ld} {M:Nat × MapE} {R:List Sl} (I:TJ H l n A K x) {k:Nat} {j:Jb} (hj:x.J[k]?=some j) (hb:x.bz.getD k false=true) (S:TSt H l n A K K1 x D (x.J.set k {j with s:=stNl x.D.S k j.L j.s}) M R) (hs:¬2 * j.L.length < stNl x.D.S k j.L j.s) :
 TJ H l n A K1 ⟨D,x.J.set k {j with s:=stNl x.D.S k j.L j.s},M,R,x.bz,x.at'⟩:=by
 have kl:=getJ_lt hj
 refine S.all K1 rfl (fun _ _ _=>rfl) _ _ S.oB S.oT I.bl I.tl (fun i y hy hbi=>?_) (fun i y hy hbi=>?_) I.ta
 ·rw [getJ_set kl] at hy
  by_cases c:k=i
  ·subst c
   rw [if_pos rfl,Option.some.injEq] at hy
   subst hy
   obtain ⟨_,q,h1,h2⟩:=I.gb k j hj hbi
   exact ⟨by show stNl x.D.S k j.L j.s≤2 * j.L.length;omega,q,h1,h2⟩
  ·rw [if_neg c] at hy
   exact I.gb i y hy hbi
 ·rw [getJ_set kl] at hy
  by_cases c:k=i
  ·subst c
   rw [hb] at hbi
   exact absurd hbi (by decide)
  ·rw [if_neg c] at hy
   exact I.gf i y hy hbi
theorem TSt.over {K1:AH} {D:Ld} {M:Nat × MapE} {R:List Sl} (I:TJ H l n A K x) {k:Nat} {j:Jb} (hj:x.J[k]?=some j) (S:TSt H l n A K K1 x D (x.J.set k {j with s:=stNl x.D.S k j.L j.s}) M R) (hs:2 * j.L.length < stNl x.D.S k j.L j.s) (h12:x.at'.getD k 0 < 12) :
 TJ H l n A ((K1.set (H.length+16) (.own ((x.bz.set k false).map Sc.b))).set (H.length+17) (.own ((x.at'.set k (x.at'.getD k 0+1)).map fun (k:Nat)=>Sc.i k))) ⟨D,x.J.set k {j with s:=stNl x.D.S k j.L j.s},M,R,x.bz.set k false,x.at'.set k (x.at'.getD k 0+1)⟩:=by
 have kl:=getJ_lt hj
 have k4:k < 4:=by rw [←I.jl];exact kl
 have L:=I.len
 have L1:=S.len
 have sle:stNl x.D.S k j.L j.s≤2 * j.L.length+1:=((I.inv.step hj).ok _ (List.mem_of_getElem? (by rw [getJ_set kl,if_pos rfl]))).s
 refine S.all _ (by simp) (fun i h1 h2=>by rw [hg_set_ne' (fun c=>h2 c.symm),hg_set_ne' (fun c=>h1 c.symm)]) _ _ (by rw [hg_set_ne' (by omega),hg_set_same (by omega)]) (by rw [hg_set_same (by rw [List.length_set];omega)]) (by rw [List.length_set,I.bl]) (by rw [List.length_set,I.tl]) (fun i y hy hbi=>?_) (fun i y hy hbi=>?_) (fun i=>?_)
 ·rw [getJ_set kl] at hy
  by_cases c:k=i
  ·subst c
   rw [List.getD_eq_getElem?_getD,List.getElem?_set_self (by rw [I.bl];exact k4)] at hbi
   simp at hbi
  ·rw [if_neg c] at hy
   rw [List.getD_eq_getElem?_getD,List.getElem?_set_ne c,←List.getD_eq_getElem?_getD] at hbi
   obtain ⟨h1,q,h2,h3⟩:=I.gb i y hy hbi
   refine ⟨h1,q,?_,h3⟩
   rw [List.getD_eq_getElem?_getD (l:=x.at'.set _ _),List.getElem?_set_ne c,←List.getD_eq_getElem?_getD]
   exact h2
 ·rw [getJ_set kl] at hy
  by_cases c:k=i
  ·subst c
   rw [if_pos rfl,Option.some.injEq] at hy
   subst hy
   exact .inr (by show stNl x.D.S k j.L j.s=2 * j.L.length+1;omega)
  ·rw [if_neg c] at hy
   rw [List.getD_eq_getElem?_getD,List.getElem?_set_ne c,←List.getD_eq_getElem?_getD] at hbi
   exact I.gf i y hy hbi
 ·rw [List.getD_eq_getElem?_getD]
  by_cases c:k=i
  ·subst c
   rw [List.getElem?_set_self (by rw [I.tl];exact k4),Option.getD_some];omega
  ·rw [List.getElem?_set_ne c,←List.getD_eq_getElem?_getD]
   exact I.ta i
theorem TJ.grw {K1:AH} (I:TJ H l n A K x) (h1:K.length≤K1.length) (h2:∀i,i < K.length→hg K1 i=hg K i):TJ H l n A K1 x:=by
 have L:=I.len
 refine I.upd h1 (fun i hi _ _ _=>h2 i hi) (by rw [h2 _ (by omega),I.oJ]) (by rw [h2 _ (by omega),I.oB]) (by rw [h2 _ (by omega),I.oT]) I.inv I.jl I.bl I.tl (fun j hj=>?_) I.gb I.gf I.ta
 obtain ⟨q1,q2,q3⟩:=I.nx j hj
 exact ⟨slP_frame q1 fun i hi=>h2 i (q2 i hi).2.1,fun i hi=>⟨(q2 i hi).1,by have:=(q2 i hi).2.1;omega,(q2 i hi).2.2⟩,q3⟩
theorem TJ.stk (I:TJ H l n A K x):∃v K1,s_lstk [.c (.p (H.length+8) 0 0)] K=some (.c v,K1)∧(∀e,lenB (.sl e) (.c v)=some (.c (.i 0)))∧TJ H l n A K1 x:=by
 obtain ⟨v,K1,h1,l1,B,hB,⟨y,rfl,x1,x2⟩,x3⟩:=s_lstk_ex I.li
 rw [I.dp] at h1
 rw [I.inv.unstuck hB] at x1
 refine ⟨y,K1,h1,fun e=>?_,I.grw l1 x3⟩
 rcases x1 with ⟨rfl,_⟩ | ⟨i,rfl,_⟩ <;> rfl
theorem stripe_in {v:BitVec 64} (h1:1≤n) (h2:n≤64):0≤stripeU v n∧stripeU v n < n:=by
 obtain ⟨m,rfl⟩:∃m:Nat,n=m:=⟨n.toNat,by omega⟩
 unfold stripeU
 rw [if_neg (by omega)]
 have e:(BitVec.ofInt 64 (m:Int)).toNat=m:=by
  rw [BitVec.toNat_ofInt];omega
 have lt:(v / 64#64 % BitVec.ofInt 64 (m:Int)).toNat < m:=by
  rw [BitVec.toNat_umod,e]
  exact Nat.mod_lt _ (by omega)
 have:(v / 64#64 % BitVec.ofInt 64 (m:Int)).toInt=((v / 64#64 % BitVec.ofInt 64 (m:Int)).toNat:Int):=BitVec.toInt_eq_toNat_of_lt (by omega)
 rw [this]
 omega
theorem nN_specT (A:List Int):(nN A).Pairwise (fun x y=>x < y)∧(∀y,y∈nN A ↔ y∈A)∧(nN A).length≤A.length:=by
 have hs:(srt ltI A).Pairwise fun x y=>ltI y x=false:=srt_sorted linI
 obtain ⟨h1,h2⟩:=ddp_spec linI hs
 refine ⟨h1.imp fun h=>by simpa [ltI] using h,fun y=>?_,?_⟩
 ·unfold nN
  rw [h2,srt_mem]
 ·have a:=dd_leT (A:=srt ltI A)
  have b:(srt ltI A).length=A.length:=srt_len
  unfold nN
  omega
theorem needs_eq {K:AH} {x:Sc} {z:ShS} {q:Qa} (hs:ShIs K x z) (hz:1≤z.t∧z.t≤64):∃nx Y A,s_sneeds [.c x,.g (encQ q)] K=some (.c nx,K++Y)∧slP dcI (K++Y) nx=some A∧A.length≤4∧(∀a∈A,0≤a∧a < z.t) ∧
 ∀m,mayB z.ram.n (qaK q).k (qaK q).a (qaK q).b (qaK q).c (qaK q).s (qaK q).op=true→m∈strL (qaK q).a (qaK q).b (qaK q).c (qaK q).s z.t→m∈A:=by
 obtain ⟨e1,e2,_⟩:=qa_of q
 have h:=s_sneeds_eq (k:=(qaK q).k) (a:=(qaK q).a) (b:=(qaK q).b) (c:=(qaK q).c) (s:=(qaK q).s) (op:=(qaK q).op) (d:=(qaK q).d) (o:=(qaK q).o) (lv:=(qaK q).lv) (r:=qaR q) hs e2
 rw [←e1] at h
 cases hm:mayB z.ram.n (qaK q).k (qaK q).a (qaK q).b (qaK q).c (qaK q).s (qaK q).op
 ·rw [hm,if_neg (by decide)] at h
  exact ⟨.nils,[],[],by rw [List.append_nil];exact h,rfl,by simp,fun a ha=>by simp at ha,fun m hm=>by simp at hm⟩
 ·rw [hm,if_pos rfl] at h
  have mem:∀y,y∈ddp (srt ltI (strL (qaK q).a (qaK q).b (qaK q).c (qaK q).s z.t)) ↔ y∈strL (qaK q).a (qaK q).b (qaK q).c (qaK q).s z.t:=fun y=>by rw [(ddp_spec linI (srt_sorted linI)).2 y,srt_mem]
  refine ⟨_,_,ddp (srt ltI (strL (qaK q).a (qaK q).b (qaK q).c (qaK q).s z.t)),h,?_,?_,fun a ha=>?_,fun m _ hm=>(mem m).2 hm⟩
  ·exact slP_planT (by rw [hg_len_add];rfl)
  ·have l1:(strL (qaK q).a (qaK q).b (qaK q).c (qaK q).s z.t).length≤4:=by rw [strL_len];exact accP_le
   have l2:=dd_leT (A:=srt ltI (strL (qaK q).a (qaK q).b (qaK q).c (qaK q).s z.t))
   rw [srt_len] at l2
   omega
  ·obtain ⟨p,_,rfl⟩:=List.mem_map.1 ((mem a).1 ha)
   exact stripe_in hz.1 hz.2
end
end
end Go.Proofs.YteclombpnhociaaGreat
set_option maxRecDepth 100000
set_option maxHeartbeats 8000000
namespace Go.Proofs.YteclombpnhociaaGreat
open Go.Am
set_option linter.unusedSimpArgs false
set_option linter.unusedVariables false
noncomputable section
theorem e8_rep {m:Nat}:(List.replicate m (0:Int)).flatMap e8F=List.replicate m (.k .u8 0):=by
 induction m with
 | zero=>rfl
 | succ m ih=>rw [List.replicate_succ,List.flatMap_cons,ih];rfl
def iniT (g:Nat) (l:List Sc) (n:Int):AH:=[.own l,.own [.i 4,.i n,.i 6,.i 1],.dead,.map 0 [],.own [.i 6,.mp (g+3)],.own (shC (zzS g n)),.own [.p (g+5) 0 0],.map 0 [],.own [.i n,.mp (g+7)],.own [.p (g+8) 0 0],.dead,.dead,.dead,.vec 1 (List.replicate 384 (.k .u8 0)),
     .own (rdC 4 n 6 1 (g+13) 384 (List.replicate 8 z0)),.own ((List.replicate 4 jb0).flatMap jbc),.own ((List.replicate 4 false).map Sc.b),.own ((List.replicate 4 0).map fun (k:Nat)=>Sc.i k),.own [.b true]]
theorem TJ.init {H:AH} {l:List Sc} {n:Int} {A:List (List Qa)} (h1:1≤n∧n≤9) :
 TJ H l n A (H++iniT H.length l n)
  ⟨⟨H.length+8,H.length+7,n,0,[]⟩,List.replicate 4 jb0,(0,[]),List.replicate 8 z0,List.replicate 4 false,List.replicate 4 0⟩:=by
 obtain ⟨K,hK⟩:∃K:AH,K=H++iniT H.length l n:=⟨_,rfl⟩
 rw [←hK]
 have rb:rightB14 4 n 6 1=true:=by
  simp only [rightB14,wiI,Bool.and_eq_true,decide_eq_true_eq]
  omega
 have g:∀k,hg K (H.length+k)=hg (iniT H.length l n) k:=fun k=>by rw [hK,hg_len_add]
 have b0:byN (memB ((0,[]):Nat × MapE).2) 384=List.replicate 384 0:=byN_00
 obtain ⟨n1,n2⟩:=LI.new (H:=H++([.own l,.own [.i 4,.i n,.i 6,.i 1],.dead,.map 0 [],.own [.i 6,.mp (H.length+3)],.own (shC (zzS H.length n)),.own [.p (H.length+5) 0 0]]:AH)) h1.1 (by omega)
 have l7:(H++([.own l,.own [.i 4,.i n,.i 6,.i 1],.dead,.map 0 [],.own [.i 6,.mp (H.length+3)],.own (shC (zzS H.length n)),.own [.p (H.length+5) 0 0]]:AH)).length=H.length+7:=by simp
 rw [l7] at n1 n2
 have em:∀{k:Nat} {j:Jb},(List.replicate 4 jb0)[k]?=some j→j=jb0:=fun {k j} hj=>List.eq_of_mem_replicate (List.mem_of_getElem? hj)
 refine ⟨by rw [hK];simp [iniT],fun i hi=>by rw [hK,hg_lt' hi],g 0,g 1,g 6,g 9,g 14,g 15,g 16,g 17,g 18,?_,?_,?_,?_,rfl,rfl,fun i hi=>?_,?_,by simp,by simp,by simp,fun j hj=>?_,fun k j hj hb=>?_,fun k j hj hb=>?_,fun k=>?_⟩
 ·have:=(nwIs (H:=H++([.own l,.own [.i 4,.i n,.i 6,.i 1]]:AH)) rb).app ([.own [.p (H.length+5) 0 0],.map 0 [],.own [.i n,.mp (H.length+7)],.own [.p (H.length+8) 0 0],.dead,.dead,.dead,.vec 1 (List.replicate 384 (.k .u8 0)),
   .own (rdC 4 n 6 1 (H.length+13) 384 (List.replicate 8 z0)),.own ((List.replicate 4 jb0).flatMap jbc),.own ((List.replicate 4 false).map Sc.b),.own ((List.replicate 4 0).map fun (k:Nat)=>Sc.i k),.own [.b true]]:AH)
  have l2:(H++([.own l,.own [.i 4,.i n,.i 6,.i 1]]:AH)).length=H.length+2:=by simp
  rw [l2,List.append_assoc,List.append_assoc] at this
  rw [hK]
  exact this
 ·rw [b0]
  exact ⟨by rw [g 13,e8_rep];rfl,by simp,by simp,by simp,by decide,fun y hy=>by rw [List.eq_of_mem_replicate hy];decide,rfl,by simp⟩
 ·rw [b0]
  refine ⟨rfl,by show (4:Int)≤8;decide,by show (6:Nat)≤4096;decide,⟨List.nodup_nil,fun e he=>by simp [zzS,nwS,ShS.to,RamS.to] at he⟩,b0.symm,rfl,rfl,fun j _=>getZ j⟩
 ·have:=n1.app ([.own [.p (H.length+8) 0 0],.dead,.dead,.dead,.vec 1 (List.replicate 384 (.k .u8 0)),
   .own (rdC 4 n 6 1 (H.length+13) 384 (List.replicate 8 z0)),.own ((List.replicate 4 jb0).flatMap jbc),.own ((List.replicate 4 false).map Sc.b),.own ((List.replicate 4 0).map fun (k:Nat)=>Sc.i k),.own [.b true]]:AH)
  rw [List.append_assoc,List.append_assoc] at this
  rw [hK]
  exact this
 ·simp only [Ld.ids,List.flatMap_nil,List.mem_cons,List.not_mem_nil,or_false] at hi
  omega
 ·show Inv n.toNat (Ld.S _) _
  have n2':(⟨H.length+8,H.length+7,n,0,[]⟩:Ld).S=L0 n:=n2
  rw [n2']
  exact Inv.init4 h1.1
 ·obtain rfl:=List.eq_of_mem_replicate hj
  exact ⟨rfl,fun i hi=>by simp [jb0,sidI] at hi,by simp [jb0]⟩
 ·rw [List.getD_eq_getElem?_getD,List.getElem?_replicate] at hb
  split at hb <;> simp at hb
 ·rw [em hj];exact .inl ⟨rfl,rfl⟩
 ·rw [List.getD_eq_getElem?_getD,List.getElem?_replicate]
  split <;> simp
section
variable {H:AH}
def e8T (x:Int):List Sc:=[.k .u8 x]
def dc8T:List Sc→Option Int
 | [.k .u8 x]=>some x
 | _=>none
theorem e8T_l (x:Int):(e8T x).length=1:=rfl
theorem dc8T_e (x:Int):dc8T (e8T x)=some x:=rfl
theorem dc8T_d (cs:List Sc) (x:Int) (h:dc8T cs=some x):cs=e8T x:=by unfold dc8T at h;split at h <;> simp_all [e8T]
theorem ab_k_remT {P:Program} {t:Nat} {k:IntKind} {x y:Int}:abin P .rem t (.c (.k k x)) (.c (.k k y))=if 0≤x∧0 < y then some (.c (.k k (x.tmod y))) else none:=if_pos rfl
theorem map_setT {α:Type} {f:α→Sc} {L:List α} {k:Nat} {x:α} (hk:k < L.length):(L.map f).take k++f x::(L.map f).drop (k+1)=(L.set k x).map f:=by
 rw [List.set_eq_take_append_cons_drop,if_pos hk,List.map_append,List.map_cons,List.map_take,List.map_drop]
theorem subH_ofT:∀{H K:AH},H.length≤K.length→(∀i,i < H.length→hg K i=hg H i)→subH H K
 | [],_,_,_=>trivial
 | o::H,[],hl,_=>by simp at hl
 | o::H,p::K,hl,h=>by
   refine ⟨.inr ?_,subH_ofT (by simpa using hl) fun i hi=>?_⟩
   ·have:=h 0 (by simp);exact this.symm
   ·have:=h (i+1) (by simpa using hi);exact this
theorem wkFLeT {n:Nat} {fr fr':Fr} {H K:AH} (h:H=K) (hf:∀p∈fr',Am.get fr p.1=p.2):Wk n fr H (fr',K):=by subst h;exact wkFL hf
open Classical in
def s_tser (args:List AV) (H:AH):Option AV :=
 match args with
 | [.g l,.c (.k .u8 s),.c x] =>
   match slD 1 dc8T H x with
   | some P=>if l.length=4∧(∀s∈l,(slD 19 dcQ H s).isSome=true)∧(0≤s∧s≤255)∧(∀y∈P,0≤y∧y≤255) then some (.c (.b true)) else none
   | none=>none
 | _=>none
theorem ok_tser:FpOk Tryz.prog 3 (fun args H=>(s_tser args H).map fun v=>(v,H)):=by
 refine fq_ok (s:=s_tser) (tab:=[(4,.fp s_snew),(5,.fp s_lnew),(6,.pu s_tlone),(7,.fp s_r14new),(9,.fp s_sneeds),(8,.fp s_tplan),(10,.fp s_lstep),(15,.fq s_ldone),(16,.fp s_lstk),(17,.fq s_sram),(18,.fq s_rline10),(19,.fq s_tline)]) hmix (TabOk.cons (e:=.fp s_snew) ok_snew (TabOk.cons (e:=.fp s_lnew) ok_lnew (TabOk.cons (e:=.pu s_tlone) ok_tlone (TabOk.cons (e:=.fp s_r14new) ok_r14new (TabOk.cons (e:=.fp s_sneeds) ok_sneeds (TabOk.cons (e:=.fp s_tplan) ok_tplan (TabOk.cons (e:=.fp s_lstep) ok_lstep (TabOk.cons (e:=.fq s_ldone) ok_ldone (TabOk.cons (e:=.fp s_lstk) ok_lstk (TabOk.cons (e:=.fq s_sram) ok_sram (TabOk.cons (e:=.fq s_rline10) ok_rline10 (TabOk.cons (e:=.fq s_tline) ok_tline TabOk.nil)))))))))))) Tryz.func3 rfl Tryz.results3 Tryz.ntmps3 (by kernel_rfl) (by kernel_rfl) ?_
 intro args H v h hargs hH
 unfold s_tser at h
 split at h <;> try (simp at h;done)
 rename_i l s x
 split at h <;> try (simp at h;done)
 rename_i P hP
 split at h <;> try (simp at h;done)
 rename_i hc
 obtain ⟨hl4,hl,⟨s0,s1⟩,hp⟩:=hc
 simp only [Option.some.injEq] at h
 subst h
 refine ⟨by simp only [List.length_cons,List.length_nil];decide,rfl,?_⟩
 simp only [List.all_cons,AV.bel,Bool.and_eq_true] at hargs
 obtain ⟨bl,_,bx,_⟩:=hargs
 have one:l.all Sc.one=true:=List.all_eq_true.2 fun s hs=>by
  obtain ⟨A,hA⟩:=Option.isSome_iff_exists.1 (hl s hs)
  rcases slD_inv dcQ_d hA with ⟨rfl,rfl⟩ | ⟨id,v,rfl,_⟩ <;> rfl
 have xl:∀e,lenB (.sl e) (.c x)=some (.c (.i P.length)):=by
  intro e
  rcases slD_inv dc8T_d hP with ⟨rfl,rfl⟩ | ⟨id,v,rfl,_⟩ <;> rfl
 have xs:(lenB (.sl 0) (.c x)).isSome=true:=by rw [xl];rfl
 obtain ⟨n,hn⟩:∃n,n=1+s.tmod 9:=⟨_,rfl⟩
 have sm:s.tmod 9=s % 9:=Int.tmod_eq_emod_of_nonneg s0
 have n1:1≤n∧n≤9:=by omega
 have wn:w64 (1+s.tmod 9)=n:=by rw [w64_d (by omega) (by omega)];exact hn.symm
 have rb:rightB14 4 n 6 1=true:=by
  simp only [rightB14,wiI,Bool.and_eq_true,decide_eq_true_eq]
  omega
 obtain ⟨sC,hsC⟩:∃sC,sC=shC (zzS H.length n):=⟨_,rfl⟩
 have pn:s_snew [.g [.i 4,.i n,.i 6,.i 1]] (H++[.own l,.own [.i 4,.i n,.i 6,.i 1]])=some (.t [.c (.p (H.length+5) 0 0),.c (.i 0)],H++[.own l,.own [.i 4,.i n,.i 6,.i 1],.dead,.map 0 [],.own [.i 6,.mp (H.length+3)],.own sC]):=by
  rw [s_snew_eq,if_pos rb,hsC]
  simp only [List.append_assoc,List.length_append,List.length_cons,List.length_nil];rfl
 have pl:∀X,s_lnew [.c (.i n)] (H++X)=some (.t [.c (.p (H.length+(X.length+1)) 0 0),.c (.i 0)],H++(X++[.map 0 [],.own [.i n,.mp (H.length+X.length)]])):=fun X=>by
  simp only [s_lnew];rw [if_pos (by omega),List.append_assoc,List.length_append,Nat.add_assoc]
 obtain ⟨zV,hzV⟩:∃zV,zV=List.replicate 384 (Sc.k .u8 0):=⟨_,rfl⟩
 obtain ⟨SD,hSD⟩:∃SD,SD=rdC 4 n 6 1 (H.length+13) 384 (List.replicate 8 z0):=⟨_,rfl⟩
 have lSD:SD.length=21:=by rw [hSD];exact rdC_len (by simp)
 have dSD:SD.drop 21=[]:=List.drop_of_length_le (by omega)
 have tSD:SD.take 21=SD:=List.take_of_length_le (by omega)
 have oSD:SD.all Sc.one=true:=by rw [hSD];exact rdC_one
 have pr:∀X,X.length=10→s_r14new [.g [.i 4,.i n,.i 6,.i 1]] (H++X)=some (.g SD,H++(X++[.dead,.dead,.dead,.vec 1 zV])):=fun X hX=>by
  rw [s_r14new_eq (by omega),hzV,hSD,List.append_assoc,List.length_append,Nat.add_assoc,hX];rfl
 by_cases c1:300 < P.length
 ·have c1':=eq_true (show (300:Int) < P.length by omega)
  (repeat (first | simp (maxSteps:=9^9) only [go_sem,seval,xl,xs,as_len_y,one,ab_k_remT,s0,wn,pn,pl,pr,c1',s_tlone_eq] | simp (disch:=omega) only [w64_d,ipos,ineg,dpos,dneg]))
  exact subH_app _ _
 have c1':¬((300:Int) < P.length):=by omega
 obtain ⟨A,hA4,hA⟩:∃A:List (List Qa),A.length=4∧∀k,k < 4→slD 19 dcQ H (l.getD k .any)=some (A.getD k []):=by
  refine ⟨l.map fun z=>(slD 19 dcQ H z).getD [],by simp [hl4],fun k hk=>?_⟩
  have e:l[k]?=some (l.getD k .any):=by rw [List.getD_eq_getElem?_getD,List.getElem?_eq_getElem (by omega)];rfl
  have e2:=hl _ (List.mem_of_getElem? e)
  obtain ⟨L,hL⟩:=Option.isSome_iff_exists.1 e2
  rw [List.getD_eq_getElem?_getD (l:=l.map _),List.getElem?_map,e,Option.map_some,Option.getD_some,hL];rfl
 have zl:∀k,k < 4→∀e,lenB (.sl e) (.c (l.getD k .any))=some (.c (.i (A.getD k []).length)):=by
  intro k hk e
  rcases slD_inv dcQ_d (hA k hk) with ⟨h1,h2⟩ | ⟨id,v,h1,_⟩
  ·rw [h1,h2];rfl
  ·rw [h1];rfl
 have zs:∀k,k < 4→(lenB (.sl 0) (.c (l.getD k .any))).isSome=true:=fun k hk=>by rw [zl k hk];rfl
 have I0:TJ H l n A _ _:=TJ.init n1
 unfold iniT at I0
 rw [←hsC,←hzV,←hSD] at I0
 obtain ⟨oj,hoj⟩:∃oj,oj=(List.replicate 4 jb0).flatMap jbc:=⟨_,rfl⟩
 (repeat (first | simp (maxSteps:=9^9) only [go_sem,seval,xl,xs,as_len_y,one,ab_k_remT,s0,wn,pn,pl,pr,c1',lSD,dSD,tSD,oSD] | simp (disch:=omega) only [w64_d,ipos,ineg,dpos,dneg]))
 obtain ⟨K0,hK0⟩:∃K0:AH,K0=H++[AObj.own l,.own [.i 4,.i n,.i 6,.i 1],.dead,.map 0 [],.own [.i 6,.mp (H.length+3)],.own sC,.own [.p (H.length+5) 0 0],.map 0 [],.own [.i n,.mp (H.length+7)],.own [.p (H.length+8) 0 0],.dead,.dead,.dead,.vec 1 zV,
  .own SD,.own ((List.replicate 4 jb0).flatMap jbc),.own ((List.replicate 4 false).map Sc.b),.own ((List.replicate 4 0).map fun (k:Nat)=>Sc.i k),.own [.b true]]:=⟨_,rfl⟩
 rw [←hK0] at I0
 rw [arun_loop]
 refine ⟨{i:Nat // i≤4∧∀j,j < i→(A.getD j []).length≤12},
  fun i=>([(2,.c x),(3,.c (.p H.length 0 0)),(7,.c (.p (H.length+1) 0 0)),(8,.c (.p (H.length+6) 0 0)),(10,.c (.p (H.length+9) 0 0)),(12,.c (.p (H.length+14) 0 0)),(13,.c (.p (H.length+15) 0 0)),(14,.c (.p (H.length+16) 0 0)),(15,.c (.p (H.length+17) 0 0)),(16,.c (.p (H.length+18) 0 0)),(17,.c (.i i.1))],K0),fun i=>4 - i.1,
  ⟨0,Nat.zero_le _,fun j hj=>by omega⟩,wkFLeT hK0.symm (by simp [Am.get]),?_⟩
 clear hK0 pn pl pr
 rintro ⟨i,hi,hA12⟩
 by_cases hlt:i < 4
 ·have iI:(i:Int) < 4:=by omega
  have i0:(0:Int)≤(i:Int):=by omega
  have E1:w64 ((i:Int)+1)=((i+1:Nat):Int):=by rw [w64_d (by omega) (by omega)];omega
  have gA:hg K0 H.length=.own l:=I0.oA
  have zl':=zl i hlt
  have zs':=zs i hlt
  have b6:i+1≤l.length:=by omega
  by_cases c2:12 < (A.getD i []).length
  ·have c2':=eq_true (show (12:Int) < (A.getD i []).length by omega)
   (repeat (first | simp (maxSteps:=9^9) only [go_sem,seval,iI,i0,gA,b6,zl',zs',c2',s_tlone_eq,Int.toNat_natCast] | simp (disch:=omega) only [w64_d,ipos,ineg,dpos,dneg]))
   exact subH_ofT (by have:=I0.len;omega) I0.old
  ·have c2':¬((12:Int) < (A.getD i []).length):=by omega
   (repeat (first | simp (maxSteps:=9^9) only [go_sem,seval,iI,i0,gA,b6,zl',zs',c2',E1,Int.toNat_natCast] | simp (disch:=omega) only [w64_d,ipos,ineg,dpos,dneg]))
   exact ⟨⟨i+1,by omega,fun j hj=>by
    rcases Nat.lt_succ_iff_lt_or_eq.1 hj with h | rfl
    ·exact hA12 j h
    ·omega⟩,by simp only;omega,wkFL (by simp [Am.get])⟩
 obtain rfl:i=4:=by omega
 have a12:∀k,(A.getD k []).length≤12:=fun k=>by
  by_cases c:k < 4
  ·exact hA12 k c
  ·rw [List.getD_eq_getElem?_getD,List.getElem?_eq_none (by omega)];exact Nat.zero_le _
 (repeat (first | simp (maxSteps:=9^9) only [go_sem,seval] | simp (disch:=omega) only [w64_d,ipos,ineg,dpos,dneg]))
 clear hA12 hi hlt
 rw [arun_loop]
 refine ⟨{y:Nat × AH × TS // y.1≤P.length∧TJ H l n A y.2.1 y.2.2},
  fun y=>([(2,.c x),(3,.c (.p H.length 0 0)),(7,.c (.p (H.length+1) 0 0)),(8,.c (.p (H.length+6) 0 0)),(10,.c (.p (H.length+9) 0 0)),(12,.c (.p (H.length+14) 0 0)),(13,.c (.p (H.length+15) 0 0)),(14,.c (.p (H.length+16) 0 0)),(15,.c (.p (H.length+17) 0 0)),(16,.c (.p (H.length+18) 0 0)),(18,.c (.i y.1.1))],y.1.2.1),fun y=>P.length - y.1.1,
  ⟨(0,K0,_),Nat.zero_le _,I0⟩,wkFL (by simp [Am.get]),?_⟩
 clear I0
 rintro ⟨⟨i,K,y⟩,hi,I⟩
 simp only at hi I
 have oH:∀{K:AH} {y:TS},TJ H l n A K y→∀i,i < H.length→hg K i=hg H i:=fun I=>I.old
 have lH:∀{K:AH} {y:TS},TJ H l n A K y→H.length≤K.length:=fun I=>by have:=I.len;omega
 have lK:=I.len
 by_cases hlt:i < P.length
 rotate_left
 ·obtain rfl:i=P.length:=by omega
  have iI:¬((P.length:Int) < P.length):=by omega
  (repeat (first | simp (maxSteps:=9^9) only [go_sem,seval,xl,xs,as_len_y,iI] | simp (disch:=omega) only [w64_d,ipos,ineg,dpos,dneg]))
  obtain ⟨SR,hSR⟩:∃SR,SR=rdC 4 n 6 1 (H.length+13) 384 y.R:=⟨_,rfl⟩
  have gX:=I.oX
  rw [←hSR] at gX
  have lSR:SR.length=21:=by rw [hSR];exact rdC_len I.rd.R
  have tSR:SR.take 21=SR:=List.take_of_length_le (by omega)
  have oSR:SR.all Sc.one=true:=by rw [hSR];exact rdC_one
  have gC:=I.oC
  have gS:=I.oS
  refine arun_for 6 (fun i=>([(7,.c (.p (H.length+1) 0 0)),(8,.c (.p (H.length+6) 0 0)),(12,.c (.p (H.length+14) 0 0)),(21,.c (.i i))],K)) ?_ fun i hi=>?_
  ·exact wkFL (by simp [Am.get])
  by_cases hlt:i < 6
  ·have iI:(i:Int) < 6:=by omega
   have i0:(0:Int)≤(i:Int):=by omega
   have F1:w64 ((i:Int)+1)=((i+1:Nat):Int):=by rw [w64_d (by omega) (by omega)];omega
   have p1:=s_sram_eq I.sh
   have zr:((zzS H.length n).to y.M y.R).ram.id=H.length+4:=rfl
   rw [zr] at p1
   have rr:=I.sh.r
   have rw':=rr.w
   rw [zr] at rr
   have p2:=s_rline10_eq (i:=(i:Int)) rr
   have ne:((zzS H.length n).to y.M y.R).ram.n=6:=rfl
   have lb:=line_by (s:=((zzS H.length n).to y.M y.R).ram) (i:=i) rw' (by rw [ne];exact hlt)
   have p3:s_tline [.g SR,.c (.i i)] K=some (.g (lineC (lineI ((zzS H.length n).to y.M y.R).ram i))):=by
    have:=s_tline_eq (h:=4) (t:=n) (n:=6) (b':=1) I.rd (i:=(i:Int)) i0 (by rw [I.rd.l];omega)
    rw [lb,hSR]
    exact this
   obtain ⟨L,hL⟩:∃L,L=lineI ((zzS H.length n).to y.M y.R).ram i:=⟨_,rfl⟩
   have lL:L.length=64:=by
    rw [hL,lineI_in (by rw [ne];exact hlt)]
    exact lineE_len rw'
   rw [←hL] at p2 p3
   have ab:=ab_64 lL
   (repeat (first | simp (maxSteps:=9^9) only [go_sem,seval,iI,i0,gC,gS,gX,lSR,tSR,oSR,p1,p2,p3,ab,F1,Int.toNat_natCast] | simp (disch:=omega) only [w64_d,ipos,ineg,dpos,dneg]))
   exact ⟨i+1,by omega,by omega,wkFL (by simp [Am.get])⟩
  obtain rfl:i=6:=by omega
  (repeat (first | simp (maxSteps:=9^9) only [go_sem,seval,gC,s_tlone_eq] | simp (disch:=omega) only [w64_d,ipos,ineg,dpos,dneg]))
  exact subH_ofT (lH I) I.old
 obtain ⟨q,hq⟩:∃q,P[i]?=some q:=⟨_,List.getElem?_eq_getElem hlt⟩
 obtain ⟨q0,q1⟩:=hp q (List.mem_of_getElem? hq)
 rcases slD_inv dc8T_d hP with ⟨rfl,rfl⟩ | ⟨zi,zv,rfl,hzv,hzc⟩
 ·simp at hlt
 have lzi:zi < H.length:=by simpa [Sc.bel] using bx
 have z0:(hg K zi).cells.getD i .any=.k .u8 q:=by rw [oH I zi lzi,hzc];exact fm1 (f:=e8T) (g:=Sc.k .u8) (fun _=>rfl) hq
 have z1:i+1≤(hg K zi).cells.length:=by
  rw [oH I zi lzi,hzc]
  have:=fm_le e8T_l (L:=P) (k:=i) hlt
  omega
 have z2:(hg K zi).row=zv:=by rw [oH I zi lzi,hzv]
 have iI:(i:Int) < P.length:=by omega
 have i0:(0:Int)≤(i:Int):=by omega
 have E1:w64 ((i:Int)+1)=((i+1:Nat):Int):=by rw [w64_d (by omega) (by omega)];omega
 obtain ⟨k,hk⟩:∃k:Nat,q % 4=(k:Int):=⟨(q % 4).toNat,by omega⟩
 have k4:k < 4:=by omega
 have k4l:k+1≤l.length:=by omega
 have m4:q.tmod 4=(k:Int):=by rw [Int.tmod_eq_emod_of_nonneg q0,hk]
 have k0:(0:Int)≤(k:Int):=by omega
 have kI:(k:Int) < 4:=by omega
 obtain ⟨AH',hAH⟩:∃AH':List Qa,AH'=A.getD k []:=⟨_,rfl⟩
 obtain ⟨at0,hat⟩:∃a,a=y.at'.getD k 0:=⟨_,rfl⟩
 have a12k:=a12 k
 have t12:=I.ta k
 have zl':=zl k k4
 have zs':=zs k k4
 rw [←hAH] at zl' a12k
 rw [←hat] at t12
 have tg:(y.at'.map fun (k:Nat)=>Sc.i k).getD k .any=.i at0:=by
  rw [hat,List.getD_eq_getElem?_getD,List.getElem?_map,List.getD_eq_getElem?_getD,List.getElem?_eq_getElem (by rw [I.tl];exact k4)];rfl
 have tl:(y.at'.map fun (k:Nat)=>Sc.i k).length=4:=by rw [List.length_map,I.tl]
 have blen:(y.bz.map Sc.b).length=4:=by rw [List.length_map,I.bl]
 have k4':k+1≤4:=by omega
 have gA:∀X,hg (K++X) H.length=.own l:=fun X=>by rw [hg_lt' (by omega),I.oA]
 have gT:∀X,hg (K++X) (H.length+17)=.own (y.at'.map fun (k:Nat)=>Sc.i k):=fun X=>by rw [hg_lt' (by omega),I.oT]
 by_cases c3:AH'.length≤at0
 ·have c3':=eq_true (show (AH'.length:Int)≤at0 by omega)
  (repeat (first | simp (maxSteps:=9^9) only [go_sem,seval,xl,xs,as_len_y,iI,i0,z0,z1,z2,ab_k_remT,q0,m4,k0,kI,k4l,k4',tg,tl,gA,gT,zl',zs',c3',E1,Int.toNat_natCast] | simp (disch:=omega) only [w64_d,ipos,ineg,dpos,dneg]))
  exact ⟨⟨(i+1,_,y),by omega,I.app _⟩,by simp only;omega,wkFL (by simp [Am.get])⟩
 have c3':¬((AH'.length:Int)≤at0):=by omega
 obtain ⟨qa,hqa⟩:∃qa,AH'[at0]?=some qa:=⟨_,List.getElem?_eq_getElem (by omega)⟩
 rcases slD_inv dcQ_d (hA k k4) with ⟨h1,h2⟩ | ⟨ai,av,ae,hav,hac⟩
 ·rw [←hAH] at h2
  rw [h2] at c3
  exact absurd (Nat.zero_le _) c3
 rw [←hAH] at ae hac
 have lai:ai < H.length:=by
  have e:l[k]?=some (l.getD k .any):=by rw [List.getD_eq_getElem?_getD,List.getElem?_eq_getElem (by omega)];rfl
  have:=List.all_eq_true.1 bl _ (List.mem_of_getElem? e)
  rw [ae] at this
  simpa [Sc.bel] using this
 rw [ae] at zl' zs'
 have at0':(0:Int)≤(at0:Int):=by omega
 have atI:(at0:Int) < AH'.length:=by omega
 have gQ:∀X,hg (K++X) ai=hg H ai:=fun X=>by rw [hg_lt' (by omega),I.old ai lai]
 obtain ⟨QC,hQC⟩:∃QC,QC=encQ qa:=⟨_,rfl⟩
 have lQC:QC.length=19:=by rw [hQC];exact encQ_l qa
 have tQC:QC.take 19=QC:=List.take_of_length_le (by omega)
 have oQC:QC.all Sc.one=true:=by
  obtain ⟨e1,e2,_⟩:=qa_of qa
  rw [hQC,e1]
  simp [Sc.one,e2.2.2]
 have QL:at0 * 19+19≤(AH'.flatMap encQ).length:=fm_le encQ_l (by omega)
 have QG:((AH'.flatMap encQ).drop (at0 * 19)).take 19=QC:=by rw [hQC];exact fm_get encQ_l hqa
 obtain ⟨j,hj⟩:∃j,y.J[k]?=some j:=⟨_,List.getElem?_eq_getElem (by rw [I.jl];exact k4)⟩
 have gB:∀X,hg (K++X) (H.length+16)=.own (y.bz.map Sc.b):=fun X=>by rw [hg_lt' (by omega),I.oB]
 have bg:(y.bz.map Sc.b).getD k .any=.b (y.bz.getD k false):=by
  rw [List.getD_eq_getElem?_getD,List.getElem?_map,List.getD_eq_getElem?_getD,List.getElem?_eq_getElem (by rw [I.bl];exact k4)];rfl
 obtain ⟨b,hbz⟩:∃b,b=y.bz.getD k false:=⟨_,rfl⟩
 rw [←hbz] at bg
 (repeat (first | simp (maxSteps:=9^9) only [go_sem,seval,xl,xs,as_len_y,iI,i0,z0,z1,z2,ab_k_remT,q0,m4,k0,kI,k4l,k4',tg,tl,gA,gT,ae,zl',zs',c3',at0',atI,gQ,hac,hav,QL,QG,lQC,tQC,oQC,gB,blen,bg,Int.toNat_natCast] | simp (disch:=omega) only [w64_d,ipos,ineg,dpos,dneg]))
 refine ⟨by (repeat' first | apply And.intro | (intro c;exact absurd c (by omega)) | (intro _;kernel_rfl) | kernel_rfl),?_⟩
 obtain ⟨Kc,hKc⟩:∃Kc,Kc=K++[AObj.own [.i k],.own QC]:=⟨_,rfl⟩
 have Ic:=I.app [.own [.i k],.own QC]
 have c1:hg (K++[.own [.i k],.own QC]) K.length=.own [.i k]:=by rw [hg_len];rfl
 have c2:hg (K++[.own [.i k],.own QC]) (K.length+1)=.own QC:=by rw [hg_len_add];rfl
 have lc:(K++[AObj.own [.i k],.own QC]).length=K.length+2:=by simp
 rw [←hKc] at Ic c1 c2 lc ⊢
 clear gA gT gQ gB
 cases b
 ·have wb1:=map_setT (f:=Sc.b) (x:=true) (L:=y.bz) (k:=k) (by rw [I.bl];exact k4)
  have gBc:=Ic.oB
  have lKc:=Ic.len
  obtain ⟨o16,ho16⟩:∃o,o=AObj.own ((y.bz.set k true).map Sc.b):=⟨_,rfl⟩
  obtain ⟨Kb,hKb⟩:∃Kb,Kb=Kc.set (H.length+16) o16:=⟨_,rfl⟩
  have kb:∀i,i≠H.length+16→hg Kb i=hg Kc i:=fun i hi=>by rw [hKb,hg_set_ne' (fun c=>hi c.symm)]
  have lb:Kb.length=Kc.length:=by rw [hKb,List.length_set]
  have sh:=Ic.sh
  have shB:ShIs Kb (.p (H.length+5) 0 0) ((zzS H.length n).to y.M y.R):=by
   have zi:((zzS H.length n).to y.M y.R).id=H.length+5:=rfl
   have zr:((zzS H.length n).to y.M y.R).ram.id=H.length+4:=rfl
   have zm:((zzS H.length n).to y.M y.R).ram.mid=H.length+3:=rfl
   exact ⟨sh.x,by rw [zi,kb _ (by omega)];exact sh.o,⟨sh.r.x,by rw [zr,kb _ (by omega)];exact sh.r.o,by rw [zm,kb _ (by omega)];exact sh.r.m,sh.r.w,sh.r.n1,sh.r.n2⟩,sh.l,sh.h1,sh.t1⟩
  obtain ⟨nx,Y,L,nd,nA,nL,nR,nS⟩:=needs_eq (q:=qa) shB sh.t1
  rw [←hQC] at nd
  have pe:=s_tplan_eq nA (by omega)
  have gP:=slP_planT (H:=Kb++Y++[.own [.sl ((Kb++Y).length+1) 0 L.length (nN L).length,.i 0,.b false,.i 0],.vec 1 (cmpCI (srt ltI L))]) (id:=(Kb++Y).length+1) (A:=L) (by rw [hg_len_add];rfl)
  obtain ⟨jP,hjP⟩:∃jP:Jb,jP=⟨.sl ((Kb++Y).length+1) 0 L.length (nN L).length,nN L,0⟩:=⟨_,rfl⟩
  have jb:jbc jP=[.sl ((Kb++Y).length+1) 0 L.length (nN L).length,.i 0,.b false,.i 0]:=by
   rw [hjP]
   unfold jbc jbC
   simp only
   rw [Nat.zero_min,Nat.zero_sub,decide_eq_false (Nat.not_lt_zero _)];rfl
  have lY:(Kb++Y).length=K.length+2+Y.length:=by rw [List.length_append,lb,lc]
  obtain ⟨X,hX⟩:∃X:AH,X=Y++[.own [.sl ((Kb++Y).length+1) 0 L.length (nN L).length,.i 0,.b false,.i 0],.vec 1 (cmpCI (srt ltI L))]:=⟨_,rfl⟩
  rw [List.append_assoc,←hX] at pe gP
  have lX:X.length=Y.length+2:=by rw [hX];simp
  have Ip:=Ic.app X
  have eKb:Kb++X=(Kc++X).set (H.length+16) o16:=by rw [hKb,List.set_append_left _ _ (by omega)]
  obtain ⟨n1',n2',n3'⟩:=nN_specT L
  have gPc:slP dcI (Kc++X) jP.nx=some jP.L:=by
   rw [hjP]
   refine slP_frame gP fun i hi=>?_
   simp only [sidI,Option.some.injEq] at hi
   rw [eKb,hg_set_ne' (by omega)]
  have I4:=Ip.plan hj hbz.symm (y:=jP) (by rw [hjP]) gPc (fun i hi=>by
   rw [hjP] at hi
   simp only [sidI,Option.some.injEq] at hi
   subst hi
   refine ⟨by omega,by have e:(Kc++X).length=Kc.length+X.length:=List.length_append;omega,fun c=>?_⟩
   have:=I.li.lt c
   omega) (by rw [hjP];simp only;omega) (by rw [hjP];exact n1') (fun a ha=>by
   rw [hjP] at ha
   exact nR a ((n2' a).1 ha)) (q:=qa) (by rw [←hAH,←hat];exact hqa) (fun m hm hs=>by
   rw [hjP]
   exact (n2' m).2 (nS m hm hs))
  rw [←ho16,←eKb] at I4
  have wrk:=jbc_wr (J:=y.J) (k:=k) (by rw [I.jl];exact k4) jP
  rw [jb] at wrk
  rw [wr_un] at wrk
  have lJ:k * 4+4≤(y.J.flatMap jbc).length:=fm_le jbc_l (by rw [I.jl];exact k4)
  have c1b:hg Kb K.length=.own [.i k]:=by rw [kb _ (by omega),c1]
  have c2b:hg Kb (K.length+1)=.own QC:=by rw [kb _ (by omega),c2]
  have c1X:∀Z,hg (Kb++Z) K.length=.own [.i k]:=fun Z=>by rw [hg_lt' (by omega),c1b]
  have c2X:∀Z,hg (Kb++Z) (K.length+1)=.own QC:=fun Z=>by rw [hg_lt' (by omega),c2b]
  have gSb:hg Kb (H.length+6)=.own [.p (H.length+5) 0 0]:=by rw [kb _ (by omega),Ic.oS]
  have gSX:∀Z,hg (Kb++Z) (H.length+6)=.own [.p (H.length+5) 0 0]:=fun Z=>by rw [hg_lt' (by omega),gSb]
  have gJX:∀Z,hg (Kb++Z) (H.length+15)=.own (y.J.flatMap jbc):=fun Z=>by rw [hg_lt' (by omega),kb _ (by omega),Ic.oJ]
  have wb2:AObj.own (List.take k (List.map Sc.b y.bz)++Sc.b true::List.drop (k+1) (List.map Sc.b y.bz))=o16:=by rw [wb1,ho16]
  (repeat (first | simp (maxSteps:=9^9) only [go_sem,seval,k0,kI,k4',c1,gBc,blen,wb2,←hKb,c1b,c2b,gSb,gSX,lQC,tQC,nd,pe,c1X,c2X,gJX,lJ,Int.toNat_natCast] | simp (disch:=omega) only [w64_d,ipos,ineg,dpos,dneg]))
  refine ⟨by (repeat' first | apply And.intro | (intro c;exact absurd c (by omega)) | (intro _;kernel_rfl) | kernel_rfl),by (repeat' first | apply And.intro | (intro c;exact absurd c (by omega)) | (intro _;kernel_rfl) | kernel_rfl),?_⟩
  have lYb:(Kb++Y).length=Kb.length+Y.length:=List.length_append
  rw [lYb] at wrk
  obtain ⟨oj4,hoj4⟩:∃o,o=AObj.own ((y.J.set k jP).flatMap jbc):=⟨_,rfl⟩
  have w5:AObj.own (List.take (k * 4) (y.J.flatMap jbc)++Sc.sl (Kb.length+List.length Y+1) 0 L.length (nN L).length::Sc.i 0::Sc.b false::Sc.i 0::List.drop (k * 4+4) (y.J.flatMap jbc))=oj4:=by
   rw [hoj4,←wrk];simp
  rw [←hoj4] at I4
  obtain ⟨Kq,hKq⟩:∃Kq,Kq=(Kb++X).set (H.length+15) oj4:=⟨_,rfl⟩
  simp only [w5,←hKq]
  rw [←hKq] at I4
  have lKq:Kq.length=K.length+2+X.length:=by rw [hKq,List.length_set,List.length_append,lb,lc]
  have c1Q:hg Kq K.length=.own [.i k]:=by rw [hKq,hg_set_ne' (by omega),c1X]
  have c2Q:hg Kq (K.length+1)=.own QC:=by rw [hKq,hg_set_ne' (by omega),c2X]
  obtain ⟨jQ,ejQ⟩:∃jQ,jQ=jP:=⟨_,rfl⟩
  obtain ⟨bQ,ebQ⟩:∃bQ:TS,bQ=⟨y.D,y.J.set k jP,y.M,y.R,y.bz.set k true,y.at'⟩:=⟨_,rfl⟩
  have hjQ:bQ.J[k]?=some jQ:=by rw [ebQ,ejQ];exact (getJ_set (by rw [I.jl];exact k4)).trans (if_pos rfl)
  have hbQ:bQ.bz.getD k false=true:=by
   rw [ebQ,List.getD_eq_getElem?_getD]
   simp only
   rw [List.getElem?_set_self (by rw [I.bl];exact k4)];rfl
  have eaQ:bQ.at'.getD k 0=at0:=by rw [ebQ];exact hat.symm
  have nidQ:∀i∈bQ.D.ids,¬(i=K.length∨i=K.length+1):=fun i hi c=>by
   rw [ebQ] at hi
   have:=I.li.lt hi
   omega
  have IQ:TJ H l n A Kq bQ:=by rw [ebQ];exact I4
  have gL:=IQ.oL
  have lQ:=IQ.len
  have gF:=IQ.oF
  have hatQ:bQ.at'.getD k 0=at0:=eaQ
  obtain ⟨r,K1,D1,M1,R1,e1,St,dn⟩:=IQ.step hjQ hbQ (q:=qa) (by rw [←hAH,hatQ];exact hqa) (b1:=K.length) (b2:=K.length+1) (by omega) (by omega) (fun c=>nidQ _ c (Or.inl rfl)) (fun c=>nidQ _ c (Or.inr rfl)) c1Q (by rw [c2Q,hQC])
  have l1:=St.len
  have g1:hg K1 K.length=.own [.i k]:=by rw [St.far _ (by omega) (by omega) (fun c=>nidQ _ c (Or.inl rfl)),c1Q]
  have gB1:=St.oB
  have gT1:=St.oT
  have gL1:=St.oL
  have blQ:(bQ.bz.map Sc.b).length=4:=by rw [List.length_map,IQ.bl]
  have tlQ:(bQ.at'.map fun (k:Nat)=>Sc.i k).length=4:=by rw [List.length_map,IQ.tl]
  have tgQ:(bQ.at'.map fun (k:Nat)=>Sc.i k).getD k .any=.i at0:=by
   rw [←hatQ,List.getD_eq_getElem?_getD,List.getElem?_map,List.getD_eq_getElem?_getD,List.getElem?_eq_getElem (by rw [IQ.tl];exact k4)];rfl
  have wbQ:=map_setT (f:=Sc.b) (x:=false) (L:=bQ.bz) (k:=k) (by rw [IQ.bl];exact k4)
  have wtQ:=map_setT (f:=fun (k:Nat)=>Sc.i k) (x:=at0+1) (L:=bQ.at') (k:=k) (by rw [IQ.tl];exact k4)
  have wa:w64 ((at0:Int)+1)=((at0+1:Nat):Int):=by rw [w64_d (by omega) (by omega)];omega
  by_cases hd:2 * jQ.L.length < stNl bQ.D.S k jQ.L jQ.s
  ·rw [decide_eq_true hd] at dn
   have Iq:=TSt.over IQ hjQ St hd (by rw [hatQ];omega)
   rw [hatQ] at Iq
   obtain ⟨v,K3,s1,s2,I3⟩:=Iq.stk
   have gL3:=Iq.oL
   have gF3:=Iq.oF
   have g13:hg (K1.set (H.length+16) (.own ((bQ.bz.set k false).map Sc.b))) K.length=.own [.i k]:=by rw [hg_set_ne' (by omega),g1]
   have gT3:hg (K1.set (H.length+16) (.own ((bQ.bz.set k false).map Sc.b))) (H.length+17)=.own (bQ.at'.map fun (k:Nat)=>Sc.i k):=by rw [hg_set_ne' (by omega),gT1]
   have t4:(lenB (.sl 0) (.c v)).isSome=true:=by rw [s2];rfl
   (repeat (first | simp (maxSteps:=9^9) only [go_sem,seval,k0,kI,k4',gL,c1Q,e1,g1,gL1,dn,gB1,blQ,wbQ,g13,gT3,tlQ,tgQ,wa,wtQ,gL3,gF3,s1,s2,t4,E1,Int.toNat_natCast] | simp (disch:=omega) only [w64_d,ipos,ineg,dpos,dneg]))
   exact ⟨⟨(i+1,K3,_),by omega,I3⟩,by simp only;omega,wkFL (by simp [Am.get])⟩
  ·rw [decide_eq_false hd] at dn
   have Iq:=TSt.on IQ hjQ hbQ St hd
   obtain ⟨v,K3,s1,s2,I3⟩:=Iq.stk
   have gL3:=Iq.oL
   have gF3:=Iq.oF
   have t4:(lenB (.sl 0) (.c v)).isSome=true:=by rw [s2];rfl
   (repeat (first | simp (maxSteps:=9^9) only [go_sem,seval,k0,kI,k4',gL,c1Q,e1,g1,gL1,dn,gL3,gF3,s1,s2,t4,E1,Int.toNat_natCast] | simp (disch:=omega) only [w64_d,ipos,ineg,dpos,dneg]))
   exact ⟨⟨(i+1,K3,_),by omega,I3⟩,by simp only;omega,wkFL (by simp [Am.get])⟩
 obtain ⟨IQ,hjQ,hbQ,c1Q,c2Q⟩:TJ H l n A Kc y∧y.J[k]?=some j∧y.bz.getD k false=true∧hg Kc K.length=.own [.i k]∧hg Kc (K.length+1)=.own QC:=⟨Ic,hj,hbz.symm,c1,c2⟩
 obtain ⟨jQ,ejQ⟩:∃jQ,jQ=j:=⟨_,rfl⟩
 rw [←ejQ] at hjQ
 have eaQ:y.at'.getD k 0=at0:=hat.symm
 have nidQ:∀i∈y.D.ids,¬(i=K.length∨i=K.length+1):=fun i hi c=>by have:=I.li.lt hi;omega
 obtain ⟨bQ,ebQ⟩:∃bQ,bQ=y:=⟨_,rfl⟩
 rw [←ebQ] at IQ hjQ hbQ eaQ nidQ
 have gL:=IQ.oL
 have lQ:=IQ.len
 have gF:=IQ.oF
 have hatQ:bQ.at'.getD k 0=at0:=eaQ
 obtain ⟨r,K1,D1,M1,R1,e1,St,dn⟩:=IQ.step hjQ hbQ (q:=qa) (by rw [←hAH,hatQ];exact hqa) (b1:=K.length) (b2:=K.length+1) (by omega) (by omega) (fun c=>nidQ _ c (Or.inl rfl)) (fun c=>nidQ _ c (Or.inr rfl)) c1Q (by rw [c2Q,hQC])
 have l1:=St.len
 have g1:hg K1 K.length=.own [.i k]:=by rw [St.far _ (by omega) (by omega) (fun c=>nidQ _ c (Or.inl rfl)),c1Q]
 have gB1:=St.oB
 have gT1:=St.oT
 have gL1:=St.oL
 have blQ:(bQ.bz.map Sc.b).length=4:=by rw [List.length_map,IQ.bl]
 have tlQ:(bQ.at'.map fun (k:Nat)=>Sc.i k).length=4:=by rw [List.length_map,IQ.tl]
 have tgQ:(bQ.at'.map fun (k:Nat)=>Sc.i k).getD k .any=.i at0:=by
  rw [←hatQ,List.getD_eq_getElem?_getD,List.getElem?_map,List.getD_eq_getElem?_getD,List.getElem?_eq_getElem (by rw [IQ.tl];exact k4)];rfl
 have wbQ:=map_setT (f:=Sc.b) (x:=false) (L:=bQ.bz) (k:=k) (by rw [IQ.bl];exact k4)
 have wtQ:=map_setT (f:=fun (k:Nat)=>Sc.i k) (x:=at0+1) (L:=bQ.at') (k:=k) (by rw [IQ.tl];exact k4)
 have wa:w64 ((at0:Int)+1)=((at0+1:Nat):Int):=by rw [w64_d (by omega) (by omega)];omega
 by_cases hd:2 * jQ.L.length < stNl bQ.D.S k jQ.L jQ.s
 ·rw [decide_eq_true hd] at dn
  have Iq:=TSt.over IQ hjQ St hd (by rw [hatQ];omega)
  rw [hatQ] at Iq
  obtain ⟨v,K3,s1,s2,I3⟩:=Iq.stk
  have gL3:=Iq.oL
  have gF3:=Iq.oF
  have g13:hg (K1.set (H.length+16) (.own ((bQ.bz.set k false).map Sc.b))) K.length=.own [.i k]:=by rw [hg_set_ne' (by omega),g1]
  have gT3:hg (K1.set (H.length+16) (.own ((bQ.bz.set k false).map Sc.b))) (H.length+17)=.own (bQ.at'.map fun (k:Nat)=>Sc.i k):=by rw [hg_set_ne' (by omega),gT1]
  have t4:(lenB (.sl 0) (.c v)).isSome=true:=by rw [s2];rfl
  (repeat (first | simp (maxSteps:=9^9) only [go_sem,seval,k0,kI,k4',gL,c1Q,e1,g1,gL1,dn,gB1,blQ,wbQ,g13,gT3,tlQ,tgQ,wa,wtQ,gL3,gF3,s1,s2,t4,E1,Int.toNat_natCast] | simp (disch:=omega) only [w64_d,ipos,ineg,dpos,dneg]))
  exact ⟨⟨(i+1,K3,_),by omega,I3⟩,by simp only;omega,wkFL (by simp [Am.get])⟩
 ·rw [decide_eq_false hd] at dn
  have Iq:=TSt.on IQ hjQ hbQ St hd
  obtain ⟨v,K3,s1,s2,I3⟩:=Iq.stk
  have gL3:=Iq.oL
  have gF3:=Iq.oF
  have t4:(lenB (.sl 0) (.c v)).isSome=true:=by rw [s2];rfl
  (repeat (first | simp (maxSteps:=9^9) only [go_sem,seval,k0,kI,k4',gL,c1Q,e1,g1,gL1,dn,gL3,gF3,s1,s2,t4,E1,Int.toNat_natCast] | simp (disch:=omega) only [w64_d,ipos,ineg,dpos,dneg]))
  exact ⟨⟨(i+1,K3,_),by omega,I3⟩,by simp only;omega,wkFL (by simp [Am.get])⟩
theorem fk_8T {s:Sc} (h:FitK s (.n .u8)):∃x,s=.k .u8 x∧0≤x∧x≤255:=by
 cases s with
 | k kd x =>
   simp only [FitK] at h
   obtain ⟨rfl,_,h⟩:=h
   exact ⟨x,rfl,h⟩
 | _=>simp [FitK] at h
theorem sig_tser (avs:List AV) (H:AH) (h:SigA [.asl 4 ksAsk,.fl false [.n .u8],.sl [.n .u8]] avs H):s_tser avs H=some (.c (.b true)):=by
 have dec:∀cs,L2 FitK cs ksAsk→∃x:Qa,cs=encQ x∧True:=fun cs gg=>⟨⟨cs,gg⟩,rfl,trivial⟩
 have de8:∀cs,L2 FitK cs [.n .u8]→∃x:Int,cs=e8T x∧(0≤x∧x≤255):=fun cs gg=>by
  obtain ⟨s1,l1,rfl,q1,g0⟩:=fit_cons gg
  obtain ⟨a,rfl,hh⟩:=fk_8T q1
  obtain rfl:=fit_nil g0
  exact ⟨a,rfl,hh⟩
 obtain ⟨l,r1,rfl,hn,hl,h1⟩:=sig_asl h
 obtain ⟨s,r2,rfl,hs,h2⟩:=sig_c h1
 obtain ⟨s0,rfl,hs0⟩:=fk_8T hs
 obtain ⟨x,r3,rfl,h3,P,hP,p8,_⟩:=sig_row (f:=e8T) (w:=1) (dc:=dc8T) (p:=fun x=>0≤x∧x≤255) de8 e8T_l dc8T_e h2
 obtain rfl:=sig_nil h3
 simp only [s_tser,hP]
 rw [if_pos]
 refine ⟨hn,fun s hs=>?_,hs0,p8⟩
 rcases hl s hs with rfl | ⟨id,n,rfl,g1,g2,g3,g4,g5,g6⟩
 ·rfl
 ·obtain ⟨L,e1,e2,e3⟩:=fit_rows dec n _ g6
  rw [slD_of encQ_l dcQ_e g2.symm e1.symm e2];rfl
end
end
end Go.Proofs.YteclombpnhociaaGreat
