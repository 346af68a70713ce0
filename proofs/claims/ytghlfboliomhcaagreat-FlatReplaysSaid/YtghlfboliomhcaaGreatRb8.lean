/- Layer 32: how far any log goes through is as the document says: the law FlatReplays. -/
import Derived.Test.YtghlfboliomhcaaGreatRb7
set_option maxRecDepth 100000
set_option maxHeartbeats 8000000
open And renaming intro->cf
open Bool renaming and_eq_true->aQ
open List renaming length_cons->cT,length_nil->fa,length_append->cj,nil_append->jW,drop_succ_cons->Dl,take_succ_cons->Ds,cons_append->lf,drop_append->zt,append_assoc->fv,getElem?_eq_getElem->cP,mem_of_getElem?->Dq,take->bJ,drop->cQ,take_left'->nQ,flatMap_singleton->Y8,flatMap_append->Hf,length_set->iR,replicate->bD
open Nat renaming le_refl->aB
open Option.some renaming injEq->ar
namespace Go.Proofs.YtghlfboliomhcaaGreat
open Go.Am
set_option linter.all false
noncomputable section
def zE:List Sc × List Sc:=let z:=(zT Tryz.prog 86).getD [];((z.drop 1).take 19,(z.drop 20).take 42)
theorem Y4:zT Tryz.prog 86=some (.i 0::(zE.1++(zE.2++[.i 0,.i 0,.i 0]))):=κ
variable {h:Int}{q:Wa}{A:List Sc}
theorem bEv (hA:A.length=42):Cr Tryz.prog 86 [(0,.c (.i h)),(1,.g (cG q)),(2,.g A)]=some (.g (.i h::(cG q++(A++[.i 0,.i 0,.i 0])))):=by
 have p0:D8 Tryz.prog (dT Tryz.prog 86) 0=some (0,1):=κ
 have p1:D8 Tryz.prog (dT Tryz.prog 86) 1=some (1,19):=κ
 have p2:D8 Tryz.prog (dT Tryz.prog 86) 2=some (20,42):=κ
 have ag:(dT Tryz.prog 86).agg=true:=κ
 obtain ⟨u,hu,hul⟩:∃u,zE.1=u/\u.length=19:=⟨_,rfl,κ⟩
 obtain ⟨v,hv,hvl⟩:∃v,zE.2=v/\v.length=42:=⟨_,rfl,κ⟩
 have wl:(cG q).length=19:=rfl
 generalize cG q=w at wl |-
 unfold Cr
 rw [Y4,ag,hu,hv]
 simp only [vW,p0,p1,p2,AV.cells,wl,hA,hul,hvl,wr,cT,fa,cj,List.take_zero,jW,Dl,List.drop_zero,List.singleton_append,Ds,lf]
 simp [List.take_append,zt,wl,hA,hul,hvl]
theorem fEv (hA:A.length=42):vW (D8 Tryz.prog (dT Tryz.prog 86)) ((zT Tryz.prog 86).getD []) [(0,.c (.i h)),(1,.g (cG q)),(2,.g A)]=some (.i h::(cG q++(A++[.i 0,.i 0,.i 0]))):=by
 have e:=bEv (h:=h) (q:=q) hA
 have ag:(dT Tryz.prog 86).agg=true:=κ
 unfold Cr at e
 rw [ag,Y4] at e
 rw [Y4]
 simp only [Option.map_eq_some_iff,AV.g.injEq] at e
 obtain ⟨a,e1,e2⟩:=e
 rw [Option.getD_some,e1,e2]
theorem arK{P:Program}{aa:ja}{full:Array Oper}{os:List Oper}{k:List It}{Q:Fr->AH->Prop}{d:Option Nat}{fr:Fr}{r:Option (AV×AH)}{z:Option (AV->AH->Prop)} (h:∀R:Fr,(∀i,Am.get R i=Am.get fr i)->xH P aa full os k Q d R r z):xH P aa full os k Q d fr r z:=h fr λ_=>rfl
section
variable {H:AH}
def Jj (args:List AV) (H:AH):Option AV :=
 match args with
 | [.g [.i _,.i _,.i _,.i _],.c x,.c (.i cJ),.g b] =>
   match dh 20 Fz H x with
   | some L=>open Classical in if L.length<=9223372036854775807/\(∀e∈L,eC e.q.s)/\eC cJ/\vg b then some (.c (.b true)) else none
   | _=>none
 | _=>none
theorem as3:bh Tryz.prog 4 (λargs H=>(Jj args H).map λv=>(v,H)):=by
 refine jo (s:=Jj) (tu au1 (tu as2 (tp adl (tp asS (tp adj (tp ata (tq ate (tp auZ (tp au0 (tp atn tn)))))))))) Tryz.func4 rfl Tryz.results4 Tryz.ntmps4 ?_
 intro args H v h b9 hH
 unfold Jj at h
 split at h <;> try (simp at h;done)
 rename_i h0 t n b x cJ ba
 split at h <;> try (simp at h;done)
 rename_i L hL
 split at h <;> try (simp at h;done)
 rename_i hc
 obtain ⟨hn,F3,hat,O0⟩:=hc
 simp only [ar] at h
 subst h
 refine ⟨by simp,rfl,?_⟩
 have bx:x.aj H.length=true:=by simp only [List.all_cons,AV.aj,aQ] at b9;exact b9.2.1
 have xl:∀e,nH (.sl e) (.c x)=some (.c (.i L.length)):=by rcases xT aaR hL with ⟨rfl,rfl⟩ | ⟨id,v,rfl,_,_⟩ <;> intro e <;> rfl
 have xs:(nH (.sl 0) (.c x)).isSome=true:=by rw [xl];rfl
 have bl:=O0.l
 have bo:=O0.o
 have bt:=O0.t
 cases hr:Eh h0 t n b with
 | false =>
   simp only [go_sem,seval,bl,bo,bt,QN,hr,Ji]
   exact aC _ _
 | true =>
 have ve:=hr
 simp only [Eh,G9,aQ,decide_eq_true_eq] at ve
 obtain ⟨⟨a1,a2⟩,⟨b1,b2⟩,⟨c1,c2⟩,d1,d2⟩:=ve
 by_cases Vj:20 < n
 .simp only [go_sem,seval,bl,bo,bt,QN,hr,Vj,Ji]
  exact aC _ _
 by_cases l60:60 < L.length
 .have UM:(60:Int) < L.length:=ω
  simp only [go_sem,seval,bl,bo,bt,QN,hr,Vj,xl,xs,xf,UM,Ji]
  exact aC _ _
 have UM:¬(60:Int) < L.length:=ω
 obtain ⟨x0,mu⟩:∃x0,x0=zk (H.length+2) h0 t n b:=⟨_,rfl⟩
 obtain ⟨K1,Cy⟩:∃K1:AH,K1=H++([.own [.i h0,.i t,.i n,.i b],.own ba]++Ah (H.length+2) h0 t n b):=⟨_,rfl⟩
 have l1:K1.length=H.length+7:=by rw [Cy];simp [Ah]
 have p1:C8 [.g [.i h0,.i t,.i n,.i b]] (H++[.own [.i h0,.i t,.i n,.i b],.own ba])=some (.t [.c (.p (H.length+6) 0 0),.c (.i 0)],K1):=by
  simp only [C8]
  rw [awH,if_pos hr,Cy]
  simp
 have w1:WI K1 x0:=by
  have w:=aBK (H:=H++[.own [.i h0,.i t,.i n,.i b],.own ba]) (t:=t) (b:=b) ⟨a1,a2⟩ ⟨c1,c2⟩
  have e2:(H++[ae.own [.i h0,.i t,.i n,.i b],.own ba]).length=H.length+2:=by simp
  rw [e2] at w
  rw [Cy,mu]
  simpa only [fv] using w
 have Rr:x0.w.p=H.length+6:=by rw [mu];rfl
 have Y3:x0.D.t.A=[]/\x0.D.t.B=[]:=by rw [mu];exact ⟨rfl,rfl⟩
 have JX:x0.D.x=.az/\x0.D.y=.az:=by rw [mu];exact ⟨rfl,rfl⟩
 have fw0:AT x0.D.t:=⟨by rw [Y3.1];decide,by rw [Y3.2];decide⟩
 have p2:=W7 w1 fw0
 rw [Rr,l1] at p2
 obtain ⟨f,hf⟩:∃f,f=jn K1.length x0:=⟨_,rfl⟩
 have ef:jr f x0:=by rw [hf];exact ⟨rfl,rfl⟩
 have fp:f.w.p=H.length+12:=by rw [hf];show K1.length+5=_;omega
 obtain ⟨Kb,FI⟩:∃Kb,Kb=K1++qN K1.length x0:=⟨_,rfl⟩
 rw [l1] at FI
 have Py:Kb.length=H.length+13:=by rw [FI,cj,SS,l1]
 rw [<-FI] at p2
 have wf:WI Kb f:=by rw [hf,FI,<-l1];exact SU w1
 have wb:WI Kb x0:=by rw [FI];exact w1.app _
 have ws0:WS Kb Kb x0 x0 .az .az 0:=by
  have:=WS.refl wb
  rw [JX.1,JX.2] at this
  exact this
 have e50:(H.length+7+5)=H.length+12:=ω
 rw [e50] at p2
 simp only [go_sem,seval,bl,bo,bt,QN,hr,Vj,xl,xs,xf,UM,p1,p2]
 rw [rz]
 refine ⟨{s:Nat × AH × Wd × Sc × Sc × Wd × Sc × List jX // s.1<=L.length/\Hu H [] [] Kb s.2.1 x0 f s.2.2.1 s.2.2.2.1 s.2.2.2.2.1 s.2.2.2.2.2.1 s.2.2.2.2.2.2.1 s.2.2.2.2.2.2.2 s.1},
  λs=>([(1,.c x),(2,.c (.i cJ)),(4,.c (.p H.length 0 0)),(7,.c (.p (H.length+1) 0 0)),(8,.c (.b false)),(9,.c (.p (H.length+6) 0 0)),(11,.c (.p (H.length+12) 0 0)),(12,.c s.1.2.2.2.2.2.2.1),(13,.c (.i s.1.1))],s.1.2.1),λs=>L.length - s.1.1,
  ⟨(0,Kb,x0,.az,.az,f,.az,[]),by simp,ws0,.inl ⟨rfl,rfl⟩,rfl,ef,λe he=>by simp at he,aB _⟩,Wk.fr (by simp [Am.get]),?_⟩
 rintro ⟨⟨k,K,z,u,v,g,ls,E⟩,hk,I⟩
 simp only at hk I |-
 by_cases aG:k < L.length
 .rcases xT aaR hL with ⟨rfl,rfl⟩ | ⟨id,aX,rfl,hv,cu⟩
  .simp at aG
  have aD:id < H.length:=by simpa [Sc.aj] using bx
  obtain ⟨e,he⟩:∃a,L[k]?=some a:=⟨_,cP aG⟩
  have hse:eC e.q.s:=F3 e (Dq he)
  obtain ⟨uU,a,b',f1,tX,q1,s1,lg1,n1,n2⟩:=I.step Y3 ω e hse
  rw [Rr] at f1
  have jT:∀j,j < H.length->∀(K:AH) z u v n,WS Kb K x0 z u v n->hg K j=hg H j:=λj hj K z u v n s=>by
   rw [s.dj j ω ⟨by rw [Rr];omega,by rw [mu];show j≠H.length+2+3;omega,by rw [mu];show j≠H.length+2+2;omega,by rw [mu];show j≠H.length+2+1;omega,by rw [JX.1];simp [aJ],by rw [JX.2];simp [aJ]⟩,FI,cB ω,Cy,cB hj]
  have gk:=jT id aD _ _ _ _ _ I.ws
  have gk1:=jT id aD _ _ _ _ _ s1
  have kl:H.length+13<=uU.length:=by have:=s1.len;omega
  have UH:∀Y,hg (uU++Y) id=hg H id:=λY=>by rw [cB ω];exact gk1
  have g1:=FD Ow (L:=L) (k:=k) aG
  have c0:(hg H id).cells.getD (k * 20) .any=.i e.h:=by
   have:=Tu Ow he (i:=0) δ
   rw [Nat.add_zero] at this
   rw [cu,this];rfl
  have c1:bJ 19 (cQ (k * 20+1) (hg H id).cells)=cG e.q:=by
   obtain ⟨P,Q,s1,s2,_⟩:=Bf Ow he
   rw [cu,s1,<-s2,fv,<-List.drop_drop,List.drop_left]
   exact nQ (show (cG e.q).length=19 from rfl)
  rw [<-cu] at g1
  have oP:(k:Int) < (L.length:Int):=ω
  have k0:(0:Int)<=(k:Int):=ω
  have E1:aA ((k:Int)+1)=((k+1:Nat):Int):=by rw [aq ω ω];omega
  have hA:=Tl z e.h e.q
  obtain ⟨A,Bh⟩:∃A,A=jD z e.h e.q:=⟨_,rfl⟩
  rw [<-Bh] at hA f1
  have al:=hA.l
  have ao:=hA.o
  have Sn:=hA.t
  have n0:∀X,hg (uU++X) uU.length=hg X 0:=λX=>km
  have s0:∀X o,(uU++X).set uU.length o=uU++X.set 0 o:=λX o=>zd
  have mR:=hv.symm
  cases hm:dx z e.h e.q
  .rw [hm] at f1
   have J:=n1 hm
   (repeat (first | simp only [go_sem,seval,xl,oP,k0,g1,c0,c1,gk,mR,UH,f1,n0,s0,al,ao,Sn,E1] | simp (disch:=omega) only [w0]))
   (repeat' first | apply cf | exact ot tX κ | (intro c;exact absurd c ω) | (intro _;kernel_rfl) | kernel_rfl)
   exact ⟨⟨(k+1,uU++[.own A],ek z e.h e.q,a,b',g,ls,E),by simp only;omega,⟨J.ws.app _ rfl,J.lg.app _,J.rp,J.eq,J.hs,J.le⟩⟩,by simp only;omega,Wk.fr (by simp [Am.get])⟩
  .rw [hm] at f1
   obtain ⟨m1,m2,m3,m4⟩:=n2 hm
   have wl:(cG e.q).length=19:=rfl
   have fe:=fEv (h:=e.h) (q:=e.q) al
   simp only [agN,aaP,Option.getD_some] at fe
   obtain ⟨V,hV⟩:∃V,V=fU (Cv z e):=⟨_,rfl⟩
   have Vl:V.length=65:=by rw [hV];exact vS _
   have Vo:V.all Sc.one=true:=by rw [hV];exact aba _
   have Vt:bJ 65 V=V:=List.take_of_length_le (by rw [Vl];exact aB _)
   have Ve:Sc.i e.h::(cG e.q++(A++[.i 0,.i 0,.i 0]))=V:=by rw [hV,Bh];rfl
   rw [Ve] at fe
   rcases lg1 with ⟨rfl,rfl⟩ | ⟨il,rfl,y1,y2,y3,y4⟩
   ·(repeat (first | simp only [go_sem,seval,xl,oP,k0,g1,c0,c1,gk,mR,UH,f1,n0,s0,al,ao,Sn,E1,fe,wl,Vl,Vo,Vt] | simp (disch:=omega) only [w0]))
    (repeat' first | apply cf | exact ot tX κ | (intro c;exact absurd c ω) | (intro _;kernel_rfl) | kernel_rfl)
    exact ⟨⟨(k+1,uU++[.own A,.vec 65 V,.vec 65 V],ek z e.h e.q,a,b',ek g e.h e.q,.sl (uU.length+2) 0 65 1,[Cv z e]),by simp only;omega,⟨s1.app _ rfl,.inr ⟨uU.length+2,by rw [Y8,<-hV,Vl];rfl,by rw [gM,Y8,<-hV];rfl,by have:=s1.len;omega,by simp,s1.wi.lt ω⟩,m1,m2,m3,m4⟩⟩,by simp only;omega,Wk.fr (by simp [Am.get])⟩
   .have gl:∀X,hg (uU++X) il=_:=λX=>(cB y3).trans y1
    have sl:∀X o,(uU++X).set il o=uU.set il o++X:=λX o=>List.set_append_left _ _ y3
    have aC6:(E.flatMap fU).length=E.length * 65:=by rw [pF (λe=>vS e)]
    have SH:(E.length+1) * 520<=1099511627776:=by have:=I.le;omega
    (repeat (first | simp only [go_sem,seval,xl,oP,k0,g1,c0,c1,gk,mR,UH,f1,n0,s0,al,ao,Sn,E1,fe,wl,Vl,Vo,Vt,gl,sl] | simp (disch:=omega) only [w0]))
    (repeat' first | apply cf | exact ot tX κ | (intro c;exact absurd c ω) | (intro _;kernel_rfl) | kernel_rfl)
    exact ⟨⟨(k+1,uU.set il (.vec 65 (E.flatMap fU++V))++[.own A,.vec 65 V],ek z e.h e.q,a,b',ek g e.h e.q,.sl il 0 ((E.flatMap fU).length+65) (E.length+1),E++[Cv z e]),by simp only;omega,⟨(s1.set y2 y4 _).app _ rfl,.inr ⟨il,by rw [Hf,Y8,<-hV,cj,cj,Vl];rfl,by rw [cB (by rw [iR];exact y3),iN y3];show _=ae.vec 65 ((E++[Cv z e]).flatMap fU);rw [Hf,Y8,<-hV],y2,by rw [cj,iR];omega,y4⟩,m1,m2,m3,m4⟩⟩,by simp only;omega,Wk.fr (by simp [Am.get])⟩
 .obtain rfl:k=L.length:=ω
  have kI:¬((L.length:Int) < (L.length:Int)):=ω
  have lK:=I.ws.len
  obtain ⟨K3,q1,q2,nv2,l3,k3,Ns,q3⟩:=I.cl (h0:=h0) mu l1 w1 hf wf Py ω
  have VQ:∀j,j < H.length+2->hg K j=hg K1 j:=λj hj=>by
   rw [I.ws.dj j ω ⟨by rw [Rr];omega,by rw [mu];show j≠H.length+2+3;omega,by rw [mu];show j≠H.length+2+2;omega,by rw [mu];show j≠H.length+2+1;omega,by rw [JX.1];simp [aJ],by rw [JX.2];simp [aJ]⟩,FI,cB ω]
  have k1c:hg K1 H.length=.own [.i h0,.i t,.i n,.i b]:=by rw [Cy,km];rfl
  have k1b:hg K1 (H.length+1)=.own ba:=by rw [Cy,gM];rfl
  have xe:∀e,nH (.sl e) (.c ls)=some (.c (.i E.length)):=by rcases I.lg with ⟨rfl,rfl⟩ | ⟨id,rfl,_⟩ <;> intro e <;> rfl
  have FM:∀i,aJ ls=some i->H.length+13<=i/\i < K.length:=λi hi=>by
   rcases I.lg with ⟨rfl,_⟩ | ⟨id,rfl,_,h2,h3,_⟩
   .simp [aJ] at hi
   .simp only [aJ,ar] at hi
    subst hi
    omega
  have lg3:Lg Kb.length K3 (z.sl u v) ls E:=by
   rcases I.lg with h | ⟨id,e0,e1,e2,e3,e4⟩
   .exact .inl h
   .exact .inr ⟨id,e0,by rw [k3 _ e3];exact e1,e2,ω,e4⟩
  have c3:hg K3 H.length=.own [.i h0,.i t,.i n,.i b]:=by rw [k3 _ ω,VQ _ ω,k1c]
  have b3:hg K3 (H.length+1)=.own ba:=by rw [k3 _ ω,VQ _ ω,k1b]
  have YV:WI K3 f:=Ns.stay λj hj _=>k3 j hj
  have H3:∀j,j < H.length->hg K3 j=hg H j:=λj hj=>by rw [k3 _ ω,VQ _ ω,Cy,cB hj]
  have eL:=I.le
  simp only [go_sem,seval,xl,kI,q1]
  rw [q2]
  refine arK λR hR=>?_
  have r2:Am.get R 2=.c (.i cJ):=(hR 2).trans rfl
  have r4:Am.get R 4=.c (.p H.length 0 0):=(hR 4).trans rfl
  have r7:Am.get R 7=.c (.p (H.length+1) 0 0):=(hR 7).trans rfl
  have r9:Am.get R 9=.c (.p (H.length+6) 0 0):=(hR 9).trans rfl
  have Wn:Am.get R 11=.c (.p (H.length+12) 0 0):=(hR 11).trans rfl
  have Wo:Am.get R 12=.c ls:=(hR 12).trans rfl
  have Ed:Am.get R 16=.c (.p (K.length+5) 0 0):=(hR 16).trans rfl
  clear hR
  by_cases yC:0<=cJ
  .by_cases sA:cJ < (E.length:Int)
   .rcases I.lg with ⟨rfl,rfl⟩ | ⟨id,rfl,g1,g2,g3,g4⟩
    .exact absurd sA (by rw [fa];omega)
    obtain ⟨k,rfl⟩:=Int.eq_ofNat_of_zero_le yC
    have klt:k < E.length:=ω
    obtain ⟨e,he⟩:∃a,E[k]?=some a:=⟨_,cP klt⟩
    have gi:hg K3 id=.vec 65 (E.flatMap fU):=(k3 _ g3).trans g1
    have le:=FD vS (L:=E) (k:=k) klt
    have le2:k * 65+62<=(E.flatMap fU).length:=ω
    obtain ⟨E',hE⟩:∃E',E'=E.set k ⟨e.h,e.q,ba,e.f,e.t,e.o,O0⟩:=⟨_,rfl⟩
    have zZ:bJ (k * 65+20) (E.flatMap fU)++(ba++cQ (k * 65+20+42) (E.flatMap fU))=E'.flatMap fU:=by
     obtain ⟨P,Q,s1,s2,s3⟩:=Bf vS he
     rw [hE,s3,s1,<-s2]
     have:=JN (P:=P) (M:=fU e) (Q:=Q) (l:=ba) (o:=20) (by rw [bl,vS];omega)
     rw [bl] at this
     rw [<-fv,this]
     congr 2
     unfold fU
     rw [show (20+42:Nat)=19+42+1 by rfl,show (20:Nat)=19+1 by rfl,Ds,Dl,<-JS e.q,nQ,zt,List.drop_of_length_le ω,jW,Nat.add_sub_cancel_left,<-e.ha.l,List.drop_left']
     .simp only [lf,fv]
     .rfl
     .rfl
    have lE:E'.length=E.length:=by rw [hE,iR]
    have lV:(E'.flatMap fU).length=(E.flatMap fU).length:=by rw [pF vS,pF vS,lE]
    obtain ⟨K4,zN⟩:∃K4:AH,K4=K3.set id (.vec 65 (E'.flatMap fU)):=⟨_,rfl⟩
    have l4:K4.length=K3.length:=by rw [zN,iR]
    have f4:∀j,j≠id->hg K4 j=hg K3 j:=λj hj=>by rw [zN,ej ω]
    have idl:=FM id rfl
    have lg4:dh 65 xq K4 (.sl id 0 (E.flatMap fU).length E.length)=some E':=by
     have g:hg K4 id=.vec 65 (E'.flatMap fU):=by rw [zN,iN ω]
     rw [<-lV,<-lE]
     exact B4 vS aaS (by rw [g];rfl) rfl (by rw [g];rfl)
    have hs4:∀e∈E',eC e.q.s:=λa ha=>by
     rw [hE] at ha
     rcases List.mem_or_eq_of_mem_set ha with h | rfl
     .exact I.hs a h
     .exact I.hs e (Dq he)
    have wf4:WI K4 f:=YV.stay λj hj na=>f4 j λc=>na (by rw [c,hf];exact Kx (.inr ω))
    have c4:hg K4 H.length=.own [.i h0,.i t,.i n,.i b]:=by rw [f4 _ ω];exact c3
    rw [<-lE] at eL
    obtain ⟨SX,K5,y1,y2,y3,y4,LW,k5,l5,S',i,q,K6,y5,y6,y7,y8,nv6,k6,l6,K7,y9,nv7,k7,l7,s7,X,yx⟩:=Tq mu ⟨a1,a2⟩ ⟨c1,c2⟩ l1 hf wf4 ω lg4 (λi hi=>⟨(FM i hi).1,by have:=(FM i hi).2;omega⟩) ω hs4
    have fin:∀Y,qz H (K7++Y):=λY=>Q7 (by rw [cj];omega) λi hi=>by rw [cB ω,k7 i ω,f4 i ω];exact H3 i hi
    have n0:∀X,hg (K6++X) K6.length=hg X 0:=λX=>km
    have s0:∀X o,(K6++X).set K6.length o=K6++X.set 0 o:=λX o=>zd
    have aok:=zN.symm
    cases q
    all_goals simp -implicitDefEqProofs only [go_sem,seval,r2,r4,r7,r9,Wn,Wo,Ed,q3,xe,yC,sA,c3,b3,gi,bl,bo,bt,le,le2,zZ,aok,c4,y1,y2,y3,y4,y5,y6,y7,y8,y9,s7,yx,wQ,rX,uQ,n0,s0,Ji]
    all_goals exact fin _
   .obtain ⟨SX,K5,y1,y2,y3,y4,LW,k5,l5,S',i,q,K6,y5,y6,y7,y8,nv6,k6,l6,K7,y9,nv7,k7,l7,s7,X,yx⟩:=Tq mu ⟨a1,a2⟩ ⟨c1,c2⟩ l1 hf YV ω lg3.dh (λi hi=>⟨(FM i hi).1,by have:=(FM i hi).2;omega⟩) ω I.hs
    have fin:∀Y,qz H (K7++Y):=λY=>Q7 (by rw [cj];omega) λi hi=>by rw [cB ω,k7 i ω];exact H3 i hi
    have n0:∀X,hg (K6++X) K6.length=hg X 0:=λX=>km
    have s0:∀X o,(K6++X).set K6.length o=K6++X.set 0 o:=λX o=>zd
    cases q
    all_goals simp -implicitDefEqProofs only [go_sem,seval,r2,r4,r9,Wn,Wo,Ed,q3,xe,yC,sA,c3,y1,y2,y3,y4,y5,y6,y7,y8,y9,s7,yx,wQ,rX,uQ,n0,s0,Ji]
    all_goals exact fin _
  .obtain ⟨SX,K5,y1,y2,y3,y4,LW,k5,l5,S',i,q,K6,y5,y6,y7,y8,nv6,k6,l6,K7,y9,nv7,k7,l7,s7,X,yx⟩:=Tq mu ⟨a1,a2⟩ ⟨c1,c2⟩ l1 hf YV ω lg3.dh (λi hi=>⟨(FM i hi).1,by have:=(FM i hi).2;omega⟩) ω I.hs
   have fin:∀Y,qz H (K7++Y):=λY=>Q7 (by rw [cj];omega) λi hi=>by rw [cB ω,k7 i ω];exact H3 i hi
   have n0:∀X,hg (K6++X) K6.length=hg X 0:=λX=>km
   have s0:∀X o,(K6++X).set K6.length o=K6++X.set 0 o:=λX o=>zd
   cases q
   all_goals simp -implicitDefEqProofs only [go_sem,seval,r2,r4,r9,Wn,Wo,Ed,q3,xe,yC,c3,y1,y2,y3,y4,y5,y6,y7,y8,y9,s7,yx,wQ,rX,uQ,n0,s0,Ji]
   all_goals exact fin _
end
def rqK:List K:=[.q,.q,.q,.n .u64,.n .i64]
theorem afc:∀(n:Nat)(cs:List Sc)(ks:List K),L2 jY cs ((bD n rqK).flatten++ks)->∃(R:List Rq)(m:List Sc),R.length=n/\cs=R.flatMap fV++m/\L2 jY m ks
 |0,cs,ks,h=>⟨[],cs,rfl,rfl,h⟩|n+1,cs,ks,h=>by
   rw[List.replicate_succ,List.flatten_cons,fv]at h;obtain⟨a,_,rfl,ka,g1⟩:=ku h;obtain⟨b,_,rfl,kb,g2⟩:=ku g1;obtain⟨c,_,rfl,kc,g3⟩:=ku g2;obtain⟨d,_,rfl,kd,g4⟩:=ku g3;obtain⟨e,_,rfl,ke,g5⟩:=ku g4;obtain⟨a,rfl⟩:=DI ka;obtain⟨b,rfl⟩:=DI kb;obtain⟨c,rfl⟩:=DI kc;obtain⟨d,rfl⟩:=Cw kd;obtain⟨e,rfl,_⟩:=u5 ke;obtain⟨R,m,h1,rfl,h3⟩:=afc n _ ks g5;exact⟨⟨a,b,c,d,e⟩::R,m,by rw[cT,h1],rfl,h3⟩
theorem ah7(cs:List Sc)(h:L2 jY cs (.n .u64::.q::((bD 8 rqK).flatten++[]))):vg cs:=by
 obtain⟨a,_,rfl,ka,g1⟩:=ku h;obtain⟨b,_,rfl,kb,g2⟩:=ku g1;obtain⟨a,rfl⟩:=Cw ka;obtain⟨b,rfl⟩:=DI kb;obtain⟨R,m,h1,rfl,h3⟩:=afc 8 _ _ g2;obtain rfl:=OA h3;exact⟨a,b,⟨R,h1⟩,by rw[List.append_nil];rfl⟩
theorem azL(fC:List AV)(H:AH)(h:j4 [.fl true [.n .i64,.n .i64,.n .i64,.n .i64],.sl [.n .i64,.n .i64,.n .u64,.n .u64,.n .i64,.n .i64,.n .i64,.n .u64,.n .u64,.q,.n .i64,.q,.q,.q,.n .u64,.n .i64,.n .i64,.n .u64,.n .i64,.n .u64],.fl false [.n .i64],.fl true [.n .u64,.q,.q,.q,.q,.n .u64,.n .i64,.q,.q,.q,.n .u64,.n .i64,.q,.q,.q,.n .u64,.n .i64,.q,.q,.q,.n .u64,.n .i64,.q,.q,.q,.n .u64,.n .i64,.q,.q,.q,.n .u64,.n .i64,.q,.q,.q,.n .u64,.n .i64,.q,.q,.q,.n .u64,.n .i64]] fC H):Jj fC H=some (.c (.b true)):=by
 obtain⟨l,r,rfl,g,h2⟩:=afV h;obtain⟨s1,t1,rfl,k1,g⟩:=ku g;obtain⟨s2,t2,rfl,k2,g⟩:=ku g;obtain⟨s3,t3,rfl,k3,g⟩:=ku g;obtain⟨s4,t4,rfl,k4,g⟩:=ku g;obtain rfl:=OA g;obtain⟨a,rfl,_⟩:=u5 k1;obtain⟨b,rfl,_⟩:=u5 k2;obtain⟨c,rfl,_⟩:=u5 k3;obtain⟨d,rfl,_⟩:=u5 k4;obtain⟨x,r,rfl,h3,L,hL,hp,hl⟩:=azN (f:=KG) (w:=20) (dc:=Fz) (p:=λe=>eC e.q.s) alU Ow alW h2;obtain⟨s,r,rfl,k0,h4⟩:=azK h3;obtain⟨e,rfl,e1,e2⟩:=u5 k0;obtain⟨g,r,rfl,k0,h5⟩:=afV h4;obtain rfl:=azM h5;have ha:=ah7 g k0;simp only[Jj,hL];rw[if_pos ⟨hl,hp,⟨e1,e2⟩,ha⟩]
end
end Go.Proofs.YtghlfboliomhcaaGreat
