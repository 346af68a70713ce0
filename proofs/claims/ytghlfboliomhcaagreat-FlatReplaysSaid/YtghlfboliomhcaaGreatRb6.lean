/- Layer 18: a bus: what stands in it, lines, what is read and written: contracts. -/
import Derived.Test.YtghlfboliomhcaaGreatRb5
import Derived.Test.YtghlfboliomhcaaGreatRb4
set_option maxRecDepth 100000
set_option maxHeartbeats 8000000
open And renaming intro->cf
open BitVec renaming ofInt->aw,toNat_ofInt->mf,eq_of_toNat_eq->mB,toNat_add->wU,ofNat->kD,toNat_ofNat->vB,toNat_umod->zp,toNat_udiv->wW,toNat_sub->zo,toNat_mul->Cc,le_def->sY,lt_def->nP,and_assoc->Y5,ushiftRight_zero->RD,toNat_ushiftRight->Hc,add_eq_or_of_and_eq_zero->RA,eq_of_getLsbD_eq->AR,getLsbD_one->RB,getLsbD_and->sW,getLsbD_or->wT,getLsbD_not->E9,toInt_eq_toNat_cond->x9
open Bool renaming false_eq_true->dL,and_self->Ny,and_true->c8,false_and->ph,true_and->gG,or_false->vC,and_false->rY,and_eq_true->aQ,or_eq_true->gj
open Int renaming toNat_natCast->aL,le_refl->AS,eq_ofNat_of_zero_le->kZ
open List renaming append_inj->s5,append_nil->m7,length_append->cj,length_cons->cT,length_nil->fa,length_set->iR,take_of_length_le->bQ,append_assoc->fv,take->bJ,take_left'->nQ,drop->cQ,drop_left'->vE,drop_append->zt,drop_of_length_le->kN,nil_append->jW,range->pj,all_map->vF,all_eq_true->cE,all_append->fJ,all_cons->bK,all_nil->dY,getD_eq_getElem?_getD->bX,getElem?_map->qL,getElem?_range->RI,ext_getElem?->wX,getElem?_set->rq,length_map->ui,getElem?_eq_none->kf,getElem?_eq_getElem->cP,map_set->Dp,mem_singleton->wZ,cons_append->lf,replicate->bD,replicate_succ->yc,mem_cons->uT,not_mem_nil->J9,take_length->vH
open List.cons renaming injEq->cL
open Nat renaming le_refl->aB,not_lt_zero->NC,and_two_pow_sub_one_eq_mod->agZ,shiftRight_eq_div_pow->Hq,lt_or_ge->cX,add_assoc->m9
open Option.some renaming inj->Kd,injEq->ar
open Prod.mk renaming injEq->bE
namespace Go.Proofs.YtghlfboliomhcaaGreat
open Go.Am
set_option linter.all false
noncomputable section
variable {K' K1 X:AH}{t:Pt}{x y x':Sc}{j:Nat}{o:ae}{n s:Int}
section
structure Bs where
 n:Int
 c:Ck
 k:Pk
def fP(pid:Nat)(b:Bs):List Sc:=.p pid 0 0::.i b.n::(aR b.c++eJ b.k)
structure nS(b:Bs):Prop where
 c:hF b.c
 k:cM b.k
 n0:1<=b.n
 n1:b.n<=8
 nc:b.c.n=b.n
 nk:b.k.n=b.n
theorem aab{pid:Nat}{b:Bs}(h:nS b):(fP pid b).length=88:=by simp[fP,gp h.c,Al h.k]
theorem ajv{p q:Nat}{a b:Bs}(ha:nS a)(hb:nS b)(h:fP p a=fP q b):p=q/\a=b:=by
 simp only[fP,cL,Sc.p.injEq,Sc.i.injEq,and_true]at h;obtain⟨h1,h2,h3⟩:=h;obtain⟨h4,h5⟩:=s5 h3 (by rw[gp ha.c,gp hb.c]);have e1:=SN.i _ _ ha.c hb.c h4;have e2:=V7.i _ _ ha.k hb.k h5;refine⟨h1,?_⟩;cases a;cases b;simp only at h2 e1 e2;subst h2 e1 e2;rfl
structure Bd where
 id:Nat
 pid:Nat
 b:Bs
 t:Pt
 x:Sc
 y:Sc
structure BI(K:AH)(D:Bd):Prop where
 ho:hg K D.id=.own (fP D.pid D.b)ok:nS D.b
 pi:PI K D.pid D.t D.x D.y
theorem aaa{K:AH}{x:Sc}{A B:List Int}(h1:vK K x A)(h2:vK K x B):A=B:=by
 have a:=N0 h1;rw[N0 h2]at a;exact(Kd a).symm
theorem av1{K:AH}{h:Nat}{t u:Pt}{x y x' y':Sc}(h1:PI K h t x y)(h2:PI K h u x' y'):t=u/\x=x'/\y=y':=by
 have e:=h1.hp;rw[h2.hp]at e;simp only[ae.own.injEq,iy,iJ,cL,Sc.k.injEq,Sc.b.injEq,true_and,and_true]at e;obtain⟨e1,e2,e3,e4,e5,e6,e7,e8,e9,KE,KF⟩:=e;subst KE KF;have a:=aaa h1.hx h2.hx;have b:=aaa h1.hy h2.hy;refine⟨?_,rfl,rfl⟩;cases t;cases u;simp only at e1 e2 e3 e4 e5 e6 e7 e8 e9 a b;subst e1 e2 e3 e4 e5 e6 e7 e8 e9 a b;rfl
theorem BI.uniq{K:AH}{D E:Bd}(h1:BI K D)(h2:BI K E)(h:D.id=E.id):D=E:=by
 have e:=h1.ho;rw[h,h2.ho]at e;obtain⟨e1,e2⟩:=ajv h2.ok h1.ok (ae.own.inj e);have p:=h1.pi;rw[<-e1]at p;obtain⟨e3,e4,e5⟩:=av1 p h2.pi;cases D;cases E;simp only at h e1 e2 e3 e4 e5;subst h e1 e2 e3 e4 e5;rfl
variable {K:AH}{D:Bd}
theorem BI.aD(h:BI K D):D.id<K.length:=eu (by rw[h.ho];rfl)
theorem BI.LO(h:BI K D):D.pid<K.length:=h.pi.lt
theorem BI.ne(h:BI K D):D.id≠D.pid:=λe=>by
 have a:=h.pi.hp;rw[<-e,h.ho]at a;have:=congrArg List.length (ae.own.inj a);rw[aab h.ok]at this;simp[iy]at this
theorem BI.nx(h:BI K D):aJ D.x≠some D.id:=λe=>by have:=(pC h.pi.hx e).2;rw[h.ho]at this;simp at this
theorem BI.ny(h:BI K D):aJ D.y≠some D.id:=λe=>by have:=(pC h.pi.hy e).2;rw[h.ho]at this;simp at this
theorem BI.l(h:BI K D):(fP D.pid D.b).length=88:=aab h.ok
theorem BI.ck(h:BI K D):tC K (.p D.id 2 0)=some D.b.c:=SL (A:=[.p D.pid 0 0,.i D.b.n]) (B:=eJ D.b.k) (by rw[h.ho];rfl) h.ok.c
theorem BI.pk(h:BI K D):rh K (.p D.id 20 0)=some D.b.k:=by
 have:=PY (H:=K) (id:=D.id) (A:=.p D.pid 0 0::.i D.b.n::aR D.b.c) (B:=[]) (c:=D.b.k) (by rw[h.ho,m7];rfl) h.ok.k;rw[show(Sc.p D.pid 0 0::.i D.b.n::aR D.b.c).length=20 by simp[gp h.ok.c]]at this;exact this
theorem BI.zG(h:BI K D)(d:Ck):zG K (.p D.id 2 0) d=K.set D.id (.own (fP D.pid {D.b with c:=d})):=by
 have:=EL (enc:=aR) (n:=18) (H:=K) (id:=D.id) (A:=[.p D.pid 0 0,.i D.b.n]) (B:=eJ D.b.k) (a:=D.b.c) (b:=d) (by rw[h.ho];rfl) (gp h.ok.c);exact this
theorem BI.qw(h:BI K D)(d:Pk):qw K (.p D.id 20 0) d=K.set D.id (.own (fP D.pid {D.b with k:=d})):=by
 have:=EL (enc:=eJ) (n:=68) (H:=K) (id:=D.id) (A:=.p D.pid 0 0::.i D.b.n::aR D.b.c) (B:=[]) (a:=D.b.k) (b:=d) (by rw[h.ho,m7];rfl) (Al h.ok.k);rw[show(Sc.p D.pid 0 0::.i D.b.n::aR D.b.c).length=20 by simp[gp h.ok.c],m7]at this;exact this
theorem BI.app(h:BI K D)(X:AH):BI (K++X) D:=⟨by rw[nC h.aD];exact h.ho,h.ok,V0 h.pi⟩
theorem PX{h:Nat}(hP:PI K h t x y)(h0:hg K' h=hg K h)(h1:∀i,aJ x=some i->hg K' i=hg K i)(h2:∀i,aJ y=some i->hg K' i=hg K i):PI K' h t x y:=⟨by rw[h0];exact hP.hp,A6 hP.hx h1,A6 hP.hy h2,hP.ne⟩
theorem BI.set{b:Bs}(h:BI K D)(hb:nS b):BI (K.set D.id (.own (fP D.pid b))) {D with b:=b}:=⟨iN h.aD,hb,PX h.pi (ej h.ne) (λi hi=>ej (λe=>h.nx (by rw[e];exact hi))) (λi hi=>ej (λe=>h.ny (by rw[e];exact hi)))⟩
theorem BI.other(h:BI K D)(h0:j≠D.id)(h1:j≠D.pid)(h2:aJ D.x≠some j)(h3:aJ D.y≠some j):BI (K.set j o) D:=⟨by rw[ej h0];exact h.ho,h.ok,PX h.pi (ej h1) (λi hi=>ej (λe=>h2 (by rw[e];exact hi))) (λi hi=>ej (λe=>h3 (by rw[e];exact hi)))⟩
structure BK(K K':AH)(D D':Bd):Prop where
 id:D'.id=D.id
 pid:D'.pid=D.pid
 len:K.length<=K'.length
 dj:∀k,k<K.length->k≠D.id->k≠D.pid->aJ D.x≠some k->aJ D.y≠some k->hg K' k=hg K k
 fx:∀i,aJ D'.x=some i->aJ D.x=some i\/K.length<=i
 fy:∀i,aJ D'.y=some i->aJ D.y=some i\/K.length<=i
theorem BK.refl:BK K K D D:=⟨rfl,rfl,aB _,λ_ _ _ _ _ _=>rfl,λ_ h=>.inl h,λ_ h=>.inl h⟩
theorem BK.trans{K2:AH}{D1 D2:Bd}(h1:BK K K1 D D1)(h2:BK K1 K2 D1 D2):BK K K2 D D2:=by
 have hl:=h1.len;refine⟨h2.id.trans h1.id,h2.pid.trans h1.pid,Nat.le_trans h1.len h2.len,λk k0 k1 k2 k3 k4=>?_,λi hi=>?_,λi hi=>?_⟩
 .rw[h2.dj k ω (by rw[h1.id];exact k1) (by rw[h1.pid];exact k2) (λe=>(h1.fx k e).elim k3 ω) (λe=>(h1.fy k e).elim k4 ω)];exact h1.dj k k0 k1 k2 k3 k4
 .rcases h2.fx i hi with e|e
  .exact h1.fx i e
  .exact .inr ω
 .rcases h2.fy i hi with e|e
  .exact h1.fy i e
  .exact .inr ω
theorem BK.cut{D1:Bd}(h:BK (K++X) K1 D D1):BK K K1 D D1:=by
 have hl:=h.len;simp only[cj]at hl;refine⟨h.id,h.pid,ω,λk k0 k1 k2 k3 k4=>?_,λi hi=>?_,λi hi=>?_⟩
 .rw[h.dj k (by simp only[cj];omega) k1 k2 k3 k4,nC k0]
 .rcases h.fx i hi with e|e
  .exact .inl e
  .simp only[cj]at e;exact .inr ω
 .rcases h.fy i hi with e|e
  .exact .inl e
  .simp only[cj]at e;exact .inr ω
theorem BK.app:BK K (K++X) D D:=⟨rfl,rfl,by simp,λk k0 _ _ _ _=>nC k0,λ_ h=>.inl h,λ_ h=>.inl h⟩
theorem BI.JI(h:BI K D)(b:Bs):BK K (K.set D.id (.own (fP D.pid b))) D {D with b:=b}:=⟨rfl,rfl,by simp,λk _ k1 _ _ _=>ej (Ne.symm k1),λ_ h=>.inl h,λ_ h=>.inl h⟩
theorem BI.port{t':Pt}{y':Sc}(h:BI K D)(hP:PI K' D.pid t' x' y')(hk:Kp K K' D.pid D.x D.y x' y'):BI K' {D with t:=t',x:=x',y:=y'}/\BK K K' D {D with t:=t',x:=x',y:=y'}:=⟨⟨by rw[hk.dj _ h.aD h.ne h.nx h.ny];exact h.ho,h.ok,hP⟩,⟨rfl,rfl,hk.len,λk k0 _ k2 k3 k4=>hk.dj k k0 k2 k3 k4,hk.fx,hk.fy⟩⟩
theorem BK.other{D1:Bd}(h:BK K K1 D D1)(hj:K.length<=j):BK K (K1.set j o) D D1:=⟨h.id,h.pid,by simpa using h.len,λk k0 k1 k2 k3 k4=>by rw[ej ω];exact h.dj k k0 k1 k2 k3 k4,h.fx,h.fy⟩
structure Bp where
 d:Int
 o:BitVec 64
 s:Int
def kY(p:Bp):List Sc:=[.i p.d,.u p.o,.i p.s]
theorem af5{p q:Bp}(h:kY p=kY q):p=q:=by
 simp only[kY,cL,Sc.i.injEq,Sc.u.injEq,and_true]at h;obtain⟨h1,h2,h3⟩:=h;cases p;cases q;simp only at h1 h2 h3;subst h1 h2 h3;rfl
def HC(n:Int)(o:BitVec 64)(s:Int):Bool:=!decide ((cb (iS n).n o s).k=0)
def IN(n:Int)(o:BitVec 64)(s:Int):Bool:=!decide ((bM (iP n).n o s).k=0)
def ik(n:Int)(a:BitVec 64)(s:Int):Bp:=if 33554432#64<=a/\HC n (a-33554432#64) s=true then⟨1,a-33554432#64,s⟩else if 201326592#64<=a/\IN n (a-201326592#64) s=true then⟨2,a-201326592#64,s⟩else if 268435456#64<=a/\(1<=n/\n<=8)/\(a-268435456#64<8#64/\s=1)then⟨3,a-268435456#64,s⟩else⟨0,0#64,0⟩
theorem ajL{o:BitVec 64}:WY [.c (.i n),.c (.u o),.c (.i s)]=some (.c (.b (HC n o s))):=rfl
theorem av0{o:BitVec 64}:XC [.c (.i n),.c (.u o),.c (.i s)]=some (.c (.b (IN n o s))):=rfl
theorem ai5(n:Int)(a:BitVec 64)(s:Int):ik n a s=(if 33554432#64<=a/\HC n (a-33554432#64) s=true then⟨1,a-33554432#64,s⟩else if 201326592#64<=a/\IN n (a-201326592#64) s=true then⟨2,a-201326592#64,s⟩else if 268435456#64<=a/\(1<=n/\n<=8)/\(a-268435456#64<8#64/\s=1)then⟨3,a-268435456#64,s⟩else⟨0,0#64,0⟩):=rfl
def Mr(args:List AV):Option AV:=match args with|[.c (.i n),.c (.u a),.c (.i s)]=>some (.g (kY (ik n a s)))|_=>none
theorem afj{n a s}:Mr [.c (.i n),.c (.u a),.c (.i s)]=some (.g (kY (ik n a s))):=rfl
theorem adb:cK Tryz.prog 84 Mr:=by
 refine cR (tu asD (tu atH (tu asY tn))) Tryz.func84 rfl Tryz.results84 Tryz.ntmps84 ?_;intro args v h;unfold Mr at h;split at h
 .rename_i n a s;simp only[ar]at h;subst h;refine⟨by simp,rfl,rfl,?_⟩;have p1:=ajL (n:=n) (o:=a-33554432#64) (s:=s);have p2:=av0 (n:=n) (o:=a-201326592#64) (s:=s);have p3:=ayi (off:=a-268435456#64) (n:=s);rw[ai5];generalize HC n (a-33554432#64) s=C at*;generalize IN n (a-201326592#64) s=Q at*;have t1:((33554432#64<=a)=True/\C=true)\/((33554432#64<=a)=True/\C=false)\/(33554432#64<=a)=False:=by rcases Classical.propComplete (33554432#64<=a)with h|h<;>cases C<;>simp[h]
  have t2:((201326592#64<=a)=True/\Q=true)\/((201326592#64<=a)=True/\Q=false)\/(201326592#64<=a)=False:=by rcases Classical.propComplete (201326592#64<=a)with h|h<;>cases Q<;>simp[h]
  have t3:(268435456#64<=a)=False\/((268435456#64<=a)=True/\¬1<=n)\/((268435456#64<=a)=True/\1<=n/\¬n<=8)\/((268435456#64<=a)=True/\1<=n/\n<=8):=by rcases Classical.propComplete (268435456#64<=a)with h|h<;>by_cases h1:1<=n<;>by_cases h2:n<=8<;>simp[h,h1,h2]
  rcases t1 with⟨a1,rfl⟩|⟨a1,rfl⟩|a1
  .simp only[go_sem,seval,p1,a1,kY,true_and,and_true,false_and,and_false,if_true,if_false,dL]
  all_goals rcases t2 with⟨a2,rfl⟩|⟨a2,rfl⟩|a2
  any_goals(simp only[go_sem,seval,p1,p2,a1,a2,kY,true_and,and_true,false_and,and_false,if_true,if_false,dL];done)
  all_goals rcases t3 with a3|⟨a3,n1⟩|⟨a3,n1,n2⟩|⟨a3,n1,n2⟩
  any_goals((repeat(first|simp only[go_sem,seval,p1,p2,a1,a2,a3,n1,n2,kY,true_and,and_true,false_and,and_false,if_true,if_false,dL]|simp(disch:=omega)only[w0]));done)
  any_goals((repeat(first|simp only[go_sem,seval,p1,p2,a1,a2,a3,n1,kY,true_and,and_true,false_and,and_false,if_true,if_false,dL]|simp(disch:=omega)only[w0]));done)
  any_goals(simp only[go_sem,seval,p1,p2,a1,a2,a3,kY,true_and,and_true,false_and,and_false,if_true,if_false,dL];done)
  all_goals rcases Classical.propComplete (a-268435456#64<8#64)with a4|a4
  all_goals rcases Classical.propComplete (s=1)with s1|s1
  all_goals simp only[go_sem,seval,p1,p2,p3,a1,a2,a3,a4,n1,n2,s1,kY,true_and,and_true,false_and,and_false,if_true,if_false,dL]
 .simp at h
def Qn(args:List AV):Option AV:=match args with|[.c (.i n),.c (.u a),.c (.i s)]=>some (.c (.b (!decide ((ik n a s).d=0))))|_=>none
theorem asu:cK Tryz.prog 72 Qn:=by
 refine cR (tu adb tn) Tryz.func72 rfl Tryz.results72 Tryz.ntmps72 ?_;intro args v h;unfold Qn at h;split at h
 .rename_i n a s;simp only[ar]at h;subst h;refine⟨by simp,rfl,rfl,?_⟩;have e:(ik n a s).d=0->ik n a s=⟨0,0#64,0⟩:=λh=>by
   unfold ik at h|-;repeat' split at h
   all_goals simp at h
   rename_i h1 h2 h3;rw[if_neg h1,if_neg h2,if_neg h3]
  by_cases h:(ik n a s).d=0
  .have e:=e h;simp only[go_sem,seval,afj,e,kY]
  .simp only[go_sem,seval,afj,kY,h]
 .simp at h
end
section
variable {H:AH}{D:Bd}
theorem ajR(c:Ck)(a:Ca)(z:Int)(v:BitVec 64):(kG c a z v).n=c.n:=by
 unfold kG yo;repeat' split
 all_goals rfl
theorem aam(c:Ck)(n:Int):(oG c n).n=c.n:=by
 unfold oG;split<;>rfl
theorem ad0(c:Pk)(a:Pa):(oB c a).n=c.n:=by
 unfold oB;split<;>rfl
theorem ad2(c:Pk)(a:Pa)(v:BitVec 64):(ji c a v).n=c.n:=by
 unfold ji uf;repeat' split
 all_goals rfl
theorem PZ(c:Pk)(s:Int)(on:Bool):(fY c s on).n=c.n:=by
 unfold fY uf;repeat' split
 all_goals rfl
theorem nS.ck{b:Bs}(h:nS b){c:Ck}(hc:hF c)(hn:c.n=b.c.n):nS {b with c:=c}:=⟨hc,h.k,h.n0,h.n1,hn.trans h.nc,h.nk⟩
theorem nS.pk{b:Bs}(h:nS b){k:Pk}(hk:cM k)(hn:k.n=b.k.n):nS {b with k:=k}:=⟨h.c,hk,h.n0,h.n1,h.nc,hn.trans h.nk⟩
def pV(b:Bs)(h:Int):BitVec 64:=if h<0\/b.n<=h then 0#64 else(if kV b.k (2*h+1)=true then(if kV b.k (2*h)=true then kT b.c h|||2048#64 else kT b.c h)|||512#64 else(if kV b.k (2*h)=true then kT b.c h|||2048#64 else kT b.c h))
def aef(args:List AV)(H:AH)(v:AV):Prop:=(∀h,args=[.c .dk,.c (.i h)]->v=.c (.u 0#64))/\∀D h,args=[.c (.p D.id 0 0),.c (.i h)]->BI H D->v=.c (.u (pV D.b h))
def GF:List AV->AH->Option AV:=lk Tryz.prog [(139,.fq Ja),(140,.fq Jv)] 86 aef
theorem ade:bh Tryz.prog 86 (λargs H=>(GF args H).map λv=>(v,H)):=oL (tq asE (tq atJ tn)) Tryz.func86 rfl Tryz.results86 Tryz.ntmps86
theorem WX(hB:BI H D)(h:Int):GF [.c (.p D.id 0 0),.c (.i h)] H=some (.c (.u (pV D.b h))):=by
 have:∃v,GF [.c (.p D.id 0 0),.c (.i h)] H=some v/\aef [.c (.p D.id 0 0),.c (.i h)] H v:=by
  unfold GF;apply mM (v:=.c (.u (pV D.b h))) Tryz.func86 rfl Tryz.results86 Tryz.ntmps86 (by simp)
  .exact λ_ _=>rfl
  .intro _ _;have ho:=hB.ho;have ll:=hB.l;have d0:(fP D.pid D.b).getD 0 .any=.p D.pid 0 0:=rfl;have d1:(fP D.pid D.b).getD 1 .any=.i D.b.n:=rfl;have n8:=hB.ok.n1;have cl:=ax3 hB.ck (n:=h);have pl:=λk=>ayH hB.pk (k:=k);by_cases h0:h<0
   .have e:pV D.b h=0#64:=if_pos (.inl h0);rw[e];simp only[go_sem,seval,h0];exact aE _
   by_cases h1:D.b.n<=h
   .have e:pV D.b h=0#64:=if_pos (.inr h1);rw[e];simp only[go_sem,seval,ho,ll,d1,h0,h1];exact aE _
   have e1:aA (2*h)=2*h:=aq ω ω;have e2:aA (2*h+1)=2*h+1:=aq ω ω;have pl1:=pl (2*h);have pl2:=pl (2*h+1);have e:pV D.b h=(if kV D.b.k (2*h+1)=true then(if kV D.b.k (2*h)=true then kT D.b.c h|||2048#64 else kT D.b.c h)|||512#64 else(if kV D.b.k (2*h)=true then kT D.b.c h|||2048#64 else kT D.b.c h)):=if_neg ω;rw[e];cases h2:kV D.b.k (2*h);all_goals rw[h2]at pl1
   all_goals cases h3:kV D.b.k (2*h+1)
   all_goals rw[h3]at pl2
   all_goals simp only[go_sem,seval,ho,ll,d0,d1,h0,h1,e1,e2,cl,pl1,pl2,dL,if_true,if_false]
   all_goals exact aE _
  .refine⟨λ_ he=>by simp at he,λE k he hE=>?_⟩;simp only[cL,AV.c.injEq,Sc.p.injEq,Sc.i.injEq,and_true]at he;obtain⟨e1,rfl⟩:=he;rw[hB.uniq hE e1]
 obtain⟨v,h1,h2⟩:=this;rw[h1,h2.2 D h rfl hB]
end
variable {H1:AH}
section
variable {H:AH}{D:Bd}
def mA(v:BitVec 64):Int:=IntKind.u8.wrap (v.toNat:Int)
def px(D:Bd)(p:Bp):Bs:=if p.d=2 then{D.b with k:=oB D.b.k (bM D.b.k.n p.o p.s)}else D.b
def mC(D:Bd)(p:Bp):Pt:=if p.d=1\/p.d=2 then D.t else(fM D.t p.o).1
def nh(D:Bd)(p:Bp):BitVec 64:=if p.d=1 then uX D.b.c (cb D.b.c.n p.o p.s) p.s else if p.d=2 then o7 D.b.k (bM D.b.k.n p.o p.s)else aw 64 (fM D.t p.o).2.1
def pW(D:Bd)(p:Bp)(v:BitVec 64):Bs:=if p.d=1 then{D.b with c:=kG D.b.c (cb D.b.c.n p.o p.s) p.s v}else if p.d=2 then{D.b with k:=ji D.b.k (bM D.b.k.n p.o p.s) v}else D.b
def mD(D:Bd)(p:Bp)(v:BitVec 64):Pt:=if p.d=1\/p.d=2 then D.t else(ga D.t p.o (mA v)).1
theorem ZR(h:nS D.b)(p:Bp):nS (px D p):=by
 unfold px;split
 .exact h.pk (ad1 h.k _) (ad0 _ _)
 .exact h
theorem Sq(h:nS D.b)(p:Bp)(v:BitVec 64):nS (pW D p v):=by
 unfold pW;repeat' split
 .exact h.ck (SM h.c _ _ _) (ajR _ _ _ _)
 .exact h.pk (V8 h.k _ _) (ad2 _ _ _)
 .exact h
def ry(H H1:AH)(D:Bd)(b:Bs)(t:Pt):Prop:=∃x y,BI H1 {D with b:=b,t:=t,x:=x,y:=y}/\BK H H1 D {D with b:=b,t:=t,x:=x,y:=y}
def AT(t:Pt):Prop:=t.A.length<=1000000/\t.B.length<=1000000
def Wh(args:List AV)(H:AH)(v:AV)(H1:AH):Prop:=∀D p,args=[.c (.p D.id 0 0),.g (kY p)]->BI H D->v=.c (.u (nh D p))/\ry H H1 D (px D p) (mC D p)/\dX H H1
def GG:List AV->AH->Option (AV×AH):=sd Tryz.prog [(130,.fq Jc),(131,.fp Ey),(132,.fp AB)] 83 Wh
theorem asy:bh Tryz.prog 83 GG:=yw (tq asI (tp atL (tp auJ tn))) Tryz.func83 rfl Tryz.results83 Tryz.ntmps83
theorem SA{p:Bp}{v:AV}(hB:BI H D)(h1:v=.c (.u (nh D p)))(h2:ry H H1 D (px D p) (mC D p))(h3:dX H H1):Wh [.c (.p D.id 0 0),.g (kY p)] H v H1:=by
 intro E q he hE;simp only[cL,AV.c.injEq,AV.g.injEq,Sc.p.injEq,and_true]at he;obtain⟨e1,e2⟩:=he;obtain rfl:=af5 e2;obtain rfl:=hB.uniq hE e1;exact⟨h1,h2,h3⟩
theorem axY(hB:BI H D)(hf:AT D.t)(p:Bp)(hp:p.d=1\/p.d=2\/p.d=3):∃H1,GG [.c (.p D.id 0 0),.g (kY p)] H=some (.c (.u (nh D p)),H1)/\H.length<=H1.length/\ry H H1 D (px D p) (mC D p)/\dX H H1:=by
 have:∃v H1,GG [.c (.p D.id 0 0),.g (kY p)] H=some (v,H1)/\H.length<=H1.length/\Wh [.c (.p D.id 0 0),.g (kY p)] H v H1:=by
  obtain⟨d,o,s⟩:=p;simp only at hp;have hA:=hB.app [.own [.i d,.u o,.i s]];have ho:=hA.ho;have kv:=hB.ho;have ll:=hB.l;have d0:(fP D.pid D.b).getD 0 .any=.p D.pid 0 0:=rfl;have aD:=hB.aD;have fW:∀X,hg (H++X) D.id=.own (fP D.pid D.b):=λX=>(hB.app X).ho;rcases hp with rfl|rfl|rfl
  .have cr:=ax5 hA.ck (off:=o) (sz:=s);unfold GG;apply ie (v:=.c (.u (nh D ⟨1,o,s⟩))) Tryz.func83 rfl Tryz.results83 Tryz.ntmps83 (by simp)
   .intro _ _;rw[show nh D ⟨1,o,s⟩=uX D.b.c (cb D.b.c.n o s) s from rfl];simp only[go_sem,seval,kY,fW,ll,cr];(repeat' first|apply cf|(intro _;kernel_rfl)|kernel_rfl);exact aI
   .simp
   .exact SA hB rfl ⟨D.x,D.y,hB.app _,BK.app⟩ (jb rfl)
  .have pr:=ayJ hA.pk (off:=o) (sz:=s);rw[hA.qw]at pr;have hS:=hA.set (b:=px D ⟨2,o,s⟩) (ZR hB.ok _);have hK:=hA.JI (px D ⟨2,o,s⟩);have e:px D ⟨2,o,s⟩={D.b with k:=oB D.b.k (bM D.b.k.n o s)}:=rfl;rw[<-e]at pr;unfold GG;apply ie (v:=.c (.u (nh D ⟨2,o,s⟩))) Tryz.func83 rfl Tryz.results83 Tryz.ntmps83 (by simp)
   .intro _ _;rw[show nh D ⟨2,o,s⟩=o7 D.b.k (bM D.b.k.n o s)from rfl];simp only[go_sem,seval,kY,fW,ll,pr];(repeat' first|apply cf|(intro _;kernel_rfl)|kernel_rfl);exact aI
   .simp
   .exact SA hB rfl ⟨D.x,D.y,hS,hK.cut⟩ (fX (jb rfl) (jS λ_=>rfl))
  .obtain⟨K',x',h1,h2,h3⟩:=awA hA.pi o hf.1;obtain⟨g1,g2⟩:=hA.port h2 h3;unfold GG;apply ie (v:=.c (.u (nh D ⟨3,o,s⟩))) Tryz.func83 rfl Tryz.results83 Tryz.ntmps83 (by simp)
   .intro _ _;rw[show nh D ⟨3,o,s⟩=aw 64 (fM D.t o).2.1 from rfl];simp only[go_sem,seval,kY,fW,ll,d0,h1];(repeat' first|apply cf|(intro _;kernel_rfl)|kernel_rfl);exact aI
   .have:=g2.len;simp at this;omega
   .exact SA hB rfl ⟨x',D.y,g1,g2.cut⟩ (fX (jb rfl) (ary h1))
 obtain⟨v,H1,h1,h2,h3⟩:=this;obtain⟨rfl,h4⟩:=h3 D p rfl hB;exact⟨H1,h1,h2,h4⟩
def Wi(args:List AV)(H:AH)(v:AV)(H1:AH):Prop:=∀D p w,args=[.c (.p D.id 0 0),.g (kY p),.c (.u w)]->BI H D->v=.t []/\ry H H1 D (pW D p w) (mD D p w)/\dX H H1
def GH:List AV->AH->Option (AV×AH):=sd Tryz.prog [(136,.fp En),(137,.fp Ez),(138,.fp AD)] 85 Wi
theorem asC:bh Tryz.prog 85 GH:=yw (tp asL (tp atN (tp auR tn))) Tryz.func85 rfl Tryz.results85 Tryz.ntmps85
theorem SB{p:Bp}{w:BitVec 64}{v:AV}(hB:BI H D)(h1:v=.t [])(h2:ry H H1 D (pW D p w) (mD D p w))(h3:dX H H1):Wi [.c (.p D.id 0 0),.g (kY p),.c (.u w)] H v H1:=by
 intro E q w' he hE;simp only[cL,AV.c.injEq,AV.g.injEq,Sc.p.injEq,Sc.u.injEq,and_true]at he;obtain⟨e1,e2,rfl⟩:=he;obtain rfl:=af5 e2;obtain rfl:=hB.uniq hE e1;exact⟨h1,h2,h3⟩
theorem ax2(hB:BI H D)(hf:AT D.t)(p:Bp)(hp:p.d=1\/p.d=2\/p.d=3)(w:BitVec 64):∃H1,GH [.c (.p D.id 0 0),.g (kY p),.c (.u w)] H=some (.t [],H1)/\H.length<=H1.length/\ry H H1 D (pW D p w) (mD D p w)/\dX H H1:=by
 have:∃v H1,GH [.c (.p D.id 0 0),.g (kY p),.c (.u w)] H=some (v,H1)/\H.length<=H1.length/\Wi [.c (.p D.id 0 0),.g (kY p),.c (.u w)] H v H1:=by
  obtain⟨d,o,s⟩:=p;simp only at hp;have hA:=hB.app [.own [.i d,.u o,.i s]];have ll:=hB.l;have d0:(fP D.pid D.b).getD 0 .any=.p D.pid 0 0:=rfl;have fW:∀X,hg (H++X) D.id=.own (fP D.pid D.b):=λX=>(hB.app X).ho;rcases hp with rfl|rfl|rfl
  .have cw:=ax8 hA.ck (off:=o) (sz:=s) (v:=w);rw[hA.zG]at cw;have e:pW D ⟨1,o,s⟩ w={D.b with c:=kG D.b.c (cb D.b.c.n o s) s w}:=rfl;rw[<-e]at cw;unfold GH;apply ie (v:=.t []) Tryz.func85 rfl Tryz.results85 Tryz.ntmps85 (by simp)
   .intro _ _;simp only[go_sem,seval,kY,fW,ll,cw];(repeat' first|apply cf|(intro _;kernel_rfl)|kernel_rfl);exact aI
   .simp
   .exact SB hB rfl ⟨D.x,D.y,hA.set (Sq hB.ok _ _),(hA.JI _).cut⟩ (fX (jb rfl) (jS λ_=>rfl))
  .have pw:=ayK hA.pk (off:=o) (sz:=s) (v:=w);rw[hA.qw]at pw;have e:pW D ⟨2,o,s⟩ w={D.b with k:=ji D.b.k (bM D.b.k.n o s) w}:=rfl;rw[<-e]at pw;unfold GH;apply ie (v:=.t []) Tryz.func85 rfl Tryz.results85 Tryz.ntmps85 (by simp)
   .intro _ _;simp only[go_sem,seval,kY,fW,ll,pw];(repeat' first|apply cf|(intro _;kernel_rfl)|kernel_rfl);exact aI
   .simp
   .exact SB hB rfl ⟨D.x,D.y,hA.set (Sq hB.ok _ _),(hA.JI _).cut⟩ (fX (jb rfl) (jS λ_=>rfl))
  .obtain⟨K',x',y',h1,h2,h3⟩:=aB1 hA.pi o (mA w) hf.1 hf.2;obtain⟨g1,g2⟩:=hA.port h2 h3;have tb:IntKind.u8.wrap (w.toNat:Int)=mA w:=rfl;unfold GH;apply ie (v:=.t []) Tryz.func85 rfl Tryz.results85 Tryz.ntmps85 (by simp)
   .intro _ _;simp only[go_sem,seval,kY,fW,ll,d0,tb,h1];(repeat' first|apply cf|(intro _;kernel_rfl)|kernel_rfl);exact aI
   .have:=g2.len;simp at this;omega
   .exact SB hB rfl ⟨x',y',g1,g2.cut⟩ (fX (jb rfl) (arD h1))
 obtain⟨v,H1,h1,h2,h3⟩:=this;obtain⟨rfl,h4⟩:=h3 D p w rfl hB;exact⟨H1,h1,h2,h4⟩
end
variable {a:BitVec 64}{c0 c1 c2:List Sc}
section
variable {H:AH}{D:Bd}
structure Aq where
 k:Int
 a:BitVec 64
 b:BitVec 64
 c:Int
 s:Int
 op:Int
 d:BitVec 64
 o:BitVec 64
 lv:Bool
 r:List Sc
def bV(q:Aq):List Sc:=.i q.k::.u q.a::.u q.b::.i q.c::.i q.s::.i q.op::.u q.d::.u q.o::.b q.lv::q.r
theorem NQ{p q:Aq}(h:bV p=bV q):p=q:=by
 simp only[bV,cL,Sc.i.injEq,Sc.u.injEq,Sc.b.injEq]at h;obtain⟨h1,h2,h3,h4,h5,h6,h7,h8,h9,pH⟩:=h;cases p;cases q;simp only at h1 h2 h3 h4 h5 h6 h7 h8 h9 pH;subst h1 h2 h3 h4 h5 h6 h7 h8 h9 pH;rfl
def kF(n:Int)(q:Aq):Bool:=if q.k=9\/q.k=10 then !decide ((ik n q.a q.s).d=0)else decide (q.k=11\/q.k=18\/q.k=19\/q.k=20)
def Wg(args:List AV)(H:AH)(v:AV):Prop:=(∀q,args=[.c .dk,.g (bV q)]->v=.c (.b false))/\∀D q,args=[.c (.p D.id 0 0),.g (bV q)]->BI H D->v=.c (.b (kF D.b.n q))
def C7:List AV->AH->Option AV:=lk Tryz.prog [(72,.pu Qn)] 31 Wg
theorem adf:bh Tryz.prog 31 (λargs H=>(C7 args H).map λv=>(v,H)):=oL (tu asu tn) Tryz.func31 rfl Tryz.results31 Tryz.ntmps31
theorem axW{q:Aq}(hq:nT q.r):C7 [.c .dk,.g (bV q)] H=some (.c (.b false)):=by
 have:∃v,C7 [.c .dk,.g (bV q)] H=some v/\Wg [.c .dk,.g (bV q)] H v:=by
  unfold C7;apply mM (v:=.c (.b false)) Tryz.func31 rfl Tryz.results31 Tryz.ntmps31 (by simp)
  .exact λ_ _=>rfl
  .intro _ _;simp only[go_sem,seval,bV,hq.1,hq.2.2];exact aC _ _
  .refine⟨λ_ _=>rfl,λE k he hE=>?_⟩;simp at he
 obtain⟨v,h1,h2⟩:=this;rw[h1,h2.1 q rfl]
theorem ajf:Qn [.c (.i n),.c (.u a),.c (.i s)]=some (.c (.b (!decide ((ik n a s).d=0)))):=rfl
theorem afk{q:Aq}(hB:BI H D)(hq:nT q.r):C7 [.c (.p D.id 0 0),.g (bV q)] H=some (.c (.b (kF D.b.n q))):=by
 have:∃v,C7 [.c (.p D.id 0 0),.g (bV q)] H=some v/\Wg [.c (.p D.id 0 0),.g (bV q)] H v:=by
  unfold C7;apply mM (v:=.c (.b (kF D.b.n q))) Tryz.func31 rfl Tryz.results31 Tryz.ntmps31 (by simp)
  .exact λ_ _=>rfl
  .intro _ _;have fW:∀X,hg (H++X) D.id=.own (fP D.pid D.b):=λX=>(hB.app X).ho;have ll:=hB.l;have d1:(fP D.pid D.b).getD 1 .any=.i D.b.n:=rfl;have bf:=ajf (n:=D.b.n) (a:=q.a) (s:=q.s);unfold kF;rcases Classical.propComplete (q.k=9)with k1|k1
   .simp only[go_sem,seval,bV,hq.1,hq.2.2,fW,ll,d1,bf,k1];exact aC _ _
   rcases Classical.propComplete (q.k=10)with k2|k2
   .simp only[go_sem,seval,bV,hq.1,hq.2.2,fW,ll,d1,bf,k1,k2];exact aC _ _
   rcases Classical.propComplete (q.k=11)with k3|k3
   .simp only[go_sem,seval,bV,hq.1,hq.2.2,k1,k2,k3];exact aC _ _
   rcases Classical.propComplete (q.k=18)with k4|k4
   .simp only[go_sem,seval,bV,hq.1,hq.2.2,k1,k2,k3,k4];exact aC _ _
   rcases Classical.propComplete (q.k=19)with k5|k5
   .simp only[go_sem,seval,bV,hq.1,hq.2.2,k1,k2,k3,k4,k5];exact aC _ _
   rcases Classical.propComplete (q.k=20)with k6|k6;all_goals simp only[go_sem,seval,bV,hq.1,hq.2.2,k1,k2,k3,k4,k5,k6]
   all_goals exact aC _ _
  .refine⟨λ_ he=>by simp at he,λE k he hE=>?_⟩;simp only[cL,AV.c.injEq,AV.g.injEq,Sc.p.injEq,and_true]at he;obtain⟨e1,e2⟩:=he;obtain rfl:=NQ e2;rw[hB.uniq hE e1]
 obtain⟨v,h1,h2⟩:=this;rw[h1,h2.2 D q rfl hB]
def eY(n:Int)(h:Int)(q:Aq):Bool:=kF n q&&!(decide (q.k=11)&&(decide (h<0)||decide (n<=h)))
def nU(D:Bd)(q:Aq):Bs:=if q.k=9 then px D (ik D.b.n q.a q.s)else if q.k=10 then pW D (ik D.b.n q.a q.s) q.d else if q.k=18 then{D.b with c:=oG D.b.c q.d.toInt}else if q.k=20/\¬q.s=10 then{D.b with k:=fY D.b.k q.s q.lv}else D.b
def jt(D:Bd)(q:Aq):Pt:=if q.k=9 then mC D (ik D.b.n q.a q.s)else if q.k=10 then mD D (ik D.b.n q.a q.s) q.d else if q.k=19 then(pK D.t (mA q.d)).1 else D.t
def kE(b:Bs)(t:Pt):Bs:={b with k:=fY b.k 10 (!decide (dI t=1))}
def dE(D:Bd)(h:Int)(q:Aq):Bs:=if eY D.b.n h q=true then kE (nU D q) (jt D q)else D.b
def dP(D:Bd)(h:Int)(q:Aq):Pt:=if eY D.b.n h q=true then jt D q else D.t
def fD(D:Bd)(h:Int)(q:Aq):BitVec 64:=if eY D.b.n h q=true then(if q.k=9 then nh D (ik D.b.n q.a q.s)else if q.k=11 then pV D.b h else 0#64)else 0#64
theorem ZP{b:Bs}(h:nS b)(t:Pt):nS (kE b t):=h.pk (P0 h.k _ _) (PZ _ _ _)
structure Loc(K:AH)(L:Nat)(c0 c1 c2:List Sc):Prop where
 h0:hg K L=.own c0
 h1:hg K (L+1)=.own c1
 h2:hg K (L+2)=.own c2
 len:L+3<=K.length
theorem BI.pE(h:BI H D)(hj:H.length<=j):j≠D.id/\j≠D.pid/\aJ D.x≠some j/\aJ D.y≠some j:=by
 have a:=h.aD;have b:=h.LO;refine⟨ω,ω,λe=>?_,λe=>?_⟩
 .have:=(pC h.pi.hx e).1;omega
 .have:=(pC h.pi.hy e).1;omega
theorem Loc.of:Loc (H++[.own c0,.own c1,.own c2]) H.length c0 c1 c2:=⟨by rw[km];rfl,by rw[gM];rfl,by rw[gM];rfl,by simp⟩
theorem Loc.step{D1:Bd}(hB:BI H D)(h:BK (H++[.own c0,.own c1,.own c2]) K1 D D1):Loc K1 H.length c0 c1 c2:=by
 have l:=Loc.of (H:=H) (c0:=c0) (c1:=c1) (c2:=c2);have hl:=h.len;have h0:=hB.pE (j:=H.length) (aB _);have h1:=hB.pE (j:=H.length+1) ω;have h2:=hB.pE (j:=H.length+2) ω;simp only[cj,cT,fa]at hl;refine⟨?_,?_,?_,ω⟩
 .rw[h.dj _ (by simp) h0.1 h0.2.1 h0.2.2.1 h0.2.2.2];exact l.h0
 .rw[h.dj _ (by simp) h1.1 h1.2.1 h1.2.2.1 h1.2.2.2];exact l.h1
 .rw[h.dj _ (by simp) h2.1 h2.2.1 h2.2.2.1 h2.2.2.2];exact l.h2
theorem Loc.Yi{K:AH}{L:Nat}{c0 c1 c2 c:List Sc}(h:Loc K L c0 c1 c2):Loc (K.set (L+2) (.own c)) L c0 c1 c:=⟨by rw[ej ω];exact h.h0,by rw[ej ω];exact h.h1,iN (by have:=h.len;omega),by simpa using h.len⟩
theorem Loc.QR{K:AH}{L:Nat}{c0 c1 c2:List Sc}(h:Loc K L c0 c1 c2){i:Nat}{o:ae}(hi:i<L):Loc (K.set i o) L c0 c1 c2:=⟨by rw[ej ω];exact h.h0,by rw[ej ω];exact h.h1,by rw[ej ω];exact h.h2,by simpa using h.len⟩
structure qM(H K:AH)(D E:Bd)(c0 c2:List Sc):Prop where
 bi:BI K E
 bk:BK H K D E
 loc:Loc K H.length c0 (.u 0#64::.b false::dC) c2
theorem qM.ul{K:AH}{E:Bd}{c0 c2:List Sc}(h:qM H K D E c0 c2):Dc [.c (.p E.pid 0 0)] K=some (.c (.b (!decide (dI E.t=1)))):=aqp h.bi.pi
theorem qM.pw{K:AH}{E:Bd}{c0 c2:List Sc}(h:qM H K D E c0 c2):BY [.c (.p E.id 20 0),.c (.i 10),.c (.b (!decide (dI E.t=1)))] K=some (.c (.b (qx E.b.k 10)),K.set E.id (.own (fP E.pid (kE E.b E.t)))):=by rw[afv h.bi.pk,h.bi.qw];rfl
theorem qM.end{K:AH}{E:Bd}{c0 c2:List Sc}(hB:BI H D)(h:qM H K D E c0 c2):ry H ((K.set E.id (.own (fP E.pid (kE E.b E.t)))).set (H.length+1) (.own c2)) D (kE E.b E.t) E.t:=by
 have f:=hB.pE (j:=H.length+1) ω;have b1:=h.bi.set (ZP h.bi.ok E.t);have k1:=h.bk.trans (h.bi.JI (kE E.b E.t));have le:D.id<H.length:=hB.aD;have lp:D.pid<H.length:=hB.LO;have e1:H.length+1≠E.id:=by rw[h.bk.id];omega
 have e2:H.length+1≠E.pid:=by rw[h.bk.pid];omega
 have hl:=h.bi;have ex:aJ E.x≠some (H.length+1):=λe=>by
  have:=(pC hl.pi.hx e).2;rw[h.loc.h1]at this;simp at this
 have ey:aJ E.y≠some (H.length+1):=λe=>by
  have:=(pC hl.pi.hy e).2;rw[h.loc.h1]at this;simp at this
 have b2:=b1.other (j:=H.length+1) (o:=.own c2) e1 e2 ex ey;have k2:=k1.other (j:=H.length+1) (o:=.own c2) ω;refine⟨E.x,E.y,?_,?_⟩
 .have:({D with b:=kE E.b E.t,t:=E.t,x:=E.x,y:=E.y}:Bd)={E with b:=kE E.b E.t}:=by
   have a1:=h.bk.id;have a2:=h.bk.pid;cases D;cases E;simp only at a1 a2;subst a1 a2;rfl
  rw[this];exact b2
 .have:({D with b:=kE E.b E.t,t:=E.t,x:=E.x,y:=E.y}:Bd)={E with b:=kE E.b E.t}:=by
   have a1:=h.bk.id;have a2:=h.bk.pid;cases D;cases E;simp only at a1 a2;subst a1 a2;rfl
  rw[this];exact k2
theorem qM.Yi{K:AH}{E:Bd}{c0 c2 c:List Sc}(h:qM H K D E c0 c2)(hB:BI H D):qM H (K.set (H.length+2) (.own c)) D E c0 c:=by
 have le:D.id<H.length:=hB.aD;have lp:D.pid<H.length:=hB.LO;refine⟨h.bi.other (by rw[h.bk.id];omega) (by rw[h.bk.pid];omega) (λe=>?_) (λe=>?_),h.bk.other ω,h.loc.Yi⟩
 .have:=(pC h.bi.pi.hx e).2;rw[h.loc.h2]at this;simp at this
 .have:=(pC h.bi.pi.hy e).2;rw[h.loc.h2]at this;simp at this
end
variable {h:Int}
section
variable {H:AH}{D:Bd}
theorem qM.all{K:AH}{E:Bd}{c0 c2:List Sc}(hB:BI H D)(h:qM H K D E c0 c2):∃K3 w,hg K D.id=.own (fP D.pid E.b)/\(fP D.pid E.b).length=88/\Dc [.c (.p D.pid 0 0)] K=some (.c (.b (!decide (dI E.t=1))))/\BY [.c (.p D.id 20 0),.c (.i 10),.c (.b (!decide (dI E.t=1)))] K=some (.c (.b w),K3)/\hg K3 (H.length+2)=.own c2/\hg K3 (H.length+1)=.own (.u 0#64::.b false::dC)/\(∀y,hg (K3.set (H.length+1) y) (H.length+1)=y)/\ry H (K3.set (H.length+1) (.own c2)) D (kE E.b E.t) E.t/\H.length<=(K3.set (H.length+1) (.own c2)).length/\dX K (K3.set (H.length+1) (.own c2)):=by
 have l3:=h.loc.QR (i:=E.id) (o:=.own (fP E.pid (kE E.b E.t))) (by rw[h.bk.id];exact hB.aD);have ll:=l3.len;refine⟨_,_,by rw[<-h.bk.id,<-h.bk.pid];exact h.bi.ho,by rw[<-h.bk.pid];exact h.bi.l,by rw[<-h.bk.pid];exact h.ul,by rw[<-h.bk.id];exact h.pw,l3.h2,l3.h1,λy=>iN ω,h.end hB,?_,fX (jS λ_=>rfl) (jS λ_=>rfl)⟩;rw[iR];omega
theorem qM.of{b:Bs}(hB:BI H D)(h:ry (H++[.own c0,.own (.u 0#64::.b false::dC),.own c2]) K1 D b t):∃E,E.b=b/\E.t=t/\qM H K1 D E c0 c2:=by
 obtain⟨x,y,h1,h2⟩:=h;exact⟨_,rfl,rfl,h1,h2.cut,Loc.step hB h2⟩
def P4(args:List AV)(H:AH)(v:AV)(H1:AH):Prop:=(∀h q,args=[.c .dk,.c (.i h),.g (bV q)]->v=.t [.g (bU 0#64 false),.c (.b false)]/\∃X,H1=H++X)/\∀D h q,args=[.c (.p D.id 0 0),.c (.i h),.g (bV q)]->BI H D->v=.t [.g (bU (fD D h q) false),.c (.b (eY D.b.n h q))]/\ry H H1 D (dE D h q) (dP D h q)/\dX H H1
def sK:List AV->AH->Option (AV×AH):=sd Tryz.prog [(31,.fq C7),(84,.pu Mr),(83,.fp GG),(85,.fp GH),(86,.fq GF),(87,.fp Em),(88,.fp Az),(89,.fp BY),(90,.fq Dc)] 39 P4
theorem ast:bh Tryz.prog 39 sK:=yw (tq adf (tu adb (tp asy (tp asC (tq ade (tp asJ (tp auD (tp atM (tq auE tn))))))))) Tryz.func39 rfl Tryz.results39 Tryz.ntmps39
theorem A5{q:Aq}{v:AV}(hB:BI H D)(h1:v=.t [.g (bU (fD D h q) false),.c (.b (eY D.b.n h q))])(h2:ry H H1 D (dE D h q) (dP D h q))(h3:dX H H1):P4 [.c (.p D.id 0 0),.c (.i h),.g (bV q)] H v H1:=by
 refine⟨λ_ _ he=>by simp at he,λE k p he hE=>?_⟩;simp only[cL,AV.c.injEq,AV.g.injEq,Sc.p.injEq,Sc.i.injEq,and_true]at he;obtain⟨e1,rfl,e2⟩:=he;obtain rfl:=NQ e2;obtain rfl:=hB.uniq hE e1;exact⟨h1,h2,h3⟩
theorem Sp:(ik n a s).d=0\/(ik n a s).d=1\/(ik n a s).d=2\/(ik n a s).d=3:=by
 unfold ik;repeat' split
 all_goals simp
theorem aDe{q:Aq}(hq:nT q.r):∃X,sK [.c .dk,.c (.i h),.g (bV q)] H=some (.t [.g (bU 0#64 false),.c (.b false)],H++X):=by
 have:∃v H1,sK [.c .dk,.c (.i h),.g (bV q)] H=some (v,H1)/\H.length<=H1.length/\P4 [.c .dk,.c (.i h),.g (bV q)] H v H1:=by
  have lr:=hq.1;have ro:=hq.2.2;have rt:q.r.take 10=q.r:=bQ ω;have p1:=λH=>axW (H:=H) hq;unfold sK;apply ie (v:=.t [.g (bU 0#64 false),.c (.b false)]) Tryz.func39 rfl Tryz.results39 Tryz.ntmps39 (by simp)
  .intro _ _;unfold bV at p1|-;simp only[go_sem,seval,lr,ro,rt,p1,bU];exact aI
  .simp
  .refine⟨λ_ _ _=>⟨rfl,_,rfl⟩,λE k p he hE=>?_⟩;simp at he
 obtain⟨v,H1,h1,_,h2,_⟩:=this;obtain⟨rfl,X,rfl⟩:=h2 h q rfl;exact⟨X,h1⟩
theorem ajg:Mr [.c (.i n),.c (.u a),.c (.i s)]=some (.g (kY (ik n a s))):=rfl
theorem afi{q:Aq}(hB:BI H D)(hf:AT D.t)(h:Int)(hq:nT q.r):∃H1,sK [.c (.p D.id 0 0),.c (.i h),.g (bV q)] H=some (.t [.g (bU (fD D h q) false),.c (.b (eY D.b.n h q))],H1)/\H.length<=H1.length/\ry H H1 D (dE D h q) (dP D h q)/\dX H H1:=by
 have:∃v H1,sK [.c (.p D.id 0 0),.c (.i h),.g (bV q)] H=some (v,H1)/\H.length<=H1.length/\P4 [.c (.p D.id 0 0),.c (.i h),.g (bV q)] H v H1:=by
  have lr:=hq.1;have ro:=hq.2.2;have rt:q.r.take 10=q.r:=bQ ω;have p1:=λX=>afk (hB.app X) hq;have fW:∀X,hg (H++X) D.id=.own (fP D.pid D.b):=λX=>(hB.app X).ho;have ll:=hB.l;have d0:∀b,(fP D.pid b).getD 0 .any=.p D.pid 0 0:=λ_=>rfl;have d1:(fP D.pid D.b).getD 1 .any=.i D.b.n:=rfl;have bf:=ajg (n:=D.b.n) (a:=q.a) (s:=q.s);cases hm:kF D.b.n q
  .have eo:eY D.b.n h q=false:=by simp[eY,hm]
   have ev:fD D h q=0#64:=by simp[fD,eo]
   have eb:dE D h q=D.b:=by simp[dE,eo]
   have et:dP D h q=D.t:=by simp[dP,eo]
   unfold sK;apply ie (v:=.t [.g (bU 0#64 false),.c (.b false)]) Tryz.func39 rfl Tryz.results39 Tryz.ntmps39 (by simp)
   .intro _ _;simp only[hm]at p1;unfold bV at p1|-;simp only[go_sem,seval,lr,ro,rt,p1,bU];exact aI
   .simp
   .exact A5 hB (by rw[ev,eo]) (by rw[eb,et];exact⟨D.x,D.y,hB.app _,BK.app⟩) (jb rfl)
  .simp only[hm]at p1;have kk:q.k=9\/q.k=10\/q.k=11\/q.k=18\/q.k=19\/q.k=20:=by
    unfold kF at hm;split at hm
    .omega
    .simp at hm;omega
   have hA:=hB.app [.own (bV q),.own (.u 0#64::.b false::dC),.own (.u 0#64::.b false::dC)];rcases kk with k|k|k|k|k|k
   .have eo:eY D.b.n h q=true:=by simp[eY,hm,k]
    have hd:(ik D.b.n q.a q.s).d=1\/(ik D.b.n q.a q.s).d=2\/(ik D.b.n q.a q.s).d=3:=by
     rcases Sp (n:=D.b.n) (a:=q.a) (s:=q.s)with e|e|e|e
     .simp[kF,k,e]at hm
     all_goals simp[e]
    obtain⟨K1,e1,_,st,tX⟩:=axY hA hf (ik D.b.n q.a q.s) hd;obtain⟨E,eB,eT,f⟩:=qM.of hB st;have g2:=f.loc.h2;have f:=f.Yi hB (c:=.u (nh D (ik D.b.n q.a q.s))::.b false::dC);have ev:fD D h q=nh D (ik D.b.n q.a q.s):=by simp[fD,eo,k]
    have eb:dE D h q=kE E.b E.t:=by simp[dE,nU,jt,eo,k,eB,eT]
    have et:dP D h q=E.t:=by simp[dP,jt,eo,k,eT]
    obtain⟨K2,hK⟩:∃K,K1.set (H.length+2) (.own (.u (nh D (ik D.b.n q.a q.s))::.b false::dC))=K:=⟨_,rfl⟩;rw[hK]at f;obtain⟨K3,w,o,lo,ul,pw,o2,o1,s1,fin,fl,xG⟩:=f.all hB;unfold sK;apply ie (v:=.t [.g (bU (nh D (ik D.b.n q.a q.s)) false),.c (.b true)]) Tryz.func39 rfl Tryz.results39 Tryz.ntmps39 (by simp)
    .intro _ _;simp only[bV,k]at p1 e1;simp only[go_sem,seval,bV,lr,ro,rt,p1,bU,k,fW,ll,d0,d1,bf,e1,g2,hK,o,lo,ul,pw,o2,o1,s1];(repeat' first|apply cf|(intro _;kernel_rfl)|kernel_rfl);exact aI
    .exact fl
    .exact A5 hB (by rw[ev,eo]) (by rw[eb,et];exact fin) (fX (fX (fX (jb rfl) tX) (by rw[<-hK];exact jS λ_=>rfl)) xG)
   .have eo:eY D.b.n h q=true:=by simp[eY,hm,k]
    have hd:(ik D.b.n q.a q.s).d=1\/(ik D.b.n q.a q.s).d=2\/(ik D.b.n q.a q.s).d=3:=by
     rcases Sp (n:=D.b.n) (a:=q.a) (s:=q.s)with e|e|e|e
     .simp[kF,k,e]at hm
     all_goals simp[e]
    obtain⟨K1,e1,_,st,tX⟩:=ax2 hA hf (ik D.b.n q.a q.s) hd q.d;obtain⟨E,eB,eT,f⟩:=qM.of hB st;have ev:fD D h q=0#64:=by simp[fD,eo,k]
    have eb:dE D h q=kE E.b E.t:=by simp[dE,nU,jt,eo,k,eB,eT]
    have et:dP D h q=E.t:=by simp[dP,jt,eo,k,eT]
    obtain⟨K3,w,o,lo,ul,pw,o2,o1,s1,fin,fl,xG⟩:=f.all hB;unfold sK;apply ie (v:=.t [.g (bU (0#64) false),.c (.b true)]) Tryz.func39 rfl Tryz.results39 Tryz.ntmps39 (by simp)
    .intro _ _;simp only[bV,k]at p1 e1;simp only[go_sem,seval,bV,lr,ro,rt,p1,bU,k,fW,ll,d0,d1,bf,e1,o,lo,ul,pw,o2,o1,s1];(repeat' first|apply cf|(intro _;kernel_rfl)|kernel_rfl);exact aI
    .exact fl
    .exact A5 hB (by rw[ev,eo]) (by rw[eb,et];exact fin) (fX (fX (jb rfl) tX) xG)
   .by_cases h0:h<0
    .have eo:eY D.b.n h q=false:=by simp[eY,hm,k,h0]
     have ev:fD D h q=0#64:=by simp[fD,eo]
     have eb:dE D h q=D.b:=by simp[dE,eo]
     have et:dP D h q=D.t:=by simp[dP,eo]
     unfold sK;apply ie (v:=.t [.g (bU 0#64 false),.c (.b false)]) Tryz.func39 rfl Tryz.results39 Tryz.ntmps39 (by simp)
     .intro _ _;simp only[bV,k]at p1;simp only[go_sem,seval,bV,lr,ro,rt,p1,bU,k,h0];exact aI
     .simp
     .exact A5 hB (by rw[ev,eo]) (by rw[eb,et];exact⟨D.x,D.y,hB.app _,BK.app⟩) (jb rfl)
    by_cases h1:D.b.n<=h
    .have eo:eY D.b.n h q=false:=by simp[eY,hm,k,h1]
     have ev:fD D h q=0#64:=by simp[fD,eo]
     have eb:dE D h q=D.b:=by simp[dE,eo]
     have et:dP D h q=D.t:=by simp[dP,eo]
     unfold sK;apply ie (v:=.t [.g (bU 0#64 false),.c (.b false)]) Tryz.func39 rfl Tryz.results39 Tryz.ntmps39 (by simp)
     .intro _ _;simp only[bV,k]at p1;simp only[go_sem,seval,bV,lr,ro,rt,p1,bU,k,h0,h1,fW,ll,d1];exact aI
     .simp
     .exact A5 hB (by rw[ev,eo]) (by rw[eb,et];exact⟨D.x,D.y,hB.app _,BK.app⟩) (jb rfl)
    have eo:eY D.b.n h q=true:=by simp[eY,hm,h0,h1]
    have bl:=λX=>WX (hB.app X) h;have f:qM H (H++[.own (bV q),.own (.u 0#64::.b false::dC),.own (.u (pV D.b h)::.b false::dC)]) D D (bV q) (.u (pV D.b h)::.b false::dC):=⟨hB.app _,BK.app,Loc.of⟩;have ev:fD D h q=pV D.b h:=by simp[fD,eo,k]
    have eb:dE D h q=kE D.b D.t:=by simp[dE,nU,jt,eo,k]
    have et:dP D h q=D.t:=by simp[dP,jt,eo,k]
    obtain⟨K2,hK⟩:∃K,H++[.own (bV q),.own (.u 0#64::.b false::dC),.own (.u (pV D.b h)::.b false::dC)]=K:=⟨_,rfl⟩;rw[hK]at f;obtain⟨K3,w,o,lo,ul,pw,o2,o1,s1,fin,fl,xG⟩:=f.all hB;unfold sK;apply ie (v:=.t [.g (bU (pV D.b h) false),.c (.b true)]) Tryz.func39 rfl Tryz.results39 Tryz.ntmps39 (by simp)
    .intro _ _;simp only[bV,k]at p1 hK;simp only[go_sem,seval,bV,lr,ro,rt,p1,bU,k,fW,ll,d0,d1,bf,h0,h1,bl,hK,o,lo,ul,pw,o2,o1,s1];(repeat' first|apply cf|(intro _;kernel_rfl)|kernel_rfl);exact aI
    .exact fl
    .exact A5 hB (by rw[ev,eo]) (by rw[eb,et];exact fin) (fX (by rw[<-hK];exact jb rfl) xG)
   .have eo:eY D.b.n h q=true:=by simp[eY,hm,k]
    have ct:=ax6 hA.ck (n:=q.d.toInt);rw[hA.zG]at ct;have st:ry (H++[.own (bV q),.own (.u 0#64::.b false::dC),.own (.u 0#64::.b false::dC)]) _ D {D.b with c:=oG D.b.c q.d.toInt} D.t:=⟨D.x,D.y,hA.set (hB.ok.ck (N6 hB.ok.c _) (aam _ _)),hA.JI _⟩;obtain⟨K1,hK⟩:∃K:AH,(H++[.own (bV q),.own (.u 0#64::.b false::dC),.own (.u 0#64::.b false::dC)]:AH).set D.id (.own (fP D.pid {D.b with c:=oG D.b.c q.d.toInt}))=K:=⟨_,rfl⟩;rw[hK]at st ct;obtain⟨E,eB,eT,f⟩:=qM.of hB st;have ev:fD D h q=0#64:=by simp[fD,eo,k]
    have eb:dE D h q=kE E.b E.t:=by simp[dE,nU,jt,eo,k,eB,eT]
    have et:dP D h q=E.t:=by simp[dP,jt,eo,k,eT]
    obtain⟨K3,w,o,lo,ul,pw,o2,o1,s1,fin,fl,xG⟩:=f.all hB;unfold sK;apply ie (v:=.t [.g (bU (0#64) false),.c (.b true)]) Tryz.func39 rfl Tryz.results39 Tryz.ntmps39 (by simp)
    .intro _ _;simp only[bV,k]at p1 ct;simp only[go_sem,seval,bV,lr,ro,rt,p1,bU,k,fW,ll,d0,d1,bf,ct,o,lo,ul,pw,o2,o1,s1];(repeat' first|apply cf|(intro _;kernel_rfl)|kernel_rfl);exact aI
    .exact fl
    .exact A5 hB (by rw[ev,eo]) (by rw[eb,et];exact fin) (fX (by rw[<-hK];exact fX (jb rfl) (jS λ_=>rfl)) xG)
   .have eo:eY D.b.n h q=true:=by simp[eY,hm,k]
    obtain⟨K1,x',u1,u2,u3⟩:=aoX hA.pi (mA q.d) hf.1;obtain⟨g1,g2⟩:=hA.port u2 u3;have st:ry (H++[.own (bV q),.own (.u 0#64::.b false::dC),.own (.u 0#64::.b false::dC)]) K1 D D.b (pK D.t (mA q.d)).1:=⟨x',D.y,g1,g2⟩;have tb:IntKind.u8.wrap (q.d.toNat:Int)=mA q.d:=rfl;obtain⟨E,eB,eT,f⟩:=qM.of hB st;have ev:fD D h q=0#64:=by simp[fD,eo,k]
    have eb:dE D h q=kE E.b E.t:=by simp[dE,nU,jt,eo,k,eB,eT]
    have et:dP D h q=E.t:=by simp[dP,jt,eo,k,eT]
    obtain⟨K3,w,o,lo,ul,pw,o2,o1,s1,fin,fl,xG⟩:=f.all hB;unfold sK;apply ie (v:=.t [.g (bU (0#64) false),.c (.b true)]) Tryz.func39 rfl Tryz.results39 Tryz.ntmps39 (by simp)
    .intro _ _;simp only[bV,k]at p1 u1;simp only[go_sem,seval,bV,lr,ro,rt,p1,bU,k,fW,ll,d0,d1,bf,u1,tb,o,lo,ul,pw,o2,o1,s1];(repeat' first|apply cf|(intro _;kernel_rfl)|kernel_rfl);exact aI
    .exact fl
    .exact A5 hB (by rw[ev,eo]) (by rw[eb,et];exact fin) (fX (fX (jb rfl) (arw u1)) xG)
   .have eo:eY D.b.n h q=true:=by simp[eY,hm,k]
    have ev:fD D h q=0#64:=by simp[fD,eo,k]
    rcases Classical.propComplete (q.s=10)with vo|vo
    .have f:qM H (H++[.own (bV q),.own (.u 0#64::.b false::dC),.own (.u 0#64::.b false::dC)]) D D (bV q) (.u 0#64::.b false::dC):=⟨hB.app _,BK.app,Loc.of⟩;have eb:dE D h q=kE D.b D.t:=by simp[dE,nU,jt,eo,k,vo]
     have et:dP D h q=D.t:=by simp[dP,jt,eo,k]
     obtain⟨K3,w,o,lo,ul,pw,o2,o1,s1,fin,fl,xG⟩:=f.all hB;unfold sK;apply ie (v:=.t [.g (bU (0#64) false),.c (.b true)]) Tryz.func39 rfl Tryz.results39 Tryz.ntmps39 (by simp)
     .intro _ _;simp only[bV,k]at p1 ul pw;simp only[go_sem,seval,bV,lr,ro,rt,p1,bU,k,fW,ll,d0,d1,bf,vo,o,lo,ul,pw,o2,o1,s1];(repeat' first|apply cf|(intro _;kernel_rfl)|kernel_rfl);exact aI
     .exact fl
     .exact A5 hB (by rw[ev,eo]) (by rw[eb,et];exact fin) (fX (jb rfl) xG)
    .have wr:=afv hA.pk (s:=q.s) (on:=q.lv);rw[hA.qw]at wr;have st:ry (H++[.own (bV q),.own (.u 0#64::.b false::dC),.own (.u 0#64::.b false::dC)]) _ D {D.b with k:=fY D.b.k q.s q.lv} D.t:=⟨D.x,D.y,hA.set (hB.ok.pk (P0 hB.ok.k _ _) (PZ _ _ _)),hA.JI _⟩;obtain⟨K1,hK⟩:∃K:AH,(H++[.own (bV q),.own (.u 0#64::.b false::dC),.own (.u 0#64::.b false::dC)]:AH).set D.id (.own (fP D.pid {D.b with k:=fY D.b.k q.s q.lv}))=K:=⟨_,rfl⟩;rw[hK]at st wr;obtain⟨E,eB,eT,f⟩:=qM.of hB st;have eb:dE D h q=kE E.b E.t:=by simp[dE,nU,jt,eo,k,eB,eT,vo]
     have et:dP D h q=E.t:=by simp[dP,jt,eo,k,eT]
     obtain⟨K3,w,o,lo,ul,pw,o2,o1,s1,fin,fl,xG⟩:=f.all hB;unfold sK;apply ie (v:=.t [.g (bU (0#64) false),.c (.b true)]) Tryz.func39 rfl Tryz.results39 Tryz.ntmps39 (by simp)
     .intro _ _;simp only[bV,k]at p1 wr;simp only[go_sem,seval,bV,lr,ro,rt,p1,bU,k,fW,ll,d0,d1,bf,vo,wr,o,lo,ul,pw,o2,o1,s1];(repeat' first|apply cf|(intro _;kernel_rfl)|kernel_rfl);exact aI
     .exact fl
     .exact A5 hB (by rw[ev,eo]) (by rw[eb,et];exact fin) (fX (by rw[<-hK];exact fX (jb rfl) (jS λ_=>rfl)) xG)
 obtain⟨v,H1,h1,h2,h3⟩:=this;obtain⟨rfl,h4⟩:=h3.2 D h q rfl hB;exact⟨H1,h1,h2,h4⟩
end
section
variable {H:AH}{D:Bd}
theorem ry.app{b:Bs}(h:ry H K1 D b t)(X:AH):ry H (K1++X) D b t:=by
 obtain⟨x,y,h1,h2⟩:=h;exact⟨x,y,h1.app X,h2.trans BK.app⟩
def bN(n:Int):Bs:=⟨n,iS n,iP n⟩
theorem aal(h:1<=n/\n<=8):(iS n).n=n:=by unfold iS;rw[if_pos h];rfl
theorem V4(h:1<=n/\n<=8):(iP n).n=n:=by unfold iP;rw[if_pos h];rfl
theorem ZQ(h:1<=n/\n<=8):nS (bN n):=⟨Kv n,V5 n,h.1,h.2,aal h,V4 h⟩
def dN(H:AH)(n:Int):Bd:=⟨H.length+1,H.length,bN n,fR,.az,.az⟩
def aDf(args:List AV)(H:AH):Option (AV×AH):=match args with|[.c (.i n)]=>if 1<=n/\n<=8 then some (.t [.c (.p (H.length+1) 0 0),.c (.i 0)],H++[.own (iy BR),.own (fP H.length (bN n))])else some (.t [.c .dk,.c (.i 1)],H)|_=>none
theorem S5(H:AH)(h:1<=n/\n<=8):BI (H++[.own (iy BR),.own (fP H.length (bN n))]) (dN H n):=by
 refine⟨?_,ZQ h,?_⟩
 .show hg _ (H.length+1)=_;rw[gM];rfl
 .have:=V0 (X:=[.own (fP H.length (bN n))]) (adY H);rw[fv]at this;exact this
end
section
variable {H:AH}{D:Bd}
def zR:List Sc:=[.i 0,.b false,.b false,.b false,.u 0#64,.i 0,.i 0,.u 0#64,.i 0,.u 0#64]
def lq(a:BitVec 64)(z:Int)(v:BitVec 64):Aq:=⟨10,a,0#64,0,z,0,v,0#64,false,zR⟩
structure Bx where
 b:Bs
 t:Pt
def Bx.d(x:Bx):Bd:=⟨0,0,x.b,x.t,.az,.az⟩
def Bx.go(x:Bx)(h:Int)(q:Aq):Bx:=⟨dE x.d h q,dP x.d h q⟩
def Bx.v(x:Bx)(h:Int)(q:Aq):BitVec 64:=fD x.d h q
theorem ajw(D:Bd)(h:Int)(q:Aq):dE D h q=((⟨D.b,D.t⟩:Bx).go h q).b:=rfl
theorem ajx(D:Bd)(h:Int)(q:Aq):dP D h q=((⟨D.b,D.t⟩:Bx).go h q).t:=rfl
theorem ajy(D:Bd)(h:Int)(q:Aq):fD D h q=(⟨D.b,D.t⟩:Bx).v h q:=rfl
def At(H:AH)(id:Nat)(x:Bx):Prop:=∃D,BI H D/\D.id=id/\D.b=x.b/\D.t=x.t
theorem At.step{K:AH}{id:Nat}{x:Bx}{h:Int}{q:Aq}(hA:At H id x)(hs:∀D,BI H D->D.id=id->D.b=x.b->D.t=x.t->ry H K D (dE D h q) (dP D h q)):At K id (x.go h q):=by
 obtain⟨D,h1,h2,h3,h4⟩:=hA;obtain⟨x',y',g1,g2⟩:=hs D h1 h2 h3 h4;refine⟨_,g1,h2,?_,?_⟩
 .show dE D h q=_;rw[ajw,h3,h4]
 .show dP D h q=_;rw[ajx,h3,h4]
theorem At.app{id:Nat}{x:Bx}(h:At H id x)(X:AH):At (H++X) id x:=by
 obtain⟨D,h1,h2⟩:=h;exact⟨D,h1.app X,h2⟩
theorem At.do{id:Nat}{x:Bx}(hA:At H id x)(hf:AT x.t)(h:Int){q:Aq}(hq:nT q.r):∃K,sK [.c (.p id 0 0),.c (.i h),.g (bV q)] H=some (.t [.g (bU (x.v h q) false),.c (.b (eY x.b.n h q))],K)/\At K id (x.go h q):=by
 obtain⟨D,h1,rfl,h3,h4⟩:=hA;obtain⟨K,e,_,st,_⟩:=afi h1 (by rw[h4];exact hf) h hq;refine⟨K,by rw[e,ajy,h3,h4],At.step ⟨D,h1,rfl,h3,h4⟩ λE e1 e2 _ _=>?_⟩;rw[h1.uniq e1 e2.symm]at st;exact st
theorem At.lines{id:Nat}{x:Bx}(hA:At H id x)(h:Int):GF [.c (.p id 0 0),.c (.i h)] H=some (.c (.u (pV x.b h))):=by
 obtain⟨D,h1,rfl,h3,h4⟩:=hA;rw[WX h1 h,h3]
theorem At.new(H:AH)(h:1<=n/\n<=8):At (H++[.own (iy BR),.own (fP H.length (bN n))]) (H.length+1) ⟨bN n,fR⟩:=⟨_,S5 H h,rfl,rfl,rfl⟩
end
section
theorem asj {off:BitVec 64} {x:Nat} (hx:x < 18446744073709551616):(off=aw 64 (x:Int))=(off.toNat=x):=by
 have e:(aw 64 (x:Int)).toNat=x:=by rw [mf];omega
 exact propext ⟨λh=>by rw [h,e],λh=>mB (by rw [e,h])⟩
theorem asm {off:BitVec 64} {x:Nat} (hx:x < 1000000):(off=aw 64 (x:Int)+4#64)=(off.toNat=x+4):=by
 have e:(aw 64 (x:Int)+4#64).toNat=x+4:=by
  rw [wU,mf,show (4#64).toNat=4 from rfl];omega
 exact propext ⟨λh=>by rw [h,e],λh=>mB (by rw [e,h])⟩
theorem CX {off:BitVec 64} {x:Nat} (hx:x < 18446744073709551616):(off=kD 64 x)=(off.toNat=x):=by
 have e:(kD 64 x).toNat=x:=by rw [vB];omega
 exact propext ⟨λh=>by rw [h,e],λh=>mB (by rw [e,h])⟩
theorem iw {off:BitVec 64} {x:Int} (h0:0<=x) (h1:x < 10000000):(off=aw 64 x)=((off.toNat:Int)=x):=by
 obtain ⟨k,rfl⟩:∃k:Nat,x=(k:Int):=⟨x.toNat,ω⟩
 rw [asj ω]
 exact propext ω
theorem Gr {off:BitVec 64} {x:Int} (h0:0<=x) (h1:x < 1000000):(off=aw 64 x+4#64)=((off.toNat:Int)=x+4):=by
 obtain ⟨k,rfl⟩:∃k:Nat,x=(k:Int):=⟨x.toNat,ω⟩
 rw [asm ω]
 exact propext ω
inductive CkC (n:Int) (m:Nat) (sz:Int) (a:Ca):Prop where
 | c1 (h:Nat) (hn:(h:Int) < n) (hs:sz=4) (hm:m=4 * h) (ha:a=⟨1,h,0#64⟩)
 | c2 (h:Nat) (hn:(h:Int) < n) (hs:sz=8) (hm:m=16384+8 * h) (ha:a=⟨2,h,0#64⟩)
 | c3 (h:Nat) (hn:(h:Int) < n) (hs:sz=4) (hm:m=16384+8 * h) (ha:a=⟨2,h,0#64⟩)
 | c4 (h:Nat) (hn:(h:Int) < n) (hs:sz=4) (hm:m=16384+8 * h+4) (ha:a=⟨2,h,32#64⟩)
 | c5 (hs:sz=8) (hm:m=49144) (ha:a=⟨3,0,0#64⟩)
 | c6 (hs:sz=4) (hm:m=49144) (ha:a=⟨3,0,0#64⟩)
 | c7 (hs:sz=4) (hm:m=49148) (ha:a=⟨3,0,32#64⟩)
 | c0 (ha:a=⟨0,0,0#64⟩) (h4:sz=4->m≠49144/\m≠49148/\∀h:Nat,(h:Int) < n->m≠4 * h/\m≠16384+8 * h/\m≠16384+8 * h+4) (h8:sz=8->m≠49144/\∀h:Nat,(h:Int) < n->m≠16384+8 * h)
theorem DC {a b:BitVec 64} (h:a.toNat=b.toNat):a=b:=mB h
theorem Oa {n:Int} (n0:1<=n) (n1:n<=8) (off:BitVec 64) (sz:Int):CkC n off.toNat sz (cb n off sz):=by
 have en:(aw 64 n).toNat=n.toNat:=Vx ω n1
 have e4:(4#64).toNat=4:=rfl
 have e8:(8#64).toNat=8:=rfl
 have ez:(0#64).toNat=0:=rfl
 have m4:(off % 4#64).toNat=off.toNat % 4:=by rw [zp,e4]
 have d4:(off / 4#64).toNat=off.toNat / 4:=by rw [wW,e4]
 have m8:(off % 8#64).toNat=off.toNat % 8:=by rw [zp,e8]
 have s8:(off - off % 8#64).toNat=off.toNat - off.toNat % 8:=by rw [zo,m8];have:=off.isLt;omega
 have up:(off % 8#64 * 8#64).toNat=off.toNat % 8 * 8:=by rw [Cc,m8,e8];omega
 have hh:16384#64<=off - off % 8#64->((off - off % 8#64 - 16384#64) / 8#64).toNat=(off.toNat - off.toNat % 8 - 16384) / 8:=λg=>by
  rw [sY,s8,show (16384#64).toNat=16384 from rfl] at g
  rw [wW,zo,s8,e8,show (16384#64).toNat=16384 from rfl]
  have:=off.isLt
  omega
 have q1:(off % 4#64=0#64)=(off.toNat % 4=0):=propext ⟨λh=>by rw [<-m4,h];rfl,λh=>DC (by rw [m4,ez,h])⟩
 have q2:(off / 4#64 < aw 64 n)=(off.toNat / 4 < n.toNat):=by rw [nP,d4,en]
 have q3:(off % 8#64=0#64)=(off.toNat % 8=0):=propext ⟨λh=>by rw [<-m8,h];rfl,λh=>DC (by rw [m8,ez,h])⟩
 have q4:(0#64 < aw 64 n)=True:=eq_true (by rw [nP,en,ez];omega)
 have q5:(off - off % 8#64=49144#64)=(off.toNat - off.toNat % 8=49144):=by rw [CX δ,s8]
 have q6:(16384#64<=off - off % 8#64)=(16384<=off.toNat - off.toNat % 8):=by rw [sY,s8];rfl
 have q7:(off - off % 8#64 < 16384#64+8#64 * aw 64 n)=(off.toNat - off.toNat % 8 < 16384+8 * n.toNat):=by
  rw [nP,s8,wU,Cc,en,e8,show (16384#64).toNat=16384 from rfl]
  rw [show (16384+8 * n.toNat % 2 ^ 64) % 2 ^ 64=16384+8 * n.toNat by omega]
 have qb:sz=4\/sz=8->(off % aw 64 sz=0#64)=(off.toNat % sz.toNat=0):=by
  rintro (rfl | rfl)
  .exact q1
  .exact q3
 generalize hm:off.toNat=m at *
 unfold cb
 simp only [q1,q2,q4,q5,q6,q7,true_and]
 by_cases h4:sz=4
 .simp only [qb (.inl h4)]
  subst h4
  by_cases a1:m % 4=0
  .by_cases a2:m / 4 < n.toNat
   .rw [if_pos ⟨rfl,a1,a2⟩]
    exact .c1 (m / 4) ω rfl ω (by rw [d4])
   .rw [if_neg (λh=>a2 h.2.2),if_neg (by simp;omega)]
    by_cases a3:m - m % 8=49144
    .rw [if_pos a3]
     have:m=49144\/m=49148:=ω
     rcases this with h | h
     .exact .c6 rfl h (by congr 1;exact DC (by rw [up,h];rfl))
     .exact .c7 rfl h (by congr 1;exact DC (by rw [up,h];rfl))
    .rw [if_neg a3]
     by_cases a4:16384<=m - m % 8/\m - m % 8 < 16384+8 * n.toNat
     .rw [if_pos a4]
      have g:=hh (by rw [q6];exact a4.1)
      have:m % 8=0\/m % 8=4:=ω
      rcases this with h | h
      .exact .c3 ((m - m % 8 - 16384) / 8) ω rfl ω (by rw [g];congr 1;exact DC (by rw [up,h];rfl))
      .exact .c4 ((m - m % 8 - 16384) / 8) ω rfl ω (by rw [g];congr 1;exact DC (by rw [up,h];rfl))
     .rw [if_neg a4]
      exact .c0 rfl (λ_=>⟨ω,ω,λh hn=>⟨ω,ω,ω⟩⟩) (λh=>ω)
  .rw [if_neg (λh=>a1 h.2.1),if_pos (.inr a1)]
   exact .c0 rfl (λ_=>⟨ω,ω,λh hn=>⟨ω,ω,ω⟩⟩) (λh=>ω)
 .rw [if_neg (λh=>h4 h.1)]
  by_cases h8:sz=8
  .simp only [qb (.inr h8)]
   subst h8
   by_cases a1:m % 8=0
   .rw [if_neg (by simp;omega)]
    by_cases a3:m - m % 8=49144
    .rw [if_pos a3]
     exact .c5 rfl ω (by congr 1;exact DC (by rw [up,a1];rfl))
    .rw [if_neg a3]
     by_cases a4:16384<=m - m % 8/\m - m % 8 < 16384+8 * n.toNat
     .rw [if_pos a4]
      have g:=hh (by rw [q6];exact a4.1)
      exact .c2 ((m - m % 8 - 16384) / 8) ω rfl ω (by rw [g];congr 1;exact DC (by rw [up,a1];rfl))
     .rw [if_neg a4]
      exact .c0 rfl (λh=>ω) (λ_=>⟨ω,λh hn=>ω⟩)
   .rw [if_pos (.inr a1)]
    exact .c0 rfl (λh=>ω) (λ_=>⟨ω,λh hn=>ω⟩)
  .rw [if_pos (.inl ⟨h4,h8⟩)]
   exact .c0 rfl (λh=>absurd h h4) (λh=>absurd h h8)
def kO (sz:Int) (a:Ca):Int:=if a.k=2\/a.k=3 then (if sz=8 then 0 else if a.up=0#64 then 1 else 2) else 0
def MX (args:List AV):Option AV :=
 match args with
 | [.c (.i n),.c (.u off),.c (.i sz)]=>if 1<=n/\n<=8 then some (.t [.c (.i ((cb n off sz).k:Int)),.c (.i ((cb n off sz).h:Int)),.c (.i (kO sz (cb n off sz)))]) else none
 | _=>none
theorem XF {n off sz}:MX [.c (.i n),.c (.u off),.c (.i sz)]=if 1<=n/\n<=8 then some (.t [.c (.i ((cb n off sz).k:Int)),.c (.i ((cb n off sz).h:Int)),.c (.i (kO sz (cb n off sz)))]) else none:=rfl
theorem VL:cK Tryz.prog 121 MX:=by
 refine cR tn Tryz.func121 rfl Tryz.results121 Tryz.ntmps121 ?_
 intro args v h
 unfold MX at h
 split at h
 .rename_i n off sz
  split at h
  .rename_i hc
   simp only [ar] at h;subst h
   refine ⟨by simp only [cT,fa];decide,rfl,rfl,?_⟩
   obtain ⟨N,rfl⟩:∃N:Nat,n=(N:Int):=⟨n.toNat,ω⟩
   have ck:=Oa hc.1 hc.2 off sz
   obtain ⟨m,hm⟩:∃m,off.toNat=m:=⟨_,rfl⟩
   rw [hm] at ck
   generalize cb (N:Int) off sz=a at *
   have L1:m=49144->(off=49144#64)=True:=λh=>by rw [CX δ,hm];exact eq_true h
   have Dy:m≠49144->(off=49144#64)=False:=λh=>by rw [CX δ,hm];exact eq_false h
   have L2:m=49148->(off=49148#64)=True:=λh=>by rw [CX δ,hm];exact eq_true h
   have RU:m≠49148->(off=49148#64)=False:=λh=>by rw [CX δ,hm];exact eq_false h
   cases ck with
   | c1 h hn hs mO ha =>
     subst hs ha
     rw [show kO 4 ⟨1,h,0#64⟩=0 by simp [kO]]
     (repeat (first | simp (maxSteps:=9^9) only [go_sem,seval] | simp (disch:=omega) only [aq,aV,aU,aT,aS]))
     refine fB h (λi=>([(0,.c (.i N)),(1,.c (.u off)),(2,.c (.i 4)),(9,.c (.i i))],[])) (Wk.fq (by simp [Am.get])) λi hi=>?_
     by_cases aG:i < h
     .have iW:((i:Nat):Int) < (N:Int):=ω
      have iX:((i:Nat):Int) < 8:=ω
      have E1:aA (4 * (i:Int))=4 * (i:Int):=aq ω ω
      have E2:aA (8 * (i:Int))=8 * (i:Int):=aq ω ω
      have E3:aA (16384+8 * (i:Int))=16384+8 * (i:Int):=aq ω ω
      have E4:aA ((i:Int)+1)=((i+1:Nat):Int):=by rw [aq ω ω];omega
      have Q1:(off=aw 64 (4 * (i:Int)))=False:=by rw [iw ω ω];exact eq_false ω
      have Q2:(off=aw 64 (16384+8 * (i:Int)))=False:=by rw [iw ω ω];exact eq_false ω
      have Q3:(off=aw 64 (16384+8 * (i:Int))+4#64)=False:=by rw [Gr ω ω];exact eq_false ω
      (repeat (first | simp (maxSteps:=9^9) only [go_sem,seval,iW,iX,E1,E2,E3,E4,Q1,Q2,Q3] | simp (disch:=omega) only [aq,aV,aU,aT,aS]))
      exact ⟨i+1,ω,ω,Wk.fq (by simp [Am.get])⟩
     .obtain rfl:i=h:=ω
      have iW:((i:Nat):Int) < (N:Int):=ω
      have iX:((i:Nat):Int) < 8:=ω
      have E1:aA (4 * (i:Int))=4 * (i:Int):=aq ω ω
      have E2:aA (8 * (i:Int))=8 * (i:Int):=aq ω ω
      have E3:aA (16384+8 * (i:Int))=16384+8 * (i:Int):=aq ω ω
      have E4:aA ((i:Int)+1)=((i+1:Nat):Int):=by rw [aq ω ω];omega
      have Q1:(off=aw 64 (4 * (i:Int)))=True:=by rw [iw ω ω];exact eq_true ω
      (repeat (first | simp (maxSteps:=9^9) only [go_sem,seval,iW,iX,E1,E2,E3,E4,Q1] | simp (disch:=omega) only [aq,aV,aU,aT,aS]))
   | c2 h hn hs mO ha =>
     subst hs ha
     rw [show kO 8 ⟨2,h,0#64⟩=0 by simp [kO]]
     (repeat (first | simp (maxSteps:=9^9) only [go_sem,seval] | simp (disch:=omega) only [aq,aV,aU,aT,aS]))
     refine fB h (λi=>([(0,.c (.i N)),(1,.c (.u off)),(2,.c (.i 8)),(9,.c (.i i))],[])) (Wk.fq (by simp [Am.get])) λi hi=>?_
     by_cases aG:i < h
     .have iW:((i:Nat):Int) < (N:Int):=ω
      have iX:((i:Nat):Int) < 8:=ω
      have E1:aA (4 * (i:Int))=4 * (i:Int):=aq ω ω
      have E2:aA (8 * (i:Int))=8 * (i:Int):=aq ω ω
      have E3:aA (16384+8 * (i:Int))=16384+8 * (i:Int):=aq ω ω
      have E4:aA ((i:Int)+1)=((i+1:Nat):Int):=by rw [aq ω ω];omega
      have Q2:(off=aw 64 (16384+8 * (i:Int)))=False:=by rw [iw ω ω];exact eq_false ω
      (repeat (first | simp (maxSteps:=9^9) only [go_sem,seval,iW,iX,E1,E2,E3,E4,Q2] | simp (disch:=omega) only [aq,aV,aU,aT,aS]))
      exact ⟨i+1,ω,ω,Wk.fq (by simp [Am.get])⟩
     .obtain rfl:i=h:=ω
      have iW:((i:Nat):Int) < (N:Int):=ω
      have iX:((i:Nat):Int) < 8:=ω
      have E1:aA (4 * (i:Int))=4 * (i:Int):=aq ω ω
      have E2:aA (8 * (i:Int))=8 * (i:Int):=aq ω ω
      have E3:aA (16384+8 * (i:Int))=16384+8 * (i:Int):=aq ω ω
      have E4:aA ((i:Int)+1)=((i+1:Nat):Int):=by rw [aq ω ω];omega
      have Q2:(off=aw 64 (16384+8 * (i:Int)))=True:=by rw [iw ω ω];exact eq_true ω
      (repeat (first | simp (maxSteps:=9^9) only [go_sem,seval,iW,iX,E1,E2,E3,E4,Q2] | simp (disch:=omega) only [aq,aV,aU,aT,aS]))
   | c3 h hn hs mO ha =>
     subst hs ha
     rw [show kO 4 ⟨2,h,0#64⟩=1 by simp [kO]]
     (repeat (first | simp (maxSteps:=9^9) only [go_sem,seval] | simp (disch:=omega) only [aq,aV,aU,aT,aS]))
     refine fB h (λi=>([(0,.c (.i N)),(1,.c (.u off)),(2,.c (.i 4)),(9,.c (.i i))],[])) (Wk.fq (by simp [Am.get])) λi hi=>?_
     by_cases aG:i < h
     .have iW:((i:Nat):Int) < (N:Int):=ω
      have iX:((i:Nat):Int) < 8:=ω
      have E1:aA (4 * (i:Int))=4 * (i:Int):=aq ω ω
      have E2:aA (8 * (i:Int))=8 * (i:Int):=aq ω ω
      have E3:aA (16384+8 * (i:Int))=16384+8 * (i:Int):=aq ω ω
      have E4:aA ((i:Int)+1)=((i+1:Nat):Int):=by rw [aq ω ω];omega
      have Q1:(off=aw 64 (4 * (i:Int)))=False:=by rw [iw ω ω];exact eq_false ω
      have Q2:(off=aw 64 (16384+8 * (i:Int)))=False:=by rw [iw ω ω];exact eq_false ω
      have Q3:(off=aw 64 (16384+8 * (i:Int))+4#64)=False:=by rw [Gr ω ω];exact eq_false ω
      (repeat (first | simp (maxSteps:=9^9) only [go_sem,seval,iW,iX,E1,E2,E3,E4,Q1,Q2,Q3] | simp (disch:=omega) only [aq,aV,aU,aT,aS]))
      exact ⟨i+1,ω,ω,Wk.fq (by simp [Am.get])⟩
     .obtain rfl:i=h:=ω
      have iW:((i:Nat):Int) < (N:Int):=ω
      have iX:((i:Nat):Int) < 8:=ω
      have E1:aA (4 * (i:Int))=4 * (i:Int):=aq ω ω
      have E2:aA (8 * (i:Int))=8 * (i:Int):=aq ω ω
      have E3:aA (16384+8 * (i:Int))=16384+8 * (i:Int):=aq ω ω
      have E4:aA ((i:Int)+1)=((i+1:Nat):Int):=by rw [aq ω ω];omega
      have Q1:(off=aw 64 (4 * (i:Int)))=False:=by rw [iw ω ω];exact eq_false ω
      have Q2:(off=aw 64 (16384+8 * (i:Int)))=True:=by rw [iw ω ω];exact eq_true ω
      (repeat (first | simp (maxSteps:=9^9) only [go_sem,seval,iW,iX,E1,E2,E3,E4,Q1,Q2] | simp (disch:=omega) only [aq,aV,aU,aT,aS]))
   | c4 h hn hs mO ha =>
     subst hs ha
     rw [show kO 4 ⟨2,h,32#64⟩=2 by simp [kO]]
     (repeat (first | simp (maxSteps:=9^9) only [go_sem,seval] | simp (disch:=omega) only [aq,aV,aU,aT,aS]))
     refine fB h (λi=>([(0,.c (.i N)),(1,.c (.u off)),(2,.c (.i 4)),(9,.c (.i i))],[])) (Wk.fq (by simp [Am.get])) λi hi=>?_
     by_cases aG:i < h
     .have iW:((i:Nat):Int) < (N:Int):=ω
      have iX:((i:Nat):Int) < 8:=ω
      have E1:aA (4 * (i:Int))=4 * (i:Int):=aq ω ω
      have E2:aA (8 * (i:Int))=8 * (i:Int):=aq ω ω
      have E3:aA (16384+8 * (i:Int))=16384+8 * (i:Int):=aq ω ω
      have E4:aA ((i:Int)+1)=((i+1:Nat):Int):=by rw [aq ω ω];omega
      have Q1:(off=aw 64 (4 * (i:Int)))=False:=by rw [iw ω ω];exact eq_false ω
      have Q2:(off=aw 64 (16384+8 * (i:Int)))=False:=by rw [iw ω ω];exact eq_false ω
      have Q3:(off=aw 64 (16384+8 * (i:Int))+4#64)=False:=by rw [Gr ω ω];exact eq_false ω
      (repeat (first | simp (maxSteps:=9^9) only [go_sem,seval,iW,iX,E1,E2,E3,E4,Q1,Q2,Q3] | simp (disch:=omega) only [aq,aV,aU,aT,aS]))
      exact ⟨i+1,ω,ω,Wk.fq (by simp [Am.get])⟩
     .obtain rfl:i=h:=ω
      have iW:((i:Nat):Int) < (N:Int):=ω
      have iX:((i:Nat):Int) < 8:=ω
      have E1:aA (4 * (i:Int))=4 * (i:Int):=aq ω ω
      have E2:aA (8 * (i:Int))=8 * (i:Int):=aq ω ω
      have E3:aA (16384+8 * (i:Int))=16384+8 * (i:Int):=aq ω ω
      have E4:aA ((i:Int)+1)=((i+1:Nat):Int):=by rw [aq ω ω];omega
      have Q1:(off=aw 64 (4 * (i:Int)))=False:=by rw [iw ω ω];exact eq_false ω
      have Q2:(off=aw 64 (16384+8 * (i:Int)))=False:=by rw [iw ω ω];exact eq_false ω
      have Q3:(off=aw 64 (16384+8 * (i:Int))+4#64)=True:=by rw [Gr ω ω];exact eq_true ω
      (repeat (first | simp (maxSteps:=9^9) only [go_sem,seval,iW,iX,E1,E2,E3,E4,Q1,Q2,Q3] | simp (disch:=omega) only [aq,aV,aU,aT,aS]))
   | c5 hs mO ha =>
     subst hs ha
     rw [show kO 8 ⟨3,0,0#64⟩=0 by simp [kO]]
     (repeat (first | simp (maxSteps:=9^9) only [go_sem,seval] | simp (disch:=omega) only [aq,aV,aU,aT,aS]))
     refine fB N (λi=>([(0,.c (.i N)),(1,.c (.u off)),(2,.c (.i 8)),(9,.c (.i i))],[])) (Wk.fq (by simp [Am.get])) λi hi=>?_
     by_cases aG:i < N
     .have iW:((i:Nat):Int) < (N:Int):=ω
      have iX:((i:Nat):Int) < 8:=ω
      have E1:aA (4 * (i:Int))=4 * (i:Int):=aq ω ω
      have E2:aA (8 * (i:Int))=8 * (i:Int):=aq ω ω
      have E3:aA (16384+8 * (i:Int))=16384+8 * (i:Int):=aq ω ω
      have E4:aA ((i:Int)+1)=((i+1:Nat):Int):=by rw [aq ω ω];omega
      have Q2:(off=aw 64 (16384+8 * (i:Int)))=False:=by rw [iw ω ω];exact eq_false ω
      (repeat (first | simp (maxSteps:=9^9) only [go_sem,seval,iW,iX,E1,E2,E3,E4,Q2] | simp (disch:=omega) only [aq,aV,aU,aT,aS]))
      exact ⟨i+1,ω,ω,Wk.fq (by simp [Am.get])⟩
     .obtain rfl:i=N:=ω
      have n0:(0:Int) < (i:Int):=ω
      have l1:=L1 mO
      (repeat (first | simp (maxSteps:=9^9) only [go_sem,seval,n0,l1] | simp (disch:=omega) only [aq,aV,aU,aT,aS]))
   | c6 hs mO ha =>
     subst hs ha
     rw [show kO 4 ⟨3,0,0#64⟩=1 by simp [kO]]
     (repeat (first | simp (maxSteps:=9^9) only [go_sem,seval] | simp (disch:=omega) only [aq,aV,aU,aT,aS]))
     refine fB N (λi=>([(0,.c (.i N)),(1,.c (.u off)),(2,.c (.i 4)),(9,.c (.i i))],[])) (Wk.fq (by simp [Am.get])) λi hi=>?_
     by_cases aG:i < N
     .have iW:((i:Nat):Int) < (N:Int):=ω
      have iX:((i:Nat):Int) < 8:=ω
      have E1:aA (4 * (i:Int))=4 * (i:Int):=aq ω ω
      have E2:aA (8 * (i:Int))=8 * (i:Int):=aq ω ω
      have E3:aA (16384+8 * (i:Int))=16384+8 * (i:Int):=aq ω ω
      have E4:aA ((i:Int)+1)=((i+1:Nat):Int):=by rw [aq ω ω];omega
      have Q1:(off=aw 64 (4 * (i:Int)))=False:=by rw [iw ω ω];exact eq_false ω
      have Q2:(off=aw 64 (16384+8 * (i:Int)))=False:=by rw [iw ω ω];exact eq_false ω
      have Q3:(off=aw 64 (16384+8 * (i:Int))+4#64)=False:=by rw [Gr ω ω];exact eq_false ω
      (repeat (first | simp (maxSteps:=9^9) only [go_sem,seval,iW,iX,E1,E2,E3,E4,Q1,Q2,Q3] | simp (disch:=omega) only [aq,aV,aU,aT,aS]))
      exact ⟨i+1,ω,ω,Wk.fq (by simp [Am.get])⟩
     .obtain rfl:i=N:=ω
      have n0:(0:Int) < (i:Int):=ω
      have l1:=L1 mO
      (repeat (first | simp (maxSteps:=9^9) only [go_sem,seval,n0,l1] | simp (disch:=omega) only [aq,aV,aU,aT,aS]))
   | c7 hs mO ha =>
     subst hs ha
     rw [show kO 4 ⟨3,0,32#64⟩=2 by simp [kO]]
     (repeat (first | simp (maxSteps:=9^9) only [go_sem,seval] | simp (disch:=omega) only [aq,aV,aU,aT,aS]))
     refine fB N (λi=>([(0,.c (.i N)),(1,.c (.u off)),(2,.c (.i 4)),(9,.c (.i i))],[])) (Wk.fq (by simp [Am.get])) λi hi=>?_
     by_cases aG:i < N
     .have iW:((i:Nat):Int) < (N:Int):=ω
      have iX:((i:Nat):Int) < 8:=ω
      have E1:aA (4 * (i:Int))=4 * (i:Int):=aq ω ω
      have E2:aA (8 * (i:Int))=8 * (i:Int):=aq ω ω
      have E3:aA (16384+8 * (i:Int))=16384+8 * (i:Int):=aq ω ω
      have E4:aA ((i:Int)+1)=((i+1:Nat):Int):=by rw [aq ω ω];omega
      have Q1:(off=aw 64 (4 * (i:Int)))=False:=by rw [iw ω ω];exact eq_false ω
      have Q2:(off=aw 64 (16384+8 * (i:Int)))=False:=by rw [iw ω ω];exact eq_false ω
      have Q3:(off=aw 64 (16384+8 * (i:Int))+4#64)=False:=by rw [Gr ω ω];exact eq_false ω
      (repeat (first | simp (maxSteps:=9^9) only [go_sem,seval,iW,iX,E1,E2,E3,E4,Q1,Q2,Q3] | simp (disch:=omega) only [aq,aV,aU,aT,aS]))
      exact ⟨i+1,ω,ω,Wk.fq (by simp [Am.get])⟩
     .obtain rfl:i=N:=ω
      have n0:(0:Int) < (i:Int):=ω
      have l1:=Dy ω
      have l2:=L2 mO
      (repeat (first | simp (maxSteps:=9^9) only [go_sem,seval,n0,l1,l2] | simp (disch:=omega) only [aq,aV,aU,aT,aS]))
   | c0 ha h4 h8 =>
     subst ha
     have eb:kO sz ⟨0,0,0#64⟩=0:=by simp [kO]
     rw [eb]
     by_cases s4:sz=4
     .subst s4
      obtain ⟨g1,g2,g3⟩:=h4 rfl
      (repeat (first | simp (maxSteps:=9^9) only [go_sem,seval] | simp (disch:=omega) only [aq,aV,aU,aT,aS]))
      refine fB N (λi=>([(0,.c (.i N)),(1,.c (.u off)),(2,.c (.i 4)),(9,.c (.i i))],[])) (Wk.fq (by simp [Am.get])) λi hi=>?_
      by_cases aG:i < N
      .obtain ⟨k1,k2,k3⟩:=g3 i ω
       have iW:((i:Nat):Int) < (N:Int):=ω
       have iX:((i:Nat):Int) < 8:=ω
       have E1:aA (4 * (i:Int))=4 * (i:Int):=aq ω ω
       have E2:aA (8 * (i:Int))=8 * (i:Int):=aq ω ω
       have E3:aA (16384+8 * (i:Int))=16384+8 * (i:Int):=aq ω ω
       have E4:aA ((i:Int)+1)=((i+1:Nat):Int):=by rw [aq ω ω];omega
       have Q1:(off=aw 64 (4 * (i:Int)))=False:=by rw [iw ω ω];exact eq_false ω
       have Q2:(off=aw 64 (16384+8 * (i:Int)))=False:=by rw [iw ω ω];exact eq_false ω
       have Q3:(off=aw 64 (16384+8 * (i:Int))+4#64)=False:=by rw [Gr ω ω];exact eq_false ω
       (repeat (first | simp (maxSteps:=9^9) only [go_sem,seval,iW,iX,E1,E2,E3,E4,Q1,Q2,Q3] | simp (disch:=omega) only [aq,aV,aU,aT,aS]))
       exact ⟨i+1,ω,ω,Wk.fq (by simp [Am.get])⟩
      .obtain rfl:i=N:=ω
       have n0:(0:Int) < (i:Int):=ω
       have l1:=Dy g1
       have l2:=RU g2
       (repeat (first | simp (maxSteps:=9^9) only [go_sem,seval,n0,l1,l2] | simp (disch:=omega) only [aq,aV,aU,aT,aS]))
     by_cases s8:sz=8
     .subst s8
      obtain ⟨g1,g3⟩:=h8 rfl
      (repeat (first | simp (maxSteps:=9^9) only [go_sem,seval] | simp (disch:=omega) only [aq,aV,aU,aT,aS]))
      refine fB N (λi=>([(0,.c (.i N)),(1,.c (.u off)),(2,.c (.i 8)),(9,.c (.i i))],[])) (Wk.fq (by simp [Am.get])) λi hi=>?_
      by_cases aG:i < N
      .have k2:=g3 i ω
       have iW:((i:Nat):Int) < (N:Int):=ω
       have iX:((i:Nat):Int) < 8:=ω
       have E1:aA (4 * (i:Int))=4 * (i:Int):=aq ω ω
       have E2:aA (8 * (i:Int))=8 * (i:Int):=aq ω ω
       have E3:aA (16384+8 * (i:Int))=16384+8 * (i:Int):=aq ω ω
       have E4:aA ((i:Int)+1)=((i+1:Nat):Int):=by rw [aq ω ω];omega
       have Q2:(off=aw 64 (16384+8 * (i:Int)))=False:=by rw [iw ω ω];exact eq_false ω
       (repeat (first | simp (maxSteps:=9^9) only [go_sem,seval,iW,iX,E1,E2,E3,E4,Q2] | simp (disch:=omega) only [aq,aV,aU,aT,aS]))
       exact ⟨i+1,ω,ω,Wk.fq (by simp [Am.get])⟩
      .obtain rfl:i=N:=ω
       have n0:(0:Int) < (i:Int):=ω
       have l1:=Dy g1
       (repeat (first | simp (maxSteps:=9^9) only [go_sem,seval,n0,l1] | simp (disch:=omega) only [aq,aV,aU,aT,aS]))
     have S4:(sz=4)=False:=eq_false s4
     have S8:(sz=8)=False:=eq_false s8
     (repeat (first | simp (maxSteps:=9^9) only [go_sem,seval] | simp (disch:=omega) only [aq,aV,aU,aT,aS]))
     refine fB N (λi=>([(0,.c (.i N)),(1,.c (.u off)),(2,.c (.i sz)),(9,.c (.i i))],[])) (Wk.fq (by simp [Am.get])) λi hi=>?_
     by_cases aG:i < N
     .have iW:((i:Nat):Int) < (N:Int):=ω
      have iX:((i:Nat):Int) < 8:=ω
      have E1:aA (4 * (i:Int))=4 * (i:Int):=aq ω ω
      have E2:aA (8 * (i:Int))=8 * (i:Int):=aq ω ω
      have E3:aA (16384+8 * (i:Int))=16384+8 * (i:Int):=aq ω ω
      have E4:aA ((i:Int)+1)=((i+1:Nat):Int):=by rw [aq ω ω];omega
      (repeat (first | simp (maxSteps:=9^9) only [go_sem,seval,iW,iX,E1,E2,E3,E4,S4,S8] | simp (disch:=omega) only [aq,aV,aU,aT,aS]))
      exact ⟨i+1,ω,ω,Wk.fq (by simp [Am.get])⟩
     .obtain rfl:i=N:=ω
      have n0:(0:Int) < (i:Int):=ω
      (repeat (first | simp (maxSteps:=9^9) only [go_sem,seval,n0,S4,S8] | simp (disch:=omega) only [aq,aV,aU,aT,aS]))
  .simp at h
 .simp at h
end
section
inductive PlC (n:Int) (m:Nat) (sz:Int) (a:Pa):Prop where
 | p1 (i:Nat) (i1:1<=i) (i2:i < 32) (hs:sz=4) (hm:m=4 * i) (ha:a=⟨1,i⟩)
 | p2 (hs:sz=4) (hm:m=4096) (ha:a=⟨2,0⟩)
 | p3 (h:Nat) (hn:(h:Int) < 2 * n) (hs:sz=4) (hm:m=8192+128 * h) (ha:a=⟨3,h⟩)
 | p4 (h:Nat) (hn:(h:Int) < 2 * n) (hs:sz=4) (hm:m=2097152+4096 * h) (ha:a=⟨4,h⟩)
 | p5 (h:Nat) (hn:(h:Int) < 2 * n) (hs:sz=4) (hm:m=2097156+4096 * h) (ha:a=⟨5,h⟩)
 | p0 (ha:a=⟨0,0⟩) (h4:sz=4->m≠4096/\(∀i:Nat,1<=i->i < 32->m≠4 * i)/\∀h:Nat,(h:Int) < 2 * n->m≠8192+128 * h/\m≠2097152+4096 * h/\m≠2097156+4096 * h)
theorem umod_eq {off:BitVec 64} {k x:Nat} (hk:k < 18446744073709551616) (hx:x < 18446744073709551616):(off % kD 64 k=kD 64 x)=(off.toNat % k=x):=by
 have e:(kD 64 k).toNat=k:=by rw [vB];omega
 rw [CX hx,zp,e]
theorem YK {off:BitVec 64} {k:Nat} (hk:k < 18446744073709551616):(kD 64 k<=off)=(k<=off.toNat):=by
 have e:(kD 64 k).toNat=k:=by rw [vB];omega
 rw [sY,e]
theorem agp {off:BitVec 64} {n:Int} (n0:1<=n) (n1:n<=8) {a b:Nat} (ha:a<=2097152) (hb:b<=4096):(off < kD 64 a+kD 64 b * aw 64 (2 * n))=(off.toNat < a+b * (2 * n.toNat)):=by
 have e:(aw 64 (2 * n)).toNat=2 * n.toNat:=by rw [mf];omega
 have ea:(kD 64 a).toNat=a:=by rw [vB];omega
 have eb:(kD 64 b).toNat=b:=by rw [vB];omega
 rw [nP,wU,Cc,e,ea,eb]
 have h1:b * (2 * n.toNat)<=4096 * 16:=Nat.mul_le_mul hb ω
 rw [show (a+b * (2 * n.toNat) % 2 ^ 64) % 2 ^ 64=a+b * (2 * n.toNat) by omega]
theorem agr {off:BitVec 64} {a b:Nat} (ha:a<=2097152) (hb:b<=4096) (h:a<=off.toNat):((off - kD 64 a) / kD 64 b).toNat=(off.toNat - a) / b:=by
 have ea:(kD 64 a).toNat=a:=by rw [vB];omega
 have eb:(kD 64 b).toNat=b:=by rw [vB];omega
 rw [wW,zo,ea,eb]
 have:=off.isLt
 rw [show (2 ^ 64 - a+off.toNat) % 2 ^ 64=off.toNat - a by omega]
theorem ad3 {n:Int} (n0:1<=n) (n1:n<=8) (off:BitVec 64) (sz:Int):PlC n off.toNat sz (bM n off sz):=by
 have q1:(off % 4#64=0#64)=(off.toNat % 4=0):=umod_eq δ δ
 have q2:(aw 64 (2 * n)=0#64)=False:=eq_false λh=>by
  have:=congrArg BitVec.toNat h
  rw [mf] at this
  have e:(0#64).toNat=0:=rfl
  omega
 have q3:(4#64<=off)=(4<=off.toNat):=YK δ
 have q4:(off < 128#64)=(off.toNat < 128):=by rw [nP];rfl
 have q5:(off=4096#64)=(off.toNat=4096):=CX δ
 have q6:(8192#64<=off)=(8192<=off.toNat):=YK δ
 have q7:(off < 8192#64+128#64 * aw 64 (2 * n))=(off.toNat < 8192+128 * (2 * n.toNat)):=agp n0 n1 δ δ
 have q8:(off % 128#64=0#64)=(off.toNat % 128=0):=umod_eq δ δ
 have q9:(2097152#64<=off)=(2097152<=off.toNat):=YK δ
 have qa:(off < 2097152#64+4096#64 * aw 64 (2 * n))=(off.toNat < 2097152+4096 * (2 * n.toNat)):=agp n0 n1 δ δ
 have qb:(off % 4096#64=0#64)=(off.toNat % 4096=0):=umod_eq δ δ
 have qc:(off % 4096#64=4#64)=(off.toNat % 4096=4):=umod_eq δ δ
 have d4:(off / 4#64).toNat=off.toNat / 4:=by rw [wW];rfl
 have u1:8192<=off.toNat->((off - 8192#64) / 128#64).toNat=(off.toNat - 8192) / 128:=agr δ δ
 have u2:2097152<=off.toNat->((off - 2097152#64) / 4096#64).toNat=(off.toNat - 2097152) / 4096:=agr δ δ
 generalize hm:off.toNat=m at *
 unfold bM
 simp only [q1,q2,q3,q4,q5,q6,q7,q8,q9,qa,qb,qc,or_false]
 by_cases h4:sz=4
 .subst h4
  by_cases a1:m % 4=0
  .rw [if_neg (by simp;omega)]
   by_cases a2:4<=m/\m < 128
   .rw [if_pos a2]
    exact .p1 (m / 4) ω ω rfl ω (by rw [d4])
   rw [if_neg a2]
   by_cases a3:m=4096
   .rw [if_pos a3]
    exact .p2 rfl a3 rfl
   rw [if_neg a3]
   by_cases a4:8192<=m/\m < 8192+128 * (2 * n.toNat)/\m % 128=0
   .rw [if_pos a4]
    exact .p3 ((m - 8192) / 128) ω rfl ω (by rw [u1 a4.1])
   rw [if_neg a4]
   by_cases a5:2097152<=m/\m < 2097152+4096 * (2 * n.toNat)/\m % 4096=0
   .rw [if_pos a5]
    exact .p4 ((m - 2097152) / 4096) ω rfl ω (by rw [u2 a5.1])
   rw [if_neg a5]
   by_cases a6:2097152<=m/\m < 2097152+4096 * (2 * n.toNat)/\m % 4096=4
   .rw [if_pos a6]
    exact .p5 ((m - 2097152) / 4096) ω rfl ω (by rw [u2 a6.1])
   rw [if_neg a6]
   exact .p0 rfl λ_=>⟨a3,λi i1 i2=>ω,λh hn=>⟨ω,ω,ω⟩⟩
  .rw [if_pos (.inr a1)]
   exact .p0 rfl λ_=>⟨ω,λi i1 i2=>ω,λh hn=>⟨ω,ω,ω⟩⟩
 .rw [if_pos (.inl h4)]
  exact .p0 rfl λh=>absurd h h4
def MY (args:List AV):Option AV :=
 match args with
 | [.c (.i n),.c (.u off),.c (.i sz)]=>if 1<=n/\n<=8 then some (.t [.c (.i (bM n off sz).k),.c (.i ((bM n off sz).i:Int))]) else none
 | _=>none
theorem XH {n off sz}:MY [.c (.i n),.c (.u off),.c (.i sz)]=if 1<=n/\n<=8 then some (.t [.c (.i (bM n off sz).k),.c (.i ((bM n off sz).i:Int))]) else none:=rfl
theorem VM:cK Tryz.prog 122 MY:=by
 refine cR tn Tryz.func122 rfl Tryz.results122 Tryz.ntmps122 ?_
 intro args v h
 unfold MY at h
 split at h
 .rename_i n off sz
  split at h
  .rename_i hc
   simp only [ar] at h;subst h
   refine ⟨by simp only [cT,fa];decide,rfl,rfl,?_⟩
   obtain ⟨N,rfl⟩:∃N:Nat,n=(N:Int):=⟨n.toNat,ω⟩
   have pc:=ad3 hc.1 hc.2 off sz
   obtain ⟨m,hm⟩:∃m,off.toNat=m:=⟨_,rfl⟩
   rw [hm] at pc
   generalize bM (N:Int) off sz=a at *
   have g1:¬(N:Int) < 1:=ω
   have g2:¬(8:Int) < (N:Int):=ω
   have L1:m=4096->(off=4096#64)=True:=λh=>by rw [CX δ,hm];exact eq_true h
   have Dy:m≠4096->(off=4096#64)=False:=λh=>by rw [CX δ,hm];exact eq_false h
   have n16:∀c:Nat,¬(c:Int) < 2 * (N:Int)->c < 16->aA (2 * (N:Int))=2 * (N:Int):=λ_ _ _=>aq ω ω
   have e2:aA (2 * (N:Int))=2 * (N:Int):=aq ω ω
   cases pc with
   | p1 j i1 i2 hs mO ha =>
     subst hs ha
     obtain ⟨j,rfl⟩:∃k,j=k+1:=⟨j - 1,ω⟩
     (repeat (first | simp (maxSteps:=9^9) only [go_sem,seval,g1,g2] | simp (disch:=omega) only [aq,aV,aU,aT,aS]))
     refine fB j (λi=>([(0,.c (.i N)),(1,.c (.u off)),(2,.c (.i 4)),(8,.c (.i (i+1)))],[])) (Wk.fq (by simp [Am.get])) λi hi=>?_
     by_cases aG:i < j
     .have iW:((i:Nat):Int)+1 < 32:=ω
      have E1:aA (4 * ((i:Int)+1))=4 * ((i:Int)+1):=aq ω ω
      have E4:aA ((i:Int)+1+1)=((i+1:Nat):Int)+1:=by rw [aq ω ω];omega
      have Q1:(off=aw 64 (4 * ((i:Int)+1)))=False:=by rw [iw ω ω];exact eq_false ω
      (repeat (first | simp (maxSteps:=9^9) only [go_sem,seval,iW,E1,E4,Q1] | simp (disch:=omega) only [aq,aV,aU,aT,aS]))
      exact ⟨i+1,ω,ω,Wk.fq (by simp [Am.get])⟩
     .obtain rfl:i=j:=ω
      have iW:((i:Nat):Int)+1 < 32:=ω
      have E1:aA (4 * ((i:Int)+1))=4 * ((i:Int)+1):=aq ω ω
      have E4:aA ((i:Int)+1+1)=((i+1:Nat):Int)+1:=by rw [aq ω ω];omega
      have Q1:(off=aw 64 (4 * ((i:Int)+1)))=True:=by rw [iw ω ω];exact eq_true ω
      (repeat (first | simp (maxSteps:=9^9) only [go_sem,seval,iW,E1,E4,Q1] | simp (disch:=omega) only [aq,aV,aU,aT,aS]))
      first | rfl | skip
   | p2 hs mO ha =>
     subst hs ha
     (repeat (first | simp (maxSteps:=9^9) only [go_sem,seval,g1,g2] | simp (disch:=omega) only [aq,aV,aU,aT,aS]))
     refine fB 31 (λi=>([(0,.c (.i N)),(1,.c (.u off)),(2,.c (.i 4)),(8,.c (.i (i+1)))],[])) (Wk.fq (by simp [Am.get])) λi hi=>?_
     by_cases aG:i < 31
     .have iW:((i:Nat):Int)+1 < 32:=ω
      have E1:aA (4 * ((i:Int)+1))=4 * ((i:Int)+1):=aq ω ω
      have E4:aA ((i:Int)+1+1)=((i+1:Nat):Int)+1:=by rw [aq ω ω];omega
      have Q1:(off=aw 64 (4 * ((i:Int)+1)))=False:=by rw [iw ω ω];exact eq_false ω
      (repeat (first | simp (maxSteps:=9^9) only [go_sem,seval,iW,E1,E4,Q1] | simp (disch:=omega) only [aq,aV,aU,aT,aS]))
      exact ⟨i+1,ω,ω,Wk.fq (by simp [Am.get])⟩
     .obtain rfl:i=31:=ω
      have l1:=L1 mO
      (repeat (first | simp (maxSteps:=9^9) only [go_sem,seval,l1] | simp (disch:=omega) only [aq,aV,aU,aT,aS]))
   | p3 h hn hs mO ha =>
     subst hs ha
     (repeat (first | simp (maxSteps:=9^9) only [go_sem,seval,g1,g2] | simp (disch:=omega) only [aq,aV,aU,aT,aS]))
     refine fB 31 (λi=>([(0,.c (.i N)),(1,.c (.u off)),(2,.c (.i 4)),(8,.c (.i (i+1)))],[])) (Wk.fq (by simp [Am.get])) λi hi=>?_
     by_cases aG:i < 31
     .have iW:((i:Nat):Int)+1 < 32:=ω
      have E1:aA (4 * ((i:Int)+1))=4 * ((i:Int)+1):=aq ω ω
      have E4:aA ((i:Int)+1+1)=((i+1:Nat):Int)+1:=by rw [aq ω ω];omega
      have Q1:(off=aw 64 (4 * ((i:Int)+1)))=False:=by rw [iw ω ω];exact eq_false ω
      (repeat (first | simp (maxSteps:=9^9) only [go_sem,seval,iW,E1,E4,Q1] | simp (disch:=omega) only [aq,aV,aU,aT,aS]))
      exact ⟨i+1,ω,ω,Wk.fq (by simp [Am.get])⟩
     .obtain rfl:i=31:=ω
      have l1:=Dy ω
      (repeat (first | simp (maxSteps:=9^9) only [go_sem,seval,l1] | simp (disch:=omega) only [aq,aV,aU,aT,aS]))
      refine fB h (λk=>([(0,.c (.i N)),(1,.c (.u off)),(2,.c (.i 4)),(9,.c (.i k))],[])) (Wk.fq (by simp [Am.get])) λk hk=>?_
      by_cases oP:k < h
      .have iX:((k:Nat):Int) < 2 * (N:Int):=ω
       have E0:aA (2 * (N:Int))=2 * (N:Int):=aq ω ω
       have E1:aA (128 * (k:Int))=128 * (k:Int):=aq ω ω
       have E2:aA (8192+128 * (k:Int))=8192+128 * (k:Int):=aq ω ω
       have E3:aA (4096 * (k:Int))=4096 * (k:Int):=aq ω ω
       have E5:aA (2097152+4096 * (k:Int))=2097152+4096 * (k:Int):=aq ω ω
       have E6:aA (2097156+4096 * (k:Int))=2097156+4096 * (k:Int):=aq ω ω
       have E4:aA ((k:Int)+1)=((k+1:Nat):Int):=by rw [aq ω ω];omega
       have Q2:(off=aw 64 (8192+128 * (k:Int)))=False:=by rw [iw ω ω];exact eq_false ω
       have Q3:(off=aw 64 (2097152+4096 * (k:Int)))=False:=by rw [iw ω ω];exact eq_false ω
       have Q4:(off=aw 64 (2097156+4096 * (k:Int)))=False:=by rw [iw ω ω];exact eq_false ω
       (repeat (first | simp (maxSteps:=9^9) only [go_sem,seval,iX,E0,E1,E2,E3,E4,E5,E6,Q2,Q3,Q4] | simp (disch:=omega) only [aq,aV,aU,aT,aS]))
       exact ⟨k+1,ω,ω,Wk.fq (by simp [Am.get])⟩
      .obtain rfl:k=h:=ω
       have iX:((k:Nat):Int) < 2 * (N:Int):=ω
       have E0:aA (2 * (N:Int))=2 * (N:Int):=aq ω ω
       have E1:aA (128 * (k:Int))=128 * (k:Int):=aq ω ω
       have E2:aA (8192+128 * (k:Int))=8192+128 * (k:Int):=aq ω ω
       have E3:aA (4096 * (k:Int))=4096 * (k:Int):=aq ω ω
       have E5:aA (2097152+4096 * (k:Int))=2097152+4096 * (k:Int):=aq ω ω
       have E6:aA (2097156+4096 * (k:Int))=2097156+4096 * (k:Int):=aq ω ω
       have E4:aA ((k:Int)+1)=((k+1:Nat):Int):=by rw [aq ω ω];omega
       have Q2:(off=aw 64 (8192+128 * (k:Int)))=True:=by rw [iw ω ω];exact eq_true ω
       (repeat (first | simp (maxSteps:=9^9) only [go_sem,seval,iX,E0,E1,E2,E3,E4,E5,E6,Q2] | simp (disch:=omega) only [aq,aV,aU,aT,aS]))
   | p4 h hn hs mO ha =>
     subst hs ha
     (repeat (first | simp (maxSteps:=9^9) only [go_sem,seval,g1,g2] | simp (disch:=omega) only [aq,aV,aU,aT,aS]))
     refine fB 31 (λi=>([(0,.c (.i N)),(1,.c (.u off)),(2,.c (.i 4)),(8,.c (.i (i+1)))],[])) (Wk.fq (by simp [Am.get])) λi hi=>?_
     by_cases aG:i < 31
     .have iW:((i:Nat):Int)+1 < 32:=ω
      have E1:aA (4 * ((i:Int)+1))=4 * ((i:Int)+1):=aq ω ω
      have E4:aA ((i:Int)+1+1)=((i+1:Nat):Int)+1:=by rw [aq ω ω];omega
      have Q1:(off=aw 64 (4 * ((i:Int)+1)))=False:=by rw [iw ω ω];exact eq_false ω
      (repeat (first | simp (maxSteps:=9^9) only [go_sem,seval,iW,E1,E4,Q1] | simp (disch:=omega) only [aq,aV,aU,aT,aS]))
      exact ⟨i+1,ω,ω,Wk.fq (by simp [Am.get])⟩
     .obtain rfl:i=31:=ω
      have l1:=Dy ω
      (repeat (first | simp (maxSteps:=9^9) only [go_sem,seval,l1] | simp (disch:=omega) only [aq,aV,aU,aT,aS]))
      refine fB h (λk=>([(0,.c (.i N)),(1,.c (.u off)),(2,.c (.i 4)),(9,.c (.i k))],[])) (Wk.fq (by simp [Am.get])) λk hk=>?_
      by_cases oP:k < h
      .have iX:((k:Nat):Int) < 2 * (N:Int):=ω
       have E0:aA (2 * (N:Int))=2 * (N:Int):=aq ω ω
       have E1:aA (128 * (k:Int))=128 * (k:Int):=aq ω ω
       have E2:aA (8192+128 * (k:Int))=8192+128 * (k:Int):=aq ω ω
       have E3:aA (4096 * (k:Int))=4096 * (k:Int):=aq ω ω
       have E5:aA (2097152+4096 * (k:Int))=2097152+4096 * (k:Int):=aq ω ω
       have E6:aA (2097156+4096 * (k:Int))=2097156+4096 * (k:Int):=aq ω ω
       have E4:aA ((k:Int)+1)=((k+1:Nat):Int):=by rw [aq ω ω];omega
       have Q2:(off=aw 64 (8192+128 * (k:Int)))=False:=by rw [iw ω ω];exact eq_false ω
       have Q3:(off=aw 64 (2097152+4096 * (k:Int)))=False:=by rw [iw ω ω];exact eq_false ω
       have Q4:(off=aw 64 (2097156+4096 * (k:Int)))=False:=by rw [iw ω ω];exact eq_false ω
       (repeat (first | simp (maxSteps:=9^9) only [go_sem,seval,iX,E0,E1,E2,E3,E4,E5,E6,Q2,Q3,Q4] | simp (disch:=omega) only [aq,aV,aU,aT,aS]))
       exact ⟨k+1,ω,ω,Wk.fq (by simp [Am.get])⟩
      .obtain rfl:k=h:=ω
       have iX:((k:Nat):Int) < 2 * (N:Int):=ω
       have E0:aA (2 * (N:Int))=2 * (N:Int):=aq ω ω
       have E1:aA (128 * (k:Int))=128 * (k:Int):=aq ω ω
       have E2:aA (8192+128 * (k:Int))=8192+128 * (k:Int):=aq ω ω
       have E3:aA (4096 * (k:Int))=4096 * (k:Int):=aq ω ω
       have E5:aA (2097152+4096 * (k:Int))=2097152+4096 * (k:Int):=aq ω ω
       have E6:aA (2097156+4096 * (k:Int))=2097156+4096 * (k:Int):=aq ω ω
       have E4:aA ((k:Int)+1)=((k+1:Nat):Int):=by rw [aq ω ω];omega
       have Q2:(off=aw 64 (8192+128 * (k:Int)))=False:=by rw [iw ω ω];exact eq_false ω
       have Q3:(off=aw 64 (2097152+4096 * (k:Int)))=True:=by rw [iw ω ω];exact eq_true ω
       (repeat (first | simp (maxSteps:=9^9) only [go_sem,seval,iX,E0,E1,E2,E3,E4,E5,E6,Q2,Q3] | simp (disch:=omega) only [aq,aV,aU,aT,aS]))
   | p5 h hn hs mO ha =>
     subst hs ha
     (repeat (first | simp (maxSteps:=9^9) only [go_sem,seval,g1,g2] | simp (disch:=omega) only [aq,aV,aU,aT,aS]))
     refine fB 31 (λi=>([(0,.c (.i N)),(1,.c (.u off)),(2,.c (.i 4)),(8,.c (.i (i+1)))],[])) (Wk.fq (by simp [Am.get])) λi hi=>?_
     by_cases aG:i < 31
     .have iW:((i:Nat):Int)+1 < 32:=ω
      have E1:aA (4 * ((i:Int)+1))=4 * ((i:Int)+1):=aq ω ω
      have E4:aA ((i:Int)+1+1)=((i+1:Nat):Int)+1:=by rw [aq ω ω];omega
      have Q1:(off=aw 64 (4 * ((i:Int)+1)))=False:=by rw [iw ω ω];exact eq_false ω
      (repeat (first | simp (maxSteps:=9^9) only [go_sem,seval,iW,E1,E4,Q1] | simp (disch:=omega) only [aq,aV,aU,aT,aS]))
      exact ⟨i+1,ω,ω,Wk.fq (by simp [Am.get])⟩
     .obtain rfl:i=31:=ω
      have l1:=Dy ω
      (repeat (first | simp (maxSteps:=9^9) only [go_sem,seval,l1] | simp (disch:=omega) only [aq,aV,aU,aT,aS]))
      refine fB h (λk=>([(0,.c (.i N)),(1,.c (.u off)),(2,.c (.i 4)),(9,.c (.i k))],[])) (Wk.fq (by simp [Am.get])) λk hk=>?_
      by_cases oP:k < h
      .have iX:((k:Nat):Int) < 2 * (N:Int):=ω
       have E0:aA (2 * (N:Int))=2 * (N:Int):=aq ω ω
       have E1:aA (128 * (k:Int))=128 * (k:Int):=aq ω ω
       have E2:aA (8192+128 * (k:Int))=8192+128 * (k:Int):=aq ω ω
       have E3:aA (4096 * (k:Int))=4096 * (k:Int):=aq ω ω
       have E5:aA (2097152+4096 * (k:Int))=2097152+4096 * (k:Int):=aq ω ω
       have E6:aA (2097156+4096 * (k:Int))=2097156+4096 * (k:Int):=aq ω ω
       have E4:aA ((k:Int)+1)=((k+1:Nat):Int):=by rw [aq ω ω];omega
       have Q2:(off=aw 64 (8192+128 * (k:Int)))=False:=by rw [iw ω ω];exact eq_false ω
       have Q3:(off=aw 64 (2097152+4096 * (k:Int)))=False:=by rw [iw ω ω];exact eq_false ω
       have Q4:(off=aw 64 (2097156+4096 * (k:Int)))=False:=by rw [iw ω ω];exact eq_false ω
       (repeat (first | simp (maxSteps:=9^9) only [go_sem,seval,iX,E0,E1,E2,E3,E4,E5,E6,Q2,Q3,Q4] | simp (disch:=omega) only [aq,aV,aU,aT,aS]))
       exact ⟨k+1,ω,ω,Wk.fq (by simp [Am.get])⟩
      .obtain rfl:k=h:=ω
       have iX:((k:Nat):Int) < 2 * (N:Int):=ω
       have E0:aA (2 * (N:Int))=2 * (N:Int):=aq ω ω
       have E1:aA (128 * (k:Int))=128 * (k:Int):=aq ω ω
       have E2:aA (8192+128 * (k:Int))=8192+128 * (k:Int):=aq ω ω
       have E3:aA (4096 * (k:Int))=4096 * (k:Int):=aq ω ω
       have E5:aA (2097152+4096 * (k:Int))=2097152+4096 * (k:Int):=aq ω ω
       have E6:aA (2097156+4096 * (k:Int))=2097156+4096 * (k:Int):=aq ω ω
       have E4:aA ((k:Int)+1)=((k+1:Nat):Int):=by rw [aq ω ω];omega
       have Q2:(off=aw 64 (8192+128 * (k:Int)))=False:=by rw [iw ω ω];exact eq_false ω
       have Q3:(off=aw 64 (2097152+4096 * (k:Int)))=False:=by rw [iw ω ω];exact eq_false ω
       have Q4:(off=aw 64 (2097156+4096 * (k:Int)))=True:=by rw [iw ω ω];exact eq_true ω
       (repeat (first | simp (maxSteps:=9^9) only [go_sem,seval,iX,E0,E1,E2,E3,E4,E5,E6,Q2,Q3,Q4] | simp (disch:=omega) only [aq,aV,aU,aT,aS]))
   | p0 ha h4 =>
     subst ha
     by_cases s4:sz=4
     .subst s4
      obtain ⟨z1,z2,z3⟩:=h4 rfl
      (repeat (first | simp (maxSteps:=9^9) only [go_sem,seval,g1,g2] | simp (disch:=omega) only [aq,aV,aU,aT,aS]))
      refine fB 31 (λi=>([(0,.c (.i N)),(1,.c (.u off)),(2,.c (.i 4)),(8,.c (.i (i+1)))],[])) (Wk.fq (by simp [Am.get])) λi hi=>?_
      by_cases aG:i < 31
      .have z:=z2 (i+1) ω ω
       have iW:((i:Nat):Int)+1 < 32:=ω
       have E1:aA (4 * ((i:Int)+1))=4 * ((i:Int)+1):=aq ω ω
       have E4:aA ((i:Int)+1+1)=((i+1:Nat):Int)+1:=by rw [aq ω ω];omega
       have Q1:(off=aw 64 (4 * ((i:Int)+1)))=False:=by rw [iw ω ω];exact eq_false ω
       (repeat (first | simp (maxSteps:=9^9) only [go_sem,seval,iW,E1,E4,Q1] | simp (disch:=omega) only [aq,aV,aU,aT,aS]))
       exact ⟨i+1,ω,ω,Wk.fq (by simp [Am.get])⟩
      .obtain rfl:i=31:=ω
       have l1:=Dy z1
       (repeat (first | simp (maxSteps:=9^9) only [go_sem,seval,l1] | simp (disch:=omega) only [aq,aV,aU,aT,aS]))
       refine fB (2 * N) (λk=>([(0,.c (.i N)),(1,.c (.u off)),(2,.c (.i 4)),(9,.c (.i k))],[])) (Wk.fq (by simp [Am.get])) λk hk=>?_
       by_cases oP:k < (2 * N)
       .obtain ⟨y1,y2,y3⟩:=z3 k ω
        have iX:((k:Nat):Int) < 2 * (N:Int):=ω
        have E0:aA (2 * (N:Int))=2 * (N:Int):=aq ω ω
        have E1:aA (128 * (k:Int))=128 * (k:Int):=aq ω ω
        have E2:aA (8192+128 * (k:Int))=8192+128 * (k:Int):=aq ω ω
        have E3:aA (4096 * (k:Int))=4096 * (k:Int):=aq ω ω
        have E5:aA (2097152+4096 * (k:Int))=2097152+4096 * (k:Int):=aq ω ω
        have E6:aA (2097156+4096 * (k:Int))=2097156+4096 * (k:Int):=aq ω ω
        have E4:aA ((k:Int)+1)=((k+1:Nat):Int):=by rw [aq ω ω];omega
        have Q2:(off=aw 64 (8192+128 * (k:Int)))=False:=by rw [iw ω ω];exact eq_false ω
        have Q3:(off=aw 64 (2097152+4096 * (k:Int)))=False:=by rw [iw ω ω];exact eq_false ω
        have Q4:(off=aw 64 (2097156+4096 * (k:Int)))=False:=by rw [iw ω ω];exact eq_false ω
        (repeat (first | simp (maxSteps:=9^9) only [go_sem,seval,iX,E0,E1,E2,E3,E4,E5,E6,Q2,Q3,Q4] | simp (disch:=omega) only [aq,aV,aU,aT,aS]))
        exact ⟨k+1,ω,ω,Wk.fq (by simp [Am.get])⟩
       .obtain rfl:k=(2 * N):=ω
        have iX:¬((2 * N:Nat):Int) < 2 * (N:Int):=ω
        (repeat (first | simp (maxSteps:=9^9) only [go_sem,seval,iX,e2] | simp (disch:=omega) only [aq,aV,aU,aT,aS]))
     .have S4:(sz=4)=False:=eq_false s4
      (repeat (first | simp (maxSteps:=9^9) only [go_sem,seval,S4] | simp (disch:=omega) only [aq,aV,aU,aT,aS]))
  .simp at h
 .simp at h
theorem ck0 (off:BitVec 64) (sz:Int):(cb 0 off sz).k=0:=by
 have e0:aw 64 0=0#64:=rfl
 unfold cb
 rw [e0]
 have z:∀x:BitVec 64,¬x < 0#64:=λx h=>by rw [nP] at h;exact absurd h (NC _)
 rw [if_neg (λh=>z _ h.2.2)]
 split
 .rfl
 rw [if_neg (λh=>z _ h.1)]
 rw [if_neg (λh=>by
  obtain ⟨h1,h2⟩:=h
  rw [sY] at h1
  rw [show 16384#64+8#64 * 0#64=16384#64 from rfl,nP] at h2
  omega)]
theorem pl0 (off:BitVec 64) (sz:Int):(bM 0 off sz).k=0:=by
 unfold bM
 rw [if_pos (.inr (.inr rfl))]
theorem ajN {n:Int} (h:¬(1<=n/\n<=8)):(iS n).n=0:=by unfold iS;rw [if_neg h];rfl
theorem av6 {n:Int} (h:¬(1<=n/\n<=8)):(iP n).n=0:=by unfold iP;rw [if_neg h];rfl
theorem ai7 {n:Int} (h:¬(1<=n/\n<=8)) (a:BitVec 64) (s:Int):(ik n a s).d=0:=by
 unfold ik HC IN
 rw [ajN h,av6 h,ck0,pl0]
 rw [if_neg (by simp),if_neg (by simp),if_neg (λx=>h x.2.1)]
theorem ai6 {n:Int} (h:1<=n/\n<=8) (a:BitVec 64) (s:Int):(ik n a s).d=if ¬(cb n (a - 33554432#64) s).k=0 then 1 else if ¬(bM n (a - 201326592#64) s).k=0 then 2 else if 268435456#64<=a/\a < 268435464#64/\s=1 then 3 else 0:=by
 unfold ik HC IN
 rw [aal h,V4 h]
 have k1:¬(cb n (a - 33554432#64) s).k=0->33554432#64<=a:=λhk=>by
  have hc:=Oa h.1 h.2 (a - 33554432#64) s
  generalize cb n (a - 33554432#64) s=z at *
  have key:(a - 33554432#64).toNat < 100000->33554432#64<=a:=λhl=>by
   rw [zo,show (33554432#64).toNat=33554432 from rfl] at hl
   rw [sY,show (33554432#64).toNat=33554432 from rfl]
   have:=a.isLt
   omega
  cases hc with
  | c0 ha=>subst ha;exact absurd rfl hk
  | _=>exact key ω
 have k2:¬(bM n (a - 201326592#64) s).k=0->201326592#64<=a:=λhk=>by
  have hc:=ad3 h.1 h.2 (a - 201326592#64) s
  generalize bM n (a - 201326592#64) s=z at *
  have key:(a - 201326592#64).toNat < 4000000->201326592#64<=a:=λhl=>by
   rw [zo,show (201326592#64).toNat=201326592 from rfl] at hl
   rw [sY,show (201326592#64).toNat=201326592 from rfl]
   have:=a.isLt
   omega
  cases hc with
  | p0 ha=>subst ha;exact absurd rfl hk
  | _=>exact key ω
 have k3:268435456#64<=a->(a - 268435456#64 < 8#64)=(a < 268435464#64):=λha=>by
  rw [sY,show (268435456#64).toNat=268435456 from rfl] at ha
  rw [nP,nP,zo,show (268435456#64).toNat=268435456 from rfl,show (8#64).toNat=8 from rfl,show (268435464#64).toNat=268435464 from rfl]
  have:=a.isLt
  exact propext ω
 by_cases c1:(cb n (a - 33554432#64) s).k=0
 .rw [if_neg (by simp [c1])]
  rw [if_neg (show ¬¬(cb n (a - 33554432#64) s).k=0 from λx=>x c1)]
  by_cases c2:(bM n (a - 201326592#64) s).k=0
  .rw [if_neg (by simp [c2]),if_neg (show ¬¬(bM n (a - 201326592#64) s).k=0 from λx=>x c2)]
   by_cases c3:268435456#64<=a
   .simp only [k3 c3]
    by_cases c4:a < 268435464#64/\s=1
    .rw [if_pos ⟨c3,h,c4⟩,if_pos ⟨c3,c4⟩]
    .rw [if_neg (λx=>c4 x.2.2),if_neg (λx=>c4 x.2)]
   .rw [if_neg (λx=>c3 x.1),if_neg (λx=>c3 x.1)]
  .rw [if_pos ⟨k2 c2,by simp [c2]⟩,if_pos c2]
 .rw [if_pos ⟨k1 c1,by simp [c1]⟩,if_pos c1]
def M6 (args:List AV):Option AV :=
 match args with
 | [.c (.i n),.c (.u a),.c (.i s)]=>some (.c (.i (ik n a s).d))
 | _=>none
theorem afE {n a s}:M6 [.c (.i n),.c (.u a),.c (.i s)]=some (.c (.i (ik n a s).d)):=rfl
theorem adE:cK Tryz.prog 78 M6:=by
 refine cR (tu VL (tu VM tn)) Tryz.func78 rfl Tryz.results78 Tryz.ntmps78 ?_
 intro args v h
 unfold M6 at h
 split at h
 .rename_i n a s
  simp only [ar] at h;subst h
  refine ⟨by simp only [cT,fa];decide,rfl,rfl,?_⟩
  by_cases h:1<=n/\n<=8
  .rw [ai6 h]
   have e1:=XF (n:=n) (off:=a - 33554432#64) (sz:=s)
   have e2:=XH (n:=n) (off:=a - 201326592#64) (sz:=s)
   rw [if_pos h] at e1 e2
   have k1:=Kt n (a - 33554432#64) s
   have k2:=Ma n (a - 201326592#64) s
   have g1:¬n < 1:=ω
   have g2:¬8 < n:=ω
   generalize cb n (a - 33554432#64) s=x at *
   generalize bM n (a - 201326592#64) s=y at *
   obtain ⟨xk,xh,xu⟩:=x
   obtain ⟨yk,yi⟩:=y
   simp only at k1 k2 e1 e2
   by_cases c1:xk=0
   .subst c1
    by_cases c2:yk=0
    .subst c2
     rcases Classical.propComplete (268435456#64<=a) with c3 | c3
     all_goals rcases Classical.propComplete (a < 268435464#64) with c4 | c4
     all_goals rcases Classical.propComplete (s=1) with c5 | c5
     all_goals (repeat (first | simp (maxSteps:=9^9) only [go_sem,seval,e1,e2,g1,g2,c3,c4,c5,not_true_eq_false,if_true,if_false,true_and,and_true,false_and,and_false] | simp (disch:=omega) only [aq,aV,aU,aT,aS]))
    .have p2:(0:Int) < yk:=ω
     (repeat (first | simp (maxSteps:=9^9) only [go_sem,seval,e1,e2,g1,g2,p2,c2,not_true_eq_false,not_false_eq_true,if_true,if_false] | simp (disch:=omega) only [aq,aV,aU,aT,aS]))
   .have p1:(0:Int) < (xk:Int):=ω
    (repeat (first | simp (maxSteps:=9^9) only [go_sem,seval,e1,g1,g2,p1,c1,not_false_eq_true,if_true] | simp (disch:=omega) only [aq,aV,aU,aT,aS]))
  .have e:=ai7 h a s
   rw [e]
   by_cases g1:n < 1
   ·(repeat (first | simp (maxSteps:=9^9) only [go_sem,seval,g1] | simp (disch:=omega) only [aq,aV,aU,aT,aS]))
   .have g2:8 < n:=ω
    (repeat (first | simp (maxSteps:=9^9) only [go_sem,seval,g1,g2] | simp (disch:=omega) only [aq,aV,aU,aT,aS]))
 .simp at h
end
section
variable {H:AH}{D:Bd}
theorem V2{K:AH}{h:Nat}{t:Pt}{x y:Sc}(hP:PI K h t x y):wC K h=some (t,x,y):=awj hP
def aeh(args:List AV)(H:AH)(v:AV):Prop:=(args=[.c .dk]->v=.c (.u 0#64))/\∀D,args=[.c (.p D.id 0 0)]->BI H D->v=.c (.u D.b.c.t)
def Mt:List AV->AH->Option AV:=lk Tryz.prog [(163,.fq Jd)] 109 aeh
theorem asA:bh Tryz.prog 109 (λargs H=>(Mt args H).map λv=>(v,H)):=oL (tq asK tn) Tryz.func109 rfl Tryz.results109 Tryz.ntmps109
theorem ax0(hB:BI H D):Mt [.c (.p D.id 0 0)] H=some (.c (.u D.b.c.t)):=by
 have:∃v,Mt [.c (.p D.id 0 0)] H=some v/\aeh [.c (.p D.id 0 0)] H v:=by
  unfold Mt;apply mM (v:=.c (.u D.b.c.t)) Tryz.func109 rfl Tryz.results109 Tryz.ntmps109 (by simp)
  .exact λ_ _=>rfl
  .intro _ _;have ho:=hB.ho;have ll:=hB.l;have ct:=ax7 hB.ck;simp only[go_sem,seval,ho,ll,ct];exact aE _
  .refine⟨λhe=>by simp at he,λE he hE=>?_⟩;simp only[cL,AV.c.injEq,Sc.p.injEq,and_true]at he;rw[hB.uniq hE he]
 obtain⟨v,h1,h2⟩:=this;rw[h1,h2.2 D rfl hB]
def Ej(args:List AV)(H:AH):Option (AV×AH):=match args with
 |[.c .dk]=>some (.c .az,H)|[.c (.p id 0 0)]=>match hg H id with
   |.own (.p pid 0 0::cs)=>if cs.length=87 then(match EI [.c (.p pid 0 0)] H with|some (.c s,H1)=>some (.c s,H1)|_=>none)else none|_=>none
 |_=>none
theorem apD(args:List AV)(H:AH)(v:AV)(H1:AH)(h:Ej args H=some (v,H1)):H.length<=H1.length:=by
 unfold Ej at h;repeat' split at h
 all_goals first|(simp at h;done)|(simp at h;rw[<-h.2];exact aB _)|(rename_i e;simp at h;rw[<-h.2];exact acq _ _ _ _ e)
theorem asx:bh Tryz.prog 110 Ej:=by
 refine gJ (s:=Ej) (tp auH tn) Tryz.func110 rfl Tryz.results110 Tryz.ntmps110 apD ?_;intro args H v H1 h b9 hH;unfold Ej at h;split at h
 .simp only[ar,bE]at h;obtain⟨rfl,rfl⟩:=h;refine⟨by simp,?_⟩;simp only[go_sem,seval];exact aI
 .split at h
  .rename_i ho;split at h
   .rename_i hl;split at h
    .rename_i e;simp only[ar,bE]at h;obtain⟨rfl,rfl⟩:=h;refine⟨by simp,?_⟩;simp only[go_sem,seval,ho,hl,e];exact aI
    .simp at h
   .simp at h
  .simp at h
 .simp at h
theorem axX(hB:BI H D)(hs:D.t.B.length<=1000000):Ej [.c (.p D.id 0 0)] H=some (.c (.sl H.length 0 D.t.B.length D.t.B.length),H++[.vec 1 (D.t.B.flatMap dO)]):=by
 have ll:=hB.l;simp only[fP,cT]at ll;simp only[Ej,hB.ho,fP,avN hB.pi hs];rw[if_pos (by simp only[cT];omega)]
def Ek(args:List AV)(H:AH):Option (AV×AH):=match args with
 |[.c .dk]=>some (.c .az,H)|[.c (.p id 0 0)]=>match hg H id with
   |.own (.p pid 0 0::cs)=>if cs.length=87 then(match EJ [.c (.p pid 0 0)] H with|some (.c s,H1)=>some (.c s,H1)|_=>none)else none|_=>none
 |_=>none
theorem apE(args:List AV)(H:AH)(v:AV)(H1:AH)(h:Ek args H=some (v,H1)):H.length<=H1.length:=by
 unfold Ek at h;repeat' split at h
 all_goals first|(simp at h;done)|(simp at h;rw[<-h.2];exact aB _)|(rename_i e;simp at h;rw[<-h.2];exact acy _ _ _ _ e)
theorem asB:bh Tryz.prog 111 Ek:=by
 refine gJ (s:=Ek) (tp auQ tn) Tryz.func111 rfl Tryz.results111 Tryz.ntmps111 apE ?_;intro args H v H1 h b9 hH;unfold Ek at h;split at h
 .simp only[ar,bE]at h;obtain⟨rfl,rfl⟩:=h;refine⟨by simp,?_⟩;simp only[go_sem,seval];exact aI
 .split at h
  .rename_i ho;split at h
   .rename_i hl;split at h
    .rename_i e;simp only[ar,bE]at h;obtain⟨rfl,rfl⟩:=h;refine⟨by simp,?_⟩;simp only[go_sem,seval,ho,hl,e];exact aI
    .simp at h
   .simp at h
  .simp at h
 .simp at h
theorem ax1(hB:BI H D)(hs:D.t.A.length<=1000000):Ek [.c (.p D.id 0 0)] H=some (.c (.sl H.length 0 D.t.A.length D.t.A.length),H++[.vec 1 (D.t.A.flatMap dO)]):=by
 have ll:=hB.l;simp only[fP,cT]at ll;simp only[Ek,hB.ho,fP,aBG hB.pi hs];rw[if_pos (by simp only[cT];omega)]
def Fm(n:Nat)(t:Pt):AH:=[.own (iy (iJ t (.sl (n+1) 0 t.A.length t.A.length) (.sl (n+2) 0 t.B.length t.B.length))),.vec 1 (t.A.flatMap dO),.vec 1 (t.B.flatMap dO)]
def aee(args:List AV)(H:AH)(v:AV)(H1:AH):Prop:=(args=[.c .dk]->v=.c .dk/\H1=H)/\∀D,args=[.c (.p D.id 0 0)]->BI H D->v=.c (.p (H.length+3) 0 0)/\H1=H++(Fm H.length D.t++[.own (fP H.length D.b)])
def Mq:List AV->AH->Option (AV×AH):=sd Tryz.prog [(112,.fp EH)] 53 aee
theorem ass:bh Tryz.prog 53 Mq:=yw (tp auC tn) Tryz.func53 rfl Tryz.results53 Tryz.ntmps53
theorem axT(hB:BI H D)(hf:AT D.t):Mq [.c (.p D.id 0 0)] H=some (.c (.p (H.length+3) 0 0),H++(Fm H.length D.t++[.own (fP H.length D.b)])):=by
 have:∃v H1,Mq [.c (.p D.id 0 0)] H=some (v,H1)/\H.length<=H1.length/\aee [.c (.p D.id 0 0)] H v H1:=by
  have ho:=hB.ho;have fW:∀X,hg (H++X) D.id=.own (fP D.pid D.b):=λX=>(hB.app X).ho;have uc:=aza (V2 hB.pi) hf;have l1:=gp hB.ok.c;have l2:=Al hB.ok.k;have o1:=nW D.b.c;have o2:=adZ D.b.k;have t1:∀m:List Sc,bJ 18 (aR D.b.c++m)=aR D.b.c:=λm=>nQ l1;have t2:bJ 68 (eJ D.b.k)=eJ D.b.k:=bQ ω;have t3:∀m:List Sc,cQ 18 (aR D.b.c++m)=m:=λm=>vE l1;have t4:∀m:List Sc,cQ 86 (aR D.b.c++m)=cQ 68 m:=λm=>by rw[zt,l1,kN ω,jW]
  unfold fP at ho fW;unfold Mq;apply ie (v:=.c (.p (H.length+3) 0 0)) (H1:=H++(Fm H.length D.t++[.own (fP H.length D.b)])) Tryz.func53 rfl Tryz.results53 Tryz.ntmps53 (by simp)
  .intro _ _;simp only[go_sem,seval,ho,fW,uc,l1,l2,o1,o2,t1,t2,t3,t4];(repeat' first|apply cf|(intro _;kernel_rfl)|kernel_rfl);exact aI
  .simp
  .refine⟨λhe=>by simp at he,λE he hE=>?_⟩;simp only[cL,AV.c.injEq,Sc.p.injEq,and_true]at he;rw[hB.uniq hE he];exact⟨rfl,rfl⟩
 obtain⟨v,H1,h1,_,h2⟩:=this;obtain⟨rfl,rfl⟩:=h2.2 D rfl hB;exact h1
end
variable {k:Pk}
section
def fo(w:BitVec 32):List Sc:=(pj 32).map λi=>.b (w.getLsbD i)
def wH(k:Pk):List Sc:=k.p.map Sc.i++(fo k.w++(fo k.q++(fo k.s++(k.e.flatMap fo++k.l.map Sc.i))))
def aO(k:Pk):List Sc:=.i k.n::wH k
theorem ky(w:BitVec 32):(fo w).length=32:=by simp[fo]
theorem ae2(h:cM k):(wH k).length=656:=by
 have:(k.e.flatMap fo).length=512:=by rw[pF ky,h.e]
 simp[wH,h.p,h.l,ky,this]
theorem Wp{f:Sc->Bool}(hf:∀q,f (.b q)=true)(w:BitVec 32):(fo w).all f=true:=by
 unfold fo;rw[vF];exact cE.2 λ_ _=>hf _
theorem WC{f:Sc->Bool}(hf:∀q,f (.b q)=true)(hi:∀n,f (.i n)=true)(k:Pk):(wH k).all f=true:=by
 have hm:∀l:List Int,(l.map Sc.i).all f=true:=λl=>by rw[vF];exact cE.2 λ_ _=>hi _
 have he:(k.e.flatMap fo).all f=true:=by
  rw[List.all_flatMap];exact cE.2 λw _=>Wp hf w
 simp only[wH,fJ,hm,he,Wp hf,Ny]
theorem ae3(k:Pk):(wH k).all Sc.one=true:=WC (λ_=>rfl) (λ_=>rfl) k
theorem awQ(k:Pk):(wH k).all Sc.pf=true:=WC (λ_=>rfl) (λ_=>rfl) k
def pN:List Sc:=wH (vm 0)
theorem yS:pN.length=656:=ae2 (V6 δ δ)
theorem aeW:pN.all Sc.one=true:=ae3 _
theorem aeX:pN.all Sc.pf=true:=awQ _
theorem awP:bJ 656 pN=pN:=bQ (by rw[yS];exact aB _)
theorem awO:cQ 656 pN=[]:=kN (by rw[yS];exact aB _)
theorem awV(n:Int):aO (iP n)=.i (iP n).n::pN:=by
 unfold iP;split<;>rfl
theorem aCA:zT Tryz.prog 58=some (.i 0::pN):=κ
attribute [go_sem]yS aeW awP awO
attribute [go_sem 2000]aCA
def XX(args:List AV):Option AV:=match args with|[.c (.i n)]=>some (.g (.i (iP n).n::pN))|_=>none
theorem ay5{n}:XX [.c (.i n)]=some (.g (.i (iP n).n::pN)):=rfl
theorem auh:cK Tryz.prog 66 XX:=by
 refine cR tn Tryz.func66 rfl Tryz.results66 Tryz.ntmps66 ?_;intro args v h;unfold XX at h;split at h
 .rename_i n;simp only[ar]at h;subst h;have pp:=aeX;refine⟨by simp,by first|rfl|simp only[bK,dY,AV.pf,Sc.pf,c8, *],by first|rfl|simp only[bK,dY,AV.pf,Sc.pf,c8, *],?_⟩;by_cases c1:n<1
  .have e:iP n=vm 0:=if_neg ω;rw[e,show(vm 0).n=0 from rfl];simp only[go_sem,seval,c1]
  by_cases c2:8<n
  .have e:iP n=vm 0:=if_neg ω;rw[e,show(vm 0).n=0 from rfl];simp only[go_sem,seval,c1,c2]
  have e:iP n=vm n:=if_pos ω;rw[e,show(vm n).n=n from rfl];simp only[go_sem,seval,c1,c2]
 .simp at h
def XW(args:List AV):Option AV:=match args with|[.c (.i h)]=>some (.g (aR (iS h)))|_=>none
theorem ay4{h}:XW [.c (.i h)]=some (.g (aR (iS h))):=rfl
theorem aug:cK Tryz.prog 65 XW:=by
 refine cR tn Tryz.func65 rfl Tryz.results65 Tryz.ntmps65 ?_;intro args v h;unfold XW at h;split at h
 .rename_i h;simp only[ar]at h;subst h;have pp:=SK (iS h);refine⟨by simp only[cT,fa];decide,by first|rfl|simp only[bK,dY,AV.pf,Sc.pf,c8, *],by first|rfl|simp only[bK,dY,AV.pf,Sc.pf,c8, *],?_⟩;by_cases c1:h<1
  .have e:iS h=kQ 0 0:=if_neg ω;rw[e];(repeat(first|simp(maxSteps:=9^9)only[go_sem,seval,c1]|simp(disch:=omega)only[aq,aV,aU,aT,aS]));rfl
  by_cases c2:8<h
  .have e:iS h=kQ 0 0:=if_neg ω;rw[e];(repeat(first|simp(maxSteps:=9^9)only[go_sem,seval,c1,c2]|simp(disch:=omega)only[aq,aV,aU,aT,aS]));rfl
  obtain⟨m,rfl⟩:∃m:Nat,h=(m:Int):=⟨h.toNat,ω⟩;have e:iS (m:Int)=kQ m m:=by unfold iS;rw[if_pos ω,aL]
  rw[e];(repeat(first|simp(maxSteps:=9^9)only[go_sem,seval,c1,c2]|simp(disch:=omega)only[aq,aV,aU,aT,aS]));refine fB m (λi=>([(0,.c (.i m)),(2,.c (.p 0 0 0)),(3,.c (.p 1 0 0)),(4,.c (.i i))],[.own (aR (kQ 0 0)),.own (aR (kQ m i))])) (Wk.frq rfl (Wk.fq (by simp[Am.get]))) λi hi=>?_;have ll:=gp (Ku (h:=m) ω ω (i:=i) ω);by_cases aG:i<m
  .have w:=aak (h:=m) ω ω (i:=i) ω;have e0:(i:Int)<(m:Int):=ω
   have e1:aA ((i:Int)+1)=((i+1:Nat):Int):=by rw[aq ω ω];omega
   (repeat(first|simp(maxSteps:=9^9)only[go_sem,seval,e0,e1,w,aL]|simp(disch:=omega)only[aq,aV,aU,aT,aS]));exact⟨i+1,ω,ω,Wk.fq (by simp[Am.get])⟩
  .obtain rfl:i=m:=ω
   have t18:bJ 18 (aR (kQ i i))=aR (kQ i i):=bQ ω;have l0:(aR (kQ 0 0)).length=18:=rfl;have one:=nW (kQ i i);have dn:cQ 18 (aR (kQ 0 0))=[]:=rfl;(repeat(first|simp(maxSteps:=9^9)only[go_sem,seval,t18,ll,l0,one,dn]|simp(disch:=omega)only[aq,aV,aU,aT,aS]))
 .simp at h
def kX:List Sc:=aR (kQ 0 0)++(.i 0::(pN++aY fR .az .az))
theorem aCz:zT Tryz.prog 62=some (.i 0::kX):=κ
attribute [go_sem 2000]aCz
theorem aww(n:Int):(aR (iS n)++(.i (iP n).n::(pN++aY fR .az .az))).all Sc.pf=true:=by rw[fJ,bK,fJ,SK,aeX];rfl
theorem awv(n:Int):(aR (iS n)++(.i (iP n).n::(pN++aY fR .az .az))).length=686:=by rw[cj,cT,cj,gp (Kv n),yS];rfl
def QC(args:List AV):Option AV:=match args with|[.c (.i n)]=>some (.g (.i n::(aR (iS n)++(.i (iP n).n::(pN++aY fR .az .az)))))|_=>none
theorem ay6{n}:QC [.c (.i n)]=some (.g (.i n::(aR (iS n)++(.i (iP n).n::(pN++aY fR .az .az))))):=rfl
theorem aui:cK Tryz.prog 25 QC:=by
 refine cR (tu aug (tu auh tn)) Tryz.func25 rfl Tryz.results25 Tryz.ntmps25 ?_;intro args v h;unfold QC at h;split at h
 .rename_i n;simp only[ar]at h;subst h;have pp:=aww n;refine⟨by simp,by first|rfl|simp only[bK,dY,AV.pf,Sc.pf,c8, *],by first|rfl|simp only[bK,dY,AV.pf,Sc.pf,c8, *],?_⟩;have l1:=gp (Kv n);have o1:=nW (iS n);have l0:(aR (kQ 0 0)).length=18:=rfl;have lb:kX.length=686:=by unfold kX;rw[cj,cT,cj,l0,yS];rfl
  have t1:∀m:List Sc,bJ 18 (aR (iS n)++m)=aR (iS n):=λm=>nQ l1;have d1:cQ 18 kX=.i 0::(pN++aY fR .az .az):=by unfold kX;exact vE l0
  have d2:∀m:List Sc,cQ 675 (aR (iS n)++m)=cQ 657 m:=λm=>by rw[zt,l1,kN ω,jW]
  have d3:∀m:List Sc,cQ 656 (pN++m)=m:=λm=>vE yS;have d4:cQ 686 kX=[]:=kN ω;have lp:(aY fR .az .az).length=11:=rfl;have op:(aY fR .az .az).all Sc.one=true:=rfl;have oo:(aR (iS n)++(.i (iP n).n::(pN++aY fR .az .az))).all Sc.one=true:=by rw[fJ,bK,fJ,nW,aeW];rfl
  have tt:bJ 686 (aR (iS n)++(.i (iP n).n::(pN++aY fR .az .az)))=aR (iS n)++(.i (iP n).n::(pN++aY fR .az .az)):=bQ (by rw[awv];exact aB _);simp only[go_sem,seval,ay4,ay5,l1,o1,lb,t1,d1,d2,d3,d4,lp,op,oo,tt]
 .simp at h
def zz(D E:Bd):Bool:=by classical exact decide (D.b=E.b)&&BZ D.t E.t
def aeg(args:List AV)(H:AH)(v:AV):Prop:=(args=[.c .dk,.c .dk]->v=.c (.b true))/\∀D E,args=[.c (.p D.id 0 0),.c (.p E.id 0 0)]->BI H D->BI H E->v=.c (.b (zz D E))
def Ms:List AV->AH->Option AV:=lk Tryz.prog [(114,.fq JE)] 56 aeg
theorem asz:bh Tryz.prog 56 (λargs H=>(Ms args H).map λv=>(v,H)):=oL (tq auL tn) Tryz.func56 rfl Tryz.results56 Tryz.ntmps56
end
section
def Ec(w:BitVec 64)(b:Int):BitVec 64:=if b=1 then w%4294967296#64 else if b=2 then w/4294967296#64 else w
def EX(w:BitVec 64)(b:Int)(v:BitVec 64):BitVec 64:=if b=1 then w-w%4294967296#64+v%4294967296#64 else if b=2 then w%4294967296#64+v%4294967296#64*4294967296#64 else v
def QE(args:List AV):Option AV:=match args with|[.c (.u w),.c (.i b)]=>some (.c (.u (Ec w b)))|_=>none
theorem afD{w b}:QE [.c (.u w),.c (.i b)]=some (.c (.u (Ec w b))):=rfl
theorem auk:cK Tryz.prog 154 QE:=by
 refine cR tn Tryz.func154 rfl Tryz.results154 Tryz.ntmps154 ?_;intro args v h;unfold QE at h;split at h
 .rename_i w b;simp only[ar]at h;subst h;refine⟨by simp,rfl,rfl,?_⟩;unfold Ec;rcases Classical.propComplete (b=1)with h1|h1
  .simp only[go_sem,seval,h1]
  rcases Classical.propComplete (b=2)with h2|h2;all_goals simp only[go_sem,seval,h1,h2]
 .simp at h
def QF(args:List AV):Option AV:=match args with|[.c (.u w),.c (.i b),.c (.u v)]=>some (.c (.u (EX w b v)))|_=>none
theorem afF{w b v}:QF [.c (.u w),.c (.i b),.c (.u v)]=some (.c (.u (EX w b v))):=rfl
theorem aus:cK Tryz.prog 158 QF:=by
 refine cR tn Tryz.func158 rfl Tryz.results158 Tryz.ntmps158 ?_;intro args v h;unfold QF at h;split at h
 .rename_i w b v;simp only[ar]at h;subst h;refine⟨by simp,rfl,rfl,?_⟩;unfold EX;rcases Classical.propComplete (b=1)with h1|h1
  .simp only[go_sem,seval,h1]
  rcases Classical.propComplete (b=2)with h2|h2;all_goals simp only[go_sem,seval,h1,h2]
 .simp at h
theorem Zy(a b c d:BitVec 64):(a&&&b)&&&(c&&&d)=(a&&&c)&&&(b&&&d):=by rw[Y5,Y5,<-Y5 b c d,BitVec.and_comm b c,Y5 c b d]
theorem IB(w:BitVec 64):w&&&4294967295#64=w%4294967296#64:=by
 apply mB;rw[BitVec.toNat_and,zp,show(4294967295#64).toNat=2^32-1 from rfl,show(4294967296#64).toNat=2^32 from rfl,agZ]
theorem ad6(w:BitVec 64):w>>>(0#64).toNat&&&4294967295#64=Ec w 1:=by rw[show(0#64).toNat=0 from rfl,RD,IB];rfl
theorem ad5(w:BitVec 64):w>>>(32#64).toNat&&&4294967295#64=Ec w 2:=by
 rw[show(32#64).toNat=32 from rfl,IB];apply mB;show _=(w/4294967296#64).toNat;rw[zp,Hc,wW,Hq,show(4294967296#64).toNat=4294967296 from rfl];have:=w.isLt;omega
theorem agG(w v:BitVec 64):w&&&~~~(4294967295#64<<<(0#64).toNat)|||v<<<(0#64).toNat&&&4294967295#64<<<(0#64).toNat=EX w 1 v:=by
 show _=w-w%4294967296#64+v%4294967296#64;rw[show(0#64).toNat=0 from rfl,BitVec.shiftLeft_zero,BitVec.shiftLeft_zero,<-IB w,<-IB v];have d0:∀x y:BitVec 64,(x&&&~~~4294967295#64)&&&(y&&&4294967295#64)=0#64:=λx y=>by rw[Zy x (~~~4294967295#64) y 4294967295#64,show~~~4294967295#64&&&4294967295#64=0#64 from rfl,BitVec.and_zero]
 have s1:(w&&&~~~4294967295#64)+(w&&&4294967295#64)=w:=by
  rw[RA _ _ (d0 w w)];rw[show(w&&&~~~4294967295#64)|||(w&&&4294967295#64)=w&&&(~~~4294967295#64|||4294967295#64)by rw[BitVec.and_or_distrib_left]];rw[show~~~4294967295#64|||4294967295#64=BitVec.allOnes 64 from rfl,BitVec.and_allOnes]
 have s2:w-(w&&&4294967295#64)=w&&&~~~4294967295#64:=by
  conv=>lhs;lhs;rw[<-s1]
  rw[BitVec.add_sub_cancel]
 rw[s2,RA _ _ (d0 w v)]
theorem agF(w v:BitVec 64):w&&&~~~(4294967295#64<<<(32#64).toNat)|||v<<<(32#64).toNat&&&4294967295#64<<<(32#64).toNat=EX w 2 v:=by
 show _=w%4294967296#64+v%4294967296#64*4294967296#64;rw[show(32#64).toNat=32 from rfl,show~~~(4294967295#64<<<32)=4294967295#64 from rfl,<-BitVec.shiftLeft_and_distrib];have e:∀x:BitVec 64,x*4294967296#64=x<<<32:=λx=>by
  apply mB;rw[Cc,BitVec.toNat_shiftLeft,Nat.shiftLeft_eq];rfl
 rw[e,<-IB w,<-IB v];rw[RA];rw[BitVec.shiftLeft_and_distrib,Zy w 4294967295#64 (v<<<32) (4294967295#64<<<32),show 4294967295#64&&&4294967295#64<<<32=0#64 from rfl,BitVec.and_zero]
theorem Fk{a b:Ck}(ha:hF a)(hb:hF b)(h:aR a=aR b):a=b:=SN.i _ _ ha hb h
structure zw(c:Ck):Prop where
 ok:hF c
 n0:1<=c.n
theorem ajQ{c:Ck}(h:zw c)(off:BitVec 64)(sz:Int):uX c (cb c.n off sz) sz=if(cb c.n off sz).k=0 then 0#64 else if(cb c.n off sz).k=1 then(if c.s.getD (cb c.n off sz).h false=true then 1#64 else 0#64)else Ec (xj c (cb c.n off sz)) (kO sz (cb c.n off sz)):=by
 have ck:=Oa h.n0 h.ok.n1 off sz;generalize cb c.n off sz=a at*;unfold uX;cases ck with
 |c1 _ _ hs _ ha=>subst hs ha;rfl|c2 _ _ hs _ ha=>subst hs ha;simp[kO,Ec]|c3 _ _ hs _ ha=>subst hs ha;exact ad6 _|c4 _ _ hs _ ha=>subst hs ha;exact ad5 _|c5 hs _ ha=>subst hs ha;simp[kO,Ec]|c6 hs _ ha=>subst hs ha;exact ad6 _|c7 hs _ ha=>subst hs ha;exact ad5 _|c0 ha=>subst ha;rfl
theorem ajS{c:Ck}(h:zw c)(off:BitVec 64)(sz:Int)(v:BitVec 64):kG c (cb c.n off sz) sz v=if(cb c.n off sz).k=0 then c else if(cb c.n off sz).k=1 then{c with s:=c.s.set (cb c.n off sz).h (decide (v&&&1#64=1#64))}else yo c (cb c.n off sz) (EX (xj c (cb c.n off sz)) (kO sz (cb c.n off sz)) v):=by
 have ck:=Oa h.n0 h.ok.n1 off sz;generalize cb c.n off sz=a at*;unfold kG;cases ck with
 |c1 _ _ hs _ ha=>subst hs ha;rfl|c2 _ _ hs _ ha=>subst hs ha;simp[kO,EX]|c3 _ _ hs _ ha=>subst hs ha;rw[if_neg (by simp),if_neg (by simp),if_neg δ,if_neg (by simp),if_neg (by simp),show kO 4 _=1 from rfl,<-agG]|c4 _ _ hs _ ha=>subst hs ha;rw[if_neg (by simp),if_neg (by simp),if_neg δ,if_neg (by simp),if_neg (by simp),show kO 4 _=2 from rfl,<-agF]|c5 hs _ ha=>subst hs ha;simp[kO,EX]|c6 hs _ ha=>subst hs ha;rw[if_neg (by simp),if_neg (by simp),if_neg δ,if_neg (by simp),if_neg (by simp),show kO 4 _=1 from rfl,<-agG]|c7 hs _ ha=>subst hs ha;rw[if_neg (by simp),if_neg (by simp),if_neg δ,if_neg (by simp),if_neg (by simp),show kO 4 _=2 from rfl,<-agF]|c0 ha=>subst ha;rfl
variable {H:AH}{c:Ck}
def aes(args:List AV)(H:AH)(v:AV):Prop:=∀c off sz,zw c->args=[.g (aR c),.c (.u off),.c (.i sz)]->v=.t [.c (.u (uX c (cb c.n off sz) sz)),.c (.b (!decide ((cb c.n off sz).k=0)))]
def MP:List AV->AH->Option AV:=lk Tryz.prog [(121,.pu MX),(154,.pu QE)] 97 aes
theorem atW:bh Tryz.prog 97 (λargs H=>(MP args H).map λv=>(v,H)):=oL (tu VL (tu auk tn)) Tryz.func97 rfl Tryz.results97 Tryz.ntmps97
theorem ayT(hc:zw c)(off:BitVec 64)(sz:Int):MP [.g (aR c),.c (.u off),.c (.i sz)] H=some (.t [.c (.u (uX c (cb c.n off sz) sz)),.c (.b (!decide ((cb c.n off sz).k=0)))]):=by
 have:∃v,MP [.g (aR c),.c (.u off),.c (.i sz)] H=some v/\aes [.g (aR c),.c (.u off),.c (.i sz)] H v:=by
  unfold MP;apply mM (v:=.t [.c (.u (uX c (cb c.n off sz) sz)),.c (.b (!decide ((cb c.n off sz).k=0)))]) Tryz.func97 rfl Tryz.results97 Tryz.ntmps97 (by simp)
  .exact λ_ _=>rfl
  .intro _ _;have ll:=gp hc.ok;have lo:=nW c;have d0:=N7 c;have d1:=N8 c;have cJ:=XF (n:=c.n) (off:=off) (sz:=sz);rw[if_pos ⟨hc.n0,hc.ok.n1⟩]at cJ;rw[ajQ hc];have hh:=Ks hc.ok.n0 hc.ok.n1 off sz;have hk:=Kt c.n off sz;generalize kO sz (cb c.n off sz)=z at*;generalize cb c.n off sz=a at*;obtain⟨ak,ah,au⟩:=a;simp only at hh hk cJ;have dc:=N9 hc.ok hh;have ds:=SO hc.ok hh;rcases hk with rfl|rfl|rfl|rfl
   .simp only[go_sem,seval,cJ,d0,ll,lo];exact aC _ _
   .cases hs:c.s.getD ah false;all_goals rw[hs]at ds
    all_goals(repeat(first|simp only[go_sem,seval,cJ,d0,ll,lo,ds,aL]|simp(disch:=omega)only[w0]))
    all_goals exact aC _ _
   ·(repeat(first|simp only[go_sem,seval,cJ,d0,ll,lo,dc,afD,xj,aL]|simp(disch:=omega)only[w0]));exact aC _ _
   .simp only[go_sem,seval,cJ,d0,d1,ll,lo,afD,xj,aL];exact aC _ _
  .intro c' Gq YA nA he;simp only[cL,AV.g.injEq,AV.c.injEq,Sc.u.injEq,Sc.i.injEq,and_true]at he;obtain⟨e1,rfl,rfl⟩:=he;obtain rfl:=Fk hc.ok nA.ok e1;rfl
 obtain⟨v,h1,h2⟩:=this;rw[h1,h2 c off sz hc rfl]
theorem ah9(w:BitVec 64):(w%2#64=1#64)=(w&&&1#64=1#64):=by
 have:w&&&1#64=w%2#64:=by
  apply mB;rw[BitVec.toNat_and,zp,show(1#64).toNat=2^1-1 from rfl,show(2#64).toNat=2^1 from rfl,agZ]
 rw[this]
def aeu(args:List AV)(H:AH)(v:AV):Prop:=∀c off sz w,zw c->args=[.g (aR c),.c (.u off),.c (.i sz),.c (.u w)]->v=.t [.g (aR (kG c (cb c.n off sz) sz w)),.c (.b (!decide ((cb c.n off sz).k=0)))]
def MR:List AV->AH->Option AV:=lk Tryz.prog [(121,.pu MX),(158,.pu QF)] 100 aeu
theorem atY:bh Tryz.prog 100 (λargs H=>(MR args H).map λv=>(v,H)):=oL (tu VL (tu aus tn)) Tryz.func100 rfl Tryz.results100 Tryz.ntmps100
theorem ayV(hc:zw c)(off:BitVec 64)(sz:Int)(w:BitVec 64):MR [.g (aR c),.c (.u off),.c (.i sz),.c (.u w)] H=some (.t [.g (aR (kG c (cb c.n off sz) sz w)),.c (.b (!decide ((cb c.n off sz).k=0)))]):=by
 have:∃v,MR [.g (aR c),.c (.u off),.c (.i sz),.c (.u w)] H=some v/\aeu [.g (aR c),.c (.u off),.c (.i sz),.c (.u w)] H v:=by
  have okW:=SM hc.ok (cb c.n off sz) sz w;unfold MR;apply mM (v:=.t [.g (aR (kG c (cb c.n off sz) sz w)),.c (.b (!decide ((cb c.n off sz).k=0)))]) Tryz.func100 rfl Tryz.results100 Tryz.ntmps100 (by simp)
  .intro _ _;show((aR _).all (Sc.aj H.length)&&(true&&true))=true;rw[N5];rfl
  .intro _ _;have ll:=gp hc.ok;have lo:=nW c;have d0:=N7 c;have d1:=N8 c;have cJ:=XF (n:=c.n) (off:=off) (sz:=sz);rw[if_pos ⟨hc.n0,hc.ok.n1⟩]at cJ;have lW:=gp okW;have oW:=nW (kG c (cb c.n off sz) sz w);have tW:bJ 18 (aR (kG c (cb c.n off sz) sz w))=aR (kG c (cb c.n off sz) sz w):=bQ ω;rw[ajS hc]at lW oW tW|-;have hh:=Ks hc.ok.n0 hc.ok.n1 off sz;have hk:=Kt c.n off sz;have m2:=ah9 w;generalize kO sz (cb c.n off sz)=z at*;generalize cb c.n off sz=a at*;obtain⟨ak,ah,au⟩:=a;simp only at hh hk cJ;have dc:=N9 hc.ok hh;have ws:=λv=>rW (aan hc.ok hh v);have wc:=λv=>rW (SQ hc.ok hh v);have w1:=λv=>rW (SP c v);rcases hk with rfl|rfl|rfl|rfl
   .simp only[if_true]at lW oW tW|-;simp only[go_sem,seval,cJ,d0,ll,lo,tW];exact aC _ _
   .simp only[if_true,if_false,Nat.one_ne_zero]at lW oW tW|-;(repeat(first|simp only[go_sem,seval,cJ,d0,ll,lo,m2,ws,lW,oW,tW,aL]|simp(disch:=omega)only[w0]));exact aC _ _
   .simp only[Nat.reduceEqDiff,if_true,if_false,yo,xj]at lW oW tW|-;(repeat(first|simp only[go_sem,seval,cJ,d0,ll,lo,dc,afF,wc,lW,oW,tW,aL]|simp(disch:=omega)only[w0]));exact aC _ _
   .simp only[Nat.reduceEqDiff,if_true,if_false,yo,xj]at lW oW tW|-;simp only[go_sem,seval,cJ,d0,d1,ll,lo,afF,w1,lW,oW,tW,aL];exact aC _ _
  .intro c' Gq YA w' nA he;simp only[cL,AV.g.injEq,AV.c.injEq,Sc.u.injEq,Sc.i.injEq,and_true]at he;obtain⟨e1,rfl,rfl,rfl⟩:=he;obtain rfl:=Fk hc.ok nA.ok e1;rfl
 obtain⟨v,h1,h2⟩:=this;rw[h1,h2 c off sz w hc rfl]
def aet(args:List AV)(H:AH)(v:AV):Prop:=∀c n,zw c->args=[.g (aR c),.c (.i n)]->v=.g (aR (oG c n))
def MQ:List AV->AH->Option AV:=lk Tryz.prog [] 104 aet
theorem atX:bh Tryz.prog 104 (λargs H=>(MQ args H).map λv=>(v,H)):=oL tn Tryz.func104 rfl Tryz.results104 Tryz.ntmps104
theorem ayU(hc:zw c)(n:Int):MQ [.g (aR c),.c (.i n)] H=some (.g (aR (oG c n))):=by
 have:∃v,MQ [.g (aR c),.c (.i n)] H=some v/\aet [.g (aR c),.c (.i n)] H v:=by
  have okW:=N6 hc.ok n;unfold MQ;apply mM (v:=.g (aR (oG c n))) Tryz.func104 rfl Tryz.results104 Tryz.ntmps104 (by simp)
  .intro _ _;exact N5 _ _
  .intro _ _;have ll:=gp hc.ok;have lo:=nW c;have d0:=N7 c;have d1:=N8 c;have n0:0<c.n:=by have:=hc.n0;omega
   have lW:=gp okW;have oW:=nW (oG c n);have tW:bJ 18 (aR (oG c n))=aR (oG c n):=bQ ω;have w1:=λv=>rW (SP c v);by_cases h:0<n
   .have e:oG c n={c with t:=c.t+aw 64 n}:=if_pos ⟨h,n0⟩;rw[e]at lW oW tW|-;simp only[go_sem,seval,d0,d1,ll,lo,n0,h,w1,lW,oW,tW];exact aC _ _
   .have e:oG c n=c:=if_neg (λx=>h x.1);rw[e]at lW oW tW|-;simp only[go_sem,seval,d0,d1,ll,lo,n0,h,tW];exact aC _ _
  .intro c' n' nA he;simp only[cL,AV.g.injEq,AV.c.injEq,Sc.u.injEq,Sc.i.injEq,and_true]at he;obtain⟨e1,rfl⟩:=he;obtain rfl:=Fk hc.ok nA.ok e1;rfl
 obtain⟨v,h1,h2⟩:=this;rw[h1,h2 c n hc rfl]
def aer(args:List AV)(H:AH)(v:AV):Prop:=∀c n,zw c->args=[.g (aR c),.c (.i n)]->v=.c (.u (kT c n))
def MO:List AV->AH->Option AV:=lk Tryz.prog [] 160 aer
theorem atV:bh Tryz.prog 160 (λargs H=>(MO args H).map λv=>(v,H)):=oL tn Tryz.func160 rfl Tryz.results160 Tryz.ntmps160
theorem ayS(hc:zw c)(n:Int):MO [.g (aR c),.c (.i n)] H=some (.c (.u (kT c n))):=by
 have:∃v,MO [.g (aR c),.c (.i n)] H=some v/\aer [.g (aR c),.c (.i n)] H v:=by
  unfold MO;apply mM (v:=.c (.u (kT c n))) Tryz.func160 rfl Tryz.results160 Tryz.ntmps160 (by simp)
  .exact λ_ _=>rfl
  .intro _ _;have ll:=gp hc.ok;have lo:=nW c;have d0:=N7 c;have d1:=N8 c;have n8:=hc.ok.n1;by_cases h0:n<0
   .have e:kT c n=0#64:=if_pos (.inl h0);rw[e];simp only[go_sem,seval,d0,ll,lo,h0];exact aC _ _
   by_cases h1:c.n<=n
   .have e:kT c n=0#64:=if_pos (.inr h1);rw[e];simp only[go_sem,seval,d0,ll,lo,h0,h1];exact aC _ _
   obtain⟨k,rfl⟩:∃k:Nat,n=(k:Int):=⟨n.toNat,ω⟩;have hk:k<8:=ω
   have dc:=N9 hc.ok hk;have ds:=SO hc.ok hk;have e:kT c (k:Int)=(if c.s.getD k false=true then 8#64 else 0#64)|||(if c.c.getD k 0#64<=c.t then 128#64 else 0#64):=by unfold kT;rw[if_neg ω,aL]
   rw[e];rcases hs:c.s.getD k false with _|_<;>rcases Classical.propComplete (c.c.getD k 0#64<=c.t)with ht|ht;all_goals rw[hs]at ds
   all_goals(repeat(first|simp only[go_sem,seval,d0,d1,ll,lo,dc,ds,ht,h0,h1,if_true,if_false,dL,aL]|simp(disch:=omega)only[w0]))
   all_goals exact aC _ _
  .intro c' n' nA he;simp only[cL,AV.g.injEq,AV.c.injEq,Sc.u.injEq,Sc.i.injEq,and_true]at he;obtain⟨e1,rfl⟩:=he;obtain rfl:=Fk hc.ok nA.ok e1;rfl
 obtain⟨v,h1,h2⟩:=this;rw[h1,h2 c n hc rfl]
end
variable {f g:Nat->Bool}{i c:Nat}{w:BitVec 32}
section
def o8(f:Nat->Bool):List Sc:=(pj 32).map λi=>.b (f i)
theorem Wq(f:Nat->Bool):(o8 f).length=32:=by simp[o8]
theorem Ee(w:BitVec 32):fo w=o8 w.getLsbD:=rfl
theorem IX(hi:i<32):(o8 f).getD i .any=.b (f i):=by simp[o8,bX,qL,RI hi]
theorem IW(h:∀i,i<32->f i=g i):o8 f=o8 g:=by
 unfold o8;refine List.map_congr_left λi hi=>?_;rw[h i (List.mem_range.1 hi)]
theorem P6(hi:i<32)(v:Bool):wr (o8 f) i [.b v]=o8 λj=>if j=i then v else f j:=by
 rw[Dj (by rw[Wq];exact hi)];refine wX λj=>?_;rw[rq];unfold o8;simp only[qL,ui,List.length_range];rcases cX j 32 with hj|hj
 .rw[RI hj];by_cases e:i=j
  .subst e;simp[hj]
  .simp[e,Ne.symm e]
 .rw[kf (l:=pj 32) (by simp;exact hj)];rw[if_neg ω];rfl
theorem awu(h:o8 f=o8 g):∀i,i<32->f i=g i:=λi hi=>by
 have:=congrArg (λl=>l.getD i .any) h;simp only[IX hi,Sc.b.injEq]at this;exact this
theorem Mc{u:BitVec 32}(h:fo u=fo w):u=w:=AR λi hi=>awu h i hi
theorem yj{s:Nat}(hj:j<32)(hs:s<32):(dA s).getLsbD j=decide (j=s):=by
 unfold dA;rw[BitVec.getLsbD_shiftLeft,RB];by_cases e:j=s
 .subst e;simp[hj]
 .simp[e,hj];omega
section
variable {k:Pk}
def Qd(k:Pk):List Sc:=.i k.n::k.p.map Sc.i
def Qe(k:Pk):List Sc:=.i k.n::(k.p.map Sc.i++fo k.w)
def Qf(k:Pk):List Sc:=.i k.n::(k.p.map Sc.i++(fo k.w++fo k.q))
def I6(k:Pk):List Sc:=.i k.n::(k.p.map Sc.i++(fo k.w++(fo k.q++fo k.s)))
def Qg(k:Pk):List Sc:=.i k.n::(k.p.map Sc.i++(fo k.w++(fo k.q++(fo k.s++k.e.flatMap fo))))
theorem aeY(h:cM k):(Qd k).length=33:=by simp[Qd,h.p]
theorem WB(h:cM k):(Qe k).length=65:=by simp[Qe,h.p,ky]
theorem aeZ(h:cM k):(Qf k).length=97:=by simp[Qf,h.p,ky]
theorem ae0(h:cM k):(I6 k).length=129:=by simp[I6,h.p,ky]
theorem Qi(h:cM k):(k.e.flatMap fo).length=512:=by rw[pF ky,h.e]
theorem ae1(h:cM k):(Qg k).length=641:=by simp[Qg,h.p,ky,Qi h]
theorem ae6(k:Pk):aO k=[.i k.n]++(k.p.map Sc.i++(fo k.w++(fo k.q++(fo k.s++(k.e.flatMap fo++k.l.map Sc.i))))):=rfl
theorem WD(k:Pk):aO k=Qd k++(fo k.w++(fo k.q++(fo k.s++(k.e.flatMap fo++k.l.map Sc.i)))):=by simp[aO,wH,Qd]
theorem Qk(k:Pk):aO k=Qe k++(fo k.q++(fo k.s++(k.e.flatMap fo++k.l.map Sc.i))):=by simp[aO,wH,Qe]
theorem WE(k:Pk):aO k=Qf k++(fo k.s++(k.e.flatMap fo++k.l.map Sc.i)):=by simp[aO,wH,Qf]
theorem ae7(k:Pk):aO k=I6 k++(k.e.flatMap fo++k.l.map Sc.i):=by simp[aO,wH,I6]
theorem WG(k:Pk):aO k=Qg k++(k.l.map Sc.i++[]):=by simp[aO,wH,Qg]
theorem jF(h:cM k):(aO k).length=657:=by simp only[aO,cT,ae2 h]
theorem ud(k:Pk):(aO k).all Sc.one=true:=by simp only[aO,bK,ae3];rfl
theorem Mk(k:Pk)(n:Nat):(aO k).all (Sc.aj n)=true:=by
 simp only[aO,bK];rw[WC (λ_=>rfl) (λ_=>rfl)];rfl
theorem acG{l:List Int}{i:Nat}(h:i<l.length):(l.map Sc.i).getD i .any=.i (l.getD i 0):=by
 rw[bX,qL,cP h];simp[bX,cP h]
theorem acH{l:List Int}{i:Nat}(h:i<l.length)(v:Int):wr (l.map Sc.i) i [.i v]=(l.set i v).map Sc.i:=by rw[Dj (by simpa using h),<-Dp]
theorem Ql(k:Pk):(aO k).getD 0 .any=.i k.n:=rfl
theorem WK(h:cM k)(hi:i<32):(aO k).getD (1+i) .any=.i (k.p.getD i 0):=by
 rw[ae6];exact(xx (A:=[.i k.n]) (by simp[h.p,hi])).trans (acG (by rw[h.p];exact hi))
theorem awU(h:cM k)(hi:i<32):(aO k).getD (33+i) .any=.b (k.w.getLsbD i):=by rw[WD,<-aeY h,xx (by rw[ky];exact hi),Ee,IX hi]
theorem awT(h:cM k)(hi:i<32):(aO k).getD (65+i) .any=.b (k.q.getLsbD i):=by rw[Qk,<-WB h,xx (by rw[ky];exact hi),Ee,IX hi]
theorem afb(h:cM k)(hi:i<32):(aO k).getD (97+i) .any=.b (k.s.getLsbD i):=by rw[WE,<-aeZ h,xx (by rw[ky];exact hi),Ee,IX hi]
theorem ae8(h:cM k)(hi:i<16):(aO k).getD (641+i) .any=.i (k.l.getD i 0):=by rw[WG,<-ae1 h,xx (by simp[h.l,hi]),acG (by rw[h.l];exact hi)]
theorem aa7(h:cM k)(hc:c<16):k.e[c]?=some (k.e.getD c 0#32):=by
 have:c<k.e.length:=by rw[h.e];exact hc
 rw[cP this,bX,cP this];rfl
theorem ae5(h:cM k)(hc:c<16)(hi:i<32):(aO k).getD (129+(c*32+i)) .any=.b ((k.e.getD c 0#32).getLsbD i):=by rw[ae7,<-ae0 h,xx (by rw[Qi h];omega),Tu ky (aa7 h hc) hi,Ee,IX hi]
theorem ae9(h:cM k)(hc:c<16):∃P Q,P.length=129+c*32/\∀w,aO {k with e:=k.e.set c w}=P++(fo w++Q):=by
 obtain⟨P,Q,_,h2,h3⟩:=Bf ky (aa7 h hc);refine⟨I6 k++P,Q++k.l.map Sc.i,by rw[cj,ae0 h,h2],λw=>?_⟩;rw[ae7];show I6 k++((k.e.set c w).flatMap fo++_)=_;rw[h3];simp
theorem afa:({k with e:=k.e.set c (k.e.getD c 0#32)}:Pk)=k:=by
 have:k.e.set c (k.e.getD c 0#32)=k.e:=by
  refine wX λj=>?_;rw[rq];by_cases e:c=j
  .subst e;rw[if_pos rfl];split
   .rename_i hl;rw[bX,cP hl];rfl
   .rename_i hl;rw[kf ω]
  .rw[if_neg e]
 rw[this]
theorem aBT(h:cM k)(hi:i<32)(v:Int):wr (aO k) (1+i) [.i v]=aO {k with p:=k.p.set i v}:=by
 rw[ae6];refine(AO (A:=[.i k.n]) (by simp[h.p];omega)).trans ?_;rw[acH (by rw[h.p];exact hi)];rfl
theorem aBR(h:cM k)(hi:i<16)(v:Int):wr (aO k) (641+i) [.i v]=aO {k with l:=k.l.set i v}:=by rw[WG,<-ae1 h,AO (by simp[h.l];omega),acH (by rw[h.l];exact hi),WG];rfl
theorem agD{v:Bool}(h:cM k)(hi:i<32)(hw:∀j,j<32->(if j=i then v else k.w.getLsbD j)=w.getLsbD j):wr (aO k) (33+i) [.b v]=aO {k with w:=w}:=by rw[WD,<-aeY h,AO (by rw[ky];simp;omega),Ee,P6 hi,IW hw,WD];rfl
theorem YX{v:Bool}(h:cM k)(hi:i<32)(hw:∀j,j<32->(if j=i then v else k.q.getLsbD j)=w.getLsbD j):wr (aO k) (65+i) [.b v]=aO {k with q:=w}:=by rw[Qk,<-WB h,AO (by rw[ky];simp;omega),Ee,P6 hi,IW hw,Qk];rfl
theorem agC{v:Bool}(h:cM k)(hi:i<32)(hw:∀j,j<32->(if j=i then v else k.s.getLsbD j)=w.getLsbD j):wr (aO k) (97+i) [.b v]=aO {k with s:=w}:=by rw[WE,<-aeZ h,AO (by rw[ky];simp;omega),Ee,P6 hi,IW hw,WE];rfl
end
theorem acI{a b:List Int}(h:a.map Sc.i=b.map Sc.i):a=b:=Gi (λ_ _ h=>Sc.i.inj h) h
theorem abq:∀{a b:List (BitVec 32)},a.flatMap fo=b.flatMap fo->a=b
 |[],[],_=>rfl|[],w::b,h=>by
   have:=congrArg List.length h;rw[pF ky,pF ky]at this;simp only[cT,fa]at this;omega|w::a,[],h=>by
   have:=congrArg List.length h;rw[pF ky,pF ky]at this;simp only[cT,fa]at this;omega|w::a,u::b,h=>by
   simp only[List.flatMap_cons]at h;obtain⟨h1,h2⟩:=s5 h (by rw[ky,ky]);rw[Mc h1,abq h2]
theorem GD{a b:Pk}(ha:cM a)(hb:cM b)(h:aO a=aO b):a=b:=by
 simp only[aO,wH,cL,Sc.i.injEq]at h;obtain⟨h1,h2⟩:=h;obtain⟨h3,h4⟩:=s5 h2 (by simp[ha.p,hb.p]);obtain⟨h5,h6⟩:=s5 h4 (by rw[ky,ky]);obtain⟨h7,h8⟩:=s5 h6 (by rw[ky,ky]);obtain⟨h9,pH⟩:=s5 h8 (by rw[ky,ky]);obtain⟨h11,h12⟩:=s5 pH (by rw[Qi ha,Qi hb]);have g3:=acI h3;have g5:=Mc h5;have g7:=Mc h7;have g9:=Mc h9;have OI:=abq h11;have OJ:=acI h12;clear h2 h3 h4 h5 h6 h7 h8 h9 pH h11 h12 ha hb;cases a;cases b;simp only at h1 g3 g5 g7 g9 OI OJ;subst h1 g3 g5 g7 g9 OI OJ;rfl
structure j3(k:Pk):Prop where
 ok:cM k
 n0:1<=k.n
 st:∀j,j<32->k.w.getLsbD j=true->k.s.getLsbD j=false->k.q.getLsbD j=true
 e0:∀c,(k.e.getD c 0#32).getLsbD 0=false
end
variable {am:BitVec 32}{ab:Int}
section
def rD(p:List Int)(am:BitVec 32)(ab:Int):Nat->Nat|0=>0|t+1=>if(zI p am ab (31-t)&&(decide (rD p am ab t=0)||decide (p.getD (rD p am ab t) 0<=p.getD (31-t) 0)))=true then 31-t else rD p am ab t
def Hr(p:List Int)(am:BitVec 32)(ab:Int)(S:Nat->Prop)(b:Nat):Prop:=(b=0/\∀i,S i->zI p am ab i=false)\/(S b/\1<=b/\zI p am ab b=true/\∀i,S i->zI p am ab i=true->p.getD i 0<=p.getD b 0/\(p.getD i 0=p.getD b 0->b<=i))
theorem Z9{p:List Int}{am:BitVec 32}{ab:Int}:∀n,Hr p am ab (λi=>1<=i/\i<=n) (jN p am ab n)
 |0=>.inl ⟨rfl,λi h=>ω⟩|n+1=>by
   have ih:=Z9 (p:=p) (am:=am) (ab:=ab) n;unfold jN;generalize jN p am ab n=b at*;cases he:zI p am ab (n+1)
   .simp only[ph,dL,if_false];rcases ih with⟨h1,h2⟩|⟨h1,h2,h3,h4⟩
    .refine .inl ⟨h1,λi hi=>?_⟩;by_cases e:i=n+1
     .rw[e,he]
     .exact h2 i ω
    .refine .inr ⟨ω,h2,h3,λi hi hq=>?_⟩;by_cases e:i=n+1
     .rw[e,he]at hq;simp at hq
     .exact h4 i ω hq
   .simp only[gG];rcases ih with⟨h1,h2⟩|⟨h1,h2,h3,h4⟩
    .subst h1;simp only[decide_true,Bool.true_or,if_true];refine .inr ⟨ω,ω,he,λi hi hq=>?_⟩;by_cases e:i=n+1
     .subst e;exact⟨AS _,λ_=>aB _⟩
     .rw[h2 i ω]at hq;simp at hq
    .by_cases hp:p.getD b 0<p.getD (n+1) 0
     .rw[if_pos (by rw[decide_eq_true hp,Bool.or_true])];refine .inr ⟨ω,ω,he,λi hi hq=>?_⟩;by_cases e:i=n+1
      .subst e;exact⟨AS _,λ_=>aB _⟩
      .have:=h4 i ω hq;exact⟨ω,λx=>ω⟩
     .rw[if_neg (by rw[decide_eq_false hp,vC,decide_eq_false ω];decide)];refine .inr ⟨ω,h2,h3,λi hi hq=>?_⟩;by_cases e:i=n+1
      .subst e;exact⟨ω,λx=>ω⟩
      .exact h4 i ω hq
theorem aa4{p:List Int}{am:BitVec 32}{ab:Int}:∀t,t<=31->Hr p am ab (λi=>32-t<=i/\i<=31) (rD p am ab t)
 |0,_=>.inl ⟨rfl,λi h=>ω⟩|t+1,ht=>by
   have ih:=aa4 (p:=p) (am:=am) (ab:=ab) t ω;unfold rD;generalize rD p am ab t=b at*;cases he:zI p am ab (31-t)
   .simp only[ph,dL,if_false];rcases ih with⟨h1,h2⟩|⟨h1,h2,h3,h4⟩
    .refine .inl ⟨h1,λi hi=>?_⟩;by_cases e:i=31-t
     .rw[e,he]
     .exact h2 i ω
    .refine .inr ⟨ω,h2,h3,λi hi hq=>?_⟩;by_cases e:i=31-t
     .rw[e,he]at hq;simp at hq
     .exact h4 i ω hq
   .simp only[gG];rcases ih with⟨h1,h2⟩|⟨h1,h2,h3,h4⟩
    .subst h1;simp only[decide_true,Bool.true_or,if_true];refine .inr ⟨ω,ω,he,λi hi hq=>?_⟩;by_cases e:i=31-t
     .subst e;exact⟨AS _,λ_=>aB _⟩
     .rw[h2 i ω]at hq;simp at hq
    .by_cases hp:p.getD b 0<=p.getD (31-t) 0
     .rw[if_pos (by rw[decide_eq_true hp,Bool.or_true])];refine .inr ⟨ω,ω,he,λi hi hq=>?_⟩;by_cases e:i=31-t
      .subst e;exact⟨AS _,λ_=>aB _⟩
      .have:=h4 i ω hq;exact⟨ω,λx=>ω⟩
     .rw[if_neg (by rw[decide_eq_false hp,vC,decide_eq_false ω];decide)];refine .inr ⟨ω,h2,h3,λi hi hq=>?_⟩;by_cases e:i=31-t
      .subst e;exact⟨ω,λx=>ω⟩
      .exact h4 i ω hq
theorem Hr.uniq{p:List Int}{S T:Nat->Prop}{a b:Nat}(OX:∀i,S i↔T i)(ha:Hr p am ab S a)(hb:Hr p am ab T b):a=b:=by
 rcases ha with⟨a1,a2⟩|⟨a1,a2,a3,a4⟩<;>rcases hb with⟨b1,b2⟩|⟨b1,b2,b3,b4⟩
 .omega
 .rw[a2 b ((OX b).2 b1)]at b3;simp at b3
 .rw[b2 a ((OX a).1 a1)]at a3;simp at a3
 .have x:=a4 b ((OX b).2 b1) b3;have y:=b4 a ((OX a).1 a1) a3;have:=x.2 ω;have:=y.2 ω;omega
theorem ami{p:List Int}:rD p am ab 31=jN p am ab 31:=Hr.uniq (λi=>by show(1<=i/\i<=31)↔_;exact Iff.rfl) (aa4 31 (aB _)) (Z9 31)
theorem aa5{p:List Int}{am:BitVec 32}{ab:Int}:∀t,rD p am ab t<=31
 |0=>by show 0<=31;omega|t+1=>by
   have:=aa5 (p:=p) (am:=am) (ab:=ab) t;unfold rD;split<;>omega
theorem amo{am:BitVec 32}{i:Nat}:decide (am>>>i&&&1#32=1#32)=am.getLsbD i:=by
 have:am>>>i&&&1#32=if am.getLsbD i=true then 1#32 else 0#32:=by
  refine AR λj hj=>?_;rw[sW,BitVec.getLsbD_ushiftRight,RB];by_cases e:j=0
  .subst e;cases h:am.getLsbD i<;>simp[h]
  .have:(decide (0<32)&&decide (0=j))=false:=by simp;omega
   cases h:am.getLsbD i
   .simp[e];try omega
   .simp[RB];try omega
 rw[this];cases am.getLsbD i<;>rfl
variable {H:AH}{k:Pk}
def aev(args:List AV)(H:AH)(v:AV):Prop:=∀k(c:Nat)ab,cM k->c<16->args=[.g (aO k),.c (.i (c:Int)),.c (.i ab)]->v=.c (.i ((jN k.p (k.q&&&k.e.getD c 0#32) ab 31:Nat):Int))
def Jy:List AV->AH->Option AV:=lk Tryz.prog [] 156 aev
theorem adu:bh Tryz.prog 156 (λargs H=>(Jy args H).map λv=>(v,H)):=oL tn Tryz.func156 rfl Tryz.results156 Tryz.ntmps156
theorem afw(hk:cM k){c:Nat}(hc:c<16)(ab:Int):Jy [.g (aO k),.c (.i (c:Int)),.c (.i ab)] H=some (.c (.i ((jN k.p (k.q&&&k.e.getD c 0#32) ab 31:Nat):Int))):=by
 have:∃v,Jy [.g (aO k),.c (.i (c:Int)),.c (.i ab)] H=some v/\aev [.g (aO k),.c (.i (c:Int)),.c (.i ab)] H v:=by
  unfold Jy;apply mM (v:=.c (.i ((jN k.p (k.q&&&k.e.getD c 0#32) ab 31:Nat):Int))) Tryz.func156 rfl Tryz.results156 Tryz.ntmps156 (by simp)
  .exact λ_ _=>rfl
  .intro _ hH;rw[<-ami];obtain⟨am,TI⟩:∃am,k.q&&&k.e.getD c 0#32=am:=⟨_,rfl⟩;rw[TI];have ll:=jF hk;have lo:=ud k;have tt:bJ 657 (aO k)=aO k:=bQ ω;have bb:dF (H++[.own (aO k)])=true:=uk hH (by simp only[wZ,forall_eq];exact Mk _ _);simp only[go_sem,seval,ll,lo,tt];refine fB 31 (λt=>([(1,.c (.i c)),(2,.c (.i ab)),(3,.c (.p H.length 0 0)),(7,.c (.i (rD k.p am ab t:Nat))),(8,.c (.i (31-(t:Int))))],H++[.own (aO k)])) (Wk.fq (by simp[Am.get,rD])) λt ht=>?_;by_cases aG:t<31
   .have e0:1<=31-(t:Int):=ω
    have e1:aA (31-(t:Int)-1)=31-((t+1:Nat):Int):=by rw[aq ω ω];omega
    have e2:(31-(t:Int)).toNat=31-t:=ω
    have g1:(0:Int)<=31-(t:Int):=ω
    have g2:31-(t:Int)<32:=ω
    have hi:31-t<32:=ω
    have dp:=WK hk hi;have dq:=awT hk hi;have de:(aO k).getD (129+c*32+(31-t)) .any=.b ((k.e.getD c 0#32).getLsbD (31-t)):=by rw[m9];exact ae5 hk hc hi
    have hB:=aa5 (p:=k.p) (am:=am) (ab:=ab) t;have dB:=WK hk (i:=rD k.p am ab t) ω;have eS:rD k.p am ab (t+1)=if(zI k.p am ab (31-t)&&(decide (rD k.p am ab t=0)||decide (k.p.getD (rD k.p am ab t) 0<=k.p.getD (31-t) 0)))=true then 31-t else rD k.p am ab t:=rfl;unfold zI at eS;rw[amo,<-TI,sW,TI]at eS;have cz:((rD k.p am ab t:Nat):Int)=0↔rD k.p am ab t=0:=ω
    have ei:(31:Int)-(t:Int)=((31-t:Nat):Int):=ω
    generalize rD k.p am ab t=B at*;have Ok:=propext cz;cases hq:k.q.getLsbD (31-t)
    .rw[hq]at dq eS;simp only[ph,dL,if_false]at eS;(repeat(first|simp only[go_sem,seval,e0,e1,e2,g1,g2,ll,dq]|simp(disch:=omega)only[w0]));exact⟨t+1,ω,ω,Wk.fq (by simp[Am.get,ei,eS])⟩
    rw[hq]at dq eS;cases he:(k.e.getD c 0#32).getLsbD (31-t)
    .rw[he]at de eS;simp only[ph,rY,dL,if_false]at eS;(repeat(first|simp only[go_sem,seval,e0,e1,e2,g1,g2,ll,dq,de,hc,aL]|simp(disch:=omega)only[w0]));exact⟨t+1,ω,ω,Wk.fq (by simp[Am.get,ei,eS])⟩
    rw[he]at de eS;rcases Classical.propComplete (ab<k.p.getD (31-t) 0)with ha|ha
    .rcases Classical.propComplete (B=0)with z|z
     .rw[z]at Ok;simp only[ha,z,Ny,decide_true,Bool.true_or,if_true]at eS;(repeat(first|simp only[go_sem,seval,e0,e1,e2,g1,g2,ll,dq,de,dp,hc,ha,Ok,aL]|simp(disch:=omega)only[w0]));exact⟨t+1,ω,ω,Wk.fq (by simp[Am.get,ei,eS])⟩
     .rw[z]at Ok;rcases Classical.propComplete (k.p.getD B 0<=k.p.getD (31-t) 0)with y|y;all_goals simp only[ha,z,y,Ny,decide_true,decide_false,Bool.false_or,c8,rY,dL,if_true,if_false]at eS
      all_goals(repeat(first|simp only[go_sem,seval,e0,e1,e2,g1,g2,ll,dq,de,dp,dB,hc,ha,Ok,y,aL]|simp(disch:=omega)only[w0]))
      all_goals exact⟨t+1,ω,ω,Wk.fq (by simp[Am.get,ei,eS])⟩
    .simp only[ha,Ny,decide_false,rY,ph,dL,if_false]at eS;(repeat(first|simp only[go_sem,seval,e0,e1,e2,g1,g2,ll,dq,de,dp,hc,ha,aL]|simp(disch:=omega)only[w0]));exact⟨t+1,ω,ω,Wk.fq (by simp[Am.get,ei,eS])⟩
   .obtain rfl:t=31:=ω
    simp only[go_sem,seval];exact aC _ _
  .intro k' c' ab' qQ nA he;simp only[cL,AV.g.injEq,AV.c.injEq,Sc.i.injEq,and_true]at he;obtain⟨e1,e2,rfl⟩:=he;obtain rfl:=GD hk qQ e1;obtain rfl:c=c':=ω
   rfl
 obtain⟨v,h1,h2⟩:=this;rw[h1,h2 k c ab hk hc rfl]
end
section
variable {H:AH}{k:Pk}
def wA(w:BitVec 32)(t:Nat):BitVec 64:=kD 64 (w.toNat/2^(32-t))
theorem aBD{t:Nat}(w:BitVec 32)(ht:t<32):wA w (t+1)=if w.getLsbD (31-t)=true then 2#64*wA w t+1#64 else 2#64*wA w t:=by
 have e1:w.toNat/2^(32-t)=w.toNat/2^(31-t)/2:=by rw[Nat.div_div_eq_div_mul,<-Nat.pow_succ];congr 2;omega
 have e2:w.getLsbD (31-t)=decide (w.toNat/2^(31-t)%2=1):=by simp only[BitVec.getLsbD,Nat.testBit_eq_decide_div_mod_eq]
 have lt:w.toNat/2^(31-t)<4294967296:=Nat.lt_of_le_of_lt (Nat.div_le_self _ _) w.isLt;unfold wA;rw[show 32-(t+1)=31-t by omega,e1,e2];generalize w.toNat/2^(31-t)=m at*;by_cases c:m%2=1
 .rw[if_pos (by simp[c])];apply mB;simp only[wU,Cc,vB];omega
 .rw[if_neg (by simp[c])];apply mB;simp only[Cc,vB];omega
def aez(args:List AV)(H:AH)(v:AV):Prop:=∀w,args=[.g (fo w)]->v=.c (.u (aw 64 (w.toNat:Int)))
def MV:List AV->AH->Option AV:=lk Tryz.prog [] 155 aez
theorem at2:bh Tryz.prog 155 (λargs H=>(MV args H).map λv=>(v,H)):=oL tn Tryz.func155 rfl Tryz.results155 Tryz.ntmps155
theorem afy(w:BitVec 32):MV [.g (fo w)] H=some (.c (.u (aw 64 (w.toNat:Int)))):=by
 have:∃v,MV [.g (fo w)] H=some v/\aez [.g (fo w)] H v:=by
  unfold MV;apply mM (v:=.c (.u (aw 64 (w.toNat:Int)))) Tryz.func155 rfl Tryz.results155 Tryz.ntmps155 (by simp)
  .exact λ_ _=>rfl
  .intro _ hH;have ll:=ky w;have lo:(fo w).all Sc.one=true:=Wp (λ_=>rfl) w;have e32:wA w 32=aw 64 (w.toNat:Int):=by
    unfold wA;rw[Nat.sub_self,Nat.pow_zero,Nat.div_one];rfl
   have e00:wA w 0=0#64:=by
    unfold wA;rw[show w.toNat/2^(32-0)=0 from Nat.div_eq_of_lt w.isLt]
   rw[<-e32];simp only[go_sem,seval,ll,lo];refine fB 32 (λt=>([(1,.c (.p H.length 0 0)),(3,.c (.u (wA w t))),(4,.c (.i (31-(t:Int))))],H++[.own (fo w)])) (Wk.fq (by simp[Am.get,e00])) λt ht=>?_;by_cases aG:t<32
   .have e0:0<=31-(t:Int):=ω
    have e1:aA (31-(t:Int)-1)=31-((t+1:Nat):Int):=by rw[aq ω ω];omega
    have e2:(31-(t:Int)).toNat=31-t:=ω
    have g2:31-(t:Int)<32:=ω
    have hi:31-t<32:=ω
    have db:(fo w).getD (31-t) .any=.b (w.getLsbD (31-t)):=by rw[Ee,IX hi]
    have eS:=aBD w aG;cases hb:w.getLsbD (31-t);all_goals rw[hb]at db eS
    all_goals simp only[if_true,if_false,dL]at eS
    all_goals(repeat(first|simp only[go_sem,seval,e0,e1,e2,g2,ll,db]|simp(disch:=omega)only[w0]))
    all_goals exact⟨t+1,ω,ω,Wk.fq (by simp[Am.get,eS])⟩
   .obtain rfl:t=32:=ω
    have e0:¬(0:Int)<=31-((32:Nat):Int):=ω
    simp only[go_sem,seval,e0];exact aC _ _
  .intro w' he;simp only[cL,AV.g.injEq,and_true]at he;obtain rfl:=Mc he;rfl
 obtain⟨v,h1,h2⟩:=this;rw[h1,h2 w rfl]
def aew(args:List AV)(H:AH)(v:AV):Prop:=∀k c,j3 k->args=[.g (aO k),.c (.i c)]->v=.c (.b (kV k c))
def MS:List AV->AH->Option AV:=lk Tryz.prog [(156,.fq Jy)] 161 aew
theorem atZ:bh Tryz.prog 161 (λargs H=>(MS args H).map λv=>(v,H)):=oL (tq adu tn) Tryz.func161 rfl Tryz.results161 Tryz.ntmps161
theorem afx(hk:j3 k)(c:Int):MS [.g (aO k),.c (.i c)] H=some (.c (.b (kV k c))):=by
 have:∃v,MS [.g (aO k),.c (.i c)] H=some v/\aew [.g (aO k),.c (.i c)] H v:=by
  unfold MS;apply mM (v:=.c (.b (kV k c))) Tryz.func161 rfl Tryz.results161 Tryz.ntmps161 (by simp)
  .exact λ_ _=>rfl
  .intro _ hH;have ll:=jF hk.ok;have lo:=ud k;have tt:bJ 657 (aO k)=aO k:=bQ ω;have d0:=Ql k;have n8:=hk.ok.n1;have n0:=hk.n0;have e2:aA (2*k.n)=2*k.n:=aq ω ω;by_cases k0:c<0
   .have e:kV k c=false:=by unfold kV;rw[decide_eq_false ω];rfl
    have Ps:¬0<=c:=ω
    rw[e];simp only[go_sem,seval,ll,lo,tt,Ps];exact aC _ _
   have Ps:0<=c:=ω
   by_cases k1:2*k.n<=c
   .have e:kV k c=false:=by unfold kV;rw[decide_eq_false ω];rfl
    have Ly:¬c<2*k.n:=ω
    rw[e];simp only[go_sem,seval,ll,lo,tt,d0,e2,Ps,Ly];exact aC _ _
   have Ly:c<2*k.n:=ω
   obtain⟨m,rfl⟩:∃m:Nat,c=(m:Int):=⟨c.toNat,ω⟩;have hm:m<16:=ω
   have dl:=ae8 hk.ok hm;have rb:=λH=>afw (H:=H) hk.ok hm (k.l.getD m 0);have e:kV k m=decide (0<jN k.p (k.q&&&k.e.getD m 0#32) (k.l.getD m 0) 31):=by unfold kV;rw[decide_eq_true ω,aL];rfl
   have ez:(0<((jN k.p (k.q&&&k.e.getD m 0#32) (k.l.getD m 0) 31:Nat):Int))=(0<jN k.p (k.q&&&k.e.getD m 0#32) (k.l.getD m 0) 31):=propext ω;rw[e];(repeat(first|simp only[go_sem,seval,ll,lo,tt,d0,e2,Ps,Ly,dl,rb,ez,hm,aL]|simp(disch:=omega)only[w0]));exact aC _ _
  .intro k' c' qQ he;simp only[cL,AV.g.injEq,AV.c.injEq,Sc.i.injEq,and_true]at he;obtain⟨e1,rfl⟩:=he;obtain rfl:=GD hk.ok qQ.ok e1;rfl
 obtain⟨v,h1,h2⟩:=this;rw[h1,h2 k c hk rfl]
theorem NW{s:Nat}(hs:s<32):∀j,j<32->(if j=s then true else w.getLsbD j)=(w|||dA s).getLsbD j:=λj hj=>by
 rw[wT,yj hj hs];by_cases e:j=s<;>simp[e]
theorem Sy{s:Nat}(hs:s<32):∀j,j<32->(if j=s then false else w.getLsbD j)=(w&&&~~~(dA s)).getLsbD j:=λj hj=>by
 rw[sW,E9,yj hj hs];by_cases e:j=s<;>simp[e,hj]
theorem bq{w s q:Bool}(h:w=true->s=false->q=true):(q||(w&&(true&&!s)))=q:=by cases w<;>cases s<;>cases q<;>simp_all
theorem azE{q s:BitVec 32}(hi:i<32)(st:∀j,j<32->w.getLsbD j=true->s.getLsbD j=false->q.getLsbD j=true):q|||(w|||dA i)&&&~~~s=if s.getLsbD i=true then q else q|||dA i:=by
 refine AR λj hj=>?_;have st:=st j hj;have b:=bq st;rw[wT,sW,wT,E9,yj hj hi,decide_eq_true hj];by_cases hs:s.getLsbD i=true
 .rw[if_pos hs];by_cases e:j=i
  .subst e;rw[hs];simp
  .rw[decide_eq_false e,vC];exact b
 .rw[if_neg hs,wT,yj hj hi];by_cases e:j=i
  .subst e;rw[decide_eq_true rfl];simp at hs;rw[hs];simp
  .rw[decide_eq_false e,vC,vC];exact b
theorem azD{q s:BitVec 32}(hi:i<32)(st:∀j,j<32->w.getLsbD j=true->s.getLsbD j=false->q.getLsbD j=true):q|||(w&&&~~~(dA i))&&&~~~s=q:=by
 refine AR λj hj=>?_;have st:=st j hj;rw[wT,sW,sW,E9,E9,yj hj hi,decide_eq_true hj];exact bq λh1 h2=>st (by revert h1;cases w.getLsbD j<;>simp) h2
def aeA(args:List AV)(H:AH)(v:AV):Prop:=∀k s on,j3 k->args=[.g (aO k),.c (.i s),.c (.b on)]->v=.t [.g (aO (fY k s on)),.c (.b (qx k s))]
def MW:List AV->AH->Option AV:=lk Tryz.prog [] 106 aeA
theorem at3:bh Tryz.prog 106 (λargs H=>(MW args H).map λv=>(v,H)):=oL tn Tryz.func106 rfl Tryz.results106 Tryz.ntmps106
theorem ayY(hk:j3 k)(s:Int)(on:Bool):MW [.g (aO k),.c (.i s),.c (.b on)] H=some (.t [.g (aO (fY k s on)),.c (.b (qx k s))]):=by
 have:∃v,MW [.g (aO k),.c (.i s),.c (.b on)] H=some v/\aeA [.g (aO k),.c (.i s),.c (.b on)] H v:=by
  unfold MW;apply mM (v:=.t [.g (aO (fY k s on)),.c (.b (qx k s))]) Tryz.func106 rfl Tryz.results106 Tryz.ntmps106 (by simp)
  .intro _ _;show((aO _).all (Sc.aj H.length)&&(true&&true))=true;rw[Mk];rfl
  .intro _ hH;have LL:=λ{k:Pk}(h:cM k)=>jF h;have ll:=jF hk.ok;have lo:=λk=>ud k;have tt:=λ{k:Pk}(h:cM k)=>(bQ (by rw[jF h];exact aB _):bJ 657 (aO k)=aO k);have t0:=tt hk.ok;have d0:=Ql k;have n0:=hk.n0;have nz:(k.n=0)=False:=eq_false ω;by_cases s1:s<1
   .have e1:fY k s on=k:=if_pos (.inr (.inl s1));have e2:qx k s=false:=by simp[qx,s1]
    rw[e1,e2];simp only[go_sem,seval,ll,lo,t0,d0,nz,s1];exact aC _ _
   by_cases s2:31<s
   .have e1:fY k s on=k:=if_pos (.inr (.inr ω));have e2:qx k s=false:=by simp[qx,s1,nz];omega
    rw[e1,e2];simp only[go_sem,seval,ll,lo,t0,d0,nz,s1,s2];exact aC _ _
   obtain⟨m,rfl⟩:∃m:Nat,s=(m:Int):=⟨s.toNat,ω⟩;have hm:m<32:=ω
   have e2:qx k m=true:=by simp[qx,nz,s1];omega
   have g2:(m:Int)<32:=ω
   have eW:fY k m on=if on=true then{k with w:=k.w|||dA m,q:=if k.s.getLsbD m=true then k.q else k.q|||dA m}else{k with w:=k.w&&&~~~(dA m)}:=by
    unfold fY;rw[if_neg ω,aL];cases on
    .rw[if_neg δ,if_neg δ];show({k with w:=_,q:=k.q|||(k.w&&&~~~(dA m))&&&~~~k.s}:Pk)=_;rw[azD hm hk.st]
    .rw[if_pos rfl,if_pos rfl];show({k with w:=_,q:=k.q|||(k.w|||dA m)&&&~~~k.s}:Pk)=_;rw[azE hm hk.st]
   rw[e2,eW];have okW:=λw q=>hk.ok.rU w q k.s;have lW:=λw q=>LL (okW w q);have tW:=λw q=>tt (okW w q);have dS:=λw=>afb (k:={k with w:=w}) (okW w k.q) hm;cases on
   .have w1:=rW (agD hk.ok hm (Sy hm));have l1:=lW (k.w&&&~~~(dA m)) k.q;have t1:=tW (k.w&&&~~~(dA m)) k.q;simp only[dL,if_false];(repeat(first|simp only[go_sem,seval,ll,lo,t0,d0,nz,s1,s2,g2,w1,l1,t1,aL]|simp(disch:=omega)only[w0]));exact aC _ _
   .have w1:=rW (agD hk.ok hm (NW hm));have l1:=lW (k.w|||dA m) k.q;have t1:=tW (k.w|||dA m) k.q;have ds:=dS (k.w|||dA m);simp only[if_true];cases hs:k.s.getLsbD m
    .have KD:(aO {k with w:=k.w|||dA m}).getD (97+m) .any=.b false:=by rw[ds];exact congrArg Sc.b hs
     have w2:=rW (YX (k:={k with w:=k.w|||dA m}) (okW _ _) hm (NW hm));have l2:=lW (k.w|||dA m) (k.q|||dA m);have t2:=tW (k.w|||dA m) (k.q|||dA m);simp only[dL,if_false];(repeat(first|simp only[go_sem,seval,ll,lo,t0,d0,nz,s1,s2,g2,w1,l1,KD,w2,l2,t2,aL]|simp(disch:=omega)only[w0]));exact aC _ _
    .have KD:(aO {k with w:=k.w|||dA m}).getD (97+m) .any=.b true:=by rw[ds];exact congrArg Sc.b hs
     simp only[if_true];(repeat(first|simp only[go_sem,seval,ll,lo,t0,d0,nz,s1,s2,g2,w1,l1,KD,t1,aL]|simp(disch:=omega)only[w0]));exact aC _ _
  .intro k' s' on' qQ he;simp only[cL,AV.g.injEq,AV.c.injEq,Sc.i.injEq,Sc.b.injEq,and_true]at he;obtain⟨e1,rfl,rfl⟩:=he;obtain rfl:=GD hk.ok qQ.ok e1;rfl
 obtain⟨v,h1,h2⟩:=this;rw[h1,h2 k s on hk rfl]
end
section
variable {H:AH}{k:Pk}
theorem Ym(k:Pk):∀j,j<32->(uf k).w.getLsbD j=true->(uf k).s.getLsbD j=false->(uf k).q.getLsbD j=true:=λj hj h1 h2=>by
 show(k.q|||k.w&&&~~~k.s).getLsbD j=true;have h1:k.w.getLsbD j=true:=h1;have h2:k.s.getLsbD j=false:=h2;rw[wT,sW,E9,h1,h2];simp[hj]
theorem j3.wP(h:j3 k)(s:Int)(on:Bool):j3 (fY k s on):=by
 refine⟨P0 h.ok s on,by rw[PZ];exact h.n0,?_,?_⟩
 .unfold fY;repeat' split
  .exact h.st
  .exact Ym _
  .exact Ym _
 .unfold fY;repeat' split
  all_goals exact h.e0
theorem j3.read(h:j3 k)(a:Pa):j3 (oB k a):=by
 refine⟨ad1 h.ok a,by rw[ad0];exact h.n0,?_,?_⟩
 .unfold oB;split
  .rename_i hb;intro j hj h1 h2;have ZN:rS k a.i<=31:=Ko 31;have h2:(k.s|||dA (rS k a.i)).getLsbD j=false:=h2;rw[wT,yj hj ω]at h2;simp only[Bool.or_eq_false_iff,decide_eq_false_iff_not]at h2;show(k.q&&&~~~(dA (rS k a.i))).getLsbD j=true;rw[sW,E9,yj hj ω,h.st j hj h1 h2.1];simp[hj,h2.2]
  .exact h.st
 .unfold oB;split;all_goals exact h.e0
theorem j3.write(h:j3 k)(a:Pa)(v:BitVec 64):j3 (ji k a v):=by
 refine⟨V8 h.ok a v,by rw[ad2];exact h.n0,?_,?_⟩
 .unfold ji;repeat' split
  .exact h.st
  .exact h.st
  .exact h.st
  .exact Ym _
  .exact h.st
 .unfold ji;repeat' split
  .exact h.e0
  .intro c;show((k.e.set a.i (v.setWidth 32&&&~~~1#32)).getD c 0#32).getLsbD 0=false;have:=h.e0 c;rw[bX,rq];split
   .split
    .simp
    .simp
   .rw[<-bX];exact this
  .exact h.e0
  .exact h.e0
  .exact h.e0
theorem aA0(h:cM k):bJ 32 (cQ 65 (aO k))=fo k.q:=by rw[Qk,vE (WB h),nQ (ky _)]
theorem aAZ(h:cM k)(hc:c<16):bJ 32 (cQ (129+c*32) (aO k))=fo (k.e.getD c 0#32):=by
 obtain⟨P,Q,h1,h2⟩:=ae9 h hc;have:=h2 (k.e.getD c 0#32);rw[afa]at this;rw[this,<-h1,List.drop_left,nQ (ky _)]
def aex(args:List AV)(H:AH)(v:AV):Prop:=∀k off sz,j3 k->args=[.g (aO k),.c (.u off),.c (.i sz)]->v=.t [.g (aO (oB k (bM k.n off sz))),.c (.u (o7 k (bM k.n off sz))),.c (.b (!decide ((bM k.n off sz).k=0)))]
def MT:List AV->AH->Option AV:=lk Tryz.prog [(122,.pu MY),(155,.fq MV),(156,.fq Jy)] 98 aex
theorem at0:bh Tryz.prog 98 (λargs H=>(MT args H).map λv=>(v,H)):=oL (tu VM (tq at2 (tq adu tn))) Tryz.func98 rfl Tryz.results98 Tryz.ntmps98
theorem ayW(hk:j3 k)(off:BitVec 64)(sz:Int):MT [.g (aO k),.c (.u off),.c (.i sz)] H=some (.t [.g (aO (oB k (bM k.n off sz))),.c (.u (o7 k (bM k.n off sz))),.c (.b (!decide ((bM k.n off sz).k=0)))]):=by
 have:∃v,MT [.g (aO k),.c (.u off),.c (.i sz)] H=some v/\aex [.g (aO k),.c (.u off),.c (.i sz)] H v:=by
  unfold MT;apply mM (v:=.t [.g (aO (oB k (bM k.n off sz))),.c (.u (o7 k (bM k.n off sz))),.c (.b (!decide ((bM k.n off sz).k=0)))]) Tryz.func98 rfl Tryz.results98 Tryz.ntmps98 (by simp)
  .intro _ _;show((aO _).all (Sc.aj H.length)&&(true&&(true&&true)))=true;rw[Mk];rfl
  .intro _ hH;have ll:=jF hk.ok;have lo:=λk=>ud k;have t0:bJ 657 (aO k)=aO k:=bQ ω;have d0:=Ql k;have cJ:=XH (n:=k.n) (off:=off) (sz:=sz);rw[if_pos ⟨hk.n0,hk.ok.n1⟩]at cJ;have hi:=L9 hk.ok.n0 hk.ok.n1 off sz;have ha:=Ma k.n off sz;have hR:=(hk.read (bM k.n off sz)).ok;generalize bM k.n off sz=a at*;obtain⟨ak,ai⟩:=a;simp only at hi ha cJ;have no:ak≠5->oB k ⟨ak,ai⟩=k:=λh=>if_neg λc=>h c.1;have wq:=λH=>afy (H:=H) k.q;have tq:=aA0 hk.ok;rcases ha with rfl|rfl|rfl|rfl|rfl|rfl
   .rw[no δ];simp only[go_sem,seval,cJ,d0,ll,lo,t0,o7];(repeat' first|apply cf|(intro c;exact absurd c ω)|(intro _;kernel_rfl)|kernel_rfl);exact aC _ _
   .have dp:=WK hk.ok hi.1;have OO:=hi.1;rw[no δ];(repeat(first|simp only[go_sem,seval,cJ,d0,ll,lo,t0,o7,dp,OO,aL]|simp(disch:=omega)only[w0]));(repeat' first|apply cf|(intro c;exact absurd c ω)|(intro _;kernel_rfl)|kernel_rfl);exact aC _ _
   .rw[no δ];simp only[go_sem,seval,cJ,d0,ll,lo,t0,o7,tq,wq];(repeat' first|apply cf|(intro c;exact absurd c ω)|(intro _;kernel_rfl)|kernel_rfl);exact aC _ _
   .have i16:=hi.2 δ;have te:=aAZ hk.ok i16;have we:=λH=>afy (H:=H) (k.e.getD ai 0#32);rw[no δ];(repeat(first|simp only[go_sem,seval,cJ,d0,ll,lo,t0,o7,i16,te,we,aL]|simp(disch:=omega)only[w0]));(repeat' first|apply cf|(intro c;exact absurd c ω)|(intro _;kernel_rfl)|kernel_rfl);exact aC _ _
   .have i16:=hi.2 δ;have dl:=ae8 hk.ok i16;rw[no δ];(repeat(first|simp only[go_sem,seval,cJ,d0,ll,lo,t0,o7,dl,i16,aL]|simp(disch:=omega)only[w0]));(repeat' first|apply cf|(intro c;exact absurd c ω)|(intro _;kernel_rfl)|kernel_rfl);exact aC _ _
   .have i16:=hi.2 δ;have rb:=λH=>afw (H:=H) hk.ok i16 0;have ZN:rS k ai<=31:=Ko 31;have eB:jN k.p (k.q&&&k.e.getD ai 0#32) 0 31=rS k ai:=rfl;have eV:o7 k ⟨5,ai⟩=aw 64 (rS k ai:Int):=by simp[o7]
    rw[eV];have eR:oB k ⟨5,ai⟩=if 0<rS k ai then{k with q:=k.q&&&~~~(dA (rS k ai)),s:=k.s|||dA (rS k ai)}else k:=by unfold oB;simp only[true_and]
    rw[eR];rw[eB]at rb;generalize rS k ai=B at*;by_cases z:0<B
    .have z':(0:Int)<(B:Int):=ω
     have hB:B<32:=ω
     have OP:(B:Int)<32:=ω
     have Aj:cM {k with q:=k.q&&&~~~(dA B)}:=hk.ok.rU _ _ _;have Vy:cM {k with q:=k.q&&&~~~(dA B),s:=k.s|||dA B}:=hk.ok.rU _ _ _;have l1:=jF Aj;have l2:=jF Vy;have t2:bJ 657 (aO {k with q:=k.q&&&~~~(dA B),s:=k.s|||dA B})=aO {k with q:=k.q&&&~~~(dA B),s:=k.s|||dA B}:=bQ ω;have w1:=rW (YX hk.ok hB (Sy hB));have w2:=rW (agC (k:={k with q:=k.q&&&~~~(dA B)}) Aj hB (NW hB));rw[if_pos z];(repeat(first|simp only[go_sem,seval,cJ,d0,ll,lo,t0,rb,z',OP,w1,l1,w2,l2,t2,aL]|simp(disch:=omega)only[w0]));exact aC _ _
    .have z':¬(0:Int)<(B:Int):=ω
     rw[if_neg z];simp only[go_sem,seval,cJ,d0,ll,lo,t0,rb,z',aL];exact aC _ _
  .intro k' Gq YA qQ he;simp only[cL,AV.g.injEq,AV.c.injEq,Sc.i.injEq,Sc.u.injEq,and_true]at he;obtain⟨e1,rfl,rfl⟩:=he;obtain rfl:=GD hk.ok qQ.ok e1;rfl
 obtain⟨v,h1,h2⟩:=this;rw[h1,h2 k off sz hk rfl]
end
section
variable {H:AH}{k:Pk}
theorem azC{q s:BitVec 32}(hi:i<32)(st:∀j,j<32->w.getLsbD j=true->s.getLsbD j=false->q.getLsbD j=true):q|||w&&&~~~(s&&&~~~(dA i))=if w.getLsbD i=true then q|||dA i else q:=by
 refine AR λj hj=>?_;have st:=st j hj;have b:=bq st;rw[wT,sW,E9,sW,E9,yj hj hi,decide_eq_true hj];by_cases e:j=i
 .subst e;rw[decide_eq_true rfl];by_cases hw:w.getLsbD j=true
  .rw[if_pos hw,wT,yj hj hi,decide_eq_true rfl,hw];simp
  .rw[if_neg hw];simp at hw;rw[hw];simp
 .rw[decide_eq_false e];have b2:(q.getLsbD j||(w.getLsbD j&&(true&&!(s.getLsbD j&&(true&&!false)))))=q.getLsbD j:=by rw[show(true&&!false)=true from rfl,c8];exact b
  by_cases hw:w.getLsbD i=true
  .rw[if_pos hw,wT,yj hj hi,decide_eq_false e,vC];exact b2
  .rw[if_neg hw];exact b2
theorem ah8{x:BitVec 32}(hi:i<32):(x&&&dA i=0#32)=(x.getLsbD i=false):=by
 refine propext ⟨λh=>?_,λh=>AR λj hj=>?_⟩
 .have:=congrArg (λy=>y.getLsbD i) h;simp only[sW,yj hi hi,decide_true,c8,BitVec.getLsbD_zero]at this;exact this
 .rw[sW,yj hj hi,BitVec.getLsbD_zero];by_cases e:j=i
  .subst e;rw[h];rfl
  .rw[decide_eq_false e,rY]
theorem aqL(v:BitVec 64):(v%8#64).toInt=((v&&&7#64).toNat:Int):=by
 have e:v&&&7#64=v%8#64:=by
  apply mB;rw[BitVec.toNat_and,zp,show(7#64).toNat=2^3-1 from rfl,show(8#64).toNat=2^3 from rfl,agZ]
 rw[e,x9,if_pos];rw[zp,show(8#64).toNat=8 from rfl];omega
theorem aqK(v:BitVec 64):(v%4294967296#64).toNat=(v.setWidth 32).toNat:=by rw[zp,BitVec.toNat_setWidth];rfl
theorem afT(v:BitVec 64)(s:Nat):v>>>s/2#64=v>>>(s+1):=by
 apply mB;rw[wW,Hc,Hc,Hq,Hq,show(2#64).toNat=2 from rfl,Nat.div_div_eq_div_mul,Nat.pow_succ]
theorem azG(v:BitVec 64):v/2#64=v>>>1:=by
 have:=afT v 0;rwa[RD]at this
theorem ajl(v:BitVec 64)(s:Nat):(v>>>s%2#64=1#64)=(v.getLsbD s=true):=by
 rw[afU];cases v.getLsbD s<;>simp
def fE(v:BitVec 64)(w:BitVec 32)(s:Nat)(j:Nat):Bool:=if 1<=j/\j<s then v.getLsbD j else w.getLsbD j
def aey(args:List AV)(H:AH)(v:AV):Prop:=∀k off sz w,j3 k->args=[.g (aO k),.c (.u off),.c (.i sz),.c (.u w)]->v=.t [.g (aO (ji k (bM k.n off sz) w)),.c (.b (!decide ((bM k.n off sz).k=0)))]
def MU:List AV->AH->Option AV:=lk Tryz.prog [(122,.pu MY)] 101 aey
theorem at1:bh Tryz.prog 101 (λargs H=>(MU args H).map λv=>(v,H)):=oL (tu VM tn) Tryz.func101 rfl Tryz.results101 Tryz.ntmps101
theorem ayX(hk:j3 k)(off:BitVec 64)(sz:Int)(v:BitVec 64):MU [.g (aO k),.c (.u off),.c (.i sz),.c (.u v)] H=some (.t [.g (aO (ji k (bM k.n off sz) v)),.c (.b (!decide ((bM k.n off sz).k=0)))]):=by
 have:∃x,MU [.g (aO k),.c (.u off),.c (.i sz),.c (.u v)] H=some x/\aey [.g (aO k),.c (.u off),.c (.i sz),.c (.u v)] H x:=by
  unfold MU;apply mM (v:=.t [.g (aO (ji k (bM k.n off sz) v)),.c (.b (!decide ((bM k.n off sz).k=0)))]) Tryz.func101 rfl Tryz.results101 Tryz.ntmps101 (by simp)
  .intro _ _;show((aO _).all (Sc.aj H.length)&&(true&&true))=true;rw[Mk];rfl
  .intro _ hH;have ll:=jF hk.ok;have lo:=λk=>ud k;have TT:=λ{k:Pk}(h:cM k)=>(bQ (by rw[jF h];exact aB _):bJ 657 (aO k)=aO k);have t0:=TT hk.ok;have d0:=Ql k;have cJ:=XH (n:=k.n) (off:=off) (sz:=sz);rw[if_pos ⟨hk.n0,hk.ok.n1⟩]at cJ;have hi:=L9 hk.ok.n0 hk.ok.n1 off sz;have ha:=Ma k.n off sz;have okW:=V8 hk.ok (bM k.n off sz) v;have m8:=aqL v;generalize bM k.n off sz=a at*;obtain⟨ak,ai⟩:=a;simp only at hi ha cJ;have lW:=jF okW;have tW:=TT okW;rcases ha with rfl|rfl|rfl|rfl|rfl|rfl
   .have e:ji k ⟨0,ai⟩ v=k:=by simp[ji]
    rw[e];simp only[go_sem,seval,cJ,d0,ll,lo,t0];exact aC _ _
   .have OO:=hi.1;have e:ji k ⟨1,ai⟩ v={k with p:=k.p.set ai ((v&&&7#64).toNat:Int)}:=by simp[ji]
    have w1:=rW (aBT hk.ok OO ((v&&&7#64).toNat:Int));rw[e]at lW tW|-;(repeat(first|simp only[go_sem,seval,cJ,d0,ll,lo,t0,OO,m8,w1,lW,tW,aL]|simp(disch:=omega)only[w0]));exact aC _ _
   .have e:ji k ⟨2,ai⟩ v=k:=by simp[ji]
    rw[e];simp only[go_sem,seval,cJ,d0,ll,lo,t0];exact aC _ _
   .have i16:=hi.2 δ;have e:ji k ⟨3,ai⟩ v={k with e:=k.e.set ai (v.setWidth 32&&&~~~1#32)}:=by simp[ji]
    rw[e]at lW tW|-;obtain⟨P,Q,hP,hPQ⟩:=ae9 hk.ok i16;have e0:=hPQ (k.e.getD ai 0#32);rw[afa]at e0;have eN:=hPQ (v.setWidth 32&&&~~~1#32);have ez:=hk.e0 ai;generalize k.e.getD ai 0#32=E at*;have f1:o8 (fE v E 1)=fo E:=IW λj hj=>by unfold fE;rw[if_neg ω]
    have f32:o8 (fE v E 32)=fo (v.setWidth 32&&&~~~1#32):=IW λj hj=>by
     unfold fE;rw[sW,BitVec.getLsbD_setWidth,E9,RB,decide_eq_true hj];by_cases c:j=0
     .subst c;rw[if_neg ω,ez];simp
     .rw[if_pos ω];simp[c];try omega
    have lp:(P++(fo E++Q)).length=657:=by rw[<-e0];exact ll
    have lQ:Q.length=657-32-P.length:=by simp only[cj,ky]at lp;omega
    have lF:∀s,(P++(o8 (fE v E s)++Q)).length=657:=λs=>by simp only[cj,Wq];simp only[cj,ky]at lp;omega
    rw[eN,<-f32]at lW tW|-;have lo':(P++(o8 (fE v E 32)++Q)).all Sc.one=true:=by rw[f32,<-eN];exact lo _
    have gd0:(P++(o8 (fE v E 1)++Q)).getD 0 .any=.i k.n:=by rw[f1,<-e0];exact d0
    rw[e0,<-f1]at ll t0|-;have lo1:(P++(o8 (fE v E 1)++Q)).all Sc.one=true:=by rw[f1,<-e0];exact lo _
    have sh:=azG v;have st:∀s,1<=s->s<32->∀x,x=v.getLsbD s->bJ (129+ai*32+s) (P++(o8 (fE v E s)++Q))++Sc.b x::cQ (129+ai*32+s+1) (P++(o8 (fE v E s)++Q))=P++(o8 (fE v E (s+1))++Q):=λs h1 h2 x hx=>by
     rw[<-hP];refine rW ((AO (by rw[Wq];simp;omega)).trans ?_);rw[P6 h2,IW (g:=fE v E (s+1)) λj hj=>?_];unfold fE;by_cases c:j=s
     .subst c;rw[if_pos rfl,if_pos ω,hx]
     .rw[if_neg c];by_cases d:1<=j/\j<s
      .rw[if_pos d,if_pos ω]
      .rw[if_neg d,if_neg ω]
    obtain⟨G,hG⟩:∃G:Nat->List Sc,∀s,P++(o8 (fE v E s)++Q)=G s:=⟨_,λ_=>rfl⟩;simp only[hG]at*;have st2:=λs h1 h2=>st s h1 h2 _ rfl;clear st;simp only[go_sem,seval,cJ,gd0,ll,lo1,sh,yS];refine fB 31 (λt=>([(4,.c (.p H.length 0 0)),(8,.c (.p (H.length+1) 0 0)),(11,.c (.i ai)),(12,.c (.u (v>>>(t+1)))),(13,.c (.i ((t:Int)+1)))],H++[.own (G (t+1)),.own (.i 0::pN)])) (Wk.fq (by simp[Am.get])) λt ht=>?_;by_cases aG:t<31
    .have g1:(t:Int)+1<32:=ω
     have g2:((t:Int)+1).toNat=t+1:=ω
     have g3:aA ((t:Int)+1+1)=((t+1:Nat):Int)+1:=by rw[aq ω ω];omega
     have g4:(0:Int)<=(t:Int)+1:=ω
     have bm:=ajl v (t+1);have s1:=afT v (t+1);have w1:=st2 (t+1) ω ω;have iW:=lF (t+1);cases hb:v.getLsbD (t+1);all_goals rw[hb]at bm w1
     all_goals(repeat(first|simp only[go_sem,seval,g1,g2,g3,g4,bm,s1,w1,iW,i16,aL]|simp(disch:=omega)only[w0]))
     all_goals exact⟨t+1,ω,ω,Wk.fq (by simp[Am.get])⟩
    .obtain rfl:t=31:=ω
     have l32:=lF 32;simp only[go_sem,seval,lo',tW,l32];exact aC _ _
   .have i16:=hi.2 δ;have e:ji k ⟨4,ai⟩ v={k with l:=k.l.set ai ((v&&&7#64).toNat:Int)}:=by simp[ji]
    have w1:=rW (aBR hk.ok i16 ((v&&&7#64).toNat:Int));rw[e]at lW tW|-;(repeat(first|simp only[go_sem,seval,cJ,d0,ll,lo,t0,i16,m8,w1,lW,tW,aL]|simp(disch:=omega)only[w0]));exact aC _ _
   .have i16:=hi.2 δ;have m32:=aqK v;have eG:BP k ai (v.setWidth 32)=((v.setWidth 32).toNat<32/\(k.e.getD ai 0#32).getLsbD (v.setWidth 32).toNat=true/\k.s.getLsbD (v.setWidth 32).toNat=true):=by
     unfold BP;by_cases c:(v.setWidth 32).toNat<32
     .rw[ah8 c,sW];cases(k.e.getD ai 0#32).getLsbD (v.setWidth 32).toNat<;>cases k.s.getLsbD (v.setWidth 32).toNat<;>simp
     .exact propext ⟨λh=>absurd h.1 c,λh=>absurd h.1 c⟩
    have e:ji k ⟨5,ai⟩ v=if BP k ai (v.setWidth 32)then uf {k with s:=k.s&&&~~~(dA (v.setWidth 32).toNat)}else k:=by simp[ji]
    rw[e]at lW tW|-;have ez:=hk.e0 ai;have c1:(1#64<=v%4294967296#64)=(1<=(v.setWidth 32).toNat):=by rw[sY,m32];rfl
    have c2:(v%4294967296#64<=31#64)=((v.setWidth 32).toNat<=31):=by rw[sY,m32];rfl
    obtain⟨V,hV⟩:∃V,v%4294967296#64=V:=⟨_,rfl⟩;rw[hV]at m32 c1 c2;generalize(v.setWidth 32).toNat=m at*;by_cases m1:1<=m
    .by_cases m2:m<=31
     .have hm:m<32:=ω
      have de:(aO k).getD (129+ai*32+m) .any=.b ((k.e.getD ai 0#32).getLsbD m):=by rw[m9];exact ae5 hk.ok i16 hm
      have ds:=afb hk.ok hm;have dw:=awU (k:={k with s:=k.s&&&~~~(dA m)}) (hk.ok.rU _ _ _) hm;cases he:(k.e.getD ai 0#32).getLsbD m
      .rw[if_neg (by rw[eG,he];simp)]at lW tW|-;rw[he]at de;(repeat(first|simp only[go_sem,seval,cJ,d0,ll,lo,t0,hV,c1,c2,m1,m2,hm,m32,i16,de,aL]|simp(disch:=omega)only[w0]));exact aC _ _
      rw[he]at de;cases hs:k.s.getLsbD m
      .rw[if_neg (by rw[eG,hs];simp)]at lW tW|-;rw[hs]at ds;(repeat(first|simp only[go_sem,seval,cJ,d0,ll,lo,t0,hV,c1,c2,m1,m2,hm,m32,i16,de,ds,aL]|simp(disch:=omega)only[w0]));exact aC _ _
      rw[hs]at ds;rw[if_pos (by rw[eG,he,hs];exact⟨hm,rfl,rfl⟩)]at lW tW|-;have eS:uf {k with s:=k.s&&&~~~(dA m)}={k with s:=k.s&&&~~~(dA m),q:=if k.w.getLsbD m=true then k.q|||dA m else k.q}:=by
       show({k with s:=_,q:=k.q|||k.w&&&~~~(k.s&&&~~~(dA m))}:Pk)=_;rw[azC hm hk.st]
      rw[eS]at lW tW|-;have w1:=rW (agC hk.ok hm (Sy hm));have l1:=jF (k:={k with s:=k.s&&&~~~(dA m)}) (hk.ok.rU _ _ _);cases hw:k.w.getLsbD m
      .rw[hw]at lW tW;have Tf:(aO {k with s:=k.s&&&~~~(dA m)}).getD (33+m) .any=.b false:=by rw[dw];exact congrArg Sc.b hw
       simp only[dL,if_false]at lW tW|-;(repeat(first|simp only[go_sem,seval,cJ,d0,ll,lo,t0,hV,c1,c2,m1,m2,hm,m32,i16,de,ds,w1,l1,Tf,lW,tW,aL]|simp(disch:=omega)only[w0]));exact aC _ _
      .rw[hw]at lW tW;have Tf:(aO {k with s:=k.s&&&~~~(dA m)}).getD (33+m) .any=.b true:=by rw[dw];exact congrArg Sc.b hw
       have w2:=rW (YX (k:={k with s:=k.s&&&~~~(dA m)}) (hk.ok.rU _ _ _) hm (NW hm));simp only[if_true]at lW tW|-;(repeat(first|simp only[go_sem,seval,cJ,d0,ll,lo,t0,hV,c1,c2,m1,m2,hm,m32,i16,de,ds,w1,l1,Tf,w2,lW,tW,aL]|simp(disch:=omega)only[w0]));exact aC _ _
     .rw[if_neg (by rw[eG];omega)]at lW tW|-;simp only[go_sem,seval,cJ,d0,ll,lo,t0,hV,c1,c2,m1,m2];exact aC _ _
    .obtain rfl:m=0:=ω
     rw[if_neg (by rw[eG,ez];simp)]at lW tW|-;simp only[go_sem,seval,cJ,d0,ll,lo,t0,hV,c1,m1];exact aC _ _
  .intro k' Gq YA v' qQ he;simp only[cL,AV.g.injEq,AV.c.injEq,Sc.i.injEq,Sc.u.injEq,and_true]at he;obtain⟨e1,rfl,rfl,rfl⟩:=he;obtain rfl:=GD hk.ok qQ.ok e1;rfl
 obtain⟨x,h1,h2⟩:=this;rw[h1,h2 k off sz v hk rfl]
end
variable {u:Sc}
section
variable {H:AH}
structure mH(b:Bs):Prop where
 ok:nS b
 kI:j3 b.k
theorem mH.cI{b:Bs}(h:mH b):zw b.c:=⟨h.ok.c,by rw[h.ok.nc];exact h.ok.n0⟩
def bj(b:Bs)(t:Pt)(u v:Sc):List Sc:=.i b.n::(aR b.c++(aO b.k++aY t u v))
structure Zl(A B C:List Sc):Prop where
 la:A.length=18
 lb:B.length=657
 lc:C.length=11
 l:(A++(B++C)).length=686
 t:bJ 686 (A++(B++C))=A++(B++C)d:cQ 686 (A++(B++C))=[]t18:∀m,bJ 18 (A++m)=A
 d18:∀m,cQ 18 (A++m)=m
 jd:bJ 657 (B++C)=B
 jP:cQ 657 (B++C)=C
 ju:cQ 675 (A++(B++C))=C
 jV:bJ 675 (A++(B++C))=A++B
 tc:bJ 11 C=C
theorem gV{A B C:List Sc}(la:A.length=18)(lb:B.length=657)(lc:C.length=11):Zl A B C:=by
 have l:(A++(B++C)).length=686:=by simp only[cj,la,lb,lc]
 have ab:(A++B).length=675:=by simp only[cj,la,lb]
 exact⟨la,lb,lc,l,bQ ω,kN ω,λm=>nQ la,λm=>vE la,nQ lb,vE lb,by rw[<-fv];exact vE ab,by rw[<-fv];exact nQ ab,bQ ω⟩
theorem nK(t:Pt)(u v:Sc):(aY t u v).length=11:=rfl
theorem yT{v:Sc}(t:Pt)(hu:Sc.one u=true)(hv:Sc.one v=true):(aY t u v).all Sc.one=true:=by
 unfold aY;simp only[bK,dY,hu,hv];rfl
theorem mH.gV{b:Bs}(h:mH b)(t:Pt)(u v:Sc):Zl (aR b.c) (aO b.k) (aY t u v):=Go.Proofs.YtghlfboliomhcaaGreat.gV (gp h.ok.c) (jF h.ok.k) rfl
theorem me{c:Ck}{v:Sc}(hu:Sc.one u=true)(hv:Sc.one v=true):(aR c++(aO k++aY t u v)).all Sc.one=true:=by rw[fJ,fJ,nW,ud,yT t hu hv];rfl
theorem aeL{c:Ck}{v:Sc}{n:Nat}(hu:u.aj n=true)(hv:v.aj n=true):(aR c++(aO k++aY t u v)).all (Sc.aj n)=true:=by
 rw[fJ,fJ,N5,Mk];unfold aY;simp only[bK,dY,hu,hv];rfl
theorem IU{a b:Bs}{s:Pt}{v:Sc}(ha:mH a)(hb:mH b)(h:bj a s u v=bj b t x y):a=b/\aY s u v=aY t x y:=by
 simp only[bj,cL,Sc.i.injEq]at h;obtain⟨h1,h2⟩:=h;obtain⟨h3,h4⟩:=s5 h2 (by rw[gp ha.ok.c,gp hb.ok.c]);obtain⟨h5,h6⟩:=s5 h4 (by rw[jF ha.ok.k,jF hb.ok.k]);have g3:=Fk ha.ok.c hb.ok.c h3;have g5:=GD ha.ok.k hb.ok.k h5;refine⟨?_,h6⟩;cases a;cases b;simp only at h1 g3 g5;subst h1 g3 g5;rfl
theorem Qh{s:Pt}{v:Sc}(hs:jm H s u v)(ht:jm H t x y)(h:aY s u v=aY t x y):s=t/\u=x/\v=y:=by
 simp only[aY,cL,Sc.i.injEq,Sc.b.injEq,and_true]at h;obtain⟨e1,e2,e3,e4,e5,e6,e7,e8,e9,KE,KF⟩:=h;subst KE KF;have a:=hs.hx;rw[ht.hx]at a;have b:=hs.hy;rw[ht.hy]at b;have a2:=Kd a;have b2:=Kd b;clear a b hs ht;refine⟨?_,rfl,rfl⟩;cases s;cases t;simp only at e1 e2 e3 e4 e5 e6 e7 e8 e9 a2 b2;subst e1 e2 e3 e4 e5 e6 e7 e8 e9 a2 b2;rfl
theorem ajM(c:Ck)(h:Int):kT c h=0#64\/kT c h=8#64\/kT c h=128#64\/kT c h=136#64:=by
 unfold kT;split
 .exact .inl rfl
 .split<;>split<;>simp
def aeB(args:List AV)(H:AH)(x:AV):Prop:=∀b t u v h,mH b->Sc.one u=true->Sc.one v=true->args=[.g (bj b t u v),.c (.i h)]->x=.c (.u (pV b h))
def Jz:List AV->AH->Option AV:=lk Tryz.prog [(160,.fq MO),(161,.fq MS)] 103 aeB
theorem adv:bh Tryz.prog 103 (λargs H=>(Jz args H).map λv=>(v,H)):=oL (tq atV (tq atZ tn)) Tryz.func103 rfl Tryz.results103 Tryz.ntmps103
theorem afz{b:Bs}{v:Sc}(hb:mH b)(t:Pt)(hu:Sc.one u=true)(hv:Sc.one v=true)(h:Int):Jz [.g (bj b t u v),.c (.i h)] H=some (.c (.u (pV b h))):=by
 have:∃x,Jz [.g (bj b t u v),.c (.i h)] H=some x/\aeB [.g (bj b t u v),.c (.i h)] H x:=by
  unfold Jz;apply mM (v:=.c (.u (pV b h))) Tryz.func103 rfl Tryz.results103 Tryz.ntmps103 (by simp)
  .exact λ_ _=>rfl
  .intro _ _;have sg:=hb.gV t u v;have la:=sg.la;have lb:=sg.lb;have lc:=sg.lc;have l:=sg.l;have t18:=sg.t18;have d18:=sg.d18;have jd:=sg.jd;have oo:=me (c:=b.c) (k:=b.k) (t:=t) hu hv;have n8:=hb.ok.n1;have cl:=λH=>ayS (H:=H) hb.cI h;have p1:=λH=>afx (H:=H) hb.kI (2*h);have p2:=λH=>afx (H:=H) hb.kI (2*h+1);by_cases h0:h<0
   .have e:pV b h=0#64:=if_pos (.inl h0);rw[e];simp only[go_sem,seval,bj,l,oo,h0];exact aC _ _
   by_cases h1:b.n<=h
   .have e:pV b h=0#64:=if_pos (.inr h1);rw[e];simp only[go_sem,seval,bj,l,oo,h0,h1];exact aC _ _
   have e1:aA (2*h)=2*h:=aq ω ω;have e2:aA (2*h+1)=2*h+1:=aq ω ω;have e:pV b h=(if kV b.k (2*h+1)=true then(if kV b.k (2*h)=true then kT b.c h|||2048#64 else kT b.c h)|||512#64 else(if kV b.k (2*h)=true then kT b.c h|||2048#64 else kT b.c h)):=if_neg ω;rw[e];have cv:=ajM b.c h;generalize kT b.c h=z at*;cases h2:kV b.k (2*h);all_goals simp only[h2]at p1
   all_goals cases h3:kV b.k (2*h+1)
   all_goals simp only[h3]at p2
   all_goals rcases cv with rfl|rfl|rfl|rfl
   all_goals simp only[go_sem,seval,bj,l,la,lb,t18,d18,jd,oo,h0,h1,e1,e2,cl,p1,p2,dL,if_true,if_false]
   all_goals exact aC _ _
  .intro b' t' u' v' h' rJ _ _ he;simp only[cL,AV.g.injEq,AV.c.injEq,Sc.i.injEq,and_true]at he;obtain⟨e1,rfl⟩:=he;obtain⟨rfl,_⟩:=IU hb rJ e1;rfl
 obtain⟨x,h1,h2⟩:=this;rw[h1,h2 b t u v h hb hu hv rfl]
end
variable {P Y:AH}{A:List Int}
section
variable {H:AH}
def aeC(args:List AV)(H:AH)(x:AV):Prop:=∀b t u v q,mH b->Sc.one u=true->Sc.one v=true->args=[.g (bj b t u v),.g (bV q)]->x=.c (.b (kF b.n q))
def JA:List AV->AH->Option AV:=lk Tryz.prog [(78,.pu M6)] 36 aeC
theorem adw:bh Tryz.prog 36 (λargs H=>(JA args H).map λv=>(v,H)):=oL (tu adE tn) Tryz.func36 rfl Tryz.results36 Tryz.ntmps36
theorem afA{b:Bs}{v:Sc}{q:Aq}(hb:mH b)(t:Pt)(hu:Sc.one u=true)(hv:Sc.one v=true)(hq:nT q.r):JA [.g (bj b t u v),.g (bV q)] H=some (.c (.b (kF b.n q))):=by
 have:∃x,JA [.g (bj b t u v),.g (bV q)] H=some x/\aeC [.g (bj b t u v),.g (bV q)] H x:=by
  unfold JA;apply mM (v:=.c (.b (kF b.n q))) Tryz.func36 rfl Tryz.results36 Tryz.ntmps36 (by simp)
  .exact λ_ _=>rfl
  .intro _ _;have yI:=(hb.gV t u v).l;have Bu:=me (c:=b.c) (k:=b.k) (t:=t) hu hv;obtain⟨Ij,_,Ik⟩:=hq;have rw':=afE (n:=b.n) (a:=q.a) (s:=q.s);unfold kF bj;have bd:=Sp (n:=b.n) (a:=q.a) (s:=q.s);generalize(ik b.n q.a q.s).d=z at*;rcases Classical.propComplete (q.k=9)with k1|k1
   .rcases bd with rfl|rfl|rfl|rfl<;>simp only[go_sem,seval,bV,rw',k1,yI,Bu,Ij,Ik]<;>exact aC _ _
   rcases Classical.propComplete (q.k=10)with k2|k2
   .rcases bd with rfl|rfl|rfl|rfl<;>simp only[go_sem,seval,bV,rw',k1,k2,yI,Bu,Ij,Ik]<;>exact aC _ _
   rcases Classical.propComplete (q.k=11)with k3|k3
   .simp only[go_sem,seval,bV,k1,k2,k3,yI,Bu,Ij,Ik];exact aC _ _
   rcases Classical.propComplete (q.k=18)with k4|k4
   .simp only[go_sem,seval,bV,k1,k2,k3,k4,yI,Bu,Ij,Ik];exact aC _ _
   rcases Classical.propComplete (q.k=19)with k5|k5
   .simp only[go_sem,seval,bV,k1,k2,k3,k4,k5,yI,Bu,Ij,Ik];exact aC _ _
   rcases Classical.propComplete (q.k=20)with k6|k6;all_goals simp only[go_sem,seval,bV,k1,k2,k3,k4,k5,k6,yI,Bu,Ij,Ik]
   all_goals exact aC _ _
  .intro b' t' u' v' q' rJ _ _ he;simp only[cL,AV.g.injEq,and_true]at he;obtain⟨e1,e2⟩:=he;obtain⟨rfl,_⟩:=IU hb rJ e1;obtain rfl:=NQ e2;rfl
 obtain⟨x,h1,h2⟩:=this;rw[h1,h2 b t u v q hb hu hv rfl]
structure NI(H H1:AH)(u v u' v':Sc)(t:Pt):Prop where
 ex:∃X,H1=H++X
 rp:jm H1 t u' v'
 bu:u'.aj H1.length=true
 bv:v'.aj H1.length=true
 nu:CS H u u'
 nv:CS H v v'
 nw:dX H H1
theorem QX{Q:AH}(h:dh 1 iU (H++(P++X)) x=some A)(hb:x.aj (H++(P++X)).length=true)(hn:∀i,aJ x=some i->i<H.length\/H.length+P.length<=i)(hl:P.length=Q.length):dh 1 iU (H++(Q++(X++Y))) x=some A:=by
 refine Nk h λi hi=>?_;have li:=rj h hb hi;simp only[cj]at li;rcases hn i hi with h1|h1
 .rw[nC h1,nC h1]
 .obtain⟨j,rfl⟩:∃j,i=H.length+(P.length+j):=⟨i-H.length-P.length,ω⟩;rw[gM,gM];conv=>lhs;rw[hl]
  rw[gM,gM,nC ω]
theorem PH(hx:dh 1 iU H x=some A)(hb:x.aj H.length=true)(h:IF (H++P) x x'):(∀i,aJ x'=some i->i<H.length\/H.length+P.length<=i)/\CS H x x':=by
 refine⟨λi hi=>?_,aq9 h (by simp)⟩;rcases h with rfl|rfl|⟨j,v,n,rfl,hj⟩
 .exact .inl (rj hx hb hi)
 .simp[aJ]at hi
 .simp only[aJ,ar]at hi;subst hi;right;simpa using hj
theorem Vp{A:AH}(h:dX A (A++X)):(X.all λo=>o.live=false||o.owned)=true:=by
 rw[cE];intro o ho;obtain⟨j,hj⟩:=List.mem_iff_getElem?.1 ho;have e:hg (A++X) (A.length+j)=o:=by rw[gM,hg,bX,hj];rfl
 have:=h (A.length+j);rw[e]at this;have e2:hg A (A.length+j)=.dead:=by rw[hg,bX,kf ω];rfl
 rw[e2]at this;cases hl:o.live
 .simp
 .cases hw:o.owned
  .have:=this hl hw;rw[<-this]at hl;simp[ae.live]at hl
  .simp
theorem Vn{o1 o2 o3 o4 o5:ae}(hX:(X.all λo=>o.live=false||o.owned)=true)(h5:([o1,o2,o3,o4,o5].all λo=>o.live=false||o.owned)=true)(hY:(Y.all λo=>o.live=false||o.owned)=true):dX H (H++(o1::o2::o3::o4::o5::(X++Y))):=by
 refine jb ?_;rw[show(o1::o2::o3::o4::o5::(X++Y))=[o1,o2,o3,o4,o5]++(X++Y)from rfl,fJ,fJ,h5,hX,hY];rfl
theorem BJ:CS H u u:=λ_ h=>.inl h
theorem ZS(n:Int)(a:BitVec 64)(s:Int):ik n a s=⟨0,0#64,0⟩\/ik n a s=⟨1,a-33554432#64,s⟩\/ik n a s=⟨2,a-201326592#64,s⟩\/ik n a s=⟨3,a-268435456#64,s⟩:=by
 unfold ik;repeat' split
 all_goals simp
def Wl(args:List AV)(H:AH)(x:AV)(H1:AH):Prop:=∀b t u v h q,mH b->jm H t u v->args=[.g (bj b t u v),.c (.i h),.g (bV q)]->∃u' v',x=.t [.g (bj (dE (⟨b,t⟩:Bx).d h q) (dP (⟨b,t⟩:Bx).d h q) u' v'),.g (bU (fD (⟨b,t⟩:Bx).d h q) false),.c (.b (eY b.n h q))]/\NI H H1 u v u' v' (dP (⟨b,t⟩:Bx).d h q)
theorem xM{b:Bs}{v u' v':Sc}{q:Aq}{x:AV}(hb:mH b)(ok:jm H t u v)(h1:x=.t [.g (bj (dE (⟨b,t⟩:Bx).d h q) (dP (⟨b,t⟩:Bx).d h q) u' v'),.g (bU (fD (⟨b,t⟩:Bx).d h q) false),.c (.b (eY b.n h q))])(h2:NI H H1 u v u' v' (dP (⟨b,t⟩:Bx).d h q)):Wl [.g (bj b t u v),.c (.i h),.g (bV q)] H x H1:=by
 intro b2 t2 u2 v2 h' q2 vd Vy he;simp only[cL,AV.g.injEq,AV.c.injEq,Sc.i.injEq,and_true]at he;obtain⟨e1,rfl,e2⟩:=he;obtain⟨rfl,e3⟩:=IU hb vd e1;obtain⟨rfl,rfl,rfl⟩:=Qh ok Vy e3;obtain rfl:=NQ e2;exact⟨u',v',h1,h2⟩
def Qy(args:List AV)(H:AH):Option (AV×AH):=(MW args H).map λv=>(v,H)
theorem at4:bh Tryz.prog 106 Qy:=at3
theorem yV(hk:j3 k)(s:Int)(on:Bool):Qy [.g (aO k),.c (.i s),.c (.b on)] H=some (.t [.g (aO (fY k s on)),.c (.b (qx k s))],H):=by
 unfold Qy;rw[ayY hk];rfl
def QA(args:List AV)(H:AH):Option (AV×AH):=(GV args H).map λv=>(v,H)
theorem at5:bh Tryz.prog 107 QA:=adx
theorem As(h:jm H t x y):QA [.g (aY t x y)] H=some (.c (.i (dI t)),H):=by
 unfold QA;rw[afB h];rfl
def sL:List AV->AH->Option (AV×AH):=sd Tryz.prog [(36,.fq JA),(78,.pu M6),(97,.fq MP),(98,.fq MT),(99,.fp Ax),(100,.fq MR),(101,.fq MU),(102,.fp Ay),(103,.fq Jz),(104,.fq MQ),(105,.fp Au),(106,.fp Qy),(107,.fp QA)] 42 Wl
theorem at7:bh Tryz.prog 42 sL:=yw (tq adw (tu adE (tq atW (tq at0 (tp aum (tq atY (tq at1 (tp aut (tq adv (tq atX (tp aue (tp at4 (tp at5 tn))))))))))))) Tryz.func42 rfl Tryz.results42 Tryz.ntmps42
theorem agf(d:BitVec 64):(d%256#64).toInt=mA d:=by
 unfold mA;have h:∀x:Int,IntKind.u8.wrap x=x%256:=λx=>by simp[IntKind.wrap,IntKind.bits,IntKind.signed]
 rw[h,x9,zp,show(256#64).toNat=256 from rfl,if_pos ω];omega
theorem G4(d:BitVec 64):fG (mA d):=by
 unfold mA;have h:∀x:Int,IntKind.u8.wrap x=x%256:=λx=>by simp[IntKind.wrap,IntKind.bits,IntKind.signed]
 rw[h];constructor<;>omega
end
section
variable {H:AH}
theorem ay3{b:Bs}{v:Sc}{q:Aq}(hb:mH b)(ok:jm H t u v)(bu:u.aj H.length=true)(bv:v.aj H.length=true)(la':t.A.length<1000000)(Py:t.B.length<1000000)(h:Int)(hq:nT q.r):∃u' v' H1,sL [.g (bj b t u v),.c (.i h),.g (bV q)] H=some (.t [.g (bj (dE (⟨b,t⟩:Bx).d h q) (dP (⟨b,t⟩:Bx).d h q) u' v'),.g (bU (fD (⟨b,t⟩:Bx).d h q) false),.c (.b (eY b.n h q))],H1)/\NI H H1 u v u' v' (dP (⟨b,t⟩:Bx).d h q):=by
 have:∃x H1,sL [.g (bj b t u v),.c (.i h),.g (bV q)] H=some (x,H1)/\H.length<=H1.length/\Wl [.g (bj b t u v),.c (.i h),.g (bV q)] H x H1:=by
  have hu:=j9 ok.hx;have hv:=j9 ok.hy;have lr:=hq.1;have ro:=hq.2.2;have rt:q.r.take 10=q.r:=bQ ω;have my:=λH=>afA (H:=H) hb t hu hv hq;have sg:=hb.gV t u v;have la:=sg.la;have lb:=sg.lb;have lc:=sg.lc;have l:=sg.l;have tt:=sg.t;have t18:=sg.t18;have d18:=sg.d18;have jd:=sg.jd;have jP:=sg.jP;have ju:=sg.ju;have jV:=sg.jV;have tc:=sg.tc;have dd:=sg.d;have oo:=me (c:=b.c) (k:=b.k) (t:=t) hu hv;have uD:kX.length=686:=by unfold kX;rw[cj,cT,cj,yS];rfl
  have um:cQ 686 kX=[]:=kN ω;have tY:∀Y,jm (H++Y) t u v:=λY=>C6 ok bu bv;have wh:=afE (n:=b.n) (a:=q.a) (s:=q.s);have Dn:(⟨b,t⟩:Bx).d.b=b:=rfl;have Dt:(⟨b,t⟩:Bx).d.t=t:=rfl;have B5:∀Y:AH,(Y.all λo=>o.live=false||o.owned)=true->NI H (H++Y) u v u v t:=λY hY=>⟨⟨_,rfl⟩,tY _,Sc.ic bu (by simp),Sc.ic bv (by simp),BJ,BJ,jb hY⟩;cases hm:kF b.n q
  .have eo:eY b.n h q=false:=by simp[eY,hm]
   have ev:fD (⟨b,t⟩:Bx).d h q=0#64:=by simp[fD,Dn,eo]
   have eb:dE (⟨b,t⟩:Bx).d h q=b:=by simp[dE,Dn,eo]
   have et:dP (⟨b,t⟩:Bx).d h q=t:=by simp[dP,Dn,Dt,eo]
   unfold sL;apply ie (v:=.t [.g (bj b t u v),.g (bU 0#64 false),.c (.b false)]) Tryz.func42 rfl Tryz.results42 Tryz.ntmps42 (by simp)
   .intro _ _;simp only[hm,bj,bV]at my;simp only[go_sem,seval,bV,bj,bU,lr,ro,rt,l,tt,oo,uD,um,my];exact aI
   .simp
   .exact xM (u':=u) (v':=v) hb ok (by rw[ev,eo,eb,et]) (by rw[et];exact B5 _ rfl)
  simp only[hm]at my;have kk:q.k=9\/q.k=10\/q.k=11\/q.k=18\/q.k=19\/q.k=20:=by
   unfold kF at hm;split at hm
   .omega
   .simp at hm;omega
  have nz:(q.k=9\/q.k=10)->¬(ik b.n q.a q.s).d=0:=λhk hz=>by
   unfold kF at hm;rw[if_pos hk,hz]at hm;simp at hm
  rcases kk with k|k|k|k|k|k
  .have nz:=nz (.inl k);have wd:=wh;rcases ZS b.n q.a q.s with hs|hs|hs|hs
   .rw[hs]at nz;exact absurd rfl nz
   .rw[hs]at wd;have rd:=λH=>ayT (H:=H) hb.cI (q.a-33554432#64) q.s;have eo:eY b.n h q=true:=by simp[eY,hm,k]
    have ev:fD (⟨b,t⟩:Bx).d h q=uX b.c (cb b.c.n (q.a-33554432#64) q.s) q.s:=by simp[fD,nh,Dn,Dt,eo,k,hs]
    have et:dP (⟨b,t⟩:Bx).d h q=t:=by simp[dP,jt,mC,mD,Dn,Dt,eo,k,hs]
    have eb:dE (⟨b,t⟩:Bx).d h q=⟨b.n,b.c,fY (b.k) 10 (!decide (dI (t)=1))⟩:=by simp[dE,kE,nU,jt,px,mC,pW,mD,Dn,Dt,eo,k,hs]
    have im:j3 (b.k):=hb.kI;have j7:hF (b.c):=hb.ok.c;have jz:=im.wP 10 (!decide (dI (t)=1));have wi:=λH=>yV (H:=H) im 10 (!decide (dI (t)=1));have ca:=λY=>As (tY Y);have gD:=hu;have gR:=hv;generalize nD:(!decide (dI t=1))=on at*;obtain⟨k2,iG⟩:∃k2,fY b.k 10 on=k2:=⟨_,rfl⟩;simp only[iG]at wi;rw[iG]at eb jz;have aW:=Go.Proofs.YtghlfboliomhcaaGreat.gV (gp j7) (jF im.ok) (nK t u v);have aN:=Go.Proofs.YtghlfboliomhcaaGreat.gV (gp j7) (jF jz.ok) (nK t u v);have qj:=aW.la;have qm:=aW.lb;have qo:=aW.lc;have l1:=aW.l;have qI:=aW.t;have nX:=aW.d;have t181:=aW.t18;have d181:=aW.d18;have qA:=aW.jd;have pY:=aW.jP;have p6:=aW.ju;have qC:=aW.jV;have qE:=aW.tc;have ql:=aN.la;have qn:=aN.lb;have qs:=aN.lc;have l2:=aN.l;have qJ:=aN.t;have p9:=aN.d;have t182:=aN.t18;have d182:=aN.d18;have qB:=aN.jd;have pZ:=aN.jP;have p8:=aN.ju;have qD:=aN.jV;have qG:=aN.tc;have oZ:=me (c:=b.c) (k:=b.k) (t:=t) gD gR;have o6:=me (c:=b.c) (k:=k2) (t:=t) gD gR;have lo:=λk=>ud k;have qt:=λc=>nW c;have qu:=yT t gD gR;have qH:bJ 657 (aO b.k)=aO b.k:=bQ ω;have o9:bJ 657 (aO k2)=aO k2:=bQ ω;have qF:bJ 18 (aR b.c)=aR b.c:=bQ ω;unfold sL;apply ie (v:=.t [.g (bj ⟨b.n,b.c,k2⟩ t u v),.g (bU (uX b.c (cb b.c.n (q.a-33554432#64) q.s) q.s) false),.c (.b true)]) Tryz.func42 rfl Tryz.results42 Tryz.ntmps42 (by simp)
    .intro _ _;simp only[bj,bV,k]at my;simp only[go_sem,seval,bV,bj,bU,k,lr,ro,rt,l,tt,oo,uD,um,my,la,lb,lc,t18,d18,jd,jP,ju,jV,tc,dd,ca,wi,nD,qj,qm,qo,l1,qI,nX,t181,d181,qA,pY,p6,qC,qE,ql,qn,qs,l2,qJ,p9,t182,d182,qB,pZ,p8,qD,qG,oZ,o6,lo,qt,qu,qH,o9,qF,wd,rd];(repeat' first|apply cf|exact ot (nI _) κ|(intro c;exact absurd c ω)|(intro _;kernel_rfl)|kernel_rfl);exact aI
    .simp
    .exact xM (u':=u) (v':=v) hb ok (by rw[ev,eo,eb,et]) (by rw[et];exact B5 _ rfl)
   .rw[hs]at wd;have rd:=λH=>ayW (H:=H) hb.kI (q.a-201326592#64) q.s;have eo:eY b.n h q=true:=by simp[eY,hm,k]
    have ev:fD (⟨b,t⟩:Bx).d h q=o7 b.k (bM b.k.n (q.a-201326592#64) q.s):=by simp[fD,nh,Dn,Dt,eo,k,hs]
    have et:dP (⟨b,t⟩:Bx).d h q=t:=by simp[dP,jt,mC,mD,Dn,Dt,eo,k,hs]
    have eb:dE (⟨b,t⟩:Bx).d h q=⟨b.n,b.c,fY (oB b.k (bM b.k.n (q.a-201326592#64) q.s)) 10 (!decide (dI (t)=1))⟩:=by simp[dE,kE,nU,jt,px,mC,pW,mD,Dn,Dt,eo,k,hs]
    have im:j3 (oB b.k (bM b.k.n (q.a-201326592#64) q.s)):=hb.kI.read _;have j7:hF (b.c):=hb.ok.c;have jz:=im.wP 10 (!decide (dI (t)=1));have wi:=λH=>yV (H:=H) im 10 (!decide (dI (t)=1));have ca:=λY=>As (tY Y);have gD:=hu;have gR:=hv;obtain⟨k1,wj⟩:∃k1,oB b.k (bM b.k.n (q.a-201326592#64) q.s)=k1:=⟨_,rfl⟩;rw[wj]at im jz eb;simp only[wj]at wi rd;generalize nD:(!decide (dI t=1))=on at*;obtain⟨k2,iG⟩:∃k2,fY k1 10 on=k2:=⟨_,rfl⟩;simp only[iG]at wi;rw[iG]at eb jz;have aW:=Go.Proofs.YtghlfboliomhcaaGreat.gV (gp j7) (jF im.ok) (nK t u v);have aN:=Go.Proofs.YtghlfboliomhcaaGreat.gV (gp j7) (jF jz.ok) (nK t u v);have qj:=aW.la;have qm:=aW.lb;have qo:=aW.lc;have l1:=aW.l;have qI:=aW.t;have nX:=aW.d;have t181:=aW.t18;have d181:=aW.d18;have qA:=aW.jd;have pY:=aW.jP;have p6:=aW.ju;have qC:=aW.jV;have qE:=aW.tc;have ql:=aN.la;have qn:=aN.lb;have qs:=aN.lc;have l2:=aN.l;have qJ:=aN.t;have p9:=aN.d;have t182:=aN.t18;have d182:=aN.d18;have qB:=aN.jd;have pZ:=aN.jP;have p8:=aN.ju;have qD:=aN.jV;have qG:=aN.tc;have oZ:=me (c:=b.c) (k:=k1) (t:=t) gD gR;have o6:=me (c:=b.c) (k:=k2) (t:=t) gD gR;have lo:=λk=>ud k;have qt:=λc=>nW c;have qu:=yT t gD gR;have qH:bJ 657 (aO k1)=aO k1:=bQ ω;have o9:bJ 657 (aO k2)=aO k2:=bQ ω;have qF:bJ 18 (aR b.c)=aR b.c:=bQ ω;unfold sL;apply ie (v:=.t [.g (bj ⟨b.n,b.c,k2⟩ t u v),.g (bU (o7 b.k (bM b.k.n (q.a-201326592#64) q.s)) false),.c (.b true)]) Tryz.func42 rfl Tryz.results42 Tryz.ntmps42 (by simp)
    .intro _ _;simp only[bj,bV,k]at my;simp only[go_sem,seval,bV,bj,bU,k,lr,ro,rt,l,tt,oo,uD,um,my,la,lb,lc,t18,d18,jd,jP,ju,jV,tc,dd,ca,wi,nD,qj,qm,qo,l1,qI,nX,t181,d181,qA,pY,p6,qC,qE,ql,qn,qs,l2,qJ,p9,t182,d182,qB,pZ,p8,qD,qG,oZ,o6,lo,qt,qu,qH,o9,qF,wd,rd];(repeat' first|apply cf|exact ot (nI _) κ|(intro c;exact absurd c ω)|(intro _;kernel_rfl)|kernel_rfl);exact aI
    .simp
    .exact xM (u':=u) (v':=v) hb ok (by rw[ev,eo,eb,et]) (by rw[et];exact B5 _ rfl)
   .rw[hs]at wd;have LZ:=tY ([.own (bj b t u v),.own (bV q),.own (.i 0::kX),.own (.u 0#64::.b false::dC),.own (.u 0#64::.b false::dC)]:AH);have Kq:u.aj (H++([.own (bj b t u v),.own (bV q),.own (.i 0::kX),.own (.u 0#64::.b false::dC),.own (.u 0#64::.b false::dC)]:AH)).length=true:=Sc.ic bu (by simp);have N3:v.aj (H++([.own (bj b t u v),.own (bV q),.own (.i 0::kX),.own (.u 0#64::.b false::dC),.own (.u 0#64::.b false::dC)]:AH)).length=true:=Sc.ic bv (by simp);obtain⟨u',X,ex,n1,s1,hB,B1⟩:=awW LZ Kq (q.a-268435456#64);have XO:=Vp (aru ex);obtain⟨m1,N1⟩:=PH ok.hx bu n1;have dl:xr t ((fM t (q.a-268435456#64)).1):=HK (t:=t) (kd:=0) (off:=q.a-268435456#64) (b:=0) ⟨δ,δ⟩;have LU:=aqV (off:=q.a-268435456#64) ok.nb;have R:∀o1 o2 o3 o4 o5 Y,jm (H++(o1::o2::o3::o4::o5::(X++Y))) ((fM t (q.a-268435456#64)).1) u' v:=λo1 o2 o3 o4 o5 Y=>WJ LU (QX (P:=([.own (bj b t u v),.own (bV q),.own (.i 0::kX),.own (.u 0#64::.b false::dC),.own (.u 0#64::.b false::dC)]:AH)) (Q:=[o1,o2,o3,o4,o5]) (X:=X) (Y:=Y) (by rw[<-fv];exact s1) (by rw[<-fv];exact B1) m1 rfl) (by rw[hB];exact wO ok.hy bv) (by have:=dl.1;omega) (by have:=dl.2.1;omega);have B2:=bv;have N2:CS H v v:=BJ;simp only[fv,lf,jW,bj,bV,k]at ex;have lX:(H++([.own (bj b t u v),.own (bV q),.own (.i 0::kX),.own (.u 0#64::.b false::dC),.own (.u 0#64::.b false::dC)]:AH)++X).length=H.length+5+X.length:=by simp;omega
    rw[lX]at B1;have eo:eY b.n h q=true:=by simp[eY,hm,k]
    have ev:fD (⟨b,t⟩:Bx).d h q=aw 64 (fM t (q.a-268435456#64)).2.1:=by simp[fD,nh,Dn,Dt,eo,k,hs]
    have et:dP (⟨b,t⟩:Bx).d h q=(fM t (q.a-268435456#64)).1:=by simp[dP,jt,mC,mD,Dn,Dt,eo,k,hs]
    have eb:dE (⟨b,t⟩:Bx).d h q=⟨b.n,b.c,fY (b.k) 10 (!decide (dI ((fM t (q.a-268435456#64)).1)=1))⟩:=by simp[dE,kE,nU,jt,px,mC,pW,mD,Dn,Dt,eo,k,hs]
    have im:j3 (b.k):=hb.kI;have j7:hF (b.c):=hb.ok.c;have jz:=im.wP 10 (!decide (dI ((fM t (q.a-268435456#64)).1)=1));have wi:=λH=>yV (H:=H) im 10 (!decide (dI ((fM t (q.a-268435456#64)).1)=1));have ca:=λo1 o2 o3 o4 o5 Y=>As (R o1 o2 o3 o4 o5 Y);have gD:=j9 (R .dead .dead .dead .dead .dead []).hx;have gR:=j9 (R .dead .dead .dead .dead .dead []).hy;obtain⟨t1,DW⟩:∃t1,(fM t (q.a-268435456#64)).1=t1:=⟨_,rfl⟩;rw[DW]at et eb jz;simp only[DW]at wi ca ex R;generalize nD:(!decide (dI t1=1))=on at*;obtain⟨k2,iG⟩:∃k2,fY b.k 10 on=k2:=⟨_,rfl⟩;simp only[iG]at wi;rw[iG]at eb jz;have aW:=Go.Proofs.YtghlfboliomhcaaGreat.gV (gp j7) (jF im.ok) (nK t1 u' v);have aN:=Go.Proofs.YtghlfboliomhcaaGreat.gV (gp j7) (jF jz.ok) (nK t1 u' v);have qj:=aW.la;have qm:=aW.lb;have qo:=aW.lc;have l1:=aW.l;have qI:=aW.t;have nX:=aW.d;have t181:=aW.t18;have d181:=aW.d18;have qA:=aW.jd;have pY:=aW.jP;have p6:=aW.ju;have qC:=aW.jV;have qE:=aW.tc;have ql:=aN.la;have qn:=aN.lb;have qs:=aN.lc;have l2:=aN.l;have qJ:=aN.t;have p9:=aN.d;have t182:=aN.t18;have d182:=aN.d18;have qB:=aN.jd;have pZ:=aN.jP;have p8:=aN.ju;have qD:=aN.jV;have qG:=aN.tc;have oZ:=me (c:=b.c) (k:=b.k) (t:=t1) gD gR;have o6:=me (c:=b.c) (k:=k2) (t:=t1) gD gR;have lo:=λk=>ud k;have qt:=λc=>nW c;have qu:=yT t1 gD gR;have qH:bJ 657 (aO b.k)=aO b.k:=bQ ω;have o9:bJ 657 (aO k2)=aO k2:=bQ ω;have qF:bJ 18 (aR b.c)=aR b.c:=bQ ω;unfold sL;apply ie (v:=.t [.g (bj ⟨b.n,b.c,k2⟩ t1 u' v),.g (bU (aw 64 (fM t (q.a-268435456#64)).2.1) false),.c (.b true)]) Tryz.func42 rfl Tryz.results42 Tryz.ntmps42 (by simp)
    .intro _ _;simp only[bj,bV,k]at my;simp only[go_sem,seval,bV,bj,bU,k,lr,ro,rt,l,tt,oo,uD,um,my,la,lb,lc,t18,d18,jd,jP,ju,jV,tc,dd,ca,wi,nD,qj,qm,qo,l1,qI,nX,t181,d181,qA,pY,p6,qC,qE,ql,qn,qs,l2,qJ,p9,t182,d182,qB,pZ,p8,qD,qG,oZ,o6,lo,qt,qu,qH,o9,qF,wd,ex];(repeat' first|apply cf|exact ot (nI _) κ|(intro c;exact absurd c ω)|(intro _;kernel_rfl)|kernel_rfl);exact aI
    .simp
    .exact xM (u':=u') (v':=v) hb ok (by rw[ev,eo,eb,et]) (by rw[et];exact⟨⟨_,rfl⟩,R _ _ _ _ _ _,Sc.ic B1 (by first|(simp;done)|(simp;omega)),Sc.ic B2 (by first|(simp;done)|(simp;omega)),N1,N2,Vn XO rfl rfl⟩)
  .have nz:=nz (.inr k);have wd:=wh;rcases ZS b.n q.a q.s with hs|hs|hs|hs
   .rw[hs]at nz;exact absurd rfl nz
   .rw[hs]at wd;have rd:=λH=>ayV (H:=H) hb.cI (q.a-33554432#64) q.s q.d;have eo:eY b.n h q=true:=by simp[eY,hm,k]
    have ev:fD (⟨b,t⟩:Bx).d h q=0#64:=by simp[fD,nh,Dn,Dt,eo,k,hs]
    have et:dP (⟨b,t⟩:Bx).d h q=t:=by simp[dP,jt,mC,mD,Dn,Dt,eo,k,hs]
    have eb:dE (⟨b,t⟩:Bx).d h q=⟨b.n,kG b.c (cb b.c.n (q.a-33554432#64) q.s) q.s q.d,fY (b.k) 10 (!decide (dI (t)=1))⟩:=by simp[dE,kE,nU,jt,px,mC,pW,mD,Dn,Dt,eo,k,hs]
    have im:j3 (b.k):=hb.kI;have j7:hF (kG b.c (cb b.c.n (q.a-33554432#64) q.s) q.s q.d):=SM hb.ok.c _ _ _;have jz:=im.wP 10 (!decide (dI (t)=1));have wi:=λH=>yV (H:=H) im 10 (!decide (dI (t)=1));have ca:=λY=>As (tY Y);have gD:=hu;have gR:=hv;obtain⟨c1,sA⟩:∃c1,kG b.c (cb b.c.n (q.a-33554432#64) q.s) q.s q.d=c1:=⟨_,rfl⟩;rw[sA]at j7 eb;simp only[sA]at rd;generalize nD:(!decide (dI t=1))=on at*;obtain⟨k2,iG⟩:∃k2,fY b.k 10 on=k2:=⟨_,rfl⟩;simp only[iG]at wi;rw[iG]at eb jz;have aW:=Go.Proofs.YtghlfboliomhcaaGreat.gV (gp j7) (jF im.ok) (nK t u v);have aN:=Go.Proofs.YtghlfboliomhcaaGreat.gV (gp j7) (jF jz.ok) (nK t u v);have qj:=aW.la;have qm:=aW.lb;have qo:=aW.lc;have l1:=aW.l;have qI:=aW.t;have nX:=aW.d;have t181:=aW.t18;have d181:=aW.d18;have qA:=aW.jd;have pY:=aW.jP;have p6:=aW.ju;have qC:=aW.jV;have qE:=aW.tc;have ql:=aN.la;have qn:=aN.lb;have qs:=aN.lc;have l2:=aN.l;have qJ:=aN.t;have p9:=aN.d;have t182:=aN.t18;have d182:=aN.d18;have qB:=aN.jd;have pZ:=aN.jP;have p8:=aN.ju;have qD:=aN.jV;have qG:=aN.tc;have oZ:=me (c:=c1) (k:=b.k) (t:=t) gD gR;have o6:=me (c:=c1) (k:=k2) (t:=t) gD gR;have lo:=λk=>ud k;have qt:=λc=>nW c;have qu:=yT t gD gR;have qH:bJ 657 (aO b.k)=aO b.k:=bQ ω;have o9:bJ 657 (aO k2)=aO k2:=bQ ω;have qF:bJ 18 (aR c1)=aR c1:=bQ ω;unfold sL;apply ie (v:=.t [.g (bj ⟨b.n,c1,k2⟩ t u v),.g (bU (0#64) false),.c (.b true)]) Tryz.func42 rfl Tryz.results42 Tryz.ntmps42 (by simp)
    .intro _ _;simp only[bj,bV,k]at my;simp only[go_sem,seval,bV,bj,bU,k,lr,ro,rt,l,tt,oo,uD,um,my,la,lb,lc,t18,d18,jd,jP,ju,jV,tc,dd,ca,wi,nD,qj,qm,qo,l1,qI,nX,t181,d181,qA,pY,p6,qC,qE,ql,qn,qs,l2,qJ,p9,t182,d182,qB,pZ,p8,qD,qG,oZ,o6,lo,qt,qu,qH,o9,qF,wd,rd];(repeat' first|apply cf|exact ot (nI _) κ|(intro c;exact absurd c ω)|(intro _;kernel_rfl)|kernel_rfl);exact aI
    .simp
    .exact xM (u':=u) (v':=v) hb ok (by rw[ev,eo,eb,et]) (by rw[et];exact B5 _ rfl)
   .rw[hs]at wd;have rd:=λH=>ayX (H:=H) hb.kI (q.a-201326592#64) q.s q.d;have eo:eY b.n h q=true:=by simp[eY,hm,k]
    have ev:fD (⟨b,t⟩:Bx).d h q=0#64:=by simp[fD,nh,Dn,Dt,eo,k,hs]
    have et:dP (⟨b,t⟩:Bx).d h q=t:=by simp[dP,jt,mC,mD,Dn,Dt,eo,k,hs]
    have eb:dE (⟨b,t⟩:Bx).d h q=⟨b.n,b.c,fY (ji b.k (bM b.k.n (q.a-201326592#64) q.s) q.d) 10 (!decide (dI (t)=1))⟩:=by simp[dE,kE,nU,jt,px,mC,pW,mD,Dn,Dt,eo,k,hs]
    have im:j3 (ji b.k (bM b.k.n (q.a-201326592#64) q.s) q.d):=hb.kI.write _ _;have j7:hF (b.c):=hb.ok.c;have jz:=im.wP 10 (!decide (dI (t)=1));have wi:=λH=>yV (H:=H) im 10 (!decide (dI (t)=1));have ca:=λY=>As (tY Y);have gD:=hu;have gR:=hv;obtain⟨k1,wj⟩:∃k1,ji b.k (bM b.k.n (q.a-201326592#64) q.s) q.d=k1:=⟨_,rfl⟩;rw[wj]at im jz eb;simp only[wj]at wi rd;generalize nD:(!decide (dI t=1))=on at*;obtain⟨k2,iG⟩:∃k2,fY k1 10 on=k2:=⟨_,rfl⟩;simp only[iG]at wi;rw[iG]at eb jz;have aW:=Go.Proofs.YtghlfboliomhcaaGreat.gV (gp j7) (jF im.ok) (nK t u v);have aN:=Go.Proofs.YtghlfboliomhcaaGreat.gV (gp j7) (jF jz.ok) (nK t u v);have qj:=aW.la;have qm:=aW.lb;have qo:=aW.lc;have l1:=aW.l;have qI:=aW.t;have nX:=aW.d;have t181:=aW.t18;have d181:=aW.d18;have qA:=aW.jd;have pY:=aW.jP;have p6:=aW.ju;have qC:=aW.jV;have qE:=aW.tc;have ql:=aN.la;have qn:=aN.lb;have qs:=aN.lc;have l2:=aN.l;have qJ:=aN.t;have p9:=aN.d;have t182:=aN.t18;have d182:=aN.d18;have qB:=aN.jd;have pZ:=aN.jP;have p8:=aN.ju;have qD:=aN.jV;have qG:=aN.tc;have oZ:=me (c:=b.c) (k:=k1) (t:=t) gD gR;have o6:=me (c:=b.c) (k:=k2) (t:=t) gD gR;have lo:=λk=>ud k;have qt:=λc=>nW c;have qu:=yT t gD gR;have qH:bJ 657 (aO k1)=aO k1:=bQ ω;have o9:bJ 657 (aO k2)=aO k2:=bQ ω;have qF:bJ 18 (aR b.c)=aR b.c:=bQ ω;unfold sL;apply ie (v:=.t [.g (bj ⟨b.n,b.c,k2⟩ t u v),.g (bU (0#64) false),.c (.b true)]) Tryz.func42 rfl Tryz.results42 Tryz.ntmps42 (by simp)
    .intro _ _;simp only[bj,bV,k]at my;simp only[go_sem,seval,bV,bj,bU,k,lr,ro,rt,l,tt,oo,uD,um,my,la,lb,lc,t18,d18,jd,jP,ju,jV,tc,dd,ca,wi,nD,qj,qm,qo,l1,qI,nX,t181,d181,qA,pY,p6,qC,qE,ql,qn,qs,l2,qJ,p9,t182,d182,qB,pZ,p8,qD,qG,oZ,o6,lo,qt,qu,qH,o9,qF,wd,rd];(repeat' first|apply cf|exact ot (nI _) κ|(intro c;exact absurd c ω)|(intro _;kernel_rfl)|kernel_rfl);exact aI
    .simp
    .exact xM (u':=u) (v':=v) hb ok (by rw[ev,eo,eb,et]) (by rw[et];exact B5 _ rfl)
   .rw[hs]at wd;have LZ:=tY ([.own (bj b t u v),.own (bV q),.own (.i 0::kX),.own (.u 0#64::.b false::dC),.own (.u 0#64::.b false::dC)]:AH);have Kq:u.aj (H++([.own (bj b t u v),.own (bV q),.own (.i 0::kX),.own (.u 0#64::.b false::dC),.own (.u 0#64::.b false::dC)]:AH)).length=true:=Sc.ic bu (by simp);have N3:v.aj (H++([.own (bj b t u v),.own (bV q),.own (.i 0::kX),.own (.u 0#64::.b false::dC),.own (.u 0#64::.b false::dC)]:AH)).length=true:=Sc.ic bv (by simp);obtain⟨u',v',X,ex,n1,n2,s1,s2,B1,B2⟩:=aw3 LZ Kq N3 (q.a-268435456#64) (G4 q.d);have XO:=Vp (arv ex);obtain⟨m1,N1⟩:=PH ok.hx bu n1;obtain⟨m2,N2⟩:=PH ok.hy bv n2;have dl:xr t ((ga t (q.a-268435456#64) (mA q.d)).1):=HK (t:=t) (kd:=1) (off:=q.a-268435456#64) (G4 q.d);have LU:=aqW (off:=q.a-268435456#64) ok.nb (G4 q.d);have R:∀o1 o2 o3 o4 o5 Y,jm (H++(o1::o2::o3::o4::o5::(X++Y))) ((ga t (q.a-268435456#64) (mA q.d)).1) u' v':=λo1 o2 o3 o4 o5 Y=>WJ LU (QX (P:=([.own (bj b t u v),.own (bV q),.own (.i 0::kX),.own (.u 0#64::.b false::dC),.own (.u 0#64::.b false::dC)]:AH)) (Q:=[o1,o2,o3,o4,o5]) (X:=X) (Y:=Y) (by rw[<-fv];exact s1) (by rw[<-fv];exact B1) m1 rfl) (QX (P:=([.own (bj b t u v),.own (bV q),.own (.i 0::kX),.own (.u 0#64::.b false::dC),.own (.u 0#64::.b false::dC)]:AH)) (Q:=[o1,o2,o3,o4,o5]) (X:=X) (Y:=Y) (by rw[<-fv];exact s2) (by rw[<-fv];exact B2) m2 rfl) (by have:=dl.1;omega) (by have:=dl.2.1;omega);simp only[fv,lf,jW,bj,bV,k]at ex;have lX:(H++([.own (bj b t u v),.own (bV q),.own (.i 0::kX),.own (.u 0#64::.b false::dC),.own (.u 0#64::.b false::dC)]:AH)++X).length=H.length+5+X.length:=by simp;omega
    rw[lX]at B1;rw[lX]at B2;have tm:=agf q.d;have eo:eY b.n h q=true:=by simp[eY,hm,k]
    have ev:fD (⟨b,t⟩:Bx).d h q=0#64:=by simp[fD,nh,Dn,Dt,eo,k,hs]
    have et:dP (⟨b,t⟩:Bx).d h q=(ga t (q.a-268435456#64) (mA q.d)).1:=by simp[dP,jt,mC,mD,Dn,Dt,eo,k,hs]
    have eb:dE (⟨b,t⟩:Bx).d h q=⟨b.n,b.c,fY (b.k) 10 (!decide (dI ((ga t (q.a-268435456#64) (mA q.d)).1)=1))⟩:=by simp[dE,kE,nU,jt,px,mC,pW,mD,Dn,Dt,eo,k,hs]
    have im:j3 (b.k):=hb.kI;have j7:hF (b.c):=hb.ok.c;have jz:=im.wP 10 (!decide (dI ((ga t (q.a-268435456#64) (mA q.d)).1)=1));have wi:=λH=>yV (H:=H) im 10 (!decide (dI ((ga t (q.a-268435456#64) (mA q.d)).1)=1));have ca:=λo1 o2 o3 o4 o5 Y=>As (R o1 o2 o3 o4 o5 Y);have gD:=j9 (R .dead .dead .dead .dead .dead []).hx;have gR:=j9 (R .dead .dead .dead .dead .dead []).hy;obtain⟨t1,DW⟩:∃t1,(ga t (q.a-268435456#64) (mA q.d)).1=t1:=⟨_,rfl⟩;rw[DW]at et eb jz;simp only[DW]at wi ca ex R;generalize nD:(!decide (dI t1=1))=on at*;obtain⟨k2,iG⟩:∃k2,fY b.k 10 on=k2:=⟨_,rfl⟩;simp only[iG]at wi;rw[iG]at eb jz;have aW:=Go.Proofs.YtghlfboliomhcaaGreat.gV (gp j7) (jF im.ok) (nK t1 u' v');have aN:=Go.Proofs.YtghlfboliomhcaaGreat.gV (gp j7) (jF jz.ok) (nK t1 u' v');have qj:=aW.la;have qm:=aW.lb;have qo:=aW.lc;have l1:=aW.l;have qI:=aW.t;have nX:=aW.d;have t181:=aW.t18;have d181:=aW.d18;have qA:=aW.jd;have pY:=aW.jP;have p6:=aW.ju;have qC:=aW.jV;have qE:=aW.tc;have ql:=aN.la;have qn:=aN.lb;have qs:=aN.lc;have l2:=aN.l;have qJ:=aN.t;have p9:=aN.d;have t182:=aN.t18;have d182:=aN.d18;have qB:=aN.jd;have pZ:=aN.jP;have p8:=aN.ju;have qD:=aN.jV;have qG:=aN.tc;have oZ:=me (c:=b.c) (k:=b.k) (t:=t1) gD gR;have o6:=me (c:=b.c) (k:=k2) (t:=t1) gD gR;have lo:=λk=>ud k;have qt:=λc=>nW c;have qu:=yT t1 gD gR;have qH:bJ 657 (aO b.k)=aO b.k:=bQ ω;have o9:bJ 657 (aO k2)=aO k2:=bQ ω;have qF:bJ 18 (aR b.c)=aR b.c:=bQ ω;unfold sL;apply ie (v:=.t [.g (bj ⟨b.n,b.c,k2⟩ t1 u' v'),.g (bU (0#64) false),.c (.b true)]) Tryz.func42 rfl Tryz.results42 Tryz.ntmps42 (by simp)
    .intro _ _;simp only[bj,bV,k]at my;simp only[go_sem,seval,bV,bj,bU,k,lr,ro,rt,l,tt,oo,uD,um,my,la,lb,lc,t18,d18,jd,jP,ju,jV,tc,dd,ca,wi,nD,qj,qm,qo,l1,qI,nX,t181,d181,qA,pY,p6,qC,qE,ql,qn,qs,l2,qJ,p9,t182,d182,qB,pZ,p8,qD,qG,oZ,o6,lo,qt,qu,qH,o9,qF,wd,ex,tm];(repeat' first|apply cf|exact ot (nI _) κ|(intro c;exact absurd c ω)|(intro _;kernel_rfl)|kernel_rfl);exact aI
    .simp
    .exact xM (u':=u') (v':=v') hb ok (by rw[ev,eo,eb,et]) (by rw[et];exact⟨⟨_,rfl⟩,R _ _ _ _ _ _,Sc.ic B1 (by first|(simp;done)|(simp;omega)),Sc.ic B2 (by first|(simp;done)|(simp;omega)),N1,N2,Vn XO rfl rfl⟩)
  .by_cases h0:h<0\/b.n<=h
   .have eo:eY b.n h q=false:=by simp[eY,hm,k];omega
    have ev:fD (⟨b,t⟩:Bx).d h q=0#64:=by simp[fD,Dn,eo]
    have eb:dE (⟨b,t⟩:Bx).d h q=b:=by simp[dE,Dn,eo]
    have et:dP (⟨b,t⟩:Bx).d h q=t:=by simp[dP,Dn,Dt,eo]
    unfold sL;apply ie (v:=.t [.g (bj b t u v),.g (bU 0#64 false),.c (.b false)]) Tryz.func42 rfl Tryz.results42 Tryz.ntmps42 (by simp)
    .intro _ _;simp only[bj,bV,k]at my;by_cases h1:h<0
     .simp only[go_sem,seval,bV,bj,bU,k,lr,ro,rt,l,tt,oo,uD,um,my,h1];exact aI
     .have h2:b.n<=h:=ω
      simp only[go_sem,seval,bV,bj,bU,k,lr,ro,rt,l,tt,oo,uD,um,my,h1,h2];exact aI
    .simp
    .exact xM (u':=u) (v':=v) hb ok (by rw[ev,eo,eb,et]) (by rw[et];exact B5 _ rfl)
   .have h1:¬h<0:=ω
    have h2:¬b.n<=h:=ω
    have rl:=λH=>afz (H:=H) hb t hu hv h;have eo:eY b.n h q=true:=by simp[eY,hm,k,h1,h2]
    have ev:fD (⟨b,t⟩:Bx).d h q=pV b h:=by simp[fD,nh,Dn,Dt,eo,k]
    have et:dP (⟨b,t⟩:Bx).d h q=t:=by simp[dP,jt,mC,mD,Dn,Dt,eo,k]
    have eb:dE (⟨b,t⟩:Bx).d h q=⟨b.n,b.c,fY (b.k) 10 (!decide (dI (t)=1))⟩:=by simp[dE,kE,nU,jt,px,mC,pW,mD,Dn,Dt,eo,k]
    have im:j3 (b.k):=hb.kI;have j7:hF (b.c):=hb.ok.c;have jz:=im.wP 10 (!decide (dI (t)=1));have wi:=λH=>yV (H:=H) im 10 (!decide (dI (t)=1));have ca:=λY=>As (tY Y);have gD:=hu;have gR:=hv;unfold bj at rl;generalize nD:(!decide (dI t=1))=on at*;obtain⟨k2,iG⟩:∃k2,fY b.k 10 on=k2:=⟨_,rfl⟩;simp only[iG]at wi;rw[iG]at eb jz;have aW:=Go.Proofs.YtghlfboliomhcaaGreat.gV (gp j7) (jF im.ok) (nK t u v);have aN:=Go.Proofs.YtghlfboliomhcaaGreat.gV (gp j7) (jF jz.ok) (nK t u v);have qj:=aW.la;have qm:=aW.lb;have qo:=aW.lc;have l1:=aW.l;have qI:=aW.t;have nX:=aW.d;have t181:=aW.t18;have d181:=aW.d18;have qA:=aW.jd;have pY:=aW.jP;have p6:=aW.ju;have qC:=aW.jV;have qE:=aW.tc;have ql:=aN.la;have qn:=aN.lb;have qs:=aN.lc;have l2:=aN.l;have qJ:=aN.t;have p9:=aN.d;have t182:=aN.t18;have d182:=aN.d18;have qB:=aN.jd;have pZ:=aN.jP;have p8:=aN.ju;have qD:=aN.jV;have qG:=aN.tc;have oZ:=me (c:=b.c) (k:=b.k) (t:=t) gD gR;have o6:=me (c:=b.c) (k:=k2) (t:=t) gD gR;have lo:=λk=>ud k;have qt:=λc=>nW c;have qu:=yT t gD gR;have qH:bJ 657 (aO b.k)=aO b.k:=bQ ω;have o9:bJ 657 (aO k2)=aO k2:=bQ ω;have qF:bJ 18 (aR b.c)=aR b.c:=bQ ω;unfold sL;apply ie (v:=.t [.g (bj ⟨b.n,b.c,k2⟩ t u v),.g (bU (pV b h) false),.c (.b true)]) Tryz.func42 rfl Tryz.results42 Tryz.ntmps42 (by simp)
    .intro _ _;simp only[bj,bV,k]at my;simp only[go_sem,seval,bV,bj,bU,k,lr,ro,rt,l,tt,oo,uD,um,my,la,lb,lc,t18,d18,jd,jP,ju,jV,tc,dd,ca,wi,nD,qj,qm,qo,l1,qI,nX,t181,d181,qA,pY,p6,qC,qE,ql,qn,qs,l2,qJ,p9,t182,d182,qB,pZ,p8,qD,qG,oZ,o6,lo,qt,qu,qH,o9,qF,h1,h2,rl];(repeat' first|apply cf|exact ot (nI _) κ|(intro c;exact absurd c ω)|(intro _;kernel_rfl)|kernel_rfl);exact aI
    .simp
    .exact xM (u':=u) (v':=v) hb ok (by rw[ev,eo,eb,et]) (by rw[et];exact B5 _ rfl)
  .skip;have rd:=λH=>ayU (H:=H) hb.cI q.d.toInt;have eo:eY b.n h q=true:=by simp[eY,hm,k]
   have ev:fD (⟨b,t⟩:Bx).d h q=0#64:=by simp[fD,nh,Dn,Dt,eo,k]
   have et:dP (⟨b,t⟩:Bx).d h q=t:=by simp[dP,jt,mC,mD,Dn,Dt,eo,k]
   have eb:dE (⟨b,t⟩:Bx).d h q=⟨b.n,oG b.c q.d.toInt,fY (b.k) 10 (!decide (dI (t)=1))⟩:=by simp[dE,kE,nU,jt,px,mC,pW,mD,Dn,Dt,eo,k]
   have im:j3 (b.k):=hb.kI;have j7:hF (oG b.c q.d.toInt):=N6 hb.ok.c _;have jz:=im.wP 10 (!decide (dI (t)=1));have wi:=λH=>yV (H:=H) im 10 (!decide (dI (t)=1));have ca:=λY=>As (tY Y);have gD:=hu;have gR:=hv;obtain⟨c1,sA⟩:∃c1,oG b.c q.d.toInt=c1:=⟨_,rfl⟩;rw[sA]at j7 eb;simp only[sA]at rd;generalize nD:(!decide (dI t=1))=on at*;obtain⟨k2,iG⟩:∃k2,fY b.k 10 on=k2:=⟨_,rfl⟩;simp only[iG]at wi;rw[iG]at eb jz;have aW:=Go.Proofs.YtghlfboliomhcaaGreat.gV (gp j7) (jF im.ok) (nK t u v);have aN:=Go.Proofs.YtghlfboliomhcaaGreat.gV (gp j7) (jF jz.ok) (nK t u v);have qj:=aW.la;have qm:=aW.lb;have qo:=aW.lc;have l1:=aW.l;have qI:=aW.t;have nX:=aW.d;have t181:=aW.t18;have d181:=aW.d18;have qA:=aW.jd;have pY:=aW.jP;have p6:=aW.ju;have qC:=aW.jV;have qE:=aW.tc;have ql:=aN.la;have qn:=aN.lb;have qs:=aN.lc;have l2:=aN.l;have qJ:=aN.t;have p9:=aN.d;have t182:=aN.t18;have d182:=aN.d18;have qB:=aN.jd;have pZ:=aN.jP;have p8:=aN.ju;have qD:=aN.jV;have qG:=aN.tc;have oZ:=me (c:=c1) (k:=b.k) (t:=t) gD gR;have o6:=me (c:=c1) (k:=k2) (t:=t) gD gR;have lo:=λk=>ud k;have qt:=λc=>nW c;have qu:=yT t gD gR;have qH:bJ 657 (aO b.k)=aO b.k:=bQ ω;have o9:bJ 657 (aO k2)=aO k2:=bQ ω;have qF:bJ 18 (aR c1)=aR c1:=bQ ω;unfold sL;apply ie (v:=.t [.g (bj ⟨b.n,c1,k2⟩ t u v),.g (bU (0#64) false),.c (.b true)]) Tryz.func42 rfl Tryz.results42 Tryz.ntmps42 (by simp)
   .intro _ _;simp only[bj,bV,k]at my;simp only[go_sem,seval,bV,bj,bU,k,lr,ro,rt,l,tt,oo,uD,um,my,la,lb,lc,t18,d18,jd,jP,ju,jV,tc,dd,ca,wi,nD,qj,qm,qo,l1,qI,nX,t181,d181,qA,pY,p6,qC,qE,ql,qn,qs,l2,qJ,p9,t182,d182,qB,pZ,p8,qD,qG,oZ,o6,lo,qt,qu,qH,o9,qF,rd];(repeat' first|apply cf|exact ot (nI _) κ|(intro c;exact absurd c ω)|(intro _;kernel_rfl)|kernel_rfl);exact aI
   .simp
   .exact xM (u':=u) (v':=v) hb ok (by rw[ev,eo,eb,et]) (by rw[et];exact B5 _ rfl)
  .skip;have LZ:=tY ([.own (bj b t u v),.own (bV q),.own (.i 0::kX),.own (.u 0#64::.b false::dC),.own (.u 0#64::.b false::dC)]:AH);have Kq:u.aj (H++([.own (bj b t u v),.own (bV q),.own (.i 0::kX),.own (.u 0#64::.b false::dC),.own (.u 0#64::.b false::dC)]:AH)).length=true:=Sc.ic bu (by simp);have N3:v.aj (H++([.own (bj b t u v),.own (bV q),.own (.i 0::kX),.own (.u 0#64::.b false::dC),.own (.u 0#64::.b false::dC)]:AH)).length=true:=Sc.ic bv (by simp);obtain⟨u',X,ex,n1,s1,hB,B1⟩:=awI LZ Kq N3 (G4 q.d);have XO:=Vp (art ex);obtain⟨m1,N1⟩:=PH ok.hx bu n1;have dl:xr t ((pK t (mA q.d)).1):=HK (t:=t) (kd:=2) (off:=0#64) (G4 q.d);have LU:=aqU (b:=mA q.d) ok.nb;have R:∀o1 o2 o3 o4 o5 Y,jm (H++(o1::o2::o3::o4::o5::(X++Y))) ((pK t (mA q.d)).1) u' v:=λo1 o2 o3 o4 o5 Y=>WJ LU (QX (P:=([.own (bj b t u v),.own (bV q),.own (.i 0::kX),.own (.u 0#64::.b false::dC),.own (.u 0#64::.b false::dC)]:AH)) (Q:=[o1,o2,o3,o4,o5]) (X:=X) (Y:=Y) (by rw[<-fv];exact s1) (by rw[<-fv];exact B1) m1 rfl) (by rw[hB];exact wO ok.hy bv) (by have:=dl.1;omega) (by have:=dl.2.1;omega);have B2:=bv;have N2:CS H v v:=BJ;simp only[fv,lf,jW,bj,bV,k]at ex;have lX:(H++([.own (bj b t u v),.own (bV q),.own (.i 0::kX),.own (.u 0#64::.b false::dC),.own (.u 0#64::.b false::dC)]:AH)++X).length=H.length+5+X.length:=by simp;omega
   rw[lX]at B1;have tm:=agf q.d;have eo:eY b.n h q=true:=by simp[eY,hm,k]
   have ev:fD (⟨b,t⟩:Bx).d h q=0#64:=by simp[fD,nh,Dn,Dt,eo,k]
   have et:dP (⟨b,t⟩:Bx).d h q=(pK t (mA q.d)).1:=by simp[dP,jt,mC,mD,Dn,Dt,eo,k]
   have eb:dE (⟨b,t⟩:Bx).d h q=⟨b.n,b.c,fY (b.k) 10 (!decide (dI ((pK t (mA q.d)).1)=1))⟩:=by simp[dE,kE,nU,jt,px,mC,pW,mD,Dn,Dt,eo,k]
   have im:j3 (b.k):=hb.kI;have j7:hF (b.c):=hb.ok.c;have jz:=im.wP 10 (!decide (dI ((pK t (mA q.d)).1)=1));have wi:=λH=>yV (H:=H) im 10 (!decide (dI ((pK t (mA q.d)).1)=1));have ca:=λo1 o2 o3 o4 o5 Y=>As (R o1 o2 o3 o4 o5 Y);have gD:=j9 (R .dead .dead .dead .dead .dead []).hx;have gR:=j9 (R .dead .dead .dead .dead .dead []).hy;obtain⟨t1,DW⟩:∃t1,(pK t (mA q.d)).1=t1:=⟨_,rfl⟩;rw[DW]at et eb jz;simp only[DW]at wi ca ex R;generalize nD:(!decide (dI t1=1))=on at*;obtain⟨k2,iG⟩:∃k2,fY b.k 10 on=k2:=⟨_,rfl⟩;simp only[iG]at wi;rw[iG]at eb jz;have aW:=Go.Proofs.YtghlfboliomhcaaGreat.gV (gp j7) (jF im.ok) (nK t1 u' v);have aN:=Go.Proofs.YtghlfboliomhcaaGreat.gV (gp j7) (jF jz.ok) (nK t1 u' v);have qj:=aW.la;have qm:=aW.lb;have qo:=aW.lc;have l1:=aW.l;have qI:=aW.t;have nX:=aW.d;have t181:=aW.t18;have d181:=aW.d18;have qA:=aW.jd;have pY:=aW.jP;have p6:=aW.ju;have qC:=aW.jV;have qE:=aW.tc;have ql:=aN.la;have qn:=aN.lb;have qs:=aN.lc;have l2:=aN.l;have qJ:=aN.t;have p9:=aN.d;have t182:=aN.t18;have d182:=aN.d18;have qB:=aN.jd;have pZ:=aN.jP;have p8:=aN.ju;have qD:=aN.jV;have qG:=aN.tc;have oZ:=me (c:=b.c) (k:=b.k) (t:=t1) gD gR;have o6:=me (c:=b.c) (k:=k2) (t:=t1) gD gR;have lo:=λk=>ud k;have qt:=λc=>nW c;have qu:=yT t1 gD gR;have qH:bJ 657 (aO b.k)=aO b.k:=bQ ω;have o9:bJ 657 (aO k2)=aO k2:=bQ ω;have qF:bJ 18 (aR b.c)=aR b.c:=bQ ω;unfold sL;apply ie (v:=.t [.g (bj ⟨b.n,b.c,k2⟩ t1 u' v),.g (bU (0#64) false),.c (.b true)]) Tryz.func42 rfl Tryz.results42 Tryz.ntmps42 (by simp)
   .intro _ _;simp only[bj,bV,k]at my;simp only[go_sem,seval,bV,bj,bU,k,lr,ro,rt,l,tt,oo,uD,um,my,la,lb,lc,t18,d18,jd,jP,ju,jV,tc,dd,ca,wi,nD,qj,qm,qo,l1,qI,nX,t181,d181,qA,pY,p6,qC,qE,ql,qn,qs,l2,qJ,p9,t182,d182,qB,pZ,p8,qD,qG,oZ,o6,lo,qt,qu,qH,o9,qF,ex,tm];(repeat' first|apply cf|exact ot (nI _) κ|(intro c;exact absurd c ω)|(intro _;kernel_rfl)|kernel_rfl);exact aI
   .simp
   .exact xM (u':=u') (v':=v) hb ok (by rw[ev,eo,eb,et]) (by rw[et];exact⟨⟨_,rfl⟩,R _ _ _ _ _ _,Sc.ic B1 (by first|(simp;done)|(simp;omega)),Sc.ic B2 (by first|(simp;done)|(simp;omega)),N1,N2,Vn XO rfl rfl⟩)
  .rcases Classical.propComplete (q.s=10)with vo|vo
   .skip;have eo:eY b.n h q=true:=by simp[eY,hm,k]
    have ev:fD (⟨b,t⟩:Bx).d h q=0#64:=by simp[fD,nh,Dn,Dt,eo,k,vo]
    have et:dP (⟨b,t⟩:Bx).d h q=t:=by simp[dP,jt,mC,mD,Dn,Dt,eo,k,vo]
    have eb:dE (⟨b,t⟩:Bx).d h q=⟨b.n,b.c,fY (b.k) 10 (!decide (dI (t)=1))⟩:=by simp[dE,kE,nU,jt,px,mC,pW,mD,Dn,Dt,eo,k,vo]
    have im:j3 (b.k):=hb.kI;have j7:hF (b.c):=hb.ok.c;have jz:=im.wP 10 (!decide (dI (t)=1));have wi:=λH=>yV (H:=H) im 10 (!decide (dI (t)=1));have ca:=λY=>As (tY Y);have gD:=hu;have gR:=hv;generalize nD:(!decide (dI t=1))=on at*;obtain⟨k2,iG⟩:∃k2,fY b.k 10 on=k2:=⟨_,rfl⟩;simp only[iG]at wi;rw[iG]at eb jz;have aW:=Go.Proofs.YtghlfboliomhcaaGreat.gV (gp j7) (jF im.ok) (nK t u v);have aN:=Go.Proofs.YtghlfboliomhcaaGreat.gV (gp j7) (jF jz.ok) (nK t u v);have qj:=aW.la;have qm:=aW.lb;have qo:=aW.lc;have l1:=aW.l;have qI:=aW.t;have nX:=aW.d;have t181:=aW.t18;have d181:=aW.d18;have qA:=aW.jd;have pY:=aW.jP;have p6:=aW.ju;have qC:=aW.jV;have qE:=aW.tc;have ql:=aN.la;have qn:=aN.lb;have qs:=aN.lc;have l2:=aN.l;have qJ:=aN.t;have p9:=aN.d;have t182:=aN.t18;have d182:=aN.d18;have qB:=aN.jd;have pZ:=aN.jP;have p8:=aN.ju;have qD:=aN.jV;have qG:=aN.tc;have oZ:=me (c:=b.c) (k:=b.k) (t:=t) gD gR;have o6:=me (c:=b.c) (k:=k2) (t:=t) gD gR;have lo:=λk=>ud k;have qt:=λc=>nW c;have qu:=yT t gD gR;have qH:bJ 657 (aO b.k)=aO b.k:=bQ ω;have o9:bJ 657 (aO k2)=aO k2:=bQ ω;have qF:bJ 18 (aR b.c)=aR b.c:=bQ ω;unfold sL;apply ie (v:=.t [.g (bj ⟨b.n,b.c,k2⟩ t u v),.g (bU (0#64) false),.c (.b true)]) Tryz.func42 rfl Tryz.results42 Tryz.ntmps42 (by simp)
    .intro _ _;simp only[bj,bV,k]at my;simp only[go_sem,seval,bV,bj,bU,k,lr,ro,rt,l,tt,oo,uD,um,my,la,lb,lc,t18,d18,jd,jP,ju,jV,tc,dd,ca,wi,nD,qj,qm,qo,l1,qI,nX,t181,d181,qA,pY,p6,qC,qE,ql,qn,qs,l2,qJ,p9,t182,d182,qB,pZ,p8,qD,qG,oZ,o6,lo,qt,qu,qH,o9,qF,vo];(repeat' first|apply cf|exact ot (nI _) κ|(intro c;exact absurd c ω)|(intro _;kernel_rfl)|kernel_rfl);exact aI
    .simp
    .exact xM (u':=u) (v':=v) hb ok (by rw[ev,eo,eb,et]) (by rw[et];exact B5 _ rfl)
   .skip;have rd:=λH=>yV (H:=H) hb.kI q.s q.lv;have eo:eY b.n h q=true:=by simp[eY,hm,k]
    have ev:fD (⟨b,t⟩:Bx).d h q=0#64:=by simp[fD,nh,Dn,Dt,eo,k,vo]
    have et:dP (⟨b,t⟩:Bx).d h q=t:=by simp[dP,jt,mC,mD,Dn,Dt,eo,k,vo]
    have eb:dE (⟨b,t⟩:Bx).d h q=⟨b.n,b.c,fY (fY b.k q.s q.lv) 10 (!decide (dI (t)=1))⟩:=by simp[dE,kE,nU,jt,px,mC,pW,mD,Dn,Dt,eo,k,vo]
    have im:j3 (fY b.k q.s q.lv):=hb.kI.wP _ _;have j7:hF (b.c):=hb.ok.c;have jz:=im.wP 10 (!decide (dI (t)=1));have wi:=λH=>yV (H:=H) im 10 (!decide (dI (t)=1));have ca:=λY=>As (tY Y);have gD:=hu;have gR:=hv;obtain⟨k1,wj⟩:∃k1,fY b.k q.s q.lv=k1:=⟨_,rfl⟩;rw[wj]at im jz eb;simp only[wj]at wi rd;generalize nD:(!decide (dI t=1))=on at*;obtain⟨k2,iG⟩:∃k2,fY k1 10 on=k2:=⟨_,rfl⟩;simp only[iG]at wi;rw[iG]at eb jz;have aW:=Go.Proofs.YtghlfboliomhcaaGreat.gV (gp j7) (jF im.ok) (nK t u v);have aN:=Go.Proofs.YtghlfboliomhcaaGreat.gV (gp j7) (jF jz.ok) (nK t u v);have qj:=aW.la;have qm:=aW.lb;have qo:=aW.lc;have l1:=aW.l;have qI:=aW.t;have nX:=aW.d;have t181:=aW.t18;have d181:=aW.d18;have qA:=aW.jd;have pY:=aW.jP;have p6:=aW.ju;have qC:=aW.jV;have qE:=aW.tc;have ql:=aN.la;have qn:=aN.lb;have qs:=aN.lc;have l2:=aN.l;have qJ:=aN.t;have p9:=aN.d;have t182:=aN.t18;have d182:=aN.d18;have qB:=aN.jd;have pZ:=aN.jP;have p8:=aN.ju;have qD:=aN.jV;have qG:=aN.tc;have oZ:=me (c:=b.c) (k:=k1) (t:=t) gD gR;have o6:=me (c:=b.c) (k:=k2) (t:=t) gD gR;have lo:=λk=>ud k;have qt:=λc=>nW c;have qu:=yT t gD gR;have qH:bJ 657 (aO k1)=aO k1:=bQ ω;have o9:bJ 657 (aO k2)=aO k2:=bQ ω;have qF:bJ 18 (aR b.c)=aR b.c:=bQ ω;unfold sL;apply ie (v:=.t [.g (bj ⟨b.n,b.c,k2⟩ t u v),.g (bU (0#64) false),.c (.b true)]) Tryz.func42 rfl Tryz.results42 Tryz.ntmps42 (by simp)
    .intro _ _;simp only[bj,bV,k]at my;simp only[go_sem,seval,bV,bj,bU,k,lr,ro,rt,l,tt,oo,uD,um,my,la,lb,lc,t18,d18,jd,jP,ju,jV,tc,dd,ca,wi,nD,qj,qm,qo,l1,qI,nX,t181,d181,qA,pY,p6,qC,qE,ql,qn,qs,l2,qJ,p9,t182,d182,qB,pZ,p8,qD,qG,oZ,o6,lo,qt,qu,qH,o9,qF,vo,rd];(repeat' first|apply cf|exact ot (nI _) κ|(intro c;exact absurd c ω)|(intro _;kernel_rfl)|kernel_rfl);exact aI
    .simp
    .exact xM (u':=u) (v':=v) hb ok (by rw[ev,eo,eb,et]) (by rw[et];exact B5 _ rfl)
 obtain⟨x,H1,h1,_,h2⟩:=this;obtain⟨u',v',rfl,st⟩:=h2 b t u v h q hb ok rfl;exact⟨u',v',H1,h1,st⟩
end
section
variable {H:AH}
open Classical in inductive Cm:List Tg->List Sc->List Sc->Prop where|nil:Cm [] [] []|cons{g:Tg}{x y:Sc}{gs:List Tg}{xs ys:List Sc}(h:vw g x y=some (decide (x=y)))(t:Cm gs xs ys):Cm (g::gs) (x::xs) (y::ys)
theorem Cm.app{g1 g2:List Tg}{a b c d:List Sc}(h1:Cm g1 a b)(h2:Cm g2 c d):Cm (g1++g2) (a++c) (b++d):=by induction h1 with|nil=>exact h2|cons h _ ih=>exact .cons h ih
open Classical in theorem Cm.eq{g:List Tg}{a b:List Sc}(h:Cm g a b):jO g a b=some (decide (a=b)):=by induction h with
 |nil=>simp[jO]|@cons g x y gs xs ys h _ ih=>
 simp only[jO,h,ih];by_cases e1:x=y<;>by_cases e2:xs=ys<;>simp[e1,e2]
open Classical in theorem akv(x y:Int):vw .n (.i x) (.i y)=some (decide (Sc.i x=Sc.i y)):=by by_cases e:x=y<;>simp[vw,e]
open Classical in theorem akC(x y:BitVec 64):vw .n (.u x) (.u y)=some (decide (Sc.u x=Sc.u y)):=by by_cases e:x=y<;>simp[vw,e]
open Classical in theorem aas(k:IntKind)(x y:Int):vw .n (.k k x) (.k k y)=some (decide (Sc.k k x=Sc.k k y)):=by by_cases e:x=y<;>simp[vw,e]
open Classical in theorem aku(x y:Bool):vw .q (.b x) (.b y)=some (decide (Sc.b x=Sc.b y)):=by cases x<;>cases y<;>simp[vw]
theorem Cm.rep{α:Type}{f:α->Sc}{g:Tg}(hf:∀x y,Cm [g] [f x] [f y]):∀{l m:List α}{n:Nat},l.length=n->m.length=n->Cm (bD n g) (l.map f) (m.map f)
 |[],[],n,h,_=>by subst h;exact .nil|[],_::_,n,h,h2=>by simp at h h2;omega|_::_,[],n,h,h2=>by simp at h h2;omega|x::l,y::m,n,h,h2=>by
   obtain⟨k,rfl⟩:∃k,n=k+1:=⟨n-1,by simp at h;omega⟩;have:=(hf x y).app (Cm.rep hf (l:=l) (m:=m) (n:=k) (by simpa using h) (by simpa using h2));exact this
theorem Cm.one{g:Tg}{gs:List Tg}{xs ys:List Sc}(h:Cm [g] [x] [y])(t:Cm gs xs ys):Cm (g::gs) (x::xs) (y::ys):=h.app t
theorem zF(x y:Int):Cm [.n] [.i x] [.i y]:=.cons (akv x y) .nil
theorem HB(x y:BitVec 64):Cm [.n] [.u x] [.u y]:=.cons (akC x y) .nil
theorem aaf(x y:Int):Cm [.n] [k8 x] [k8 y]:=.cons (aas _ x y) .nil
theorem N4(x y:BitVec 32):Cm [.n] [iK x] [iK y]:=.cons (aas _ _ _) .nil
theorem DD(x y:Bool):Cm [.q] [.b x] [.b y]:=.cons (aku x y) .nil
def YG:List Tg:=.n::.n::(bD 8 .n++bD 8 .q)
def tgK:List Tg:=.n::(bD 32 .n++(.n::.n::.n::(bD 16 .n++bD 16 .n)))
def tgP:List Tg:=.n::(bD 32 .n++(bD 32 .q++(bD 32 .q++(bD 32 .q++(bD 512 .q++bD 16 .n)))))
theorem aar{a b:Ck}(ha:hF a)(hb:hF b):Cm YG (aR a) (aR b):=(zF _ _).one ((HB _ _).one ((Cm.rep HB ha.c hb.c).app (Cm.rep DD ha.s hb.s)))
theorem akw{a b:Pk}(ha:cM a)(hb:cM b):Cm tgK (eJ a) (eJ b):=(zF _ _).one ((Cm.rep aaf ha.p hb.p).app ((N4 _ _).one ((N4 _ _).one ((N4 _ _).one ((Cm.rep N4 ha.e hb.e).app (Cm.rep aaf ha.l hb.l))))))
theorem Od(u w:BitVec 32):Cm (bD 32 .q) (fo u) (fo w):=by
 have e:∀x:BitVec 32,fo x=((pj 32).map λi=>x.getLsbD i).map Sc.b:=λx=>by unfold fo;rw[List.map_map];rfl
 rw[e u,e w];exact Cm.rep DD (by simp) (by simp)
theorem aav:∀{l m:List (BitVec 32)}{n:Nat},l.length=n->m.length=n->Cm (bD (n*32) .q) (l.flatMap fo) (m.flatMap fo)
 |[],[],n,h,_=>by subst h;exact .nil|[],_::_,n,h,h2=>by simp at h h2;omega|_::_,[],n,h,h2=>by simp at h h2;omega|x::l,y::m,n,h,h2=>by
   obtain⟨k,rfl⟩:∃k,n=k+1:=⟨n-1,by simp at h;omega⟩;have:=(Od x y).app (aav (l:=l) (m:=m) (n:=k) (by simpa using h) (by simpa using h2));rw[List.replicate_append_replicate,show 32+k*32=(k+1)*32 by omega]at this;exact this
theorem aky{a b:Pk}(ha:cM a)(hb:cM b):Cm tgP (aO a) (aO b):=(zF _ _).one ((Cm.rep zF ha.p hb.p).app ((Od _ _).app ((Od _ _).app ((Od _ _).app ((aav ha.e hb.e).app (Cm.rep zF ha.l hb.l))))))
theorem anK:je Tryz.prog 12 142=some YG:=κ
theorem anQ:je Tryz.prog 12 52=some YG:=κ
theorem anP:je Tryz.prog 12 149=some tgK:=κ
theorem anR:je Tryz.prog 12 58=some tgP:=κ
open Classical in theorem amy{a b:Ck}(ha:hF a)(hb:hF b):cA Tryz.prog .eql 142 (.g (aR a)) (.g (aR b))=some (.c (.b (decide (a=b)))):=by
 rw[yg _ (by simp only[go_sem,D.agg]) anK,(aar ha hb).eq];show some (AV.c (.b (decide (aR a=aR b))))=_;by_cases e:a=b
 .simp[e]
 .rw[decide_eq_false e,decide_eq_false λh=>e (Fk ha hb h)]
open Classical in theorem amD{a b:Ck}(ha:hF a)(hb:hF b):cA Tryz.prog .eql 52 (.g (aR a)) (.g (aR b))=some (.c (.b (decide (a=b)))):=by
 rw[yg _ (by simp only[go_sem,D.agg]) anQ,(aar ha hb).eq];show some (AV.c (.b (decide (aR a=aR b))))=_;by_cases e:a=b
 .simp[e]
 .rw[decide_eq_false e,decide_eq_false λh=>e (Fk ha hb h)]
open Classical in theorem amC{a b:Pk}(ha:cM a)(hb:cM b):cA Tryz.prog .eql 149 (.g (eJ a)) (.g (eJ b))=some (.c (.b (decide (a=b)))):=by
 rw[yg _ (by simp only[go_sem,D.agg]) anP,(akw ha hb).eq];show some (AV.c (.b (decide (eJ a=eJ b))))=_;by_cases e:a=b
 .simp[e]
 .rw[decide_eq_false e,decide_eq_false λh=>e (V7.i _ _ ha hb h)]
open Classical in theorem amF{a b:Pk}(ha:cM a)(hb:cM b):cA Tryz.prog .eql 58 (.g (aO a)) (.g (aO b))=some (.c (.b (decide (a=b)))):=by
 rw[yg _ (by simp only[go_sem,D.agg]) anR,(aky ha hb).eq];show some (AV.c (.b (decide (aO a=aO b))))=_;by_cases e:a=b
 .simp[e]
 .rw[decide_eq_false e,decide_eq_false λh=>e (GD ha hb h)]
open Classical in theorem Z7{a b:Bs}:decide (a=b)=(decide (a.n=b.n)&&(decide (a.c=b.c)&&decide (a.k=b.k))):=by
 by_cases e:a=b
 .subst e;simp
 .rw[decide_eq_false e];by_cases h1:a.n=b.n
  .by_cases h2:a.c=b.c
   .by_cases h3:a.k=b.k
    .exfalso;apply e;cases a;cases b;simp only at h1 h2 h3;subst h1 h2 h3;rfl
    .simp[h3]
   .simp[h2]
  .simp[h1]
theorem axZ{D E:Bd}(hD:BI H D)(hE:BI H E)(h8:fK D.t.A=true/\fK D.t.B=true/\fK E.t.A=true/\fK E.t.B=true):Ms [.c (.p D.id 0 0),.c (.p E.id 0 0)] H=some (.c (.b (zz D E))):=by
 have:∃v,Ms [.c (.p D.id 0 0),.c (.p E.id 0 0)] H=some v/\aeg [.c (.p D.id 0 0),.c (.p E.id 0 0)] H v:=by
  unfold Ms;apply mM (v:=.c (.b (zz D E))) Tryz.func56 rfl Tryz.results56 Tryz.ntmps56 (by simp)
  .exact λ_ _=>rfl
  .intro _ _;have ho:=hD.ho;have he:=hE.ho;have l1:=gp hD.ok.c;have l2:=Al hD.ok.k;have l3:=gp hE.ok.c;have l4:=Al hE.ok.k;have t1:∀m:List Sc,bJ 18 (aR D.b.c++m)=aR D.b.c:=λm=>nQ l1;have t2:bJ 68 (eJ D.b.k)=eJ D.b.k:=bQ ω;have t3:∀m:List Sc,cQ 18 (aR D.b.c++m)=m:=λm=>vE l1;have u1:∀m:List Sc,bJ 18 (aR E.b.c++m)=aR E.b.c:=λm=>nQ l3;have u2:bJ 68 (eJ E.b.k)=eJ E.b.k:=bQ ω;have u3:∀m:List Sc,cQ 18 (aR E.b.c++m)=m:=λm=>vE l3;have q1:=amy hD.ok.c hE.ok.c;have q2:=amC hD.ok.k hE.ok.k;have us:=aze (V2 hD.pi) (V2 hE.pi) h8;have eB:zz D E=(decide (D.b.n=E.b.n)&&((@decide (D.b.c=E.b.c) (Classical.propDecidable _))&&(@decide (D.b.k=E.b.k) (Classical.propDecidable _)))&&BZ D.t E.t):=by
    unfold zz;rw[Z7]
   rw[eB];unfold fP at ho he;generalize(@decide (D.b.c=E.b.c) (Classical.propDecidable _))=x1 at*;generalize(@decide (D.b.k=E.b.k) (Classical.propDecidable _))=x2 at*;generalize BZ D.t E.t=x3 at*;rcases Classical.propComplete (D.b.n=E.b.n)with c|c<;>cases x1<;>cases x2<;>cases x3;all_goals simp only[go_sem,seval,ho,he,l1,l2,l3,l4,t1,t2,t3,u1,u2,u3,q1,q2,us,c]
   all_goals(repeat' first|apply cf|(intro c;exact absurd c ω)|(intro _;kernel_rfl)|kernel_rfl)
   all_goals exact aE _
  .refine⟨λhe=>by simp at he,λD' E' he h1 h2=>?_⟩;simp only[cL,AV.c.injEq,Sc.p.injEq,and_true]at he;obtain⟨e1,e2⟩:=he;rw[hD.uniq h1 e1,hE.uniq h2 e2]
 obtain⟨v,h1,h2⟩:=this;rw[h1,h2.2 D E rfl hD hE]
end
section
variable {H:AH}
open Classical in def C3(a:Bs)(t:Pt)(b:Bs)(s:Pt):Bool:=decide (a=b)&&GY t s
def aeD(args:List AV)(H:AH)(w:AV):Prop:=∀a t u v b s x y,mH a->mH b->jm H t u v->jm H s x y->args=[.g (bj a t u v),.g (bj b s x y)]->w=.c (.b (C3 a t b s))
def Qz:List AV->AH->Option AV:=lk Tryz.prog [(115,.fq X3)] 58 aeD
theorem ayZ{a b:Bs}{s:Pt}{v:Sc}(ha:mH a)(hb:mH b)(o1:jm H t u v)(o2:jm H s x y)(bu:u.aj H.length=true)(bv:v.aj H.length=true)(bx:x.aj H.length=true)(bY:y.aj H.length=true):Qz [.g (bj a t u v),.g (bj b s x y)] H=some (.c (.b (C3 a t b s))):=by
 have:∃w,Qz [.g (bj a t u v),.g (bj b s x y)] H=some w/\aeD [.g (bj a t u v),.g (bj b s x y)] H w:=by
  unfold Qz;apply mM (v:=.c (.b (C3 a t b s))) Tryz.func58 rfl Tryz.results58 Tryz.ntmps58 (by simp)
  .exact λ_ _=>rfl
  .intro _ _;have hu:=j9 o1.hx;have hv:=j9 o1.hy;have hx:=j9 o2.hx;have hy:=j9 o2.hy;have sg:=ha.gV t u v;have se:=hb.gV s x y;have l1:=sg.l;have l2:=se.l;have t18:=sg.t18;have d18:=sg.d18;have jd:=sg.jd;have ju:=sg.ju;have tc:=sg.tc;have lc:=sg.lc;have la:=sg.la;have lb:=sg.lb;have e18:=se.t18;have f18:=se.d18;have amj:=se.jd;have am8:=se.ju;have ec:=se.tc;have mc:=se.lc;have ma:=se.la;have mb:=se.lb;have oZ:=me (c:=a.c) (k:=a.k) (t:=t) hu hv;have o6:=me (c:=b.c) (k:=b.k) (t:=s) hx hy;have q1:=amD ha.ok.c hb.ok.c;have q2:=amF ha.ok.k hb.ok.k;have rs:=λY=>ay8 (C6 (X:=Y) o1 bu bv) (C6 (X:=Y) o2 bx bY);have eB:C3 a t b s=(decide (a.n=b.n)&&((@decide (a.c=b.c) (Classical.propDecidable _))&&(@decide (a.k=b.k) (Classical.propDecidable _)))&&GY t s):=by
    unfold C3;rw[Z7]
   rw[eB];unfold bj;generalize(@decide (a.c=b.c) (Classical.propDecidable _))=x1 at*;generalize(@decide (a.k=b.k) (Classical.propDecidable _))=x2 at*;generalize GY t s=x3 at*;rcases Classical.propComplete (a.n=b.n)with c|c<;>cases x1<;>cases x2<;>cases x3;all_goals simp only[go_sem,seval,l1,l2,t18,d18,jd,ju,tc,lc,la,lb,e18,f18,amj,am8,ec,mc,ma,mb,oZ,o6,q1,q2,rs,c]
   all_goals exact aC _ _
  .intro a' t' u' v' b' s' x' y' FL rJ o1' o2' he;simp only[cL,AV.g.injEq,and_true]at he;obtain⟨e1,e2⟩:=he;obtain⟨rfl,e3⟩:=IU ha FL e1;obtain⟨rfl,rfl,rfl⟩:=Qh o1 o1' e3;obtain⟨rfl,e4⟩:=IU hb rJ e2;obtain⟨rfl,rfl,rfl⟩:=Qh o2 o2' e4;rfl
 obtain⟨w,h1,h2⟩:=this;rw[h1,h2 a t u v b s x y ha hb o1 o2 rfl]
def aeq(args:List AV)(H:AH)(w:AV)(H1:AH):Prop:=∀D u v,BI H D->mH D.b->jm H D.t u v->args=[.c (.p D.id 0 0),.g (bj D.b D.t u v)]->w=.c (.b true)/\∃X,H1=H++X
def MH:List AV->AH->Option (AV×AH):=sd Tryz.prog [(86,.fq GF),(103,.fq Jz),(109,.fq Mt),(110,.fp Ej),(111,.fp Ek),(45,.fq EG)] 47 aeq
theorem atm:bh Tryz.prog 47 MH:=yw (tq ade (tq adv (tq asA (tp asx (tp asB (tq auB tn)))))) Tryz.func47 rfl Tryz.results47 Tryz.ntmps47
theorem ayx{D:Bd}{u v:Sc}(hB:BI H D)(hb:mH D.b)(ok:jm H D.t u v)(bu:u.aj H.length=true)(bv:v.aj H.length=true):∃X,MH [.c (.p D.id 0 0),.g (bj D.b D.t u v)] H=some (.c (.b true),H++X):=by
 have:∃w H1,MH [.c (.p D.id 0 0),.g (bj D.b D.t u v)] H=some (w,H1)/\H.length<=H1.length/\aeq [.c (.p D.id 0 0),.g (bj D.b D.t u v)] H w H1:=by
  have hu:=j9 ok.hx;have hv:=j9 ok.hy;have sg:=hb.gV D.t u v;have l:=sg.l;have d18:=sg.d18;have tt:=sg.t;have oo:=me (c:=D.b.c) (k:=D.b.k) (t:=D.t) hu hv;have OQ:=λX=>hB.app X;have b1:=λX h=>WX (OQ X) h;have b2:=λH h=>afz (H:=H) hb D.t hu hv h;have b3:=λX=>ax0 (OQ X);have b4:=λX=>axX (OQ X) ok.lb;have b5:=λX=>ax1 (OQ X) ok.la;have la:=ok.la;have lb:=ok.lb;have g1:(bj D.b D.t u v).getD 2 .any=.u D.b.c.t:=rfl;have g2:(aR D.b.c++(aO D.b.k++aY D.t u v)).getD 684 .any=u:=by
   have e:(aR D.b.c++(aO D.b.k++aY D.t u v))=(aR D.b.c++aO D.b.k)++(aY D.t u v++[]):=by simp
   have l1:(aR D.b.c++aO D.b.k).length=675:=by rw[cj,sg.la,sg.lb]
   rw[e,show 684=(aR D.b.c++aO D.b.k).length+9 by rw[l1],xx (by rw[nK];decide)];rfl
  have g3:(aR D.b.c++(aO D.b.k++aY D.t u v)).getD 685 .any=v:=by
   have e:(aR D.b.c++(aO D.b.k++aY D.t u v))=(aR D.b.c++aO D.b.k)++(aY D.t u v++[]):=by simp
   have l1:(aR D.b.c++aO D.b.k).length=675:=by rw[cj,sg.la,sg.lb]
   rw[e,show 685=(aR D.b.c++aO D.b.k).length+10 by rw[l1],xx (by rw[nK];decide)];rfl
  have g0:(aR D.b.c++(aO D.b.k++aY D.t u v)).getD 1 .any=.u D.b.c.t:=rfl;obtain⟨A,hA⟩:∃A,D.t.A=A:=⟨_,rfl⟩;obtain⟨B,hBB⟩:∃B,D.t.B=B:=⟨_,rfl⟩;have lv:(H++[ae.own (bj D.b D.t u v)]).length=H.length+1:=by simp
  have c1:∀X,EG [.c (.sl (H.length+1) 0 D.t.B.length D.t.B.length),.c v] (H++(ae.own (bj D.b D.t u v)::.vec 1 (D.t.B.flatMap dO)::X))=some (.c (.b true)):=λX=>by
   rw[afH (L:=D.t.B) (M:=D.t.B) (B4 Be Fy (by rw[gM];simp only[T2,T3,ae.row,nY]) rfl (by rw[gM];rfl)) (wO ok.hy bv) lb lb];simp
  have c2:∀X,EG [.c (.sl (H.length+2) 0 D.t.A.length D.t.A.length),.c u] (H++(ae.own (bj D.b D.t u v)::.vec 1 (D.t.B.flatMap dO)::.vec 1 (D.t.A.flatMap dO)::X))=some (.c (.b true)):=λX=>by
   rw[afH (L:=D.t.A) (M:=D.t.A) (B4 Be Fy (by rw[gM];simp only[T2,T3,ae.row,nY]) rfl (by rw[gM];rfl)) (wO ok.hx bu) la la];simp
  unfold MH;apply ie (v:=.c (.b true)) (H1:=H++[.own (bj D.b D.t u v),.vec 1 (D.t.B.flatMap dO),.vec 1 (D.t.A.flatMap dO)]) Tryz.func47 rfl Tryz.results47 Tryz.ntmps47 (by simp)
  .intro _ hH;have aj:dF (H++[.own (bj D.b D.t u v)])=true:=uk hH (by
 simp only[wZ,forall_eq];show((Sc.i D.b.n::(aR D.b.c++(aO D.b.k++aY D.t u v))).all _)=true;rw[bK,aeL (Sc.ic bu (by simp)) (Sc.ic bv (by simp))];rfl);unfold bj at b2 g1 c1 c2 aj|-;simp only[go_sem,seval,l,oo];refine fB 10 (λi=>([(0,.c (.p D.id 0 0)),(3,.c (.p H.length 0 0)),(5,.c (.i ((i:Int)-1)))],H++[.own (.i D.b.n::(aR D.b.c++(aO D.b.k++aY D.t u v)))])) (Wk.fq (by simp[Am.get])) λi hi=>?_;by_cases aG:i<10
   .have e0:(i:Int)-1<9:=ω
    have e1:aA ((i:Int)-1+1)=((i+1:Nat):Int)-1:=by rw[aq ω ω];omega
    simp only[go_sem,seval,e0,e1,l,tt,b1,b2];(repeat' first|apply cf|(intro c;exact absurd c ω)|(intro _;kernel_rfl)|kernel_rfl);exact⟨i+1,ω,ω,Wk.fq (by simp[Am.get])⟩
   .obtain rfl:i=10:=ω
    simp only[go_sem,seval,l,b3,b4,b5,g0,g2,g3,c1,c2];(repeat' first|apply cf|exact ot (nI _) κ|(intro c;exact absurd c ω)|(intro _;kernel_rfl)|kernel_rfl);exact aI
  .simp
  .intro D' u' v' h1 _ o2 he;simp only[cL,AV.c.injEq,AV.g.injEq,Sc.p.injEq,and_true]at he;exact⟨rfl,_,rfl⟩
 obtain⟨w,H1,h1,_,h2⟩:=this;obtain⟨rfl,X,rfl⟩:=h2 D u v hB hb ok rfl;exact⟨X,h1⟩
end
variable {m:Int}
section
theorem av5{D:Bd}(h:j3 D.b.k)(i:Int)(q:Aq):j3 (dE D i q).k:=by
 have hM:j3 (nU D q).k:=by
  unfold nU px pW;repeat' split
  all_goals first
 |exact h|exact h.read _|exact h.write _ _|exact h.wP _ _
 unfold dE;split
 .exact hM.wP _ _
 .exact h
theorem al8(D:Bd)(i:Int)(q:Aq):xr D.t (dP D i q):=by
 have r:∀o,xr D.t (fM D.t o).1:=λo=>HK (t:=D.t) (kd:=0) (off:=o) (b:=0) ⟨δ,δ⟩;have w:∀o,xr D.t (ga D.t o (mA q.d)).1:=λo=>HK (t:=D.t) (kd:=1) (off:=o) (G4 q.d);have n:xr D.t (pK D.t (mA q.d)).1:=HK (t:=D.t) (kd:=2) (off:=0#64) (G4 q.d);unfold dP jt mC mD;repeat' split
 all_goals first
 |exact Oo _|exact r _|exact w _|exact n
structure Dw where
 h:Int
 q:Aq
 hr:nT q.r
def aCT(d:Dw):List Sc:=.i d.h::bV d.q
def aaV:List Sc->Option Dw|.i h::.i k::.u a::.u b::.i c::.i s::.i op::.u d::.u o::.b lv::r=>if hr:nT r then some ⟨h,⟨k,a,b,c,s,op,d,o,lv,r⟩,hr⟩else none|_=>none
structure Ht(H:AH)(o:List Sc)(K:AH)(n:Nat)(D:Bd)(u v:Sc):Prop where
 bi:BI K D
 id:D.id=H.length+2
 pid:D.pid=H.length+1
 bs:mH D.b
 rp:jm K D.t u v
 bu:u.aj K.length=true
 bv:v.aj K.length=true
 dj:∀j,j<H.length->hg K j=hg H j
 ob:hg K H.length=.own o
 orf:hg K (H.length+3)=ae.own (bj D.b D.t u v)nx:∀i,aJ D.x=some i->H.length+4<=i
 ny:∀i,aJ D.y=some i->H.length+4<=i
 nu:∀i,aJ u=some i->H.length+4<=i/\aJ D.x≠some i/\aJ D.y≠some i
 nv:∀i,aJ v=some i->H.length+4<=i/\aJ D.x≠some i/\aJ D.y≠some i
 a8:fK D.t.A=true
 b8:fK D.t.B=true
 la:D.t.A.length<=n
 lb:D.t.B.length<=n
variable {H K:AH}{o:List Sc}{n:Nat}{D:Bd}{u v:Sc}
theorem Ht.len(I:Ht H o K n D u v):H.length+4<=K.length:=by have:=eu (H:=K) (i:=H.length+3) (by rw[I.orf];rfl);omega
theorem Ht.app(I:Ht H o K n D u v)(X:AH):Ht H o (K++X) n D u v:=by
 have l:=I.len;exact⟨I.bi.app X,I.id,I.pid,I.bs,C6 I.rp I.bu I.bv,Sc.ic I.bu (by simp),Sc.ic I.bv (by simp),λj hj=>by rw[nC ω];exact I.dj j hj,by rw[nC ω];exact I.ob,by rw[nC ω];exact I.orf,I.nx,I.ny,I.nu,I.nv,I.a8,I.b8,I.la,I.lb⟩
theorem WH(h:jm K t u v)(hu:∀i,aJ u=some i->hg K' i=hg K i)(hv:∀i,aJ v=some i->hg K' i=hg K i):jm K' t u v:=⟨Nk h.hx hu,Nk h.hy hv,h.e,h.l,h.m,h.s,h.dl,h.dm,h.la,h.lb⟩
theorem aqw(H:AH)(o:List Sc)(hm:1<=m/\m<=8):Ht H o (H++[ae.own o,ae.own (iy BR),ae.own (fP (H.length+1) (bN m)),ae.own (bj (bN m) fR .az .az)]) 0 ⟨H.length+2,H.length+1,bN m,fR,.az,.az⟩ .az .az:=by
 have e:H++[ae.own o,ae.own (iy BR),ae.own (fP (H.length+1) (bN m)),ae.own (bj (bN m) fR .az .az)]=(H++[ae.own o])++[ae.own (iy BR),ae.own (fP (H++[ae.own o]).length (bN m))]++[ae.own (bj (bN m) fR .az .az)]:=by simp
 have b0:=(S5 (H++[ae.own o]) hm).app [ae.own (bj (bN m) fR .az .az)];rw[<-e]at b0;have ed:dN (H++[ae.own o]) m=⟨H.length+2,H.length+1,bN m,fR,.az,.az⟩:=by simp[dN]
 rw[ed]at b0;have kz:j3 (bN m).k:=by
  refine⟨V5 m,?_,?_,?_⟩
  .show 1<=(iP m).n;rw[V4 hm];exact hm.1
  .intro j hj h1;have:(iP m).w=0#32:=by unfold iP;split<;>rfl
   have h1:(iP m).w.getLsbD j=true:=h1;rw[this]at h1;simp at h1
  .intro c;have:(iP m).e=bD 16 0#32:=by unfold iP;split<;>rfl
   show((iP m).e.getD c 0#32).getLsbD 0=false;rw[this,bX,List.getElem?_replicate];split<;>simp
 refine⟨b0,rfl,rfl,⟨ZQ hm,kz⟩,(show jm _ fR .az .az from⟨rfl,rfl,δ,δ,δ,δ,δ,δ,δ,δ⟩),rfl,rfl,λj hj=>nC hj,by rw[km];rfl,by rw[gM];rfl,λi h=>by simp[aJ]at h,λi h=>by simp[aJ]at h,λi h=>by simp[aJ]at h,λi h=>by simp[aJ]at h,rfl,rfl,aB _,aB _⟩
end
section
variable {H K:AH}{o:List Sc}{n:Nat}{D:Bd}{u v:Sc}
theorem BI.stay(h:BI K D)(hk:∀j,j<K.length->hg K' j=hg K j):BI K' D:=⟨by rw[hk _ h.aD];exact h.ho,h.ok,PX h.pi (hk _ h.LO) (λi hi=>hk i (pC h.pi.hx hi).1) (λi hi=>hk i (pC h.pi.hy hi).1)⟩
def xm(n:Nat)(D:Bd):Bd:=⟨n+3,n,D.b,D.t,.sl (n+1) 0 D.t.A.length D.t.A.length,.sl (n+2) 0 D.t.B.length D.t.B.length⟩
theorem ako(K:AH)(h:nS D.b):BI (K++(Fm K.length D.t++[ae.own (fP K.length D.b)])) (xm K.length D):=by
 refine⟨?_,h,?_,.inr ⟨K.length+1,rfl,?_⟩,.inr ⟨K.length+2,rfl,?_⟩,λi h1 h2=>?_⟩
 .show hg _ (K.length+3)=_;rw[gM];rfl
 .show hg _ K.length=_;rw[km];rfl
 .rw[gM];rfl
 .rw[gM];rfl
 .simp only[xm,aJ,ar]at h1 h2;omega
open Classical in theorem azo(C D:Bd):zz C D=C3 D.b D.t C.b C.t:=by
 unfold zz C3;rw[azn];by_cases e:C.b=D.b
 .rw[decide_eq_true e,decide_eq_true e.symm]
 .rw[decide_eq_false e,decide_eq_false (λh=>e h.symm)]
theorem ai4{C:Bd}(hb:C.b=D.b)(ht:C.t=D.t):zz C D=true:=by
 unfold zz;rw[hb,ht,azp];simp
end
section
theorem P5{b:Bs}(h:mH b)(t:Pt)(u v:Sc):(bj b t u v).length=687:=by
 have:=(h.gV t u v).l;simp only[bj,cT,this]
theorem IV{v:Sc}(b:Bs)(t:Pt)(hu:Sc.one u=true)(hv:Sc.one v=true):(bj b t u v).all Sc.one=true:=by
 unfold bj;rw[bK,me hu hv];rfl
def aDg(args:List AV)(H:AH):Option AV:=match args with
 |[.c (.i _),.c x,.g g]=>match dh 20 aaV H x,aaV g with
   |some L,some _=>if L.length<=9223372036854775807 then some (.c (.b true))else none|_,_=>none
 |_=>none
end
def Gh(x y:Int):Bool:=decide (x<y)
def aDu(args:List AV)(H:AH):Option (AV×AH):=match args with
 |[.c x,.c (.i 0),.c (.i n)]=>match sV Kz H x with
   |some A=>if n=A.length/\A.length<=12 then some (.t [],wE H x ((jB Gh A).map gI))else none|none=>none
 |_=>none
def aDS(args:List AV)(H:AH):Option (AV×AH):=match args with
 |[.c x]=>match sV Kz H x with
   |some A=>if A.length<=12 then some (.t [],wE H x ((jB Gh A).map gI))else none|none=>none
 |_=>none
def SW(A:List Int):List Sc:=(kj A).map gI++bD (A.length-(kj A).length) (gI 0)
def Ct(H:AH)(x:Sc)(A:List Int):Sc×AH:=if(kj A).length=A.length then(x,H)else match x with|.sl id o v _=>(.sl id o v (kj A).length,H.set id (.vec 1 (SW A)))|x=>(x,H)
def aDh(args:List AV)(H:AH):Option (AV×AH):=match args with
 |[.c x]=>match sV Kz H x with
   |some A=>if A.length<=12 then some (.c (Ct H x A).1,(Ct H x A).2)else none|none=>none
 |_=>none
def Df(a b:BitVec 64)(c s st:Int):List Int:=(mq a b c s).map λp=>aAg p.a st
def aDY(args:List AV)(H:AH):Option (AV×AH):=match args with
 |[.g [.u a,.u b,.i c,.i s],.c (.i st)]=>if eC st then if dK c s=true then some (.c (.sl H.length 0 (Df a b c s st).length (kj (jB Gh (Df a b c s st))).length),H++[.vec 1 (SW (jB Gh (Df a b c s st)))])else some (.c .az,H)else none|_=>none
def Nh(A:List Int):List Int:=A.foldl (ao1 Gh) []
def aDJ(args:List AV)(H:AH):Option (AV×AH):=match args with
 |[.g [.u a,.u b,.i c,.i s],.c (.i st)]=>if eC st then if dK c s=true then some (.c (.sl H.length 0 (Nh (Df a b c s st)).length (Nh (Df a b c s st)).length),H++[.vec 1 ((Nh (Df a b c s st)).map gI)])else some (.c .az,H)else none|_=>none
variable {op:Int}
theorem ao9:(uB op=2)=(qW op=true):=by
 apply propext
 have k:qW op=true->gB op=7:=by rw[Kw];unfold qW;repeat' split
                                all_goals simp
                                all_goals omega
 unfold uB;by_cases h:gB op=7
 .rw[if_pos h];split
  .simp_all
  .simp_all;split<;>simp
 .rw[if_neg h];simp;cases e:qW op
  .rfl
  .exact(h (k e)).elim
theorem apa:(uB op=3)=(rB op=true):=by
 apply propext
 have k:rB op=true->gB op=7/\qW op=false:=by rw[Kw];unfold rB qW;repeat' split
                                             all_goals simp
                                             all_goals omega
 unfold uB;by_cases h:gB op=7
 .rw[if_pos h];split
  .rename_i h1;simp;cases e:rB op
   .rfl
   .have:=(k e).2;simp_all
  .split<;>simp_all
 .rw[if_neg h];simp;cases e:rB op
  .rfl
  .exact(h (k e).1).elim
theorem dq{p:Prop}[Decidable p]{q:Bool}(h:p=(q=true)):decide p=q:=by cases q<;>simp_all
def aDR(args:List AV)(H:AH):Option (AV×AH):=match args with
 |[.c x,.g (.i k::.u a::.u b::.i c::.i s::.i op::.u d::.u o::.b lv::r)]=>if nT r then match x with
 |.dk=>some (.c .az,H)|x=>match Dd H x with
 |some z=>if oh z.fZ.n k a b c s op=true then some (.c (.sl (H.length+1) 0 (Df a b c s z.t).length (kj (jB Gh (Df a b c s z.t))).length),H++[.dead,.vec 1 (SW (jB Gh (Df a b c s z.t)))])else some (.c .az,H)|none=>none else none|_=>none
def aDV(args:List AV)(H:AH):Option AV:=match args with|[.c .dk]=>some (.c .dk)|[.c x]=>(Dd H x).map λz=>.c (.p z.fZ.id 0 0)|_=>none
def aDK(args:List AV)(H:AH):Option AV:=match args with|[.c .dk]=>some (.g [.i 0,.i 0,.i 0,.i 0])|[.c x]=>(Dd H x).map λz=>.g [.i z.h,.i z.t,.i z.fZ.n,.i z.b]|_=>none
def aDF(args:List AV):Option AV:=match args with|[.g [.i h,.i t,.i n,.i b]]=>some (.c (.b (Eh h t n b)))|_=>none
def J0:List Sc:=(bD 8 (Sc.b false))++(bD 8 (Sc.u 0#64))
def GU(args:List AV)(H:AH):Option (AV×AH):=match args with|[.g [.i h,.i t,.i n,.i b]]=>if 1<=n/\n<=4096 then some (.g (.i h::.i t::.i n::.i b::.sl (H.length+3) 0 (64*n.toNat) (64*n.toNat)::J0),H++[.dead,.dead,.dead,.vec 1 (bD (64*n.toNat) (.k .u8 0))])else none|_=>none
theorem ap1(args:List AV)(H:AH)(v:AV)(H1:AH)(h:GU args H=some (v,H1)):H.length<=H1.length:=by
 unfold GU at h;repeat' split at h
 all_goals simp at h
 rw[<-h.2];simp
def GS(args:List AV)(H:AH):Option (AV×AH):=match args with|[.c (.i n)]=>if 1<=n/\n<=4096 then some (.g [.sl (H.length+1) 0 (64*n.toNat) (64*n.toNat)],H++[.dead,.vec 1 (bD (64*n.toNat) (.k .u8 0))])else none|_=>none
variable {H:AH}
theorem ayL(h:1<=n/\n<=4096):GS [.c (.i n)] H=some (.g [.sl (H.length+1) 0 (64*n.toNat) (64*n.toNat)],H++[.dead,.vec 1 (bD (64*n.toNat) (.k .u8 0))]):=by simp only[GS];rw[if_pos h]
theorem apZ(args:List AV)(H:AH)(v:AV)(H1:AH)(h:GS args H=some (v,H1)):H.length<=H1.length:=by
 unfold GS at h;repeat' split at h
 all_goals simp at h
 rw[<-h.2];simp
theorem awD{n:Nat}{s:Sc}:(bD n [s]).flatten=bD n s:=by induction n with|zero=>rfl|succ n ih=>rw[yc,List.flatten_cons,ih,yc];rfl
theorem aeS{n m:Nat}{s:Sc}(h:s.num=true):(bD n s).all (Sc.aj m)=true:=by rw[cE];intro x hx;rw[List.eq_of_mem_replicate hx];exact Sc.acV h m
theorem atO:bh Tryz.prog 64 GS:=by
 refine gJ (s:=GS) tn Tryz.func64 rfl Tryz.results64 Tryz.ntmps64 apZ ?_;intro args H v H1 h b9 hH;unfold GS at h;split at h
 .rename_i n;split at h
  .rename_i hn;simp only[ar,bE]at h;obtain⟨rfl,rfl⟩:=h;refine⟨by simp,?_⟩;obtain⟨m,rfl⟩:=kZ (show 0<=n by omega);have e1:aA (64*(m:Int))=((64*m:Nat):Int):=by rw[aq ω ω];omega
   have e2:((64*m:Nat):Int)<=1048576:=ω
   have e3:(0:Int)<=((64*m:Nat):Int):=ω
   have bb:dF (H++[.dead,.vec 1 (bD (64*m) (.k .u8 0))])=true:=uk hH (by simp only[uT,J9,or_false,forall_eq_or_imp,forall_eq];exact⟨rfl,aeS rfl⟩);simp only[go_sem,seval,e1,e2,e3,awD,aL];exact cY (by simp[AV.aj,Sc.aj]) (EP _ ⟨.inl rfl,.inr rfl,trivial⟩) bb (by simp)
  .simp at h
 .simp at h
theorem ayQ{t b:Int}(hn:1<=n/\n<=4096):GU [.g [.i h,.i t,.i n,.i b]] H=some (.g (.i h::.i t::.i n::.i b::.sl (H.length+3) 0 (64*n.toNat) (64*n.toNat)::J0),H++[.dead,.dead,.dead,.vec 1 (bD (64*n.toNat) (.k .u8 0))]):=by simp only[GU];rw[if_pos hn]
theorem atT:bh Tryz.prog 24 GU:=by
 refine gJ (s:=GU) (tp atO tn) Tryz.func24 rfl Tryz.results24 Tryz.ntmps24 ap1 ?_;intro args H v H1 h b9 hH;unfold GU at h;split at h
 .rename_i h0 t n b;split at h
  .rename_i hn;simp only[ar,bE]at h;obtain⟨rfl,rfl⟩:=h;refine⟨by simp,?_⟩;have q:=λH=>ayL (H:=H) hn;have bb:dF (H++[.dead,.dead,.dead,.vec 1 (bD (64*n.toNat) (.k .u8 0))])=true:=uk hH (by simp only[uT,J9,or_false,forall_eq_or_imp,forall_eq];exact⟨rfl,rfl,rfl,aeS rfl⟩);simp only[go_sem,seval,q];exact⟨by repeat' first|apply cf|(intro _;kernel_rfl)|kernel_rfl,cY (v:=.g (.i h0::.i t::.i n::.i b::.sl (H.length+3) 0 (64*n.toNat) (64*n.toNat)::J0)) (by simp only[AV.aj,bK,Sc.aj];simp[J0,Sc.aj]) (EP _ ⟨.inl rfl,.inl rfl,.inl rfl,.inr rfl,trivial⟩) bb (by simp)⟩
  .simp at h
 .simp at h
def oC(k op:Int):Int:=if k=2\/k=3 then 0 else if iY k op=0 then-1 else iY k op
theorem YB(h:67<=op/\op<=88):j8 op=4\/j8 op=8:=by
 obtain⟨k,rfl⟩:=kZ (show 0<=op by omega);have:∀k:Nat,k<89->67<=k->(j8 k=4\/j8 k=8):=by decide+kernel
 exact this k ω ω
theorem aqq(h:qW op=true):67<=op/\op<=88:=by
 unfold qW at h;repeat' split at h
 all_goals simp at h
 all_goals omega
theorem akM(h:rB op=true):67<=op/\op<=88:=by
 unfold rB at h;repeat' split at h
 all_goals simp at h
 all_goals omega
theorem ao8(h:qT op=true):67<=op/\op<=88:=by rw[Pq]at h;omega
def X6(args:List AV):Option AV:=match args with|[.g (.i k::.u a::.u b::.i c::.i s::.i op::.u d::.u o::.b lv::r)]=>if r.length=10/\r.all Sc.pf=true/\r.all Sc.one=true then some (.c (.i (oC k op)))else none|_=>none
theorem xQ{k a b c s op d o lv r}:X6 [.g (.i k::.u a::.u b::.i c::.i s::.i op::.u d::.u o::.b lv::r)]=if r.length=10/\r.all Sc.pf=true/\r.all Sc.one=true then some (.c (.i (oC k op)))else none:=rfl
theorem aup:cK Tryz.prog 74 X6:=by
 refine cR (tu adz (tu adA tn)) Tryz.func74 rfl Tryz.results74 Tryz.ntmps74 ?_;intro args v h;unfold X6 at h;split at h
 .rename_i k a b c s op d o lv r;split at h
  .rename_i hc;simp only[ar]at h;subst h;have pr:=hc.2.1;have lr:=hc.1;refine⟨by simp,by first|rfl|simp only[bK,dY,AV.pf,Sc.pf,c8, *],by first|rfl|simp only[bK,dY,AV.pf,Sc.pf,c8, *],?_⟩;have rt:r.take 10=r:=bQ ω;have ro:=hc.2.2;by_cases h2:k=2
   .subst h2;simp only[go_sem,seval,lr,oC]
   by_cases h3:k=3
   .subst h3;simp only[go_sem,seval,lr,oC]
   have e:oC k op=if iY k op=0 then-1 else iY k op:=by unfold oC;rw[if_neg ω]
   rw[e];by_cases h1:k=1
   .subst h1;simp only[go_sem,seval,lr,iY]
   by_cases h7:k=7
   .subst h7;simp only[go_sem,seval,lr,iY]
   by_cases h8:k=8
   .subst h8;simp only[go_sem,seval,lr,iY]
   by_cases h4:k=4
   .subst h4;have i1:(uB op=1)=(qT op=true):=Uz;cases hb:qT op
    .simp only[go_sem,seval,Av,Aw,lr,iY,i1,hb]
    .have z:=YB (ao8 hb);have z0:¬j8 op=0:=ω
     simp only[go_sem,seval,Av,Aw,lr,iY,i1,hb,z0]
   by_cases h5:k=5
   .subst h5;have i1:(uB op=2)=(qW op=true):=ao9;cases hb:qW op
    .simp only[go_sem,seval,Av,Aw,lr,iY,i1,hb]
    .have z:=YB (aqq hb);have z0:¬j8 op=0:=ω
     simp only[go_sem,seval,Av,Aw,lr,iY,i1,hb,z0]
   by_cases h6:k=6
   .subst h6;have i1:(uB op=3)=(rB op=true):=apa;cases hb:rB op
    .simp only[go_sem,seval,Av,Aw,lr,iY,i1,hb]
    .have z:=YB (akM hb);have z0:¬j8 op=0:=ω
     simp only[go_sem,seval,Av,Aw,lr,iY,i1,hb,z0]
   .have z:iY k op=0:=by unfold iY;rw[if_neg h1,if_neg h7,if_neg h8,if_neg h4,if_neg h5,if_neg h6]
    simp only[go_sem,seval,lr,z,h1,h2,h3,h4,h5,h6,h7,h8]
  .simp at h
 .simp at h
def sq(N:Nat)(x:BitVec 64)(n:Int):Bool:=decide (1<=n)&&(decide (2147483648<=x.toNat)&&(decide (iq x<N)&&decide (n<=((N-iq x:Nat):Int))))
theorem TJ{n:Nat}{x:BitVec 64}:sq (64*n) x m=hasB n x m:=rfl
def M1(args:List AV)(H:AH):Option AV:=match args with|[.g [.sl id off v N],.c (.u a),.c (.i n)]=>if N<=262144/\eC n then some (.c (.b (sq N a n)))else none|_=>none
theorem vu{H:AH}{id off v N:Nat}{a:BitVec 64}{n:Int}(h:N<=262144/\eC n):M1 [.g [.sl id off v N],.c (.u a),.c (.i n)] H=some (.c (.b (sq N a n))):=by simp only[M1];rw[if_pos h]
theorem auc:bh Tryz.prog 76 (λargs H=>(M1 args H).map λv=>(v,H)):=by
 refine jo (s:=M1) tn Tryz.func76 rfl Tryz.results76 Tryz.ntmps76 ?_;intro args H v h b9 hH;unfold M1 at h;split at h
 .rename_i id off v N a n;split at h
  .rename_i hn;obtain⟨hN,i1,i2⟩:=hn;simp only[ar]at h;subst h;refine⟨by simp,rfl,?_⟩;by_cases h1:n<1
   .have e:sq N a n=false:=by unfold sq;rw[decide_eq_false ω];rfl
    simp only[go_sem,seval,h1,e];exact aC _ _
   have eb:(a<2147483648#64)=(a.toNat<2147483648):=by rw[nP];rfl
   by_cases h2:a.toNat<2147483648
   .have e:sq N a n=false:=by unfold sq;rw[decide_eq_false (show¬2147483648<=a.toNat by omega)];simp
    simp only[go_sem,seval,h1,eb,h2,e];exact aC _ _
   have h3:=ajc (a:=a) ω;have e0:(aw 64 (N:Int)).toNat=N:=II ω;have e1:(aw 64 (N:Int)<=a-2147483648#64)=(N<=iq a):=by rw[sY,h3,e0]
   by_cases h4:N<=iq a
   .have e:sq N a n=false:=by unfold sq;rw[decide_eq_false (show¬iq a<N by omega)];simp
    simp only[go_sem,seval,h1,eb,h2,e1,h4,e];exact aC _ _
   .have e2:(a-2147483648#64).toInt=(iq a:Int):=by rw[x9,h3,if_pos ω]
    have e3:aA ((N:Int)-(iq a:Int))=((N-iq a:Nat):Int):=by rw[aq ω ω];omega
    have e:sq N a n=decide (n<=((N-iq a:Nat):Int)):=by unfold sq;rw[decide_eq_true ω,decide_eq_true ω,decide_eq_true (show iq a<N by omega)];simp
    simp only[go_sem,seval,h1,eb,h2,e1,h4,e2,e3,e];exact aC _ _
  .simp at h
 .simp at h
theorem avV{n:Nat}(hn:n<=4096){p:Pc}(h1:1<=p.n)(h8:p.n<=8)(hl:∀j:Int,0<=j->j<p.n->(p.a+aw 64 j)/64#64=p.a/64#64):hasB n p.a p.n=true↔∀j:Int,0<=j->j<p.n->sq (64*n) (p.a+aw 64 j) 1=true:=by
 constructor
 .intro h j j0 j1;have e:=yL hn h j0 j1;have h':=h;rw[rI]at h';have e0:(aw 64 j).toNat=j.toNat:=by rw[mf];omega
  have e2:(p.a+aw 64 j).toNat=p.a.toNat+j.toNat:=by
   rw[wU,e0];have:=p.a.isLt;rw[xJ]at h';omega
  rw[TJ,rI,e,e2];omega
 .intro h;have z:=h 0 ω ω;have z1:p.a+aw 64 0=p.a:=BitVec.add_zero _;rw[z1,TJ,rI]at z;have y:=h (p.n-1) ω ω;rw[TJ,rI]at y;have e0:(aw 64 (p.n-1)).toNat=(p.n-1).toNat:=by rw[mf];omega
  have z':=z;rw[xJ]at z';have e2:(p.a+aw 64 (p.n-1)).toNat=p.a.toNat+(p.n-1).toNat:=by
   rw[wU,e0];have:=p.a.isLt;omega
  rw[xJ,e2]at y;rw[rI];rw[xJ]at z|-;omega
theorem ah2{n:Nat}{B:Int->BitVec 64}{l:List Pc}(hn:n<=4096):∀{m:Int},0<=m->yy B l m->((l.all λp=>hasB n p.a p.n)=true↔∀i:Int,m<=i->i<m+jq l->sq (64*n) (B i) 1=true):=by induction l with
 |nil=>intro m _ _;simp only[dY,jq];exact⟨λ_ i h1 h2=>ω,λ_=>trivial⟩|cons p l ih=>
   intro m h0 h;obtain⟨a1,a2,a3,a4,a6⟩:=h;have ih:=ih ω a6;have t0:=Rc a6 0;rw[List.drop_zero]at t0;have pb:=avV hn a2 ω (λj j0 j1=>(a4 j j0 j1).2);rw[bK,aQ,ih,pb];simp only[jq];constructor
   .rintro⟨h1,h2⟩i i1 i2;by_cases c:i<m+p.n
    .have e:=(a4 (i-m) ω ω).1;rw[show m+(i-m)=i by omega]at e;rw[e];exact h1 _ ω ω
    .exact h2 i ω ω
   .intro h;refine⟨λj j0 j1=>?_,λi i1 i2=>h i ω ω⟩;have e:=(a4 j j0 j1).1;rw[<-e];exact h _ ω ω
theorem aqE{n:Nat}{b:BitVec 64}{c:Int}(hn:n<=4096)(h:dK c s=true):((mq a b c s).all λp=>hasB n p.a p.n)=true↔∀i:Int,0<=i->i<s->sq (64*n) (eI a b c i) 1=true:=by
 have:=ah2 hn (AS 0) (HZ (a:=a) (b:=b) h);rw[(H5 (a:=a) (b:=b) h).2.1,Int.zero_add]at this;exact this
def OD(k:Int)(a:BitVec 64)(c s op:Int):Bool:=if oC k op<0 then false else if oC k op=0 then(decide (s=1)||(decide (s=2)||(decide (s=4)||decide (s=8))))&&(decide (0<=c)&&decide (c<s))else decide (s=oC k op)&&(decide (c=0)&&decide (a%aw 64 (oC k op)=0#64))
theorem ans{k c:Int}:OD k a c s op=np k a c s op:=by
 have zr:=Q8 k op;unfold OD np oC;by_cases h:k=2\/k=3
 .rw[if_pos h,if_pos h,if_neg δ,if_pos rfl];rw[Bool.eq_iff_iff];simp only[VV,dK,aQ,gj,decide_eq_true_eq];omega
 .rw[if_neg h,if_neg h];by_cases hz:iY k op=0
  .rw[if_pos hz,if_pos δ,hz];rfl
  .rw[if_neg hz,if_neg ω,if_neg hz,decide_eq_true hz,gG]
def Ra(tb:List Sc):Prop:=tb.length=16/\tb.all Sc.pf=true/\tb.all Sc.one=true
def ED(args:List AV)(H:AH):Option AV:=match args with|[.g (.i h::.i t::.i n'::.i b'::.sl id off v N::tb),.g (.i k::.u a::.u b::.i c::.i s::.i op::.u d::.u o::.b lv::r)]=>open Classical in if nT r/\eC s/\Ra tb/\∃n,N=64*n/\n<=4096 then some (.c (.b (oh (N/64) k a b c s op)))else none|_=>none
theorem afC{H:AH}{tb:List Sc}(ht:Ra tb){h t n' b':Int}{id off v n:Nat}{k:Int}{a b:BitVec 64}{c s op:Int}{d o:BitVec 64}{lv:Bool}{r:List Sc}(hr:nT r)(hs:eC s)(hn:n<=4096):ED [.g (.i h::.i t::.i n'::.i b'::.sl id off v (64*n)::tb),.g (.i k::.u a::.u b::.i c::.i s::.i op::.u d::.u o::.b lv::r)] H=some (.c (.b (oh n k a b c s op))):=by
 simp only[ED];rw[if_pos ⟨hr,hs,ht,n,rfl,hn⟩,Nat.mul_div_cancel_left _ δ]
theorem adC:bh Tryz.prog 35 (λargs H=>(ED args H).map λv=>(v,H)):=by
 refine jo (s:=ED) (tu aup (tu VK (tu VN (tq auc tn)))) Tryz.func35 rfl Tryz.results35 Tryz.ntmps35 ?_;intro args H v h b9 hH;unfold ED at h;split at h
 .rename_i h0 t n' b' id off v N tb k a b c s op d o lv r;split at h
  .rename_i hc;obtain⟨⟨lr,pr,ro⟩,hs,ht,n,rfl,hn⟩:=hc;rw[Nat.mul_div_cancel_left _ δ]at h;simp only[ar]at h;subst h;have rt:r.take 10=r:=bQ ω;obtain⟨tl,tp,to⟩:=ht;have tt:tb.take 16=tb:=bQ ω;refine⟨by simp,rfl,?_⟩;have aD:id<H.length:=by simp only[bK,AV.aj,Sc.aj,aQ,decide_eq_true_eq]at b9;exact b9.1.2.2.2.2.1
   have eF:=ans (k:=k) (a:=a) (c:=c) (s:=s) (op:=op);have zn:¬oC k op=0->¬oC k op<0->(aw 64 (oC k op)=0#64)=False:=λh1 h2=>eq_false λe=>by
    have z1:=Q8 k op;have z2:oC k op<=8:=by
     unfold oC;split
     .omega
     .split<;>omega
    have:=congrArg BitVec.toNat e;rw[mf]at this;have e0:(0#64).toNat=0:=rfl;rw[e0]at this;omega
   cases hf:np k a c s op
   .have e:oh n k a b c s op=false:=by unfold oh;rw[hf];rfl
    rw[e];rw[hf]at eF;unfold OD at eF;by_cases h1:oC k op<0
    .simp only[go_sem,seval,xQ,vr,vt,vu,lr,pr,ro,rt,tl,to,h1];exact aC _ _
    by_cases h2:oC k op=0
    .rw[if_neg h1,if_pos h2]at eF;by_cases hx:s=1\/s=2\/s=4\/s=8
     .have x:((s=1)=True/\True)\/((s=1)=False/\(s=2)=True)\/((s=1)=False/\(s=2)=False/\(s=4)=True)\/((s=1)=False/\(s=2)=False/\(s=4)=False/\(s=8)=True):=by
       rcases hx with h|h|h|h
       .exact .inl ⟨eq_true h,trivial⟩
       .exact .inr (.inl ⟨eq_false ω,eq_true h⟩)
       .exact .inr (.inr (.inl ⟨eq_false ω,eq_false ω,eq_true h⟩))
       .exact .inr (.inr (.inr ⟨eq_false ω,eq_false ω,eq_false ω,eq_true h⟩))
      by_cases c0:c<0
      .rcases x with x|x|x|x;all_goals simp only[go_sem,seval,xQ,vr,vt,vu,lr,pr,ro,rt,tl,to,h1,h2,x,c0]
       all_goals exact aC _ _
      .have c1:s<=c:=by
        rcases hx with h|h|h|h;all_goals(rw[h]at eF|-;simp at eF;omega)
       rcases x with x|x|x|x;all_goals simp only[go_sem,seval,xQ,vr,vt,vu,lr,pr,ro,rt,tl,to,h1,h2,x,c0,c1]
       all_goals exact aC _ _
     .have y1:¬s=1:=λh=>hx (.inl h);have y2:¬s=2:=λh=>hx (.inr (.inl h));have y4:¬s=4:=λh=>hx (.inr (.inr (.inl h)));have y8:¬s=8:=λh=>hx (.inr (.inr (.inr h)));simp only[go_sem,seval,xQ,vr,vt,vu,lr,pr,ro,rt,tl,to,h1,h2,y1,y2,y4,y8];exact aC _ _
    .rw[if_neg h1,if_neg h2]at eF;have h3:0<oC k op:=ω
     have z:=zn h2 h1;by_cases x1:s=oC k op
     .by_cases x2:c=0
      .have x3:¬a%aw 64 (oC k op)=0#64:=by intro e;rw[decide_eq_true x1,decide_eq_true x2,decide_eq_true e]at eF;simp at eF
       have Nt:=eq_true x1;simp only[go_sem,seval,xQ,vr,vt,vu,lr,pr,ro,rt,tl,to,h1,h2,h3,z,Nt,x2,x3];exact aC _ _
      .have Nt:=eq_true x1;simp only[go_sem,seval,xQ,vr,vt,vu,lr,pr,ro,rt,tl,to,h1,h2,h3,z,Nt,x2];exact aC _ _
     .simp only[go_sem,seval,xQ,vr,vt,vu,lr,pr,ro,rt,tl,to,h1,h2,h3,z,x1];exact aC _ _
   .have hm:=D6 (b:=b) hf;have hs8:1<=s/\s<=8/\0<=c/\c<s:=by simpa[dK]using hm
    have e:oh n k a b c s op=(mq a b c s).all λp=>hasB n p.a p.n:=by unfold oh;rw[hf];rfl
    rw[e];have mb:=aqE (a:=a) (b:=b) hn hm;have bS:dF (H++[.own (.i h0::.i t::.i n'::.i b'::.sl id off v (64*n)::tb),.own (.i k::.u a::.u b::.i c::.i s::.i op::.u d::.u o::.b lv::r),.own [.u a,.u b,.i c,.i s]])=true:=uk hH (by
 simp only[uT,J9,or_false,forall_eq_or_imp,forall_eq,ae.cW,bK,Sc.aj,gG,aQ,decide_eq_true_eq,cj,cT,fa];exact⟨⟨ω,CZ _ tp⟩,CZ _ pr,rfl⟩);generalize((mq a b c s).all λp=>hasB n p.a p.n)=G at mb;rw[hf]at eF;unfold OD at eF;have h1:¬oC k op<0:=λh=>by rw[if_pos h]at eF;simp at eF
    by_cases h2:oC k op=0
    .rw[if_neg h1,if_pos h2]at eF;have c0:¬c<0:=ω
     have c1:¬s<=c:=ω
     simp only[aQ,gj,decide_eq_true_eq]at eF;have x:((s=1)=True/\True)\/((s=1)=False/\(s=2)=True)\/((s=1)=False/\(s=2)=False/\(s=4)=True)\/((s=1)=False/\(s=2)=False/\(s=4)=False/\(s=8)=True):=by
      rcases eF.1 with h|h|h|h
      .exact .inl ⟨eq_true h,trivial⟩
      .exact .inr (.inl ⟨eq_false ω,eq_true h⟩)
      .exact .inr (.inr (.inl ⟨eq_false ω,eq_false ω,eq_true h⟩))
      .exact .inr (.inr (.inr ⟨eq_false ω,eq_false ω,eq_false ω,eq_true h⟩))
     rcases x with x|x|x|x;all_goals simp only[go_sem,seval,xQ,vr,vt,vu,lr,pr,ro,rt,tl,to,h1,h2,x,c0,c1]
     all_goals
      rw[rz];refine⟨{j:Nat//(j:Int)<=s/\∀i:Nat,i<j->sq (64*n) (eI a b c i) 1=true},λj=>([(2,.c (.p H.length 0 0)),(3,.c (.p (H.length+1) 0 0)),(6,.c (.p (H.length+2) 0 0)),(7,.c (.i j.1))],H++[.own (.i h0::.i t::.i n'::.i b'::.sl id off v (64*n)::tb),.own (.i k::.u a::.u b::.i c::.i s::.i op::.u d::.u o::.b lv::r),.own [.u a,.u b,.i c,.i s]]),λj=>s.toNat-j.1,⟨0,ω,λi hi=>absurd hi (NC _)⟩,?_,?_⟩
      .exact Wk.wk (by simp[lo]) (by simp[Am.get]) (by simp[AV.aj,Sc.aj]) (aE _) bS
      .rintro⟨j,hj,aM⟩;by_cases aG:(j:Int)<s
       .have e2:aA ((j:Int)+1)=((j+1:Nat):Int):=by rw[aq ω ω];omega
        have e3:0<=c/\c<=8/\0<=(j:Int)/\(j:Int)<=8:=ω
        have q:=λH=>vu (H:=H) (id:=id) (off:=off) (v:=v) (N:=64*n) (a:=eI a b c j) (n:=1) ⟨ω,ω,ω⟩;cases hb:sq (64*n) (eI a b c j) 1
        .have g:G=false:=by
          cases e:G
          .rfl
          .rw[e]at mb;have:=mb.1 rfl j ω aG;rw[hb]at this;simp at this
         simp only[go_sem,seval,xQ,vr,vt,vu,lr,pr,ro,rt,tl,to,aG,e3,q,hb,g];exact aC _ _
        .simp only[go_sem,seval,xQ,vr,vt,vu,lr,pr,ro,rt,tl,to,aG,e2,e3,q,hb];exact⟨⟨j+1,ω,λi hi=>by
          rcases cX i j with h|h
          .exact aM i h
          .obtain rfl:i=j:=ω
           exact hb⟩,by simp only;omega,Wk.wk (by simp[lo]) (by simp[Am.get]) (by simp[AV.aj,Sc.aj]) (aE _) bS⟩
       .have g:G=true:=mb.2 λi i0 i1=>by
         obtain⟨i,rfl⟩:=kZ i0;exact aM i ω
        simp only[go_sem,seval,lr,ro,rt,tl,to,aG,g];exact aC _ _
    .rw[if_neg h1,if_neg h2]at eF;simp only[aQ,decide_eq_true_eq]at eF;obtain⟨x1,x2,x3⟩:=eF;have h3:0<oC k op:=ω
     have z:=zn h2 h1;have Nt:=eq_true x1;have x2':=eq_true x2;simp only[go_sem,seval,xQ,vr,vt,vu,lr,pr,ro,rt,tl,to,h1,h2,h3,z,Nt,x2',x3];all_goals
      rw[rz];refine⟨{j:Nat//(j:Int)<=s/\∀i:Nat,i<j->sq (64*n) (eI a b c i) 1=true},λj=>([(2,.c (.p H.length 0 0)),(3,.c (.p (H.length+1) 0 0)),(6,.c (.p (H.length+2) 0 0)),(7,.c (.i j.1))],H++[.own (.i h0::.i t::.i n'::.i b'::.sl id off v (64*n)::tb),.own (.i k::.u a::.u b::.i c::.i s::.i op::.u d::.u o::.b lv::r),.own [.u a,.u b,.i c,.i s]]),λj=>s.toNat-j.1,⟨0,ω,λi hi=>absurd hi (NC _)⟩,?_,?_⟩
      .exact Wk.wk (by simp[lo]) (by simp[Am.get]) (by simp[AV.aj,Sc.aj]) (aE _) bS
      .rintro⟨j,hj,aM⟩;by_cases aG:(j:Int)<s
       .have e2:aA ((j:Int)+1)=((j+1:Nat):Int):=by rw[aq ω ω];omega
        have e3:0<=c/\c<=8/\0<=(j:Int)/\(j:Int)<=8:=ω
        have q:=λH=>vu (H:=H) (id:=id) (off:=off) (v:=v) (N:=64*n) (a:=eI a b c j) (n:=1) ⟨ω,ω,ω⟩;cases hb:sq (64*n) (eI a b c j) 1
        .have g:G=false:=by
          cases e:G
          .rfl
          .rw[e]at mb;have:=mb.1 rfl j ω aG;rw[hb]at this;simp at this
         simp only[go_sem,seval,xQ,vr,vt,vu,lr,pr,ro,rt,tl,to,aG,e3,q,hb,g];exact aC _ _
        .simp only[go_sem,seval,xQ,vr,vt,vu,lr,pr,ro,rt,tl,to,aG,e2,e3,q,hb];exact⟨⟨j+1,ω,λi hi=>by
          rcases cX i j with h|h
          .exact aM i h
          .obtain rfl:i=j:=ω
           exact hb⟩,by simp only;omega,Wk.wk (by simp[lo]) (by simp[Am.get]) (by simp[AV.aj,Sc.aj]) (aE _) bS⟩
       .have g:G=true:=mb.2 λi i0 i1=>by
         obtain⟨i,rfl⟩:=kZ i0;exact aM i ω
        simp only[go_sem,seval,lr,ro,rt,tl,to,aG,g];exact aC _ _
  .simp at h
 .simp at h
def JT(R:List Sl)(l:BitVec 64):Nat->List Int|0=>[]|k+1=>if nZ R k l=true then JT R l k++[(k:Int)]else JT R l k
def YW(r:Option (List Sl))(l:BitVec 64):List Int:=match r with|some R=>JT R l 8|none=>[]
def aEc(args:List AV)(H:AH):Option (AV×AH):=match args with
 |[.c x,.c (.u l)]=>match G3 H x with
   |some r=>some (.c (.sl H.length 0 (YW r l).length (YW r l).length),H++[.vec 1 ((YW r l).map gI)])|none=>none
 |_=>none
def cH(R:List Sl):List Sc:=R.map (λx=>.b x.is)++R.map λx=>.u x.ln
variable {R:List Sl}
theorem ub(h:R.length=8):(cH R).length=16:=by simp[cH,h]
theorem Gw{R:List Sl}:(cH R).all Sc.pf=true:=by
 unfold cH;rw[fJ,vF,vF,aQ];exact⟨cE.2 λ_ _=>rfl,cE.2 λ_ _=>rfl⟩
theorem IY{n:Nat}:(cH R).all (Sc.aj n)=true:=by
 unfold cH;rw[fJ,vF,vF,aQ];exact⟨cE.2 λ_ _=>rfl,cE.2 λ_ _=>rfl⟩
theorem BT{R:List Sl}:(cH R).all Sc.one=true:=by
 unfold cH;rw[fJ,vF,vF,aQ];exact⟨cE.2 λ_ _=>rfl,cE.2 λ_ _=>rfl⟩
theorem IZ{k:Nat}{x:Sl}(hR:R.length=8)(h:R[k]?=some x):(cH R).getD k .any=.b x.is/\(cH R).getD (8+k) .any=.u x.ln:=by
 have hk:k<8:=by
  rcases cX k 8 with h1|h1
  .exact h1
  .rw[kf ω]at h;simp at h
 unfold cH;constructor
 .rw[bX,List.getElem?_append_left (by simp;omega),qL,h];rfl
 .rw[bX,List.getElem?_append_right (by simp;omega),ui,hR,show 8+k-8=k by omega,qL,h];rfl
theorem Ww{k:Nat}{q:Bool}(hR:R.length=8)(hk:k<8):wr (cH R) k [.b q]=(R.map (λx=>Sc.b x.is)).set k (.b q)++R.map λx=>Sc.u x.ln:=by
 rw[Dj (by rw[ub hR];omega)];unfold cH;rw[List.set_append_left _ _ (by simp;omega)]
theorem Wx{R:List Sl}{k:Nat}{q:Bool}{l:BitVec 64}(hR:R.length=8)(hk:k<8):wr ((R.map (λx=>Sc.b x.is)).set k (.b q)++R.map λx=>Sc.u x.ln) (8+k) [.u l]=cH (R.set k ⟨q,l⟩):=by
 rw[Dj (by simp;omega),List.set_append_right _ _ (by simp;omega)];simp only[iR,ui,hR,show 8+k-8=k by omega];unfold cH;rw[Dp,Dp]
theorem P8{S:List Sl}(hR:R.length=8)(hS:S.length=8)(h:cH R=cH S):R=S:=by
 apply List.ext_getElem ω;intro i h1 h2;have a:=IZ hR (cP h1);have b:=IZ hS (cP h2);rw[h]at a;have e1:=a.1.symm.trans b.1;have e2:=a.2.symm.trans b.2;simp only[Sc.b.injEq]at e1;simp only[Sc.u.injEq]at e2;cases hx:R[i];cases hy:S[i];rw[hx,hy]at e1 e2;simp only at e1 e2;rw[e1,e2]
def Aa(l:List Sc):Prop:=∃R:List Sl,R.length=8/\l=cH R
instance (l:List Sc):Decidable (Aa l):=Classical.propDecidable _
def vn(l:List Sc):List Sl:=if h:Aa l then Classical.choose h else[]
theorem I4(h:R.length=8):vn (cH R)=R:=by
 have hx:Aa (cH R):=⟨R,h,rfl⟩;unfold vn;rw[dif_pos hx];exact(P8 h (Classical.choose_spec hx).1 (Classical.choose_spec hx).2).symm
theorem UB(h:R.length=8):Aa (cH R):=⟨R,h,rfl⟩
def QK(args:List AV):Option AV:=match args with|[.g l,.c (.i h),.c (.u x)]=>if Aa l then some (.t [.g (cH (kL (vn l) h ⟨true,x⟩)),.c (.b (vf h))])else none|_=>none
theorem azh{l h x}:QK [.g l,.c (.i h),.c (.u x)]=if Aa l then some (.t [.g (cH (kL (vn l) h ⟨true,x⟩)),.c (.b (vf h))])else none:=rfl
theorem auU:cK Tryz.prog 95 QK:=by
 refine cR tn Tryz.func95 rfl Tryz.results95 Tryz.ntmps95 ?_;intro args v h;unfold QK at h;split at h
 .rename_i l h x;split at h
  .rename_i hc;simp only[ar]at h;subst h;obtain⟨R,hR,rfl⟩:=hc;have pl:=@Gw R;have p2:=@Gw (kL R h ⟨true,x⟩);rw[I4 hR];refine⟨by simp,by first|rfl|simp only[bK,dY,AV.pf,Sc.pf,c8, *],by first|rfl|simp only[bK,dY,AV.pf,Sc.pf,c8, *],?_⟩;have lR:=ub hR;have tk:(cH R).take 16=cH R:=by rw[<-lR,vH]
   have o1:=@BT R;cases hi:vf h
   .have e:kL R h ⟨true,x⟩=R:=by unfold kL;rw[if_neg (by rw[hi];decide)]
    simp only[vf,Bool.and_eq_false_iff,decide_eq_false_iff_not]at hi;rw[e];by_cases h1:h<0
    .simp only[go_sem,seval,h1,lR,tk,o1];done
    .have h2:7<h:=ω
     simp only[go_sem,seval,h1,h2,lR,tk,o1];done
   .obtain⟨k,rfl,hk⟩:=abZ hi;have e:kL R k ⟨true,x⟩=R.set k ⟨true,x⟩:=by unfold kL;rw[if_pos hi];rfl
    have w1:=Ww (q:=true) hR hk;have w2:=Wx (q:=true) (l:=x) hR hk;have l2:((R.map (λx=>Sc.b x.is)).set k (.b true)++R.map λx=>Sc.u x.ln).length=16:=by simp[hR]
    have l3:=ub (R:=R.set k ⟨true,x⟩) (by simp[hR]);have YH:(cH (R.set k ⟨true,x⟩)).take 16=cH (R.set k ⟨true,x⟩):=by rw[<-l3,vH]
    have o3:=@BT (R.set k ⟨true,x⟩);have h1:¬(k:Int)<0:=ω
    have h2:¬(7:Int)<k:=ω
    rw[e];(repeat(first|simp only[go_sem,seval,h1,h2,lR,w1,w2,l2,l3,YH,o3,aL]|simp(disch:=omega)only[w0]));done
  .simp at h
 .simp at h
def QI(args:List AV):Option AV:=match args with|[.g l,.c (.i h)]=>if Aa l then some (.t [.g (cH (kL (vn l) h z0)),.c (.b (uj (vn l) h).is)])else none|_=>none
theorem azf{l h}:QI [.g l,.c (.i h)]=if Aa l then some (.t [.g (cH (kL (vn l) h z0)),.c (.b (uj (vn l) h).is)])else none:=rfl
theorem auS:cK Tryz.prog 96 QI:=by
 refine cR tn Tryz.func96 rfl Tryz.results96 Tryz.ntmps96 ?_;intro args v h;unfold QI at h;split at h
 .rename_i l h;split at h
  .rename_i hc;simp only[ar]at h;subst h;obtain⟨R,hR,rfl⟩:=hc;have pl:=@Gw R;have p2:=@Gw (kL R h z0);rw[I4 hR];refine⟨by simp only[cT,fa];decide,by first|rfl|simp only[bK,dY,AV.pf,Sc.pf,c8, *],by first|rfl|simp only[bK,dY,AV.pf,Sc.pf,c8, *],?_⟩;have lR:=ub hR;have tk:(cH R).take 16=cH R:=by rw[<-lR,vH]
   have o1:=@BT R;cases hi:vf h
   .have e:kL R h z0=R:=by unfold kL;rw[if_neg (by rw[hi];decide)]
    have e2:(uj R h).is=false:=by unfold uj;rw[if_neg (by rw[hi];decide)];rfl
    simp only[vf,Bool.and_eq_false_iff,decide_eq_false_iff_not]at hi;rw[e,e2];by_cases h1:h<0
    ·(repeat(first|simp(maxSteps:=9^9)only[go_sem,seval,h1,lR,tk,o1]|simp(disch:=omega)only[aq,aV,aU,aT,aS]))
    .have h2:7<h:=ω
     (repeat(first|simp(maxSteps:=9^9)only[go_sem,seval,h1,h2,lR,tk,o1]|simp(disch:=omega)only[aq,aV,aU,aT,aS]))
   .obtain⟨k,rfl,hk⟩:=abZ hi;obtain⟨y,hy⟩:=QY hR hk;obtain⟨c0,c1⟩:=IZ hR hy;have e:kL R k z0=R.set k z0:=by unfold kL;rw[if_pos hi];rfl
    have e2:=So hk hy;have w1:=Ww (q:=false) hR hk;have w2:wr ((R.map (λx=>Sc.b x.is)).set k (.b false)++R.map λx=>Sc.u x.ln) (8+k) [.u 0#64]=cH (R.set k z0):=Wx (q:=false) (l:=0#64) hR hk;have l2:((R.map (λx=>Sc.b x.is)).set k (.b false)++R.map λx=>Sc.u x.ln).length=16:=by simp[hR]
    have l3:=ub (R:=R.set k z0) (by simp[hR]);have YH:(cH (R.set k z0)).take 16=cH (R.set k z0):=by rw[<-l3,vH]
    have o3:=@BT (R.set k z0);have h1:¬(k:Int)<0:=ω
    have h2:¬(7:Int)<k:=ω
    rw[e,e2];(repeat(first|simp only[go_sem,seval,h1,h2,lR,w1,w2,l2,l3,YH,o3,c0,aL]|simp(disch:=omega)only[w0]))
  .simp at h
 .simp at h
def NJ:List Sl:=bD 8 z0
theorem aha:NJ.length=8:=rfl
theorem Zo:cH NJ=[.b false,.b false,.b false,.b false,.b false,.b false,.b false,.b false,.u 0#64,.u 0#64,.u 0#64,.u 0#64,.u 0#64,.u 0#64,.u 0#64,.u 0#64]:=rfl
def QJ(args:List AV):Option AV:=match args with|[.g l,.c (.u x),.c (.i bG)]=>if Aa l then some (.t [.g (cH (jv (vn l) x bG 8)),.c (.i (uZ (vn l) x bG 8))])else none|_=>none
theorem azg{l x bG}:QJ [.g l,.c (.u x),.c (.i bG)]=if Aa l then some (.t [.g (cH (jv (vn l) x bG 8)),.c (.i (uZ (vn l) x bG 8))])else none:=rfl
theorem auT:cK Tryz.prog 148 QJ:=by
 refine cR tn Tryz.func148 rfl Tryz.results148 Tryz.ntmps148 ?_;intro args v h;unfold QJ at h;split at h
 .rename_i l x bG;split at h
  .rename_i hc;simp only[ar]at h;subst h;obtain⟨R,hR,rfl⟩:=hc;have pl:=@Gw R;have p2:=@Gw (jv R x bG 8);rw[I4 hR];refine⟨by simp,by first|rfl|simp only[bK,dY,AV.pf,Sc.pf,c8, *],by first|rfl|simp only[bK,dY,AV.pf,Sc.pf,c8, *],?_⟩;simp only[go_sem,seval];refine fB 8 (λk=>([(1,.c (.u x)),(2,.c (.i bG)),(3,.c (.p 0 0 0)),(6,.c (.p 1 0 0)),(8,.c (.i (uZ R x bG k))),(9,.c (.i k))],[.own (cH (jv R x bG k)),.own (cH NJ)])) ?_ λk hk=>?_
   .rw[Zo];exact Wk.wk (Nat.zero_le _) (by simp[Am.get,uZ]) (by simp[AV.aj,Sc.aj]) (aE _) (by simp only[bK,dY,ae.cW,IY,Sc.aj];rfl)
   .have kl:(jv R x bG k).length=8:=by rw[CP,hR]
    have cl:=aaz (R:=R) (l:=x) (bG:=bG) (k:=k);have lK:=ub kl;have tkK:(cH (jv R x bG k)).take 16=cH (jv R x bG k):=by rw[<-lK,vH]
    have oK:=@BT (jv R x bG k);have lZ:=ub aha;by_cases aG:k<8
    .have e0:(k:Int)<8:=ω
     have e4:(0:Int)<=k:=ω
     have e1:aA ((k:Int)+1)=((k+1:Nat):Int):=by rw[aq ω ω];omega
     have e2:aA ((uZ R x bG k:Int)+1)=((uZ R x bG k+1:Nat):Int):=by rw[aq ω ω];omega
     obtain⟨y,hy⟩:=QY hR aG;have hyK:(jv R x bG k)[k]?=some y:=by rw[Gb,if_neg ω];exact hy
     obtain⟨c0,c1⟩:=IZ kl hyK;have kS:jv R x bG (k+1)=if og R x bG k=true then(jv R x bG k).set k z0 else jv R x bG k:=rfl;have cS:uZ R x bG (k+1)=if og R x bG k=true then uZ R x bG k+1 else uZ R x bG k:=rfl;have kB:og R x bG k=(!decide ((k:Int)=bG)&&(y.is&&decide (y.ln=x))):=by unfold og nZ;rw[So aG hy,Bz aG];rfl
     by_cases hb:(k:Int)=bG
     .have rJ:=eq_true hb;rw[show og R x bG k=false by rw[kB];simp[hb],if_neg δ]at kS cS;simp only[go_sem,seval,rJ,e0,e1,c0,lK];refine⟨k+1,ω,ω,?_⟩;rw[kS,cS];exact Wk.wk (by simp[lo]) (by simp[Am.get]) (by simp[AV.aj,Sc.aj]) (aE _) (by simp only[bK,dY,ae.cW,IY,Sc.aj];rfl)
     .cases Iq:y.is
      .rw[show og R x bG k=false by rw[kB,Iq];simp,if_neg δ]at kS cS;rw[Iq]at c0;(repeat(first|simp only[go_sem,seval,hb,e0,e1,e4,c0,lK,aL]|simp(disch:=omega)only[w0]));refine⟨k+1,ω,ω,?_⟩;rw[kS,cS];exact Wk.wk (by simp[lo]) (by simp[Am.get]) (by simp[AV.aj,Sc.aj]) (aE _) (by simp only[bK,dY,ae.cW,IY,Sc.aj];rfl)
      .rw[Iq]at c0;by_cases hx:y.ln=x
       .have zZ:=eq_true hx;rw[show og R x bG k=true by rw[kB,Iq];simp[hb,hx],if_pos rfl]at kS cS;have w1:=Ww (R:=jv R x bG k) (q:=false) kl aG;have w2:wr (((jv R x bG k).map (λx=>Sc.b x.is)).set k (.b false)++(jv R x bG k).map λx=>Sc.u x.ln) (8+k) [.u 0#64]=cH ((jv R x bG k).set k z0):=Wx (q:=false) (l:=0#64) kl aG;have l2:(((jv R x bG k).map (λx=>Sc.b x.is)).set k (.b false)++(jv R x bG k).map λx=>Sc.u x.ln).length=16:=by simp[kl]
        (repeat(first|simp only[go_sem,seval,hb,zZ,e0,e1,e2,e4,c0,c1,lK,w1,w2,l2,aL]|simp(disch:=omega)only[w0]));refine⟨k+1,ω,ω,?_⟩;rw[kS,cS];exact Wk.wk (by simp[lo]) (by simp[Am.get]) (by simp[AV.aj,Sc.aj]) (aE _) (by simp only[bK,dY,ae.cW,IY,Sc.aj];rfl)
       .rw[show og R x bG k=false by rw[kB];simp[hx],if_neg δ]at kS cS;(repeat(first|simp only[go_sem,seval,hb,hx,e0,e1,e4,c0,c1,lK,aL]|simp(disch:=omega)only[w0]));refine⟨k+1,ω,ω,?_⟩;rw[kS,cS];exact Wk.wk (by simp[lo]) (by simp[Am.get]) (by simp[AV.aj,Sc.aj]) (aE _) (by simp only[bK,dY,ae.cW,IY,Sc.aj];rfl)
    .obtain rfl:k=8:=ω
     have dz:(cH NJ).drop 16=[]:=by rw[Zo];rfl
     simp only[go_sem,seval,lK,tkK,oK,lZ,dz]
  .simp at h
 .simp at h
def aEa(args:List AV)(H:AH):Option (AV×AH):=match args with|[.g l,.c (.u x)]=>if Aa l then some (.c (.sl H.length 0 (JT (vn l) x 8).length (JT (vn l) x 8).length),H++[.vec 1 ((JT (vn l) x 8).map gI)])else none|_=>none
structure Rd where
 k:Int
 h:Int
 l:BitVec 64
def alZ:List Sc->Option Rd|[.i k,.i h,.u l]=>some ⟨k,h,l⟩|_=>none
def doR(R:List Sl)(d:Rd):List Sl:=if d.k=0 then kL R d.h ⟨true,d.l⟩else if d.k=1 then kL R d.h z0 else jv R d.l d.h 8
instance aCP(a b:List Sc):Decidable (a=b):=Classical.propDecidable _
def aD6(args:List AV)(H:AH):Option (AV×AH):=match args with
 |[.c x,.g l,.g d]=>match G3 H x,alZ d with
   |some (some R),some e=>if l=cH R then some (.t [.g (cH (doR R e)),.c (.b true)],JJ H x (doR R e))else none|_,_=>none
 |_=>none
end
end Go.Proofs.YtghlfboliomhcaaGreat
