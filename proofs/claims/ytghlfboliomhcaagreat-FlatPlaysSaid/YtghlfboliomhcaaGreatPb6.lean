/- Layer 18: a bus: what stands in it, lines, what is read and written: contracts. -/
import Derived.Test.YtghlfboliomhcaaGreatPb5
import Derived.Test.YtghlfboliomhcaaGreatPb4
set_option maxRecDepth 100000
set_option maxHeartbeats 8000000
open And renaming intro->cn
open BitVec renaming ofInt->aw,toNat_ofInt->kU,eq_of_toNat_eq->lJ,toNat_add->vJ,ofNat->j7,toNat_ofNat->uT,toNat_umod->yq,toNat_udiv->vK,toNat_sub->yp,toNat_mul->By,le_def->rT,lt_def->mY,and_assoc->XE,ushiftRight_zero->Qz,toNat_ushiftRight->Gn,add_eq_or_of_and_eq_zero->Qw,eq_of_getLsbD_eq->zN,getLsbD_one->Qx,getLsbD_and->rS,getLsbD_or->vI,getLsbD_not->El,toInt_eq_toNat_cond->xe
open Bool renaming false_eq_true->dC,and_self->Mz,and_true->cX,false_and->nZ,true_and->gv,or_false->uU,and_false->rh,and_eq_true->aQ,or_eq_true->fR
open Int renaming toNat_natCast->aO,le_refl->zO,eq_ofNat_of_zero_le->kV
open List renaming append_inj->uh,append_nil->kD,length_append->cF,length_cons->cZ,length_nil->dY,length_set->js,take_of_length_le->bR,append_assoc->fo,take->bV,take_left'->qe,drop->cY,drop_left'->xf,drop_append->BA,drop_of_length_le->kE,nil_append->jV,range->oR,all_map->uW,all_eq_true->cD,all_append->fH,all_cons->bG,all_nil->dO,getD_eq_getElem?_getD->b9,getElem?_map->qf,getElem?_range->QE,ext_getElem?->vL,getElem?_set->qD,length_map->s5,getElem?_eq_none->jQ,getElem?_eq_getElem->cM,map_set->CE,mem_singleton->xm,cons_append->kX,replicate->bE,replicate_succ->xn,mem_cons->uj,not_mem_nil->Ji,take_length->s7
open List.cons renaming injEq->cK
open Nat renaming le_refl->aC,not_lt_zero->MF,and_two_pow_sub_one_eq_mod->afA,shiftRight_eq_div_pow->GF,lt_or_ge->cU,add_assoc->mH
open Option.some renaming inj->XL,injEq->ar
open Prod.mk renaming injEq->bD
namespace Go.Proofs.YtghlfboliomhcaaGreat
open Go.Am
set_option linter.all false
noncomputable section
section
variable {f:Nat}{fn:Func}{code:Code}{rs:List ResultVar}{n:Nat}{aa:je}(ht:jw Tryz.prog aa)(hf:Tryz.prog.funcs[f]?=some fn)(hb:fn.body=some code)(oH:fn.results=rs.toArray)(hn:fn.ntmps=n)(qQ:(fn.name== "runtime.NumGoroutine")=false:=by kernel_rfl)(aR:mf n vY code=true:=by kernel_rfl)
include ht hf hb oH hn qQ aR
theorem Ap{p:List AV->AH->AV->AH->Prop}:aZ Tryz.prog f (uw Tryz.prog aa f p):=aBj np ht hf hb oH hn qQ aR
theorem nn{p:List AV->AH->AV->Prop}:aZ Tryz.prog f (λargs H=>(lg Tryz.prog aa f p args H).map λv=>(v,H)):=aBi np ht hf hb oH hn qQ aR
end
variable {K' K1 X:AH}{t:Pt}{x y x':Sc}{j:Nat}{o:ae}{n s:Int}
section
structure Bs where
 n:Int
 c:Ck
 k:Pk
def fN(pid:Nat)(b:Bs):List Sc:=.p pid 0 0::.i b.n::(aT b.c++eh b.k)
structure mZ(b:Bs):Prop where
 c:gF b.c
 k:cG b.k
 n0:1<=b.n
 n1:b.n<=8
 nc:b.c.n=b.n
 nk:b.k.n=b.n
theorem YK{pid:Nat}{b:Bs}(h:mZ b):(fN pid b).length=88:=by simp[fN,fT h.c,zg h.k]
theorem ah2{p q:Nat}{a b:Bs}(ha:mZ a)(hb:mZ b)(h:fN p a=fN q b):p=q/\a=b:=by
 simp only[fN,cK,Sc.p.injEq,Sc.i.injEq,and_true]at h;obtain⟨h1,h2,h3⟩:=h;obtain⟨h4,h5⟩:=uh h3 (by rw[fT ha.c,fT hb.c]);have e1:=RH.i _ _ ha.c hb.c h4;have e2:=UY.i _ _ ha.k hb.k h5;refine⟨h1,?_⟩;cases a;cases b;simp only at h2 e1 e2;subst h2 e1 e2;rfl
structure Bd where
 id:Nat
 pid:Nat
 b:Bs
 t:Pt
 x:Sc
 y:Sc
structure BI(K:AH)(D:Bd):Prop where
 ho:hg K D.id=.own (fN D.pid D.b)ok:mZ D.b
 pi:PI K D.pid D.t D.x D.y
theorem YJ{K:AH}{x:Sc}{A B:List Int}(h1:u5 K x A)(h2:u5 K x B):A=B:=by
 have a:=M6 h1;rw[M6 h2]at a;exact(XL a).symm
theorem auq{K:AH}{h:Nat}{t u:Pt}{x y x' y':Sc}(h1:PI K h t x y)(h2:PI K h u x' y'):t=u/\x=x'/\y=y':=by
 have e:=h1.hp;rw[h2.hp]at e;simp only[ae.own.injEq,iy,iz,cK,Sc.k.injEq,Sc.b.injEq,true_and,and_true]at e;obtain⟨e1,e2,e3,e4,e5,e6,e7,e8,e9,JH,JI⟩:=e;subst JH JI;have a:=YJ h1.hx h2.hx;have b:=YJ h1.hy h2.hy;refine⟨?_,rfl,rfl⟩;cases t;cases u;simp only at e1 e2 e3 e4 e5 e6 e7 e8 e9 a b;subst e1 e2 e3 e4 e5 e6 e7 e8 e9 a b;rfl
theorem BI.uniq{K:AH}{D E:Bd}(h1:BI K D)(h2:BI K E)(h:D.id=E.id):D=E:=by
 have e:=h1.ho;rw[h,h2.ho]at e;obtain⟨e1,e2⟩:=ah2 h2.ok h1.ok (ae.own.inj e);have p:=h1.pi;rw[<-e1]at p;obtain⟨e3,e4,e5⟩:=auq p h2.pi;cases D;cases E;simp only at h e1 e2 e3 e4 e5;subst h e1 e2 e3 e4 e5;rfl
variable {K:AH}{D:Bd}
theorem BI.aD(h:BI K D):D.id<K.length:=dU (by rw[h.ho];rfl)
theorem BI.KH(h:BI K D):D.pid<K.length:=h.pi.lt
theorem BI.ne(h:BI K D):D.id≠D.pid:=λe=>by
 have a:=h.pi.hp;rw[<-e,h.ho]at a;have:=congrArg List.length (ae.own.inj a);rw[YK h.ok]at this;simp[iy]at this
theorem BI.nx(h:BI K D):aW D.x≠some D.id:=λe=>by have:=(qi h.pi.hx e).2;rw[h.ho]at this;simp at this
theorem BI.ny(h:BI K D):aW D.y≠some D.id:=λe=>by have:=(qi h.pi.hy e).2;rw[h.ho]at this;simp at this
theorem BI.l(h:BI K D):(fN D.pid D.b).length=88:=YK h.ok
theorem BI.ck(h:BI K D):r9 K (.p D.id 2 0)=some D.b.c:=RF (A:=[.p D.pid 0 0,.i D.b.n]) (B:=eh D.b.k) (by rw[h.ho];rfl) h.ok.c
theorem BI.pk(h:BI K D):qz K (.p D.id 20 0)=some D.b.k:=by
 have:=OV (H:=K) (id:=D.id) (A:=.p D.pid 0 0::.i D.b.n::aT D.b.c) (B:=[]) (c:=D.b.k) (by rw[h.ho,kD];rfl) h.ok.k;rw[show(Sc.p D.pid 0 0::.i D.b.n::aT D.b.c).length=20 by simp[fT h.ok.c]]at this;exact this
theorem BI.yF(h:BI K D)(d:Ck):yF K (.p D.id 2 0) d=K.set D.id (.own (fN D.pid {D.b with c:=d})):=by
 have:=D3 (enc:=aT) (n:=18) (H:=K) (id:=D.id) (A:=[.p D.pid 0 0,.i D.b.n]) (B:=eh D.b.k) (a:=D.b.c) (b:=d) (by rw[h.ho];rfl) (fT h.ok.c);exact this
theorem BI.pN(h:BI K D)(d:Pk):pN K (.p D.id 20 0) d=K.set D.id (.own (fN D.pid {D.b with k:=d})):=by
 have:=D3 (enc:=eh) (n:=68) (H:=K) (id:=D.id) (A:=.p D.pid 0 0::.i D.b.n::aT D.b.c) (B:=[]) (a:=D.b.k) (b:=d) (by rw[h.ho,kD];rfl) (zg h.ok.k);rw[show(Sc.p D.pid 0 0::.i D.b.n::aT D.b.c).length=20 by simp[fT h.ok.c],kD]at this;exact this
theorem BI.app(h:BI K D)(X:AH):BI (K++X) D:=⟨by rw[mO h.aD];exact h.ho,h.ok,UR h.pi⟩
theorem OU{h:Nat}(hP:PI K h t x y)(h0:hg K' h=hg K h)(h1:∀i,aW x=some i->hg K' i=hg K i)(h2:∀i,aW y=some i->hg K' i=hg K i):PI K' h t x y:=⟨by rw[h0];exact hP.hp,Ad hP.hx h1,Ad hP.hy h2,hP.ne⟩
theorem BI.set{b:Bs}(h:BI K D)(hb:mZ b):BI (K.set D.id (.own (fN D.pid b))) {D with b:=b}:=⟨jj h.aD,hb,OU h.pi (fg h.ne) (λi hi=>fg (λe=>h.nx (by rw[e];exact hi))) (λi hi=>fg (λe=>h.ny (by rw[e];exact hi)))⟩
theorem BI.other(h:BI K D)(h0:j≠D.id)(h1:j≠D.pid)(h2:aW D.x≠some j)(h3:aW D.y≠some j):BI (K.set j o) D:=⟨by rw[fg h0];exact h.ho,h.ok,OU h.pi (fg h1) (λi hi=>fg (λe=>h2 (by rw[e];exact hi))) (λi hi=>fg (λe=>h3 (by rw[e];exact hi)))⟩
structure BK(K K':AH)(D D':Bd):Prop where
 id:D'.id=D.id
 pid:D'.pid=D.pid
 len:K.length<=K'.length
 fF:∀k,k<K.length->k≠D.id->k≠D.pid->aW D.x≠some k->aW D.y≠some k->hg K' k=hg K k
 fx:∀i,aW D'.x=some i->aW D.x=some i\/K.length<=i
 fy:∀i,aW D'.y=some i->aW D.y=some i\/K.length<=i
theorem BK.refl:BK K K D D:=⟨rfl,rfl,aC _,λ_ _ _ _ _ _=>rfl,λ_ h=>.inl h,λ_ h=>.inl h⟩
theorem BK.trans{K2:AH}{D1 D2:Bd}(h1:BK K K1 D D1)(h2:BK K1 K2 D1 D2):BK K K2 D D2:=by
 have hl:=h1.len;refine⟨h2.id.trans h1.id,h2.pid.trans h1.pid,Nat.le_trans h1.len h2.len,λk k0 k1 k2 k3 k4=>?_,λi hi=>?_,λi hi=>?_⟩
 .rw[h2.fF k ω (by rw[h1.id];exact k1) (by rw[h1.pid];exact k2) (λe=>(h1.fx k e).elim k3 ω) (λe=>(h1.fy k e).elim k4 ω)];exact h1.fF k k0 k1 k2 k3 k4
 .rcases h2.fx i hi with e|e
  .exact h1.fx i e
  .exact .inr ω
 .rcases h2.fy i hi with e|e
  .exact h1.fy i e
  .exact .inr ω
theorem BK.cut{D1:Bd}(h:BK (K++X) K1 D D1):BK K K1 D D1:=by
 have hl:=h.len;simp only[cF]at hl;refine⟨h.id,h.pid,ω,λk k0 k1 k2 k3 k4=>?_,λi hi=>?_,λi hi=>?_⟩
 .rw[h.fF k (by simp only[cF];omega) k1 k2 k3 k4,mO k0]
 .rcases h.fx i hi with e|e
  .exact .inl e
  .simp only[cF]at e;exact .inr ω
 .rcases h.fy i hi with e|e
  .exact .inl e
  .simp only[cF]at e;exact .inr ω
theorem BK.app:BK K (K++X) D D:=⟨rfl,rfl,by simp,λk k0 _ _ _ _=>mO k0,λ_ h=>.inl h,λ_ h=>.inl h⟩
theorem BI.IV(h:BI K D)(b:Bs):BK K (K.set D.id (.own (fN D.pid b))) D {D with b:=b}:=⟨rfl,rfl,by simp,λk _ k1 _ _ _=>fg (Ne.symm k1),λ_ h=>.inl h,λ_ h=>.inl h⟩
theorem BI.port{t':Pt}{y':Sc}(h:BI K D)(hP:PI K' D.pid t' x' y')(hk:Kp K K' D.pid D.x D.y x' y'):BI K' {D with t:=t',x:=x',y:=y'}/\BK K K' D {D with t:=t',x:=x',y:=y'}:=⟨⟨by rw[hk.fF _ h.aD h.ne h.nx h.ny];exact h.ho,h.ok,hP⟩,⟨rfl,rfl,hk.len,λk k0 _ k2 k3 k4=>hk.fF k k0 k2 k3 k4,hk.fx,hk.fy⟩⟩
theorem BK.other{D1:Bd}(h:BK K K1 D D1)(hj:K.length<=j):BK K (K1.set j o) D D1:=⟨h.id,h.pid,by simpa using h.len,λk k0 k1 k2 k3 k4=>by rw[fg ω];exact h.fF k k0 k1 k2 k3 k4,h.fx,h.fy⟩
structure Bp where
 d:Int
 o:BitVec 64
 s:Int
def kC(p:Bp):List Sc:=[.i p.d,.u p.o,.i p.s]
theorem aeJ{p q:Bp}(h:kC p=kC q):p=q:=by
 simp only[kC,cK,Sc.i.injEq,Sc.u.injEq,and_true]at h;obtain⟨h1,h2,h3⟩:=h;cases p;cases q;simp only at h1 h2 h3;subst h1 h2 h3;rfl
def GP(n:Int)(o:BitVec 64)(s:Int):Bool:=!decide ((cb (iH n).n o s).k=0)
def HV(n:Int)(o:BitVec 64)(s:Int):Bool:=!decide ((bJ (iE n).n o s).k=0)
def gV(n:Int)(a:BitVec 64)(s:Int):Bp:=if 33554432#64<=a/\GP n (a-33554432#64) s=true then⟨1,a-33554432#64,s⟩else if 201326592#64<=a/\HV n (a-201326592#64) s=true then⟨2,a-201326592#64,s⟩else if 268435456#64<=a/\(1<=n/\n<=8)/\(a-268435456#64<8#64/\s=1)then⟨3,a-268435456#64,s⟩else⟨0,0#64,0⟩
theorem aij{o:BitVec 64}:VE [.c (.i n),.c (.u o),.c (.i s)]=some (.c (.b (GP n o s))):=rfl
theorem aup{o:BitVec 64}:Wg [.c (.i n),.c (.u o),.c (.i s)]=some (.c (.b (HV n o s))):=rfl
theorem ahE(n:Int)(a:BitVec 64)(s:Int):gV n a s=(if 33554432#64<=a/\GP n (a-33554432#64) s=true then⟨1,a-33554432#64,s⟩else if 201326592#64<=a/\HV n (a-201326592#64) s=true then⟨2,a-201326592#64,s⟩else if 268435456#64<=a/\(1<=n/\n<=8)/\(a-268435456#64<8#64/\s=1)then⟨3,a-268435456#64,s⟩else⟨0,0#64,0⟩):=rfl
def Lm(args:List AV):Option AV:=match args with|[.c (.i n),.c (.u a),.c (.i s)]=>some (.g (kC (gV n a s)))|_=>none
theorem adY{n a s}:Lm [.c (.i n),.c (.u a),.c (.i s)]=some (.g (kC (gV n a s))):=rfl
theorem abN:cE Tryz.prog 84 Lm:=by
 refine cN (tu aqY (tu ar4 (tu arl tn))) Tryz.func84 rfl Tryz.results84 Tryz.ntmps84 ?_;intro args v h;unfold Lm at h;split at h
 .rename_i n a s;simp only[ar]at h;subst h;refine⟨by simp,rfl,rfl,?_⟩;have p1:=aij (n:=n) (o:=a-33554432#64) (s:=s);have p2:=aup (n:=n) (o:=a-201326592#64) (s:=s);have p3:=awI (off:=a-268435456#64) (n:=s);rw[ahE];generalize GP n (a-33554432#64) s=C at*;generalize HV n (a-201326592#64) s=Q at*;have t1:((33554432#64<=a)=True/\C=true)\/((33554432#64<=a)=True/\C=false)\/(33554432#64<=a)=False:=by rcases Classical.propComplete (33554432#64<=a)with h|h<;>cases C<;>simp[h]
  have t2:((201326592#64<=a)=True/\Q=true)\/((201326592#64<=a)=True/\Q=false)\/(201326592#64<=a)=False:=by rcases Classical.propComplete (201326592#64<=a)with h|h<;>cases Q<;>simp[h]
  have t3:(268435456#64<=a)=False\/((268435456#64<=a)=True/\¬1<=n)\/((268435456#64<=a)=True/\1<=n/\¬n<=8)\/((268435456#64<=a)=True/\1<=n/\n<=8):=by rcases Classical.propComplete (268435456#64<=a)with h|h<;>by_cases h1:1<=n<;>by_cases h2:n<=8<;>simp[h,h1,h2]
  rcases t1 with⟨a1,rfl⟩|⟨a1,rfl⟩|a1
  .simp only[go_sem,seval,p1,a1,kC,true_and,and_true,false_and,and_false,if_true,if_false,dC]
  all_goals rcases t2 with⟨a2,rfl⟩|⟨a2,rfl⟩|a2
  any_goals(simp only[go_sem,seval,p1,p2,a1,a2,kC,true_and,and_true,false_and,and_false,if_true,if_false,dC];done)
  all_goals rcases t3 with a3|⟨a3,n1⟩|⟨a3,n1,n2⟩|⟨a3,n1,n2⟩
  any_goals((repeat(first|simp only[go_sem,seval,p1,p2,a1,a2,a3,n1,n2,kC,true_and,and_true,false_and,and_false,if_true,if_false,dC]|simp(disch:=omega)only[w0]));done)
  any_goals((repeat(first|simp only[go_sem,seval,p1,p2,a1,a2,a3,n1,kC,true_and,and_true,false_and,and_false,if_true,if_false,dC]|simp(disch:=omega)only[w0]));done)
  any_goals(simp only[go_sem,seval,p1,p2,a1,a2,a3,kC,true_and,and_true,false_and,and_false,if_true,if_false,dC];done)
  all_goals rcases Classical.propComplete (a-268435456#64<8#64)with a4|a4
  all_goals rcases Classical.propComplete (s=1)with s1|s1
  all_goals simp only[go_sem,seval,p1,p2,p3,a1,a2,a3,a4,n1,n2,s1,kC,true_and,and_true,false_and,and_false,if_true,if_false,dC]
 .simp at h
def Ps(args:List AV):Option AV:=match args with|[.c (.i n),.c (.u a),.c (.i s)]=>some (.c (.b (!decide ((gV n a s).d=0))))|_=>none
theorem aqP:cE Tryz.prog 72 Ps:=by
 refine cN (tu abN tn) Tryz.func72 rfl Tryz.results72 Tryz.ntmps72 ?_;intro args v h;unfold Ps at h;split at h
 .rename_i n a s;simp only[ar]at h;subst h;refine⟨by simp,rfl,rfl,?_⟩;have e:(gV n a s).d=0->gV n a s=⟨0,0#64,0⟩:=λh=>by
   unfold gV at h|-;repeat' split at h
   all_goals simp at h
   rename_i h1 h2 h3;rw[if_neg h1,if_neg h2,if_neg h3]
  by_cases h:(gV n a s).d=0
  .have e:=e h;simp only[go_sem,seval,adY,e,kC]
  .simp only[go_sem,seval,adY,kC,h]
 .simp at h
end
section
variable {H:AH}{D:Bd}
theorem aip(c:Ck)(a:Ca)(z:Int)(v:BitVec 64):(ka c a z v).n=c.n:=by
 unfold ka xz;repeat' split
 all_goals rfl
theorem YX(c:Ck)(n:Int):(nJ c n).n=c.n:=by
 unfold nJ;split<;>rfl
theorem acF(c:Pk)(a:Pa):(nE c a).n=c.n:=by
 unfold nE;split<;>rfl
theorem acH(c:Pk)(a:Pa)(v:BitVec 64):(iZ c a v).n=c.n:=by
 unfold iZ sV;repeat' split
 all_goals rfl
theorem OW(c:Pk)(s:Int)(on:Bool):(fP c s on).n=c.n:=by
 unfold fP sV;repeat' split
 all_goals rfl
theorem mZ.ck{b:Bs}(h:mZ b){c:Ck}(hc:gF c)(hn:c.n=b.c.n):mZ {b with c:=c}:=⟨hc,h.k,h.n0,h.n1,hn.trans h.nc,h.nk⟩
theorem mZ.pk{b:Bs}(h:mZ b){k:Pk}(hk:cG k)(hn:k.n=b.k.n):mZ {b with k:=k}:=⟨h.c,hk,h.n0,h.n1,h.nc,hn.trans h.nk⟩
def oZ(b:Bs)(h:Int):BitVec 64:=if h<0\/b.n<=h then 0#64 else(if kx b.k (2*h+1)=true then(if kx b.k (2*h)=true then ko b.c h|||2048#64 else ko b.c h)|||512#64 else(if kx b.k (2*h)=true then ko b.c h|||2048#64 else ko b.c h))
def acU(args:List AV)(H:AH)(v:AV):Prop:=(∀h,args=[.c .dt,.c (.i h)]->v=.c (.u 0#64))/\∀D h,args=[.c (.p D.id 0 0),.c (.i h)]->BI H D->v=.c (.u (oZ D.b h))
def FT:List AV->AH->Option AV:=lg Tryz.prog [(139,.fq Ii),(140,.fq IG)] 86 acU
theorem abO:aZ Tryz.prog 86 (λargs H=>(FT args H).map λv=>(v,H)):=nn (tq aqZ (tq ar6 tn)) Tryz.func86 rfl Tryz.results86 Tryz.ntmps86
theorem VD(hB:BI H D)(h:Int):FT [.c (.p D.id 0 0),.c (.i h)] H=some (.c (.u (oZ D.b h))):=by
 have:∃v,FT [.c (.p D.id 0 0),.c (.i h)] H=some v/\acU [.c (.p D.id 0 0),.c (.i h)] H v:=by
  unfold FT;apply mu (v:=.c (.u (oZ D.b h))) Tryz.func86 rfl Tryz.results86 Tryz.ntmps86 (by simp)
  .exact λ_ _=>rfl
  .intro _ _;have ho:=hB.ho;have ll:=hB.l;have d0:(fN D.pid D.b).getD 0 .any=.p D.pid 0 0:=rfl;have d1:(fN D.pid D.b).getD 1 .any=.i D.b.n:=rfl;have n8:=hB.ok.n1;have cl:=awr hB.ck (n:=h);have pl:=λk=>aw7 hB.pk (k:=k);by_cases h0:h<0
   .have e:oZ D.b h=0#64:=if_pos (.inl h0);rw[e];simp only[go_sem,seval,h0];exact aE _
   by_cases h1:D.b.n<=h
   .have e:oZ D.b h=0#64:=if_pos (.inr h1);rw[e];simp only[go_sem,seval,ho,ll,d1,h0,h1];exact aE _
   have e1:az (2*h)=2*h:=aq ω ω;have e2:az (2*h+1)=2*h+1:=aq ω ω;have pl1:=pl (2*h);have pl2:=pl (2*h+1);have e:oZ D.b h=(if kx D.b.k (2*h+1)=true then(if kx D.b.k (2*h)=true then ko D.b.c h|||2048#64 else ko D.b.c h)|||512#64 else(if kx D.b.k (2*h)=true then ko D.b.c h|||2048#64 else ko D.b.c h)):=if_neg ω;rw[e];cases h2:kx D.b.k (2*h);all_goals rw[h2]at pl1
   all_goals cases h3:kx D.b.k (2*h+1)
   all_goals rw[h3]at pl2
   all_goals simp only[go_sem,seval,ho,ll,d0,d1,h0,h1,e1,e2,cl,pl1,pl2,dC,if_true,if_false]
   all_goals exact aE _
  .refine⟨λ_ he=>by simp at he,λE k he hE=>?_⟩;simp only[cK,AV.c.injEq,Sc.p.injEq,Sc.i.injEq,and_true]at he;obtain⟨e1,rfl⟩:=he;rw[hB.uniq hE e1]
 obtain⟨v,h1,h2⟩:=this;rw[h1,h2.2 D h rfl hB]
end
variable {H1:AH}
section
variable {H:AH}{D:Bd}
def lE(v:BitVec 64):Int:=IntKind.u8.wrap (v.toNat:Int)
def og(D:Bd)(p:Bp):Bs:=if p.d=2 then{D.b with k:=nE D.b.k (bJ D.b.k.n p.o p.s)}else D.b
def lU(D:Bd)(p:Bp):Pt:=if p.d=1\/p.d=2 then D.t else(fC D.t p.o).1
def mJ(D:Bd)(p:Bp):BitVec 64:=if p.d=1 then um D.b.c (cb D.b.c.n p.o p.s) p.s else if p.d=2 then nV D.b.k (bJ D.b.k.n p.o p.s)else aw 64 (fC D.t p.o).2.1
def o0(D:Bd)(p:Bp)(v:BitVec 64):Bs:=if p.d=1 then{D.b with c:=ka D.b.c (cb D.b.c.n p.o p.s) p.s v}else if p.d=2 then{D.b with k:=iZ D.b.k (bJ D.b.k.n p.o p.s) v}else D.b
def lV(D:Bd)(p:Bp)(v:BitVec 64):Pt:=if p.d=1\/p.d=2 then D.t else(fQ D.t p.o (lE v)).1
theorem Ys(h:mZ D.b)(p:Bp):mZ (og D p):=by
 unfold og;split
 .exact h.pk (acG h.k _) (acF _ _)
 .exact h
theorem Rk(h:mZ D.b)(p:Bp)(v:BitVec 64):mZ (o0 D p v):=by
 unfold o0;repeat' split
 .exact h.ck (RG h.c _ _ _) (aip _ _ _ _)
 .exact h.pk (UZ h.k _ _) (acH _ _ _)
 .exact h
def qE(H H1:AH)(D:Bd)(b:Bs)(t:Pt):Prop:=∃x y,BI H1 {D with b:=b,t:=t,x:=x,y:=y}/\BK H H1 D {D with b:=b,t:=t,x:=x,y:=y}
def CI(t:Pt):Prop:=t.A.length<=1000000/\t.B.length<=1000000
def U6(args:List AV)(H:AH)(v:AV)(H1:AH):Prop:=∀D p,args=[.c (.p D.id 0 0),.g (kC p)]->BI H D->v=.c (.u (mJ D p))/\qE H H1 D (og D p) (lU D p)/\fj H H1
def FU:List AV->AH->Option (AV×AH):=uw Tryz.prog [(130,.fq Ik),(131,.fp DN),(132,.fp Bj)] 83 U6
theorem aqT:aZ Tryz.prog 83 FU:=Ap (tq aq3 (tp ar8 (tp as7 tn))) Tryz.func83 rfl Tryz.results83 Tryz.ntmps83
theorem Rv{p:Bp}{v:AV}(hB:BI H D)(h1:v=.c (.u (mJ D p)))(h2:qE H H1 D (og D p) (lU D p))(h3:fj H H1):U6 [.c (.p D.id 0 0),.g (kC p)] H v H1:=by
 intro E q he hE;simp only[cK,AV.c.injEq,AV.g.injEq,Sc.p.injEq,and_true]at he;obtain⟨e1,e2⟩:=he;obtain rfl:=aeJ e2;obtain rfl:=hB.uniq hE e1;exact⟨h1,h2,h3⟩
theorem awm(hB:BI H D)(hf:CI D.t)(p:Bp)(hp:p.d=1\/p.d=2\/p.d=3):∃H1,FU [.c (.p D.id 0 0),.g (kC p)] H=some (.c (.u (mJ D p)),H1)/\H.length<=H1.length/\qE H H1 D (og D p) (lU D p)/\fj H H1:=by
 have:∃v H1,FU [.c (.p D.id 0 0),.g (kC p)] H=some (v,H1)/\H.length<=H1.length/\U6 [.c (.p D.id 0 0),.g (kC p)] H v H1:=by
  obtain⟨d,o,s⟩:=p;simp only at hp;have hA:=hB.app [.own [.i d,.u o,.i s]];have ho:=hA.ho;have j3:=hB.ho;have ll:=hB.l;have d0:(fN D.pid D.b).getD 0 .any=.p D.pid 0 0:=rfl;have aD:=hB.aD;have fO:∀X,hg (H++X) D.id=.own (fN D.pid D.b):=λX=>(hB.app X).ho;rcases hp with rfl|rfl|rfl
  .have cr:=awt hA.ck (off:=o) (sz:=s);unfold FU;apply ik (v:=.c (.u (mJ D ⟨1,o,s⟩))) Tryz.func83 rfl Tryz.results83 Tryz.ntmps83 (by simp)
   .intro _ _;rw[show mJ D ⟨1,o,s⟩=um D.b.c (cb D.b.c.n o s) s from rfl];simp only[go_sem,seval,kC,fO,ll,cr];(repeat' first|apply cn|(intro _;kernel_rfl)|kernel_rfl);exact aN
   .simp
   .exact Rv hB rfl ⟨D.x,D.y,hB.app _,BK.app⟩ (jr rfl)
  .have pr:=aw9 hA.pk (off:=o) (sz:=s);rw[hA.pN]at pr;have hS:=hA.set (b:=og D ⟨2,o,s⟩) (Ys hB.ok _);have hK:=hA.IV (og D ⟨2,o,s⟩);have e:og D ⟨2,o,s⟩={D.b with k:=nE D.b.k (bJ D.b.k.n o s)}:=rfl;rw[<-e]at pr;unfold FU;apply ik (v:=.c (.u (mJ D ⟨2,o,s⟩))) Tryz.func83 rfl Tryz.results83 Tryz.ntmps83 (by simp)
   .intro _ _;rw[show mJ D ⟨2,o,s⟩=nV D.b.k (bJ D.b.k.n o s)from rfl];simp only[go_sem,seval,kC,fO,ll,pr];(repeat' first|apply cn|(intro _;kernel_rfl)|kernel_rfl);exact aN
   .simp
   .exact Rv hB rfl ⟨D.x,D.y,hS,hK.cut⟩ (iw (jr rfl) (jT λ_=>rfl))
  .obtain⟨K',x',h1,h2,h3⟩:=au0 hA.pi o hf.1;obtain⟨g1,g2⟩:=hA.port h2 h3;unfold FU;apply ik (v:=.c (.u (mJ D ⟨3,o,s⟩))) Tryz.func83 rfl Tryz.results83 Tryz.ntmps83 (by simp)
   .intro _ _;rw[show mJ D ⟨3,o,s⟩=aw 64 (fC D.t o).2.1 from rfl];simp only[go_sem,seval,kC,fO,ll,d0,h1];(repeat' first|apply cn|(intro _;kernel_rfl)|kernel_rfl);exact aN
   .have:=g2.len;simp at this;omega
   .exact Rv hB rfl ⟨x',D.y,g1,g2.cut⟩ (iw (jr rfl) (apW h1))
 obtain⟨v,H1,h1,h2,h3⟩:=this;obtain⟨rfl,h4⟩:=h3 D p rfl hB;exact⟨H1,h1,h2,h4⟩
def U7(args:List AV)(H:AH)(v:AV)(H1:AH):Prop:=∀D p w,args=[.c (.p D.id 0 0),.g (kC p),.c (.u w)]->BI H D->v=.t []/\qE H H1 D (o0 D p w) (lV D p w)/\fj H H1
def FV:List AV->AH->Option (AV×AH):=uw Tryz.prog [(136,.fp DE),(137,.fp DO),(138,.fp Bk)] 85 U7
theorem aqX:aZ Tryz.prog 85 FV:=Ap (tp aq6 (tp asa (tp atf tn))) Tryz.func85 rfl Tryz.results85 Tryz.ntmps85
theorem Rw{p:Bp}{w:BitVec 64}{v:AV}(hB:BI H D)(h1:v=.t [])(h2:qE H H1 D (o0 D p w) (lV D p w))(h3:fj H H1):U7 [.c (.p D.id 0 0),.g (kC p),.c (.u w)] H v H1:=by
 intro E q w' he hE;simp only[cK,AV.c.injEq,AV.g.injEq,Sc.p.injEq,Sc.u.injEq,and_true]at he;obtain⟨e1,e2,rfl⟩:=he;obtain rfl:=aeJ e2;obtain rfl:=hB.uniq hE e1;exact⟨h1,h2,h3⟩
theorem awq(hB:BI H D)(hf:CI D.t)(p:Bp)(hp:p.d=1\/p.d=2\/p.d=3)(w:BitVec 64):∃H1,FV [.c (.p D.id 0 0),.g (kC p),.c (.u w)] H=some (.t [],H1)/\H.length<=H1.length/\qE H H1 D (o0 D p w) (lV D p w)/\fj H H1:=by
 have:∃v H1,FV [.c (.p D.id 0 0),.g (kC p),.c (.u w)] H=some (v,H1)/\H.length<=H1.length/\U7 [.c (.p D.id 0 0),.g (kC p),.c (.u w)] H v H1:=by
  obtain⟨d,o,s⟩:=p;simp only at hp;have hA:=hB.app [.own [.i d,.u o,.i s]];have ll:=hB.l;have d0:(fN D.pid D.b).getD 0 .any=.p D.pid 0 0:=rfl;have fO:∀X,hg (H++X) D.id=.own (fN D.pid D.b):=λX=>(hB.app X).ho;rcases hp with rfl|rfl|rfl
  .have cw:=aww hA.ck (off:=o) (sz:=s) (v:=w);rw[hA.yF]at cw;have e:o0 D ⟨1,o,s⟩ w={D.b with c:=ka D.b.c (cb D.b.c.n o s) s w}:=rfl;rw[<-e]at cw;unfold FV;apply ik (v:=.t []) Tryz.func85 rfl Tryz.results85 Tryz.ntmps85 (by simp)
   .intro _ _;simp only[go_sem,seval,kC,fO,ll,cw];(repeat' first|apply cn|(intro _;kernel_rfl)|kernel_rfl);exact aN
   .simp
   .exact Rw hB rfl ⟨D.x,D.y,hA.set (Rk hB.ok _ _),(hA.IV _).cut⟩ (iw (jr rfl) (jT λ_=>rfl))
  .have pw:=axa hA.pk (off:=o) (sz:=s) (v:=w);rw[hA.pN]at pw;have e:o0 D ⟨2,o,s⟩ w={D.b with k:=iZ D.b.k (bJ D.b.k.n o s) w}:=rfl;rw[<-e]at pw;unfold FV;apply ik (v:=.t []) Tryz.func85 rfl Tryz.results85 Tryz.ntmps85 (by simp)
   .intro _ _;simp only[go_sem,seval,kC,fO,ll,pw];(repeat' first|apply cn|(intro _;kernel_rfl)|kernel_rfl);exact aN
   .simp
   .exact Rw hB rfl ⟨D.x,D.y,hA.set (Rk hB.ok _ _),(hA.IV _).cut⟩ (iw (jr rfl) (jT λ_=>rfl))
  .obtain⟨K',x',y',h1,h2,h3⟩:=aAt hA.pi o (lE w) hf.1 hf.2;obtain⟨g1,g2⟩:=hA.port h2 h3;have tb:IntKind.u8.wrap (w.toNat:Int)=lE w:=rfl;unfold FV;apply ik (v:=.t []) Tryz.func85 rfl Tryz.results85 Tryz.ntmps85 (by simp)
   .intro _ _;simp only[go_sem,seval,kC,fO,ll,d0,tb,h1];(repeat' first|apply cn|(intro _;kernel_rfl)|kernel_rfl);exact aN
   .have:=g2.len;simp at this;omega
   .exact Rw hB rfl ⟨x',y',g1,g2.cut⟩ (iw (jr rfl) (ap1 h1))
 obtain⟨v,H1,h1,h2,h3⟩:=this;obtain⟨rfl,h4⟩:=h3 D p w rfl hB;exact⟨H1,h1,h2,h4⟩
end
variable {a:BitVec 64}{c0 c1 c2:List Sc}
section
variable {H:AH}{D:Bd}
structure Aq where
 k:Int
 a:BitVec 64
 b:BitVec 64
 c:Int
 s:Int
 op:Int
 d:BitVec 64
 o:BitVec 64
 lv:Bool
 r:List Sc
def bU(q:Aq):List Sc:=.i q.k::.u q.a::.u q.b::.i q.c::.i q.s::.i q.op::.u q.d::.u q.o::.b q.lv::q.r
theorem MV{p q:Aq}(h:bU p=bU q):p=q:=by
 simp only[bU,cK,Sc.i.injEq,Sc.u.injEq,Sc.b.injEq]at h;obtain⟨h1,h2,h3,h4,h5,h6,h7,h8,h9,oD⟩:=h;cases p;cases q;simp only at h1 h2 h3 h4 h5 h6 h7 h8 h9 oD;subst h1 h2 h3 h4 h5 h6 h7 h8 h9 oD;rfl
def j9(n:Int)(q:Aq):Bool:=if q.k=9\/q.k=10 then !decide ((gV n q.a q.s).d=0)else decide (q.k=11\/q.k=18\/q.k=19\/q.k=20)
def U5(args:List AV)(H:AH)(v:AV):Prop:=(∀q,args=[.c .dt,.g (bU q)]->v=.c (.b false))/\∀D q,args=[.c (.p D.id 0 0),.g (bU q)]->BI H D->v=.c (.b (j9 D.b.n q))
def Cv:List AV->AH->Option AV:=lg Tryz.prog [(72,.pu Ps)] 31 U5
theorem abP:aZ Tryz.prog 31 (λargs H=>(Cv args H).map λv=>(v,H)):=nn (tu aqP tn) Tryz.func31 rfl Tryz.results31 Tryz.ntmps31
theorem awk{q:Aq}(hq:rY q.r):Cv [.c .dt,.g (bU q)] H=some (.c (.b false)):=by
 have:∃v,Cv [.c .dt,.g (bU q)] H=some v/\U5 [.c .dt,.g (bU q)] H v:=by
  unfold Cv;apply mu (v:=.c (.b false)) Tryz.func31 rfl Tryz.results31 Tryz.ntmps31 (by simp)
  .exact λ_ _=>rfl
  .intro _ _;simp only[go_sem,seval,bU,hq.1,hq.2.2];exact aB _ _
  .refine⟨λ_ _=>rfl,λE k he hE=>?_⟩;simp at he
 obtain⟨v,h1,h2⟩:=this;rw[h1,h2.1 q rfl]
theorem ahM:Ps [.c (.i n),.c (.u a),.c (.i s)]=some (.c (.b (!decide ((gV n a s).d=0)))):=rfl
theorem adZ{q:Aq}(hB:BI H D)(hq:rY q.r):Cv [.c (.p D.id 0 0),.g (bU q)] H=some (.c (.b (j9 D.b.n q))):=by
 have:∃v,Cv [.c (.p D.id 0 0),.g (bU q)] H=some v/\U5 [.c (.p D.id 0 0),.g (bU q)] H v:=by
  unfold Cv;apply mu (v:=.c (.b (j9 D.b.n q))) Tryz.func31 rfl Tryz.results31 Tryz.ntmps31 (by simp)
  .exact λ_ _=>rfl
  .intro _ _;have fO:∀X,hg (H++X) D.id=.own (fN D.pid D.b):=λX=>(hB.app X).ho;have ll:=hB.l;have d1:(fN D.pid D.b).getD 1 .any=.i D.b.n:=rfl;have bf:=ahM (n:=D.b.n) (a:=q.a) (s:=q.s);unfold j9;rcases Classical.propComplete (q.k=9)with k1|k1
   .simp only[go_sem,seval,bU,hq.1,hq.2.2,fO,ll,d1,bf,k1];exact aB _ _
   rcases Classical.propComplete (q.k=10)with k2|k2
   .simp only[go_sem,seval,bU,hq.1,hq.2.2,fO,ll,d1,bf,k1,k2];exact aB _ _
   rcases Classical.propComplete (q.k=11)with k3|k3
   .simp only[go_sem,seval,bU,hq.1,hq.2.2,k1,k2,k3];exact aB _ _
   rcases Classical.propComplete (q.k=18)with k4|k4
   .simp only[go_sem,seval,bU,hq.1,hq.2.2,k1,k2,k3,k4];exact aB _ _
   rcases Classical.propComplete (q.k=19)with k5|k5
   .simp only[go_sem,seval,bU,hq.1,hq.2.2,k1,k2,k3,k4,k5];exact aB _ _
   rcases Classical.propComplete (q.k=20)with k6|k6;all_goals simp only[go_sem,seval,bU,hq.1,hq.2.2,k1,k2,k3,k4,k5,k6]
   all_goals exact aB _ _
  .refine⟨λ_ he=>by simp at he,λE k he hE=>?_⟩;simp only[cK,AV.c.injEq,AV.g.injEq,Sc.p.injEq,and_true]at he;obtain⟨e1,e2⟩:=he;obtain rfl:=MV e2;rw[hB.uniq hE e1]
 obtain⟨v,h1,h2⟩:=this;rw[h1,h2.2 D q rfl hB]
def eC(n:Int)(h:Int)(q:Aq):Bool:=j9 n q&&!(decide (q.k=11)&&(decide (h<0)||decide (n<=h)))
def m9(D:Bd)(q:Aq):Bs:=if q.k=9 then og D (gV D.b.n q.a q.s)else if q.k=10 then o0 D (gV D.b.n q.a q.s) q.d else if q.k=18 then{D.b with c:=nJ D.b.c q.d.toInt}else if q.k=20/\¬q.s=10 then{D.b with k:=fP D.b.k q.s q.lv}else D.b
def jh(D:Bd)(q:Aq):Pt:=if q.k=9 then lU D (gV D.b.n q.a q.s)else if q.k=10 then lV D (gV D.b.n q.a q.s) q.d else if q.k=19 then(oI D.t (lE q.d)).1 else D.t
def j8(b:Bs)(t:Pt):Bs:={b with k:=fP b.k 10 (!decide (dI t=1))}
def dj(D:Bd)(h:Int)(q:Aq):Bs:=if eC D.b.n h q=true then j8 (m9 D q) (jh D q)else D.b
def dF(D:Bd)(h:Int)(q:Aq):Pt:=if eC D.b.n h q=true then jh D q else D.t
def eZ(D:Bd)(h:Int)(q:Aq):BitVec 64:=if eC D.b.n h q=true then(if q.k=9 then mJ D (gV D.b.n q.a q.s)else if q.k=11 then oZ D.b h else 0#64)else 0#64
theorem Yq{b:Bs}(h:mZ b)(t:Pt):mZ (j8 b t):=h.pk (OX h.k _ _) (OW _ _ _)
structure Loc(K:AH)(L:Nat)(c0 c1 c2:List Sc):Prop where
 h0:hg K L=.own c0
 h1:hg K (L+1)=.own c1
 h2:hg K (L+2)=.own c2
 len:L+3<=K.length
theorem BI.oA(h:BI H D)(hj:H.length<=j):j≠D.id/\j≠D.pid/\aW D.x≠some j/\aW D.y≠some j:=by
 have a:=h.aD;have b:=h.KH;refine⟨ω,ω,λe=>?_,λe=>?_⟩
 .have:=(qi h.pi.hx e).1;omega
 .have:=(qi h.pi.hy e).1;omega
theorem Loc.of:Loc (H++[.own c0,.own c1,.own c2]) H.length c0 c1 c2:=⟨by rw[me];rfl,by rw[gY];rfl,by rw[gY];rfl,by simp⟩
theorem Loc.step{D1:Bd}(hB:BI H D)(h:BK (H++[.own c0,.own c1,.own c2]) K1 D D1):Loc K1 H.length c0 c1 c2:=by
 have l:=Loc.of (H:=H) (c0:=c0) (c1:=c1) (c2:=c2);have hl:=h.len;have h0:=hB.oA (j:=H.length) (aC _);have h1:=hB.oA (j:=H.length+1) ω;have h2:=hB.oA (j:=H.length+2) ω;simp only[cF,cZ,dY]at hl;refine⟨?_,?_,?_,ω⟩
 .rw[h.fF _ (by simp) h0.1 h0.2.1 h0.2.2.1 h0.2.2.2];exact l.h0
 .rw[h.fF _ (by simp) h1.1 h1.2.1 h1.2.2.1 h1.2.2.2];exact l.h1
 .rw[h.fF _ (by simp) h2.1 h2.2.1 h2.2.2.1 h2.2.2.2];exact l.h2
theorem Loc.WO{K:AH}{L:Nat}{c0 c1 c2 c:List Sc}(h:Loc K L c0 c1 c2):Loc (K.set (L+2) (.own c)) L c0 c1 c:=⟨by rw[fg ω];exact h.h0,by rw[fg ω];exact h.h1,jj (by have:=h.len;omega),by simpa using h.len⟩
theorem Loc.PX{K:AH}{L:Nat}{c0 c1 c2:List Sc}(h:Loc K L c0 c1 c2){i:Nat}{o:ae}(hi:i<L):Loc (K.set i o) L c0 c1 c2:=⟨by rw[fg ω];exact h.h0,by rw[fg ω];exact h.h1,by rw[fg ω];exact h.h2,by simpa using h.len⟩
structure qh(H K:AH)(D E:Bd)(c0 c2:List Sc):Prop where
 bi:BI K E
 bk:BK H K D E
 loc:Loc K H.length c0 (.u 0#64::.b false::dA) c2
theorem qh.ul{K:AH}{E:Bd}{c0 c2:List Sc}(h:qh H K D E c0 c2):Cy [.c (.p E.pid 0 0)] K=some (.c (.b (!decide (dI E.t=1)))):=aoR h.bi.pi
theorem qh.pw{K:AH}{E:Bd}{c0 c2:List Sc}(h:qh H K D E c0 c2):Bc [.c (.p E.id 20 0),.c (.i 10),.c (.b (!decide (dI E.t=1)))] K=some (.c (.b (pO E.b.k 10)),K.set E.id (.own (fN E.pid (j8 E.b E.t)))):=by rw[ad9 h.bi.pk,h.bi.pN];rfl
theorem qh.end{K:AH}{E:Bd}{c0 c2:List Sc}(hB:BI H D)(h:qh H K D E c0 c2):qE H ((K.set E.id (.own (fN E.pid (j8 E.b E.t)))).set (H.length+1) (.own c2)) D (j8 E.b E.t) E.t:=by
 have f:=hB.oA (j:=H.length+1) ω;have b1:=h.bi.set (Yq h.bi.ok E.t);have k1:=h.bk.trans (h.bi.IV (j8 E.b E.t));have le:D.id<H.length:=hB.aD;have lp:D.pid<H.length:=hB.KH;have e1:H.length+1≠E.id:=by rw[h.bk.id];omega
 have e2:H.length+1≠E.pid:=by rw[h.bk.pid];omega
 have hl:=h.bi;have ex:aW E.x≠some (H.length+1):=λe=>by
  have:=(qi hl.pi.hx e).2;rw[h.loc.h1]at this;simp at this
 have ey:aW E.y≠some (H.length+1):=λe=>by
  have:=(qi hl.pi.hy e).2;rw[h.loc.h1]at this;simp at this
 have b2:=b1.other (j:=H.length+1) (o:=.own c2) e1 e2 ex ey;have k2:=k1.other (j:=H.length+1) (o:=.own c2) ω;refine⟨E.x,E.y,?_,?_⟩
 .have:({D with b:=j8 E.b E.t,t:=E.t,x:=E.x,y:=E.y}:Bd)={E with b:=j8 E.b E.t}:=by
   have a1:=h.bk.id;have a2:=h.bk.pid;cases D;cases E;simp only at a1 a2;subst a1 a2;rfl
  rw[this];exact b2
 .have:({D with b:=j8 E.b E.t,t:=E.t,x:=E.x,y:=E.y}:Bd)={E with b:=j8 E.b E.t}:=by
   have a1:=h.bk.id;have a2:=h.bk.pid;cases D;cases E;simp only at a1 a2;subst a1 a2;rfl
  rw[this];exact k2
theorem qh.WO{K:AH}{E:Bd}{c0 c2 c:List Sc}(h:qh H K D E c0 c2)(hB:BI H D):qh H (K.set (H.length+2) (.own c)) D E c0 c:=by
 have le:D.id<H.length:=hB.aD;have lp:D.pid<H.length:=hB.KH;refine⟨h.bi.other (by rw[h.bk.id];omega) (by rw[h.bk.pid];omega) (λe=>?_) (λe=>?_),h.bk.other ω,h.loc.WO⟩
 .have:=(qi h.bi.pi.hx e).2;rw[h.loc.h2]at this;simp at this
 .have:=(qi h.bi.pi.hy e).2;rw[h.loc.h2]at this;simp at this
end
variable {h:Int}
section
variable {H:AH}{D:Bd}
theorem qh.all{K:AH}{E:Bd}{c0 c2:List Sc}(hB:BI H D)(h:qh H K D E c0 c2):∃K3 w,hg K D.id=.own (fN D.pid E.b)/\(fN D.pid E.b).length=88/\Cy [.c (.p D.pid 0 0)] K=some (.c (.b (!decide (dI E.t=1))))/\Bc [.c (.p D.id 20 0),.c (.i 10),.c (.b (!decide (dI E.t=1)))] K=some (.c (.b w),K3)/\hg K3 (H.length+2)=.own c2/\hg K3 (H.length+1)=.own (.u 0#64::.b false::dA)/\(∀y,hg (K3.set (H.length+1) y) (H.length+1)=y)/\qE H (K3.set (H.length+1) (.own c2)) D (j8 E.b E.t) E.t/\H.length<=(K3.set (H.length+1) (.own c2)).length/\fj K (K3.set (H.length+1) (.own c2)):=by
 have l3:=h.loc.PX (i:=E.id) (o:=.own (fN E.pid (j8 E.b E.t))) (by rw[h.bk.id];exact hB.aD);have ll:=l3.len;refine⟨_,_,by rw[<-h.bk.id,<-h.bk.pid];exact h.bi.ho,by rw[<-h.bk.pid];exact h.bi.l,by rw[<-h.bk.pid];exact h.ul,by rw[<-h.bk.id];exact h.pw,l3.h2,l3.h1,λy=>jj ω,h.end hB,?_,iw (jT λ_=>rfl) (jT λ_=>rfl)⟩;rw[js];omega
theorem qh.of{b:Bs}(hB:BI H D)(h:qE (H++[.own c0,.own (.u 0#64::.b false::dA),.own c2]) K1 D b t):∃E,E.b=b/\E.t=t/\qh H K1 D E c0 c2:=by
 obtain⟨x,y,h1,h2⟩:=h;exact⟨_,rfl,rfl,h1,h2.cut,Loc.step hB h2⟩
def O2(args:List AV)(H:AH)(v:AV)(H1:AH):Prop:=(∀h q,args=[.c .dt,.c (.i h),.g (bU q)]->v=.t [.g (bX 0#64 false),.c (.b false)]/\∃X,H1=H++X)/\∀D h q,args=[.c (.p D.id 0 0),.c (.i h),.g (bU q)]->BI H D->v=.t [.g (bX (eZ D h q) false),.c (.b (eC D.b.n h q))]/\qE H H1 D (dj D h q) (dF D h q)/\fj H H1
def rH:List AV->AH->Option (AV×AH):=uw Tryz.prog [(31,.fq Cv),(84,.pu Lm),(83,.fp FU),(85,.fp FV),(86,.fq FT),(87,.fp DD),(88,.fp Bi),(89,.fp Bc),(90,.fq Cy)] 39 O2
theorem aqO:aZ Tryz.prog 39 rH:=Ap (tq abP (tu abN (tp aqT (tp aqX (tq abO (tp aq4 (tp as1 (tp ar9 (tq as2 tn))))))))) Tryz.func39 rfl Tryz.results39 Tryz.ntmps39
theorem Ac{q:Aq}{v:AV}(hB:BI H D)(h1:v=.t [.g (bX (eZ D h q) false),.c (.b (eC D.b.n h q))])(h2:qE H H1 D (dj D h q) (dF D h q))(h3:fj H H1):O2 [.c (.p D.id 0 0),.c (.i h),.g (bU q)] H v H1:=by
 refine⟨λ_ _ he=>by simp at he,λE k p he hE=>?_⟩;simp only[cK,AV.c.injEq,AV.g.injEq,Sc.p.injEq,Sc.i.injEq,and_true]at he;obtain⟨e1,rfl,e2⟩:=he;obtain rfl:=MV e2;obtain rfl:=hB.uniq hE e1;exact⟨h1,h2,h3⟩
theorem Rj:(gV n a s).d=0\/(gV n a s).d=1\/(gV n a s).d=2\/(gV n a s).d=3:=by
 unfold gV;repeat' split
 all_goals simp
theorem aBv{q:Aq}(hq:rY q.r):∃X,rH [.c .dt,.c (.i h),.g (bU q)] H=some (.t [.g (bX 0#64 false),.c (.b false)],H++X):=by
 have:∃v H1,rH [.c .dt,.c (.i h),.g (bU q)] H=some (v,H1)/\H.length<=H1.length/\O2 [.c .dt,.c (.i h),.g (bU q)] H v H1:=by
  have lr:=hq.1;have ro:=hq.2.2;have rt:q.r.take 10=q.r:=bR ω;have p1:=λH=>awk (H:=H) hq;unfold rH;apply ik (v:=.t [.g (bX 0#64 false),.c (.b false)]) Tryz.func39 rfl Tryz.results39 Tryz.ntmps39 (by simp)
  .intro _ _;unfold bU at p1|-;simp only[go_sem,seval,lr,ro,rt,p1,bX];exact aN
  .simp
  .refine⟨λ_ _ _=>⟨rfl,_,rfl⟩,λE k p he hE=>?_⟩;simp at he
 obtain⟨v,H1,h1,_,h2,_⟩:=this;obtain⟨rfl,X,rfl⟩:=h2 h q rfl;exact⟨X,h1⟩
theorem ahN:Lm [.c (.i n),.c (.u a),.c (.i s)]=some (.g (kC (gV n a s))):=rfl
theorem adX{q:Aq}(hB:BI H D)(hf:CI D.t)(h:Int)(hq:rY q.r):∃H1,rH [.c (.p D.id 0 0),.c (.i h),.g (bU q)] H=some (.t [.g (bX (eZ D h q) false),.c (.b (eC D.b.n h q))],H1)/\H.length<=H1.length/\qE H H1 D (dj D h q) (dF D h q)/\fj H H1:=by
 have:∃v H1,rH [.c (.p D.id 0 0),.c (.i h),.g (bU q)] H=some (v,H1)/\H.length<=H1.length/\O2 [.c (.p D.id 0 0),.c (.i h),.g (bU q)] H v H1:=by
  have lr:=hq.1;have ro:=hq.2.2;have rt:q.r.take 10=q.r:=bR ω;have p1:=λX=>adZ (hB.app X) hq;have fO:∀X,hg (H++X) D.id=.own (fN D.pid D.b):=λX=>(hB.app X).ho;have ll:=hB.l;have d0:∀b,(fN D.pid b).getD 0 .any=.p D.pid 0 0:=λ_=>rfl;have d1:(fN D.pid D.b).getD 1 .any=.i D.b.n:=rfl;have bf:=ahN (n:=D.b.n) (a:=q.a) (s:=q.s);cases hm:j9 D.b.n q
  .have eo:eC D.b.n h q=false:=by simp[eC,hm]
   have ev:eZ D h q=0#64:=by simp[eZ,eo]
   have eb:dj D h q=D.b:=by simp[dj,eo]
   have et:dF D h q=D.t:=by simp[dF,eo]
   unfold rH;apply ik (v:=.t [.g (bX 0#64 false),.c (.b false)]) Tryz.func39 rfl Tryz.results39 Tryz.ntmps39 (by simp)
   .intro _ _;simp only[hm]at p1;unfold bU at p1|-;simp only[go_sem,seval,lr,ro,rt,p1,bX];exact aN
   .simp
   .exact Ac hB (by rw[ev,eo]) (by rw[eb,et];exact⟨D.x,D.y,hB.app _,BK.app⟩) (jr rfl)
  .simp only[hm]at p1;have kk:q.k=9\/q.k=10\/q.k=11\/q.k=18\/q.k=19\/q.k=20:=by
    unfold j9 at hm;split at hm
    .omega
    .simp at hm;omega
   have hA:=hB.app [.own (bU q),.own (.u 0#64::.b false::dA),.own (.u 0#64::.b false::dA)];rcases kk with k|k|k|k|k|k
   .have eo:eC D.b.n h q=true:=by simp[eC,hm,k]
    have hd:(gV D.b.n q.a q.s).d=1\/(gV D.b.n q.a q.s).d=2\/(gV D.b.n q.a q.s).d=3:=by
     rcases Rj (n:=D.b.n) (a:=q.a) (s:=q.s)with e|e|e|e
     .simp[j9,k,e]at hm
     all_goals simp[e]
    obtain⟨K1,e1,_,st,FE⟩:=awm hA hf (gV D.b.n q.a q.s) hd;obtain⟨E,eB,eT,f⟩:=qh.of hB st;have g2:=f.loc.h2;have f:=f.WO hB (c:=.u (mJ D (gV D.b.n q.a q.s))::.b false::dA);have ev:eZ D h q=mJ D (gV D.b.n q.a q.s):=by simp[eZ,eo,k]
    have eb:dj D h q=j8 E.b E.t:=by simp[dj,m9,jh,eo,k,eB,eT]
    have et:dF D h q=E.t:=by simp[dF,jh,eo,k,eT]
    obtain⟨K2,hK⟩:∃K,K1.set (H.length+2) (.own (.u (mJ D (gV D.b.n q.a q.s))::.b false::dA))=K:=⟨_,rfl⟩;rw[hK]at f;obtain⟨K3,w,o,lo,ul,pw,o2,o1,s1,fin,fl,wI⟩:=f.all hB;unfold rH;apply ik (v:=.t [.g (bX (mJ D (gV D.b.n q.a q.s)) false),.c (.b true)]) Tryz.func39 rfl Tryz.results39 Tryz.ntmps39 (by simp)
    .intro _ _;simp only[bU,k]at p1 e1;simp only[go_sem,seval,bU,lr,ro,rt,p1,bX,k,fO,ll,d0,d1,bf,e1,g2,hK,o,lo,ul,pw,o2,o1,s1];(repeat' first|apply cn|(intro _;kernel_rfl)|kernel_rfl);exact aN
    .exact fl
    .exact Ac hB (by rw[ev,eo]) (by rw[eb,et];exact fin) (iw (iw (iw (jr rfl) FE) (by rw[<-hK];exact jT λ_=>rfl)) wI)
   .have eo:eC D.b.n h q=true:=by simp[eC,hm,k]
    have hd:(gV D.b.n q.a q.s).d=1\/(gV D.b.n q.a q.s).d=2\/(gV D.b.n q.a q.s).d=3:=by
     rcases Rj (n:=D.b.n) (a:=q.a) (s:=q.s)with e|e|e|e
     .simp[j9,k,e]at hm
     all_goals simp[e]
    obtain⟨K1,e1,_,st,FE⟩:=awq hA hf (gV D.b.n q.a q.s) hd q.d;obtain⟨E,eB,eT,f⟩:=qh.of hB st;have ev:eZ D h q=0#64:=by simp[eZ,eo,k]
    have eb:dj D h q=j8 E.b E.t:=by simp[dj,m9,jh,eo,k,eB,eT]
    have et:dF D h q=E.t:=by simp[dF,jh,eo,k,eT]
    obtain⟨K3,w,o,lo,ul,pw,o2,o1,s1,fin,fl,wI⟩:=f.all hB;unfold rH;apply ik (v:=.t [.g (bX (0#64) false),.c (.b true)]) Tryz.func39 rfl Tryz.results39 Tryz.ntmps39 (by simp)
    .intro _ _;simp only[bU,k]at p1 e1;simp only[go_sem,seval,bU,lr,ro,rt,p1,bX,k,fO,ll,d0,d1,bf,e1,o,lo,ul,pw,o2,o1,s1];(repeat' first|apply cn|(intro _;kernel_rfl)|kernel_rfl);exact aN
    .exact fl
    .exact Ac hB (by rw[ev,eo]) (by rw[eb,et];exact fin) (iw (iw (jr rfl) FE) wI)
   .by_cases h0:h<0
    .have eo:eC D.b.n h q=false:=by simp[eC,hm,k,h0]
     have ev:eZ D h q=0#64:=by simp[eZ,eo]
     have eb:dj D h q=D.b:=by simp[dj,eo]
     have et:dF D h q=D.t:=by simp[dF,eo]
     unfold rH;apply ik (v:=.t [.g (bX 0#64 false),.c (.b false)]) Tryz.func39 rfl Tryz.results39 Tryz.ntmps39 (by simp)
     .intro _ _;simp only[bU,k]at p1;simp only[go_sem,seval,bU,lr,ro,rt,p1,bX,k,h0];exact aN
     .simp
     .exact Ac hB (by rw[ev,eo]) (by rw[eb,et];exact⟨D.x,D.y,hB.app _,BK.app⟩) (jr rfl)
    by_cases h1:D.b.n<=h
    .have eo:eC D.b.n h q=false:=by simp[eC,hm,k,h1]
     have ev:eZ D h q=0#64:=by simp[eZ,eo]
     have eb:dj D h q=D.b:=by simp[dj,eo]
     have et:dF D h q=D.t:=by simp[dF,eo]
     unfold rH;apply ik (v:=.t [.g (bX 0#64 false),.c (.b false)]) Tryz.func39 rfl Tryz.results39 Tryz.ntmps39 (by simp)
     .intro _ _;simp only[bU,k]at p1;simp only[go_sem,seval,bU,lr,ro,rt,p1,bX,k,h0,h1,fO,ll,d1];exact aN
     .simp
     .exact Ac hB (by rw[ev,eo]) (by rw[eb,et];exact⟨D.x,D.y,hB.app _,BK.app⟩) (jr rfl)
    have eo:eC D.b.n h q=true:=by simp[eC,hm,h0,h1]
    have bl:=λX=>VD (hB.app X) h;have f:qh H (H++[.own (bU q),.own (.u 0#64::.b false::dA),.own (.u (oZ D.b h)::.b false::dA)]) D D (bU q) (.u (oZ D.b h)::.b false::dA):=⟨hB.app _,BK.app,Loc.of⟩;have ev:eZ D h q=oZ D.b h:=by simp[eZ,eo,k]
    have eb:dj D h q=j8 D.b D.t:=by simp[dj,m9,jh,eo,k]
    have et:dF D h q=D.t:=by simp[dF,jh,eo,k]
    obtain⟨K2,hK⟩:∃K,H++[.own (bU q),.own (.u 0#64::.b false::dA),.own (.u (oZ D.b h)::.b false::dA)]=K:=⟨_,rfl⟩;rw[hK]at f;obtain⟨K3,w,o,lo,ul,pw,o2,o1,s1,fin,fl,wI⟩:=f.all hB;unfold rH;apply ik (v:=.t [.g (bX (oZ D.b h) false),.c (.b true)]) Tryz.func39 rfl Tryz.results39 Tryz.ntmps39 (by simp)
    .intro _ _;simp only[bU,k]at p1 hK;simp only[go_sem,seval,bU,lr,ro,rt,p1,bX,k,fO,ll,d0,d1,bf,h0,h1,bl,hK,o,lo,ul,pw,o2,o1,s1];(repeat' first|apply cn|(intro _;kernel_rfl)|kernel_rfl);exact aN
    .exact fl
    .exact Ac hB (by rw[ev,eo]) (by rw[eb,et];exact fin) (iw (by rw[<-hK];exact jr rfl) wI)
   .have eo:eC D.b.n h q=true:=by simp[eC,hm,k]
    have ct:=awu hA.ck (n:=q.d.toInt);rw[hA.yF]at ct;have st:qE (H++[.own (bU q),.own (.u 0#64::.b false::dA),.own (.u 0#64::.b false::dA)]) _ D {D.b with c:=nJ D.b.c q.d.toInt} D.t:=⟨D.x,D.y,hA.set (hB.ok.ck (Na hB.ok.c _) (YX _ _)),hA.IV _⟩;obtain⟨K1,hK⟩:∃K:AH,(H++[.own (bU q),.own (.u 0#64::.b false::dA),.own (.u 0#64::.b false::dA)]:AH).set D.id (.own (fN D.pid {D.b with c:=nJ D.b.c q.d.toInt}))=K:=⟨_,rfl⟩;rw[hK]at st ct;obtain⟨E,eB,eT,f⟩:=qh.of hB st;have ev:eZ D h q=0#64:=by simp[eZ,eo,k]
    have eb:dj D h q=j8 E.b E.t:=by simp[dj,m9,jh,eo,k,eB,eT]
    have et:dF D h q=E.t:=by simp[dF,jh,eo,k,eT]
    obtain⟨K3,w,o,lo,ul,pw,o2,o1,s1,fin,fl,wI⟩:=f.all hB;unfold rH;apply ik (v:=.t [.g (bX (0#64) false),.c (.b true)]) Tryz.func39 rfl Tryz.results39 Tryz.ntmps39 (by simp)
    .intro _ _;simp only[bU,k]at p1 ct;simp only[go_sem,seval,bU,lr,ro,rt,p1,bX,k,fO,ll,d0,d1,bf,ct,o,lo,ul,pw,o2,o1,s1];(repeat' first|apply cn|(intro _;kernel_rfl)|kernel_rfl);exact aN
    .exact fl
    .exact Ac hB (by rw[ev,eo]) (by rw[eb,et];exact fin) (iw (by rw[<-hK];exact iw (jr rfl) (jT λ_=>rfl)) wI)
   .have eo:eC D.b.n h q=true:=by simp[eC,hm,k]
    obtain⟨K1,x',u1,u2,u3⟩:=anm hA.pi (lE q.d) hf.1;obtain⟨g1,g2⟩:=hA.port u2 u3;have st:qE (H++[.own (bU q),.own (.u 0#64::.b false::dA),.own (.u 0#64::.b false::dA)]) K1 D D.b (oI D.t (lE q.d)).1:=⟨x',D.y,g1,g2⟩;have tb:IntKind.u8.wrap (q.d.toNat:Int)=lE q.d:=rfl;obtain⟨E,eB,eT,f⟩:=qh.of hB st;have ev:eZ D h q=0#64:=by simp[eZ,eo,k]
    have eb:dj D h q=j8 E.b E.t:=by simp[dj,m9,jh,eo,k,eB,eT]
    have et:dF D h q=E.t:=by simp[dF,jh,eo,k,eT]
    obtain⟨K3,w,o,lo,ul,pw,o2,o1,s1,fin,fl,wI⟩:=f.all hB;unfold rH;apply ik (v:=.t [.g (bX (0#64) false),.c (.b true)]) Tryz.func39 rfl Tryz.results39 Tryz.ntmps39 (by simp)
    .intro _ _;simp only[bU,k]at p1 u1;simp only[go_sem,seval,bU,lr,ro,rt,p1,bX,k,fO,ll,d0,d1,bf,u1,tb,o,lo,ul,pw,o2,o1,s1];(repeat' first|apply cn|(intro _;kernel_rfl)|kernel_rfl);exact aN
    .exact fl
    .exact Ac hB (by rw[ev,eo]) (by rw[eb,et];exact fin) (iw (iw (jr rfl) (apU u1)) wI)
   .have eo:eC D.b.n h q=true:=by simp[eC,hm,k]
    have ev:eZ D h q=0#64:=by simp[eZ,eo,k]
    rcases Classical.propComplete (q.s=10)with uI|uI
    .have f:qh H (H++[.own (bU q),.own (.u 0#64::.b false::dA),.own (.u 0#64::.b false::dA)]) D D (bU q) (.u 0#64::.b false::dA):=⟨hB.app _,BK.app,Loc.of⟩;have eb:dj D h q=j8 D.b D.t:=by simp[dj,m9,jh,eo,k,uI]
     have et:dF D h q=D.t:=by simp[dF,jh,eo,k]
     obtain⟨K3,w,o,lo,ul,pw,o2,o1,s1,fin,fl,wI⟩:=f.all hB;unfold rH;apply ik (v:=.t [.g (bX (0#64) false),.c (.b true)]) Tryz.func39 rfl Tryz.results39 Tryz.ntmps39 (by simp)
     .intro _ _;simp only[bU,k]at p1 ul pw;simp only[go_sem,seval,bU,lr,ro,rt,p1,bX,k,fO,ll,d0,d1,bf,uI,o,lo,ul,pw,o2,o1,s1];(repeat' first|apply cn|(intro _;kernel_rfl)|kernel_rfl);exact aN
     .exact fl
     .exact Ac hB (by rw[ev,eo]) (by rw[eb,et];exact fin) (iw (jr rfl) wI)
    .have wr:=ad9 hA.pk (s:=q.s) (on:=q.lv);rw[hA.pN]at wr;have st:qE (H++[.own (bU q),.own (.u 0#64::.b false::dA),.own (.u 0#64::.b false::dA)]) _ D {D.b with k:=fP D.b.k q.s q.lv} D.t:=⟨D.x,D.y,hA.set (hB.ok.pk (OX hB.ok.k _ _) (OW _ _ _)),hA.IV _⟩;obtain⟨K1,hK⟩:∃K:AH,(H++[.own (bU q),.own (.u 0#64::.b false::dA),.own (.u 0#64::.b false::dA)]:AH).set D.id (.own (fN D.pid {D.b with k:=fP D.b.k q.s q.lv}))=K:=⟨_,rfl⟩;rw[hK]at st wr;obtain⟨E,eB,eT,f⟩:=qh.of hB st;have eb:dj D h q=j8 E.b E.t:=by simp[dj,m9,jh,eo,k,eB,eT,uI]
     have et:dF D h q=E.t:=by simp[dF,jh,eo,k,eT]
     obtain⟨K3,w,o,lo,ul,pw,o2,o1,s1,fin,fl,wI⟩:=f.all hB;unfold rH;apply ik (v:=.t [.g (bX (0#64) false),.c (.b true)]) Tryz.func39 rfl Tryz.results39 Tryz.ntmps39 (by simp)
     .intro _ _;simp only[bU,k]at p1 wr;simp only[go_sem,seval,bU,lr,ro,rt,p1,bX,k,fO,ll,d0,d1,bf,uI,wr,o,lo,ul,pw,o2,o1,s1];(repeat' first|apply cn|(intro _;kernel_rfl)|kernel_rfl);exact aN
     .exact fl
     .exact Ac hB (by rw[ev,eo]) (by rw[eb,et];exact fin) (iw (by rw[<-hK];exact iw (jr rfl) (jT λ_=>rfl)) wI)
 obtain⟨v,H1,h1,h2,h3⟩:=this;obtain⟨rfl,h4⟩:=h3.2 D h q rfl hB;exact⟨H1,h1,h2,h4⟩
end
section
variable {H:AH}{D:Bd}
theorem qE.app{b:Bs}(h:qE H K1 D b t)(X:AH):qE H (K1++X) D b t:=by
 obtain⟨x,y,h1,h2⟩:=h;exact⟨x,y,h1.app X,h2.trans BK.app⟩
def bN(n:Int):Bs:=⟨n,iH n,iE n⟩
theorem YW(h:1<=n/\n<=8):(iH n).n=n:=by unfold iH;rw[if_pos h];rfl
theorem UU(h:1<=n/\n<=8):(iE n).n=n:=by unfold iE;rw[if_pos h];rfl
theorem Yr(h:1<=n/\n<=8):mZ (bN n):=⟨JA n,UW n,h.1,h.2,YW h,UU h⟩
def dN(H:AH)(n:Int):Bd:=⟨H.length+1,H.length,bN n,fJ,.aA,.aA⟩
theorem RQ(H:AH)(h:1<=n/\n<=8):BI (H++[.own (iy Cp),.own (fN H.length (bN n))]) (dN H n):=by
 refine⟨?_,Yr h,?_⟩
 .show hg _ (H.length+1)=_;rw[gY];rfl
 .have:=UR (X:=[.own (fN H.length (bN n))]) (acD H);rw[fo]at this;exact this
end
section
variable {H:AH}{D:Bd}
def zR:List Sc:=[.i 0,.b false,.b false,.b false,.u 0#64,.i 0,.i 0,.u 0#64,.i 0,.u 0#64]
def lq(a:BitVec 64)(z:Int)(v:BitVec 64):Aq:=⟨10,a,0#64,0,z,0,v,0#64,false,zR⟩
structure Bx where
 b:Bs
 t:Pt
def Bx.d(x:Bx):Bd:=⟨0,0,x.b,x.t,.aA,.aA⟩
def Bx.go(x:Bx)(h:Int)(q:Aq):Bx:=⟨dj x.d h q,dF x.d h q⟩
def Bx.v(x:Bx)(h:Int)(q:Aq):BitVec 64:=eZ x.d h q
theorem ah3(D:Bd)(h:Int)(q:Aq):dj D h q=((⟨D.b,D.t⟩:Bx).go h q).b:=rfl
theorem ah4(D:Bd)(h:Int)(q:Aq):dF D h q=((⟨D.b,D.t⟩:Bx).go h q).t:=rfl
theorem ah5(D:Bd)(h:Int)(q:Aq):eZ D h q=(⟨D.b,D.t⟩:Bx).v h q:=rfl
def At(H:AH)(id:Nat)(x:Bx):Prop:=∃D,BI H D/\D.id=id/\D.b=x.b/\D.t=x.t
theorem At.step{K:AH}{id:Nat}{x:Bx}{h:Int}{q:Aq}(hA:At H id x)(hs:∀D,BI H D->D.id=id->D.b=x.b->D.t=x.t->qE H K D (dj D h q) (dF D h q)):At K id (x.go h q):=by
 obtain⟨D,h1,h2,h3,h4⟩:=hA;obtain⟨x',y',g1,g2⟩:=hs D h1 h2 h3 h4;refine⟨_,g1,h2,?_,?_⟩
 .show dj D h q=_;rw[ah3,h3,h4]
 .show dF D h q=_;rw[ah4,h3,h4]
theorem At.app{id:Nat}{x:Bx}(h:At H id x)(X:AH):At (H++X) id x:=by
 obtain⟨D,h1,h2⟩:=h;exact⟨D,h1.app X,h2⟩
theorem At.do{id:Nat}{x:Bx}(hA:At H id x)(hf:CI x.t)(h:Int){q:Aq}(hq:rY q.r):∃K,rH [.c (.p id 0 0),.c (.i h),.g (bU q)] H=some (.t [.g (bX (x.v h q) false),.c (.b (eC x.b.n h q))],K)/\At K id (x.go h q):=by
 obtain⟨D,h1,rfl,h3,h4⟩:=hA;obtain⟨K,e,_,st,_⟩:=adX h1 (by rw[h4];exact hf) h hq;refine⟨K,by rw[e,ah5,h3,h4],At.step ⟨D,h1,rfl,h3,h4⟩ λE e1 e2 _ _=>?_⟩;rw[h1.uniq e1 e2.symm]at st;exact st
theorem At.lines{id:Nat}{x:Bx}(hA:At H id x)(h:Int):FT [.c (.p id 0 0),.c (.i h)] H=some (.c (.u (oZ x.b h))):=by
 obtain⟨D,h1,rfl,h3,h4⟩:=hA;rw[VD h1 h,h3]
theorem At.new(H:AH)(h:1<=n/\n<=8):At (H++[.own (iy Cp),.own (fN H.length (bN n))]) (H.length+1) ⟨bN n,fJ⟩:=⟨_,RQ H h,rfl,rfl,rfl⟩
def lx0:Bx:=⟨bN 1,fJ⟩
def lx1:Bx:=lx0.go 0 (lq 268435457#64 1 1#64)
def lx2:Bx:=lx1.go 0 (lq 201326632#64 4 1#64)
end
section
theorem aqH {off:BitVec 64} {x:Nat} (hx:x < 18446744073709551616):(off=aw 64 (x:Int))=(off.toNat=x):=by
 have e:(aw 64 (x:Int)).toNat=x:=by rw [kU];omega
 exact propext ⟨λh=>by rw [h,e],λh=>lJ (by rw [e,h])⟩
theorem aqI {off:BitVec 64} {x:Nat} (hx:x < 1000000):(off=aw 64 (x:Int)+4#64)=(off.toNat=x+4):=by
 have e:(aw 64 (x:Int)+4#64).toNat=x+4:=by
  rw [vJ,kU,show (4#64).toNat=4 from rfl];omega
 exact propext ⟨λh=>by rw [h,e],λh=>lJ (by rw [e,h])⟩
theorem Cl {off:BitVec 64} {x:Nat} (hx:x < 18446744073709551616):(off=j7 64 x)=(off.toNat=x):=by
 have e:(j7 64 x).toNat=x:=by rw [uT];omega
 exact propext ⟨λh=>by rw [h,e],λh=>lJ (by rw [e,h])⟩
theorem ib {off:BitVec 64} {x:Int} (h0:0<=x) (h1:x < 10000000):(off=aw 64 x)=((off.toNat:Int)=x):=by
 obtain ⟨k,rfl⟩:∃k:Nat,x=(k:Int):=⟨x.toNat,ω⟩
 rw [aqH ω]
 exact propext ω
theorem FH {off:BitVec 64} {x:Int} (h0:0<=x) (h1:x < 1000000):(off=aw 64 x+4#64)=((off.toNat:Int)=x+4):=by
 obtain ⟨k,rfl⟩:∃k:Nat,x=(k:Int):=⟨x.toNat,ω⟩
 rw [aqI ω]
 exact propext ω
inductive CkC (n:Int) (m:Nat) (sz:Int) (a:Ca):Prop where
 | c1 (h:Nat) (hn:(h:Int) < n) (hs:sz=4) (hm:m=4 * h) (ha:a=⟨1,h,0#64⟩)
 | c2 (h:Nat) (hn:(h:Int) < n) (hs:sz=8) (hm:m=16384+8 * h) (ha:a=⟨2,h,0#64⟩)
 | c3 (h:Nat) (hn:(h:Int) < n) (hs:sz=4) (hm:m=16384+8 * h) (ha:a=⟨2,h,0#64⟩)
 | c4 (h:Nat) (hn:(h:Int) < n) (hs:sz=4) (hm:m=16384+8 * h+4) (ha:a=⟨2,h,32#64⟩)
 | c5 (hs:sz=8) (hm:m=49144) (ha:a=⟨3,0,0#64⟩)
 | c6 (hs:sz=4) (hm:m=49144) (ha:a=⟨3,0,0#64⟩)
 | c7 (hs:sz=4) (hm:m=49148) (ha:a=⟨3,0,32#64⟩)
 | c0 (ha:a=⟨0,0,0#64⟩) (h4:sz=4->m≠49144/\m≠49148/\∀h:Nat,(h:Int) < n->m≠4 * h/\m≠16384+8 * h/\m≠16384+8 * h+4) (h8:sz=8->m≠49144/\∀h:Nat,(h:Int) < n->m≠16384+8 * h)
theorem CN {a b:BitVec 64} (h:a.toNat=b.toNat):a=b:=lJ h
theorem Nf {n:Int} (n0:1<=n) (n1:n<=8) (off:BitVec 64) (sz:Int):CkC n off.toNat sz (cb n off sz):=by
 have en:(aw 64 n).toNat=n.toNat:=Uq ω n1
 have e4:(4#64).toNat=4:=rfl
 have e8:(8#64).toNat=8:=rfl
 have ez:(0#64).toNat=0:=rfl
 have m4:(off % 4#64).toNat=off.toNat % 4:=by rw [yq,e4]
 have d4:(off / 4#64).toNat=off.toNat / 4:=by rw [vK,e4]
 have m8:(off % 8#64).toNat=off.toNat % 8:=by rw [yq,e8]
 have s8:(off - off % 8#64).toNat=off.toNat - off.toNat % 8:=by rw [yp,m8];have:=off.isLt;omega
 have up:(off % 8#64 * 8#64).toNat=off.toNat % 8 * 8:=by rw [By,m8,e8];omega
 have hh:16384#64<=off - off % 8#64->((off - off % 8#64 - 16384#64) / 8#64).toNat=(off.toNat - off.toNat % 8 - 16384) / 8:=λg=>by
  rw [rT,s8,show (16384#64).toNat=16384 from rfl] at g
  rw [vK,yp,s8,e8,show (16384#64).toNat=16384 from rfl]
  have:=off.isLt
  omega
 have q1:(off % 4#64=0#64)=(off.toNat % 4=0):=propext ⟨λh=>by rw [<-m4,h];rfl,λh=>CN (by rw [m4,ez,h])⟩
 have q2:(off / 4#64 < aw 64 n)=(off.toNat / 4 < n.toNat):=by rw [mY,d4,en]
 have q3:(off % 8#64=0#64)=(off.toNat % 8=0):=propext ⟨λh=>by rw [<-m8,h];rfl,λh=>CN (by rw [m8,ez,h])⟩
 have q4:(0#64 < aw 64 n)=True:=eq_true (by rw [mY,en,ez];omega)
 have q5:(off - off % 8#64=49144#64)=(off.toNat - off.toNat % 8=49144):=by rw [Cl δ,s8]
 have q6:(16384#64<=off - off % 8#64)=(16384<=off.toNat - off.toNat % 8):=by rw [rT,s8];rfl
 have q7:(off - off % 8#64 < 16384#64+8#64 * aw 64 n)=(off.toNat - off.toNat % 8 < 16384+8 * n.toNat):=by
  rw [mY,s8,vJ,By,en,e8,show (16384#64).toNat=16384 from rfl]
  rw [show (16384+8 * n.toNat % 2 ^ 64) % 2 ^ 64=16384+8 * n.toNat by omega]
 have qb:sz=4\/sz=8->(off % aw 64 sz=0#64)=(off.toNat % sz.toNat=0):=by
  rintro (rfl | rfl)
  .exact q1
  .exact q3
 generalize hm:off.toNat=m at *
 unfold cb
 simp only [q1,q2,q4,q5,q6,q7,true_and]
 by_cases h4:sz=4
 .simp only [qb (.inl h4)]
  subst h4
  by_cases a1:m % 4=0
  .by_cases a2:m / 4 < n.toNat
   .rw [if_pos ⟨rfl,a1,a2⟩]
    exact .c1 (m / 4) ω rfl ω (by rw [d4])
   .rw [if_neg (λh=>a2 h.2.2),if_neg (by simp;omega)]
    by_cases a3:m - m % 8=49144
    .rw [if_pos a3]
     have:m=49144\/m=49148:=ω
     rcases this with h | h
     .exact .c6 rfl h (by congr 1;exact CN (by rw [up,h];rfl))
     .exact .c7 rfl h (by congr 1;exact CN (by rw [up,h];rfl))
    .rw [if_neg a3]
     by_cases a4:16384<=m - m % 8/\m - m % 8 < 16384+8 * n.toNat
     .rw [if_pos a4]
      have g:=hh (by rw [q6];exact a4.1)
      have:m % 8=0\/m % 8=4:=ω
      rcases this with h | h
      .exact .c3 ((m - m % 8 - 16384) / 8) ω rfl ω (by rw [g];congr 1;exact CN (by rw [up,h];rfl))
      .exact .c4 ((m - m % 8 - 16384) / 8) ω rfl ω (by rw [g];congr 1;exact CN (by rw [up,h];rfl))
     .rw [if_neg a4]
      exact .c0 rfl (λ_=>⟨ω,ω,λh hn=>⟨ω,ω,ω⟩⟩) (λh=>ω)
  .rw [if_neg (λh=>a1 h.2.1),if_pos (.inr a1)]
   exact .c0 rfl (λ_=>⟨ω,ω,λh hn=>⟨ω,ω,ω⟩⟩) (λh=>ω)
 .rw [if_neg (λh=>h4 h.1)]
  by_cases h8:sz=8
  .simp only [qb (.inr h8)]
   subst h8
   by_cases a1:m % 8=0
   .rw [if_neg (by simp;omega)]
    by_cases a3:m - m % 8=49144
    .rw [if_pos a3]
     exact .c5 rfl ω (by congr 1;exact CN (by rw [up,a1];rfl))
    .rw [if_neg a3]
     by_cases a4:16384<=m - m % 8/\m - m % 8 < 16384+8 * n.toNat
     .rw [if_pos a4]
      have g:=hh (by rw [q6];exact a4.1)
      exact .c2 ((m - m % 8 - 16384) / 8) ω rfl ω (by rw [g];congr 1;exact CN (by rw [up,a1];rfl))
     .rw [if_neg a4]
      exact .c0 rfl (λh=>ω) (λ_=>⟨ω,λh hn=>ω⟩)
   .rw [if_pos (.inr a1)]
    exact .c0 rfl (λh=>ω) (λ_=>⟨ω,λh hn=>ω⟩)
  .rw [if_pos (.inl ⟨h4,h8⟩)]
   exact .c0 rfl (λh=>absurd h h4) (λh=>absurd h h8)
def km (sz:Int) (a:Ca):Int:=if a.k=2\/a.k=3 then (if sz=8 then 0 else if a.up=0#64 then 1 else 2) else 0
def LX (args:List AV):Option AV :=
 match args with
 | [.c (.i n),.c (.u off),.c (.i sz)]=>if 1<=n/\n<=8 then some (.t [.c (.i ((cb n off sz).k:Int)),.c (.i ((cb n off sz).h:Int)),.c (.i (km sz (cb n off sz)))]) else none
 | _=>none
theorem Wi {n off sz}:LX [.c (.i n),.c (.u off),.c (.i sz)]=if 1<=n/\n<=8 then some (.t [.c (.i ((cb n off sz).k:Int)),.c (.i ((cb n off sz).h:Int)),.c (.i (km sz (cb n off sz)))]) else none:=rfl
theorem UD:cE Tryz.prog 121 LX:=by
 refine cN tn Tryz.func121 rfl Tryz.results121 Tryz.ntmps121 ?_
 intro args v h
 unfold LX at h
 split at h
 .rename_i n off sz
  split at h
  .rename_i hc
   simp only [ar] at h;subst h
   refine ⟨by simp only [cZ,dY];decide,rfl,rfl,?_⟩
   obtain ⟨N,rfl⟩:∃N:Nat,n=(N:Int):=⟨n.toNat,ω⟩
   have ck:=Nf hc.1 hc.2 off sz
   obtain ⟨m,hm⟩:∃m,off.toNat=m:=⟨_,rfl⟩
   rw [hm] at ck
   generalize cb (N:Int) off sz=a at *
   have L1:m=49144->(off=49144#64)=True:=λh=>by rw [Cl δ,hm];exact eq_true h
   have CJ:m≠49144->(off=49144#64)=False:=λh=>by rw [Cl δ,hm];exact eq_false h
   have L2:m=49148->(off=49148#64)=True:=λh=>by rw [Cl δ,hm];exact eq_true h
   have QO:m≠49148->(off=49148#64)=False:=λh=>by rw [Cl δ,hm];exact eq_false h
   cases ck with
   | c1 h hn hs mz ha =>
     subst hs ha
     rw [show km 4 ⟨1,h,0#64⟩=0 by simp [km]]
     (repeat (first | simp (maxSteps:=9^9) only [go_sem,seval] | simp (disch:=omega) only [aq,aK,aJ,aI,aH]))
     refine eY h (λi=>([(0,.c (.i N)),(1,.c (.u off)),(2,.c (.i 4)),(9,.c (.i i))],[])) (Wk.fq (by simp [Am.get])) λi hi=>?_
     by_cases aL:i < h
     .have iL:((i:Nat):Int) < (N:Int):=ω
      have iM:((i:Nat):Int) < 8:=ω
      have E1:az (4 * (i:Int))=4 * (i:Int):=aq ω ω
      have E2:az (8 * (i:Int))=8 * (i:Int):=aq ω ω
      have E3:az (16384+8 * (i:Int))=16384+8 * (i:Int):=aq ω ω
      have E4:az ((i:Int)+1)=((i+1:Nat):Int):=by rw [aq ω ω];omega
      have Q1:(off=aw 64 (4 * (i:Int)))=False:=by rw [ib ω ω];exact eq_false ω
      have Q2:(off=aw 64 (16384+8 * (i:Int)))=False:=by rw [ib ω ω];exact eq_false ω
      have Q3:(off=aw 64 (16384+8 * (i:Int))+4#64)=False:=by rw [FH ω ω];exact eq_false ω
      (repeat (first | simp (maxSteps:=9^9) only [go_sem,seval,iL,iM,E1,E2,E3,E4,Q1,Q2,Q3] | simp (disch:=omega) only [aq,aK,aJ,aI,aH]))
      exact ⟨i+1,ω,ω,Wk.fq (by simp [Am.get])⟩
     .obtain rfl:i=h:=ω
      have iL:((i:Nat):Int) < (N:Int):=ω
      have iM:((i:Nat):Int) < 8:=ω
      have E1:az (4 * (i:Int))=4 * (i:Int):=aq ω ω
      have E2:az (8 * (i:Int))=8 * (i:Int):=aq ω ω
      have E3:az (16384+8 * (i:Int))=16384+8 * (i:Int):=aq ω ω
      have E4:az ((i:Int)+1)=((i+1:Nat):Int):=by rw [aq ω ω];omega
      have Q1:(off=aw 64 (4 * (i:Int)))=True:=by rw [ib ω ω];exact eq_true ω
      (repeat (first | simp (maxSteps:=9^9) only [go_sem,seval,iL,iM,E1,E2,E3,E4,Q1] | simp (disch:=omega) only [aq,aK,aJ,aI,aH]))
   | c2 h hn hs mz ha =>
     subst hs ha
     rw [show km 8 ⟨2,h,0#64⟩=0 by simp [km]]
     (repeat (first | simp (maxSteps:=9^9) only [go_sem,seval] | simp (disch:=omega) only [aq,aK,aJ,aI,aH]))
     refine eY h (λi=>([(0,.c (.i N)),(1,.c (.u off)),(2,.c (.i 8)),(9,.c (.i i))],[])) (Wk.fq (by simp [Am.get])) λi hi=>?_
     by_cases aL:i < h
     .have iL:((i:Nat):Int) < (N:Int):=ω
      have iM:((i:Nat):Int) < 8:=ω
      have E1:az (4 * (i:Int))=4 * (i:Int):=aq ω ω
      have E2:az (8 * (i:Int))=8 * (i:Int):=aq ω ω
      have E3:az (16384+8 * (i:Int))=16384+8 * (i:Int):=aq ω ω
      have E4:az ((i:Int)+1)=((i+1:Nat):Int):=by rw [aq ω ω];omega
      have Q2:(off=aw 64 (16384+8 * (i:Int)))=False:=by rw [ib ω ω];exact eq_false ω
      (repeat (first | simp (maxSteps:=9^9) only [go_sem,seval,iL,iM,E1,E2,E3,E4,Q2] | simp (disch:=omega) only [aq,aK,aJ,aI,aH]))
      exact ⟨i+1,ω,ω,Wk.fq (by simp [Am.get])⟩
     .obtain rfl:i=h:=ω
      have iL:((i:Nat):Int) < (N:Int):=ω
      have iM:((i:Nat):Int) < 8:=ω
      have E1:az (4 * (i:Int))=4 * (i:Int):=aq ω ω
      have E2:az (8 * (i:Int))=8 * (i:Int):=aq ω ω
      have E3:az (16384+8 * (i:Int))=16384+8 * (i:Int):=aq ω ω
      have E4:az ((i:Int)+1)=((i+1:Nat):Int):=by rw [aq ω ω];omega
      have Q2:(off=aw 64 (16384+8 * (i:Int)))=True:=by rw [ib ω ω];exact eq_true ω
      (repeat (first | simp (maxSteps:=9^9) only [go_sem,seval,iL,iM,E1,E2,E3,E4,Q2] | simp (disch:=omega) only [aq,aK,aJ,aI,aH]))
   | c3 h hn hs mz ha =>
     subst hs ha
     rw [show km 4 ⟨2,h,0#64⟩=1 by simp [km]]
     (repeat (first | simp (maxSteps:=9^9) only [go_sem,seval] | simp (disch:=omega) only [aq,aK,aJ,aI,aH]))
     refine eY h (λi=>([(0,.c (.i N)),(1,.c (.u off)),(2,.c (.i 4)),(9,.c (.i i))],[])) (Wk.fq (by simp [Am.get])) λi hi=>?_
     by_cases aL:i < h
     .have iL:((i:Nat):Int) < (N:Int):=ω
      have iM:((i:Nat):Int) < 8:=ω
      have E1:az (4 * (i:Int))=4 * (i:Int):=aq ω ω
      have E2:az (8 * (i:Int))=8 * (i:Int):=aq ω ω
      have E3:az (16384+8 * (i:Int))=16384+8 * (i:Int):=aq ω ω
      have E4:az ((i:Int)+1)=((i+1:Nat):Int):=by rw [aq ω ω];omega
      have Q1:(off=aw 64 (4 * (i:Int)))=False:=by rw [ib ω ω];exact eq_false ω
      have Q2:(off=aw 64 (16384+8 * (i:Int)))=False:=by rw [ib ω ω];exact eq_false ω
      have Q3:(off=aw 64 (16384+8 * (i:Int))+4#64)=False:=by rw [FH ω ω];exact eq_false ω
      (repeat (first | simp (maxSteps:=9^9) only [go_sem,seval,iL,iM,E1,E2,E3,E4,Q1,Q2,Q3] | simp (disch:=omega) only [aq,aK,aJ,aI,aH]))
      exact ⟨i+1,ω,ω,Wk.fq (by simp [Am.get])⟩
     .obtain rfl:i=h:=ω
      have iL:((i:Nat):Int) < (N:Int):=ω
      have iM:((i:Nat):Int) < 8:=ω
      have E1:az (4 * (i:Int))=4 * (i:Int):=aq ω ω
      have E2:az (8 * (i:Int))=8 * (i:Int):=aq ω ω
      have E3:az (16384+8 * (i:Int))=16384+8 * (i:Int):=aq ω ω
      have E4:az ((i:Int)+1)=((i+1:Nat):Int):=by rw [aq ω ω];omega
      have Q1:(off=aw 64 (4 * (i:Int)))=False:=by rw [ib ω ω];exact eq_false ω
      have Q2:(off=aw 64 (16384+8 * (i:Int)))=True:=by rw [ib ω ω];exact eq_true ω
      (repeat (first | simp (maxSteps:=9^9) only [go_sem,seval,iL,iM,E1,E2,E3,E4,Q1,Q2] | simp (disch:=omega) only [aq,aK,aJ,aI,aH]))
   | c4 h hn hs mz ha =>
     subst hs ha
     rw [show km 4 ⟨2,h,32#64⟩=2 by simp [km]]
     (repeat (first | simp (maxSteps:=9^9) only [go_sem,seval] | simp (disch:=omega) only [aq,aK,aJ,aI,aH]))
     refine eY h (λi=>([(0,.c (.i N)),(1,.c (.u off)),(2,.c (.i 4)),(9,.c (.i i))],[])) (Wk.fq (by simp [Am.get])) λi hi=>?_
     by_cases aL:i < h
     .have iL:((i:Nat):Int) < (N:Int):=ω
      have iM:((i:Nat):Int) < 8:=ω
      have E1:az (4 * (i:Int))=4 * (i:Int):=aq ω ω
      have E2:az (8 * (i:Int))=8 * (i:Int):=aq ω ω
      have E3:az (16384+8 * (i:Int))=16384+8 * (i:Int):=aq ω ω
      have E4:az ((i:Int)+1)=((i+1:Nat):Int):=by rw [aq ω ω];omega
      have Q1:(off=aw 64 (4 * (i:Int)))=False:=by rw [ib ω ω];exact eq_false ω
      have Q2:(off=aw 64 (16384+8 * (i:Int)))=False:=by rw [ib ω ω];exact eq_false ω
      have Q3:(off=aw 64 (16384+8 * (i:Int))+4#64)=False:=by rw [FH ω ω];exact eq_false ω
      (repeat (first | simp (maxSteps:=9^9) only [go_sem,seval,iL,iM,E1,E2,E3,E4,Q1,Q2,Q3] | simp (disch:=omega) only [aq,aK,aJ,aI,aH]))
      exact ⟨i+1,ω,ω,Wk.fq (by simp [Am.get])⟩
     .obtain rfl:i=h:=ω
      have iL:((i:Nat):Int) < (N:Int):=ω
      have iM:((i:Nat):Int) < 8:=ω
      have E1:az (4 * (i:Int))=4 * (i:Int):=aq ω ω
      have E2:az (8 * (i:Int))=8 * (i:Int):=aq ω ω
      have E3:az (16384+8 * (i:Int))=16384+8 * (i:Int):=aq ω ω
      have E4:az ((i:Int)+1)=((i+1:Nat):Int):=by rw [aq ω ω];omega
      have Q1:(off=aw 64 (4 * (i:Int)))=False:=by rw [ib ω ω];exact eq_false ω
      have Q2:(off=aw 64 (16384+8 * (i:Int)))=False:=by rw [ib ω ω];exact eq_false ω
      have Q3:(off=aw 64 (16384+8 * (i:Int))+4#64)=True:=by rw [FH ω ω];exact eq_true ω
      (repeat (first | simp (maxSteps:=9^9) only [go_sem,seval,iL,iM,E1,E2,E3,E4,Q1,Q2,Q3] | simp (disch:=omega) only [aq,aK,aJ,aI,aH]))
   | c5 hs mz ha =>
     subst hs ha
     rw [show km 8 ⟨3,0,0#64⟩=0 by simp [km]]
     (repeat (first | simp (maxSteps:=9^9) only [go_sem,seval] | simp (disch:=omega) only [aq,aK,aJ,aI,aH]))
     refine eY N (λi=>([(0,.c (.i N)),(1,.c (.u off)),(2,.c (.i 8)),(9,.c (.i i))],[])) (Wk.fq (by simp [Am.get])) λi hi=>?_
     by_cases aL:i < N
     .have iL:((i:Nat):Int) < (N:Int):=ω
      have iM:((i:Nat):Int) < 8:=ω
      have E1:az (4 * (i:Int))=4 * (i:Int):=aq ω ω
      have E2:az (8 * (i:Int))=8 * (i:Int):=aq ω ω
      have E3:az (16384+8 * (i:Int))=16384+8 * (i:Int):=aq ω ω
      have E4:az ((i:Int)+1)=((i+1:Nat):Int):=by rw [aq ω ω];omega
      have Q2:(off=aw 64 (16384+8 * (i:Int)))=False:=by rw [ib ω ω];exact eq_false ω
      (repeat (first | simp (maxSteps:=9^9) only [go_sem,seval,iL,iM,E1,E2,E3,E4,Q2] | simp (disch:=omega) only [aq,aK,aJ,aI,aH]))
      exact ⟨i+1,ω,ω,Wk.fq (by simp [Am.get])⟩
     .obtain rfl:i=N:=ω
      have n0:(0:Int) < (i:Int):=ω
      have l1:=L1 mz
      (repeat (first | simp (maxSteps:=9^9) only [go_sem,seval,n0,l1] | simp (disch:=omega) only [aq,aK,aJ,aI,aH]))
   | c6 hs mz ha =>
     subst hs ha
     rw [show km 4 ⟨3,0,0#64⟩=1 by simp [km]]
     (repeat (first | simp (maxSteps:=9^9) only [go_sem,seval] | simp (disch:=omega) only [aq,aK,aJ,aI,aH]))
     refine eY N (λi=>([(0,.c (.i N)),(1,.c (.u off)),(2,.c (.i 4)),(9,.c (.i i))],[])) (Wk.fq (by simp [Am.get])) λi hi=>?_
     by_cases aL:i < N
     .have iL:((i:Nat):Int) < (N:Int):=ω
      have iM:((i:Nat):Int) < 8:=ω
      have E1:az (4 * (i:Int))=4 * (i:Int):=aq ω ω
      have E2:az (8 * (i:Int))=8 * (i:Int):=aq ω ω
      have E3:az (16384+8 * (i:Int))=16384+8 * (i:Int):=aq ω ω
      have E4:az ((i:Int)+1)=((i+1:Nat):Int):=by rw [aq ω ω];omega
      have Q1:(off=aw 64 (4 * (i:Int)))=False:=by rw [ib ω ω];exact eq_false ω
      have Q2:(off=aw 64 (16384+8 * (i:Int)))=False:=by rw [ib ω ω];exact eq_false ω
      have Q3:(off=aw 64 (16384+8 * (i:Int))+4#64)=False:=by rw [FH ω ω];exact eq_false ω
      (repeat (first | simp (maxSteps:=9^9) only [go_sem,seval,iL,iM,E1,E2,E3,E4,Q1,Q2,Q3] | simp (disch:=omega) only [aq,aK,aJ,aI,aH]))
      exact ⟨i+1,ω,ω,Wk.fq (by simp [Am.get])⟩
     .obtain rfl:i=N:=ω
      have n0:(0:Int) < (i:Int):=ω
      have l1:=L1 mz
      (repeat (first | simp (maxSteps:=9^9) only [go_sem,seval,n0,l1] | simp (disch:=omega) only [aq,aK,aJ,aI,aH]))
   | c7 hs mz ha =>
     subst hs ha
     rw [show km 4 ⟨3,0,32#64⟩=2 by simp [km]]
     (repeat (first | simp (maxSteps:=9^9) only [go_sem,seval] | simp (disch:=omega) only [aq,aK,aJ,aI,aH]))
     refine eY N (λi=>([(0,.c (.i N)),(1,.c (.u off)),(2,.c (.i 4)),(9,.c (.i i))],[])) (Wk.fq (by simp [Am.get])) λi hi=>?_
     by_cases aL:i < N
     .have iL:((i:Nat):Int) < (N:Int):=ω
      have iM:((i:Nat):Int) < 8:=ω
      have E1:az (4 * (i:Int))=4 * (i:Int):=aq ω ω
      have E2:az (8 * (i:Int))=8 * (i:Int):=aq ω ω
      have E3:az (16384+8 * (i:Int))=16384+8 * (i:Int):=aq ω ω
      have E4:az ((i:Int)+1)=((i+1:Nat):Int):=by rw [aq ω ω];omega
      have Q1:(off=aw 64 (4 * (i:Int)))=False:=by rw [ib ω ω];exact eq_false ω
      have Q2:(off=aw 64 (16384+8 * (i:Int)))=False:=by rw [ib ω ω];exact eq_false ω
      have Q3:(off=aw 64 (16384+8 * (i:Int))+4#64)=False:=by rw [FH ω ω];exact eq_false ω
      (repeat (first | simp (maxSteps:=9^9) only [go_sem,seval,iL,iM,E1,E2,E3,E4,Q1,Q2,Q3] | simp (disch:=omega) only [aq,aK,aJ,aI,aH]))
      exact ⟨i+1,ω,ω,Wk.fq (by simp [Am.get])⟩
     .obtain rfl:i=N:=ω
      have n0:(0:Int) < (i:Int):=ω
      have l1:=CJ ω
      have l2:=L2 mz
      (repeat (first | simp (maxSteps:=9^9) only [go_sem,seval,n0,l1,l2] | simp (disch:=omega) only [aq,aK,aJ,aI,aH]))
   | c0 ha h4 h8 =>
     subst ha
     have eb:km sz ⟨0,0,0#64⟩=0:=by simp [km]
     rw [eb]
     by_cases s4:sz=4
     .subst s4
      obtain ⟨g1,g2,g3⟩:=h4 rfl
      (repeat (first | simp (maxSteps:=9^9) only [go_sem,seval] | simp (disch:=omega) only [aq,aK,aJ,aI,aH]))
      refine eY N (λi=>([(0,.c (.i N)),(1,.c (.u off)),(2,.c (.i 4)),(9,.c (.i i))],[])) (Wk.fq (by simp [Am.get])) λi hi=>?_
      by_cases aL:i < N
      .obtain ⟨k1,k2,k3⟩:=g3 i ω
       have iL:((i:Nat):Int) < (N:Int):=ω
       have iM:((i:Nat):Int) < 8:=ω
       have E1:az (4 * (i:Int))=4 * (i:Int):=aq ω ω
       have E2:az (8 * (i:Int))=8 * (i:Int):=aq ω ω
       have E3:az (16384+8 * (i:Int))=16384+8 * (i:Int):=aq ω ω
       have E4:az ((i:Int)+1)=((i+1:Nat):Int):=by rw [aq ω ω];omega
       have Q1:(off=aw 64 (4 * (i:Int)))=False:=by rw [ib ω ω];exact eq_false ω
       have Q2:(off=aw 64 (16384+8 * (i:Int)))=False:=by rw [ib ω ω];exact eq_false ω
       have Q3:(off=aw 64 (16384+8 * (i:Int))+4#64)=False:=by rw [FH ω ω];exact eq_false ω
       (repeat (first | simp (maxSteps:=9^9) only [go_sem,seval,iL,iM,E1,E2,E3,E4,Q1,Q2,Q3] | simp (disch:=omega) only [aq,aK,aJ,aI,aH]))
       exact ⟨i+1,ω,ω,Wk.fq (by simp [Am.get])⟩
      .obtain rfl:i=N:=ω
       have n0:(0:Int) < (i:Int):=ω
       have l1:=CJ g1
       have l2:=QO g2
       (repeat (first | simp (maxSteps:=9^9) only [go_sem,seval,n0,l1,l2] | simp (disch:=omega) only [aq,aK,aJ,aI,aH]))
     by_cases s8:sz=8
     .subst s8
      obtain ⟨g1,g3⟩:=h8 rfl
      (repeat (first | simp (maxSteps:=9^9) only [go_sem,seval] | simp (disch:=omega) only [aq,aK,aJ,aI,aH]))
      refine eY N (λi=>([(0,.c (.i N)),(1,.c (.u off)),(2,.c (.i 8)),(9,.c (.i i))],[])) (Wk.fq (by simp [Am.get])) λi hi=>?_
      by_cases aL:i < N
      .have k2:=g3 i ω
       have iL:((i:Nat):Int) < (N:Int):=ω
       have iM:((i:Nat):Int) < 8:=ω
       have E1:az (4 * (i:Int))=4 * (i:Int):=aq ω ω
       have E2:az (8 * (i:Int))=8 * (i:Int):=aq ω ω
       have E3:az (16384+8 * (i:Int))=16384+8 * (i:Int):=aq ω ω
       have E4:az ((i:Int)+1)=((i+1:Nat):Int):=by rw [aq ω ω];omega
       have Q2:(off=aw 64 (16384+8 * (i:Int)))=False:=by rw [ib ω ω];exact eq_false ω
       (repeat (first | simp (maxSteps:=9^9) only [go_sem,seval,iL,iM,E1,E2,E3,E4,Q2] | simp (disch:=omega) only [aq,aK,aJ,aI,aH]))
       exact ⟨i+1,ω,ω,Wk.fq (by simp [Am.get])⟩
      .obtain rfl:i=N:=ω
       have n0:(0:Int) < (i:Int):=ω
       have l1:=CJ g1
       (repeat (first | simp (maxSteps:=9^9) only [go_sem,seval,n0,l1] | simp (disch:=omega) only [aq,aK,aJ,aI,aH]))
     have S4:(sz=4)=False:=eq_false s4
     have S8:(sz=8)=False:=eq_false s8
     (repeat (first | simp (maxSteps:=9^9) only [go_sem,seval] | simp (disch:=omega) only [aq,aK,aJ,aI,aH]))
     refine eY N (λi=>([(0,.c (.i N)),(1,.c (.u off)),(2,.c (.i sz)),(9,.c (.i i))],[])) (Wk.fq (by simp [Am.get])) λi hi=>?_
     by_cases aL:i < N
     .have iL:((i:Nat):Int) < (N:Int):=ω
      have iM:((i:Nat):Int) < 8:=ω
      have E1:az (4 * (i:Int))=4 * (i:Int):=aq ω ω
      have E2:az (8 * (i:Int))=8 * (i:Int):=aq ω ω
      have E3:az (16384+8 * (i:Int))=16384+8 * (i:Int):=aq ω ω
      have E4:az ((i:Int)+1)=((i+1:Nat):Int):=by rw [aq ω ω];omega
      (repeat (first | simp (maxSteps:=9^9) only [go_sem,seval,iL,iM,E1,E2,E3,E4,S4,S8] | simp (disch:=omega) only [aq,aK,aJ,aI,aH]))
      exact ⟨i+1,ω,ω,Wk.fq (by simp [Am.get])⟩
     .obtain rfl:i=N:=ω
      have n0:(0:Int) < (i:Int):=ω
      (repeat (first | simp (maxSteps:=9^9) only [go_sem,seval,n0,S4,S8] | simp (disch:=omega) only [aq,aK,aJ,aI,aH]))
  .simp at h
 .simp at h
end
section
inductive PlC (n:Int) (m:Nat) (sz:Int) (a:Pa):Prop where
 | p1 (i:Nat) (i1:1<=i) (i2:i < 32) (hs:sz=4) (hm:m=4 * i) (ha:a=⟨1,i⟩)
 | p2 (hs:sz=4) (hm:m=4096) (ha:a=⟨2,0⟩)
 | p3 (h:Nat) (hn:(h:Int) < 2 * n) (hs:sz=4) (hm:m=8192+128 * h) (ha:a=⟨3,h⟩)
 | p4 (h:Nat) (hn:(h:Int) < 2 * n) (hs:sz=4) (hm:m=2097152+4096 * h) (ha:a=⟨4,h⟩)
 | p5 (h:Nat) (hn:(h:Int) < 2 * n) (hs:sz=4) (hm:m=2097156+4096 * h) (ha:a=⟨5,h⟩)
 | p0 (ha:a=⟨0,0⟩) (h4:sz=4->m≠4096/\(∀i:Nat,1<=i->i < 32->m≠4 * i)/\∀h:Nat,(h:Int) < 2 * n->m≠8192+128 * h/\m≠2097152+4096 * h/\m≠2097156+4096 * h)
theorem umod_eq {off:BitVec 64} {k x:Nat} (hk:k < 18446744073709551616) (hx:x < 18446744073709551616):(off % j7 64 k=j7 64 x)=(off.toNat % k=x):=by
 have e:(j7 64 k).toNat=k:=by rw [uT];omega
 rw [Cl hx,yq,e]
theorem Xj {off:BitVec 64} {k:Nat} (hk:k < 18446744073709551616):(j7 64 k<=off)=(k<=off.toNat):=by
 have e:(j7 64 k).toNat=k:=by rw [uT];omega
 rw [rT,e]
theorem ae3 {off:BitVec 64} {n:Int} (n0:1<=n) (n1:n<=8) {a b:Nat} (ha:a<=2097152) (hb:b<=4096):(off < j7 64 a+j7 64 b * aw 64 (2 * n))=(off.toNat < a+b * (2 * n.toNat)):=by
 have e:(aw 64 (2 * n)).toNat=2 * n.toNat:=by rw [kU];omega
 have ea:(j7 64 a).toNat=a:=by rw [uT];omega
 have eb:(j7 64 b).toNat=b:=by rw [uT];omega
 rw [mY,vJ,By,e,ea,eb]
 have h1:b * (2 * n.toNat)<=4096 * 16:=Nat.mul_le_mul hb ω
 rw [show (a+b * (2 * n.toNat) % 2 ^ 64) % 2 ^ 64=a+b * (2 * n.toNat) by omega]
theorem ae5 {off:BitVec 64} {a b:Nat} (ha:a<=2097152) (hb:b<=4096) (h:a<=off.toNat):((off - j7 64 a) / j7 64 b).toNat=(off.toNat - a) / b:=by
 have ea:(j7 64 a).toNat=a:=by rw [uT];omega
 have eb:(j7 64 b).toNat=b:=by rw [uT];omega
 rw [vK,yp,ea,eb]
 have:=off.isLt
 rw [show (2 ^ 64 - a+off.toNat) % 2 ^ 64=off.toNat - a by omega]
theorem acI {n:Int} (n0:1<=n) (n1:n<=8) (off:BitVec 64) (sz:Int):PlC n off.toNat sz (bJ n off sz):=by
 have q1:(off % 4#64=0#64)=(off.toNat % 4=0):=umod_eq δ δ
 have q2:(aw 64 (2 * n)=0#64)=False:=eq_false λh=>by
  have:=congrArg BitVec.toNat h
  rw [kU] at this
  have e:(0#64).toNat=0:=rfl
  omega
 have q3:(4#64<=off)=(4<=off.toNat):=Xj δ
 have q4:(off < 128#64)=(off.toNat < 128):=by rw [mY];rfl
 have q5:(off=4096#64)=(off.toNat=4096):=Cl δ
 have q6:(8192#64<=off)=(8192<=off.toNat):=Xj δ
 have q7:(off < 8192#64+128#64 * aw 64 (2 * n))=(off.toNat < 8192+128 * (2 * n.toNat)):=ae3 n0 n1 δ δ
 have q8:(off % 128#64=0#64)=(off.toNat % 128=0):=umod_eq δ δ
 have q9:(2097152#64<=off)=(2097152<=off.toNat):=Xj δ
 have qa:(off < 2097152#64+4096#64 * aw 64 (2 * n))=(off.toNat < 2097152+4096 * (2 * n.toNat)):=ae3 n0 n1 δ δ
 have qb:(off % 4096#64=0#64)=(off.toNat % 4096=0):=umod_eq δ δ
 have qc:(off % 4096#64=4#64)=(off.toNat % 4096=4):=umod_eq δ δ
 have d4:(off / 4#64).toNat=off.toNat / 4:=by rw [vK];rfl
 have u1:8192<=off.toNat->((off - 8192#64) / 128#64).toNat=(off.toNat - 8192) / 128:=ae5 δ δ
 have u2:2097152<=off.toNat->((off - 2097152#64) / 4096#64).toNat=(off.toNat - 2097152) / 4096:=ae5 δ δ
 generalize hm:off.toNat=m at *
 unfold bJ
 simp only [q1,q2,q3,q4,q5,q6,q7,q8,q9,qa,qb,qc,or_false]
 by_cases h4:sz=4
 .subst h4
  by_cases a1:m % 4=0
  .rw [if_neg (by simp;omega)]
   by_cases a2:4<=m/\m < 128
   .rw [if_pos a2]
    exact .p1 (m / 4) ω ω rfl ω (by rw [d4])
   rw [if_neg a2]
   by_cases a3:m=4096
   .rw [if_pos a3]
    exact .p2 rfl a3 rfl
   rw [if_neg a3]
   by_cases a4:8192<=m/\m < 8192+128 * (2 * n.toNat)/\m % 128=0
   .rw [if_pos a4]
    exact .p3 ((m - 8192) / 128) ω rfl ω (by rw [u1 a4.1])
   rw [if_neg a4]
   by_cases a5:2097152<=m/\m < 2097152+4096 * (2 * n.toNat)/\m % 4096=0
   .rw [if_pos a5]
    exact .p4 ((m - 2097152) / 4096) ω rfl ω (by rw [u2 a5.1])
   rw [if_neg a5]
   by_cases a6:2097152<=m/\m < 2097152+4096 * (2 * n.toNat)/\m % 4096=4
   .rw [if_pos a6]
    exact .p5 ((m - 2097152) / 4096) ω rfl ω (by rw [u2 a6.1])
   rw [if_neg a6]
   exact .p0 rfl λ_=>⟨a3,λi i1 i2=>ω,λh hn=>⟨ω,ω,ω⟩⟩
  .rw [if_pos (.inr a1)]
   exact .p0 rfl λ_=>⟨ω,λi i1 i2=>ω,λh hn=>⟨ω,ω,ω⟩⟩
 .rw [if_pos (.inl h4)]
  exact .p0 rfl λh=>absurd h h4
def LY (args:List AV):Option AV :=
 match args with
 | [.c (.i n),.c (.u off),.c (.i sz)]=>if 1<=n/\n<=8 then some (.t [.c (.i (bJ n off sz).k),.c (.i ((bJ n off sz).i:Int))]) else none
 | _=>none
theorem Wj {n off sz}:LY [.c (.i n),.c (.u off),.c (.i sz)]=if 1<=n/\n<=8 then some (.t [.c (.i (bJ n off sz).k),.c (.i ((bJ n off sz).i:Int))]) else none:=rfl
theorem UE:cE Tryz.prog 122 LY:=by
 refine cN tn Tryz.func122 rfl Tryz.results122 Tryz.ntmps122 ?_
 intro args v h
 unfold LY at h
 split at h
 .rename_i n off sz
  split at h
  .rename_i hc
   simp only [ar] at h;subst h
   refine ⟨by simp only [cZ,dY];decide,rfl,rfl,?_⟩
   obtain ⟨N,rfl⟩:∃N:Nat,n=(N:Int):=⟨n.toNat,ω⟩
   have pc:=acI hc.1 hc.2 off sz
   obtain ⟨m,hm⟩:∃m,off.toNat=m:=⟨_,rfl⟩
   rw [hm] at pc
   generalize bJ (N:Int) off sz=a at *
   have g1:¬(N:Int) < 1:=ω
   have g2:¬(8:Int) < (N:Int):=ω
   have L1:m=4096->(off=4096#64)=True:=λh=>by rw [Cl δ,hm];exact eq_true h
   have CJ:m≠4096->(off=4096#64)=False:=λh=>by rw [Cl δ,hm];exact eq_false h
   have n16:∀c:Nat,¬(c:Int) < 2 * (N:Int)->c < 16->az (2 * (N:Int))=2 * (N:Int):=λ_ _ _=>aq ω ω
   have e2:az (2 * (N:Int))=2 * (N:Int):=aq ω ω
   cases pc with
   | p1 j i1 i2 hs mz ha =>
     subst hs ha
     obtain ⟨j,rfl⟩:∃k,j=k+1:=⟨j - 1,ω⟩
     (repeat (first | simp (maxSteps:=9^9) only [go_sem,seval,g1,g2] | simp (disch:=omega) only [aq,aK,aJ,aI,aH]))
     refine eY j (λi=>([(0,.c (.i N)),(1,.c (.u off)),(2,.c (.i 4)),(8,.c (.i (i+1)))],[])) (Wk.fq (by simp [Am.get])) λi hi=>?_
     by_cases aL:i < j
     .have iL:((i:Nat):Int)+1 < 32:=ω
      have E1:az (4 * ((i:Int)+1))=4 * ((i:Int)+1):=aq ω ω
      have E4:az ((i:Int)+1+1)=((i+1:Nat):Int)+1:=by rw [aq ω ω];omega
      have Q1:(off=aw 64 (4 * ((i:Int)+1)))=False:=by rw [ib ω ω];exact eq_false ω
      (repeat (first | simp (maxSteps:=9^9) only [go_sem,seval,iL,E1,E4,Q1] | simp (disch:=omega) only [aq,aK,aJ,aI,aH]))
      exact ⟨i+1,ω,ω,Wk.fq (by simp [Am.get])⟩
     .obtain rfl:i=j:=ω
      have iL:((i:Nat):Int)+1 < 32:=ω
      have E1:az (4 * ((i:Int)+1))=4 * ((i:Int)+1):=aq ω ω
      have E4:az ((i:Int)+1+1)=((i+1:Nat):Int)+1:=by rw [aq ω ω];omega
      have Q1:(off=aw 64 (4 * ((i:Int)+1)))=True:=by rw [ib ω ω];exact eq_true ω
      (repeat (first | simp (maxSteps:=9^9) only [go_sem,seval,iL,E1,E4,Q1] | simp (disch:=omega) only [aq,aK,aJ,aI,aH]))
      first | rfl | skip
   | p2 hs mz ha =>
     subst hs ha
     (repeat (first | simp (maxSteps:=9^9) only [go_sem,seval,g1,g2] | simp (disch:=omega) only [aq,aK,aJ,aI,aH]))
     refine eY 31 (λi=>([(0,.c (.i N)),(1,.c (.u off)),(2,.c (.i 4)),(8,.c (.i (i+1)))],[])) (Wk.fq (by simp [Am.get])) λi hi=>?_
     by_cases aL:i < 31
     .have iL:((i:Nat):Int)+1 < 32:=ω
      have E1:az (4 * ((i:Int)+1))=4 * ((i:Int)+1):=aq ω ω
      have E4:az ((i:Int)+1+1)=((i+1:Nat):Int)+1:=by rw [aq ω ω];omega
      have Q1:(off=aw 64 (4 * ((i:Int)+1)))=False:=by rw [ib ω ω];exact eq_false ω
      (repeat (first | simp (maxSteps:=9^9) only [go_sem,seval,iL,E1,E4,Q1] | simp (disch:=omega) only [aq,aK,aJ,aI,aH]))
      exact ⟨i+1,ω,ω,Wk.fq (by simp [Am.get])⟩
     .obtain rfl:i=31:=ω
      have l1:=L1 mz
      (repeat (first | simp (maxSteps:=9^9) only [go_sem,seval,l1] | simp (disch:=omega) only [aq,aK,aJ,aI,aH]))
   | p3 h hn hs mz ha =>
     subst hs ha
     (repeat (first | simp (maxSteps:=9^9) only [go_sem,seval,g1,g2] | simp (disch:=omega) only [aq,aK,aJ,aI,aH]))
     refine eY 31 (λi=>([(0,.c (.i N)),(1,.c (.u off)),(2,.c (.i 4)),(8,.c (.i (i+1)))],[])) (Wk.fq (by simp [Am.get])) λi hi=>?_
     by_cases aL:i < 31
     .have iL:((i:Nat):Int)+1 < 32:=ω
      have E1:az (4 * ((i:Int)+1))=4 * ((i:Int)+1):=aq ω ω
      have E4:az ((i:Int)+1+1)=((i+1:Nat):Int)+1:=by rw [aq ω ω];omega
      have Q1:(off=aw 64 (4 * ((i:Int)+1)))=False:=by rw [ib ω ω];exact eq_false ω
      (repeat (first | simp (maxSteps:=9^9) only [go_sem,seval,iL,E1,E4,Q1] | simp (disch:=omega) only [aq,aK,aJ,aI,aH]))
      exact ⟨i+1,ω,ω,Wk.fq (by simp [Am.get])⟩
     .obtain rfl:i=31:=ω
      have l1:=CJ ω
      (repeat (first | simp (maxSteps:=9^9) only [go_sem,seval,l1] | simp (disch:=omega) only [aq,aK,aJ,aI,aH]))
      refine eY h (λk=>([(0,.c (.i N)),(1,.c (.u off)),(2,.c (.i 4)),(9,.c (.i k))],[])) (Wk.fq (by simp [Am.get])) λk hk=>?_
      by_cases BW:k < h
      .have iM:((k:Nat):Int) < 2 * (N:Int):=ω
       have E0:az (2 * (N:Int))=2 * (N:Int):=aq ω ω
       have E1:az (128 * (k:Int))=128 * (k:Int):=aq ω ω
       have E2:az (8192+128 * (k:Int))=8192+128 * (k:Int):=aq ω ω
       have E3:az (4096 * (k:Int))=4096 * (k:Int):=aq ω ω
       have E5:az (2097152+4096 * (k:Int))=2097152+4096 * (k:Int):=aq ω ω
       have E6:az (2097156+4096 * (k:Int))=2097156+4096 * (k:Int):=aq ω ω
       have E4:az ((k:Int)+1)=((k+1:Nat):Int):=by rw [aq ω ω];omega
       have Q2:(off=aw 64 (8192+128 * (k:Int)))=False:=by rw [ib ω ω];exact eq_false ω
       have Q3:(off=aw 64 (2097152+4096 * (k:Int)))=False:=by rw [ib ω ω];exact eq_false ω
       have Q4:(off=aw 64 (2097156+4096 * (k:Int)))=False:=by rw [ib ω ω];exact eq_false ω
       (repeat (first | simp (maxSteps:=9^9) only [go_sem,seval,iM,E0,E1,E2,E3,E4,E5,E6,Q2,Q3,Q4] | simp (disch:=omega) only [aq,aK,aJ,aI,aH]))
       exact ⟨k+1,ω,ω,Wk.fq (by simp [Am.get])⟩
      .obtain rfl:k=h:=ω
       have iM:((k:Nat):Int) < 2 * (N:Int):=ω
       have E0:az (2 * (N:Int))=2 * (N:Int):=aq ω ω
       have E1:az (128 * (k:Int))=128 * (k:Int):=aq ω ω
       have E2:az (8192+128 * (k:Int))=8192+128 * (k:Int):=aq ω ω
       have E3:az (4096 * (k:Int))=4096 * (k:Int):=aq ω ω
       have E5:az (2097152+4096 * (k:Int))=2097152+4096 * (k:Int):=aq ω ω
       have E6:az (2097156+4096 * (k:Int))=2097156+4096 * (k:Int):=aq ω ω
       have E4:az ((k:Int)+1)=((k+1:Nat):Int):=by rw [aq ω ω];omega
       have Q2:(off=aw 64 (8192+128 * (k:Int)))=True:=by rw [ib ω ω];exact eq_true ω
       (repeat (first | simp (maxSteps:=9^9) only [go_sem,seval,iM,E0,E1,E2,E3,E4,E5,E6,Q2] | simp (disch:=omega) only [aq,aK,aJ,aI,aH]))
   | p4 h hn hs mz ha =>
     subst hs ha
     (repeat (first | simp (maxSteps:=9^9) only [go_sem,seval,g1,g2] | simp (disch:=omega) only [aq,aK,aJ,aI,aH]))
     refine eY 31 (λi=>([(0,.c (.i N)),(1,.c (.u off)),(2,.c (.i 4)),(8,.c (.i (i+1)))],[])) (Wk.fq (by simp [Am.get])) λi hi=>?_
     by_cases aL:i < 31
     .have iL:((i:Nat):Int)+1 < 32:=ω
      have E1:az (4 * ((i:Int)+1))=4 * ((i:Int)+1):=aq ω ω
      have E4:az ((i:Int)+1+1)=((i+1:Nat):Int)+1:=by rw [aq ω ω];omega
      have Q1:(off=aw 64 (4 * ((i:Int)+1)))=False:=by rw [ib ω ω];exact eq_false ω
      (repeat (first | simp (maxSteps:=9^9) only [go_sem,seval,iL,E1,E4,Q1] | simp (disch:=omega) only [aq,aK,aJ,aI,aH]))
      exact ⟨i+1,ω,ω,Wk.fq (by simp [Am.get])⟩
     .obtain rfl:i=31:=ω
      have l1:=CJ ω
      (repeat (first | simp (maxSteps:=9^9) only [go_sem,seval,l1] | simp (disch:=omega) only [aq,aK,aJ,aI,aH]))
      refine eY h (λk=>([(0,.c (.i N)),(1,.c (.u off)),(2,.c (.i 4)),(9,.c (.i k))],[])) (Wk.fq (by simp [Am.get])) λk hk=>?_
      by_cases BW:k < h
      .have iM:((k:Nat):Int) < 2 * (N:Int):=ω
       have E0:az (2 * (N:Int))=2 * (N:Int):=aq ω ω
       have E1:az (128 * (k:Int))=128 * (k:Int):=aq ω ω
       have E2:az (8192+128 * (k:Int))=8192+128 * (k:Int):=aq ω ω
       have E3:az (4096 * (k:Int))=4096 * (k:Int):=aq ω ω
       have E5:az (2097152+4096 * (k:Int))=2097152+4096 * (k:Int):=aq ω ω
       have E6:az (2097156+4096 * (k:Int))=2097156+4096 * (k:Int):=aq ω ω
       have E4:az ((k:Int)+1)=((k+1:Nat):Int):=by rw [aq ω ω];omega
       have Q2:(off=aw 64 (8192+128 * (k:Int)))=False:=by rw [ib ω ω];exact eq_false ω
       have Q3:(off=aw 64 (2097152+4096 * (k:Int)))=False:=by rw [ib ω ω];exact eq_false ω
       have Q4:(off=aw 64 (2097156+4096 * (k:Int)))=False:=by rw [ib ω ω];exact eq_false ω
       (repeat (first | simp (maxSteps:=9^9) only [go_sem,seval,iM,E0,E1,E2,E3,E4,E5,E6,Q2,Q3,Q4] | simp (disch:=omega) only [aq,aK,aJ,aI,aH]))
       exact ⟨k+1,ω,ω,Wk.fq (by simp [Am.get])⟩
      .obtain rfl:k=h:=ω
       have iM:((k:Nat):Int) < 2 * (N:Int):=ω
       have E0:az (2 * (N:Int))=2 * (N:Int):=aq ω ω
       have E1:az (128 * (k:Int))=128 * (k:Int):=aq ω ω
       have E2:az (8192+128 * (k:Int))=8192+128 * (k:Int):=aq ω ω
       have E3:az (4096 * (k:Int))=4096 * (k:Int):=aq ω ω
       have E5:az (2097152+4096 * (k:Int))=2097152+4096 * (k:Int):=aq ω ω
       have E6:az (2097156+4096 * (k:Int))=2097156+4096 * (k:Int):=aq ω ω
       have E4:az ((k:Int)+1)=((k+1:Nat):Int):=by rw [aq ω ω];omega
       have Q2:(off=aw 64 (8192+128 * (k:Int)))=False:=by rw [ib ω ω];exact eq_false ω
       have Q3:(off=aw 64 (2097152+4096 * (k:Int)))=True:=by rw [ib ω ω];exact eq_true ω
       (repeat (first | simp (maxSteps:=9^9) only [go_sem,seval,iM,E0,E1,E2,E3,E4,E5,E6,Q2,Q3] | simp (disch:=omega) only [aq,aK,aJ,aI,aH]))
   | p5 h hn hs mz ha =>
     subst hs ha
     (repeat (first | simp (maxSteps:=9^9) only [go_sem,seval,g1,g2] | simp (disch:=omega) only [aq,aK,aJ,aI,aH]))
     refine eY 31 (λi=>([(0,.c (.i N)),(1,.c (.u off)),(2,.c (.i 4)),(8,.c (.i (i+1)))],[])) (Wk.fq (by simp [Am.get])) λi hi=>?_
     by_cases aL:i < 31
     .have iL:((i:Nat):Int)+1 < 32:=ω
      have E1:az (4 * ((i:Int)+1))=4 * ((i:Int)+1):=aq ω ω
      have E4:az ((i:Int)+1+1)=((i+1:Nat):Int)+1:=by rw [aq ω ω];omega
      have Q1:(off=aw 64 (4 * ((i:Int)+1)))=False:=by rw [ib ω ω];exact eq_false ω
      (repeat (first | simp (maxSteps:=9^9) only [go_sem,seval,iL,E1,E4,Q1] | simp (disch:=omega) only [aq,aK,aJ,aI,aH]))
      exact ⟨i+1,ω,ω,Wk.fq (by simp [Am.get])⟩
     .obtain rfl:i=31:=ω
      have l1:=CJ ω
      (repeat (first | simp (maxSteps:=9^9) only [go_sem,seval,l1] | simp (disch:=omega) only [aq,aK,aJ,aI,aH]))
      refine eY h (λk=>([(0,.c (.i N)),(1,.c (.u off)),(2,.c (.i 4)),(9,.c (.i k))],[])) (Wk.fq (by simp [Am.get])) λk hk=>?_
      by_cases BW:k < h
      .have iM:((k:Nat):Int) < 2 * (N:Int):=ω
       have E0:az (2 * (N:Int))=2 * (N:Int):=aq ω ω
       have E1:az (128 * (k:Int))=128 * (k:Int):=aq ω ω
       have E2:az (8192+128 * (k:Int))=8192+128 * (k:Int):=aq ω ω
       have E3:az (4096 * (k:Int))=4096 * (k:Int):=aq ω ω
       have E5:az (2097152+4096 * (k:Int))=2097152+4096 * (k:Int):=aq ω ω
       have E6:az (2097156+4096 * (k:Int))=2097156+4096 * (k:Int):=aq ω ω
       have E4:az ((k:Int)+1)=((k+1:Nat):Int):=by rw [aq ω ω];omega
       have Q2:(off=aw 64 (8192+128 * (k:Int)))=False:=by rw [ib ω ω];exact eq_false ω
       have Q3:(off=aw 64 (2097152+4096 * (k:Int)))=False:=by rw [ib ω ω];exact eq_false ω
       have Q4:(off=aw 64 (2097156+4096 * (k:Int)))=False:=by rw [ib ω ω];exact eq_false ω
       (repeat (first | simp (maxSteps:=9^9) only [go_sem,seval,iM,E0,E1,E2,E3,E4,E5,E6,Q2,Q3,Q4] | simp (disch:=omega) only [aq,aK,aJ,aI,aH]))
       exact ⟨k+1,ω,ω,Wk.fq (by simp [Am.get])⟩
      .obtain rfl:k=h:=ω
       have iM:((k:Nat):Int) < 2 * (N:Int):=ω
       have E0:az (2 * (N:Int))=2 * (N:Int):=aq ω ω
       have E1:az (128 * (k:Int))=128 * (k:Int):=aq ω ω
       have E2:az (8192+128 * (k:Int))=8192+128 * (k:Int):=aq ω ω
       have E3:az (4096 * (k:Int))=4096 * (k:Int):=aq ω ω
       have E5:az (2097152+4096 * (k:Int))=2097152+4096 * (k:Int):=aq ω ω
       have E6:az (2097156+4096 * (k:Int))=2097156+4096 * (k:Int):=aq ω ω
       have E4:az ((k:Int)+1)=((k+1:Nat):Int):=by rw [aq ω ω];omega
       have Q2:(off=aw 64 (8192+128 * (k:Int)))=False:=by rw [ib ω ω];exact eq_false ω
       have Q3:(off=aw 64 (2097152+4096 * (k:Int)))=False:=by rw [ib ω ω];exact eq_false ω
       have Q4:(off=aw 64 (2097156+4096 * (k:Int)))=True:=by rw [ib ω ω];exact eq_true ω
       (repeat (first | simp (maxSteps:=9^9) only [go_sem,seval,iM,E0,E1,E2,E3,E4,E5,E6,Q2,Q3,Q4] | simp (disch:=omega) only [aq,aK,aJ,aI,aH]))
   | p0 ha h4 =>
     subst ha
     by_cases s4:sz=4
     .subst s4
      obtain ⟨z1,z2,z3⟩:=h4 rfl
      (repeat (first | simp (maxSteps:=9^9) only [go_sem,seval,g1,g2] | simp (disch:=omega) only [aq,aK,aJ,aI,aH]))
      refine eY 31 (λi=>([(0,.c (.i N)),(1,.c (.u off)),(2,.c (.i 4)),(8,.c (.i (i+1)))],[])) (Wk.fq (by simp [Am.get])) λi hi=>?_
      by_cases aL:i < 31
      .have z:=z2 (i+1) ω ω
       have iL:((i:Nat):Int)+1 < 32:=ω
       have E1:az (4 * ((i:Int)+1))=4 * ((i:Int)+1):=aq ω ω
       have E4:az ((i:Int)+1+1)=((i+1:Nat):Int)+1:=by rw [aq ω ω];omega
       have Q1:(off=aw 64 (4 * ((i:Int)+1)))=False:=by rw [ib ω ω];exact eq_false ω
       (repeat (first | simp (maxSteps:=9^9) only [go_sem,seval,iL,E1,E4,Q1] | simp (disch:=omega) only [aq,aK,aJ,aI,aH]))
       exact ⟨i+1,ω,ω,Wk.fq (by simp [Am.get])⟩
      .obtain rfl:i=31:=ω
       have l1:=CJ z1
       (repeat (first | simp (maxSteps:=9^9) only [go_sem,seval,l1] | simp (disch:=omega) only [aq,aK,aJ,aI,aH]))
       refine eY (2 * N) (λk=>([(0,.c (.i N)),(1,.c (.u off)),(2,.c (.i 4)),(9,.c (.i k))],[])) (Wk.fq (by simp [Am.get])) λk hk=>?_
       by_cases BW:k < (2 * N)
       .obtain ⟨y1,y2,y3⟩:=z3 k ω
        have iM:((k:Nat):Int) < 2 * (N:Int):=ω
        have E0:az (2 * (N:Int))=2 * (N:Int):=aq ω ω
        have E1:az (128 * (k:Int))=128 * (k:Int):=aq ω ω
        have E2:az (8192+128 * (k:Int))=8192+128 * (k:Int):=aq ω ω
        have E3:az (4096 * (k:Int))=4096 * (k:Int):=aq ω ω
        have E5:az (2097152+4096 * (k:Int))=2097152+4096 * (k:Int):=aq ω ω
        have E6:az (2097156+4096 * (k:Int))=2097156+4096 * (k:Int):=aq ω ω
        have E4:az ((k:Int)+1)=((k+1:Nat):Int):=by rw [aq ω ω];omega
        have Q2:(off=aw 64 (8192+128 * (k:Int)))=False:=by rw [ib ω ω];exact eq_false ω
        have Q3:(off=aw 64 (2097152+4096 * (k:Int)))=False:=by rw [ib ω ω];exact eq_false ω
        have Q4:(off=aw 64 (2097156+4096 * (k:Int)))=False:=by rw [ib ω ω];exact eq_false ω
        (repeat (first | simp (maxSteps:=9^9) only [go_sem,seval,iM,E0,E1,E2,E3,E4,E5,E6,Q2,Q3,Q4] | simp (disch:=omega) only [aq,aK,aJ,aI,aH]))
        exact ⟨k+1,ω,ω,Wk.fq (by simp [Am.get])⟩
       .obtain rfl:k=(2 * N):=ω
        have iM:¬((2 * N:Nat):Int) < 2 * (N:Int):=ω
        (repeat (first | simp (maxSteps:=9^9) only [go_sem,seval,iM,e2] | simp (disch:=omega) only [aq,aK,aJ,aI,aH]))
     .have S4:(sz=4)=False:=eq_false s4
      (repeat (first | simp (maxSteps:=9^9) only [go_sem,seval,S4] | simp (disch:=omega) only [aq,aK,aJ,aI,aH]))
  .simp at h
 .simp at h
theorem ck0 (off:BitVec 64) (sz:Int):(cb 0 off sz).k=0:=by
 have e0:aw 64 0=0#64:=rfl
 unfold cb
 rw [e0]
 have z:∀x:BitVec 64,¬x < 0#64:=λx h=>by rw [mY] at h;exact absurd h (MF _)
 rw [if_neg (λh=>z _ h.2.2)]
 split
 .rfl
 rw [if_neg (λh=>z _ h.1)]
 rw [if_neg (λh=>by
  obtain ⟨h1,h2⟩:=h
  rw [rT] at h1
  rw [show 16384#64+8#64 * 0#64=16384#64 from rfl,mY] at h2
  omega)]
theorem pl0 (off:BitVec 64) (sz:Int):(bJ 0 off sz).k=0:=by
 unfold bJ
 rw [if_pos (.inr (.inr rfl))]
theorem ail {n:Int} (h:¬(1<=n/\n<=8)):(iH n).n=0:=by unfold iH;rw [if_neg h];rfl
theorem auv {n:Int} (h:¬(1<=n/\n<=8)):(iE n).n=0:=by unfold iE;rw [if_neg h];rfl
theorem ahG {n:Int} (h:¬(1<=n/\n<=8)) (a:BitVec 64) (s:Int):(gV n a s).d=0:=by
 unfold gV GP HV
 rw [ail h,auv h,ck0,pl0]
 rw [if_neg (by simp),if_neg (by simp),if_neg (λx=>h x.2.1)]
theorem ahF {n:Int} (h:1<=n/\n<=8) (a:BitVec 64) (s:Int):(gV n a s).d=if ¬(cb n (a - 33554432#64) s).k=0 then 1 else if ¬(bJ n (a - 201326592#64) s).k=0 then 2 else if 268435456#64<=a/\a < 268435464#64/\s=1 then 3 else 0:=by
 unfold gV GP HV
 rw [YW h,UU h]
 have k1:¬(cb n (a - 33554432#64) s).k=0->33554432#64<=a:=λhk=>by
  have hc:=Nf h.1 h.2 (a - 33554432#64) s
  generalize cb n (a - 33554432#64) s=z at *
  have key:(a - 33554432#64).toNat < 100000->33554432#64<=a:=λhl=>by
   rw [yp,show (33554432#64).toNat=33554432 from rfl] at hl
   rw [rT,show (33554432#64).toNat=33554432 from rfl]
   have:=a.isLt
   omega
  cases hc with
  | c0 ha=>subst ha;exact absurd rfl hk
  | _=>exact key ω
 have k2:¬(bJ n (a - 201326592#64) s).k=0->201326592#64<=a:=λhk=>by
  have hc:=acI h.1 h.2 (a - 201326592#64) s
  generalize bJ n (a - 201326592#64) s=z at *
  have key:(a - 201326592#64).toNat < 4000000->201326592#64<=a:=λhl=>by
   rw [yp,show (201326592#64).toNat=201326592 from rfl] at hl
   rw [rT,show (201326592#64).toNat=201326592 from rfl]
   have:=a.isLt
   omega
  cases hc with
  | p0 ha=>subst ha;exact absurd rfl hk
  | _=>exact key ω
 have k3:268435456#64<=a->(a - 268435456#64 < 8#64)=(a < 268435464#64):=λha=>by
  rw [rT,show (268435456#64).toNat=268435456 from rfl] at ha
  rw [mY,mY,yp,show (268435456#64).toNat=268435456 from rfl,show (8#64).toNat=8 from rfl,show (268435464#64).toNat=268435464 from rfl]
  have:=a.isLt
  exact propext ω
 by_cases c1:(cb n (a - 33554432#64) s).k=0
 .rw [if_neg (by simp [c1])]
  rw [if_neg (show ¬¬(cb n (a - 33554432#64) s).k=0 from λx=>x c1)]
  by_cases c2:(bJ n (a - 201326592#64) s).k=0
  .rw [if_neg (by simp [c2]),if_neg (show ¬¬(bJ n (a - 201326592#64) s).k=0 from λx=>x c2)]
   by_cases c3:268435456#64<=a
   .simp only [k3 c3]
    by_cases c4:a < 268435464#64/\s=1
    .rw [if_pos ⟨c3,h,c4⟩,if_pos ⟨c3,c4⟩]
    .rw [if_neg (λx=>c4 x.2.2),if_neg (λx=>c4 x.2)]
   .rw [if_neg (λx=>c3 x.1),if_neg (λx=>c3 x.1)]
  .rw [if_pos ⟨k2 c2,by simp [c2]⟩,if_pos c2]
 .rw [if_pos ⟨k1 c1,by simp [c1]⟩,if_pos c1]
def L8 (args:List AV):Option AV :=
 match args with
 | [.c (.i n),.c (.u a),.c (.i s)]=>some (.c (.i (gV n a s).d))
 | _=>none
theorem aej {n a s}:L8 [.c (.i n),.c (.u a),.c (.i s)]=some (.c (.i (gV n a s).d)):=rfl
theorem acf:cE Tryz.prog 78 L8:=by
 refine cN (tu UD (tu UE tn)) Tryz.func78 rfl Tryz.results78 Tryz.ntmps78 ?_
 intro args v h
 unfold L8 at h
 split at h
 .rename_i n a s
  simp only [ar] at h;subst h
  refine ⟨by simp only [cZ,dY];decide,rfl,rfl,?_⟩
  by_cases h:1<=n/\n<=8
  .rw [ahF h]
   have e1:=Wi (n:=n) (off:=a - 33554432#64) (sz:=s)
   have e2:=Wj (n:=n) (off:=a - 201326592#64) (sz:=s)
   rw [if_pos h] at e1 e2
   have k1:=Jy n (a - 33554432#64) s
   have k2:=K0 n (a - 201326592#64) s
   have g1:¬n < 1:=ω
   have g2:¬8 < n:=ω
   generalize cb n (a - 33554432#64) s=x at *
   generalize bJ n (a - 201326592#64) s=y at *
   obtain ⟨xk,xh,xu⟩:=x
   obtain ⟨yk,yi⟩:=y
   simp only at k1 k2 e1 e2
   by_cases c1:xk=0
   .subst c1
    by_cases c2:yk=0
    .subst c2
     rcases Classical.propComplete (268435456#64<=a) with c3 | c3
     all_goals rcases Classical.propComplete (a < 268435464#64) with c4 | c4
     all_goals rcases Classical.propComplete (s=1) with c5 | c5
     all_goals (repeat (first | simp (maxSteps:=9^9) only [go_sem,seval,e1,e2,g1,g2,c3,c4,c5,not_true_eq_false,if_true,if_false,true_and,and_true,false_and,and_false] | simp (disch:=omega) only [aq,aK,aJ,aI,aH]))
    .have p2:(0:Int) < yk:=ω
     (repeat (first | simp (maxSteps:=9^9) only [go_sem,seval,e1,e2,g1,g2,p2,c2,not_true_eq_false,not_false_eq_true,if_true,if_false] | simp (disch:=omega) only [aq,aK,aJ,aI,aH]))
   .have p1:(0:Int) < (xk:Int):=ω
    (repeat (first | simp (maxSteps:=9^9) only [go_sem,seval,e1,g1,g2,p1,c1,not_false_eq_true,if_true] | simp (disch:=omega) only [aq,aK,aJ,aI,aH]))
  .have e:=ahG h a s
   rw [e]
   by_cases g1:n < 1
   ·(repeat (first | simp (maxSteps:=9^9) only [go_sem,seval,g1] | simp (disch:=omega) only [aq,aK,aJ,aI,aH]))
   .have g2:8 < n:=ω
    (repeat (first | simp (maxSteps:=9^9) only [go_sem,seval,g1,g2] | simp (disch:=omega) only [aq,aK,aJ,aI,aH]))
 .simp at h
end
section
variable {H:AH}{D:Bd}
theorem US{K:AH}{h:Nat}{t:Pt}{x y:Sc}(hP:PI K h t x y):wO K h=some (t,x,y):=auJ hP
def acW(args:List AV)(H:AH)(v:AV):Prop:=(args=[.c .dt]->v=.c (.u 0#64))/\∀D,args=[.c (.p D.id 0 0)]->BI H D->v=.c (.u D.b.c.t)
def Lo:List AV->AH->Option AV:=lg Tryz.prog [(163,.fq Il)] 109 acW
theorem aqV:aZ Tryz.prog 109 (λargs H=>(Lo args H).map λv=>(v,H)):=nn (tq aq5 tn) Tryz.func109 rfl Tryz.results109 Tryz.ntmps109
theorem awo(hB:BI H D):Lo [.c (.p D.id 0 0)] H=some (.c (.u D.b.c.t)):=by
 have:∃v,Lo [.c (.p D.id 0 0)] H=some v/\acW [.c (.p D.id 0 0)] H v:=by
  unfold Lo;apply mu (v:=.c (.u D.b.c.t)) Tryz.func109 rfl Tryz.results109 Tryz.ntmps109 (by simp)
  .exact λ_ _=>rfl
  .intro _ _;have ho:=hB.ho;have ll:=hB.l;have ct:=awv hB.ck;simp only[go_sem,seval,ho,ll,ct];exact aE _
  .refine⟨λhe=>by simp at he,λE he hE=>?_⟩;simp only[cK,AV.c.injEq,Sc.p.injEq,and_true]at he;rw[hB.uniq hE he]
 obtain⟨v,h1,h2⟩:=this;rw[h1,h2.2 D rfl hB]
def DA(args:List AV)(H:AH):Option (AV×AH):=match args with
 |[.c .dt]=>some (.c .aA,H)|[.c (.p id 0 0)]=>match hg H id with
   |.own (.p pid 0 0::cs)=>if cs.length=87 then(match DY [.c (.p pid 0 0)] H with|some (.c s,H1)=>some (.c s,H1)|_=>none)else none|_=>none
 |_=>none
theorem an3(args:List AV)(H:AH)(v:AV)(H1:AH)(h:DA args H=some (v,H1)):H.length<=H1.length:=by
 unfold DA at h;repeat' split at h
 all_goals first|(simp at h;done)|(simp at h;rw[<-h.2];exact aC _)|(rename_i e;simp at h;rw[<-h.2];exact aa3 _ _ _ _ e)
theorem aqS:aZ Tryz.prog 110 DA:=by
 refine fU (s:=DA) (tp as5 tn) Tryz.func110 rfl Tryz.results110 Tryz.ntmps110 an3 ?_;intro args H v H1 h bM hH;unfold DA at h;split at h
 .simp only[ar,bD]at h;obtain⟨rfl,rfl⟩:=h;refine⟨by simp,?_⟩;simp only[go_sem,seval];exact aN
 .split at h
  .rename_i ho;split at h
   .rename_i hl;split at h
    .rename_i e;simp only[ar,bD]at h;obtain⟨rfl,rfl⟩:=h;refine⟨by simp,?_⟩;simp only[go_sem,seval,ho,hl,e];exact aN
    .simp at h
   .simp at h
  .simp at h
 .simp at h
theorem awl(hB:BI H D)(hs:D.t.B.length<=1000000):DA [.c (.p D.id 0 0)] H=some (.c (.sl H.length 0 D.t.B.length D.t.B.length),H++[.vec 1 (D.t.B.flatMap dE)]):=by
 have ll:=hB.l;simp only[fN,cZ]at ll;simp only[DA,hB.ho,fN,aub hB.pi hs];rw[if_pos (by simp only[cZ];omega)]
def DB(args:List AV)(H:AH):Option (AV×AH):=match args with
 |[.c .dt]=>some (.c .aA,H)|[.c (.p id 0 0)]=>match hg H id with
   |.own (.p pid 0 0::cs)=>if cs.length=87 then(match DZ [.c (.p pid 0 0)] H with|some (.c s,H1)=>some (.c s,H1)|_=>none)else none|_=>none
 |_=>none
theorem an4(args:List AV)(H:AH)(v:AV)(H1:AH)(h:DB args H=some (v,H1)):H.length<=H1.length:=by
 unfold DB at h;repeat' split at h
 all_goals first|(simp at h;done)|(simp at h;rw[<-h.2];exact aC _)|(rename_i e;simp at h;rw[<-h.2];exact aa9 _ _ _ _ e)
theorem aqW:aZ Tryz.prog 111 DB:=by
 refine fU (s:=DB) (tp ate tn) Tryz.func111 rfl Tryz.results111 Tryz.ntmps111 an4 ?_;intro args H v H1 h bM hH;unfold DB at h;split at h
 .simp only[ar,bD]at h;obtain⟨rfl,rfl⟩:=h;refine⟨by simp,?_⟩;simp only[go_sem,seval];exact aN
 .split at h
  .rename_i ho;split at h
   .rename_i hl;split at h
    .rename_i e;simp only[ar,bD]at h;obtain⟨rfl,rfl⟩:=h;refine⟨by simp,?_⟩;simp only[go_sem,seval,ho,hl,e];exact aN
    .simp at h
   .simp at h
  .simp at h
 .simp at h
theorem awp(hB:BI H D)(hs:D.t.A.length<=1000000):DB [.c (.p D.id 0 0)] H=some (.c (.sl H.length 0 D.t.A.length D.t.A.length),H++[.vec 1 (D.t.A.flatMap dE)]):=by
 have ll:=hB.l;simp only[fN,cZ]at ll;simp only[DB,hB.ho,fN,az8 hB.pi hs];rw[if_pos (by simp only[cZ];omega)]
def EA(n:Nat)(t:Pt):AH:=[.own (iy (iz t (.sl (n+1) 0 t.A.length t.A.length) (.sl (n+2) 0 t.B.length t.B.length))),.vec 1 (t.A.flatMap dE),.vec 1 (t.B.flatMap dE)]
def acT(args:List AV)(H:AH)(v:AV)(H1:AH):Prop:=(args=[.c .dt]->v=.c .dt/\H1=H)/\∀D,args=[.c (.p D.id 0 0)]->BI H D->v=.c (.p (H.length+3) 0 0)/\H1=H++(EA H.length D.t++[.own (fN H.length D.b)])
def Ll:List AV->AH->Option (AV×AH):=uw Tryz.prog [(112,.fp DX)] 53 acT
theorem aqN:aZ Tryz.prog 53 Ll:=Ap (tp as0 tn) Tryz.func53 rfl Tryz.results53 Tryz.ntmps53
theorem awh(hB:BI H D)(hf:CI D.t):Ll [.c (.p D.id 0 0)] H=some (.c (.p (H.length+3) 0 0),H++(EA H.length D.t++[.own (fN H.length D.b)])):=by
 have:∃v H1,Ll [.c (.p D.id 0 0)] H=some (v,H1)/\H.length<=H1.length/\acT [.c (.p D.id 0 0)] H v H1:=by
  have ho:=hB.ho;have fO:∀X,hg (H++X) D.id=.own (fN D.pid D.b):=λX=>(hB.app X).ho;have uc:=axB (US hB.pi) hf;have l1:=fT hB.ok.c;have l2:=zg hB.ok.k;have o1:=na D.b.c;have o2:=acE D.b.k;have t1:∀m:List Sc,bV 18 (aT D.b.c++m)=aT D.b.c:=λm=>qe l1;have t2:bV 68 (eh D.b.k)=eh D.b.k:=bR ω;have t3:∀m:List Sc,cY 18 (aT D.b.c++m)=m:=λm=>xf l1;have t4:∀m:List Sc,cY 86 (aT D.b.c++m)=cY 68 m:=λm=>by rw[BA,l1,kE ω,jV]
  unfold fN at ho fO;unfold Ll;apply ik (v:=.c (.p (H.length+3) 0 0)) (H1:=H++(EA H.length D.t++[.own (fN H.length D.b)])) Tryz.func53 rfl Tryz.results53 Tryz.ntmps53 (by simp)
  .intro _ _;simp only[go_sem,seval,ho,fO,uc,l1,l2,o1,o2,t1,t2,t3,t4];(repeat' first|apply cn|(intro _;kernel_rfl)|kernel_rfl);exact aN
  .simp
  .refine⟨λhe=>by simp at he,λE he hE=>?_⟩;simp only[cK,AV.c.injEq,Sc.p.injEq,and_true]at he;rw[hB.uniq hE he];exact⟨rfl,rfl⟩
 obtain⟨v,H1,h1,_,h2⟩:=this;obtain⟨rfl,rfl⟩:=h2.2 D rfl hB;exact h1
end
variable {k:Pk}
section
def eJ(w:BitVec 32):List Sc:=(oR 32).map λi=>.b (w.getLsbD i)
def vA(k:Pk):List Sc:=k.p.map Sc.i++(eJ k.w++(eJ k.q++(eJ k.s++(k.e.flatMap eJ++k.l.map Sc.i))))
def aS(k:Pk):List Sc:=.i k.n::vA k
theorem j5(w:BitVec 32):(eJ w).length=32:=by simp[eJ]
theorem adK(h:cG k):(vA k).length=656:=by
 have:(k.e.flatMap eJ).length=512:=by rw[qK j5,h.e]
 simp[vA,h.p,h.l,j5,this]
theorem Vb{f:Sc->Bool}(hf:∀q,f (.b q)=true)(w:BitVec 32):(eJ w).all f=true:=by
 unfold eJ;rw[uW];exact cD.2 λ_ _=>hf _
theorem Vm{f:Sc->Bool}(hf:∀q,f (.b q)=true)(hi:∀n,f (.i n)=true)(k:Pk):(vA k).all f=true:=by
 have hm:∀l:List Int,(l.map Sc.i).all f=true:=λl=>by rw[uW];exact cD.2 λ_ _=>hi _
 have he:(k.e.flatMap eJ).all f=true:=by
  rw[List.all_flatMap];exact cD.2 λw _=>Vb hf w
 simp only[vA,fH,hm,he,Vb hf,Mz]
theorem adL(k:Pk):(vA k).all Sc.one=true:=Vm (λ_=>rfl) (λ_=>rfl) k
theorem avf(k:Pk):(vA k).all Sc.pf=true:=Vm (λ_=>rfl) (λ_=>rfl) k
def oO:List Sc:=vA (uH 0)
theorem x9:oO.length=656:=adK (UX δ δ)
theorem adE:oO.all Sc.one=true:=adL _
theorem adF:oO.all Sc.pf=true:=avf _
theorem ave:bV 656 oO=oO:=bR (by rw[x9];exact aC _)
theorem avd:cY 656 oO=[]:=kE (by rw[x9];exact aC _)
theorem avi(n:Int):aS (iE n)=.i (iE n).n::oO:=by
 unfold iE;split<;>rfl
theorem aA2:zT Tryz.prog 58=some (.i 0::oO):=κ
attribute [go_sem]x9 adE ave avd
attribute [go_sem 2000]aA2
def Ww(args:List AV):Option AV:=match args with|[.c (.i n)]=>some (.g (.i (iE n).n::oO))|_=>none
theorem axw{n}:Ww [.c (.i n)]=some (.g (.i (iE n).n::oO)):=rfl
theorem asH:cE Tryz.prog 66 Ww:=by
 refine cN tn Tryz.func66 rfl Tryz.results66 Tryz.ntmps66 ?_;intro args v h;unfold Ww at h;split at h
 .rename_i n;simp only[ar]at h;subst h;have pp:=adF;refine⟨by simp,by first|rfl|simp only[bG,dO,AV.pf,Sc.pf,cX, *],by first|rfl|simp only[bG,dO,AV.pf,Sc.pf,cX, *],?_⟩;by_cases c1:n<1
  .have e:iE n=uH 0:=if_neg ω;rw[e,show(uH 0).n=0 from rfl];simp only[go_sem,seval,c1]
  by_cases c2:8<n
  .have e:iE n=uH 0:=if_neg ω;rw[e,show(uH 0).n=0 from rfl];simp only[go_sem,seval,c1,c2]
  have e:iE n=uH n:=if_pos ω;rw[e,show(uH n).n=n from rfl];simp only[go_sem,seval,c1,c2]
 .simp at h
def Wv(args:List AV):Option AV:=match args with|[.c (.i h)]=>some (.g (aT (iH h)))|_=>none
theorem axv{h}:Wv [.c (.i h)]=some (.g (aT (iH h))):=rfl
theorem asG:cE Tryz.prog 65 Wv:=by
 refine cN tn Tryz.func65 rfl Tryz.results65 Tryz.ntmps65 ?_;intro args v h;unfold Wv at h;split at h
 .rename_i h;simp only[ar]at h;subst h;have pp:=RE (iH h);refine⟨by simp only[cZ,dY];decide,by first|rfl|simp only[bG,dO,AV.pf,Sc.pf,cX, *],by first|rfl|simp only[bG,dO,AV.pf,Sc.pf,cX, *],?_⟩;by_cases c1:h<1
  .have e:iH h=kn 0 0:=if_neg ω;rw[e];(repeat(first|simp(maxSteps:=9^9)only[go_sem,seval,c1]|simp(disch:=omega)only[aq,aK,aJ,aI,aH]));rfl
  by_cases c2:8<h
  .have e:iH h=kn 0 0:=if_neg ω;rw[e];(repeat(first|simp(maxSteps:=9^9)only[go_sem,seval,c1,c2]|simp(disch:=omega)only[aq,aK,aJ,aI,aH]));rfl
  obtain⟨m,rfl⟩:∃m:Nat,h=(m:Int):=⟨h.toNat,ω⟩;have e:iH (m:Int)=kn m m:=by unfold iH;rw[if_pos ω,aO]
  rw[e];(repeat(first|simp(maxSteps:=9^9)only[go_sem,seval,c1,c2]|simp(disch:=omega)only[aq,aK,aJ,aI,aH]));refine eY m (λi=>([(0,.c (.i m)),(2,.c (.p 0 0 0)),(3,.c (.p 1 0 0)),(4,.c (.i i))],[.own (aT (kn 0 0)),.own (aT (kn m i))])) (Wk.Z9 rfl (Wk.fq (by simp[Am.get]))) λi hi=>?_;have ll:=fT (Jz (h:=m) ω ω (i:=i) ω);by_cases aL:i<m
  .have w:=YV (h:=m) ω ω (i:=i) ω;have e0:(i:Int)<(m:Int):=ω
   have e1:az ((i:Int)+1)=((i+1:Nat):Int):=by rw[aq ω ω];omega
   (repeat(first|simp(maxSteps:=9^9)only[go_sem,seval,e0,e1,w,aO]|simp(disch:=omega)only[aq,aK,aJ,aI,aH]));exact⟨i+1,ω,ω,Wk.fq (by simp[Am.get])⟩
  .obtain rfl:i=m:=ω
   have t18:bV 18 (aT (kn i i))=aT (kn i i):=bR ω;have l0:(aT (kn 0 0)).length=18:=rfl;have one:=na (kn i i);have dn:cY 18 (aT (kn 0 0))=[]:=rfl;(repeat(first|simp(maxSteps:=9^9)only[go_sem,seval,t18,ll,l0,one,dn]|simp(disch:=omega)only[aq,aK,aJ,aI,aH]))
 .simp at h
def ky:List Sc:=aT (kn 0 0)++(.i 0::(oO++aU fJ .aA .aA))
theorem aA1:zT Tryz.prog 62=some (.i 0::ky):=κ
attribute [go_sem 2000]aA1
theorem auW(n:Int):(aT (iH n)++(.i (iE n).n::(oO++aU fJ .aA .aA))).all Sc.pf=true:=by rw[fH,bG,fH,RE,adF];rfl
theorem auV(n:Int):(aT (iH n)++(.i (iE n).n::(oO++aU fJ .aA .aA))).length=686:=by rw[cF,cZ,cF,fT (JA n),x9];rfl
def PH(args:List AV):Option AV:=match args with|[.c (.i n)]=>some (.g (.i n::(aT (iH n)++(.i (iE n).n::(oO++aU fJ .aA .aA)))))|_=>none
theorem axx{n}:PH [.c (.i n)]=some (.g (.i n::(aT (iH n)++(.i (iE n).n::(oO++aU fJ .aA .aA))))):=rfl
theorem asI:cE Tryz.prog 25 PH:=by
 refine cN (tu asG (tu asH tn)) Tryz.func25 rfl Tryz.results25 Tryz.ntmps25 ?_;intro args v h;unfold PH at h;split at h
 .rename_i n;simp only[ar]at h;subst h;have pp:=auW n;refine⟨by simp,by first|rfl|simp only[bG,dO,AV.pf,Sc.pf,cX, *],by first|rfl|simp only[bG,dO,AV.pf,Sc.pf,cX, *],?_⟩;have l1:=fT (JA n);have o1:=na (iH n);have l0:(aT (kn 0 0)).length=18:=rfl;have lb:ky.length=686:=by unfold ky;rw[cF,cZ,cF,l0,x9];rfl
  have t1:∀m:List Sc,bV 18 (aT (iH n)++m)=aT (iH n):=λm=>qe l1;have d1:cY 18 ky=.i 0::(oO++aU fJ .aA .aA):=by unfold ky;exact xf l0
  have d2:∀m:List Sc,cY 675 (aT (iH n)++m)=cY 657 m:=λm=>by rw[BA,l1,kE ω,jV]
  have d3:∀m:List Sc,cY 656 (oO++m)=m:=λm=>xf x9;have d4:cY 686 ky=[]:=kE ω;have lp:(aU fJ .aA .aA).length=11:=rfl;have op:(aU fJ .aA .aA).all Sc.one=true:=rfl;have oo:(aT (iH n)++(.i (iE n).n::(oO++aU fJ .aA .aA))).all Sc.one=true:=by rw[fH,bG,fH,na,adE];rfl
  have tt:bV 686 (aT (iH n)++(.i (iE n).n::(oO++aU fJ .aA .aA)))=aT (iH n)++(.i (iE n).n::(oO++aU fJ .aA .aA)):=bR (by rw[auV];exact aC _);simp only[go_sem,seval,axv,axw,l1,o1,lb,t1,d1,d2,d3,d4,lp,op,oo,tt]
 .simp at h
def yA(D E:Bd):Bool:=by classical exact decide (D.b=E.b)&&Bm D.t E.t
def acV(args:List AV)(H:AH)(v:AV):Prop:=(args=[.c .dt,.c .dt]->v=.c (.b true))/\∀D E,args=[.c (.p D.id 0 0),.c (.p E.id 0 0)]->BI H D->BI H E->v=.c (.b (yA D E))
def Ln:List AV->AH->Option AV:=lg Tryz.prog [(114,.fq IQ)] 56 acV
theorem aqU:aZ Tryz.prog 56 (λargs H=>(Ln args H).map λv=>(v,H)):=nn (tq as9 tn) Tryz.func56 rfl Tryz.results56 Tryz.ntmps56
end
section
def Ds(w:BitVec 64)(b:Int):BitVec 64:=if b=1 then w%4294967296#64 else if b=2 then w/4294967296#64 else w
def Eg(w:BitVec 64)(b:Int)(v:BitVec 64):BitVec 64:=if b=1 then w-w%4294967296#64+v%4294967296#64 else if b=2 then w%4294967296#64+v%4294967296#64*4294967296#64 else v
def PK(args:List AV):Option AV:=match args with|[.c (.u w),.c (.i b)]=>some (.c (.u (Ds w b)))|_=>none
theorem aeh{w b}:PK [.c (.u w),.c (.i b)]=some (.c (.u (Ds w b))):=rfl
theorem asK:cE Tryz.prog 154 PK:=by
 refine cN tn Tryz.func154 rfl Tryz.results154 Tryz.ntmps154 ?_;intro args v h;unfold PK at h;split at h
 .rename_i w b;simp only[ar]at h;subst h;refine⟨by simp,rfl,rfl,?_⟩;unfold Ds;rcases Classical.propComplete (b=1)with h1|h1
  .simp only[go_sem,seval,h1]
  rcases Classical.propComplete (b=2)with h2|h2;all_goals simp only[go_sem,seval,h1,h2]
 .simp at h
def PL(args:List AV):Option AV:=match args with|[.c (.u w),.c (.i b),.c (.u v)]=>some (.c (.u (Eg w b v)))|_=>none
theorem aek{w b v}:PL [.c (.u w),.c (.i b),.c (.u v)]=some (.c (.u (Eg w b v))):=rfl
theorem asS:cE Tryz.prog 158 PL:=by
 refine cN tn Tryz.func158 rfl Tryz.results158 Tryz.ntmps158 ?_;intro args v h;unfold PL at h;split at h
 .rename_i w b v;simp only[ar]at h;subst h;refine⟨by simp,rfl,rfl,?_⟩;unfold Eg;rcases Classical.propComplete (b=1)with h1|h1
  .simp only[go_sem,seval,h1]
  rcases Classical.propComplete (b=2)with h2|h2;all_goals simp only[go_sem,seval,h1,h2]
 .simp at h
theorem X9(a b c d:BitVec 64):(a&&&b)&&&(c&&&d)=(a&&&c)&&&(b&&&d):=by rw[XE,XE,<-XE b c d,BitVec.and_comm b c,XE c b d]
theorem HJ(w:BitVec 64):w&&&4294967295#64=w%4294967296#64:=by
 apply lJ;rw[BitVec.toNat_and,yq,show(4294967295#64).toNat=2^32-1 from rfl,show(4294967296#64).toNat=2^32 from rfl,afA]
theorem acL(w:BitVec 64):w>>>(0#64).toNat&&&4294967295#64=Ds w 1:=by rw[show(0#64).toNat=0 from rfl,Qz,HJ];rfl
theorem acK(w:BitVec 64):w>>>(32#64).toNat&&&4294967295#64=Ds w 2:=by
 rw[show(32#64).toNat=32 from rfl,HJ];apply lJ;show _=(w/4294967296#64).toNat;rw[yq,Gn,vK,GF,show(4294967296#64).toNat=4294967296 from rfl];have:=w.isLt;omega
theorem afj(w v:BitVec 64):w&&&~~~(4294967295#64<<<(0#64).toNat)|||v<<<(0#64).toNat&&&4294967295#64<<<(0#64).toNat=Eg w 1 v:=by
 show _=w-w%4294967296#64+v%4294967296#64;rw[show(0#64).toNat=0 from rfl,BitVec.shiftLeft_zero,BitVec.shiftLeft_zero,<-HJ w,<-HJ v];have d0:∀x y:BitVec 64,(x&&&~~~4294967295#64)&&&(y&&&4294967295#64)=0#64:=λx y=>by rw[X9 x (~~~4294967295#64) y 4294967295#64,show~~~4294967295#64&&&4294967295#64=0#64 from rfl,BitVec.and_zero]
 have s1:(w&&&~~~4294967295#64)+(w&&&4294967295#64)=w:=by
  rw[Qw _ _ (d0 w w)];rw[show(w&&&~~~4294967295#64)|||(w&&&4294967295#64)=w&&&(~~~4294967295#64|||4294967295#64)by rw[BitVec.and_or_distrib_left]];rw[show~~~4294967295#64|||4294967295#64=BitVec.allOnes 64 from rfl,BitVec.and_allOnes]
 have s2:w-(w&&&4294967295#64)=w&&&~~~4294967295#64:=by
  conv=>lhs;lhs;rw[<-s1]
  rw[BitVec.add_sub_cancel]
 rw[s2,Qw _ _ (d0 w v)]
theorem afi(w v:BitVec 64):w&&&~~~(4294967295#64<<<(32#64).toNat)|||v<<<(32#64).toNat&&&4294967295#64<<<(32#64).toNat=Eg w 2 v:=by
 show _=w%4294967296#64+v%4294967296#64*4294967296#64;rw[show(32#64).toNat=32 from rfl,show~~~(4294967295#64<<<32)=4294967295#64 from rfl,<-BitVec.shiftLeft_and_distrib];have e:∀x:BitVec 64,x*4294967296#64=x<<<32:=λx=>by
  apply lJ;rw[By,BitVec.toNat_shiftLeft,Nat.shiftLeft_eq];rfl
 rw[e,<-HJ w,<-HJ v];rw[Qw];rw[BitVec.shiftLeft_and_distrib,X9 w 4294967295#64 (v<<<32) (4294967295#64<<<32),show 4294967295#64&&&4294967295#64<<<32=0#64 from rfl,BitVec.and_zero]
theorem Ey{a b:Ck}(ha:gF a)(hb:gF b)(h:aT a=aT b):a=b:=RH.i _ _ ha hb h
structure yx(c:Ck):Prop where
 ok:gF c
 n0:1<=c.n
theorem aio{c:Ck}(h:yx c)(off:BitVec 64)(sz:Int):um c (cb c.n off sz) sz=if(cb c.n off sz).k=0 then 0#64 else if(cb c.n off sz).k=1 then(if c.s.getD (cb c.n off sz).h false=true then 1#64 else 0#64)else Ds (vT c (cb c.n off sz)) (km sz (cb c.n off sz)):=by
 have ck:=Nf h.n0 h.ok.n1 off sz;generalize cb c.n off sz=a at*;unfold um;cases ck with
 |c1 _ _ hs _ ha=>subst hs ha;rfl|c2 _ _ hs _ ha=>subst hs ha;simp[km,Ds]|c3 _ _ hs _ ha=>subst hs ha;exact acL _|c4 _ _ hs _ ha=>subst hs ha;exact acK _|c5 hs _ ha=>subst hs ha;simp[km,Ds]|c6 hs _ ha=>subst hs ha;exact acL _|c7 hs _ ha=>subst hs ha;exact acK _|c0 ha=>subst ha;rfl
theorem aiq{c:Ck}(h:yx c)(off:BitVec 64)(sz:Int)(v:BitVec 64):ka c (cb c.n off sz) sz v=if(cb c.n off sz).k=0 then c else if(cb c.n off sz).k=1 then{c with s:=c.s.set (cb c.n off sz).h (decide (v&&&1#64=1#64))}else xz c (cb c.n off sz) (Eg (vT c (cb c.n off sz)) (km sz (cb c.n off sz)) v):=by
 have ck:=Nf h.n0 h.ok.n1 off sz;generalize cb c.n off sz=a at*;unfold ka;cases ck with
 |c1 _ _ hs _ ha=>subst hs ha;rfl|c2 _ _ hs _ ha=>subst hs ha;simp[km,Eg]|c3 _ _ hs _ ha=>subst hs ha;rw[if_neg (by simp),if_neg (by simp),if_neg δ,if_neg (by simp),if_neg (by simp),show km 4 _=1 from rfl,<-afj]|c4 _ _ hs _ ha=>subst hs ha;rw[if_neg (by simp),if_neg (by simp),if_neg δ,if_neg (by simp),if_neg (by simp),show km 4 _=2 from rfl,<-afi]|c5 hs _ ha=>subst hs ha;simp[km,Eg]|c6 hs _ ha=>subst hs ha;rw[if_neg (by simp),if_neg (by simp),if_neg δ,if_neg (by simp),if_neg (by simp),show km 4 _=1 from rfl,<-afj]|c7 hs _ ha=>subst hs ha;rw[if_neg (by simp),if_neg (by simp),if_neg δ,if_neg (by simp),if_neg (by simp),show km 4 _=2 from rfl,<-afi]|c0 ha=>subst ha;rfl
variable {H:AH}{c:Ck}
def ac6(args:List AV)(H:AH)(v:AV):Prop:=∀c off sz,yx c->args=[.g (aT c),.c (.u off),.c (.i sz)]->v=.t [.c (.u (um c (cb c.n off sz) sz)),.c (.b (!decide ((cb c.n off sz).k=0)))]
def LN:List AV->AH->Option AV:=lg Tryz.prog [(121,.pu LX),(154,.pu PK)] 97 ac6
theorem asm:aZ Tryz.prog 97 (λargs H=>(LN args H).map λv=>(v,H)):=nn (tu UD (tu asK tn)) Tryz.func97 rfl Tryz.results97 Tryz.ntmps97
theorem axk(hc:yx c)(off:BitVec 64)(sz:Int):LN [.g (aT c),.c (.u off),.c (.i sz)] H=some (.t [.c (.u (um c (cb c.n off sz) sz)),.c (.b (!decide ((cb c.n off sz).k=0)))]):=by
 have:∃v,LN [.g (aT c),.c (.u off),.c (.i sz)] H=some v/\ac6 [.g (aT c),.c (.u off),.c (.i sz)] H v:=by
  unfold LN;apply mu (v:=.t [.c (.u (um c (cb c.n off sz) sz)),.c (.b (!decide ((cb c.n off sz).k=0)))]) Tryz.func97 rfl Tryz.results97 Tryz.ntmps97 (by simp)
  .exact λ_ _=>rfl
  .intro _ _;have ll:=fT hc.ok;have lo:=na c;have d0:=Nb c;have d1:=Nc c;have cQ:=Wi (n:=c.n) (off:=off) (sz:=sz);rw[if_pos ⟨hc.n0,hc.ok.n1⟩]at cQ;rw[aio hc];have hh:=Jw hc.ok.n0 hc.ok.n1 off sz;have hk:=Jy c.n off sz;generalize km sz (cb c.n off sz)=z at*;generalize cb c.n off sz=a at*;obtain⟨ak,ah,au⟩:=a;simp only at hh hk cQ;have dc:=Nd hc.ok hh;have ds:=RI hc.ok hh;rcases hk with rfl|rfl|rfl|rfl
   .simp only[go_sem,seval,cQ,d0,ll,lo];exact aB _ _
   .cases hs:c.s.getD ah false;all_goals rw[hs]at ds
    all_goals(repeat(first|simp only[go_sem,seval,cQ,d0,ll,lo,ds,aO]|simp(disch:=omega)only[w0]))
    all_goals exact aB _ _
   ·(repeat(first|simp only[go_sem,seval,cQ,d0,ll,lo,dc,aeh,vT,aO]|simp(disch:=omega)only[w0]));exact aB _ _
   .simp only[go_sem,seval,cQ,d0,d1,ll,lo,aeh,vT,aO];exact aB _ _
  .intro c' FG Xa mM he;simp only[cK,AV.g.injEq,AV.c.injEq,Sc.u.injEq,Sc.i.injEq,and_true]at he;obtain⟨e1,rfl,rfl⟩:=he;obtain rfl:=Ey hc.ok mM.ok e1;rfl
 obtain⟨v,h1,h2⟩:=this;rw[h1,h2 c off sz hc rfl]
theorem agI(w:BitVec 64):(w%2#64=1#64)=(w&&&1#64=1#64):=by
 have:w&&&1#64=w%2#64:=by
  apply lJ;rw[BitVec.toNat_and,yq,show(1#64).toNat=2^1-1 from rfl,show(2#64).toNat=2^1 from rfl,afA]
 rw[this]
def ac8(args:List AV)(H:AH)(v:AV):Prop:=∀c off sz w,yx c->args=[.g (aT c),.c (.u off),.c (.i sz),.c (.u w)]->v=.t [.g (aT (ka c (cb c.n off sz) sz w)),.c (.b (!decide ((cb c.n off sz).k=0)))]
def LP:List AV->AH->Option AV:=lg Tryz.prog [(121,.pu LX),(158,.pu PL)] 100 ac8
theorem aso:aZ Tryz.prog 100 (λargs H=>(LP args H).map λv=>(v,H)):=nn (tu UD (tu asS tn)) Tryz.func100 rfl Tryz.results100 Tryz.ntmps100
theorem axm(hc:yx c)(off:BitVec 64)(sz:Int)(w:BitVec 64):LP [.g (aT c),.c (.u off),.c (.i sz),.c (.u w)] H=some (.t [.g (aT (ka c (cb c.n off sz) sz w)),.c (.b (!decide ((cb c.n off sz).k=0)))]):=by
 have:∃v,LP [.g (aT c),.c (.u off),.c (.i sz),.c (.u w)] H=some v/\ac8 [.g (aT c),.c (.u off),.c (.i sz),.c (.u w)] H v:=by
  have okW:=RG hc.ok (cb c.n off sz) sz w;unfold LP;apply mu (v:=.t [.g (aT (ka c (cb c.n off sz) sz w)),.c (.b (!decide ((cb c.n off sz).k=0)))]) Tryz.func100 rfl Tryz.results100 Tryz.ntmps100 (by simp)
  .intro _ _;show((aT _).all (Sc.aj H.length)&&(true&&true))=true;rw[M9];rfl
  .intro _ _;have ll:=fT hc.ok;have lo:=na c;have d0:=Nb c;have d1:=Nc c;have cQ:=Wi (n:=c.n) (off:=off) (sz:=sz);rw[if_pos ⟨hc.n0,hc.ok.n1⟩]at cQ;have lW:=fT okW;have oW:=na (ka c (cb c.n off sz) sz w);have tW:bV 18 (aT (ka c (cb c.n off sz) sz w))=aT (ka c (cb c.n off sz) sz w):=bR ω;rw[aiq hc]at lW oW tW|-;have hh:=Jw hc.ok.n0 hc.ok.n1 off sz;have hk:=Jy c.n off sz;have m2:=agI w;generalize km sz (cb c.n off sz)=z at*;generalize cb c.n off sz=a at*;obtain⟨ak,ah,au⟩:=a;simp only at hh hk cQ;have dc:=Nd hc.ok hh;have ws:=λv=>qZ (YY hc.ok hh v);have wc:=λv=>qZ (RK hc.ok hh v);have w1:=λv=>qZ (RJ c v);rcases hk with rfl|rfl|rfl|rfl
   .simp only[if_true]at lW oW tW|-;simp only[go_sem,seval,cQ,d0,ll,lo,tW];exact aB _ _
   .simp only[if_true,if_false,Nat.one_ne_zero]at lW oW tW|-;(repeat(first|simp only[go_sem,seval,cQ,d0,ll,lo,m2,ws,lW,oW,tW,aO]|simp(disch:=omega)only[w0]));exact aB _ _
   .simp only[Nat.reduceEqDiff,if_true,if_false,xz,vT]at lW oW tW|-;(repeat(first|simp only[go_sem,seval,cQ,d0,ll,lo,dc,aek,wc,lW,oW,tW,aO]|simp(disch:=omega)only[w0]));exact aB _ _
   .simp only[Nat.reduceEqDiff,if_true,if_false,xz,vT]at lW oW tW|-;simp only[go_sem,seval,cQ,d0,d1,ll,lo,aek,w1,lW,oW,tW,aO];exact aB _ _
  .intro c' FG Xa w' mM he;simp only[cK,AV.g.injEq,AV.c.injEq,Sc.u.injEq,Sc.i.injEq,and_true]at he;obtain⟨e1,rfl,rfl,rfl⟩:=he;obtain rfl:=Ey hc.ok mM.ok e1;rfl
 obtain⟨v,h1,h2⟩:=this;rw[h1,h2 c off sz w hc rfl]
def ac7(args:List AV)(H:AH)(v:AV):Prop:=∀c n,yx c->args=[.g (aT c),.c (.i n)]->v=.g (aT (nJ c n))
def LO:List AV->AH->Option AV:=lg Tryz.prog [] 104 ac7
theorem asn:aZ Tryz.prog 104 (λargs H=>(LO args H).map λv=>(v,H)):=nn tn Tryz.func104 rfl Tryz.results104 Tryz.ntmps104
theorem axl(hc:yx c)(n:Int):LO [.g (aT c),.c (.i n)] H=some (.g (aT (nJ c n))):=by
 have:∃v,LO [.g (aT c),.c (.i n)] H=some v/\ac7 [.g (aT c),.c (.i n)] H v:=by
  have okW:=Na hc.ok n;unfold LO;apply mu (v:=.g (aT (nJ c n))) Tryz.func104 rfl Tryz.results104 Tryz.ntmps104 (by simp)
  .intro _ _;exact M9 _ _
  .intro _ _;have ll:=fT hc.ok;have lo:=na c;have d0:=Nb c;have d1:=Nc c;have n0:0<c.n:=by have:=hc.n0;omega
   have lW:=fT okW;have oW:=na (nJ c n);have tW:bV 18 (aT (nJ c n))=aT (nJ c n):=bR ω;have w1:=λv=>qZ (RJ c v);by_cases h:0<n
   .have e:nJ c n={c with t:=c.t+aw 64 n}:=if_pos ⟨h,n0⟩;rw[e]at lW oW tW|-;simp only[go_sem,seval,d0,d1,ll,lo,n0,h,w1,lW,oW,tW];exact aB _ _
   .have e:nJ c n=c:=if_neg (λx=>h x.1);rw[e]at lW oW tW|-;simp only[go_sem,seval,d0,d1,ll,lo,n0,h,tW];exact aB _ _
  .intro c' n' mM he;simp only[cK,AV.g.injEq,AV.c.injEq,Sc.u.injEq,Sc.i.injEq,and_true]at he;obtain⟨e1,rfl⟩:=he;obtain rfl:=Ey hc.ok mM.ok e1;rfl
 obtain⟨v,h1,h2⟩:=this;rw[h1,h2 c n hc rfl]
def ac5(args:List AV)(H:AH)(v:AV):Prop:=∀c n,yx c->args=[.g (aT c),.c (.i n)]->v=.c (.u (ko c n))
def LM:List AV->AH->Option AV:=lg Tryz.prog [] 160 ac5
theorem asj:aZ Tryz.prog 160 (λargs H=>(LM args H).map λv=>(v,H)):=nn tn Tryz.func160 rfl Tryz.results160 Tryz.ntmps160
theorem axj(hc:yx c)(n:Int):LM [.g (aT c),.c (.i n)] H=some (.c (.u (ko c n))):=by
 have:∃v,LM [.g (aT c),.c (.i n)] H=some v/\ac5 [.g (aT c),.c (.i n)] H v:=by
  unfold LM;apply mu (v:=.c (.u (ko c n))) Tryz.func160 rfl Tryz.results160 Tryz.ntmps160 (by simp)
  .exact λ_ _=>rfl
  .intro _ _;have ll:=fT hc.ok;have lo:=na c;have d0:=Nb c;have d1:=Nc c;have n8:=hc.ok.n1;by_cases h0:n<0
   .have e:ko c n=0#64:=if_pos (.inl h0);rw[e];simp only[go_sem,seval,d0,ll,lo,h0];exact aB _ _
   by_cases h1:c.n<=n
   .have e:ko c n=0#64:=if_pos (.inr h1);rw[e];simp only[go_sem,seval,d0,ll,lo,h0,h1];exact aB _ _
   obtain⟨k,rfl⟩:∃k:Nat,n=(k:Int):=⟨n.toNat,ω⟩;have hk:k<8:=ω
   have dc:=Nd hc.ok hk;have ds:=RI hc.ok hk;have e:ko c (k:Int)=(if c.s.getD k false=true then 8#64 else 0#64)|||(if c.c.getD k 0#64<=c.t then 128#64 else 0#64):=by unfold ko;rw[if_neg ω,aO]
   rw[e];rcases hs:c.s.getD k false with _|_<;>rcases Classical.propComplete (c.c.getD k 0#64<=c.t)with ht|ht;all_goals rw[hs]at ds
   all_goals(repeat(first|simp only[go_sem,seval,d0,d1,ll,lo,dc,ds,ht,h0,h1,if_true,if_false,dC,aO]|simp(disch:=omega)only[w0]))
   all_goals exact aB _ _
  .intro c' n' mM he;simp only[cK,AV.g.injEq,AV.c.injEq,Sc.u.injEq,Sc.i.injEq,and_true]at he;obtain⟨e1,rfl⟩:=he;obtain rfl:=Ey hc.ok mM.ok e1;rfl
 obtain⟨v,h1,h2⟩:=this;rw[h1,h2 c n hc rfl]
end
variable {f g:Nat->Bool}{i c:Nat}{w:BitVec 32}
section
def nW(f:Nat->Bool):List Sc:=(oR 32).map λi=>.b (f i)
theorem Vc(f:Nat->Bool):(nW f).length=32:=by simp[nW]
theorem Du(w:BitVec 32):eJ w=nW w.getLsbD:=rfl
theorem H5(hi:i<32):(nW f).getD i .any=.b (f i):=by simp[nW,b9,qf,QE hi]
theorem H4(h:∀i,i<32->f i=g i):nW f=nW g:=by
 unfold nW;refine List.map_congr_left λi hi=>?_;rw[h i (List.mem_range.1 hi)]
theorem O5(hi:i<32)(v:Bool):wr (nW f) i [.b v]=nW λj=>if j=i then v else f j:=by
 rw[CC (by rw[Vc];exact hi)];refine vL λj=>?_;rw[qD];unfold nW;simp only[qf,s5,List.length_range];rcases cU j 32 with hj|hj
 .rw[QE hj];by_cases e:i=j
  .subst e;simp[hj]
  .simp[e,Ne.symm e]
 .rw[jQ (l:=oR 32) (by simp;exact hj)];rw[if_neg ω];rfl
theorem auU(h:nW f=nW g):∀i,i<32->f i=g i:=λi hi=>by
 have:=congrArg (λl=>l.getD i .any) h;simp only[H5 hi,Sc.b.injEq]at this;exact this
theorem K9{u:BitVec 32}(h:eJ u=eJ w):u=w:=zN λi hi=>auU h i hi
theorem xw{s:Nat}(hj:j<32)(hs:s<32):(dh s).getLsbD j=decide (j=s):=by
 unfold dh;rw[BitVec.getLsbD_shiftLeft,Qx];by_cases e:j=s
 .subst e;simp[hj]
 .simp[e,hj];omega
section
variable {k:Pk}
def Pg(k:Pk):List Sc:=.i k.n::k.p.map Sc.i
def Ph(k:Pk):List Sc:=.i k.n::(k.p.map Sc.i++eJ k.w)
def Pj(k:Pk):List Sc:=.i k.n::(k.p.map Sc.i++(eJ k.w++eJ k.q))
def Ic(k:Pk):List Sc:=.i k.n::(k.p.map Sc.i++(eJ k.w++(eJ k.q++eJ k.s)))
def Pl(k:Pk):List Sc:=.i k.n::(k.p.map Sc.i++(eJ k.w++(eJ k.q++(eJ k.s++k.e.flatMap eJ))))
theorem adG(h:cG k):(Pg k).length=33:=by simp[Pg,h.p]
theorem Vl(h:cG k):(Ph k).length=65:=by simp[Ph,h.p,j5]
theorem adH(h:cG k):(Pj k).length=97:=by simp[Pj,h.p,j5]
theorem adI(h:cG k):(Ic k).length=129:=by simp[Ic,h.p,j5]
theorem Pn(h:cG k):(k.e.flatMap eJ).length=512:=by rw[qK j5,h.e]
theorem adJ(h:cG k):(Pl k).length=641:=by simp[Pl,h.p,j5,Pn h]
theorem adN(k:Pk):aS k=[.i k.n]++(k.p.map Sc.i++(eJ k.w++(eJ k.q++(eJ k.s++(k.e.flatMap eJ++k.l.map Sc.i))))):=rfl
theorem Vn(k:Pk):aS k=Pg k++(eJ k.w++(eJ k.q++(eJ k.s++(k.e.flatMap eJ++k.l.map Sc.i)))):=by simp[aS,vA,Pg]
theorem Pp(k:Pk):aS k=Ph k++(eJ k.q++(eJ k.s++(k.e.flatMap eJ++k.l.map Sc.i))):=by simp[aS,vA,Ph]
theorem Vo(k:Pk):aS k=Pj k++(eJ k.s++(k.e.flatMap eJ++k.l.map Sc.i)):=by simp[aS,vA,Pj]
theorem adO(k:Pk):aS k=Ic k++(k.e.flatMap eJ++k.l.map Sc.i):=by simp[aS,vA,Ic]
theorem Vp(k:Pk):aS k=Pl k++(k.l.map Sc.i++[]):=by simp[aS,vA,Pl]
theorem jv(h:cG k):(aS k).length=657:=by simp only[aS,cZ,adK h]
theorem sR(k:Pk):(aS k).all Sc.one=true:=by simp only[aS,bG,adL];rfl
theorem Lc(k:Pk)(n:Nat):(aS k).all (Sc.aj n)=true:=by
 simp only[aS,bG];rw[Vm (λ_=>rfl) (λ_=>rfl)];rfl
theorem abh{l:List Int}{i:Nat}(h:i<l.length):(l.map Sc.i).getD i .any=.i (l.getD i 0):=by
 rw[b9,qf,cM h];simp[b9,cM h]
theorem abi{l:List Int}{i:Nat}(h:i<l.length)(v:Int):wr (l.map Sc.i) i [.i v]=(l.set i v).map Sc.i:=by rw[CC (by simpa using h),<-CE]
theorem Pq(k:Pk):(aS k).getD 0 .any=.i k.n:=rfl
theorem Vs(h:cG k)(hi:i<32):(aS k).getD (1+i) .any=.i (k.p.getD i 0):=by
 rw[adN];exact(wj (A:=[.i k.n]) (by simp[h.p,hi])).trans (abh (by rw[h.p];exact hi))
theorem avh(h:cG k)(hi:i<32):(aS k).getD (33+i) .any=.b (k.w.getLsbD i):=by rw[Vn,<-adG h,wj (by rw[j5];exact hi),Du,H5 hi]
theorem avg(h:cG k)(hi:i<32):(aS k).getD (65+i) .any=.b (k.q.getLsbD i):=by rw[Pp,<-Vl h,wj (by rw[j5];exact hi),Du,H5 hi]
theorem adS(h:cG k)(hi:i<32):(aS k).getD (97+i) .any=.b (k.s.getLsbD i):=by rw[Vo,<-adH h,wj (by rw[j5];exact hi),Du,H5 hi]
theorem adP(h:cG k)(hi:i<16):(aS k).getD (641+i) .any=.i (k.l.getD i 0):=by rw[Vp,<-adJ h,wj (by simp[h.l,hi]),abh (by rw[h.l];exact hi)]
theorem ZL(h:cG k)(hc:c<16):k.e[c]?=some (k.e.getD c 0#32):=by
 have:c<k.e.length:=by rw[h.e];exact hc
 rw[cM this,b9,cM this];rfl
theorem adM(h:cG k)(hc:c<16)(hi:i<32):(aS k).getD (129+(c*32+i)) .any=.b ((k.e.getD c 0#32).getLsbD i):=by rw[adO,<-adI h,wj (by rw[Pn h];omega),Sb j5 (ZL h hc) hi,Du,H5 hi]
theorem adQ(h:cG k)(hc:c<16):∃P Q,P.length=129+c*32/\∀w,aS {k with e:=k.e.set c w}=P++(eJ w++Q):=by
 obtain⟨P,Q,_,h2,h3⟩:=CS j5 (ZL h hc);refine⟨Ic k++P,Q++k.l.map Sc.i,by rw[cF,adI h,h2],λw=>?_⟩;rw[adO];show Ic k++((k.e.set c w).flatMap eJ++_)=_;rw[h3];simp
theorem adR:({k with e:=k.e.set c (k.e.getD c 0#32)}:Pk)=k:=by
 have:k.e.set c (k.e.getD c 0#32)=k.e:=by
  refine vL λj=>?_;rw[qD];by_cases e:c=j
  .subst e;rw[if_pos rfl];split
   .rename_i hl;rw[b9,cM hl];rfl
   .rename_i hl;rw[jQ ω]
  .rw[if_neg e]
 rw[this]
theorem aAl(h:cG k)(hi:i<32)(v:Int):wr (aS k) (1+i) [.i v]=aS {k with p:=k.p.set i v}:=by
 rw[adN];refine(zJ (A:=[.i k.n]) (by simp[h.p];omega)).trans ?_;rw[abi (by rw[h.p];exact hi)];rfl
theorem aAj(h:cG k)(hi:i<16)(v:Int):wr (aS k) (641+i) [.i v]=aS {k with l:=k.l.set i v}:=by rw[Vp,<-adJ h,zJ (by simp[h.l];omega),abi (by rw[h.l];exact hi),Vp];rfl
theorem afg{v:Bool}(h:cG k)(hi:i<32)(hw:∀j,j<32->(if j=i then v else k.w.getLsbD j)=w.getLsbD j):wr (aS k) (33+i) [.b v]=aS {k with w:=w}:=by rw[Vn,<-adG h,zJ (by rw[j5];simp;omega),Du,O5 hi,H4 hw,Vn];rfl
theorem Xx{v:Bool}(h:cG k)(hi:i<32)(hw:∀j,j<32->(if j=i then v else k.q.getLsbD j)=w.getLsbD j):wr (aS k) (65+i) [.b v]=aS {k with q:=w}:=by rw[Pp,<-Vl h,zJ (by rw[j5];simp;omega),Du,O5 hi,H4 hw,Pp];rfl
theorem afe{v:Bool}(h:cG k)(hi:i<32)(hw:∀j,j<32->(if j=i then v else k.s.getLsbD j)=w.getLsbD j):wr (aS k) (97+i) [.b v]=aS {k with s:=w}:=by rw[Vo,<-adH h,zJ (by rw[j5];simp;omega),Du,O5 hi,H4 hw,Vo];rfl
end
theorem abj{a b:List Int}(h:a.map Sc.i=b.map Sc.i):a=b:=Fy (λ_ _ h=>Sc.i.inj h) h
theorem Z2:∀{a b:List (BitVec 32)},a.flatMap eJ=b.flatMap eJ->a=b
 |[],[],_=>rfl|[],w::b,h=>by
   have:=congrArg List.length h;rw[qK j5,qK j5]at this;simp only[cZ,dY]at this;omega|w::a,[],h=>by
   have:=congrArg List.length h;rw[qK j5,qK j5]at this;simp only[cZ,dY]at this;omega|w::a,u::b,h=>by
   simp only[List.flatMap_cons]at h;obtain⟨h1,h2⟩:=uh h (by rw[j5,j5]);rw[K9 h1,Z2 h2]
theorem FR{a b:Pk}(ha:cG a)(hb:cG b)(h:aS a=aS b):a=b:=by
 simp only[aS,vA,cK,Sc.i.injEq]at h;obtain⟨h1,h2⟩:=h;obtain⟨h3,h4⟩:=uh h2 (by simp[ha.p,hb.p]);obtain⟨h5,h6⟩:=uh h4 (by rw[j5,j5]);obtain⟨h7,h8⟩:=uh h6 (by rw[j5,j5]);obtain⟨h9,oD⟩:=uh h8 (by rw[j5,j5]);obtain⟨h11,h12⟩:=uh oD (by rw[Pn ha,Pn hb]);have g3:=abj h3;have g5:=K9 h5;have g7:=K9 h7;have g9:=K9 h9;have NL:=Z2 h11;have NM:=abj h12;clear h2 h3 h4 h5 h6 h7 h8 h9 oD h11 h12 ha hb;cases a;cases b;simp only at h1 g3 g5 g7 g9 NL NM;subst h1 g3 g5 g7 g9 NL NM;rfl
structure jK(k:Pk):Prop where
 ok:cG k
 n0:1<=k.n
 st:∀j,j<32->k.w.getLsbD j=true->k.s.getLsbD j=false->k.q.getLsbD j=true
 e0:∀c,(k.e.getD c 0#32).getLsbD 0=false
end
variable {am:BitVec 32}{ab:Int}
section
def qH(p:List Int)(am:BitVec 32)(ab:Int):Nat->Nat|0=>0|t+1=>if(yH p am ab (31-t)&&(decide (qH p am ab t=0)||decide (p.getD (qH p am ab t) 0<=p.getD (31-t) 0)))=true then 31-t else qH p am ab t
def GG(p:List Int)(am:BitVec 32)(ab:Int)(S:Nat->Prop)(b:Nat):Prop:=(b=0/\∀i,S i->yH p am ab i=false)\/(S b/\1<=b/\yH p am ab b=true/\∀i,S i->yH p am ab i=true->p.getD i 0<=p.getD b 0/\(p.getD i 0=p.getD b 0->b<=i))
theorem YI{p:List Int}{am:BitVec 32}{ab:Int}:∀n,GG p am ab (λi=>1<=i/\i<=n) (jD p am ab n)
 |0=>.inl ⟨rfl,λi h=>ω⟩|n+1=>by
   have ih:=YI (p:=p) (am:=am) (ab:=ab) n;unfold jD;generalize jD p am ab n=b at*;cases he:yH p am ab (n+1)
   .simp only[nZ,dC,if_false];rcases ih with⟨h1,h2⟩|⟨h1,h2,h3,h4⟩
    .refine .inl ⟨h1,λi hi=>?_⟩;by_cases e:i=n+1
     .rw[e,he]
     .exact h2 i ω
    .refine .inr ⟨ω,h2,h3,λi hi hq=>?_⟩;by_cases e:i=n+1
     .rw[e,he]at hq;simp at hq
     .exact h4 i ω hq
   .simp only[gv];rcases ih with⟨h1,h2⟩|⟨h1,h2,h3,h4⟩
    .subst h1;simp only[decide_true,Bool.true_or,if_true];refine .inr ⟨ω,ω,he,λi hi hq=>?_⟩;by_cases e:i=n+1
     .subst e;exact⟨zO _,λ_=>aC _⟩
     .rw[h2 i ω]at hq;simp at hq
    .by_cases hp:p.getD b 0<p.getD (n+1) 0
     .rw[if_pos (by rw[decide_eq_true hp,Bool.or_true])];refine .inr ⟨ω,ω,he,λi hi hq=>?_⟩;by_cases e:i=n+1
      .subst e;exact⟨zO _,λ_=>aC _⟩
      .have:=h4 i ω hq;exact⟨ω,λx=>ω⟩
     .rw[if_neg (by rw[decide_eq_false hp,uU,decide_eq_false ω];decide)];refine .inr ⟨ω,h2,h3,λi hi hq=>?_⟩;by_cases e:i=n+1
      .subst e;exact⟨ω,λx=>ω⟩
      .exact h4 i ω hq
theorem ZH{p:List Int}{am:BitVec 32}{ab:Int}:∀t,t<=31->GG p am ab (λi=>32-t<=i/\i<=31) (qH p am ab t)
 |0,_=>.inl ⟨rfl,λi h=>ω⟩|t+1,ht=>by
   have ih:=ZH (p:=p) (am:=am) (ab:=ab) t ω;unfold qH;generalize qH p am ab t=b at*;cases he:yH p am ab (31-t)
   .simp only[nZ,dC,if_false];rcases ih with⟨h1,h2⟩|⟨h1,h2,h3,h4⟩
    .refine .inl ⟨h1,λi hi=>?_⟩;by_cases e:i=31-t
     .rw[e,he]
     .exact h2 i ω
    .refine .inr ⟨ω,h2,h3,λi hi hq=>?_⟩;by_cases e:i=31-t
     .rw[e,he]at hq;simp at hq
     .exact h4 i ω hq
   .simp only[gv];rcases ih with⟨h1,h2⟩|⟨h1,h2,h3,h4⟩
    .subst h1;simp only[decide_true,Bool.true_or,if_true];refine .inr ⟨ω,ω,he,λi hi hq=>?_⟩;by_cases e:i=31-t
     .subst e;exact⟨zO _,λ_=>aC _⟩
     .rw[h2 i ω]at hq;simp at hq
    .by_cases hp:p.getD b 0<=p.getD (31-t) 0
     .rw[if_pos (by rw[decide_eq_true hp,Bool.or_true])];refine .inr ⟨ω,ω,he,λi hi hq=>?_⟩;by_cases e:i=31-t
      .subst e;exact⟨zO _,λ_=>aC _⟩
      .have:=h4 i ω hq;exact⟨ω,λx=>ω⟩
     .rw[if_neg (by rw[decide_eq_false hp,uU,decide_eq_false ω];decide)];refine .inr ⟨ω,h2,h3,λi hi hq=>?_⟩;by_cases e:i=31-t
      .subst e;exact⟨ω,λx=>ω⟩
      .exact h4 i ω hq
theorem GG.uniq{p:List Int}{S T:Nat->Prop}{a b:Nat}(N4:∀i,S i↔T i)(ha:GG p am ab S a)(hb:GG p am ab T b):a=b:=by
 rcases ha with⟨a1,a2⟩|⟨a1,a2,a3,a4⟩<;>rcases hb with⟨b1,b2⟩|⟨b1,b2,b3,b4⟩
 .omega
 .rw[a2 b ((N4 b).2 b1)]at b3;simp at b3
 .rw[b2 a ((N4 a).1 a1)]at a3;simp at a3
 .have x:=a4 b ((N4 b).2 b1) b3;have y:=b4 a ((N4 a).1 a1) a3;have:=x.2 ω;have:=y.2 ω;omega
theorem akO{p:List Int}:qH p am ab 31=jD p am ab 31:=GG.uniq (λi=>by show(1<=i/\i<=31)↔_;exact Iff.rfl) (ZH 31 (aC _)) (YI 31)
theorem ZI{p:List Int}{am:BitVec 32}{ab:Int}:∀t,qH p am ab t<=31
 |0=>by show 0<=31;omega|t+1=>by
   have:=ZI (p:=p) (am:=am) (ab:=ab) t;unfold qH;split<;>omega
theorem akU{am:BitVec 32}{i:Nat}:decide (am>>>i&&&1#32=1#32)=am.getLsbD i:=by
 have:am>>>i&&&1#32=if am.getLsbD i=true then 1#32 else 0#32:=by
  refine zN λj hj=>?_;rw[rS,BitVec.getLsbD_ushiftRight,Qx];by_cases e:j=0
  .subst e;cases h:am.getLsbD i<;>simp[h]
  .have:(decide (0<32)&&decide (0=j))=false:=by simp;omega
   cases h:am.getLsbD i
   .simp[e];try omega
   .simp[Qx];try omega
 rw[this];cases am.getLsbD i<;>rfl
variable {H:AH}{k:Pk}
def ac9(args:List AV)(H:AH)(v:AV):Prop:=∀k(c:Nat)ab,cG k->c<16->args=[.g (aS k),.c (.i (c:Int)),.c (.i ab)]->v=.c (.i ((jD k.p (k.q&&&k.e.getD c 0#32) ab 31:Nat):Int))
def II:List AV->AH->Option AV:=lg Tryz.prog [] 156 ac9
theorem ab4:aZ Tryz.prog 156 (λargs H=>(II args H).map λv=>(v,H)):=nn tn Tryz.func156 rfl Tryz.results156 Tryz.ntmps156
theorem aea(hk:cG k){c:Nat}(hc:c<16)(ab:Int):II [.g (aS k),.c (.i (c:Int)),.c (.i ab)] H=some (.c (.i ((jD k.p (k.q&&&k.e.getD c 0#32) ab 31:Nat):Int))):=by
 have:∃v,II [.g (aS k),.c (.i (c:Int)),.c (.i ab)] H=some v/\ac9 [.g (aS k),.c (.i (c:Int)),.c (.i ab)] H v:=by
  unfold II;apply mu (v:=.c (.i ((jD k.p (k.q&&&k.e.getD c 0#32) ab 31:Nat):Int))) Tryz.func156 rfl Tryz.results156 Tryz.ntmps156 (by simp)
  .exact λ_ _=>rfl
  .intro _ hH;rw[<-akO];obtain⟨am,Sv⟩:∃am,k.q&&&k.e.getD c 0#32=am:=⟨_,rfl⟩;rw[Sv];have ll:=jv hk;have lo:=sR k;have tt:bV 657 (aS k)=aS k:=bR ω;have bb:dk (H++[.own (aS k)])=true:=td hH (by simp only[xm,forall_eq];exact Lc _ _);simp only[go_sem,seval,ll,lo,tt];refine eY 31 (λt=>([(1,.c (.i c)),(2,.c (.i ab)),(3,.c (.p H.length 0 0)),(7,.c (.i (qH k.p am ab t:Nat))),(8,.c (.i (31-(t:Int))))],H++[.own (aS k)])) (Wk.fq (by simp[Am.get,qH])) λt ht=>?_;by_cases aL:t<31
   .have e0:1<=31-(t:Int):=ω
    have e1:az (31-(t:Int)-1)=31-((t+1:Nat):Int):=by rw[aq ω ω];omega
    have e2:(31-(t:Int)).toNat=31-t:=ω
    have g1:(0:Int)<=31-(t:Int):=ω
    have g2:31-(t:Int)<32:=ω
    have hi:31-t<32:=ω
    have dp:=Vs hk hi;have dq:=avg hk hi;have de:(aS k).getD (129+c*32+(31-t)) .any=.b ((k.e.getD c 0#32).getLsbD (31-t)):=by rw[mH];exact adM hk hc hi
    have hB:=ZI (p:=k.p) (am:=am) (ab:=ab) t;have dB:=Vs hk (i:=qH k.p am ab t) ω;have eS:qH k.p am ab (t+1)=if(yH k.p am ab (31-t)&&(decide (qH k.p am ab t=0)||decide (k.p.getD (qH k.p am ab t) 0<=k.p.getD (31-t) 0)))=true then 31-t else qH k.p am ab t:=rfl;unfold yH at eS;rw[akU,<-Sv,rS,Sv]at eS;have cz:((qH k.p am ab t:Nat):Int)=0↔qH k.p am ab t=0:=ω
    have ei:(31:Int)-(t:Int)=((31-t:Nat):Int):=ω
    generalize qH k.p am ab t=B at*;have Np:=propext cz;cases hq:k.q.getLsbD (31-t)
    .rw[hq]at dq eS;simp only[nZ,dC,if_false]at eS;(repeat(first|simp only[go_sem,seval,e0,e1,e2,g1,g2,ll,dq]|simp(disch:=omega)only[w0]));exact⟨t+1,ω,ω,Wk.fq (by simp[Am.get,ei,eS])⟩
    rw[hq]at dq eS;cases he:(k.e.getD c 0#32).getLsbD (31-t)
    .rw[he]at de eS;simp only[nZ,rh,dC,if_false]at eS;(repeat(first|simp only[go_sem,seval,e0,e1,e2,g1,g2,ll,dq,de,hc,aO]|simp(disch:=omega)only[w0]));exact⟨t+1,ω,ω,Wk.fq (by simp[Am.get,ei,eS])⟩
    rw[he]at de eS;rcases Classical.propComplete (ab<k.p.getD (31-t) 0)with ha|ha
    .rcases Classical.propComplete (B=0)with z|z
     .rw[z]at Np;simp only[ha,z,Mz,decide_true,Bool.true_or,if_true]at eS;(repeat(first|simp only[go_sem,seval,e0,e1,e2,g1,g2,ll,dq,de,dp,hc,ha,Np,aO]|simp(disch:=omega)only[w0]));exact⟨t+1,ω,ω,Wk.fq (by simp[Am.get,ei,eS])⟩
     .rw[z]at Np;rcases Classical.propComplete (k.p.getD B 0<=k.p.getD (31-t) 0)with y|y;all_goals simp only[ha,z,y,Mz,decide_true,decide_false,Bool.false_or,cX,rh,dC,if_true,if_false]at eS
      all_goals(repeat(first|simp only[go_sem,seval,e0,e1,e2,g1,g2,ll,dq,de,dp,dB,hc,ha,Np,y,aO]|simp(disch:=omega)only[w0]))
      all_goals exact⟨t+1,ω,ω,Wk.fq (by simp[Am.get,ei,eS])⟩
    .simp only[ha,Mz,decide_false,rh,nZ,dC,if_false]at eS;(repeat(first|simp only[go_sem,seval,e0,e1,e2,g1,g2,ll,dq,de,dp,hc,ha,aO]|simp(disch:=omega)only[w0]));exact⟨t+1,ω,ω,Wk.fq (by simp[Am.get,ei,eS])⟩
   .obtain rfl:t=31:=ω
    simp only[go_sem,seval];exact aB _ _
  .intro k' c' ab' qm mM he;simp only[cK,AV.g.injEq,AV.c.injEq,Sc.i.injEq,and_true]at he;obtain⟨e1,e2,rfl⟩:=he;obtain rfl:=FR hk qm e1;obtain rfl:c=c':=ω
   rfl
 obtain⟨v,h1,h2⟩:=this;rw[h1,h2 k c ab hk hc rfl]
end
section
variable {H:AH}{k:Pk}
def wA(w:BitVec 32)(t:Nat):BitVec 64:=j7 64 (w.toNat/2^(32-t))
theorem az3{t:Nat}(w:BitVec 32)(ht:t<32):wA w (t+1)=if w.getLsbD (31-t)=true then 2#64*wA w t+1#64 else 2#64*wA w t:=by
 have e1:w.toNat/2^(32-t)=w.toNat/2^(31-t)/2:=by rw[Nat.div_div_eq_div_mul,<-Nat.pow_succ];congr 2;omega
 have e2:w.getLsbD (31-t)=decide (w.toNat/2^(31-t)%2=1):=by simp only[BitVec.getLsbD,Nat.testBit_eq_decide_div_mod_eq]
 have lt:w.toNat/2^(31-t)<4294967296:=Nat.lt_of_le_of_lt (Nat.div_le_self _ _) w.isLt;unfold wA;rw[show 32-(t+1)=31-t by omega,e1,e2];generalize w.toNat/2^(31-t)=m at*;by_cases c:m%2=1
 .rw[if_pos (by simp[c])];apply lJ;simp only[vJ,By,uT];omega
 .rw[if_neg (by simp[c])];apply lJ;simp only[By,uT];omega
def adf(args:List AV)(H:AH)(v:AV):Prop:=∀w,args=[.g (eJ w)]->v=.c (.u (aw 64 (w.toNat:Int)))
def LU:List AV->AH->Option AV:=lg Tryz.prog [] 155 adf
theorem ass:aZ Tryz.prog 155 (λargs H=>(LU args H).map λv=>(v,H)):=nn tn Tryz.func155 rfl Tryz.results155 Tryz.ntmps155
theorem aec(w:BitVec 32):LU [.g (eJ w)] H=some (.c (.u (aw 64 (w.toNat:Int)))):=by
 have:∃v,LU [.g (eJ w)] H=some v/\adf [.g (eJ w)] H v:=by
  unfold LU;apply mu (v:=.c (.u (aw 64 (w.toNat:Int)))) Tryz.func155 rfl Tryz.results155 Tryz.ntmps155 (by simp)
  .exact λ_ _=>rfl
  .intro _ hH;have ll:=j5 w;have lo:(eJ w).all Sc.one=true:=Vb (λ_=>rfl) w;have e32:wA w 32=aw 64 (w.toNat:Int):=by
    unfold wA;rw[Nat.sub_self,Nat.pow_zero,Nat.div_one];rfl
   have e00:wA w 0=0#64:=by
    unfold wA;rw[show w.toNat/2^(32-0)=0 from Nat.div_eq_of_lt w.isLt]
   rw[<-e32];simp only[go_sem,seval,ll,lo];refine eY 32 (λt=>([(1,.c (.p H.length 0 0)),(3,.c (.u (wA w t))),(4,.c (.i (31-(t:Int))))],H++[.own (eJ w)])) (Wk.fq (by simp[Am.get,e00])) λt ht=>?_;by_cases aL:t<32
   .have e0:0<=31-(t:Int):=ω
    have e1:az (31-(t:Int)-1)=31-((t+1:Nat):Int):=by rw[aq ω ω];omega
    have e2:(31-(t:Int)).toNat=31-t:=ω
    have g2:31-(t:Int)<32:=ω
    have hi:31-t<32:=ω
    have db:(eJ w).getD (31-t) .any=.b (w.getLsbD (31-t)):=by rw[Du,H5 hi]
    have eS:=az3 w aL;cases hb:w.getLsbD (31-t);all_goals rw[hb]at db eS
    all_goals simp only[if_true,if_false,dC]at eS
    all_goals(repeat(first|simp only[go_sem,seval,e0,e1,e2,g2,ll,db]|simp(disch:=omega)only[w0]))
    all_goals exact⟨t+1,ω,ω,Wk.fq (by simp[Am.get,eS])⟩
   .obtain rfl:t=32:=ω
    have e0:¬(0:Int)<=31-((32:Nat):Int):=ω
    simp only[go_sem,seval,e0];exact aB _ _
  .intro w' he;simp only[cK,AV.g.injEq,and_true]at he;obtain rfl:=K9 he;rfl
 obtain⟨v,h1,h2⟩:=this;rw[h1,h2 w rfl]
def ada(args:List AV)(H:AH)(v:AV):Prop:=∀k c,jK k->args=[.g (aS k),.c (.i c)]->v=.c (.b (kx k c))
def LQ:List AV->AH->Option AV:=lg Tryz.prog [(156,.fq II)] 161 ada
theorem asp:aZ Tryz.prog 161 (λargs H=>(LQ args H).map λv=>(v,H)):=nn (tq ab4 tn) Tryz.func161 rfl Tryz.results161 Tryz.ntmps161
theorem aeb(hk:jK k)(c:Int):LQ [.g (aS k),.c (.i c)] H=some (.c (.b (kx k c))):=by
 have:∃v,LQ [.g (aS k),.c (.i c)] H=some v/\ada [.g (aS k),.c (.i c)] H v:=by
  unfold LQ;apply mu (v:=.c (.b (kx k c))) Tryz.func161 rfl Tryz.results161 Tryz.ntmps161 (by simp)
  .exact λ_ _=>rfl
  .intro _ hH;have ll:=jv hk.ok;have lo:=sR k;have tt:bV 657 (aS k)=aS k:=bR ω;have d0:=Pq k;have n8:=hk.ok.n1;have n0:=hk.n0;have e2:az (2*k.n)=2*k.n:=aq ω ω;by_cases k0:c<0
   .have e:kx k c=false:=by unfold kx;rw[decide_eq_false ω];rfl
    have Ow:¬0<=c:=ω
    rw[e];simp only[go_sem,seval,ll,lo,tt,Ow];exact aB _ _
   have Ow:0<=c:=ω
   by_cases k1:2*k.n<=c
   .have e:kx k c=false:=by unfold kx;rw[decide_eq_false ω];rfl
    have Ks:¬c<2*k.n:=ω
    rw[e];simp only[go_sem,seval,ll,lo,tt,d0,e2,Ow,Ks];exact aB _ _
   have Ks:c<2*k.n:=ω
   obtain⟨m,rfl⟩:∃m:Nat,c=(m:Int):=⟨c.toNat,ω⟩;have hm:m<16:=ω
   have dl:=adP hk.ok hm;have rb:=λH=>aea (H:=H) hk.ok hm (k.l.getD m 0);have e:kx k m=decide (0<jD k.p (k.q&&&k.e.getD m 0#32) (k.l.getD m 0) 31):=by unfold kx;rw[decide_eq_true ω,aO];rfl
   have ez:(0<((jD k.p (k.q&&&k.e.getD m 0#32) (k.l.getD m 0) 31:Nat):Int))=(0<jD k.p (k.q&&&k.e.getD m 0#32) (k.l.getD m 0) 31):=propext ω;rw[e];(repeat(first|simp only[go_sem,seval,ll,lo,tt,d0,e2,Ow,Ks,dl,rb,ez,hm,aO]|simp(disch:=omega)only[w0]));exact aB _ _
  .intro k' c' qm he;simp only[cK,AV.g.injEq,AV.c.injEq,Sc.i.injEq,and_true]at he;obtain⟨e1,rfl⟩:=he;obtain rfl:=FR hk.ok qm.ok e1;rfl
 obtain⟨v,h1,h2⟩:=this;rw[h1,h2 k c hk rfl]
theorem M1{s:Nat}(hs:s<32):∀j,j<32->(if j=s then true else w.getLsbD j)=(w|||dh s).getLsbD j:=λj hj=>by
 rw[vI,xw hj hs];by_cases e:j=s<;>simp[e]
theorem Rt{s:Nat}(hs:s<32):∀j,j<32->(if j=s then false else w.getLsbD j)=(w&&&~~~(dh s)).getLsbD j:=λj hj=>by
 rw[rS,El,xw hj hs];by_cases e:j=s<;>simp[e,hj]
theorem bq{w s q:Bool}(h:w=true->s=false->q=true):(q||(w&&(true&&!s)))=q:=by cases w<;>cases s<;>cases q<;>simp_all
theorem ax3{q s:BitVec 32}(hi:i<32)(st:∀j,j<32->w.getLsbD j=true->s.getLsbD j=false->q.getLsbD j=true):q|||(w|||dh i)&&&~~~s=if s.getLsbD i=true then q else q|||dh i:=by
 refine zN λj hj=>?_;have st:=st j hj;have b:=bq st;rw[vI,rS,vI,El,xw hj hi,decide_eq_true hj];by_cases hs:s.getLsbD i=true
 .rw[if_pos hs];by_cases e:j=i
  .subst e;rw[hs];simp
  .rw[decide_eq_false e,uU];exact b
 .rw[if_neg hs,vI,xw hj hi];by_cases e:j=i
  .subst e;rw[decide_eq_true rfl];simp at hs;rw[hs];simp
  .rw[decide_eq_false e,uU,uU];exact b
theorem ax2{q s:BitVec 32}(hi:i<32)(st:∀j,j<32->w.getLsbD j=true->s.getLsbD j=false->q.getLsbD j=true):q|||(w&&&~~~(dh i))&&&~~~s=q:=by
 refine zN λj hj=>?_;have st:=st j hj;rw[vI,rS,rS,El,El,xw hj hi,decide_eq_true hj];exact bq λh1 h2=>st (by revert h1;cases w.getLsbD j<;>simp) h2
def adg(args:List AV)(H:AH)(v:AV):Prop:=∀k s on,jK k->args=[.g (aS k),.c (.i s),.c (.b on)]->v=.t [.g (aS (fP k s on)),.c (.b (pO k s))]
def LV:List AV->AH->Option AV:=lg Tryz.prog [] 106 adg
theorem ast:aZ Tryz.prog 106 (λargs H=>(LV args H).map λv=>(v,H)):=nn tn Tryz.func106 rfl Tryz.results106 Tryz.ntmps106
theorem axp(hk:jK k)(s:Int)(on:Bool):LV [.g (aS k),.c (.i s),.c (.b on)] H=some (.t [.g (aS (fP k s on)),.c (.b (pO k s))]):=by
 have:∃v,LV [.g (aS k),.c (.i s),.c (.b on)] H=some v/\adg [.g (aS k),.c (.i s),.c (.b on)] H v:=by
  unfold LV;apply mu (v:=.t [.g (aS (fP k s on)),.c (.b (pO k s))]) Tryz.func106 rfl Tryz.results106 Tryz.ntmps106 (by simp)
  .intro _ _;show((aS _).all (Sc.aj H.length)&&(true&&true))=true;rw[Lc];rfl
  .intro _ hH;have LL:=λ{k:Pk}(h:cG k)=>jv h;have ll:=jv hk.ok;have lo:=λk=>sR k;have tt:=λ{k:Pk}(h:cG k)=>(bR (by rw[jv h];exact aC _):bV 657 (aS k)=aS k);have t0:=tt hk.ok;have d0:=Pq k;have n0:=hk.n0;have nz:(k.n=0)=False:=eq_false ω;by_cases s1:s<1
   .have e1:fP k s on=k:=if_pos (.inr (.inl s1));have e2:pO k s=false:=by simp[pO,s1]
    rw[e1,e2];simp only[go_sem,seval,ll,lo,t0,d0,nz,s1];exact aB _ _
   by_cases s2:31<s
   .have e1:fP k s on=k:=if_pos (.inr (.inr ω));have e2:pO k s=false:=by simp[pO,s1,nz];omega
    rw[e1,e2];simp only[go_sem,seval,ll,lo,t0,d0,nz,s1,s2];exact aB _ _
   obtain⟨m,rfl⟩:∃m:Nat,s=(m:Int):=⟨s.toNat,ω⟩;have hm:m<32:=ω
   have e2:pO k m=true:=by simp[pO,nz,s1];omega
   have g2:(m:Int)<32:=ω
   have eW:fP k m on=if on=true then{k with w:=k.w|||dh m,q:=if k.s.getLsbD m=true then k.q else k.q|||dh m}else{k with w:=k.w&&&~~~(dh m)}:=by
    unfold fP;rw[if_neg ω,aO];cases on
    .rw[if_neg δ,if_neg δ];show({k with w:=_,q:=k.q|||(k.w&&&~~~(dh m))&&&~~~k.s}:Pk)=_;rw[ax2 hm hk.st]
    .rw[if_pos rfl,if_pos rfl];show({k with w:=_,q:=k.q|||(k.w|||dh m)&&&~~~k.s}:Pk)=_;rw[ax3 hm hk.st]
   rw[e2,eW];have okW:=λw q=>hk.ok.qX w q k.s;have lW:=λw q=>LL (okW w q);have tW:=λw q=>tt (okW w q);have dS:=λw=>adS (k:={k with w:=w}) (okW w k.q) hm;cases on
   .have w1:=qZ (afg hk.ok hm (Rt hm));have l1:=lW (k.w&&&~~~(dh m)) k.q;have t1:=tW (k.w&&&~~~(dh m)) k.q;simp only[dC,if_false];(repeat(first|simp only[go_sem,seval,ll,lo,t0,d0,nz,s1,s2,g2,w1,l1,t1,aO]|simp(disch:=omega)only[w0]));exact aB _ _
   .have w1:=qZ (afg hk.ok hm (M1 hm));have l1:=lW (k.w|||dh m) k.q;have t1:=tW (k.w|||dh m) k.q;have ds:=dS (k.w|||dh m);simp only[if_true];cases hs:k.s.getLsbD m
    .have JG:(aS {k with w:=k.w|||dh m}).getD (97+m) .any=.b false:=by rw[ds];exact congrArg Sc.b hs
     have w2:=qZ (Xx (k:={k with w:=k.w|||dh m}) (okW _ _) hm (M1 hm));have l2:=lW (k.w|||dh m) (k.q|||dh m);have t2:=tW (k.w|||dh m) (k.q|||dh m);simp only[dC,if_false];(repeat(first|simp only[go_sem,seval,ll,lo,t0,d0,nz,s1,s2,g2,w1,l1,JG,w2,l2,t2,aO]|simp(disch:=omega)only[w0]));exact aB _ _
    .have JG:(aS {k with w:=k.w|||dh m}).getD (97+m) .any=.b true:=by rw[ds];exact congrArg Sc.b hs
     simp only[if_true];(repeat(first|simp only[go_sem,seval,ll,lo,t0,d0,nz,s1,s2,g2,w1,l1,JG,t1,aO]|simp(disch:=omega)only[w0]));exact aB _ _
  .intro k' s' on' qm he;simp only[cK,AV.g.injEq,AV.c.injEq,Sc.i.injEq,Sc.b.injEq,and_true]at he;obtain⟨e1,rfl,rfl⟩:=he;obtain rfl:=FR hk.ok qm.ok e1;rfl
 obtain⟨v,h1,h2⟩:=this;rw[h1,h2 k s on hk rfl]
end
section
variable {H:AH}{k:Pk}
theorem WS(k:Pk):∀j,j<32->(sV k).w.getLsbD j=true->(sV k).s.getLsbD j=false->(sV k).q.getLsbD j=true:=λj hj h1 h2=>by
 show(k.q|||k.w&&&~~~k.s).getLsbD j=true;have h1:k.w.getLsbD j=true:=h1;have h2:k.s.getLsbD j=false:=h2;rw[vI,rS,El,h1,h2];simp[hj]
theorem jK.vG(h:jK k)(s:Int)(on:Bool):jK (fP k s on):=by
 refine⟨OX h.ok s on,by rw[OW];exact h.n0,?_,?_⟩
 .unfold fP;repeat' split
  .exact h.st
  .exact WS _
  .exact WS _
 .unfold fP;repeat' split
  all_goals exact h.e0
theorem jK.read(h:jK k)(a:Pa):jK (nE k a):=by
 refine⟨acG h.ok a,by rw[acF];exact h.n0,?_,?_⟩
 .unfold nE;split
  .rename_i hb;intro j hj h1 h2;have Yo:qV k a.i<=31:=Js 31;have h2:(k.s|||dh (qV k a.i)).getLsbD j=false:=h2;rw[vI,xw hj ω]at h2;simp only[Bool.or_eq_false_iff,decide_eq_false_iff_not]at h2;show(k.q&&&~~~(dh (qV k a.i))).getLsbD j=true;rw[rS,El,xw hj ω,h.st j hj h1 h2.1];simp[hj,h2.2]
  .exact h.st
 .unfold nE;split;all_goals exact h.e0
theorem jK.write(h:jK k)(a:Pa)(v:BitVec 64):jK (iZ k a v):=by
 refine⟨UZ h.ok a v,by rw[acH];exact h.n0,?_,?_⟩
 .unfold iZ;repeat' split
  .exact h.st
  .exact h.st
  .exact h.st
  .exact WS _
  .exact h.st
 .unfold iZ;repeat' split
  .exact h.e0
  .intro c;show((k.e.set a.i (v.setWidth 32&&&~~~1#32)).getD c 0#32).getLsbD 0=false;have:=h.e0 c;rw[b9,qD];split
   .split
    .simp
    .simp
   .rw[<-b9];exact this
  .exact h.e0
  .exact h.e0
  .exact h.e0
theorem azq(h:cG k):bV 32 (cY 65 (aS k))=eJ k.q:=by rw[Pp,xf (Vl h),qe (j5 _)]
theorem azp(h:cG k)(hc:c<16):bV 32 (cY (129+c*32) (aS k))=eJ (k.e.getD c 0#32):=by
 obtain⟨P,Q,h1,h2⟩:=adQ h hc;have:=h2 (k.e.getD c 0#32);rw[adR]at this;rw[this,<-h1,List.drop_left,qe (j5 _)]
def adb(args:List AV)(H:AH)(v:AV):Prop:=∀k off sz,jK k->args=[.g (aS k),.c (.u off),.c (.i sz)]->v=.t [.g (aS (nE k (bJ k.n off sz))),.c (.u (nV k (bJ k.n off sz))),.c (.b (!decide ((bJ k.n off sz).k=0)))]
def LR:List AV->AH->Option AV:=lg Tryz.prog [(122,.pu LY),(155,.fq LU),(156,.fq II)] 98 adb
theorem asq:aZ Tryz.prog 98 (λargs H=>(LR args H).map λv=>(v,H)):=nn (tu UE (tq ass (tq ab4 tn))) Tryz.func98 rfl Tryz.results98 Tryz.ntmps98
theorem axn(hk:jK k)(off:BitVec 64)(sz:Int):LR [.g (aS k),.c (.u off),.c (.i sz)] H=some (.t [.g (aS (nE k (bJ k.n off sz))),.c (.u (nV k (bJ k.n off sz))),.c (.b (!decide ((bJ k.n off sz).k=0)))]):=by
 have:∃v,LR [.g (aS k),.c (.u off),.c (.i sz)] H=some v/\adb [.g (aS k),.c (.u off),.c (.i sz)] H v:=by
  unfold LR;apply mu (v:=.t [.g (aS (nE k (bJ k.n off sz))),.c (.u (nV k (bJ k.n off sz))),.c (.b (!decide ((bJ k.n off sz).k=0)))]) Tryz.func98 rfl Tryz.results98 Tryz.ntmps98 (by simp)
  .intro _ _;show((aS _).all (Sc.aj H.length)&&(true&&(true&&true)))=true;rw[Lc];rfl
  .intro _ hH;have ll:=jv hk.ok;have lo:=λk=>sR k;have t0:bV 657 (aS k)=aS k:=bR ω;have d0:=Pq k;have cQ:=Wj (n:=k.n) (off:=off) (sz:=sz);rw[if_pos ⟨hk.n0,hk.ok.n1⟩]at cQ;have hi:=KZ hk.ok.n0 hk.ok.n1 off sz;have ha:=K0 k.n off sz;have hR:=(hk.read (bJ k.n off sz)).ok;generalize bJ k.n off sz=a at*;obtain⟨ak,ai⟩:=a;simp only at hi ha cQ;have no:ak≠5->nE k ⟨ak,ai⟩=k:=λh=>if_neg λc=>h c.1;have wq:=λH=>aec (H:=H) k.q;have tq:=azq hk.ok;rcases ha with rfl|rfl|rfl|rfl|rfl|rfl
   .rw[no δ];simp only[go_sem,seval,cQ,d0,ll,lo,t0,nV];(repeat' first|apply cn|(intro c;exact absurd c ω)|(intro _;kernel_rfl)|kernel_rfl);exact aB _ _
   .have dp:=Vs hk.ok hi.1;have NS:=hi.1;rw[no δ];(repeat(first|simp only[go_sem,seval,cQ,d0,ll,lo,t0,nV,dp,NS,aO]|simp(disch:=omega)only[w0]));(repeat' first|apply cn|(intro c;exact absurd c ω)|(intro _;kernel_rfl)|kernel_rfl);exact aB _ _
   .rw[no δ];simp only[go_sem,seval,cQ,d0,ll,lo,t0,nV,tq,wq];(repeat' first|apply cn|(intro c;exact absurd c ω)|(intro _;kernel_rfl)|kernel_rfl);exact aB _ _
   .have i16:=hi.2 δ;have te:=azp hk.ok i16;have we:=λH=>aec (H:=H) (k.e.getD ai 0#32);rw[no δ];(repeat(first|simp only[go_sem,seval,cQ,d0,ll,lo,t0,nV,i16,te,we,aO]|simp(disch:=omega)only[w0]));(repeat' first|apply cn|(intro c;exact absurd c ω)|(intro _;kernel_rfl)|kernel_rfl);exact aB _ _
   .have i16:=hi.2 δ;have dl:=adP hk.ok i16;rw[no δ];(repeat(first|simp only[go_sem,seval,cQ,d0,ll,lo,t0,nV,dl,i16,aO]|simp(disch:=omega)only[w0]));(repeat' first|apply cn|(intro c;exact absurd c ω)|(intro _;kernel_rfl)|kernel_rfl);exact aB _ _
   .have i16:=hi.2 δ;have rb:=λH=>aea (H:=H) hk.ok i16 0;have Yo:qV k ai<=31:=Js 31;have eB:jD k.p (k.q&&&k.e.getD ai 0#32) 0 31=qV k ai:=rfl;have eV:nV k ⟨5,ai⟩=aw 64 (qV k ai:Int):=by simp[nV]
    rw[eV];have eR:nE k ⟨5,ai⟩=if 0<qV k ai then{k with q:=k.q&&&~~~(dh (qV k ai)),s:=k.s|||dh (qV k ai)}else k:=by unfold nE;simp only[true_and]
    rw[eR];rw[eB]at rb;generalize qV k ai=B at*;by_cases z:0<B
    .have z':(0:Int)<(B:Int):=ω
     have hB:B<32:=ω
     have NT:(B:Int)<32:=ω
     have zf:cG {k with q:=k.q&&&~~~(dh B)}:=hk.ok.qX _ _ _;have Dl:cG {k with q:=k.q&&&~~~(dh B),s:=k.s|||dh B}:=hk.ok.qX _ _ _;have l1:=jv zf;have l2:=jv Dl;have t2:bV 657 (aS {k with q:=k.q&&&~~~(dh B),s:=k.s|||dh B})=aS {k with q:=k.q&&&~~~(dh B),s:=k.s|||dh B}:=bR ω;have w1:=qZ (Xx hk.ok hB (Rt hB));have w2:=qZ (afe (k:={k with q:=k.q&&&~~~(dh B)}) zf hB (M1 hB));rw[if_pos z];(repeat(first|simp only[go_sem,seval,cQ,d0,ll,lo,t0,rb,z',NT,w1,l1,w2,l2,t2,aO]|simp(disch:=omega)only[w0]));exact aB _ _
    .have z':¬(0:Int)<(B:Int):=ω
     rw[if_neg z];simp only[go_sem,seval,cQ,d0,ll,lo,t0,rb,z',aO];exact aB _ _
  .intro k' FG Xa qm he;simp only[cK,AV.g.injEq,AV.c.injEq,Sc.i.injEq,Sc.u.injEq,and_true]at he;obtain⟨e1,rfl,rfl⟩:=he;obtain rfl:=FR hk.ok qm.ok e1;rfl
 obtain⟨v,h1,h2⟩:=this;rw[h1,h2 k off sz hk rfl]
end
section
variable {H:AH}{k:Pk}
theorem ax1{q s:BitVec 32}(hi:i<32)(st:∀j,j<32->w.getLsbD j=true->s.getLsbD j=false->q.getLsbD j=true):q|||w&&&~~~(s&&&~~~(dh i))=if w.getLsbD i=true then q|||dh i else q:=by
 refine zN λj hj=>?_;have st:=st j hj;have b:=bq st;rw[vI,rS,El,rS,El,xw hj hi,decide_eq_true hj];by_cases e:j=i
 .subst e;rw[decide_eq_true rfl];by_cases hw:w.getLsbD j=true
  .rw[if_pos hw,vI,xw hj hi,decide_eq_true rfl,hw];simp
  .rw[if_neg hw];simp at hw;rw[hw];simp
 .rw[decide_eq_false e];have b2:(q.getLsbD j||(w.getLsbD j&&(true&&!(s.getLsbD j&&(true&&!false)))))=q.getLsbD j:=by rw[show(true&&!false)=true from rfl,cX];exact b
  by_cases hw:w.getLsbD i=true
  .rw[if_pos hw,vI,xw hj hi,decide_eq_false e,uU];exact b2
  .rw[if_neg hw];exact b2
theorem agH{x:BitVec 32}(hi:i<32):(x&&&dh i=0#32)=(x.getLsbD i=false):=by
 refine propext ⟨λh=>?_,λh=>zN λj hj=>?_⟩
 .have:=congrArg (λy=>y.getLsbD i) h;simp only[rS,xw hi hi,decide_true,cX,BitVec.getLsbD_zero]at this;exact this
 .rw[rS,xw hj hi,BitVec.getLsbD_zero];by_cases e:j=i
  .subst e;rw[h];rfl
  .rw[decide_eq_false e,rh]
theorem apc(v:BitVec 64):(v%8#64).toInt=((v&&&7#64).toNat:Int):=by
 have e:v&&&7#64=v%8#64:=by
  apply lJ;rw[BitVec.toNat_and,yq,show(7#64).toNat=2^3-1 from rfl,show(8#64).toNat=2^3 from rfl,afA]
 rw[e,xe,if_pos];rw[yq,show(8#64).toNat=8 from rfl];omega
theorem apb(v:BitVec 64):(v%4294967296#64).toNat=(v.setWidth 32).toNat:=by rw[yq,BitVec.toNat_setWidth];rfl
theorem aey(v:BitVec 64)(s:Nat):v>>>s/2#64=v>>>(s+1):=by
 apply lJ;rw[vK,Gn,Gn,GF,GF,show(2#64).toNat=2 from rfl,Nat.div_div_eq_div_mul,Nat.pow_succ]
theorem ax5(v:BitVec 64):v/2#64=v>>>1:=by
 have:=aey v 0;rwa[Qz]at this
theorem ahS(v:BitVec 64)(s:Nat):(v>>>s%2#64=1#64)=(v.getLsbD s=true):=by
 rw[aez];cases v.getLsbD s<;>simp
def fE(v:BitVec 64)(w:BitVec 32)(s:Nat)(j:Nat):Bool:=if 1<=j/\j<s then v.getLsbD j else w.getLsbD j
def ade(args:List AV)(H:AH)(v:AV):Prop:=∀k off sz w,jK k->args=[.g (aS k),.c (.u off),.c (.i sz),.c (.u w)]->v=.t [.g (aS (iZ k (bJ k.n off sz) w)),.c (.b (!decide ((bJ k.n off sz).k=0)))]
def LS:List AV->AH->Option AV:=lg Tryz.prog [(122,.pu LY)] 101 ade
theorem asr:aZ Tryz.prog 101 (λargs H=>(LS args H).map λv=>(v,H)):=nn (tu UE tn) Tryz.func101 rfl Tryz.results101 Tryz.ntmps101
theorem axo(hk:jK k)(off:BitVec 64)(sz:Int)(v:BitVec 64):LS [.g (aS k),.c (.u off),.c (.i sz),.c (.u v)] H=some (.t [.g (aS (iZ k (bJ k.n off sz) v)),.c (.b (!decide ((bJ k.n off sz).k=0)))]):=by
 have:∃x,LS [.g (aS k),.c (.u off),.c (.i sz),.c (.u v)] H=some x/\ade [.g (aS k),.c (.u off),.c (.i sz),.c (.u v)] H x:=by
  unfold LS;apply mu (v:=.t [.g (aS (iZ k (bJ k.n off sz) v)),.c (.b (!decide ((bJ k.n off sz).k=0)))]) Tryz.func101 rfl Tryz.results101 Tryz.ntmps101 (by simp)
  .intro _ _;show((aS _).all (Sc.aj H.length)&&(true&&true))=true;rw[Lc];rfl
  .intro _ hH;have ll:=jv hk.ok;have lo:=λk=>sR k;have TT:=λ{k:Pk}(h:cG k)=>(bR (by rw[jv h];exact aC _):bV 657 (aS k)=aS k);have t0:=TT hk.ok;have d0:=Pq k;have cQ:=Wj (n:=k.n) (off:=off) (sz:=sz);rw[if_pos ⟨hk.n0,hk.ok.n1⟩]at cQ;have hi:=KZ hk.ok.n0 hk.ok.n1 off sz;have ha:=K0 k.n off sz;have okW:=UZ hk.ok (bJ k.n off sz) v;have m8:=apc v;generalize bJ k.n off sz=a at*;obtain⟨ak,ai⟩:=a;simp only at hi ha cQ;have lW:=jv okW;have tW:=TT okW;rcases ha with rfl|rfl|rfl|rfl|rfl|rfl
   .have e:iZ k ⟨0,ai⟩ v=k:=by simp[iZ]
    rw[e];simp only[go_sem,seval,cQ,d0,ll,lo,t0];exact aB _ _
   .have NS:=hi.1;have e:iZ k ⟨1,ai⟩ v={k with p:=k.p.set ai ((v&&&7#64).toNat:Int)}:=by simp[iZ]
    have w1:=qZ (aAl hk.ok NS ((v&&&7#64).toNat:Int));rw[e]at lW tW|-;(repeat(first|simp only[go_sem,seval,cQ,d0,ll,lo,t0,NS,m8,w1,lW,tW,aO]|simp(disch:=omega)only[w0]));exact aB _ _
   .have e:iZ k ⟨2,ai⟩ v=k:=by simp[iZ]
    rw[e];simp only[go_sem,seval,cQ,d0,ll,lo,t0];exact aB _ _
   .have i16:=hi.2 δ;have e:iZ k ⟨3,ai⟩ v={k with e:=k.e.set ai (v.setWidth 32&&&~~~1#32)}:=by simp[iZ]
    rw[e]at lW tW|-;obtain⟨P,Q,hP,hPQ⟩:=adQ hk.ok i16;have e0:=hPQ (k.e.getD ai 0#32);rw[adR]at e0;have eN:=hPQ (v.setWidth 32&&&~~~1#32);have ez:=hk.e0 ai;generalize k.e.getD ai 0#32=E at*;have f1:nW (fE v E 1)=eJ E:=H4 λj hj=>by unfold fE;rw[if_neg ω]
    have f32:nW (fE v E 32)=eJ (v.setWidth 32&&&~~~1#32):=H4 λj hj=>by
     unfold fE;rw[rS,BitVec.getLsbD_setWidth,El,Qx,decide_eq_true hj];by_cases c:j=0
     .subst c;rw[if_neg ω,ez];simp
     .rw[if_pos ω];simp[c];try omega
    have lp:(P++(eJ E++Q)).length=657:=by rw[<-e0];exact ll
    have lQ:Q.length=657-32-P.length:=by simp only[cF,j5]at lp;omega
    have lF:∀s,(P++(nW (fE v E s)++Q)).length=657:=λs=>by simp only[cF,Vc];simp only[cF,j5]at lp;omega
    rw[eN,<-f32]at lW tW|-;have lo':(P++(nW (fE v E 32)++Q)).all Sc.one=true:=by rw[f32,<-eN];exact lo _
    have gd0:(P++(nW (fE v E 1)++Q)).getD 0 .any=.i k.n:=by rw[f1,<-e0];exact d0
    rw[e0,<-f1]at ll t0|-;have lo1:(P++(nW (fE v E 1)++Q)).all Sc.one=true:=by rw[f1,<-e0];exact lo _
    have sh:=ax5 v;have st:∀s,1<=s->s<32->∀x,x=v.getLsbD s->bV (129+ai*32+s) (P++(nW (fE v E s)++Q))++Sc.b x::cY (129+ai*32+s+1) (P++(nW (fE v E s)++Q))=P++(nW (fE v E (s+1))++Q):=λs h1 h2 x hx=>by
     rw[<-hP];refine qZ ((zJ (by rw[Vc];simp;omega)).trans ?_);rw[O5 h2,H4 (g:=fE v E (s+1)) λj hj=>?_];unfold fE;by_cases c:j=s
     .subst c;rw[if_pos rfl,if_pos ω,hx]
     .rw[if_neg c];by_cases d:1<=j/\j<s
      .rw[if_pos d,if_pos ω]
      .rw[if_neg d,if_neg ω]
    obtain⟨G,hG⟩:∃G:Nat->List Sc,∀s,P++(nW (fE v E s)++Q)=G s:=⟨_,λ_=>rfl⟩;simp only[hG]at*;have st2:=λs h1 h2=>st s h1 h2 _ rfl;clear st;simp only[go_sem,seval,cQ,gd0,ll,lo1,sh,x9];refine eY 31 (λt=>([(4,.c (.p H.length 0 0)),(8,.c (.p (H.length+1) 0 0)),(11,.c (.i ai)),(12,.c (.u (v>>>(t+1)))),(13,.c (.i ((t:Int)+1)))],H++[.own (G (t+1)),.own (.i 0::oO)])) (Wk.fq (by simp[Am.get])) λt ht=>?_;by_cases aL:t<31
    .have g1:(t:Int)+1<32:=ω
     have g2:((t:Int)+1).toNat=t+1:=ω
     have g3:az ((t:Int)+1+1)=((t+1:Nat):Int)+1:=by rw[aq ω ω];omega
     have g4:(0:Int)<=(t:Int)+1:=ω
     have bm:=ahS v (t+1);have s1:=aey v (t+1);have w1:=st2 (t+1) ω ω;have iL:=lF (t+1);cases hb:v.getLsbD (t+1);all_goals rw[hb]at bm w1
     all_goals(repeat(first|simp only[go_sem,seval,g1,g2,g3,g4,bm,s1,w1,iL,i16,aO]|simp(disch:=omega)only[w0]))
     all_goals exact⟨t+1,ω,ω,Wk.fq (by simp[Am.get])⟩
    .obtain rfl:t=31:=ω
     have l32:=lF 32;simp only[go_sem,seval,lo',tW,l32];exact aB _ _
   .have i16:=hi.2 δ;have e:iZ k ⟨4,ai⟩ v={k with l:=k.l.set ai ((v&&&7#64).toNat:Int)}:=by simp[iZ]
    have w1:=qZ (aAj hk.ok i16 ((v&&&7#64).toNat:Int));rw[e]at lW tW|-;(repeat(first|simp only[go_sem,seval,cQ,d0,ll,lo,t0,i16,m8,w1,lW,tW,aO]|simp(disch:=omega)only[w0]));exact aB _ _
   .have i16:=hi.2 δ;have m32:=apb v;have eG:A5 k ai (v.setWidth 32)=((v.setWidth 32).toNat<32/\(k.e.getD ai 0#32).getLsbD (v.setWidth 32).toNat=true/\k.s.getLsbD (v.setWidth 32).toNat=true):=by
     unfold A5;by_cases c:(v.setWidth 32).toNat<32
     .rw[agH c,rS];cases(k.e.getD ai 0#32).getLsbD (v.setWidth 32).toNat<;>cases k.s.getLsbD (v.setWidth 32).toNat<;>simp
     .exact propext ⟨λh=>absurd h.1 c,λh=>absurd h.1 c⟩
    have e:iZ k ⟨5,ai⟩ v=if A5 k ai (v.setWidth 32)then sV {k with s:=k.s&&&~~~(dh (v.setWidth 32).toNat)}else k:=by simp[iZ]
    rw[e]at lW tW|-;have ez:=hk.e0 ai;have c1:(1#64<=v%4294967296#64)=(1<=(v.setWidth 32).toNat):=by rw[rT,m32];rfl
    have c2:(v%4294967296#64<=31#64)=((v.setWidth 32).toNat<=31):=by rw[rT,m32];rfl
    obtain⟨V,hV⟩:∃V,v%4294967296#64=V:=⟨_,rfl⟩;rw[hV]at m32 c1 c2;generalize(v.setWidth 32).toNat=m at*;by_cases m1:1<=m
    .by_cases m2:m<=31
     .have hm:m<32:=ω
      have de:(aS k).getD (129+ai*32+m) .any=.b ((k.e.getD ai 0#32).getLsbD m):=by rw[mH];exact adM hk.ok i16 hm
      have ds:=adS hk.ok hm;have dw:=avh (k:={k with s:=k.s&&&~~~(dh m)}) (hk.ok.qX _ _ _) hm;cases he:(k.e.getD ai 0#32).getLsbD m
      .rw[if_neg (by rw[eG,he];simp)]at lW tW|-;rw[he]at de;(repeat(first|simp only[go_sem,seval,cQ,d0,ll,lo,t0,hV,c1,c2,m1,m2,hm,m32,i16,de,aO]|simp(disch:=omega)only[w0]));exact aB _ _
      rw[he]at de;cases hs:k.s.getLsbD m
      .rw[if_neg (by rw[eG,hs];simp)]at lW tW|-;rw[hs]at ds;(repeat(first|simp only[go_sem,seval,cQ,d0,ll,lo,t0,hV,c1,c2,m1,m2,hm,m32,i16,de,ds,aO]|simp(disch:=omega)only[w0]));exact aB _ _
      rw[hs]at ds;rw[if_pos (by rw[eG,he,hs];exact⟨hm,rfl,rfl⟩)]at lW tW|-;have eS:sV {k with s:=k.s&&&~~~(dh m)}={k with s:=k.s&&&~~~(dh m),q:=if k.w.getLsbD m=true then k.q|||dh m else k.q}:=by
       show({k with s:=_,q:=k.q|||k.w&&&~~~(k.s&&&~~~(dh m))}:Pk)=_;rw[ax1 hm hk.st]
      rw[eS]at lW tW|-;have w1:=qZ (afe hk.ok hm (Rt hm));have l1:=jv (k:={k with s:=k.s&&&~~~(dh m)}) (hk.ok.qX _ _ _);cases hw:k.w.getLsbD m
      .rw[hw]at lW tW;have RY:(aS {k with s:=k.s&&&~~~(dh m)}).getD (33+m) .any=.b false:=by rw[dw];exact congrArg Sc.b hw
       simp only[dC,if_false]at lW tW|-;(repeat(first|simp only[go_sem,seval,cQ,d0,ll,lo,t0,hV,c1,c2,m1,m2,hm,m32,i16,de,ds,w1,l1,RY,lW,tW,aO]|simp(disch:=omega)only[w0]));exact aB _ _
      .rw[hw]at lW tW;have RY:(aS {k with s:=k.s&&&~~~(dh m)}).getD (33+m) .any=.b true:=by rw[dw];exact congrArg Sc.b hw
       have w2:=qZ (Xx (k:={k with s:=k.s&&&~~~(dh m)}) (hk.ok.qX _ _ _) hm (M1 hm));simp only[if_true]at lW tW|-;(repeat(first|simp only[go_sem,seval,cQ,d0,ll,lo,t0,hV,c1,c2,m1,m2,hm,m32,i16,de,ds,w1,l1,RY,w2,lW,tW,aO]|simp(disch:=omega)only[w0]));exact aB _ _
     .rw[if_neg (by rw[eG];omega)]at lW tW|-;simp only[go_sem,seval,cQ,d0,ll,lo,t0,hV,c1,c2,m1,m2];exact aB _ _
    .obtain rfl:m=0:=ω
     rw[if_neg (by rw[eG,ez];simp)]at lW tW|-;simp only[go_sem,seval,cQ,d0,ll,lo,t0,hV,c1,m1];exact aB _ _
  .intro k' FG Xa v' qm he;simp only[cK,AV.g.injEq,AV.c.injEq,Sc.i.injEq,Sc.u.injEq,and_true]at he;obtain⟨e1,rfl,rfl,rfl⟩:=he;obtain rfl:=FR hk.ok qm.ok e1;rfl
 obtain⟨x,h1,h2⟩:=this;rw[h1,h2 k off sz v hk rfl]
end
variable {u:Sc}
section
variable {H:AH}
structure mg(b:Bs):Prop where
 ok:mZ b
 kI:jK b.k
theorem mg.cI{b:Bs}(h:mg b):yx b.c:=⟨h.ok.c,by rw[h.ok.nc];exact h.ok.n0⟩
def bj(b:Bs)(t:Pt)(u v:Sc):List Sc:=.i b.n::(aT b.c++(aS b.k++aU t u v))
structure XV(A B C:List Sc):Prop where
 la:A.length=18
 lb:B.length=657
 lc:C.length=11
 l:(A++(B++C)).length=686
 t:bV 686 (A++(B++C))=A++(B++C)d:cY 686 (A++(B++C))=[]t18:∀m,bV 18 (A++m)=A
 d18:∀m,cY 18 (A++m)=m
 iU:bV 657 (B++C)=B
 jE:cY 657 (B++C)=C
 ji:cY 675 (A++(B++C))=C
 jH:bV 675 (A++(B++C))=A++B
 tc:bV 11 C=C
theorem gq{A B C:List Sc}(la:A.length=18)(lb:B.length=657)(lc:C.length=11):XV A B C:=by
 have l:(A++(B++C)).length=686:=by simp only[cF,la,lb,lc]
 have ab:(A++B).length=675:=by simp only[cF,la,lb]
 exact⟨la,lb,lc,l,bR ω,kE ω,λm=>qe la,λm=>xf la,qe lb,xf lb,by rw[<-fo];exact xf ab,by rw[<-fo];exact qe ab,bR ω⟩
theorem mU(t:Pt)(u v:Sc):(aU t u v).length=11:=rfl
theorem ya{v:Sc}(t:Pt)(hu:Sc.one u=true)(hv:Sc.one v=true):(aU t u v).all Sc.one=true:=by
 unfold aU;simp only[bG,dO,hu,hv];rfl
theorem mg.gq{b:Bs}(h:mg b)(t:Pt)(u v:Sc):XV (aT b.c) (aS b.k) (aU t u v):=Go.Proofs.YtghlfboliomhcaaGreat.gq (fT h.ok.c) (jv h.ok.k) rfl
theorem kQ{c:Ck}{v:Sc}(hu:Sc.one u=true)(hv:Sc.one v=true):(aT c++(aS k++aU t u v)).all Sc.one=true:=by rw[fH,fH,na,sR,ya t hu hv];rfl
theorem adq{c:Ck}{v:Sc}{n:Nat}(hu:u.aj n=true)(hv:v.aj n=true):(aT c++(aS k++aU t u v)).all (Sc.aj n)=true:=by
 rw[fH,fH,M9,Lc];unfold aU;simp only[bG,dO,hu,hv];rfl
theorem HZ{a b:Bs}{s:Pt}{v:Sc}(ha:mg a)(hb:mg b)(h:bj a s u v=bj b t x y):a=b/\aU s u v=aU t x y:=by
 simp only[bj,cK,Sc.i.injEq]at h;obtain⟨h1,h2⟩:=h;obtain⟨h3,h4⟩:=uh h2 (by rw[fT ha.ok.c,fT hb.ok.c]);obtain⟨h5,h6⟩:=uh h4 (by rw[jv ha.ok.k,jv hb.ok.k]);have g3:=Ey ha.ok.c hb.ok.c h3;have g5:=FR ha.ok.k hb.ok.k h5;refine⟨?_,h6⟩;cases a;cases b;simp only at h1 g3 g5;subst h1 g3 g5;rfl
theorem Pm{s:Pt}{v:Sc}(hs:jd H s u v)(ht:jd H t x y)(h:aU s u v=aU t x y):s=t/\u=x/\v=y:=by
 simp only[aU,cK,Sc.i.injEq,Sc.b.injEq,and_true]at h;obtain⟨e1,e2,e3,e4,e5,e6,e7,e8,e9,JH,JI⟩:=h;subst JH JI;have a:=hs.hx;rw[ht.hx]at a;have b:=hs.hy;rw[ht.hy]at b;have a2:=XL a;have b2:=XL b;clear a b hs ht;refine⟨?_,rfl,rfl⟩;cases s;cases t;simp only at e1 e2 e3 e4 e5 e6 e7 e8 e9 a2 b2;subst e1 e2 e3 e4 e5 e6 e7 e8 e9 a2 b2;rfl
theorem aik(c:Ck)(h:Int):ko c h=0#64\/ko c h=8#64\/ko c h=128#64\/ko c h=136#64:=by
 unfold ko;split
 .exact .inl rfl
 .split<;>split<;>simp
def adh(args:List AV)(H:AH)(x:AV):Prop:=∀b t u v h,mg b->Sc.one u=true->Sc.one v=true->args=[.g (bj b t u v),.c (.i h)]->x=.c (.u (oZ b h))
def IJ:List AV->AH->Option AV:=lg Tryz.prog [(160,.fq LM),(161,.fq LQ)] 103 adh
theorem ab5:aZ Tryz.prog 103 (λargs H=>(IJ args H).map λv=>(v,H)):=nn (tq asj (tq asp tn)) Tryz.func103 rfl Tryz.results103 Tryz.ntmps103
theorem aed{b:Bs}{v:Sc}(hb:mg b)(t:Pt)(hu:Sc.one u=true)(hv:Sc.one v=true)(h:Int):IJ [.g (bj b t u v),.c (.i h)] H=some (.c (.u (oZ b h))):=by
 have:∃x,IJ [.g (bj b t u v),.c (.i h)] H=some x/\adh [.g (bj b t u v),.c (.i h)] H x:=by
  unfold IJ;apply mu (v:=.c (.u (oZ b h))) Tryz.func103 rfl Tryz.results103 Tryz.ntmps103 (by simp)
  .exact λ_ _=>rfl
  .intro _ _;have sg:=hb.gq t u v;have la:=sg.la;have lb:=sg.lb;have lc:=sg.lc;have l:=sg.l;have t18:=sg.t18;have d18:=sg.d18;have iU:=sg.iU;have oo:=kQ (c:=b.c) (k:=b.k) (t:=t) hu hv;have n8:=hb.ok.n1;have cl:=λH=>axj (H:=H) hb.cI h;have p1:=λH=>aeb (H:=H) hb.kI (2*h);have p2:=λH=>aeb (H:=H) hb.kI (2*h+1);by_cases h0:h<0
   .have e:oZ b h=0#64:=if_pos (.inl h0);rw[e];simp only[go_sem,seval,bj,l,oo,h0];exact aB _ _
   by_cases h1:b.n<=h
   .have e:oZ b h=0#64:=if_pos (.inr h1);rw[e];simp only[go_sem,seval,bj,l,oo,h0,h1];exact aB _ _
   have e1:az (2*h)=2*h:=aq ω ω;have e2:az (2*h+1)=2*h+1:=aq ω ω;have e:oZ b h=(if kx b.k (2*h+1)=true then(if kx b.k (2*h)=true then ko b.c h|||2048#64 else ko b.c h)|||512#64 else(if kx b.k (2*h)=true then ko b.c h|||2048#64 else ko b.c h)):=if_neg ω;rw[e];have cv:=aik b.c h;generalize ko b.c h=z at*;cases h2:kx b.k (2*h);all_goals simp only[h2]at p1
   all_goals cases h3:kx b.k (2*h+1)
   all_goals simp only[h3]at p2
   all_goals rcases cv with rfl|rfl|rfl|rfl
   all_goals simp only[go_sem,seval,bj,l,la,lb,t18,d18,iU,oo,h0,h1,e1,e2,cl,p1,p2,dC,if_true,if_false]
   all_goals exact aB _ _
  .intro b' t' u' v' h' qN _ _ he;simp only[cK,AV.g.injEq,AV.c.injEq,Sc.i.injEq,and_true]at he;obtain⟨e1,rfl⟩:=he;obtain⟨rfl,_⟩:=HZ hb qN e1;rfl
 obtain⟨x,h1,h2⟩:=this;rw[h1,h2 b t u v h hb hu hv rfl]
end
variable {P Y:AH}{A:List Int}
section
variable {H:AH}
def adi(args:List AV)(H:AH)(x:AV):Prop:=∀b t u v q,mg b->Sc.one u=true->Sc.one v=true->args=[.g (bj b t u v),.g (bU q)]->x=.c (.b (j9 b.n q))
def IK:List AV->AH->Option AV:=lg Tryz.prog [(78,.pu L8)] 36 adi
theorem ab6:aZ Tryz.prog 36 (λargs H=>(IK args H).map λv=>(v,H)):=nn (tu acf tn) Tryz.func36 rfl Tryz.results36 Tryz.ntmps36
theorem aee{b:Bs}{v:Sc}{q:Aq}(hb:mg b)(t:Pt)(hu:Sc.one u=true)(hv:Sc.one v=true)(hq:rY q.r):IK [.g (bj b t u v),.g (bU q)] H=some (.c (.b (j9 b.n q))):=by
 have:∃x,IK [.g (bj b t u v),.g (bU q)] H=some x/\adi [.g (bj b t u v),.g (bU q)] H x:=by
  unfold IK;apply mu (v:=.c (.b (j9 b.n q))) Tryz.func36 rfl Tryz.results36 Tryz.ntmps36 (by simp)
  .exact λ_ _=>rfl
  .intro _ _;have xP:=(hb.gq t u v).l;have AE:=kQ (c:=b.c) (k:=b.k) (t:=t) hu hv;obtain⟨Ht,_,Hu⟩:=hq;have rw':=aej (n:=b.n) (a:=q.a) (s:=q.s);unfold j9 bj;have bd:=Rj (n:=b.n) (a:=q.a) (s:=q.s);generalize(gV b.n q.a q.s).d=z at*;rcases Classical.propComplete (q.k=9)with k1|k1
   .rcases bd with rfl|rfl|rfl|rfl<;>simp only[go_sem,seval,bU,rw',k1,xP,AE,Ht,Hu]<;>exact aB _ _
   rcases Classical.propComplete (q.k=10)with k2|k2
   .rcases bd with rfl|rfl|rfl|rfl<;>simp only[go_sem,seval,bU,rw',k1,k2,xP,AE,Ht,Hu]<;>exact aB _ _
   rcases Classical.propComplete (q.k=11)with k3|k3
   .simp only[go_sem,seval,bU,k1,k2,k3,xP,AE,Ht,Hu];exact aB _ _
   rcases Classical.propComplete (q.k=18)with k4|k4
   .simp only[go_sem,seval,bU,k1,k2,k3,k4,xP,AE,Ht,Hu];exact aB _ _
   rcases Classical.propComplete (q.k=19)with k5|k5
   .simp only[go_sem,seval,bU,k1,k2,k3,k4,k5,xP,AE,Ht,Hu];exact aB _ _
   rcases Classical.propComplete (q.k=20)with k6|k6;all_goals simp only[go_sem,seval,bU,k1,k2,k3,k4,k5,k6,xP,AE,Ht,Hu]
   all_goals exact aB _ _
  .intro b' t' u' v' q' qN _ _ he;simp only[cK,AV.g.injEq,and_true]at he;obtain⟨e1,e2⟩:=he;obtain⟨rfl,_⟩:=HZ hb qN e1;obtain rfl:=MV e2;rfl
 obtain⟨x,h1,h2⟩:=this;rw[h1,h2 b t u v q hb hu hv rfl]
structure ML(H H1:AH)(u v u' v':Sc)(t:Pt):Prop where
 ex:∃X,H1=H++X
 rp:jd H1 t u' v'
 bu:u'.aj H1.length=true
 bv:v'.aj H1.length=true
 nu:Cg H u u'
 nv:Cg H v v'
 nw:fj H H1
theorem P3{Q:AH}(h:fL 1 iJ (H++(P++X)) x=some A)(hb:x.aj (H++(P++X)).length=true)(hn:∀i,aW x=some i->i<H.length\/H.length+P.length<=i)(hl:P.length=Q.length):fL 1 iJ (H++(Q++(X++Y))) x=some A:=by
 refine Mn h λi hi=>?_;have li:=rL h hb hi;simp only[cF]at li;rcases hn i hi with h1|h1
 .rw[mO h1,mO h1]
 .obtain⟨j,rfl⟩:∃j,i=H.length+(P.length+j):=⟨i-H.length-P.length,ω⟩;rw[gY,gY];conv=>lhs;rw[hl]
  rw[gY,gY,mO ω]
theorem OG(hx:fL 1 iJ H x=some A)(hb:x.aj H.length=true)(h:HN (H++P) x x'):(∀i,aW x'=some i->i<H.length\/H.length+P.length<=i)/\Cg H x x':=by
 refine⟨λi hi=>?_,apB h (by simp)⟩;rcases h with rfl|rfl|⟨j,v,n,rfl,hj⟩
 .exact .inl (rL hx hb hi)
 .simp[aW]at hi
 .simp only[aW,ar]at hi;subst hi;right;simpa using hj
theorem Uj{A:AH}(h:fj A (A++X)):(X.all λo=>o.live=false||o.owned)=true:=by
 rw[cD];intro o ho;obtain⟨j,hj⟩:=List.mem_iff_getElem?.1 ho;have e:hg (A++X) (A.length+j)=o:=by rw[gY,hg,b9,hj];rfl
 have:=h (A.length+j);rw[e]at this;have e2:hg A (A.length+j)=.dead:=by rw[hg,b9,jQ ω];rfl
 rw[e2]at this;cases hl:o.live
 .simp
 .cases hw:o.owned
  .have:=this hl hw;rw[<-this]at hl;simp[ae.live]at hl
  .simp
theorem Ui{o1 o2 o3 o4 o5:ae}(hX:(X.all λo=>o.live=false||o.owned)=true)(h5:([o1,o2,o3,o4,o5].all λo=>o.live=false||o.owned)=true)(hY:(Y.all λo=>o.live=false||o.owned)=true):fj H (H++(o1::o2::o3::o4::o5::(X++Y))):=by
 refine jr ?_;rw[show(o1::o2::o3::o4::o5::(X++Y))=[o1,o2,o3,o4,o5]++(X++Y)from rfl,fH,fH,h5,hX,hY];rfl
theorem AX:Cg H u u:=λ_ h=>.inl h
theorem Yt(n:Int)(a:BitVec 64)(s:Int):gV n a s=⟨0,0#64,0⟩\/gV n a s=⟨1,a-33554432#64,s⟩\/gV n a s=⟨2,a-201326592#64,s⟩\/gV n a s=⟨3,a-268435456#64,s⟩:=by
 unfold gV;repeat' split
 all_goals simp
def U9(args:List AV)(H:AH)(x:AV)(H1:AH):Prop:=∀b t u v h q,mg b->jd H t u v->args=[.g (bj b t u v),.c (.i h),.g (bU q)]->∃u' v',x=.t [.g (bj (dj (⟨b,t⟩:Bx).d h q) (dF (⟨b,t⟩:Bx).d h q) u' v'),.g (bX (eZ (⟨b,t⟩:Bx).d h q) false),.c (.b (eC b.n h q))]/\ML H H1 u v u' v' (dF (⟨b,t⟩:Bx).d h q)
theorem wQ{b:Bs}{v u' v':Sc}{q:Aq}{x:AV}(hb:mg b)(ok:jd H t u v)(h1:x=.t [.g (bj (dj (⟨b,t⟩:Bx).d h q) (dF (⟨b,t⟩:Bx).d h q) u' v'),.g (bX (eZ (⟨b,t⟩:Bx).d h q) false),.c (.b (eC b.n h q))])(h2:ML H H1 u v u' v' (dF (⟨b,t⟩:Bx).d h q)):U9 [.g (bj b t u v),.c (.i h),.g (bU q)] H x H1:=by
 intro b2 t2 u2 v2 h' q2 uA Dl he;simp only[cK,AV.g.injEq,AV.c.injEq,Sc.i.injEq,and_true]at he;obtain⟨e1,rfl,e2⟩:=he;obtain⟨rfl,e3⟩:=HZ hb uA e1;obtain⟨rfl,rfl,rfl⟩:=Pm ok Dl e3;obtain rfl:=MV e2;exact⟨u',v',h1,h2⟩
def PE(args:List AV)(H:AH):Option (AV×AH):=(LV args H).map λv=>(v,H)
theorem asu:aZ Tryz.prog 106 PE:=ast
theorem yb(hk:jK k)(s:Int)(on:Bool):PE [.g (aS k),.c (.i s),.c (.b on)] H=some (.t [.g (aS (fP k s on)),.c (.b (pO k s))],H):=by
 unfold PE;rw[axp hk];rfl
def PF(args:List AV)(H:AH):Option (AV×AH):=(F8 args H).map λv=>(v,H)
theorem asw:aZ Tryz.prog 107 PF:=ab7
theorem zt(h:jd H t x y):PF [.g (aU t x y)] H=some (.c (.i (dI t)),H):=by
 unfold PF;rw[aef h];rfl
def rI:List AV->AH->Option (AV×AH):=uw Tryz.prog [(36,.fq IK),(78,.pu L8),(97,.fq LN),(98,.fq LR),(99,.fp Bf),(100,.fq LP),(101,.fq LS),(102,.fp Bg),(103,.fq IJ),(104,.fq LO),(105,.fp Be),(106,.fp PE),(107,.fp PF)] 42 U9
theorem asy:aZ Tryz.prog 42 rI:=Ap (tq ab6 (tu acf (tq asm (tq asq (tp asM (tq aso (tq asr (tp asT (tq ab5 (tq asn (tp asE (tp asu (tp asw tn))))))))))))) Tryz.func42 rfl Tryz.results42 Tryz.ntmps42
theorem aeU(d:BitVec 64):(d%256#64).toInt=lE d:=by
 unfold lE;have h:∀x:Int,IntKind.u8.wrap x=x%256:=λx=>by simp[IntKind.wrap,IntKind.bits,IntKind.signed]
 rw[h,xe,yq,show(256#64).toNat=256 from rfl,if_pos ω];omega
theorem Gg(d:BitVec 64):ft (lE d):=by
 unfold lE;have h:∀x:Int,IntKind.u8.wrap x=x%256:=λx=>by simp[IntKind.wrap,IntKind.bits,IntKind.signed]
 rw[h];constructor<;>omega
end
section
variable {H:AH}
theorem axu{b:Bs}{v:Sc}{q:Aq}(hb:mg b)(ok:jd H t u v)(bu:u.aj H.length=true)(bv:v.aj H.length=true)(la':t.A.length<1000000)(lb':t.B.length<1000000)(h:Int)(hq:rY q.r):∃u' v' H1,rI [.g (bj b t u v),.c (.i h),.g (bU q)] H=some (.t [.g (bj (dj (⟨b,t⟩:Bx).d h q) (dF (⟨b,t⟩:Bx).d h q) u' v'),.g (bX (eZ (⟨b,t⟩:Bx).d h q) false),.c (.b (eC b.n h q))],H1)/\ML H H1 u v u' v' (dF (⟨b,t⟩:Bx).d h q):=by
 have:∃x H1,rI [.g (bj b t u v),.c (.i h),.g (bU q)] H=some (x,H1)/\H.length<=H1.length/\U9 [.g (bj b t u v),.c (.i h),.g (bU q)] H x H1:=by
  have hu:=jO ok.hx;have hv:=jO ok.hy;have lr:=hq.1;have ro:=hq.2.2;have rt:q.r.take 10=q.r:=bR ω;have my:=λH=>aee (H:=H) hb t hu hv hq;have sg:=hb.gq t u v;have la:=sg.la;have lb:=sg.lb;have lc:=sg.lc;have l:=sg.l;have tt:=sg.t;have t18:=sg.t18;have d18:=sg.d18;have iU:=sg.iU;have jE:=sg.jE;have ji:=sg.ji;have jH:=sg.jH;have tc:=sg.tc;have dd:=sg.d;have oo:=kQ (c:=b.c) (k:=b.k) (t:=t) hu hv;have tP:ky.length=686:=by unfold ky;rw[cF,cZ,cF,x9];rfl
  have th:cY 686 ky=[]:=kE ω;have sK:∀Y,jd (H++Y) t u v:=λY=>Cu ok bu bv;have wh:=aej (n:=b.n) (a:=q.a) (s:=q.s);have Dn:(⟨b,t⟩:Bx).d.b=b:=rfl;have Dt:(⟨b,t⟩:Bx).d.t=t:=rfl;have Bo:∀Y:AH,(Y.all λo=>o.live=false||o.owned)=true->ML H (H++Y) u v u v t:=λY hY=>⟨⟨_,rfl⟩,sK _,Sc.gJ bu (by simp),Sc.gJ bv (by simp),AX,AX,jr hY⟩;cases hm:j9 b.n q
  .have eo:eC b.n h q=false:=by simp[eC,hm]
   have ev:eZ (⟨b,t⟩:Bx).d h q=0#64:=by simp[eZ,Dn,eo]
   have eb:dj (⟨b,t⟩:Bx).d h q=b:=by simp[dj,Dn,eo]
   have et:dF (⟨b,t⟩:Bx).d h q=t:=by simp[dF,Dn,Dt,eo]
   unfold rI;apply ik (v:=.t [.g (bj b t u v),.g (bX 0#64 false),.c (.b false)]) Tryz.func42 rfl Tryz.results42 Tryz.ntmps42 (by simp)
   .intro _ _;simp only[hm,bj,bU]at my;simp only[go_sem,seval,bU,bj,bX,lr,ro,rt,l,tt,oo,tP,th,my];exact aN
   .simp
   .exact wQ (u':=u) (v':=v) hb ok (by rw[ev,eo,eb,et]) (by rw[et];exact Bo _ rfl)
  simp only[hm]at my;have kk:q.k=9\/q.k=10\/q.k=11\/q.k=18\/q.k=19\/q.k=20:=by
   unfold j9 at hm;split at hm
   .omega
   .simp at hm;omega
  have nz:(q.k=9\/q.k=10)->¬(gV b.n q.a q.s).d=0:=λhk hz=>by
   unfold j9 at hm;rw[if_pos hk,hz]at hm;simp at hm
  rcases kk with k|k|k|k|k|k
  .have nz:=nz (.inl k);have wd:=wh;rcases Yt b.n q.a q.s with hs|hs|hs|hs
   .rw[hs]at nz;exact absurd rfl nz
   .rw[hs]at wd;have rd:=λH=>axk (H:=H) hb.cI (q.a-33554432#64) q.s;have eo:eC b.n h q=true:=by simp[eC,hm,k]
    have ev:eZ (⟨b,t⟩:Bx).d h q=um b.c (cb b.c.n (q.a-33554432#64) q.s) q.s:=by simp[eZ,mJ,Dn,Dt,eo,k,hs]
    have et:dF (⟨b,t⟩:Bx).d h q=t:=by simp[dF,jh,lU,lV,Dn,Dt,eo,k,hs]
    have eb:dj (⟨b,t⟩:Bx).d h q=⟨b.n,b.c,fP (b.k) 10 (!decide (dI (t)=1))⟩:=by simp[dj,j8,m9,jh,og,lU,o0,lV,Dn,Dt,eo,k,hs]
    have hF:jK (b.k):=hb.kI;have jM:gF (b.c):=hb.ok.c;have jq:=hF.vG 10 (!decide (dI (t)=1));have wi:=λH=>yb (H:=H) hF 10 (!decide (dI (t)=1));have ca:=λY=>zt (sK Y);have fZ:=hu;have gC:=hv;generalize mP:(!decide (dI t=1))=on at*;obtain⟨k2,iq⟩:∃k2,fP b.k 10 on=k2:=⟨_,rfl⟩;simp only[iq]at wi;rw[iq]at eb jq;have aV:=Go.Proofs.YtghlfboliomhcaaGreat.gq (fT jM) (jv hF.ok) (mU t u v);have aP:=Go.Proofs.YtghlfboliomhcaaGreat.gq (fT jM) (jv jq.ok) (mU t u v);have pC:=aV.la;have pE:=aV.lb;have pG:=aV.lc;have l1:=aV.l;have p6:=aV.t;have nd:=aV.d;have t181:=aV.t18;have d181:=aV.d18;have pR:=aV.iU;have o9:=aV.jE;have ph:=aV.ji;have pU:=aV.jH;have pW:=aV.tc;have pD:=aP.la;have pF:=aP.lb;have pH:=aP.lc;have l2:=aP.l;have p8:=aP.t;have pn:=aP.d;have t182:=aP.t18;have d182:=aP.d18;have pS:=aP.iU;have pg:=aP.jE;have pj:=aP.ji;have pV:=aP.jH;have pY:=aP.tc;have nT:=kQ (c:=b.c) (k:=b.k) (t:=t) fZ gC;have nU:=kQ (c:=b.c) (k:=k2) (t:=t) fZ gC;have lo:=λk=>sR k;have pI:=λc=>na c;have pK:=ya t fZ gC;have pZ:bV 657 (aS b.k)=aS b.k:=bR ω;have nX:bV 657 (aS k2)=aS k2:=bR ω;have pX:bV 18 (aT b.c)=aT b.c:=bR ω;unfold rI;apply ik (v:=.t [.g (bj ⟨b.n,b.c,k2⟩ t u v),.g (bX (um b.c (cb b.c.n (q.a-33554432#64) q.s) q.s) false),.c (.b true)]) Tryz.func42 rfl Tryz.results42 Tryz.ntmps42 (by simp)
    .intro _ _;simp only[bj,bU,k]at my;simp only[go_sem,seval,bU,bj,bX,k,lr,ro,rt,l,tt,oo,tP,th,my,la,lb,lc,t18,d18,iU,jE,ji,jH,tc,dd,ca,wi,mP,pC,pE,pG,l1,p6,nd,t181,d181,pR,o9,ph,pU,pW,pD,pF,pH,l2,p8,pn,t182,d182,pS,pg,pj,pV,pY,nT,nU,lo,pI,pK,pZ,nX,pX,wd,rd];(repeat' first|apply cn|exact qT (nB _) κ|(intro c;exact absurd c ω)|(intro _;kernel_rfl)|kernel_rfl);exact aN
    .simp
    .exact wQ (u':=u) (v':=v) hb ok (by rw[ev,eo,eb,et]) (by rw[et];exact Bo _ rfl)
   .rw[hs]at wd;have rd:=λH=>axn (H:=H) hb.kI (q.a-201326592#64) q.s;have eo:eC b.n h q=true:=by simp[eC,hm,k]
    have ev:eZ (⟨b,t⟩:Bx).d h q=nV b.k (bJ b.k.n (q.a-201326592#64) q.s):=by simp[eZ,mJ,Dn,Dt,eo,k,hs]
    have et:dF (⟨b,t⟩:Bx).d h q=t:=by simp[dF,jh,lU,lV,Dn,Dt,eo,k,hs]
    have eb:dj (⟨b,t⟩:Bx).d h q=⟨b.n,b.c,fP (nE b.k (bJ b.k.n (q.a-201326592#64) q.s)) 10 (!decide (dI (t)=1))⟩:=by simp[dj,j8,m9,jh,og,lU,o0,lV,Dn,Dt,eo,k,hs]
    have hF:jK (nE b.k (bJ b.k.n (q.a-201326592#64) q.s)):=hb.kI.read _;have jM:gF (b.c):=hb.ok.c;have jq:=hF.vG 10 (!decide (dI (t)=1));have wi:=λH=>yb (H:=H) hF 10 (!decide (dI (t)=1));have ca:=λY=>zt (sK Y);have fZ:=hu;have gC:=hv;obtain⟨k1,vq⟩:∃k1,nE b.k (bJ b.k.n (q.a-201326592#64) q.s)=k1:=⟨_,rfl⟩;rw[vq]at hF jq eb;simp only[vq]at wi rd;generalize mP:(!decide (dI t=1))=on at*;obtain⟨k2,iq⟩:∃k2,fP k1 10 on=k2:=⟨_,rfl⟩;simp only[iq]at wi;rw[iq]at eb jq;have aV:=Go.Proofs.YtghlfboliomhcaaGreat.gq (fT jM) (jv hF.ok) (mU t u v);have aP:=Go.Proofs.YtghlfboliomhcaaGreat.gq (fT jM) (jv jq.ok) (mU t u v);have pC:=aV.la;have pE:=aV.lb;have pG:=aV.lc;have l1:=aV.l;have p6:=aV.t;have nd:=aV.d;have t181:=aV.t18;have d181:=aV.d18;have pR:=aV.iU;have o9:=aV.jE;have ph:=aV.ji;have pU:=aV.jH;have pW:=aV.tc;have pD:=aP.la;have pF:=aP.lb;have pH:=aP.lc;have l2:=aP.l;have p8:=aP.t;have pn:=aP.d;have t182:=aP.t18;have d182:=aP.d18;have pS:=aP.iU;have pg:=aP.jE;have pj:=aP.ji;have pV:=aP.jH;have pY:=aP.tc;have nT:=kQ (c:=b.c) (k:=k1) (t:=t) fZ gC;have nU:=kQ (c:=b.c) (k:=k2) (t:=t) fZ gC;have lo:=λk=>sR k;have pI:=λc=>na c;have pK:=ya t fZ gC;have pZ:bV 657 (aS k1)=aS k1:=bR ω;have nX:bV 657 (aS k2)=aS k2:=bR ω;have pX:bV 18 (aT b.c)=aT b.c:=bR ω;unfold rI;apply ik (v:=.t [.g (bj ⟨b.n,b.c,k2⟩ t u v),.g (bX (nV b.k (bJ b.k.n (q.a-201326592#64) q.s)) false),.c (.b true)]) Tryz.func42 rfl Tryz.results42 Tryz.ntmps42 (by simp)
    .intro _ _;simp only[bj,bU,k]at my;simp only[go_sem,seval,bU,bj,bX,k,lr,ro,rt,l,tt,oo,tP,th,my,la,lb,lc,t18,d18,iU,jE,ji,jH,tc,dd,ca,wi,mP,pC,pE,pG,l1,p6,nd,t181,d181,pR,o9,ph,pU,pW,pD,pF,pH,l2,p8,pn,t182,d182,pS,pg,pj,pV,pY,nT,nU,lo,pI,pK,pZ,nX,pX,wd,rd];(repeat' first|apply cn|exact qT (nB _) κ|(intro c;exact absurd c ω)|(intro _;kernel_rfl)|kernel_rfl);exact aN
    .simp
    .exact wQ (u':=u) (v':=v) hb ok (by rw[ev,eo,eb,et]) (by rw[et];exact Bo _ rfl)
   .rw[hs]at wd;have KR:=sK ([.own (bj b t u v),.own (bU q),.own (.i 0::ky),.own (.u 0#64::.b false::dA),.own (.u 0#64::.b false::dA)]:AH);have Jt:u.aj (H++([.own (bj b t u v),.own (bU q),.own (.i 0::ky),.own (.u 0#64::.b false::dA),.own (.u 0#64::.b false::dA)]:AH)).length=true:=Sc.gJ bu (by simp);have M7:v.aj (H++([.own (bj b t u v),.own (bU q),.own (.i 0::ky),.own (.u 0#64::.b false::dA),.own (.u 0#64::.b false::dA)]:AH)).length=true:=Sc.gJ bv (by simp);obtain⟨u',X,ex,n1,s1,hB,B1⟩:=avj KR Jt (q.a-268435456#64);have XO:=Uj (apS ex);obtain⟨m1,N1⟩:=OG ok.hx bu n1;have dl:vZ t ((fC t (q.a-268435456#64)).1):=G1 (t:=t) (kd:=0) (off:=q.a-268435456#64) (b:=0) ⟨δ,δ⟩;have KM:=apm (off:=q.a-268435456#64) ok.nb;have R:∀o1 o2 o3 o4 o5 Y,jd (H++(o1::o2::o3::o4::o5::(X++Y))) ((fC t (q.a-268435456#64)).1) u' v:=λo1 o2 o3 o4 o5 Y=>Vr KM (P3 (P:=([.own (bj b t u v),.own (bU q),.own (.i 0::ky),.own (.u 0#64::.b false::dA),.own (.u 0#64::.b false::dA)]:AH)) (Q:=[o1,o2,o3,o4,o5]) (X:=X) (Y:=Y) (by rw[<-fo];exact s1) (by rw[<-fo];exact B1) m1 rfl) (by rw[hB];exact rM ok.hy bv) (by have:=dl.1;omega) (by have:=dl.2.1;omega);have B2:=bv;have N2:Cg H v v:=AX;simp only[fo,kX,jV,bj,bU,k]at ex;have lX:(H++([.own (bj b t u v),.own (bU q),.own (.i 0::ky),.own (.u 0#64::.b false::dA),.own (.u 0#64::.b false::dA)]:AH)++X).length=H.length+5+X.length:=by simp;omega
    rw[lX]at B1;have eo:eC b.n h q=true:=by simp[eC,hm,k]
    have ev:eZ (⟨b,t⟩:Bx).d h q=aw 64 (fC t (q.a-268435456#64)).2.1:=by simp[eZ,mJ,Dn,Dt,eo,k,hs]
    have et:dF (⟨b,t⟩:Bx).d h q=(fC t (q.a-268435456#64)).1:=by simp[dF,jh,lU,lV,Dn,Dt,eo,k,hs]
    have eb:dj (⟨b,t⟩:Bx).d h q=⟨b.n,b.c,fP (b.k) 10 (!decide (dI ((fC t (q.a-268435456#64)).1)=1))⟩:=by simp[dj,j8,m9,jh,og,lU,o0,lV,Dn,Dt,eo,k,hs]
    have hF:jK (b.k):=hb.kI;have jM:gF (b.c):=hb.ok.c;have jq:=hF.vG 10 (!decide (dI ((fC t (q.a-268435456#64)).1)=1));have wi:=λH=>yb (H:=H) hF 10 (!decide (dI ((fC t (q.a-268435456#64)).1)=1));have ca:=λo1 o2 o3 o4 o5 Y=>zt (R o1 o2 o3 o4 o5 Y);have fZ:=jO (R .dead .dead .dead .dead .dead []).hx;have gC:=jO (R .dead .dead .dead .dead .dead []).hy;obtain⟨t1,C9⟩:∃t1,(fC t (q.a-268435456#64)).1=t1:=⟨_,rfl⟩;rw[C9]at et eb jq;simp only[C9]at wi ca ex R;generalize mP:(!decide (dI t1=1))=on at*;obtain⟨k2,iq⟩:∃k2,fP b.k 10 on=k2:=⟨_,rfl⟩;simp only[iq]at wi;rw[iq]at eb jq;have aV:=Go.Proofs.YtghlfboliomhcaaGreat.gq (fT jM) (jv hF.ok) (mU t1 u' v);have aP:=Go.Proofs.YtghlfboliomhcaaGreat.gq (fT jM) (jv jq.ok) (mU t1 u' v);have pC:=aV.la;have pE:=aV.lb;have pG:=aV.lc;have l1:=aV.l;have p6:=aV.t;have nd:=aV.d;have t181:=aV.t18;have d181:=aV.d18;have pR:=aV.iU;have o9:=aV.jE;have ph:=aV.ji;have pU:=aV.jH;have pW:=aV.tc;have pD:=aP.la;have pF:=aP.lb;have pH:=aP.lc;have l2:=aP.l;have p8:=aP.t;have pn:=aP.d;have t182:=aP.t18;have d182:=aP.d18;have pS:=aP.iU;have pg:=aP.jE;have pj:=aP.ji;have pV:=aP.jH;have pY:=aP.tc;have nT:=kQ (c:=b.c) (k:=b.k) (t:=t1) fZ gC;have nU:=kQ (c:=b.c) (k:=k2) (t:=t1) fZ gC;have lo:=λk=>sR k;have pI:=λc=>na c;have pK:=ya t1 fZ gC;have pZ:bV 657 (aS b.k)=aS b.k:=bR ω;have nX:bV 657 (aS k2)=aS k2:=bR ω;have pX:bV 18 (aT b.c)=aT b.c:=bR ω;unfold rI;apply ik (v:=.t [.g (bj ⟨b.n,b.c,k2⟩ t1 u' v),.g (bX (aw 64 (fC t (q.a-268435456#64)).2.1) false),.c (.b true)]) Tryz.func42 rfl Tryz.results42 Tryz.ntmps42 (by simp)
    .intro _ _;simp only[bj,bU,k]at my;simp only[go_sem,seval,bU,bj,bX,k,lr,ro,rt,l,tt,oo,tP,th,my,la,lb,lc,t18,d18,iU,jE,ji,jH,tc,dd,ca,wi,mP,pC,pE,pG,l1,p6,nd,t181,d181,pR,o9,ph,pU,pW,pD,pF,pH,l2,p8,pn,t182,d182,pS,pg,pj,pV,pY,nT,nU,lo,pI,pK,pZ,nX,pX,wd,ex];(repeat' first|apply cn|exact qT (nB _) κ|(intro c;exact absurd c ω)|(intro _;kernel_rfl)|kernel_rfl);exact aN
    .simp
    .exact wQ (u':=u') (v':=v) hb ok (by rw[ev,eo,eb,et]) (by rw[et];exact⟨⟨_,rfl⟩,R _ _ _ _ _ _,Sc.gJ B1 (by first|(simp;done)|(simp;omega)),Sc.gJ B2 (by first|(simp;done)|(simp;omega)),N1,N2,Ui XO rfl rfl⟩)
  .have nz:=nz (.inr k);have wd:=wh;rcases Yt b.n q.a q.s with hs|hs|hs|hs
   .rw[hs]at nz;exact absurd rfl nz
   .rw[hs]at wd;have rd:=λH=>axm (H:=H) hb.cI (q.a-33554432#64) q.s q.d;have eo:eC b.n h q=true:=by simp[eC,hm,k]
    have ev:eZ (⟨b,t⟩:Bx).d h q=0#64:=by simp[eZ,mJ,Dn,Dt,eo,k,hs]
    have et:dF (⟨b,t⟩:Bx).d h q=t:=by simp[dF,jh,lU,lV,Dn,Dt,eo,k,hs]
    have eb:dj (⟨b,t⟩:Bx).d h q=⟨b.n,ka b.c (cb b.c.n (q.a-33554432#64) q.s) q.s q.d,fP (b.k) 10 (!decide (dI (t)=1))⟩:=by simp[dj,j8,m9,jh,og,lU,o0,lV,Dn,Dt,eo,k,hs]
    have hF:jK (b.k):=hb.kI;have jM:gF (ka b.c (cb b.c.n (q.a-33554432#64) q.s) q.s q.d):=RG hb.ok.c _ _ _;have jq:=hF.vG 10 (!decide (dI (t)=1));have wi:=λH=>yb (H:=H) hF 10 (!decide (dI (t)=1));have ca:=λY=>zt (sK Y);have fZ:=hu;have gC:=hv;obtain⟨c1,vp⟩:∃c1,ka b.c (cb b.c.n (q.a-33554432#64) q.s) q.s q.d=c1:=⟨_,rfl⟩;rw[vp]at jM eb;simp only[vp]at rd;generalize mP:(!decide (dI t=1))=on at*;obtain⟨k2,iq⟩:∃k2,fP b.k 10 on=k2:=⟨_,rfl⟩;simp only[iq]at wi;rw[iq]at eb jq;have aV:=Go.Proofs.YtghlfboliomhcaaGreat.gq (fT jM) (jv hF.ok) (mU t u v);have aP:=Go.Proofs.YtghlfboliomhcaaGreat.gq (fT jM) (jv jq.ok) (mU t u v);have pC:=aV.la;have pE:=aV.lb;have pG:=aV.lc;have l1:=aV.l;have p6:=aV.t;have nd:=aV.d;have t181:=aV.t18;have d181:=aV.d18;have pR:=aV.iU;have o9:=aV.jE;have ph:=aV.ji;have pU:=aV.jH;have pW:=aV.tc;have pD:=aP.la;have pF:=aP.lb;have pH:=aP.lc;have l2:=aP.l;have p8:=aP.t;have pn:=aP.d;have t182:=aP.t18;have d182:=aP.d18;have pS:=aP.iU;have pg:=aP.jE;have pj:=aP.ji;have pV:=aP.jH;have pY:=aP.tc;have nT:=kQ (c:=c1) (k:=b.k) (t:=t) fZ gC;have nU:=kQ (c:=c1) (k:=k2) (t:=t) fZ gC;have lo:=λk=>sR k;have pI:=λc=>na c;have pK:=ya t fZ gC;have pZ:bV 657 (aS b.k)=aS b.k:=bR ω;have nX:bV 657 (aS k2)=aS k2:=bR ω;have pX:bV 18 (aT c1)=aT c1:=bR ω;unfold rI;apply ik (v:=.t [.g (bj ⟨b.n,c1,k2⟩ t u v),.g (bX (0#64) false),.c (.b true)]) Tryz.func42 rfl Tryz.results42 Tryz.ntmps42 (by simp)
    .intro _ _;simp only[bj,bU,k]at my;simp only[go_sem,seval,bU,bj,bX,k,lr,ro,rt,l,tt,oo,tP,th,my,la,lb,lc,t18,d18,iU,jE,ji,jH,tc,dd,ca,wi,mP,pC,pE,pG,l1,p6,nd,t181,d181,pR,o9,ph,pU,pW,pD,pF,pH,l2,p8,pn,t182,d182,pS,pg,pj,pV,pY,nT,nU,lo,pI,pK,pZ,nX,pX,wd,rd];(repeat' first|apply cn|exact qT (nB _) κ|(intro c;exact absurd c ω)|(intro _;kernel_rfl)|kernel_rfl);exact aN
    .simp
    .exact wQ (u':=u) (v':=v) hb ok (by rw[ev,eo,eb,et]) (by rw[et];exact Bo _ rfl)
   .rw[hs]at wd;have rd:=λH=>axo (H:=H) hb.kI (q.a-201326592#64) q.s q.d;have eo:eC b.n h q=true:=by simp[eC,hm,k]
    have ev:eZ (⟨b,t⟩:Bx).d h q=0#64:=by simp[eZ,mJ,Dn,Dt,eo,k,hs]
    have et:dF (⟨b,t⟩:Bx).d h q=t:=by simp[dF,jh,lU,lV,Dn,Dt,eo,k,hs]
    have eb:dj (⟨b,t⟩:Bx).d h q=⟨b.n,b.c,fP (iZ b.k (bJ b.k.n (q.a-201326592#64) q.s) q.d) 10 (!decide (dI (t)=1))⟩:=by simp[dj,j8,m9,jh,og,lU,o0,lV,Dn,Dt,eo,k,hs]
    have hF:jK (iZ b.k (bJ b.k.n (q.a-201326592#64) q.s) q.d):=hb.kI.write _ _;have jM:gF (b.c):=hb.ok.c;have jq:=hF.vG 10 (!decide (dI (t)=1));have wi:=λH=>yb (H:=H) hF 10 (!decide (dI (t)=1));have ca:=λY=>zt (sK Y);have fZ:=hu;have gC:=hv;obtain⟨k1,vq⟩:∃k1,iZ b.k (bJ b.k.n (q.a-201326592#64) q.s) q.d=k1:=⟨_,rfl⟩;rw[vq]at hF jq eb;simp only[vq]at wi rd;generalize mP:(!decide (dI t=1))=on at*;obtain⟨k2,iq⟩:∃k2,fP k1 10 on=k2:=⟨_,rfl⟩;simp only[iq]at wi;rw[iq]at eb jq;have aV:=Go.Proofs.YtghlfboliomhcaaGreat.gq (fT jM) (jv hF.ok) (mU t u v);have aP:=Go.Proofs.YtghlfboliomhcaaGreat.gq (fT jM) (jv jq.ok) (mU t u v);have pC:=aV.la;have pE:=aV.lb;have pG:=aV.lc;have l1:=aV.l;have p6:=aV.t;have nd:=aV.d;have t181:=aV.t18;have d181:=aV.d18;have pR:=aV.iU;have o9:=aV.jE;have ph:=aV.ji;have pU:=aV.jH;have pW:=aV.tc;have pD:=aP.la;have pF:=aP.lb;have pH:=aP.lc;have l2:=aP.l;have p8:=aP.t;have pn:=aP.d;have t182:=aP.t18;have d182:=aP.d18;have pS:=aP.iU;have pg:=aP.jE;have pj:=aP.ji;have pV:=aP.jH;have pY:=aP.tc;have nT:=kQ (c:=b.c) (k:=k1) (t:=t) fZ gC;have nU:=kQ (c:=b.c) (k:=k2) (t:=t) fZ gC;have lo:=λk=>sR k;have pI:=λc=>na c;have pK:=ya t fZ gC;have pZ:bV 657 (aS k1)=aS k1:=bR ω;have nX:bV 657 (aS k2)=aS k2:=bR ω;have pX:bV 18 (aT b.c)=aT b.c:=bR ω;unfold rI;apply ik (v:=.t [.g (bj ⟨b.n,b.c,k2⟩ t u v),.g (bX (0#64) false),.c (.b true)]) Tryz.func42 rfl Tryz.results42 Tryz.ntmps42 (by simp)
    .intro _ _;simp only[bj,bU,k]at my;simp only[go_sem,seval,bU,bj,bX,k,lr,ro,rt,l,tt,oo,tP,th,my,la,lb,lc,t18,d18,iU,jE,ji,jH,tc,dd,ca,wi,mP,pC,pE,pG,l1,p6,nd,t181,d181,pR,o9,ph,pU,pW,pD,pF,pH,l2,p8,pn,t182,d182,pS,pg,pj,pV,pY,nT,nU,lo,pI,pK,pZ,nX,pX,wd,rd];(repeat' first|apply cn|exact qT (nB _) κ|(intro c;exact absurd c ω)|(intro _;kernel_rfl)|kernel_rfl);exact aN
    .simp
    .exact wQ (u':=u) (v':=v) hb ok (by rw[ev,eo,eb,et]) (by rw[et];exact Bo _ rfl)
   .rw[hs]at wd;have KR:=sK ([.own (bj b t u v),.own (bU q),.own (.i 0::ky),.own (.u 0#64::.b false::dA),.own (.u 0#64::.b false::dA)]:AH);have Jt:u.aj (H++([.own (bj b t u v),.own (bU q),.own (.i 0::ky),.own (.u 0#64::.b false::dA),.own (.u 0#64::.b false::dA)]:AH)).length=true:=Sc.gJ bu (by simp);have M7:v.aj (H++([.own (bj b t u v),.own (bU q),.own (.i 0::ky),.own (.u 0#64::.b false::dA),.own (.u 0#64::.b false::dA)]:AH)).length=true:=Sc.gJ bv (by simp);obtain⟨u',v',X,ex,n1,n2,s1,s2,B1,B2⟩:=avq KR Jt M7 (q.a-268435456#64) (Gg q.d);have XO:=Uj (apT ex);obtain⟨m1,N1⟩:=OG ok.hx bu n1;obtain⟨m2,N2⟩:=OG ok.hy bv n2;have dl:vZ t ((fQ t (q.a-268435456#64) (lE q.d)).1):=G1 (t:=t) (kd:=1) (off:=q.a-268435456#64) (Gg q.d);have KM:=apn (off:=q.a-268435456#64) ok.nb (Gg q.d);have R:∀o1 o2 o3 o4 o5 Y,jd (H++(o1::o2::o3::o4::o5::(X++Y))) ((fQ t (q.a-268435456#64) (lE q.d)).1) u' v':=λo1 o2 o3 o4 o5 Y=>Vr KM (P3 (P:=([.own (bj b t u v),.own (bU q),.own (.i 0::ky),.own (.u 0#64::.b false::dA),.own (.u 0#64::.b false::dA)]:AH)) (Q:=[o1,o2,o3,o4,o5]) (X:=X) (Y:=Y) (by rw[<-fo];exact s1) (by rw[<-fo];exact B1) m1 rfl) (P3 (P:=([.own (bj b t u v),.own (bU q),.own (.i 0::ky),.own (.u 0#64::.b false::dA),.own (.u 0#64::.b false::dA)]:AH)) (Q:=[o1,o2,o3,o4,o5]) (X:=X) (Y:=Y) (by rw[<-fo];exact s2) (by rw[<-fo];exact B2) m2 rfl) (by have:=dl.1;omega) (by have:=dl.2.1;omega);simp only[fo,kX,jV,bj,bU,k]at ex;have lX:(H++([.own (bj b t u v),.own (bU q),.own (.i 0::ky),.own (.u 0#64::.b false::dA),.own (.u 0#64::.b false::dA)]:AH)++X).length=H.length+5+X.length:=by simp;omega
    rw[lX]at B1;rw[lX]at B2;have tm:=aeU q.d;have eo:eC b.n h q=true:=by simp[eC,hm,k]
    have ev:eZ (⟨b,t⟩:Bx).d h q=0#64:=by simp[eZ,mJ,Dn,Dt,eo,k,hs]
    have et:dF (⟨b,t⟩:Bx).d h q=(fQ t (q.a-268435456#64) (lE q.d)).1:=by simp[dF,jh,lU,lV,Dn,Dt,eo,k,hs]
    have eb:dj (⟨b,t⟩:Bx).d h q=⟨b.n,b.c,fP (b.k) 10 (!decide (dI ((fQ t (q.a-268435456#64) (lE q.d)).1)=1))⟩:=by simp[dj,j8,m9,jh,og,lU,o0,lV,Dn,Dt,eo,k,hs]
    have hF:jK (b.k):=hb.kI;have jM:gF (b.c):=hb.ok.c;have jq:=hF.vG 10 (!decide (dI ((fQ t (q.a-268435456#64) (lE q.d)).1)=1));have wi:=λH=>yb (H:=H) hF 10 (!decide (dI ((fQ t (q.a-268435456#64) (lE q.d)).1)=1));have ca:=λo1 o2 o3 o4 o5 Y=>zt (R o1 o2 o3 o4 o5 Y);have fZ:=jO (R .dead .dead .dead .dead .dead []).hx;have gC:=jO (R .dead .dead .dead .dead .dead []).hy;obtain⟨t1,C9⟩:∃t1,(fQ t (q.a-268435456#64) (lE q.d)).1=t1:=⟨_,rfl⟩;rw[C9]at et eb jq;simp only[C9]at wi ca ex R;generalize mP:(!decide (dI t1=1))=on at*;obtain⟨k2,iq⟩:∃k2,fP b.k 10 on=k2:=⟨_,rfl⟩;simp only[iq]at wi;rw[iq]at eb jq;have aV:=Go.Proofs.YtghlfboliomhcaaGreat.gq (fT jM) (jv hF.ok) (mU t1 u' v');have aP:=Go.Proofs.YtghlfboliomhcaaGreat.gq (fT jM) (jv jq.ok) (mU t1 u' v');have pC:=aV.la;have pE:=aV.lb;have pG:=aV.lc;have l1:=aV.l;have p6:=aV.t;have nd:=aV.d;have t181:=aV.t18;have d181:=aV.d18;have pR:=aV.iU;have o9:=aV.jE;have ph:=aV.ji;have pU:=aV.jH;have pW:=aV.tc;have pD:=aP.la;have pF:=aP.lb;have pH:=aP.lc;have l2:=aP.l;have p8:=aP.t;have pn:=aP.d;have t182:=aP.t18;have d182:=aP.d18;have pS:=aP.iU;have pg:=aP.jE;have pj:=aP.ji;have pV:=aP.jH;have pY:=aP.tc;have nT:=kQ (c:=b.c) (k:=b.k) (t:=t1) fZ gC;have nU:=kQ (c:=b.c) (k:=k2) (t:=t1) fZ gC;have lo:=λk=>sR k;have pI:=λc=>na c;have pK:=ya t1 fZ gC;have pZ:bV 657 (aS b.k)=aS b.k:=bR ω;have nX:bV 657 (aS k2)=aS k2:=bR ω;have pX:bV 18 (aT b.c)=aT b.c:=bR ω;unfold rI;apply ik (v:=.t [.g (bj ⟨b.n,b.c,k2⟩ t1 u' v'),.g (bX (0#64) false),.c (.b true)]) Tryz.func42 rfl Tryz.results42 Tryz.ntmps42 (by simp)
    .intro _ _;simp only[bj,bU,k]at my;simp only[go_sem,seval,bU,bj,bX,k,lr,ro,rt,l,tt,oo,tP,th,my,la,lb,lc,t18,d18,iU,jE,ji,jH,tc,dd,ca,wi,mP,pC,pE,pG,l1,p6,nd,t181,d181,pR,o9,ph,pU,pW,pD,pF,pH,l2,p8,pn,t182,d182,pS,pg,pj,pV,pY,nT,nU,lo,pI,pK,pZ,nX,pX,wd,ex,tm];(repeat' first|apply cn|exact qT (nB _) κ|(intro c;exact absurd c ω)|(intro _;kernel_rfl)|kernel_rfl);exact aN
    .simp
    .exact wQ (u':=u') (v':=v') hb ok (by rw[ev,eo,eb,et]) (by rw[et];exact⟨⟨_,rfl⟩,R _ _ _ _ _ _,Sc.gJ B1 (by first|(simp;done)|(simp;omega)),Sc.gJ B2 (by first|(simp;done)|(simp;omega)),N1,N2,Ui XO rfl rfl⟩)
  .by_cases h0:h<0\/b.n<=h
   .have eo:eC b.n h q=false:=by simp[eC,hm,k];omega
    have ev:eZ (⟨b,t⟩:Bx).d h q=0#64:=by simp[eZ,Dn,eo]
    have eb:dj (⟨b,t⟩:Bx).d h q=b:=by simp[dj,Dn,eo]
    have et:dF (⟨b,t⟩:Bx).d h q=t:=by simp[dF,Dn,Dt,eo]
    unfold rI;apply ik (v:=.t [.g (bj b t u v),.g (bX 0#64 false),.c (.b false)]) Tryz.func42 rfl Tryz.results42 Tryz.ntmps42 (by simp)
    .intro _ _;simp only[bj,bU,k]at my;by_cases h1:h<0
     .simp only[go_sem,seval,bU,bj,bX,k,lr,ro,rt,l,tt,oo,tP,th,my,h1];exact aN
     .have h2:b.n<=h:=ω
      simp only[go_sem,seval,bU,bj,bX,k,lr,ro,rt,l,tt,oo,tP,th,my,h1,h2];exact aN
    .simp
    .exact wQ (u':=u) (v':=v) hb ok (by rw[ev,eo,eb,et]) (by rw[et];exact Bo _ rfl)
   .have h1:¬h<0:=ω
    have h2:¬b.n<=h:=ω
    have rl:=λH=>aed (H:=H) hb t hu hv h;have eo:eC b.n h q=true:=by simp[eC,hm,k,h1,h2]
    have ev:eZ (⟨b,t⟩:Bx).d h q=oZ b h:=by simp[eZ,mJ,Dn,Dt,eo,k]
    have et:dF (⟨b,t⟩:Bx).d h q=t:=by simp[dF,jh,lU,lV,Dn,Dt,eo,k]
    have eb:dj (⟨b,t⟩:Bx).d h q=⟨b.n,b.c,fP (b.k) 10 (!decide (dI (t)=1))⟩:=by simp[dj,j8,m9,jh,og,lU,o0,lV,Dn,Dt,eo,k]
    have hF:jK (b.k):=hb.kI;have jM:gF (b.c):=hb.ok.c;have jq:=hF.vG 10 (!decide (dI (t)=1));have wi:=λH=>yb (H:=H) hF 10 (!decide (dI (t)=1));have ca:=λY=>zt (sK Y);have fZ:=hu;have gC:=hv;unfold bj at rl;generalize mP:(!decide (dI t=1))=on at*;obtain⟨k2,iq⟩:∃k2,fP b.k 10 on=k2:=⟨_,rfl⟩;simp only[iq]at wi;rw[iq]at eb jq;have aV:=Go.Proofs.YtghlfboliomhcaaGreat.gq (fT jM) (jv hF.ok) (mU t u v);have aP:=Go.Proofs.YtghlfboliomhcaaGreat.gq (fT jM) (jv jq.ok) (mU t u v);have pC:=aV.la;have pE:=aV.lb;have pG:=aV.lc;have l1:=aV.l;have p6:=aV.t;have nd:=aV.d;have t181:=aV.t18;have d181:=aV.d18;have pR:=aV.iU;have o9:=aV.jE;have ph:=aV.ji;have pU:=aV.jH;have pW:=aV.tc;have pD:=aP.la;have pF:=aP.lb;have pH:=aP.lc;have l2:=aP.l;have p8:=aP.t;have pn:=aP.d;have t182:=aP.t18;have d182:=aP.d18;have pS:=aP.iU;have pg:=aP.jE;have pj:=aP.ji;have pV:=aP.jH;have pY:=aP.tc;have nT:=kQ (c:=b.c) (k:=b.k) (t:=t) fZ gC;have nU:=kQ (c:=b.c) (k:=k2) (t:=t) fZ gC;have lo:=λk=>sR k;have pI:=λc=>na c;have pK:=ya t fZ gC;have pZ:bV 657 (aS b.k)=aS b.k:=bR ω;have nX:bV 657 (aS k2)=aS k2:=bR ω;have pX:bV 18 (aT b.c)=aT b.c:=bR ω;unfold rI;apply ik (v:=.t [.g (bj ⟨b.n,b.c,k2⟩ t u v),.g (bX (oZ b h) false),.c (.b true)]) Tryz.func42 rfl Tryz.results42 Tryz.ntmps42 (by simp)
    .intro _ _;simp only[bj,bU,k]at my;simp only[go_sem,seval,bU,bj,bX,k,lr,ro,rt,l,tt,oo,tP,th,my,la,lb,lc,t18,d18,iU,jE,ji,jH,tc,dd,ca,wi,mP,pC,pE,pG,l1,p6,nd,t181,d181,pR,o9,ph,pU,pW,pD,pF,pH,l2,p8,pn,t182,d182,pS,pg,pj,pV,pY,nT,nU,lo,pI,pK,pZ,nX,pX,h1,h2,rl];(repeat' first|apply cn|exact qT (nB _) κ|(intro c;exact absurd c ω)|(intro _;kernel_rfl)|kernel_rfl);exact aN
    .simp
    .exact wQ (u':=u) (v':=v) hb ok (by rw[ev,eo,eb,et]) (by rw[et];exact Bo _ rfl)
  .skip;have rd:=λH=>axl (H:=H) hb.cI q.d.toInt;have eo:eC b.n h q=true:=by simp[eC,hm,k]
   have ev:eZ (⟨b,t⟩:Bx).d h q=0#64:=by simp[eZ,mJ,Dn,Dt,eo,k]
   have et:dF (⟨b,t⟩:Bx).d h q=t:=by simp[dF,jh,lU,lV,Dn,Dt,eo,k]
   have eb:dj (⟨b,t⟩:Bx).d h q=⟨b.n,nJ b.c q.d.toInt,fP (b.k) 10 (!decide (dI (t)=1))⟩:=by simp[dj,j8,m9,jh,og,lU,o0,lV,Dn,Dt,eo,k]
   have hF:jK (b.k):=hb.kI;have jM:gF (nJ b.c q.d.toInt):=Na hb.ok.c _;have jq:=hF.vG 10 (!decide (dI (t)=1));have wi:=λH=>yb (H:=H) hF 10 (!decide (dI (t)=1));have ca:=λY=>zt (sK Y);have fZ:=hu;have gC:=hv;obtain⟨c1,vp⟩:∃c1,nJ b.c q.d.toInt=c1:=⟨_,rfl⟩;rw[vp]at jM eb;simp only[vp]at rd;generalize mP:(!decide (dI t=1))=on at*;obtain⟨k2,iq⟩:∃k2,fP b.k 10 on=k2:=⟨_,rfl⟩;simp only[iq]at wi;rw[iq]at eb jq;have aV:=Go.Proofs.YtghlfboliomhcaaGreat.gq (fT jM) (jv hF.ok) (mU t u v);have aP:=Go.Proofs.YtghlfboliomhcaaGreat.gq (fT jM) (jv jq.ok) (mU t u v);have pC:=aV.la;have pE:=aV.lb;have pG:=aV.lc;have l1:=aV.l;have p6:=aV.t;have nd:=aV.d;have t181:=aV.t18;have d181:=aV.d18;have pR:=aV.iU;have o9:=aV.jE;have ph:=aV.ji;have pU:=aV.jH;have pW:=aV.tc;have pD:=aP.la;have pF:=aP.lb;have pH:=aP.lc;have l2:=aP.l;have p8:=aP.t;have pn:=aP.d;have t182:=aP.t18;have d182:=aP.d18;have pS:=aP.iU;have pg:=aP.jE;have pj:=aP.ji;have pV:=aP.jH;have pY:=aP.tc;have nT:=kQ (c:=c1) (k:=b.k) (t:=t) fZ gC;have nU:=kQ (c:=c1) (k:=k2) (t:=t) fZ gC;have lo:=λk=>sR k;have pI:=λc=>na c;have pK:=ya t fZ gC;have pZ:bV 657 (aS b.k)=aS b.k:=bR ω;have nX:bV 657 (aS k2)=aS k2:=bR ω;have pX:bV 18 (aT c1)=aT c1:=bR ω;unfold rI;apply ik (v:=.t [.g (bj ⟨b.n,c1,k2⟩ t u v),.g (bX (0#64) false),.c (.b true)]) Tryz.func42 rfl Tryz.results42 Tryz.ntmps42 (by simp)
   .intro _ _;simp only[bj,bU,k]at my;simp only[go_sem,seval,bU,bj,bX,k,lr,ro,rt,l,tt,oo,tP,th,my,la,lb,lc,t18,d18,iU,jE,ji,jH,tc,dd,ca,wi,mP,pC,pE,pG,l1,p6,nd,t181,d181,pR,o9,ph,pU,pW,pD,pF,pH,l2,p8,pn,t182,d182,pS,pg,pj,pV,pY,nT,nU,lo,pI,pK,pZ,nX,pX,rd];(repeat' first|apply cn|exact qT (nB _) κ|(intro c;exact absurd c ω)|(intro _;kernel_rfl)|kernel_rfl);exact aN
   .simp
   .exact wQ (u':=u) (v':=v) hb ok (by rw[ev,eo,eb,et]) (by rw[et];exact Bo _ rfl)
  .skip;have KR:=sK ([.own (bj b t u v),.own (bU q),.own (.i 0::ky),.own (.u 0#64::.b false::dA),.own (.u 0#64::.b false::dA)]:AH);have Jt:u.aj (H++([.own (bj b t u v),.own (bU q),.own (.i 0::ky),.own (.u 0#64::.b false::dA),.own (.u 0#64::.b false::dA)]:AH)).length=true:=Sc.gJ bu (by simp);have M7:v.aj (H++([.own (bj b t u v),.own (bU q),.own (.i 0::ky),.own (.u 0#64::.b false::dA),.own (.u 0#64::.b false::dA)]:AH)).length=true:=Sc.gJ bv (by simp);obtain⟨u',X,ex,n1,s1,hB,B1⟩:=au7 KR Jt M7 (Gg q.d);have XO:=Uj (apR ex);obtain⟨m1,N1⟩:=OG ok.hx bu n1;have dl:vZ t ((oI t (lE q.d)).1):=G1 (t:=t) (kd:=2) (off:=0#64) (Gg q.d);have KM:=apl (b:=lE q.d) ok.nb;have R:∀o1 o2 o3 o4 o5 Y,jd (H++(o1::o2::o3::o4::o5::(X++Y))) ((oI t (lE q.d)).1) u' v:=λo1 o2 o3 o4 o5 Y=>Vr KM (P3 (P:=([.own (bj b t u v),.own (bU q),.own (.i 0::ky),.own (.u 0#64::.b false::dA),.own (.u 0#64::.b false::dA)]:AH)) (Q:=[o1,o2,o3,o4,o5]) (X:=X) (Y:=Y) (by rw[<-fo];exact s1) (by rw[<-fo];exact B1) m1 rfl) (by rw[hB];exact rM ok.hy bv) (by have:=dl.1;omega) (by have:=dl.2.1;omega);have B2:=bv;have N2:Cg H v v:=AX;simp only[fo,kX,jV,bj,bU,k]at ex;have lX:(H++([.own (bj b t u v),.own (bU q),.own (.i 0::ky),.own (.u 0#64::.b false::dA),.own (.u 0#64::.b false::dA)]:AH)++X).length=H.length+5+X.length:=by simp;omega
   rw[lX]at B1;have tm:=aeU q.d;have eo:eC b.n h q=true:=by simp[eC,hm,k]
   have ev:eZ (⟨b,t⟩:Bx).d h q=0#64:=by simp[eZ,mJ,Dn,Dt,eo,k]
   have et:dF (⟨b,t⟩:Bx).d h q=(oI t (lE q.d)).1:=by simp[dF,jh,lU,lV,Dn,Dt,eo,k]
   have eb:dj (⟨b,t⟩:Bx).d h q=⟨b.n,b.c,fP (b.k) 10 (!decide (dI ((oI t (lE q.d)).1)=1))⟩:=by simp[dj,j8,m9,jh,og,lU,o0,lV,Dn,Dt,eo,k]
   have hF:jK (b.k):=hb.kI;have jM:gF (b.c):=hb.ok.c;have jq:=hF.vG 10 (!decide (dI ((oI t (lE q.d)).1)=1));have wi:=λH=>yb (H:=H) hF 10 (!decide (dI ((oI t (lE q.d)).1)=1));have ca:=λo1 o2 o3 o4 o5 Y=>zt (R o1 o2 o3 o4 o5 Y);have fZ:=jO (R .dead .dead .dead .dead .dead []).hx;have gC:=jO (R .dead .dead .dead .dead .dead []).hy;obtain⟨t1,C9⟩:∃t1,(oI t (lE q.d)).1=t1:=⟨_,rfl⟩;rw[C9]at et eb jq;simp only[C9]at wi ca ex R;generalize mP:(!decide (dI t1=1))=on at*;obtain⟨k2,iq⟩:∃k2,fP b.k 10 on=k2:=⟨_,rfl⟩;simp only[iq]at wi;rw[iq]at eb jq;have aV:=Go.Proofs.YtghlfboliomhcaaGreat.gq (fT jM) (jv hF.ok) (mU t1 u' v);have aP:=Go.Proofs.YtghlfboliomhcaaGreat.gq (fT jM) (jv jq.ok) (mU t1 u' v);have pC:=aV.la;have pE:=aV.lb;have pG:=aV.lc;have l1:=aV.l;have p6:=aV.t;have nd:=aV.d;have t181:=aV.t18;have d181:=aV.d18;have pR:=aV.iU;have o9:=aV.jE;have ph:=aV.ji;have pU:=aV.jH;have pW:=aV.tc;have pD:=aP.la;have pF:=aP.lb;have pH:=aP.lc;have l2:=aP.l;have p8:=aP.t;have pn:=aP.d;have t182:=aP.t18;have d182:=aP.d18;have pS:=aP.iU;have pg:=aP.jE;have pj:=aP.ji;have pV:=aP.jH;have pY:=aP.tc;have nT:=kQ (c:=b.c) (k:=b.k) (t:=t1) fZ gC;have nU:=kQ (c:=b.c) (k:=k2) (t:=t1) fZ gC;have lo:=λk=>sR k;have pI:=λc=>na c;have pK:=ya t1 fZ gC;have pZ:bV 657 (aS b.k)=aS b.k:=bR ω;have nX:bV 657 (aS k2)=aS k2:=bR ω;have pX:bV 18 (aT b.c)=aT b.c:=bR ω;unfold rI;apply ik (v:=.t [.g (bj ⟨b.n,b.c,k2⟩ t1 u' v),.g (bX (0#64) false),.c (.b true)]) Tryz.func42 rfl Tryz.results42 Tryz.ntmps42 (by simp)
   .intro _ _;simp only[bj,bU,k]at my;simp only[go_sem,seval,bU,bj,bX,k,lr,ro,rt,l,tt,oo,tP,th,my,la,lb,lc,t18,d18,iU,jE,ji,jH,tc,dd,ca,wi,mP,pC,pE,pG,l1,p6,nd,t181,d181,pR,o9,ph,pU,pW,pD,pF,pH,l2,p8,pn,t182,d182,pS,pg,pj,pV,pY,nT,nU,lo,pI,pK,pZ,nX,pX,ex,tm];(repeat' first|apply cn|exact qT (nB _) κ|(intro c;exact absurd c ω)|(intro _;kernel_rfl)|kernel_rfl);exact aN
   .simp
   .exact wQ (u':=u') (v':=v) hb ok (by rw[ev,eo,eb,et]) (by rw[et];exact⟨⟨_,rfl⟩,R _ _ _ _ _ _,Sc.gJ B1 (by first|(simp;done)|(simp;omega)),Sc.gJ B2 (by first|(simp;done)|(simp;omega)),N1,N2,Ui XO rfl rfl⟩)
  .rcases Classical.propComplete (q.s=10)with uI|uI
   .skip;have eo:eC b.n h q=true:=by simp[eC,hm,k]
    have ev:eZ (⟨b,t⟩:Bx).d h q=0#64:=by simp[eZ,mJ,Dn,Dt,eo,k,uI]
    have et:dF (⟨b,t⟩:Bx).d h q=t:=by simp[dF,jh,lU,lV,Dn,Dt,eo,k,uI]
    have eb:dj (⟨b,t⟩:Bx).d h q=⟨b.n,b.c,fP (b.k) 10 (!decide (dI (t)=1))⟩:=by simp[dj,j8,m9,jh,og,lU,o0,lV,Dn,Dt,eo,k,uI]
    have hF:jK (b.k):=hb.kI;have jM:gF (b.c):=hb.ok.c;have jq:=hF.vG 10 (!decide (dI (t)=1));have wi:=λH=>yb (H:=H) hF 10 (!decide (dI (t)=1));have ca:=λY=>zt (sK Y);have fZ:=hu;have gC:=hv;generalize mP:(!decide (dI t=1))=on at*;obtain⟨k2,iq⟩:∃k2,fP b.k 10 on=k2:=⟨_,rfl⟩;simp only[iq]at wi;rw[iq]at eb jq;have aV:=Go.Proofs.YtghlfboliomhcaaGreat.gq (fT jM) (jv hF.ok) (mU t u v);have aP:=Go.Proofs.YtghlfboliomhcaaGreat.gq (fT jM) (jv jq.ok) (mU t u v);have pC:=aV.la;have pE:=aV.lb;have pG:=aV.lc;have l1:=aV.l;have p6:=aV.t;have nd:=aV.d;have t181:=aV.t18;have d181:=aV.d18;have pR:=aV.iU;have o9:=aV.jE;have ph:=aV.ji;have pU:=aV.jH;have pW:=aV.tc;have pD:=aP.la;have pF:=aP.lb;have pH:=aP.lc;have l2:=aP.l;have p8:=aP.t;have pn:=aP.d;have t182:=aP.t18;have d182:=aP.d18;have pS:=aP.iU;have pg:=aP.jE;have pj:=aP.ji;have pV:=aP.jH;have pY:=aP.tc;have nT:=kQ (c:=b.c) (k:=b.k) (t:=t) fZ gC;have nU:=kQ (c:=b.c) (k:=k2) (t:=t) fZ gC;have lo:=λk=>sR k;have pI:=λc=>na c;have pK:=ya t fZ gC;have pZ:bV 657 (aS b.k)=aS b.k:=bR ω;have nX:bV 657 (aS k2)=aS k2:=bR ω;have pX:bV 18 (aT b.c)=aT b.c:=bR ω;unfold rI;apply ik (v:=.t [.g (bj ⟨b.n,b.c,k2⟩ t u v),.g (bX (0#64) false),.c (.b true)]) Tryz.func42 rfl Tryz.results42 Tryz.ntmps42 (by simp)
    .intro _ _;simp only[bj,bU,k]at my;simp only[go_sem,seval,bU,bj,bX,k,lr,ro,rt,l,tt,oo,tP,th,my,la,lb,lc,t18,d18,iU,jE,ji,jH,tc,dd,ca,wi,mP,pC,pE,pG,l1,p6,nd,t181,d181,pR,o9,ph,pU,pW,pD,pF,pH,l2,p8,pn,t182,d182,pS,pg,pj,pV,pY,nT,nU,lo,pI,pK,pZ,nX,pX,uI];(repeat' first|apply cn|exact qT (nB _) κ|(intro c;exact absurd c ω)|(intro _;kernel_rfl)|kernel_rfl);exact aN
    .simp
    .exact wQ (u':=u) (v':=v) hb ok (by rw[ev,eo,eb,et]) (by rw[et];exact Bo _ rfl)
   .skip;have rd:=λH=>yb (H:=H) hb.kI q.s q.lv;have eo:eC b.n h q=true:=by simp[eC,hm,k]
    have ev:eZ (⟨b,t⟩:Bx).d h q=0#64:=by simp[eZ,mJ,Dn,Dt,eo,k,uI]
    have et:dF (⟨b,t⟩:Bx).d h q=t:=by simp[dF,jh,lU,lV,Dn,Dt,eo,k,uI]
    have eb:dj (⟨b,t⟩:Bx).d h q=⟨b.n,b.c,fP (fP b.k q.s q.lv) 10 (!decide (dI (t)=1))⟩:=by simp[dj,j8,m9,jh,og,lU,o0,lV,Dn,Dt,eo,k,uI]
    have hF:jK (fP b.k q.s q.lv):=hb.kI.vG _ _;have jM:gF (b.c):=hb.ok.c;have jq:=hF.vG 10 (!decide (dI (t)=1));have wi:=λH=>yb (H:=H) hF 10 (!decide (dI (t)=1));have ca:=λY=>zt (sK Y);have fZ:=hu;have gC:=hv;obtain⟨k1,vq⟩:∃k1,fP b.k q.s q.lv=k1:=⟨_,rfl⟩;rw[vq]at hF jq eb;simp only[vq]at wi rd;generalize mP:(!decide (dI t=1))=on at*;obtain⟨k2,iq⟩:∃k2,fP k1 10 on=k2:=⟨_,rfl⟩;simp only[iq]at wi;rw[iq]at eb jq;have aV:=Go.Proofs.YtghlfboliomhcaaGreat.gq (fT jM) (jv hF.ok) (mU t u v);have aP:=Go.Proofs.YtghlfboliomhcaaGreat.gq (fT jM) (jv jq.ok) (mU t u v);have pC:=aV.la;have pE:=aV.lb;have pG:=aV.lc;have l1:=aV.l;have p6:=aV.t;have nd:=aV.d;have t181:=aV.t18;have d181:=aV.d18;have pR:=aV.iU;have o9:=aV.jE;have ph:=aV.ji;have pU:=aV.jH;have pW:=aV.tc;have pD:=aP.la;have pF:=aP.lb;have pH:=aP.lc;have l2:=aP.l;have p8:=aP.t;have pn:=aP.d;have t182:=aP.t18;have d182:=aP.d18;have pS:=aP.iU;have pg:=aP.jE;have pj:=aP.ji;have pV:=aP.jH;have pY:=aP.tc;have nT:=kQ (c:=b.c) (k:=k1) (t:=t) fZ gC;have nU:=kQ (c:=b.c) (k:=k2) (t:=t) fZ gC;have lo:=λk=>sR k;have pI:=λc=>na c;have pK:=ya t fZ gC;have pZ:bV 657 (aS k1)=aS k1:=bR ω;have nX:bV 657 (aS k2)=aS k2:=bR ω;have pX:bV 18 (aT b.c)=aT b.c:=bR ω;unfold rI;apply ik (v:=.t [.g (bj ⟨b.n,b.c,k2⟩ t u v),.g (bX (0#64) false),.c (.b true)]) Tryz.func42 rfl Tryz.results42 Tryz.ntmps42 (by simp)
    .intro _ _;simp only[bj,bU,k]at my;simp only[go_sem,seval,bU,bj,bX,k,lr,ro,rt,l,tt,oo,tP,th,my,la,lb,lc,t18,d18,iU,jE,ji,jH,tc,dd,ca,wi,mP,pC,pE,pG,l1,p6,nd,t181,d181,pR,o9,ph,pU,pW,pD,pF,pH,l2,p8,pn,t182,d182,pS,pg,pj,pV,pY,nT,nU,lo,pI,pK,pZ,nX,pX,uI,rd];(repeat' first|apply cn|exact qT (nB _) κ|(intro c;exact absurd c ω)|(intro _;kernel_rfl)|kernel_rfl);exact aN
    .simp
    .exact wQ (u':=u) (v':=v) hb ok (by rw[ev,eo,eb,et]) (by rw[et];exact Bo _ rfl)
 obtain⟨x,H1,h1,_,h2⟩:=this;obtain⟨u',v',rfl,st⟩:=h2 b t u v h q hb ok rfl;exact⟨u',v',H1,h1,st⟩
end
section
variable {H:AH}
open Classical in inductive Cm:List Tg->List Sc->List Sc->Prop where|nil:Cm [] [] []|cons{g:Tg}{x y:Sc}{gs:List Tg}{xs ys:List Sc}(h:rJ g x y=some (decide (x=y)))(t:Cm gs xs ys):Cm (g::gs) (x::xs) (y::ys)
theorem Cm.app{g1 g2:List Tg}{a b c d:List Sc}(h1:Cm g1 a b)(h2:Cm g2 c d):Cm (g1++g2) (a++c) (b++d):=by induction h1 with|nil=>exact h2|cons h _ ih=>exact .cons h ih
open Classical in theorem Cm.eq{g:List Tg}{a b:List Sc}(h:Cm g a b):gB g a b=some (decide (a=b)):=by induction h with
 |nil=>simp[gB]|@cons g x y gs xs ys h _ ih=>
 simp only[gB,h,ih];by_cases e1:x=y<;>by_cases e2:xs=ys<;>simp[e1,e2]
open Classical in theorem ai4(x y:Int):rJ .n (.i x) (.i y)=some (decide (Sc.i x=Sc.i y)):=by by_cases e:x=y<;>simp[rJ,e]
open Classical in theorem ajc(x y:BitVec 64):rJ .n (.u x) (.u y)=some (decide (Sc.u x=Sc.u y)):=by by_cases e:x=y<;>simp[rJ,e]
open Classical in theorem Y4(k:IntKind)(x y:Int):rJ .n (.k k x) (.k k y)=some (decide (Sc.k k x=Sc.k k y)):=by by_cases e:x=y<;>simp[rJ,e]
open Classical in theorem ai3(x y:Bool):rJ .q (.b x) (.b y)=some (decide (Sc.b x=Sc.b y)):=by cases x<;>cases y<;>simp[rJ]
theorem Cm.rep{α:Type}{f:α->Sc}{g:Tg}(hf:∀x y,Cm [g] [f x] [f y]):∀{l m:List α}{n:Nat},l.length=n->m.length=n->Cm (bE n g) (l.map f) (m.map f)
 |[],[],n,h,_=>by subst h;exact .nil|[],_::_,n,h,h2=>by simp at h h2;omega|_::_,[],n,h,h2=>by simp at h h2;omega|x::l,y::m,n,h,h2=>by
   obtain⟨k,rfl⟩:∃k,n=k+1:=⟨n-1,by simp at h;omega⟩;have:=(hf x y).app (Cm.rep hf (l:=l) (m:=m) (n:=k) (by simpa using h) (by simpa using h2));exact this
theorem Cm.one{g:Tg}{gs:List Tg}{xs ys:List Sc}(h:Cm [g] [x] [y])(t:Cm gs xs ys):Cm (g::gs) (x::xs) (y::ys):=h.app t
theorem yE(x y:Int):Cm [.n] [.i x] [.i y]:=.cons (ai4 x y) .nil
theorem Ju(x y:BitVec 64):Cm [.n] [.u x] [.u y]:=.cons (ajc x y) .nil
theorem YQ(x y:Int):Cm [.n] [k8 x] [k8 y]:=.cons (Y4 _ x y) .nil
theorem M8(x y:BitVec 32):Cm [.n] [iA x] [iA y]:=.cons (Y4 _ _ _) .nil
theorem Ew(x y:Bool):Cm [.q] [.b x] [.b y]:=.cons (ai3 x y) .nil
def Xg:List Tg:=.n::.n::(bE 8 .n++bE 8 .q)
def tgK:List Tg:=.n::(bE 32 .n++(.n::.n::.n::(bE 16 .n++bE 16 .n)))
def tgP:List Tg:=.n::(bE 32 .n++(bE 32 .q++(bE 32 .q++(bE 32 .q++(bE 512 .q++bE 16 .n)))))
theorem Y3{a b:Ck}(ha:gF a)(hb:gF b):Cm Xg (aT a) (aT b):=(yE _ _).one ((Ju _ _).one ((Cm.rep Ju ha.c hb.c).app (Cm.rep Ew ha.s hb.s)))
theorem ai5{a b:Pk}(ha:cG a)(hb:cG b):Cm tgK (eh a) (eh b):=(yE _ _).one ((Cm.rep YQ ha.p hb.p).app ((M8 _ _).one ((M8 _ _).one ((M8 _ _).one ((Cm.rep M8 ha.e hb.e).app (Cm.rep YQ ha.l hb.l))))))
theorem Ni(u w:BitVec 32):Cm (bE 32 .q) (eJ u) (eJ w):=by
 have e:∀x:BitVec 32,eJ x=((oR 32).map λi=>x.getLsbD i).map Sc.b:=λx=>by unfold eJ;rw[List.map_map];rfl
 rw[e u,e w];exact Cm.rep Ew (by simp) (by simp)
theorem Y6:∀{l m:List (BitVec 32)}{n:Nat},l.length=n->m.length=n->Cm (bE (n*32) .q) (l.flatMap eJ) (m.flatMap eJ)
 |[],[],n,h,_=>by subst h;exact .nil|[],_::_,n,h,h2=>by simp at h h2;omega|_::_,[],n,h,h2=>by simp at h h2;omega|x::l,y::m,n,h,h2=>by
   obtain⟨k,rfl⟩:∃k,n=k+1:=⟨n-1,by simp at h;omega⟩;have:=(Ni x y).app (Y6 (l:=l) (m:=m) (n:=k) (by simpa using h) (by simpa using h2));rw[List.replicate_append_replicate,show 32+k*32=(k+1)*32 by omega]at this;exact this
theorem ai8{a b:Pk}(ha:cG a)(hb:cG b):Cm tgP (aS a) (aS b):=(yE _ _).one ((Cm.rep yE ha.p hb.p).app ((Ni _ _).app ((Ni _ _).app ((Ni _ _).app ((Y6 ha.e hb.e).app (Cm.rep yE ha.l hb.l))))))
theorem ama:iV Tryz.prog 12 142=some Xg:=κ
theorem amg:iV Tryz.prog 12 52=some Xg:=κ
theorem amf:iV Tryz.prog 12 149=some tgK:=κ
theorem amh:iV Tryz.prog 12 58=some tgP:=κ
open Classical in theorem ak3{a b:Ck}(ha:gF a)(hb:gF b):cj Tryz.prog .eql 142 (.g (aT a)) (.g (aT b))=some (.c (.b (decide (a=b)))):=by
 rw[xr _ (by simp only[go_sem,D.agg]) ama,(Y3 ha hb).eq];show some (AV.c (.b (decide (aT a=aT b))))=_;by_cases e:a=b
 .simp[e]
 .rw[decide_eq_false e,decide_eq_false λh=>e (Ey ha hb h)]
open Classical in theorem ak8{a b:Ck}(ha:gF a)(hb:gF b):cj Tryz.prog .eql 52 (.g (aT a)) (.g (aT b))=some (.c (.b (decide (a=b)))):=by
 rw[xr _ (by simp only[go_sem,D.agg]) amg,(Y3 ha hb).eq];show some (AV.c (.b (decide (aT a=aT b))))=_;by_cases e:a=b
 .simp[e]
 .rw[decide_eq_false e,decide_eq_false λh=>e (Ey ha hb h)]
open Classical in theorem ak7{a b:Pk}(ha:cG a)(hb:cG b):cj Tryz.prog .eql 149 (.g (eh a)) (.g (eh b))=some (.c (.b (decide (a=b)))):=by
 rw[xr _ (by simp only[go_sem,D.agg]) amf,(ai5 ha hb).eq];show some (AV.c (.b (decide (eh a=eh b))))=_;by_cases e:a=b
 .simp[e]
 .rw[decide_eq_false e,decide_eq_false λh=>e (UY.i _ _ ha hb h)]
open Classical in theorem ala{a b:Pk}(ha:cG a)(hb:cG b):cj Tryz.prog .eql 58 (.g (aS a)) (.g (aS b))=some (.c (.b (decide (a=b)))):=by
 rw[xr _ (by simp only[go_sem,D.agg]) amh,(ai8 ha hb).eq];show some (AV.c (.b (decide (aS a=aS b))))=_;by_cases e:a=b
 .simp[e]
 .rw[decide_eq_false e,decide_eq_false λh=>e (FR ha hb h)]
open Classical in theorem YH{a b:Bs}:decide (a=b)=(decide (a.n=b.n)&&(decide (a.c=b.c)&&decide (a.k=b.k))):=by
 by_cases e:a=b
 .subst e;simp
 .rw[decide_eq_false e];by_cases h1:a.n=b.n
  .by_cases h2:a.c=b.c
   .by_cases h3:a.k=b.k
    .exfalso;apply e;cases a;cases b;simp only at h1 h2 h3;subst h1 h2 h3;rfl
    .simp[h3]
   .simp[h2]
  .simp[h1]
theorem awn{D E:Bd}(hD:BI H D)(hE:BI H E)(h8:jg D.t.A=true/\jg D.t.B=true/\jg E.t.A=true/\jg E.t.B=true):Ln [.c (.p D.id 0 0),.c (.p E.id 0 0)] H=some (.c (.b (yA D E))):=by
 have:∃v,Ln [.c (.p D.id 0 0),.c (.p E.id 0 0)] H=some v/\acV [.c (.p D.id 0 0),.c (.p E.id 0 0)] H v:=by
  unfold Ln;apply mu (v:=.c (.b (yA D E))) Tryz.func56 rfl Tryz.results56 Tryz.ntmps56 (by simp)
  .exact λ_ _=>rfl
  .intro _ _;have ho:=hD.ho;have he:=hE.ho;have l1:=fT hD.ok.c;have l2:=zg hD.ok.k;have l3:=fT hE.ok.c;have l4:=zg hE.ok.k;have t1:∀m:List Sc,bV 18 (aT D.b.c++m)=aT D.b.c:=λm=>qe l1;have t2:bV 68 (eh D.b.k)=eh D.b.k:=bR ω;have t3:∀m:List Sc,cY 18 (aT D.b.c++m)=m:=λm=>xf l1;have u1:∀m:List Sc,bV 18 (aT E.b.c++m)=aT E.b.c:=λm=>qe l3;have u2:bV 68 (eh E.b.k)=eh E.b.k:=bR ω;have u3:∀m:List Sc,cY 18 (aT E.b.c++m)=m:=λm=>xf l3;have q1:=ak3 hD.ok.c hE.ok.c;have q2:=ak7 hD.ok.k hE.ok.k;have us:=axF (US hD.pi) (US hE.pi) h8;have eB:yA D E=(decide (D.b.n=E.b.n)&&((@decide (D.b.c=E.b.c) (Classical.propDecidable _))&&(@decide (D.b.k=E.b.k) (Classical.propDecidable _)))&&Bm D.t E.t):=by
    unfold yA;rw[YH]
   rw[eB];unfold fN at ho he;generalize(@decide (D.b.c=E.b.c) (Classical.propDecidable _))=x1 at*;generalize(@decide (D.b.k=E.b.k) (Classical.propDecidable _))=x2 at*;generalize Bm D.t E.t=x3 at*;rcases Classical.propComplete (D.b.n=E.b.n)with c|c<;>cases x1<;>cases x2<;>cases x3;all_goals simp only[go_sem,seval,ho,he,l1,l2,l3,l4,t1,t2,t3,u1,u2,u3,q1,q2,us,c]
   all_goals(repeat' first|apply cn|(intro c;exact absurd c ω)|(intro _;kernel_rfl)|kernel_rfl)
   all_goals exact aE _
  .refine⟨λhe=>by simp at he,λD' E' he h1 h2=>?_⟩;simp only[cK,AV.c.injEq,Sc.p.injEq,and_true]at he;obtain⟨e1,e2⟩:=he;rw[hD.uniq h1 e1,hE.uniq h2 e2]
 obtain⟨v,h1,h2⟩:=this;rw[h1,h2.2 D E rfl hD hE]
end
section
variable {H:AH}
open Classical in def Cr(a:Bs)(t:Pt)(b:Bs)(s:Pt):Bool:=decide (a=b)&&sU t s
def adj(args:List AV)(H:AH)(w:AV):Prop:=∀a t u v b s x y,mg a->mg b->jd H t u v->jd H s x y->args=[.g (bj a t u v),.g (bj b s x y)]->w=.c (.b (Cr a t b s))
def LW:List AV->AH->Option AV:=lg Tryz.prog [(115,.fq IM)] 58 adj
theorem asv:aZ Tryz.prog 58 (λargs H=>(LW args H).map λv=>(v,H)):=nn (tq asN tn) Tryz.func58 rfl Tryz.results58 Tryz.ntmps58
theorem axq{a b:Bs}{s:Pt}{v:Sc}(ha:mg a)(hb:mg b)(o1:jd H t u v)(o2:jd H s x y)(bu:u.aj H.length=true)(bv:v.aj H.length=true)(bx:x.aj H.length=true)(bY:y.aj H.length=true):LW [.g (bj a t u v),.g (bj b s x y)] H=some (.c (.b (Cr a t b s))):=by
 have:∃w,LW [.g (bj a t u v),.g (bj b s x y)] H=some w/\adj [.g (bj a t u v),.g (bj b s x y)] H w:=by
  unfold LW;apply mu (v:=.c (.b (Cr a t b s))) Tryz.func58 rfl Tryz.results58 Tryz.ntmps58 (by simp)
  .exact λ_ _=>rfl
  .intro _ _;have hu:=jO o1.hx;have hv:=jO o1.hy;have hx:=jO o2.hx;have hy:=jO o2.hy;have sg:=ha.gq t u v;have se:=hb.gq s x y;have l1:=sg.l;have l2:=se.l;have t18:=sg.t18;have d18:=sg.d18;have iU:=sg.iU;have ji:=sg.ji;have tc:=sg.tc;have lc:=sg.lc;have la:=sg.la;have lb:=sg.lb;have e18:=se.t18;have f18:=se.d18;have akP:=se.iU;have alE:=se.ji;have ec:=se.tc;have mc:=se.lc;have ma:=se.la;have mb:=se.lb;have nT:=kQ (c:=a.c) (k:=a.k) (t:=t) hu hv;have nU:=kQ (c:=b.c) (k:=b.k) (t:=s) hx hy;have q1:=ak8 ha.ok.c hb.ok.c;have q2:=ala ha.ok.k hb.ok.k;have rs:=λY=>axz (Cu (X:=Y) o1 bu bv) (Cu (X:=Y) o2 bx bY);have eB:Cr a t b s=(decide (a.n=b.n)&&((@decide (a.c=b.c) (Classical.propDecidable _))&&(@decide (a.k=b.k) (Classical.propDecidable _)))&&sU t s):=by
    unfold Cr;rw[YH]
   rw[eB];unfold bj;generalize(@decide (a.c=b.c) (Classical.propDecidable _))=x1 at*;generalize(@decide (a.k=b.k) (Classical.propDecidable _))=x2 at*;generalize sU t s=x3 at*;rcases Classical.propComplete (a.n=b.n)with c|c<;>cases x1<;>cases x2<;>cases x3;all_goals simp only[go_sem,seval,l1,l2,t18,d18,iU,ji,tc,lc,la,lb,e18,f18,akP,alE,ec,mc,ma,mb,nT,nU,q1,q2,rs,c]
   all_goals exact aB _ _
  .intro a' t' u' v' b' s' x' y' EV qN o1' o2' he;simp only[cK,AV.g.injEq,and_true]at he;obtain⟨e1,e2⟩:=he;obtain⟨rfl,e3⟩:=HZ ha EV e1;obtain⟨rfl,rfl,rfl⟩:=Pm o1 o1' e3;obtain⟨rfl,e4⟩:=HZ hb qN e2;obtain⟨rfl,rfl,rfl⟩:=Pm o2 o2' e4;rfl
 obtain⟨w,h1,h2⟩:=this;rw[h1,h2 a t u v b s x y ha hb o1 o2 rfl]
def ac4(args:List AV)(H:AH)(w:AV)(H1:AH):Prop:=∀D u v,BI H D->mg D.b->jd H D.t u v->args=[.c (.p D.id 0 0),.g (bj D.b D.t u v)]->w=.c (.b true)/\∃X,H1=H++X
def LD:List AV->AH->Option (AV×AH):=uw Tryz.prog [(86,.fq FT),(103,.fq IJ),(109,.fq Lo),(110,.fp DA),(111,.fp DB),(45,.fq Bh)] 47 ac4
theorem arJ:aZ Tryz.prog 47 LD:=Ap (tq abO (tq ab5 (tq aqV (tp aqS (tp aqW (tq acg tn)))))) Tryz.func47 rfl Tryz.results47 Tryz.ntmps47
theorem awX{D:Bd}{u v:Sc}(hB:BI H D)(hb:mg D.b)(ok:jd H D.t u v)(bu:u.aj H.length=true)(bv:v.aj H.length=true):∃X,LD [.c (.p D.id 0 0),.g (bj D.b D.t u v)] H=some (.c (.b true),H++X):=by
 have:∃w H1,LD [.c (.p D.id 0 0),.g (bj D.b D.t u v)] H=some (w,H1)/\H.length<=H1.length/\ac4 [.c (.p D.id 0 0),.g (bj D.b D.t u v)] H w H1:=by
  have hu:=jO ok.hx;have hv:=jO ok.hy;have sg:=hb.gq D.t u v;have l:=sg.l;have d18:=sg.d18;have tt:=sg.t;have oo:=kQ (c:=D.b.c) (k:=D.b.k) (t:=D.t) hu hv;have NV:=λX=>hB.app X;have b1:=λX h=>VD (NV X) h;have b2:=λH h=>aed (H:=H) hb D.t hu hv h;have b3:=λX=>awo (NV X);have b4:=λX=>awl (NV X) ok.lb;have b5:=λX=>awp (NV X) ok.la;have la:=ok.la;have lb:=ok.lb;have g1:(bj D.b D.t u v).getD 2 .any=.u D.b.c.t:=rfl;have g2:(aT D.b.c++(aS D.b.k++aU D.t u v)).getD 684 .any=u:=by
   have e:(aT D.b.c++(aS D.b.k++aU D.t u v))=(aT D.b.c++aS D.b.k)++(aU D.t u v++[]):=by simp
   have l1:(aT D.b.c++aS D.b.k).length=675:=by rw[cF,sg.la,sg.lb]
   rw[e,show 684=(aT D.b.c++aS D.b.k).length+9 by rw[l1],wj (by rw[mU];decide)];rfl
  have g3:(aT D.b.c++(aS D.b.k++aU D.t u v)).getD 685 .any=v:=by
   have e:(aT D.b.c++(aS D.b.k++aU D.t u v))=(aT D.b.c++aS D.b.k)++(aU D.t u v++[]):=by simp
   have l1:(aT D.b.c++aS D.b.k).length=675:=by rw[cF,sg.la,sg.lb]
   rw[e,show 685=(aT D.b.c++aS D.b.k).length+10 by rw[l1],wj (by rw[mU];decide)];rfl
  have g0:(aT D.b.c++(aS D.b.k++aU D.t u v)).getD 1 .any=.u D.b.c.t:=rfl;obtain⟨A,hA⟩:∃A,D.t.A=A:=⟨_,rfl⟩;obtain⟨B,NU⟩:∃B,D.t.B=B:=⟨_,rfl⟩;have lv:(H++[ae.own (bj D.b D.t u v)]).length=H.length+1:=by simp
  have c1:∀X,Bh [.c (.sl (H.length+1) 0 D.t.B.length D.t.B.length),.c v] (H++(ae.own (bj D.b D.t u v)::.vec 1 (D.t.B.flatMap dE)::X))=some (.c (.b true)):=λX=>by
   rw[PO (L:=D.t.B) (M:=D.t.B) (D6 Al EI (by rw[gY];simp only[SP,SQ,ae.row,nj]) rfl (by rw[gY];rfl)) (rM ok.hy bv) lb lb];simp
  have c2:∀X,Bh [.c (.sl (H.length+2) 0 D.t.A.length D.t.A.length),.c u] (H++(ae.own (bj D.b D.t u v)::.vec 1 (D.t.B.flatMap dE)::.vec 1 (D.t.A.flatMap dE)::X))=some (.c (.b true)):=λX=>by
   rw[PO (L:=D.t.A) (M:=D.t.A) (D6 Al EI (by rw[gY];simp only[SP,SQ,ae.row,nj]) rfl (by rw[gY];rfl)) (rM ok.hx bu) la la];simp
  unfold LD;apply ik (v:=.c (.b true)) (H1:=H++[.own (bj D.b D.t u v),.vec 1 (D.t.B.flatMap dE),.vec 1 (D.t.A.flatMap dE)]) Tryz.func47 rfl Tryz.results47 Tryz.ntmps47 (by simp)
  .intro _ hH;have aj:dk (H++[.own (bj D.b D.t u v)])=true:=td hH (by
 simp only[xm,forall_eq];show((Sc.i D.b.n::(aT D.b.c++(aS D.b.k++aU D.t u v))).all _)=true;rw[bG,adq (Sc.gJ bu (by simp)) (Sc.gJ bv (by simp))];rfl);unfold bj at b2 g1 c1 c2 aj|-;simp only[go_sem,seval,l,oo];refine eY 10 (λi=>([(0,.c (.p D.id 0 0)),(3,.c (.p H.length 0 0)),(5,.c (.i ((i:Int)-1)))],H++[.own (.i D.b.n::(aT D.b.c++(aS D.b.k++aU D.t u v)))])) (Wk.fq (by simp[Am.get])) λi hi=>?_;by_cases aL:i<10
   .have e0:(i:Int)-1<9:=ω
    have e1:az ((i:Int)-1+1)=((i+1:Nat):Int)-1:=by rw[aq ω ω];omega
    simp only[go_sem,seval,e0,e1,l,tt,b1,b2];(repeat' first|apply cn|(intro c;exact absurd c ω)|(intro _;kernel_rfl)|kernel_rfl);exact⟨i+1,ω,ω,Wk.fq (by simp[Am.get])⟩
   .obtain rfl:i=10:=ω
    simp only[go_sem,seval,l,b3,b4,b5,g0,g2,g3,c1,c2];(repeat' first|apply cn|exact qT (nB _) κ|(intro c;exact absurd c ω)|(intro _;kernel_rfl)|kernel_rfl);exact aN
  .simp
  .intro D' u' v' h1 _ o2 he;simp only[cK,AV.c.injEq,AV.g.injEq,Sc.p.injEq,and_true]at he;exact⟨rfl,_,rfl⟩
 obtain⟨w,H1,h1,_,h2⟩:=this;obtain⟨rfl,X,rfl⟩:=h2 D u v hB hb ok rfl;exact⟨X,h1⟩
end
variable {m:Int}
section
theorem auu{D:Bd}(h:jK D.b.k)(i:Int)(q:Aq):jK (dj D i q).k:=by
 have hM:jK (m9 D q).k:=by
  unfold m9 og o0;repeat' split
  all_goals first
 |exact h|exact h.read _|exact h.write _ _|exact h.vG _ _
 unfold dj;split
 .exact hM.vG _ _
 .exact h
theorem akF(D:Bd)(i:Int)(q:Aq):vZ D.t (dF D i q):=by
 have r:∀o,vZ D.t (fC D.t o).1:=λo=>G1 (t:=D.t) (kd:=0) (off:=o) (b:=0) ⟨δ,δ⟩;have w:∀o,vZ D.t (fQ D.t o (lE q.d)).1:=λo=>G1 (t:=D.t) (kd:=1) (off:=o) (Gg q.d);have n:vZ D.t (oI D.t (lE q.d)).1:=G1 (t:=D.t) (kd:=2) (off:=0#64) (Gg q.d);unfold dF jh lU lV;repeat' split
 all_goals first
 |exact Ns _|exact r _|exact w _|exact n
structure Dw where
 h:Int
 q:Aq
 hr:rY q.r
structure GH(H:AH)(o:List Sc)(K:AH)(n:Nat)(D:Bd)(u v:Sc):Prop where
 bi:BI K D
 id:D.id=H.length+2
 pid:D.pid=H.length+1
 bs:mg D.b
 rp:jd K D.t u v
 bu:u.aj K.length=true
 bv:v.aj K.length=true
 fF:∀j,j<H.length->hg K j=hg H j
 ob:hg K H.length=.own o
 orf:hg K (H.length+3)=ae.own (bj D.b D.t u v)nx:∀i,aW D.x=some i->H.length+4<=i
 ny:∀i,aW D.y=some i->H.length+4<=i
 nu:∀i,aW u=some i->H.length+4<=i/\aW D.x≠some i/\aW D.y≠some i
 nv:∀i,aW v=some i->H.length+4<=i/\aW D.x≠some i/\aW D.y≠some i
 a8:jg D.t.A=true
 b8:jg D.t.B=true
 la:D.t.A.length<=n
 lb:D.t.B.length<=n
variable {H K:AH}{o:List Sc}{n:Nat}{D:Bd}{u v:Sc}
theorem GH.len(I:GH H o K n D u v):H.length+4<=K.length:=by have:=dU (H:=K) (i:=H.length+3) (by rw[I.orf];rfl);omega
theorem GH.app(I:GH H o K n D u v)(X:AH):GH H o (K++X) n D u v:=by
 have l:=I.len;exact⟨I.bi.app X,I.id,I.pid,I.bs,Cu I.rp I.bu I.bv,Sc.gJ I.bu (by simp),Sc.gJ I.bv (by simp),λj hj=>by rw[mO ω];exact I.fF j hj,by rw[mO ω];exact I.ob,by rw[mO ω];exact I.orf,I.nx,I.ny,I.nu,I.nv,I.a8,I.b8,I.la,I.lb⟩
theorem Vq(h:jd K t u v)(hu:∀i,aW u=some i->hg K' i=hg K i)(hv:∀i,aW v=some i->hg K' i=hg K i):jd K' t u v:=⟨Mn h.hx hu,Mn h.hy hv,h.e,h.l,h.m,h.s,h.dl,h.dm,h.la,h.lb⟩
theorem aoY(H:AH)(o:List Sc)(hm:1<=m/\m<=8):GH H o (H++[ae.own o,ae.own (iy Cp),ae.own (fN (H.length+1) (bN m)),ae.own (bj (bN m) fJ .aA .aA)]) 0 ⟨H.length+2,H.length+1,bN m,fJ,.aA,.aA⟩ .aA .aA:=by
 have e:H++[ae.own o,ae.own (iy Cp),ae.own (fN (H.length+1) (bN m)),ae.own (bj (bN m) fJ .aA .aA)]=(H++[ae.own o])++[ae.own (iy Cp),ae.own (fN (H++[ae.own o]).length (bN m))]++[ae.own (bj (bN m) fJ .aA .aA)]:=by simp
 have b0:=(RQ (H++[ae.own o]) hm).app [ae.own (bj (bN m) fJ .aA .aA)];rw[<-e]at b0;have ed:dN (H++[ae.own o]) m=⟨H.length+2,H.length+1,bN m,fJ,.aA,.aA⟩:=by simp[dN]
 rw[ed]at b0;have kz:jK (bN m).k:=by
  refine⟨UW m,?_,?_,?_⟩
  .show 1<=(iE m).n;rw[UU hm];exact hm.1
  .intro j hj h1;have:(iE m).w=0#32:=by unfold iE;split<;>rfl
   have h1:(iE m).w.getLsbD j=true:=h1;rw[this]at h1;simp at h1
  .intro c;have:(iE m).e=bE 16 0#32:=by unfold iE;split<;>rfl
   show((iE m).e.getD c 0#32).getLsbD 0=false;rw[this,b9,List.getElem?_replicate];split<;>simp
 refine⟨b0,rfl,rfl,⟨Yr hm,kz⟩,(show jd _ fJ .aA .aA from⟨rfl,rfl,δ,δ,δ,δ,δ,δ,δ,δ⟩),rfl,rfl,λj hj=>mO hj,by rw[me];rfl,by rw[gY];rfl,λi h=>by simp[aW]at h,λi h=>by simp[aW]at h,λi h=>by simp[aW]at h,λi h=>by simp[aW]at h,rfl,rfl,aC _,aC _⟩
end
section
variable {H K:AH}{o:List Sc}{n:Nat}{D:Bd}{u v:Sc}
theorem BI.stay(h:BI K D)(hk:∀j,j<K.length->hg K' j=hg K j):BI K' D:=⟨by rw[hk _ h.aD];exact h.ho,h.ok,OU h.pi (hk _ h.KH) (λi hi=>hk i (qi h.pi.hx hi).1) (λi hi=>hk i (qi h.pi.hy hi).1)⟩
def yG(n:Nat)(D:Bd):Bd:=⟨n+3,n,D.b,D.t,.sl (n+1) 0 D.t.A.length D.t.A.length,.sl (n+2) 0 D.t.B.length D.t.B.length⟩
theorem aiW(K:AH)(h:mZ D.b):BI (K++(EA K.length D.t++[ae.own (fN K.length D.b)])) (yG K.length D):=by
 refine⟨?_,h,?_,.inr ⟨K.length+1,rfl,?_⟩,.inr ⟨K.length+2,rfl,?_⟩,λi h1 h2=>?_⟩
 .show hg _ (K.length+3)=_;rw[gY];rfl
 .show hg _ K.length=_;rw[me];rfl
 .rw[gY];rfl
 .rw[gY];rfl
 .simp only[yG,aW,ar]at h1 h2;omega
open Classical in theorem axP(C D:Bd):yA C D=Cr D.b D.t C.b C.t:=by
 unfold yA Cr;rw[axO];by_cases e:C.b=D.b
 .rw[decide_eq_true e,decide_eq_true e.symm]
 .rw[decide_eq_false e,decide_eq_false (λh=>e h.symm)]
theorem ahD{C:Bd}(hb:C.b=D.b)(ht:C.t=D.t):yA C D=true:=by
 unfold yA;rw[hb,ht,axQ];simp
end
section
theorem O4{b:Bs}(h:mg b)(t:Pt)(u v:Sc):(bj b t u v).length=687:=by
 have:=(h.gq t u v).l;simp only[bj,cZ,this]
theorem H3{v:Sc}(b:Bs)(t:Pt)(hu:Sc.one u=true)(hv:Sc.one v=true):(bj b t u v).all Sc.one=true:=by
 unfold bj;rw[bG,kQ hu hv];rfl
end
def T1(x y:Int):Bool:=decide (x<y)
def Y7(A:List Int):List Sc:=(jY A).map gI++bE (A.length-(jY A).length) (gI 0)
def EB(H:AH)(x:Sc)(A:List Int):Sc×AH:=if(jY A).length=A.length then(x,H)else match x with|.sl id o v _=>(.sl id o v (jY A).length,H.set id (.vec 1 (Y7 A)))|x=>(x,H)
def W9(a b:BitVec 64)(c s st:Int):List Int:=(mh a b c s).map λp=>ayE p.a st
def aes(A:List Int):List Int:=A.foldl (anq T1) []
variable {op:Int}
theorem anA:(tM op=2)=(qv op=true):=by
 apply propext
 have k:qv op=true->gz op=7:=by rw[JB];unfold qv;repeat' split
                                all_goals simp
                                all_goals omega
 unfold tM;by_cases h:gz op=7
 .rw[if_pos h];split
  .simp_all
  .simp_all;split<;>simp
 .rw[if_neg h];simp;cases e:qv op
  .rfl
  .exact(h (k e)).elim
theorem anB:(tM op=3)=(qG op=true):=by
 apply propext
 have k:qG op=true->gz op=7/\qv op=false:=by rw[JB];unfold qG qv;repeat' split
                                             all_goals simp
                                             all_goals omega
 unfold tM;by_cases h:gz op=7
 .rw[if_pos h];split
  .rename_i h1;simp;cases e:qG op
   .rfl
   .have:=(k e).2;simp_all
  .split<;>simp_all
 .rw[if_neg h];simp;cases e:qG op
  .rfl
  .exact(h (k e).1).elim
theorem dq{p:Prop}[Decidable p]{q:Bool}(h:p=(q=true)):decide p=q:=by cases q<;>simp_all
def aBD(args:List AV)(H:AH):Option (AV×AH):=match args with
 |[.c x,.g (.i k::.u a::.u b::.i c::.i s::.i op::.u d::.u o::.b lv::r)]=>if rY r then match x with
 |.dt=>some (.c .aA,H)|x=>match shQ H x with
 |some z=>if pL z.iT.n k a b c s op=true then some (.c (.sl (H.length+1) 0 (W9 a b c s z.t).length (jY (jP T1 (W9 a b c s z.t))).length),H++[.dead,.vec 1 (Y7 (jP T1 (W9 a b c s z.t)))])else some (.c .aA,H)|none=>none else none|_=>none
def aBB(args:List AV):Option AV:=match args with|[.g [.i h,.i t,.i n,.i b]]=>some (.c (.b (FN h t n b)))|_=>none
def Jc:List Sc:=(bE 8 (Sc.b false))++(bE 8 (Sc.u 0#64))
def F7(args:List AV)(H:AH):Option (AV×AH):=match args with|[.g [.i h,.i t,.i n,.i b]]=>if 1<=n/\n<=4096 then some (.g (.i h::.i t::.i n::.i b::.sl (H.length+3) 0 (64*n.toNat) (64*n.toNat)::Jc),H++[.dead,.dead,.dead,.vec 1 (bE (64*n.toNat) (.k .u8 0))])else none|_=>none
theorem aou(args:List AV)(H:AH)(v:AV)(H1:AH)(h:F7 args H=some (v,H1)):H.length<=H1.length:=by
 unfold F7 at h;repeat' split at h
 all_goals simp at h
 rw[<-h.2];simp
def F5(args:List AV)(H:AH):Option (AV×AH):=match args with|[.c (.i n)]=>if 1<=n/\n<=4096 then some (.g [.sl (H.length+1) 0 (64*n.toNat) (64*n.toNat)],H++[.dead,.vec 1 (bE (64*n.toNat) (.k .u8 0))])else none|_=>none
variable {H:AH}
theorem axc(h:1<=n/\n<=4096):F5 [.c (.i n)] H=some (.g [.sl (H.length+1) 0 (64*n.toNat) (64*n.toNat)],H++[.dead,.vec 1 (bE (64*n.toNat) (.k .u8 0))]):=by simp only[F5];rw[if_pos h]
theorem aor(args:List AV)(H:AH)(v:AV)(H1:AH)(h:F5 args H=some (v,H1)):H.length<=H1.length:=by
 unfold F5 at h;repeat' split at h
 all_goals simp at h
 rw[<-h.2];simp
theorem au3{n:Nat}{s:Sc}:(bE n [s]).flatten=bE n s:=by induction n with|zero=>rfl|succ n ih=>rw[xn,List.flatten_cons,ih,xn];rfl
theorem ady{n m:Nat}{s:Sc}(h:s.num=true):(bE n s).all (Sc.aj m)=true:=by rw[cD];intro x hx;rw[List.eq_of_mem_replicate hx];exact Sc.abx h m
theorem asc:aZ Tryz.prog 64 F5:=by
 refine fU (s:=F5) tn Tryz.func64 rfl Tryz.results64 Tryz.ntmps64 aor ?_;intro args H v H1 h bM hH;unfold F5 at h;split at h
 .rename_i n;split at h
  .rename_i hn;simp only[ar,bD]at h;obtain⟨rfl,rfl⟩:=h;refine⟨by simp,?_⟩;obtain⟨m,rfl⟩:=kV (show 0<=n by omega);have e1:az (64*(m:Int))=((64*m:Nat):Int):=by rw[aq ω ω];omega
   have e2:((64*m:Nat):Int)<=1048576:=ω
   have e3:(0:Int)<=((64*m:Nat):Int):=ω
   have bb:dk (H++[.dead,.vec 1 (bE (64*m) (.k .u8 0))])=true:=td hH (by simp only[uj,Ji,or_false,forall_eq_or_imp,forall_eq];exact⟨rfl,ady rfl⟩);simp only[go_sem,seval,e1,e2,e3,au3,aO];exact cV (by simp[AV.aj,Sc.aj]) (D8 _ ⟨.inl rfl,.inr rfl,trivial⟩) bb (by simp)
  .simp at h
 .simp at h
theorem axh{t b:Int}(hn:1<=n/\n<=4096):F7 [.g [.i h,.i t,.i n,.i b]] H=some (.g (.i h::.i t::.i n::.i b::.sl (H.length+3) 0 (64*n.toNat) (64*n.toNat)::Jc),H++[.dead,.dead,.dead,.vec 1 (bE (64*n.toNat) (.k .u8 0))]):=by simp only[F7];rw[if_pos hn]
theorem ash:aZ Tryz.prog 24 F7:=by
 refine fU (s:=F7) (tp asc tn) Tryz.func24 rfl Tryz.results24 Tryz.ntmps24 aou ?_;intro args H v H1 h bM hH;unfold F7 at h;split at h
 .rename_i h0 t n b;split at h
  .rename_i hn;simp only[ar,bD]at h;obtain⟨rfl,rfl⟩:=h;refine⟨by simp,?_⟩;have q:=λH=>axc (H:=H) hn;have bb:dk (H++[.dead,.dead,.dead,.vec 1 (bE (64*n.toNat) (.k .u8 0))])=true:=td hH (by simp only[uj,Ji,or_false,forall_eq_or_imp,forall_eq];exact⟨rfl,rfl,rfl,ady rfl⟩);simp only[go_sem,seval,q];exact⟨by repeat' first|apply cn|(intro _;kernel_rfl)|kernel_rfl,cV (v:=.g (.i h0::.i t::.i n::.i b::.sl (H.length+3) 0 (64*n.toNat) (64*n.toNat)::Jc)) (by simp only[AV.aj,bG,Sc.aj];simp[Jc,Sc.aj]) (D8 _ ⟨.inl rfl,.inl rfl,.inl rfl,.inr rfl,trivial⟩) bb (by simp)⟩
  .simp at h
 .simp at h
def nF(k op:Int):Int:=if k=2\/k=3 then 0 else if iO k op=0 then-1 else iO k op
theorem Xb(h:67<=op/\op<=88):jN op=4\/jN op=8:=by
 obtain⟨k,rfl⟩:=kV (show 0<=op by omega);have:∀k:Nat,k<89->67<=k->(jN k=4\/jN k=8):=by decide+kernel
 exact this k ω ω
theorem aoS(h:qv op=true):67<=op/\op<=88:=by
 unfold qv at h;repeat' split at h
 all_goals simp at h
 all_goals omega
theorem ajm(h:qG op=true):67<=op/\op<=88:=by
 unfold qG at h;repeat' split at h
 all_goals simp at h
 all_goals omega
theorem anx(h:qs op=true):67<=op/\op<=88:=by rw[Ou]at h;omega
def WA(args:List AV):Option AV:=match args with|[.g (.i k::.u a::.u b::.i c::.i s::.i op::.u d::.u o::.b lv::r)]=>if r.length=10/\r.all Sc.pf=true/\r.all Sc.one=true then some (.c (.i (nF k op)))else none|_=>none
theorem wX{k a b c s op d o lv r}:WA [.g (.i k::.u a::.u b::.i c::.i s::.i op::.u d::.u o::.b lv::r)]=if r.length=10/\r.all Sc.pf=true/\r.all Sc.one=true then some (.c (.i (nF k op)))else none:=rfl
theorem asP:cE Tryz.prog 74 WA:=by
 refine cN (tu ab9 (tu aca tn)) Tryz.func74 rfl Tryz.results74 Tryz.ntmps74 ?_;intro args v h;unfold WA at h;split at h
 .rename_i k a b c s op d o lv r;split at h
  .rename_i hc;simp only[ar]at h;subst h;have pr:=hc.2.1;have lr:=hc.1;refine⟨by simp,by first|rfl|simp only[bG,dO,AV.pf,Sc.pf,cX, *],by first|rfl|simp only[bG,dO,AV.pf,Sc.pf,cX, *],?_⟩;have rt:r.take 10=r:=bR ω;have ro:=hc.2.2;by_cases h2:k=2
   .subst h2;simp only[go_sem,seval,lr,nF]
   by_cases h3:k=3
   .subst h3;simp only[go_sem,seval,lr,nF]
   have e:nF k op=if iO k op=0 then-1 else iO k op:=by unfold nF;rw[if_neg ω]
   rw[e];by_cases h1:k=1
   .subst h1;simp only[go_sem,seval,lr,iO]
   by_cases h7:k=7
   .subst h7;simp only[go_sem,seval,lr,iO]
   by_cases h8:k=8
   .subst h8;simp only[go_sem,seval,lr,iO]
   by_cases h4:k=4
   .subst h4;have i1:(tM op=1)=(qs op=true):=Tr;cases hb:qs op
    .simp only[go_sem,seval,zu,zw,lr,iO,i1,hb]
    .have z:=Xb (anx hb);have z0:¬jN op=0:=ω
     simp only[go_sem,seval,zu,zw,lr,iO,i1,hb,z0]
   by_cases h5:k=5
   .subst h5;have i1:(tM op=2)=(qv op=true):=anA;cases hb:qv op
    .simp only[go_sem,seval,zu,zw,lr,iO,i1,hb]
    .have z:=Xb (aoS hb);have z0:¬jN op=0:=ω
     simp only[go_sem,seval,zu,zw,lr,iO,i1,hb,z0]
   by_cases h6:k=6
   .subst h6;have i1:(tM op=3)=(qG op=true):=anB;cases hb:qG op
    .simp only[go_sem,seval,zu,zw,lr,iO,i1,hb]
    .have z:=Xb (ajm hb);have z0:¬jN op=0:=ω
     simp only[go_sem,seval,zu,zw,lr,iO,i1,hb,z0]
   .have z:iO k op=0:=by unfold iO;rw[if_neg h1,if_neg h7,if_neg h8,if_neg h4,if_neg h5,if_neg h6]
    simp only[go_sem,seval,lr,z,h1,h2,h3,h4,h5,h6,h7,h8]
  .simp at h
 .simp at h
def rq(N:Nat)(x:BitVec 64)(n:Int):Bool:=decide (1<=n)&&(decide (2147483648<=x.toNat)&&(decide (iN x<N)&&decide (n<=((N-iN x:Nat):Int))))
theorem Sw{n:Nat}{x:BitVec 64}:rq (64*n) x m=hasB n x m:=rfl
def L4(args:List AV)(H:AH):Option AV:=match args with|[.g [.sl id off v N],.c (.u a),.c (.i n)]=>if N<=262144/\ga n then some (.c (.b (rq N a n)))else none|_=>none
theorem uM{H:AH}{id off v N:Nat}{a:BitVec 64}{n:Int}(h:N<=262144/\ga n):L4 [.g [.sl id off v N],.c (.u a),.c (.i n)] H=some (.c (.b (rq N a n))):=by simp only[L4];rw[if_pos h]
theorem asC:aZ Tryz.prog 76 (λargs H=>(L4 args H).map λv=>(v,H)):=by
 refine iR (s:=L4) tn Tryz.func76 rfl Tryz.results76 Tryz.ntmps76 ?_;intro args H v h bM hH;unfold L4 at h;split at h
 .rename_i id off v N a n;split at h
  .rename_i hn;obtain⟨hN,i1,i2⟩:=hn;simp only[ar]at h;subst h;refine⟨by simp,rfl,?_⟩;by_cases h1:n<1
   .have e:rq N a n=false:=by unfold rq;rw[decide_eq_false ω];rfl
    simp only[go_sem,seval,h1,e];exact aB _ _
   have eb:(a<2147483648#64)=(a.toNat<2147483648):=by rw[mY];rfl
   by_cases h2:a.toNat<2147483648
   .have e:rq N a n=false:=by unfold rq;rw[decide_eq_false (show¬2147483648<=a.toNat by omega)];simp
    simp only[go_sem,seval,h1,eb,h2,e];exact aB _ _
   have h3:=ahK (a:=a) ω;have e0:(aw 64 (N:Int)).toNat=N:=HQ ω;have e1:(aw 64 (N:Int)<=a-2147483648#64)=(N<=iN a):=by rw[rT,h3,e0]
   by_cases h4:N<=iN a
   .have e:rq N a n=false:=by unfold rq;rw[decide_eq_false (show¬iN a<N by omega)];simp
    simp only[go_sem,seval,h1,eb,h2,e1,h4,e];exact aB _ _
   .have e2:(a-2147483648#64).toInt=(iN a:Int):=by rw[xe,h3,if_pos ω]
    have e3:az ((N:Int)-(iN a:Int))=((N-iN a:Nat):Int):=by rw[aq ω ω];omega
    have e:rq N a n=decide (n<=((N-iN a:Nat):Int)):=by unfold rq;rw[decide_eq_true ω,decide_eq_true ω,decide_eq_true (show iN a<N by omega)];simp
    simp only[go_sem,seval,h1,eb,h2,e1,h4,e2,e3,e];exact aB _ _
  .simp at h
 .simp at h
theorem auj{n:Nat}(hn:n<=4096){p:Pc}(h1:1<=p.n)(h8:p.n<=8)(hl:∀j:Int,0<=j->j<p.n->(p.a+aw 64 j)/64#64=p.a/64#64):hasB n p.a p.n=true↔∀j:Int,0<=j->j<p.n->rq (64*n) (p.a+aw 64 j) 1=true:=by
 constructor
 .intro h j j0 j1;have e:=xS hn h j0 j1;have h':=h;rw[qM]at h';have e0:(aw 64 j).toNat=j.toNat:=by rw[kU];omega
  have e2:(p.a+aw 64 j).toNat=p.a.toNat+j.toNat:=by
   rw[vJ,e0];have:=p.a.isLt;rw[wL]at h';omega
  rw[Sw,qM,e,e2];omega
 .intro h;have z:=h 0 ω ω;have z1:p.a+aw 64 0=p.a:=BitVec.add_zero _;rw[z1,Sw,qM]at z;have y:=h (p.n-1) ω ω;rw[Sw,qM]at y;have e0:(aw 64 (p.n-1)).toNat=(p.n-1).toNat:=by rw[kU];omega
  have z':=z;rw[wL]at z';have e2:(p.a+aw 64 (p.n-1)).toNat=p.a.toNat+(p.n-1).toNat:=by
   rw[vJ,e0];have:=p.a.isLt;omega
  rw[wL,e2]at y;rw[qM];rw[wL]at z|-;omega
theorem agC{n:Nat}{B:Int->BitVec 64}{l:List Pc}(hn:n<=4096):∀{m:Int},0<=m->xH B l m->((l.all λp=>hasB n p.a p.n)=true↔∀i:Int,m<=i->i<m+jf l->rq (64*n) (B i) 1=true):=by induction l with
 |nil=>intro m _ _;simp only[dO,jf];exact⟨λ_ i h1 h2=>ω,λ_=>trivial⟩|cons p l ih=>
   intro m h0 h;obtain⟨a1,a2,a3,a4,a6⟩:=h;have ih:=ih ω a6;have t0:=Qd a6 0;rw[List.drop_zero]at t0;have pb:=auj hn a2 ω (λj j0 j1=>(a4 j j0 j1).2);rw[bG,aQ,ih,pb];simp only[jf];constructor
   .rintro⟨h1,h2⟩i i1 i2;by_cases c:i<m+p.n
    .have e:=(a4 (i-m) ω ω).1;rw[show m+(i-m)=i by omega]at e;rw[e];exact h1 _ ω ω
    .exact h2 i ω ω
   .intro h;refine⟨λj j0 j1=>?_,λi i1 i2=>h i ω ω⟩;have e:=(a4 j j0 j1).1;rw[<-e];exact h _ ω ω
theorem ao5{n:Nat}{b:BitVec 64}{c:Int}(hn:n<=4096)(h:dL c s=true):((mh a b c s).all λp=>hasB n p.a p.n)=true↔∀i:Int,0<=i->i<s->rq (64*n) (ek a b c i) 1=true:=by
 have:=agC hn (zO 0) (Hd (a:=a) (b:=b) h);rw[(Hf (a:=a) (b:=b) h).2.1,Int.zero_add]at this;exact this
def NG(k:Int)(a:BitVec 64)(c s op:Int):Bool:=if nF k op<0 then false else if nF k op=0 then(decide (s=1)||(decide (s=2)||(decide (s=4)||decide (s=8))))&&(decide (0<=c)&&decide (c<s))else decide (s=nF k op)&&(decide (c=0)&&decide (a%aw 64 (nF k op)=0#64))
theorem alV{k c:Int}:NG k a c s op=mL k a c s op:=by
 have zr:=P9 k op;unfold NG mL nF;by_cases h:k=2\/k=3
 .rw[if_pos h,if_pos h,if_neg δ,if_pos rfl];rw[Bool.eq_iff_iff];simp only[UM,dL,aQ,fR,decide_eq_true_eq];omega
 .rw[if_neg h,if_neg h];by_cases hz:iO k op=0
  .rw[if_pos hz,if_pos δ,hz];rfl
  .rw[if_neg hz,if_neg ω,if_neg hz,decide_eq_true hz,gv]
def Qb(tb:List Sc):Prop:=tb.length=16/\tb.all Sc.pf=true/\tb.all Sc.one=true
def DU(args:List AV)(H:AH):Option AV:=match args with|[.g (.i h::.i t::.i n'::.i b'::.sl id off v N::tb),.g (.i k::.u a::.u b::.i c::.i s::.i op::.u d::.u o::.b lv::r)]=>open Classical in if rY r/\ga s/\Qb tb/\∃n,N=64*n/\n<=4096 then some (.c (.b (pL (N/64) k a b c s op)))else none|_=>none
theorem aeg{H:AH}{tb:List Sc}(ht:Qb tb){h t n' b':Int}{id off v n:Nat}{k:Int}{a b:BitVec 64}{c s op:Int}{d o:BitVec 64}{lv:Bool}{r:List Sc}(hr:rY r)(hs:ga s)(hn:n<=4096):DU [.g (.i h::.i t::.i n'::.i b'::.sl id off v (64*n)::tb),.g (.i k::.u a::.u b::.i c::.i s::.i op::.u d::.u o::.b lv::r)] H=some (.c (.b (pL n k a b c s op))):=by
 simp only[DU];rw[if_pos ⟨hr,hs,ht,n,rfl,hn⟩,Nat.mul_div_cancel_left _ δ]
theorem acd:aZ Tryz.prog 35 (λargs H=>(DU args H).map λv=>(v,H)):=by
 refine iR (s:=DU) (tu asP (tu UC (tu UF (tq asC tn)))) Tryz.func35 rfl Tryz.results35 Tryz.ntmps35 ?_;intro args H v h bM hH;unfold DU at h;split at h
 .rename_i h0 t n' b' id off v N tb k a b c s op d o lv r;split at h
  .rename_i hc;obtain⟨⟨lr,pr,ro⟩,hs,ht,n,rfl,hn⟩:=hc;rw[Nat.mul_div_cancel_left _ δ]at h;simp only[ar]at h;subst h;have rt:r.take 10=r:=bR ω;obtain⟨tl,tp,to⟩:=ht;have tt:tb.take 16=tb:=bR ω;refine⟨by simp,rfl,?_⟩;have aD:id<H.length:=by simp only[bG,AV.aj,Sc.aj,aQ,decide_eq_true_eq]at bM;exact bM.1.2.2.2.2.1
   have eF:=alV (k:=k) (a:=a) (c:=c) (s:=s) (op:=op);have zn:¬nF k op=0->¬nF k op<0->(aw 64 (nF k op)=0#64)=False:=λh1 h2=>eq_false λe=>by
    have z1:=P9 k op;have z2:nF k op<=8:=by
     unfold nF;split
     .omega
     .split<;>omega
    have:=congrArg BitVec.toNat e;rw[kU]at this;have e0:(0#64).toNat=0:=rfl;rw[e0]at this;omega
   cases hf:mL k a c s op
   .have e:pL n k a b c s op=false:=by unfold pL;rw[hf];rfl
    rw[e];rw[hf]at eF;unfold NG at eF;by_cases h1:nF k op<0
    .simp only[go_sem,seval,wX,uK,uL,uM,lr,pr,ro,rt,tl,to,h1];exact aB _ _
    by_cases h2:nF k op=0
    .rw[if_neg h1,if_pos h2]at eF;by_cases hx:s=1\/s=2\/s=4\/s=8
     .have x:((s=1)=True/\True)\/((s=1)=False/\(s=2)=True)\/((s=1)=False/\(s=2)=False/\(s=4)=True)\/((s=1)=False/\(s=2)=False/\(s=4)=False/\(s=8)=True):=by
       rcases hx with h|h|h|h
       .exact .inl ⟨eq_true h,trivial⟩
       .exact .inr (.inl ⟨eq_false ω,eq_true h⟩)
       .exact .inr (.inr (.inl ⟨eq_false ω,eq_false ω,eq_true h⟩))
       .exact .inr (.inr (.inr ⟨eq_false ω,eq_false ω,eq_false ω,eq_true h⟩))
      by_cases c0:c<0
      .rcases x with x|x|x|x;all_goals simp only[go_sem,seval,wX,uK,uL,uM,lr,pr,ro,rt,tl,to,h1,h2,x,c0]
       all_goals exact aB _ _
      .have c1:s<=c:=by
        rcases hx with h|h|h|h;all_goals(rw[h]at eF|-;simp at eF;omega)
       rcases x with x|x|x|x;all_goals simp only[go_sem,seval,wX,uK,uL,uM,lr,pr,ro,rt,tl,to,h1,h2,x,c0,c1]
       all_goals exact aB _ _
     .have y1:¬s=1:=λh=>hx (.inl h);have y2:¬s=2:=λh=>hx (.inr (.inl h));have y4:¬s=4:=λh=>hx (.inr (.inr (.inl h)));have y8:¬s=8:=λh=>hx (.inr (.inr (.inr h)));simp only[go_sem,seval,wX,uK,uL,uM,lr,pr,ro,rt,tl,to,h1,h2,y1,y2,y4,y8];exact aB _ _
    .rw[if_neg h1,if_neg h2]at eF;have h3:0<nF k op:=ω
     have z:=zn h2 h1;by_cases x1:s=nF k op
     .by_cases x2:c=0
      .have x3:¬a%aw 64 (nF k op)=0#64:=by intro e;rw[decide_eq_true x1,decide_eq_true x2,decide_eq_true e]at eF;simp at eF
       have Mu:=eq_true x1;simp only[go_sem,seval,wX,uK,uL,uM,lr,pr,ro,rt,tl,to,h1,h2,h3,z,Mu,x2,x3];exact aB _ _
      .have Mu:=eq_true x1;simp only[go_sem,seval,wX,uK,uL,uM,lr,pr,ro,rt,tl,to,h1,h2,h3,z,Mu,x2];exact aB _ _
     .simp only[go_sem,seval,wX,uK,uL,uM,lr,pr,ro,rt,tl,to,h1,h2,h3,z,x1];exact aB _ _
   .have hm:=Dm (b:=b) hf;have hs8:1<=s/\s<=8/\0<=c/\c<s:=by simpa[dL]using hm
    have e:pL n k a b c s op=(mh a b c s).all λp=>hasB n p.a p.n:=by unfold pL;rw[hf];rfl
    rw[e];have mb:=ao5 (a:=a) (b:=b) hn hm;have bS:dk (H++[.own (.i h0::.i t::.i n'::.i b'::.sl id off v (64*n)::tb),.own (.i k::.u a::.u b::.i c::.i s::.i op::.u d::.u o::.b lv::r),.own [.u a,.u b,.i c,.i s]])=true:=td hH (by
 simp only[uj,Ji,or_false,forall_eq_or_imp,forall_eq,ae.cT,bG,Sc.aj,gv,aQ,decide_eq_true_eq,cF,cZ,dY];exact⟨⟨ω,Co _ tp⟩,Co _ pr,rfl⟩);generalize((mh a b c s).all λp=>hasB n p.a p.n)=G at mb;rw[hf]at eF;unfold NG at eF;have h1:¬nF k op<0:=λh=>by rw[if_pos h]at eF;simp at eF
    by_cases h2:nF k op=0
    .rw[if_neg h1,if_pos h2]at eF;have c0:¬c<0:=ω
     have c1:¬s<=c:=ω
     simp only[aQ,fR,decide_eq_true_eq]at eF;have x:((s=1)=True/\True)\/((s=1)=False/\(s=2)=True)\/((s=1)=False/\(s=2)=False/\(s=4)=True)\/((s=1)=False/\(s=2)=False/\(s=4)=False/\(s=8)=True):=by
      rcases eF.1 with h|h|h|h
      .exact .inl ⟨eq_true h,trivial⟩
      .exact .inr (.inl ⟨eq_false ω,eq_true h⟩)
      .exact .inr (.inr (.inl ⟨eq_false ω,eq_false ω,eq_true h⟩))
      .exact .inr (.inr (.inr ⟨eq_false ω,eq_false ω,eq_false ω,eq_true h⟩))
     rcases x with x|x|x|x;all_goals simp only[go_sem,seval,wX,uK,uL,uM,lr,pr,ro,rt,tl,to,h1,h2,x,c0,c1]
     all_goals
      rw[rk];refine⟨{j:Nat//(j:Int)<=s/\∀i:Nat,i<j->rq (64*n) (ek a b c i) 1=true},λj=>([(2,.c (.p H.length 0 0)),(3,.c (.p (H.length+1) 0 0)),(6,.c (.p (H.length+2) 0 0)),(7,.c (.i j.1))],H++[.own (.i h0::.i t::.i n'::.i b'::.sl id off v (64*n)::tb),.own (.i k::.u a::.u b::.i c::.i s::.i op::.u d::.u o::.b lv::r),.own [.u a,.u b,.i c,.i s]]),λj=>s.toNat-j.1,⟨0,ω,λi hi=>absurd hi (MF _)⟩,?_,?_⟩
      .exact Wk.wk (by simp[lo]) (by simp[Am.get]) (by simp[AV.aj,Sc.aj]) (aE _) bS
      .rintro⟨j,hj,aR⟩;by_cases aL:(j:Int)<s
       .have e2:az ((j:Int)+1)=((j+1:Nat):Int):=by rw[aq ω ω];omega
        have e3:0<=c/\c<=8/\0<=(j:Int)/\(j:Int)<=8:=ω
        have q:=λH=>uM (H:=H) (id:=id) (off:=off) (v:=v) (N:=64*n) (a:=ek a b c j) (n:=1) ⟨ω,ω,ω⟩;cases hb:rq (64*n) (ek a b c j) 1
        .have g:G=false:=by
          cases e:G
          .rfl
          .rw[e]at mb;have:=mb.1 rfl j ω aL;rw[hb]at this;simp at this
         simp only[go_sem,seval,wX,uK,uL,uM,lr,pr,ro,rt,tl,to,aL,e3,q,hb,g];exact aB _ _
        .simp only[go_sem,seval,wX,uK,uL,uM,lr,pr,ro,rt,tl,to,aL,e2,e3,q,hb];exact⟨⟨j+1,ω,λi hi=>by
          rcases cU i j with h|h
          .exact aR i h
          .obtain rfl:i=j:=ω
           exact hb⟩,by simp only;omega,Wk.wk (by simp[lo]) (by simp[Am.get]) (by simp[AV.aj,Sc.aj]) (aE _) bS⟩
       .have g:G=true:=mb.2 λi i0 i1=>by
         obtain⟨i,rfl⟩:=kV i0;exact aR i ω
        simp only[go_sem,seval,lr,ro,rt,tl,to,aL,g];exact aB _ _
    .rw[if_neg h1,if_neg h2]at eF;simp only[aQ,decide_eq_true_eq]at eF;obtain⟨x1,x2,x3⟩:=eF;have h3:0<nF k op:=ω
     have z:=zn h2 h1;have Mu:=eq_true x1;have x2':=eq_true x2;simp only[go_sem,seval,wX,uK,uL,uM,lr,pr,ro,rt,tl,to,h1,h2,h3,z,Mu,x2',x3];all_goals
      rw[rk];refine⟨{j:Nat//(j:Int)<=s/\∀i:Nat,i<j->rq (64*n) (ek a b c i) 1=true},λj=>([(2,.c (.p H.length 0 0)),(3,.c (.p (H.length+1) 0 0)),(6,.c (.p (H.length+2) 0 0)),(7,.c (.i j.1))],H++[.own (.i h0::.i t::.i n'::.i b'::.sl id off v (64*n)::tb),.own (.i k::.u a::.u b::.i c::.i s::.i op::.u d::.u o::.b lv::r),.own [.u a,.u b,.i c,.i s]]),λj=>s.toNat-j.1,⟨0,ω,λi hi=>absurd hi (MF _)⟩,?_,?_⟩
      .exact Wk.wk (by simp[lo]) (by simp[Am.get]) (by simp[AV.aj,Sc.aj]) (aE _) bS
      .rintro⟨j,hj,aR⟩;by_cases aL:(j:Int)<s
       .have e2:az ((j:Int)+1)=((j+1:Nat):Int):=by rw[aq ω ω];omega
        have e3:0<=c/\c<=8/\0<=(j:Int)/\(j:Int)<=8:=ω
        have q:=λH=>uM (H:=H) (id:=id) (off:=off) (v:=v) (N:=64*n) (a:=ek a b c j) (n:=1) ⟨ω,ω,ω⟩;cases hb:rq (64*n) (ek a b c j) 1
        .have g:G=false:=by
          cases e:G
          .rfl
          .rw[e]at mb;have:=mb.1 rfl j ω aL;rw[hb]at this;simp at this
         simp only[go_sem,seval,wX,uK,uL,uM,lr,pr,ro,rt,tl,to,aL,e3,q,hb,g];exact aB _ _
        .simp only[go_sem,seval,wX,uK,uL,uM,lr,pr,ro,rt,tl,to,aL,e2,e3,q,hb];exact⟨⟨j+1,ω,λi hi=>by
          rcases cU i j with h|h
          .exact aR i h
          .obtain rfl:i=j:=ω
           exact hb⟩,by simp only;omega,Wk.wk (by simp[lo]) (by simp[Am.get]) (by simp[AV.aj,Sc.aj]) (aE _) bS⟩
       .have g:G=true:=mb.2 λi i0 i1=>by
         obtain⟨i,rfl⟩:=kV i0;exact aR i ω
        simp only[go_sem,seval,lr,ro,rt,tl,to,aL,g];exact aB _ _
  .simp at h
 .simp at h
def Xu(R:List Sl)(l:BitVec 64):Nat->List Int|0=>[]|k+1=>if oE R k l=true then Xu R l k++[(k:Int)]else Xu R l k
def Xv(r:Option (List Sl))(l:BitVec 64):List Int:=match r with|some R=>Xu R l 8|none=>[]
def aBE(args:List AV)(H:AH):Option (AV×AH):=match args with
 |[.c x,.c (.u l)]=>match ayK H x with
   |some r=>some (.c (.sl H.length 0 (Xv r l).length (Xv r l).length),H++[.vec 1 ((Xv r l).map gI)])|none=>none
 |_=>none
def cC(R:List Sl):List Sc:=R.map (λx=>.b x.is)++R.map λx=>.u x.ln
variable {R:List Sl}
theorem rF(h:R.length=8):(cC R).length=16:=by simp[cC,h]
theorem FL{R:List Sl}:(cC R).all Sc.pf=true:=by
 unfold cC;rw[fH,uW,uW,aQ];exact⟨cD.2 λ_ _=>rfl,cD.2 λ_ _=>rfl⟩
theorem H6{n:Nat}:(cC R).all (Sc.aj n)=true:=by
 unfold cC;rw[fH,uW,uW,aQ];exact⟨cD.2 λ_ _=>rfl,cD.2 λ_ _=>rfl⟩
theorem zh{R:List Sl}:(cC R).all Sc.one=true:=by
 unfold cC;rw[fH,uW,uW,aQ];exact⟨cD.2 λ_ _=>rfl,cD.2 λ_ _=>rfl⟩
theorem H7{k:Nat}{x:Sl}(hR:R.length=8)(h:R[k]?=some x):(cC R).getD k .any=.b x.is/\(cC R).getD (8+k) .any=.u x.ln:=by
 have hk:k<8:=by
  rcases cU k 8 with h1|h1
  .exact h1
  .rw[jQ ω]at h;simp at h
 unfold cC;constructor
 .rw[b9,List.getElem?_append_left (by simp;omega),qf,h];rfl
 .rw[b9,List.getElem?_append_right (by simp;omega),s5,hR,show 8+k-8=k by omega,qf,h];rfl
theorem Vh{k:Nat}{q:Bool}(hR:R.length=8)(hk:k<8):wr (cC R) k [.b q]=(R.map (λx=>Sc.b x.is)).set k (.b q)++R.map λx=>Sc.u x.ln:=by
 rw[CC (by rw[rF hR];omega)];unfold cC;rw[List.set_append_left _ _ (by simp;omega)]
theorem Vi{R:List Sl}{k:Nat}{q:Bool}{l:BitVec 64}(hR:R.length=8)(hk:k<8):wr ((R.map (λx=>Sc.b x.is)).set k (.b q)++R.map λx=>Sc.u x.ln) (8+k) [.u l]=cC (R.set k ⟨q,l⟩):=by
 rw[CC (by simp;omega),List.set_append_right _ _ (by simp;omega)];simp only[js,s5,hR,show 8+k-8=k by omega];unfold cC;rw[CE,CE]
theorem O9{S:List Sl}(hR:R.length=8)(hS:S.length=8)(h:cC R=cC S):R=S:=by
 apply List.ext_getElem ω;intro i h1 h2;have a:=H7 hR (cM h1);have b:=H7 hS (cM h2);rw[h]at a;have e1:=a.1.symm.trans b.1;have e2:=a.2.symm.trans b.2;simp only[Sc.b.injEq]at e1;simp only[Sc.u.injEq]at e2;cases hx:R[i];cases hy:S[i];rw[hx,hy]at e1 e2;simp only at e1 e2;rw[e1,e2]
def AL(l:List Sc):Prop:=∃R:List Sl,R.length=8/\l=cC R
instance (l:List Sc):Decidable (AL l):=Classical.propDecidable _
def xZ(l:List Sc):List Sl:=if h:AL l then Classical.choose h else[]
theorem Ia(h:R.length=8):xZ (cC R)=R:=by
 have hx:AL (cC R):=⟨R,h,rfl⟩;unfold xZ;rw[dif_pos hx];exact(O9 h (Classical.choose_spec hx).1 (Classical.choose_spec hx).2).symm
theorem Tt(h:R.length=8):AL (cC R):=⟨R,h,rfl⟩
def PS(args:List AV):Option AV:=match args with|[.g l,.c (.i h),.c (.u x)]=>if AL l then some (.t [.g (cC (mV (xZ l) h ⟨true,x⟩)),.c (.b (wE h))])else none|_=>none
theorem axI{l h x}:PS [.g l,.c (.i h),.c (.u x)]=if AL l then some (.t [.g (cC (mV (xZ l) h ⟨true,x⟩)),.c (.b (wE h))])else none:=rfl
theorem ati:cE Tryz.prog 95 PS:=by
 refine cN tn Tryz.func95 rfl Tryz.results95 Tryz.ntmps95 ?_;intro args v h;unfold PS at h;split at h
 .rename_i l h x;split at h
  .rename_i hc;simp only[ar]at h;subst h;obtain⟨R,hR,rfl⟩:=hc;have pl:=@FL R;have p2:=@FL (mV R h ⟨true,x⟩);rw[Ia hR];refine⟨by simp,by first|rfl|simp only[bG,dO,AV.pf,Sc.pf,cX, *],by first|rfl|simp only[bG,dO,AV.pf,Sc.pf,cX, *],?_⟩;have lR:=rF hR;have tk:(cC R).take 16=cC R:=by rw[<-lR,s7]
   have o1:=@zh R;cases hi:wE h
   .have e:mV R h ⟨true,x⟩=R:=by unfold mV;rw[if_neg (by rw[hi];decide)]
    simp only[wE,Bool.and_eq_false_iff,decide_eq_false_iff_not]at hi;rw[e];by_cases h1:h<0
    .simp only[go_sem,seval,h1,lR,tk,o1];done
    .have h2:7<h:=ω
     simp only[go_sem,seval,h1,h2,lR,tk,o1];done
   .obtain⟨k,rfl,hk⟩:=aaG hi;have e:mV R k ⟨true,x⟩=R.set k ⟨true,x⟩:=by unfold mV;rw[if_pos hi];rfl
    have w1:=Vh (q:=true) hR hk;have w2:=Vi (q:=true) (l:=x) hR hk;have l2:((R.map (λx=>Sc.b x.is)).set k (.b true)++R.map λx=>Sc.u x.ln).length=16:=by simp[hR]
    have l3:=rF (R:=R.set k ⟨true,x⟩) (by simp[hR]);have Xh:(cC (R.set k ⟨true,x⟩)).take 16=cC (R.set k ⟨true,x⟩):=by rw[<-l3,s7]
    have o3:=@zh (R.set k ⟨true,x⟩);have h1:¬(k:Int)<0:=ω
    have h2:¬(7:Int)<k:=ω
    rw[e];(repeat(first|simp only[go_sem,seval,h1,h2,lR,w1,w2,l2,l3,Xh,o3,aO]|simp(disch:=omega)only[w0]));done
  .simp at h
 .simp at h
def PQ(args:List AV):Option AV:=match args with|[.g l,.c (.i h)]=>if AL l then some (.t [.g (cC (mV (xZ l) h z0)),.c (.b (Ab (xZ l) h).is)])else none|_=>none
theorem axG{l h}:PQ [.g l,.c (.i h)]=if AL l then some (.t [.g (cC (mV (xZ l) h z0)),.c (.b (Ab (xZ l) h).is)])else none:=rfl
theorem atg:cE Tryz.prog 96 PQ:=by
 refine cN tn Tryz.func96 rfl Tryz.results96 Tryz.ntmps96 ?_;intro args v h;unfold PQ at h;split at h
 .rename_i l h;split at h
  .rename_i hc;simp only[ar]at h;subst h;obtain⟨R,hR,rfl⟩:=hc;have pl:=@FL R;have p2:=@FL (mV R h z0);rw[Ia hR];refine⟨by simp only[cZ,dY];decide,by first|rfl|simp only[bG,dO,AV.pf,Sc.pf,cX, *],by first|rfl|simp only[bG,dO,AV.pf,Sc.pf,cX, *],?_⟩;have lR:=rF hR;have tk:(cC R).take 16=cC R:=by rw[<-lR,s7]
   have o1:=@zh R;cases hi:wE h
   .have e:mV R h z0=R:=by unfold mV;rw[if_neg (by rw[hi];decide)]
    have e2:(Ab R h).is=false:=by unfold Ab;rw[if_neg (by rw[hi];decide)];rfl
    simp only[wE,Bool.and_eq_false_iff,decide_eq_false_iff_not]at hi;rw[e,e2];by_cases h1:h<0
    ·(repeat(first|simp(maxSteps:=9^9)only[go_sem,seval,h1,lR,tk,o1]|simp(disch:=omega)only[aq,aK,aJ,aI,aH]))
    .have h2:7<h:=ω
     (repeat(first|simp(maxSteps:=9^9)only[go_sem,seval,h1,h2,lR,tk,o1]|simp(disch:=omega)only[aq,aK,aJ,aI,aH]))
   .obtain⟨k,rfl,hk⟩:=aaG hi;obtain⟨y,hy⟩:=P4 hR hk;obtain⟨c0,c1⟩:=H7 hR hy;have e:mV R k z0=R.set k z0:=by unfold mV;rw[if_pos hi];rfl
    have e2:=Ri hk hy;have w1:=Vh (q:=false) hR hk;have w2:wr ((R.map (λx=>Sc.b x.is)).set k (.b false)++R.map λx=>Sc.u x.ln) (8+k) [.u 0#64]=cC (R.set k z0):=Vi (q:=false) (l:=0#64) hR hk;have l2:((R.map (λx=>Sc.b x.is)).set k (.b false)++R.map λx=>Sc.u x.ln).length=16:=by simp[hR]
    have l3:=rF (R:=R.set k z0) (by simp[hR]);have Xh:(cC (R.set k z0)).take 16=cC (R.set k z0):=by rw[<-l3,s7]
    have o3:=@zh (R.set k z0);have h1:¬(k:Int)<0:=ω
    have h2:¬(7:Int)<k:=ω
    rw[e,e2];(repeat(first|simp only[go_sem,seval,h1,h2,lR,w1,w2,l2,l3,Xh,o3,c0,aO]|simp(disch:=omega)only[w0]))
  .simp at h
 .simp at h
def MN:List Sl:=bE 8 z0
theorem afK:MN.length=8:=rfl
theorem XX:cC MN=[.b false,.b false,.b false,.b false,.b false,.b false,.b false,.b false,.u 0#64,.u 0#64,.u 0#64,.u 0#64,.u 0#64,.u 0#64,.u 0#64,.u 0#64]:=rfl
def PR(args:List AV):Option AV:=match args with|[.g l,.c (.u x),.c (.i bK)]=>if AL l then some (.t [.g (cC (jB (xZ l) x bK 8)),.c (.i (vU (xZ l) x bK 8))])else none|_=>none
theorem axH{l x bK}:PR [.g l,.c (.u x),.c (.i bK)]=if AL l then some (.t [.g (cC (jB (xZ l) x bK 8)),.c (.i (vU (xZ l) x bK 8))])else none:=rfl
theorem ath:cE Tryz.prog 148 PR:=by
 refine cN tn Tryz.func148 rfl Tryz.results148 Tryz.ntmps148 ?_;intro args v h;unfold PR at h;split at h
 .rename_i l x bK;split at h
  .rename_i hc;simp only[ar]at h;subst h;obtain⟨R,hR,rfl⟩:=hc;have pl:=@FL R;have p2:=@FL (jB R x bK 8);rw[Ia hR];refine⟨by simp,by first|rfl|simp only[bG,dO,AV.pf,Sc.pf,cX, *],by first|rfl|simp only[bG,dO,AV.pf,Sc.pf,cX, *],?_⟩;simp only[go_sem,seval];refine eY 8 (λk=>([(1,.c (.u x)),(2,.c (.i bK)),(3,.c (.p 0 0 0)),(6,.c (.p 1 0 0)),(8,.c (.i (vU R x bK k))),(9,.c (.i k))],[.own (cC (jB R x bK k)),.own (cC MN)])) ?_ λk hk=>?_
   .rw[XX];exact Wk.wk (Nat.zero_le _) (by simp[Am.get,vU]) (by simp[AV.aj,Sc.aj]) (aE _) (by simp only[bG,dO,ae.cT,H6,Sc.aj];rfl)
   .have kl:(jB R x bK k).length=8:=by rw[Cd,hR]
    have cl:=Zb (R:=R) (l:=x) (bK:=bK) (k:=k);have lK:=rF kl;have tkK:(cC (jB R x bK k)).take 16=cC (jB R x bK k):=by rw[<-lK,s7]
    have oK:=@zh (jB R x bK k);have lZ:=rF afK;by_cases aL:k<8
    .have e0:(k:Int)<8:=ω
     have e4:(0:Int)<=k:=ω
     have e1:az ((k:Int)+1)=((k+1:Nat):Int):=by rw[aq ω ω];omega
     have e2:az ((vU R x bK k:Int)+1)=((vU R x bK k+1:Nat):Int):=by rw[aq ω ω];omega
     obtain⟨y,hy⟩:=P4 hR aL;have hyK:(jB R x bK k)[k]?=some y:=by rw[Fo,if_neg ω];exact hy
     obtain⟨c0,c1⟩:=H7 kl hyK;have kS:jB R x bK (k+1)=if nA R x bK k=true then(jB R x bK k).set k z0 else jB R x bK k:=rfl;have cS:vU R x bK (k+1)=if nA R x bK k=true then vU R x bK k+1 else vU R x bK k:=rfl;have kB:nA R x bK k=(!decide ((k:Int)=bK)&&(y.is&&decide (y.ln=x))):=by unfold nA oE;rw[Ri aL hy,AK aL];rfl
     by_cases hb:(k:Int)=bK
     .have qN:=eq_true hb;rw[show nA R x bK k=false by rw[kB];simp[hb],if_neg δ]at kS cS;simp only[go_sem,seval,qN,e0,e1,c0,lK];refine⟨k+1,ω,ω,?_⟩;rw[kS,cS];exact Wk.wk (by simp[lo]) (by simp[Am.get]) (by simp[AV.aj,Sc.aj]) (aE _) (by simp only[bG,dO,ae.cT,H6,Sc.aj];rfl)
     .cases HA:y.is
      .rw[show nA R x bK k=false by rw[kB,HA];simp,if_neg δ]at kS cS;rw[HA]at c0;(repeat(first|simp only[go_sem,seval,hb,e0,e1,e4,c0,lK,aO]|simp(disch:=omega)only[w0]));refine⟨k+1,ω,ω,?_⟩;rw[kS,cS];exact Wk.wk (by simp[lo]) (by simp[Am.get]) (by simp[AV.aj,Sc.aj]) (aE _) (by simp only[bG,dO,ae.cT,H6,Sc.aj];rfl)
      .rw[HA]at c0;by_cases hx:y.ln=x
       .have B6:=eq_true hx;rw[show nA R x bK k=true by rw[kB,HA];simp[hb,hx],if_pos rfl]at kS cS;have w1:=Vh (R:=jB R x bK k) (q:=false) kl aL;have w2:wr (((jB R x bK k).map (λx=>Sc.b x.is)).set k (.b false)++(jB R x bK k).map λx=>Sc.u x.ln) (8+k) [.u 0#64]=cC ((jB R x bK k).set k z0):=Vi (q:=false) (l:=0#64) kl aL;have l2:(((jB R x bK k).map (λx=>Sc.b x.is)).set k (.b false)++(jB R x bK k).map λx=>Sc.u x.ln).length=16:=by simp[kl]
        (repeat(first|simp only[go_sem,seval,hb,B6,e0,e1,e2,e4,c0,c1,lK,w1,w2,l2,aO]|simp(disch:=omega)only[w0]));refine⟨k+1,ω,ω,?_⟩;rw[kS,cS];exact Wk.wk (by simp[lo]) (by simp[Am.get]) (by simp[AV.aj,Sc.aj]) (aE _) (by simp only[bG,dO,ae.cT,H6,Sc.aj];rfl)
       .rw[show nA R x bK k=false by rw[kB];simp[hx],if_neg δ]at kS cS;(repeat(first|simp only[go_sem,seval,hb,hx,e0,e1,e4,c0,c1,lK,aO]|simp(disch:=omega)only[w0]));refine⟨k+1,ω,ω,?_⟩;rw[kS,cS];exact Wk.wk (by simp[lo]) (by simp[Am.get]) (by simp[AV.aj,Sc.aj]) (aE _) (by simp only[bG,dO,ae.cT,H6,Sc.aj];rfl)
    .obtain rfl:k=8:=ω
     have dz:(cC MN).drop 16=[]:=by rw[XX];rfl
     simp only[go_sem,seval,lK,tkK,oK,lZ,dz]
  .simp at h
 .simp at h
structure Rd where
 k:Int
 h:Int
 l:BitVec 64
end
end Go.Proofs.YtghlfboliomhcaaGreat
