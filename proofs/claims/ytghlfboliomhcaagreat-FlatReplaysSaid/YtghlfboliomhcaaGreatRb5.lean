/- Layer 32: an ask of memory, done: contracts. -/
import Derived.Test.YtghlfboliomhcaaGreatRb4
import Derived.Test.YtghlfboliomhcaaGreatRb3
set_option maxRecDepth 100000
set_option maxHeartbeats 8000000
open And renaming intro->cf
open BitVec renaming ofInt->aw,toNat_ofInt->mf,toNat_add->wU,getLsbD->J2,eq_of_getLsbD_eq->AR,getLsbD_setWidth->Y6,getLsbD_ushiftRight->RC,ushiftRight_zero->RD,eq_of_toNat_eq->mB,lt_def->nP,toNat_mul->Cc,le_def->sY,toNat_udiv->wW,toNat_sub->zo,ofNat->kD,toNat_ofNat->vB,toInt_eq_toNat_cond->x9
open Bool renaming and_eq_true->aQ,true_and->gG,false_eq_true->dL,and_true->c8,and_false->rY,false_and->ph,or_false->vC,and_self->Ny
open Int renaming toNat_natCast->aL,le_refl->AS,tmod_eq_emod_of_nonneg->He,reducePow->mZ
open List renaming getElem?_eq_none->kf,drop->cQ,length_take->tg,append_nil->m7,take_of_length_le->bQ,set_append_left->mg,set_set->yd,getElem?_eq_getElem->cP,getD_eq_getElem?_getD->bX,all_nil->dY,drop_zero->ya,all_cons->bK,getElem?_map->qL,getElem?_range->RI,mem_of_mem_drop->J7,mem_of_mem_take->J8,getElem?_drop->td,getElem?_append_left->uh,getElem?_take_of_lt->yb,getElem?_append_right->s9,ext_getElem?->wX,append_assoc->fv,length_append->cj,all_eq_true->cE,getElem?_set->rq,map_cons->gz,append_inj->s5,all_append->fJ,all_map->vF,getElem?_cons_succ->Hg,length_map->ui,map_set->Dp,set_append_right->Ka,take->bJ,replicate->bD,length_cons->cT,length_nil->fa,mem_singleton->wZ,eq_nil_of_length_eq_zero->vG,all_flatMap->sZ
open List.cons renaming injEq->cL
open Nat renaming lt_or_ge->cX,le_refl->aB,add_assoc->m9,zero_add->oF,add_comm->zu,add_sub_cancel_left->th,add_zero->ru,mul_one->Fc
open Option renaming map_some->pn,map_eq_some_iff->eE
open Option.some renaming injEq->ar
open Prod.mk renaming injEq->bE
namespace Go.Proofs.YtghlfboliomhcaaGreat
open Go.Am
set_option linter.all false
noncomputable section
variable {R:List Sl}{k:Nat}
theorem abx{s:Fw}{x:Sl}(hx:R[k]?=some x):((fg s R).drop (5+k*2)).take 2=zf x:=by
 have hk:k<R.length:=by
  rcases cX k R.length with h|h
  .exact h
  .rw[kf h]at hx;simp at hx
 have e:=amh (A:=[.i s.h,.i s.t,.i s.n,.i s.b,.sl s.id 0 s.B.length s.B.length]) (M:=iA R) (B:=s.mK::s.m) (i:=k*2) (n:=2) (by unfold iA;rw[pF EM];omega);have e2:=KO EM hx;unfold fg pP;show(cQ (([.i s.h,.i s.t,.i s.n,.i s.b,.sl s.id 0 s.B.length s.B.length]:List Sc).length+k*2) ([.i s.h,.i s.t,.i s.n,.i s.b,.sl s.id 0 s.B.length s.B.length]++(iA R++s.mK::s.m))).take 2=_;rw[e];exact e2
variable {z:Fw}{a d:BitVec 64}{s h:Int}{n:Nat}
section
variable {H:AH}
theorem awk{b:BitVec 64}{c:Int}(hI:ko H z)(hp:jQ z.B.length a b c s=true)(hm:dK c s=true):∃x0 x1,yO z.id 0 z.B.length z.B.length a b c s=.t [.c x0,.c x1,.c (.b true)]/\(AV.c x0).cells=some [x0]/\(AV.c x1).cells=some [x1]/\∀X,Jl [.c x0,.c x1] (H++X)=some (.c (.u (mU (vL z.B a b c s)))):=by
 simp only[dK,decide_eq_true_eq]at hm;obtain⟨m1,m2,m3,m4⟩:=hm;have cv:=λX=>zH (hI.app X).v;unfold jQ at hp;unfold yO vL;by_cases c0:c=0
 .rw[if_pos c0]at hp;rw[if_pos c0,if_pos c0,if_pos hp];rw[lI]at hp;refine⟨_,_,rfl,rfl,rfl,λX=>?_⟩;have:=Xc (Oh (cv X) (a:=bp a) (n:=s.toNat) ω) (show iT (H++X) .az=some []from rfl) (by rw[tg];omega) (by simp);rw[m7]at this;exact this
 .rw[if_neg c0,aQ]at hp;rw[if_neg c0,if_neg c0,if_pos hp];rw[lI,lI]at hp;exact⟨_,_,rfl,rfl,rfl,λX=>Xc (Oh (cv X) (a:=bp a) (n:=c.toNat) ω) (Oh (cv X) (a:=bp b) (n:=(s-c).toNat) ω) (by rw[tg];omega) (by rw[tg];omega)⟩
def Ew(args:List AV)(H:AH):Option (AV×AH):=match args with
 |[.c (.p p 0 0),.c (.i h),.g (.i k::.u a::.u b::.i c::.i s::.i op::.u d::.u o::.b lv::r)]=>match Cx H p with
   |some z=>if nT r/\iL z h ⟨k,a,b,c,s,op,d,o,lv⟩=true then some (.g (bU (wD z h ⟨k,a,b,c,s,op,d,o,lv⟩) (wG z h ⟨k,a,b,c,s,op,d,o,lv⟩)),gq H z (wB z h ⟨k,a,b,c,s,op,d,o,lv⟩) (wR z h ⟨k,a,b,c,s,op,d,o,lv⟩))else none|none=>none
 |_=>none
theorem ayp{k c op:Int}{b o:BitVec 64}{lv:Bool}{r:List Sc}(hI:ko H z)(hr:nT r)(hk:iL z h ⟨k,a,b,c,s,op,d,o,lv⟩=true):Ew [.c (.p z.p 0 0),.c (.i h),.g (.i k::.u a::.u b::.i c::.i s::.i op::.u d::.u o::.b lv::r)] H=some (.g (bU (wD z h ⟨k,a,b,c,s,op,d,o,lv⟩) (wG z h ⟨k,a,b,c,s,op,d,o,lv⟩)),gq H z (wB z h ⟨k,a,b,c,s,op,d,o,lv⟩) (wR z h ⟨k,a,b,c,s,op,d,o,lv⟩)):=by simp only[Ew,Ty hI];rw[if_pos ⟨hr,hk⟩]
theorem apO(args:List AV)(H:AH)(v:AV)(H1:AH)(h:Ew args H=some (v,H1)):H.length<=H1.length:=by
 unfold Ew at h;repeat' split at h
 all_goals simp at h
 rw[<-h.2,pG];exact aB _
theorem A4{g:Bool}:(AV.g (bU d g)).aj n=true:=Zw
theorem as8:bh Tryz.prog 38 Ew:=by
 refine gJ (s:=Ew) (tq VG (tq adm (tp as1 (tu asq (tu adp tn))))) Tryz.func38 rfl Tryz.results38 Tryz.ntmps38 apO ?_;intro args H v H1 h b9 hH;unfold Ew at h;split at h<;>try(simp at h;done)
 rename_i p h0 k a b c s op d o lv r;split at h<;>try(simp at h;done)
 rename_i z hz;split at h<;>try(simp at h;done)
 rename_i hc;obtain⟨hr,aM⟩:=hc;simp only[ar,bE]at h;obtain⟨rfl,rfl⟩:=h;obtain⟨hI,rfl⟩:=Tx hz;obtain⟨lr,pr,ro⟩:=hr;refine⟨by simp,?_⟩;have rt:r.take 10=r:=bQ ω;have Ii:=aM;unfold iL at Ii;simp only[aQ,decide_eq_true_eq]at Ii;obtain⟨hf,hp,g0,g1⟩:=Ii;have hh:=hI.hh;obtain⟨m,rfl⟩:∃m:Nat,h0=(m:Int):=⟨h0.toNat,ω⟩;have m8:m<8:=ω
 have mI:(m:Int)<8:=ω
 have m0:(0:Int)<=(m:Int):=ω
 have hm:=D6 (b:=b) hf;have gk:=KP hf;have jR:=hm;simp only[dK,decide_eq_true_eq]at jR;have DZ:(Sc.i op::.u d::.u o::.b lv::r).length=14:=by simp[lr]
 have PV:(Sc.i op::.u d::.u o::.b lv::r).all Sc.pf=true:=by simp[Sc.pf,pr]
 have Gp:(Sc.i op::.u d::.u o::.b lv::r).all Sc.one=true:=by simp[Sc.one,ro]
 have pt:=λX=>Xd (k:=k) (a:=a) (b:=b) (c:=c) (s:=s) (r:=.i op::.u d::.u o::.b lv::r) (hI.app X).R hI.b0 hI.b1 jR.2.2.1 jR.2.2.2 jR.2.1 DZ Gp;obtain⟨x0,x1,KI,mu,sG,fn⟩:=awk hI hp hm;simp only[KI]at pt;simp only[AV.cells]at mu sG;have eV:mU (vL z.B a b c s)=wV z ⟨k,a,b,c,s,op,d,o,lv⟩:=rfl;rw[eV]at fn;have oX:=λX=>(hI.app X).o;have AF:=hI.self;have p3:=λX v=>ayj (h:=(m:Int)) (v:=v) (hI.app X) hp hm gk DZ PV Gp;simp only[abA hI]at p3;have bb:=λB R=>hI.aj hH B R;have gH:∀B R X,hg (gq H z B R++X) H.length=hg X 0:=λB R X=>by rw[<-pG (H:=H) (s:=z) (B:=B) (R:=R),km]
 have gN:∀B R X n,hg (gq H z B R++X) (H.length+n)=hg X n:=λB R X n=>by rw[<-pG (H:=H) (s:=z) (B:=B) (R:=R),gM]
 have sN:∀B R X n o,(gq H z B R++X).set (H.length+n) o=gq H z B R++X.set n o:=λB R X n o=>by rw[<-pG (H:=H) (s:=z) (B:=B) (R:=R),xS]
 have gP:∀B R X,hg (gq H z B R++X) z.p=.own (fg z R):=λB R X=>by
  rw[cB (by rw[pG];exact hI.lp)];unfold gq;rw[iN (by rw[List.length_set];exact hI.lp)]
 have sP:∀B R X R',(gq H z B R++X).set z.p (.own (fg z R'))=gq H z B R'++X:=λB R X R'=>by
  rw[mg _ _ (by rw[pG];exact hI.lp)];unfold gq;rw[yd]
 have sX:∀X R',(H++X).set z.p (.own (fg z R'))=gq H z z.B R'++X:=λX R'=>by
  have:=sP z.B z.R X R';rwa[AF]at this
 obtain⟨x,hxm⟩:∃x,z.R[m]?=some x:=⟨_,cP (by rw[hI.l];exact m8)⟩;have gx:z.R.getD m z0=x:=by rw[bX,hxm];rfl
 have g3:((fg z z.R).drop (5+m*2)).take 2=[.b x.is,.u x.ln]:=abx hxm;have lF:∀R,R.length=8->(fg z R).length=343:=λR hR=>zK hR hI.lm;have l0:=lF z.R hI.l;have lK:=lF (fI z.R (fO a b c s) m 8) (by rw[CO];exact hI.l);have wF:∀R q,R.length=8->wr (fg z R) (5+m*2) (zf q)=fg z (R.set m q):=λR q hR=>abz hR m8 q;have w0:∀q u,wr (fg z z.R) (5+m*2) [.b q,.u u]=fg z (z.R.set m ⟨q,u⟩):=λq u=>wF z.R ⟨q,u⟩ hI.l;have wK:∀q u,wr (fg z (fI z.R (fO a b c s) m 8)) (5+m*2) [.b q,.u u]=fg z ((fI z.R (fO a b c s) m 8).set m ⟨q,u⟩):=λq u=>wF _ ⟨q,u⟩ (by rw[CO];exact hI.l);have g6:5+m*2+2<=343:=ω
 have i8:eC (8*s):=⟨ω,ω⟩;have w8:aA (8*s)=8*s:=aq ω ω;have lw:Qs [.c (.u d),.c (.i (8*s))]=some (.c (.u (eH d (8*s)))):=by rw[Jp,if_pos i8]
 by_cases k3:k=3
 .subst k3;have eW:iC z m ⟨3,a,b,c,s,op,d,o,lv⟩=some d:=by unfold iC;rw[if_pos aM,if_pos rfl]
  have eD:wD z m ⟨3,a,b,c,s,op,d,o,lv⟩=0#64:=by unfold wD;rw[if_pos aM,if_pos rfl]
  have eG:wG z m ⟨3,a,b,c,s,op,d,o,lv⟩=false:=by unfold wG;rw[if_pos aM,if_neg (show¬(3:Int)=6 by decide),if_neg (show¬(3:Int)=8 by decide)]
  have eB:wB z m ⟨3,a,b,c,s,op,d,o,lv⟩=kU z.B a b c s d:=by unfold wB;rw[eW]
  have eR:wR z m ⟨3,a,b,c,s,op,d,o,lv⟩=fI z.R (fO a b c s) m 8:=by unfold wR oE;rw[if_pos aM,if_neg (show¬(3:Int)=5 by decide),if_neg (show¬(3:Int)=6 by decide),eW]
  rw[eD,eG,eB,eR];simp only[go_sem,seval,lr,ro,rt,pt,mu,sG,fn,p3,gH,gN,sN];exact cY A4 (aC _ _) (bb _ _) (by rw[pG];exact aB _)
 by_cases k4:k=4
 .subst k4;have eW:iC z m ⟨4,a,b,c,s,op,d,o,lv⟩=some (uW op (wV z ⟨4,a,b,c,s,op,d,o,lv⟩) d):=by unfold iC;rw[if_pos aM,if_neg (show¬(4:Int)=3 by decide),if_pos rfl]
  have eD:wD z m ⟨4,a,b,c,s,op,d,o,lv⟩=wV z ⟨4,a,b,c,s,op,d,o,lv⟩:=by unfold wD;rw[if_pos aM,if_neg (show¬(4:Int)=3 by decide),if_neg (show¬(4:Int)=6 by decide)]
  have eG:wG z m ⟨4,a,b,c,s,op,d,o,lv⟩=false:=by unfold wG;rw[if_pos aM,if_neg (show¬(4:Int)=6 by decide),if_neg (show¬(4:Int)=8 by decide)]
  have eB:wB z m ⟨4,a,b,c,s,op,d,o,lv⟩=kU z.B a b c s (uW op (wV z ⟨4,a,b,c,s,op,d,o,lv⟩) d):=by unfold wB;rw[eW]
  have eR:wR z m ⟨4,a,b,c,s,op,d,o,lv⟩=fI z.R (fO a b c s) m 8:=by unfold wR oE;rw[if_pos aM,if_neg (show¬(4:Int)=5 by decide),if_neg (show¬(4:Int)=6 by decide),eW]
  rw[eD,eG,eB,eR];generalize wV z ⟨4,a,b,c,s,op,d,o,lv⟩=V at*;simp only[go_sem,seval,axS,lr,ro,rt,pt,mu,sG,fn,p3,gH,gN,sN];exact cY A4 (aC _ _) (bb _ _) (by rw[pG];exact aB _)
 by_cases k5:k=5
 .subst k5;have eW:iC z m ⟨5,a,b,c,s,op,d,o,lv⟩=none:=by unfold iC;rw[if_pos aM];rfl
  have eD:wD z m ⟨5,a,b,c,s,op,d,o,lv⟩=wV z ⟨5,a,b,c,s,op,d,o,lv⟩:=by unfold wD;rw[if_pos aM,if_neg (show¬(5:Int)=3 by decide),if_neg (show¬(5:Int)=6 by decide)]
  have eG:wG z m ⟨5,a,b,c,s,op,d,o,lv⟩=false:=by unfold wG;rw[if_pos aM,if_neg (show¬(5:Int)=6 by decide),if_neg (show¬(5:Int)=8 by decide)]
  have eB:wB z m ⟨5,a,b,c,s,op,d,o,lv⟩=z.B:=by unfold wB;rw[eW]
  have eR:wR z m ⟨5,a,b,c,s,op,d,o,lv⟩=z.R.set m ⟨true,a/64#64⟩:=by unfold wR;rw[if_pos aM,if_pos rfl,aL]
  rw[eD,eG,eB,eR];generalize wV z ⟨5,a,b,c,s,op,d,o,lv⟩=V at*;simp only[go_sem,seval,lr,ro,rt,pt,mu,sG,fn,oX,l0,mI,m0,g6,w0,sX,gH,gN,sN,aL];exact cY A4 (aC _ _) (bb _ _) (by rw[pG];exact aB _)
 by_cases k6:k=6
 .subst k6;have eD:wD z m ⟨6,a,b,c,s,op,d,o,lv⟩=0#64:=by unfold wD;rw[if_pos aM,if_neg (show¬(6:Int)=3 by decide),if_pos rfl]
  have eG:wG z m ⟨6,a,b,c,s,op,d,o,lv⟩=zj z m ⟨6,a,b,c,s,op,d,o,lv⟩:=by unfold wG;rw[if_pos aM,if_pos rfl]
  have eS:zj z m ⟨6,a,b,c,s,op,d,o,lv⟩=(lv&&(x.is&&decide (x.ln=a/64#64))):=by unfold zj;simp only[aL,gx]
  rw[eD,eG];cases hg:zj z m ⟨6,a,b,c,s,op,d,o,lv⟩
  .have eW:iC z m ⟨6,a,b,c,s,op,d,o,lv⟩=none:=by unfold iC;rw[if_pos aM,if_neg (show¬(6:Int)=3 by decide),if_neg (show¬(6:Int)=4 by decide),if_pos rfl,hg];rfl
   have eB:wB z m ⟨6,a,b,c,s,op,d,o,lv⟩=z.B:=by unfold wB;rw[eW]
   have eR:wR z m ⟨6,a,b,c,s,op,d,o,lv⟩=z.R.set m z0:=by unfold wR oE;rw[if_pos aM,if_neg (show¬(6:Int)=5 by decide),if_pos rfl,eW,aL]
   have YP:wr (fg z z.R) (5+m*2) [.b false,.u 0#64]=fg z (z.R.set m z0):=w0 _ _;rw[eB,eR];rw[hg]at eS;cases lv
   .simp only[go_sem,seval,lr,ro,rt,pt,mu,sG,fn,oX,l0,mI,m0,g6,YP,sX,gH,gN,sN,aL];exact cY A4 (aC _ _) (bb _ _) (by rw[pG];exact aB _)
   .rw[gG]at eS;cases hxi:x.is
    .rw[hxi]at g3;simp only[go_sem,seval,lr,ro,rt,pt,mu,sG,fn,oX,l0,mI,m0,g3,g6,YP,sX,gH,gN,sN,aL];exact cY A4 (aC _ _) (bb _ _) (by rw[pG];exact aB _)
    .rw[hxi]at g3 eS;rw[gG]at eS;have eS:=of_decide_eq_false eS.symm;simp only[go_sem,seval,lr,ro,rt,pt,mu,sG,fn,oX,l0,mI,m0,g3,g6,YP,sX,gH,gN,sN,eS,aL];exact cY A4 (aC _ _) (bb _ _) (by rw[pG];exact aB _)
  .have eW:iC z m ⟨6,a,b,c,s,op,d,o,lv⟩=some (eH d (8*s)):=by unfold iC;rw[if_pos aM,if_neg (show¬(6:Int)=3 by decide),if_neg (show¬(6:Int)=4 by decide),if_pos rfl,hg];rfl
   have eB:wB z m ⟨6,a,b,c,s,op,d,o,lv⟩=kU z.B a b c s (eH d (8*s)):=by unfold wB;rw[eW]
   have eR:wR z m ⟨6,a,b,c,s,op,d,o,lv⟩=(fI z.R (fO a b c s) m 8).set m z0:=by unfold wR oE;rw[if_pos aM,if_neg (show¬(6:Int)=5 by decide),if_pos rfl,eW,aL]
   have wK0:wr (fg z (fI z.R (fO a b c s) m 8)) (5+m*2) [.b false,.u 0#64]=fg z ((fI z.R (fO a b c s) m 8).set m z0):=wK _ _;rw[eB,eR];rw[hg]at eS;have eS:=eS.symm;simp only[aQ,decide_eq_true_eq]at eS;obtain⟨rfl,e1,e2⟩:=eS;rw[e1,e2]at g3;simp only[go_sem,seval,lr,ro,rt,pt,mu,sG,fn,oX,l0,lK,mI,m0,g3,g6,wK0,w8,lw,p3,gP,sP,gH,gN,sN,aL];exact cY A4 (aC _ _) (bb _ _) (by rw[pG];exact aB _)
 by_cases k8:k=8
 .subst k8;have eD:wD z m ⟨8,a,b,c,s,op,d,o,lv⟩=wV z ⟨8,a,b,c,s,op,d,o,lv⟩:=by unfold wD;rw[if_pos aM,if_neg (show¬(8:Int)=3 by decide),if_neg (show¬(8:Int)=6 by decide)]
  have eG:wG z m ⟨8,a,b,c,s,op,d,o,lv⟩=decide (wV z ⟨8,a,b,c,s,op,d,o,lv⟩=o):=by unfold wG;rw[if_pos aM,if_neg (show¬(8:Int)=6 by decide),if_pos rfl]
  rw[eD,eG];by_cases hv:wV z ⟨8,a,b,c,s,op,d,o,lv⟩=o
  .have eW:iC z m ⟨8,a,b,c,s,op,d,o,lv⟩=some d:=by unfold iC;rw[if_pos aM,if_neg (show¬(8:Int)=3 by decide),if_neg (show¬(8:Int)=4 by decide),if_neg (show¬(8:Int)=6 by decide),if_pos rfl,if_pos hv]
   have eB:wB z m ⟨8,a,b,c,s,op,d,o,lv⟩=kU z.B a b c s d:=by unfold wB;rw[eW]
   have eR:wR z m ⟨8,a,b,c,s,op,d,o,lv⟩=fI z.R (fO a b c s) m 8:=by unfold wR oE;rw[if_pos aM,if_neg (show¬(8:Int)=5 by decide),if_neg (show¬(8:Int)=6 by decide),eW]
   rw[eB,eR];generalize wV z ⟨8,a,b,c,s,op,d,o,lv⟩=V at*;have mR:=eq_true hv;simp only[go_sem,seval,lr,ro,rt,pt,mu,sG,fn,mR,p3,gH,gN,sN];exact cY A4 (aC _ _) (bb _ _) (by rw[pG];exact aB _)
  .have eW:iC z m ⟨8,a,b,c,s,op,d,o,lv⟩=none:=by unfold iC;rw[if_pos aM,if_neg (show¬(8:Int)=3 by decide),if_neg (show¬(8:Int)=4 by decide),if_neg (show¬(8:Int)=6 by decide),if_pos rfl,if_neg hv]
   have eB:wB z m ⟨8,a,b,c,s,op,d,o,lv⟩=z.B:=by unfold wB;rw[eW]
   have eR:wR z m ⟨8,a,b,c,s,op,d,o,lv⟩=z.R:=by unfold wR oE;rw[if_pos aM,if_neg (show¬(8:Int)=5 by decide),if_neg (show¬(8:Int)=6 by decide),eW]
   rw[eB,eR,AF];generalize wV z ⟨8,a,b,c,s,op,d,o,lv⟩=V at*;have mR:=eq_false hv;simp only[go_sem,seval,lr,ro,rt,pt,mu,sG,fn,mR,p3,gH,gN,sN];exact cY A4 (aC _ _) hH (aB _)
 have eW:iC z m ⟨k,a,b,c,s,op,d,o,lv⟩=none:=by unfold iC;rw[if_pos aM,if_neg k3,if_neg k4,if_neg k6,if_neg k8]
 have eD:wD z m ⟨k,a,b,c,s,op,d,o,lv⟩=wV z ⟨k,a,b,c,s,op,d,o,lv⟩:=by unfold wD;rw[if_pos aM,if_neg k3,if_neg k6]
 have eG:wG z m ⟨k,a,b,c,s,op,d,o,lv⟩=false:=by unfold wG;rw[if_pos aM,if_neg k6,if_neg k8]
 have eB:wB z m ⟨k,a,b,c,s,op,d,o,lv⟩=z.B:=by unfold wB;rw[eW]
 have eR:wR z m ⟨k,a,b,c,s,op,d,o,lv⟩=z.R:=by unfold wR oE;rw[if_pos aM,if_neg k5,if_neg k6,eW]
 rw[eD,eG,eB,eR,AF];generalize wV z ⟨k,a,b,c,s,op,d,o,lv⟩=V at*;simp only[go_sem,seval,lr,ro,rt,pt,mu,sG,fn,k3,k4,k5,k6,k8];exact cY A4 (aC _ _) hH (aB _)
def aDk(args:List AV)(H:AH):Option (AV×AH):=match args with
 |[.c (.p p 0 0),.c (.i h),.g (.i k::.u a::.u b::.i c::.i s::.i op::.u d::.u o::.b lv::r)]=>match Cx H p with
   |some z=>if nT r/\k<=8 then some (.t [.g (bU (wD z h ⟨k,a,b,c,s,op,d,o,lv⟩) (wG z h ⟨k,a,b,c,s,op,d,o,lv⟩)),.c (.b (iL z h ⟨k,a,b,c,s,op,d,o,lv⟩))],gq H z (wB z h ⟨k,a,b,c,s,op,d,o,lv⟩) (wR z h ⟨k,a,b,c,s,op,d,o,lv⟩))else none|none=>none
 |_=>none
theorem Kj(d:BitVec 64)(g:Bool):(bU d g).length=42:=by unfold bU;simp[Nw]
theorem NM(d:BitVec 64)(g:Bool):(bU d g).all Sc.one=true:=by unfold bU;simp[Sc.one,agL]
end
theorem yM(x:BitVec 64):bp x=iq x:=by rw[Vs,xJ]
variable {m:Int}
theorem u9{x:BitVec 64}:gC (64*n) x m=hasB n x m:=by unfold gC hasB;rw[yM]
theorem OZ(hn:n<=4096)(h1:1<=m)(h8:m<=8):hasB n a m=true↔∀j:Int,0<=j->j<m->hasB n (a+aw 64 j) 1=true:=by
 constructor
 .intro h j j0 j1;have e:=yL hn h j0 j1;have h':=h;rw[rI]at h';have e0:(aw 64 j).toNat=j.toNat:=by rw[mf];omega
  have e2:(a+aw 64 j).toNat=a.toNat+j.toNat:=by
   rw[wU,e0];have:=a.isLt;rw[xJ]at h';omega
  rw[rI,e,e2];omega
 .intro h;have z:=h 0 ω ω;have z1:a+aw 64 0=a:=BitVec.add_zero _;rw[z1,rI]at z;have y:=h (m-1) ω ω;rw[rI]at y;have e0:(aw 64 (m-1)).toNat=(m-1).toNat:=by rw[mf];omega
  have z':=z;rw[xJ]at z';have e2:(a+aw 64 (m-1)).toNat=a.toNat+(m-1).toNat:=by
   rw[wU,e0];have:=a.isLt;omega
  rw[xJ,e2]at y;rw[rI];rw[xJ]at z|-;omega
variable {B:Int->BitVec 64}{l:List Pc}
theorem Zu(hn:n<=4096):∀{m:Int},0<=m->yy B l m->((l.all λp=>hasB n p.a p.n)=true↔∀i:Int,m<=i->i<m+jq l->hasB n (B i) 1=true):=by induction l with
 |nil=>intro m _ _;simp only[dY,jq];exact⟨λ_ i h1 h2=>ω,λ_=>trivial⟩|cons p l ih=>
   intro m h0 h;obtain⟨a1,a2,a3,a4,a6⟩:=h;have ih:=ih ω a6;have t0:=Rc a6 0;rw[ya]at t0;have pb:=OZ hn (a:=p.a) a2 ω;rw[bK,aQ,ih,pb];simp only[jq];constructor
   .rintro⟨h1,h2⟩i i1 i2;by_cases c:i<m+p.n
    .have e:=(a4 (i-m) ω ω).1;rw[show m+(i-m)=i by omega]at e;rw[e];exact h1 _ ω ω
    .exact h2 i ω ω
   .intro h;refine⟨λj j0 j1=>?_,λi i1 i2=>h i ω ω⟩;have e:=(a4 j j0 j1).1;rw[<-e];exact h _ ω ω
theorem KZ{b:BitVec 64}{c:Int}(hn:n<=4096)(h:dK c s=true):jQ (64*n) a b c s=((mq a b c s).all λp=>hasB n p.a p.n):=by
 have hm:1<=s/\s<=8/\0<=c/\c<s:=by simpa[dK]using h
 have e:=Zu hn (AS 0) (HZ (a:=a) (b:=b) h);rw[(H5 (a:=a) (b:=b) h).2.1,Int.zero_add]at e;rw[Bool.eq_iff_iff,e];unfold jQ;by_cases c0:c=0
 .subst c0;rw[if_pos rfl,u9,OZ hn ω ω];have q:∀i:Int,eI a b 0 i=a+aw 64 i:=λi=>by unfold eI;rw[if_neg ω]
  simp only[q]
 .rw[if_neg c0,aQ,u9,u9,OZ hn ω ω,OZ hn ω ω];constructor
  .rintro⟨h1,h2⟩i i0 i1;unfold eI;by_cases ci:c<=i
   .rw[if_pos ⟨ω,ci⟩];exact h2 _ ω ω
   .rw[if_neg ω];exact h1 _ i0 ω
  .intro h;refine⟨λj j0 j1=>?_,λj j0 j1=>?_⟩
   .have:=h j j0 ω;unfold eI at this;rwa[if_neg ω]at this
   .have:=h (c+j) ω ω;unfold eI at this;rwa[if_pos ω,show c+j-c=j by omega]at this
def rA(f:Nat->BitVec 8)(N:Nat):List Int:=(List.range N).map λj=>((f j).toNat:Int)
variable {f:Nat->BitVec 8}{N:Nat}
theorem Fi:(rA f N).length=N:=by simp[rA]
variable {j:Nat}
theorem HA(h:j<N):(rA f N)[j]?=some ((f j).toNat:Int):=by
 unfold rA;rw[qL,RI h];rfl
theorem SD:∀x∈rA f N,0<=x/\x<=255:=λx hx=>by
 unfold rA at hx;obtain⟨j,_,rfl⟩:=List.mem_map.1 hx;have:=(f j).isLt;omega
variable {L:List Int}{i:Nat}
theorem acU(hL:∀x∈L,0<=x/\x<=255)(hi:i<64):(mU L).getLsbD i=((L.getD (i/8) 0).toNat).testBit (i%8):=by induction L generalizing i with|nil=>simp[mU]|cons b L ih=>
   have hb:=hL b (by simp);obtain⟨n,rfl⟩:∃n:Nat,b=(n:Int):=⟨b.toNat,ω⟩;have hn:n<256:=ω
   show(AI (n:Int) (mU L)).getLsbD i=_;unfold AI;have eb:(aw 64 (n:Int)).getLsbD i=n.testBit i:=by
    rw[J2,mf];congr 1;omega
   rw[BitVec.getLsbD_or,BitVec.getLsbD_shiftLeft,eb];by_cases c:i<8
   .rw[show i/8=0 by omega,show i%8=i by omega];simp[c]
   .have e0:n.testBit i=false:=by
     apply Nat.testBit_lt_two_pow;have:2^8<=2^i:=Nat.pow_le_pow_right δ ω;have e8:(2:Nat)^8=256:=rfl;omega
    obtain⟨j,rfl⟩:∃j,i=j+8:=⟨i-8,ω⟩;rw[e0,show j+8-8=j by omega,ih (λx hx=>hL x (by simp[hx])) ω,show(j+8)/8=j/8+1 by omega,show(j+8)%8=j%8 by omega];simp[c,hi]
theorem acW{o:Nat}(h:o+n<=N)(h8:n<=8):mU (((rA f N).drop o).take n)=Md f o n:=by
 unfold Md;refine wv λi hi=>?_;rw[acU (λx hx=>SD x (J7 (J8 hx))) hi,bX,List.getElem?_take];by_cases c:i/8<n
 .rw[if_pos c,td,HA ω,decide_eq_true ω];simp[J2]
 .rw[if_neg c,decide_eq_false ω];simp
theorem aBF(hn:n<=4096){M:Nat×js}{a b:BitVec 64}{c s:Int}(hm:dK c s=true)(hp:jQ (64*n) a b c s=true):mU (vL (rA (oY M.2) (64*n)) a b c s)=OL M.2 (eI a b c) s:=by
 have jR:1<=s/\s<=8/\0<=c/\c<s:=by simpa[dK]using hm
 unfold OL;refine wv λi hi=>?_;unfold jQ at hp;by_cases c0:c=0
 .subst c0;rw[if_pos rfl,u9]at hp;have h':=hp;rw[rI]at h';unfold vL;rw[if_pos rfl,yM,acW ω ω];unfold Md;rw[CW hi];by_cases ci:i/8<s.toNat
  .have e:=yL hn hp (j:=((i/8:Nat):Int)) ω ω;unfold eI;rw[if_neg ω,e,aL,decide_eq_true ω,decide_eq_true ω]
  .rw[decide_eq_false ω,decide_eq_false ω];rfl
 .rw[if_neg c0,aQ,u9,u9]at hp;obtain⟨p1,p2⟩:=hp;have h1:=p1;have h2:=p2;rw[rI]at h1 h2;unfold vL;rw[if_neg c0,yM,yM];have l1:(((rA (oY M.2) (64*n)).drop (iq a)).take c.toNat).length=c.toNat:=by rw[tg,List.length_drop,Fi];omega
  rw[acU (λx hx=>by
   rcases List.mem_append.1 hx with g|g
   .exact SD x (J7 (J8 g))
   .exact SD x (J7 (J8 g))) hi,bX];by_cases c1:i/8<c.toNat
  .have e:=yL hn p1 (j:=((i/8:Nat):Int)) ω ω;unfold eI;rw[uh ω,yb c1,td,HA ω,if_neg ω,e,aL,decide_eq_true ω];simp[J2]
  .rw[s9 ω,l1];by_cases c2:i/8<s.toNat
   .have e:=yL hn p2 (j:=((i/8:Nat):Int)-c) ω ω;unfold eI;rw[yb ω,td,HA ω,if_pos ω,e,decide_eq_true ω,show(((i/8:Nat):Int)-c).toNat=i/8-c.toNat by omega];simp[J2]
   .rw[kf (by rw[tg];omega),decide_eq_false ω];simp
def vA(f:Nat->BitVec 8)(A:Nat->Nat)(v:BitVec 64)(m:Nat):Nat->Nat->BitVec 8|0=>f|k+1=>λj=>if j=A (m+k)then(v>>>(8*(m+k))).setWidth 8 else vA f A v m k j
theorem YY{f:Nat->BitVec 8}{A:Nat->Nat}{v:BitVec 64}{m k:Nat}:∀{l:Nat},vA f A v m (k+l)=vA (vA f A v m k) A v (m+k) l
 |0=>rfl|l+1=>by
   funext j;show(if j=A (m+(k+l))then(v>>>(8*(m+(k+l)))).setWidth 8 else vA f A v m (k+l) j)=(if j=A (m+k+l)then(v>>>(8*(m+k+l))).setWidth 8 else vA (vA f A v m k) A v (m+k) l j);rw[YY (l:=l),m9]
theorem YZ{f:Nat->BitVec 8}{A:Nat->Nat}{v:BitVec 64}{m o:Nat}:∀{k:Nat},(∀i,i<k->A (m+i)=o+i)->∀j,vA f A v m k j=if o<=j/\j<o+k then(v>>>(8*(m+(j-o)))).setWidth 8 else f j
 |0,_,j=>by rw[if_neg ω];rfl|k+1,h,j=>by
   show(if j=A (m+k)then _ else vA f A v m k j)=_;rw[h k ω,YZ (λi hi=>h i ω) j];by_cases c:j=o+k
   .rw[if_pos c,if_pos ω];congr 3;omega
   .rw[if_neg c];by_cases c2:o<=j/\j<o+k
    .rw[if_pos c2,if_pos ω]
    .rw[if_neg c2,if_neg ω]
variable {v:BitVec 64}
theorem avT{n m:Int}(h1:1<=n)(h0:0<=m)(h8:m+n<=8){i:Nat}(hi:(i:Int)<n):((Gu v n (8*m))>>>(8*i)).setWidth 8=(v>>>(8*(m.toNat+i))).setWidth 8:=by
 have hr:Mg n (8*m)=true:=by simp[Mg];omega
 unfold Gu;rw[if_pos hr];apply AR;intro j hj;rw[Y6,Y6,RC,RC];unfold Fs pA;rw[CW ω,decide_eq_true ω];have e:(8*m+((8*i+j:Nat):Int)).toNat=8*(m.toNat+i)+j:=ω
 simp only[e,gG];rw[decide_eq_true (show(0:Int)<=8*m+((8*i+j:Nat):Int)by omega),decide_eq_true (show 8*m+((8*i+j:Nat):Int)<=63 by omega),decide_eq_true (show((8*i+j:Nat):Int)<8*n by omega)];rfl
theorem az6(hN:N<=4096):∀{m:Int}{M:Nat×js},0<=m->yy B l m->kM N M->(∀p∈l,hasB N p.a p.n=true)->oY (EN M l v).2=vA (oY M.2) (λi=>iq (B i)) v m.toNat (jq l).toNat:=by induction l with|nil=>intro m M _ _ _ _;rfl|cons p l ih=>
   intro m M h0 hg hM hh;obtain⟨a1,a2,a3,a4,a6⟩:=hg;have hp:=hh p (by simp);have hp':=hp;rw[rI]at hp';have t0:=Rc a6 0;rw[ya]at t0;have w1:kM N (stM M (iq p.a) p.n.toNat (Gu v p.n p.s)):=agB hM ω ω ω;have e:=ih (m:=m+p.n) (M:=stM M (iq p.a) p.n.toNat (Gu v p.n p.s)) ω a6 w1 (λq hq=>hh q (by simp[hq]));have e1:oY (stM M (iq p.a) p.n.toNat (Gu v p.n p.s)).2=vA (oY M.2) (λi=>iq (B i)) v m.toNat p.n.toNat:=by
    funext j;rw[aqG hM ω ω ω,YZ (o:=iq p.a) (λi hi=>?_)]
    .by_cases c:iq p.a<=j/\j<iq p.a+p.n.toNat
     .rw[if_pos c,if_pos c,a1];exact avT a2 h0 a3 ω
     .rw[if_neg c,if_neg c]
    .have q:=(a4 (i:Int) ω ω).1;rw[show((m.toNat+i:Nat):Int)=m+(i:Int)by omega,q,yL hN hp ω ω,aL]
   show oY (EN (stM M (iq p.a) p.n.toNat (Gu v p.n p.s)) l v).2=_;rw[e,e1];show _=vA _ _ _ _ (p.n+jq l).toNat;rw[show(p.n+jq l).toNat=p.n.toNat+(jq l).toNat by omega,YY,show(m+p.n).toNat=m.toNat+p.n.toNat by omega]
theorem UP{A:Nat->Nat}{v:BitVec 64}{N o k m:Nat}(hA:∀i,i<k->A (m+i)=o+i)(h:o+k<=N):gF (rA f N) o (iV (v>>>(8*m)) k)=rA (vA f A v m k) N:=by
 apply wX;intro j;have e:=YZ (f:=f) (v:=v) hA j;have l1:((rA f N).take o).length=o:=by rw[tg,Fi];omega
 rcases cX j N with hj|hj
 .rw[HA hj,e];unfold gF;rw[oV];by_cases c1:j<o
  .rw[if_neg ω,fv,uh ω,yb c1,HA hj]
  .by_cases c2:j<o+k
   .rw[if_pos ω,uh (by rw[cj,l1,oV];omega),s9 ω,l1];unfold iV;rw[qL,RI ω];show some (mS (v>>>(8*m)) (j-o))=_;unfold mS;rw[<-BitVec.shiftRight_add,show 8*m+8*(j-o)=8*(m+(j-o))by omega]
   .rw[if_neg ω,s9 (by rw[cj,l1,oV];omega),cj,l1,oV,td,show o+k+(j-(o+k))=j by omega,HA hj]
 .rw[kf (by rw[BD (by rw[oV,Fi];exact h),Fi];exact hj),kf (by rw[Fi];exact hj)]
theorem aps{b:BitVec 64}{c:Int}(hn:n<=4096)(hm:dK c s=true)(hp:jQ (64*n) a b c s=true):kU (rA f (64*n)) a b c s v=rA (vA f (λi=>iq (eI a b c i)) v 0 s.toNat) (64*n):=by
 have jR:1<=s/\s<=8/\0<=c/\c<s:=by simpa[dK]using hm
 unfold jQ at hp;unfold kU;by_cases c0:c=0
 .subst c0;rw[if_pos rfl,u9]at hp;have h':=hp;rw[rI]at h';rw[if_pos rfl,yM];have:=UP (f:=f) (A:=λi=>iq (eI a b 0 i)) (v:=v) (N:=64*n) (o:=iq a) (k:=s.toNat) (m:=0) (λi hi=>?_) ω
  .simpa using this
  .show iq (eI a b 0 ((0+i:Nat):Int))=_;unfold eI;rw[if_neg ω,yL hn hp ω ω,oF,aL]
 .rw[if_neg c0,aQ,u9,u9]at hp;obtain⟨p1,p2⟩:=hp;have h1:=p1;have h2:=p2;rw[rI]at h1 h2;rw[if_neg c0,yM,yM];have e1:=UP (f:=f) (A:=λi=>iq (eI a b c i)) (v:=v) (N:=64*n) (o:=iq a) (k:=c.toNat) (m:=0) (λi hi=>by
 show iq (eI a b c ((0+i:Nat):Int))=_;unfold eI;rw[if_neg ω,yL hn p1 ω ω,oF,aL]) ω;have e2:=UP (f:=vA f (λi=>iq (eI a b c i)) v 0 c.toNat) (A:=λi=>iq (eI a b c i)) (v:=v) (N:=64*n) (o:=iq b) (k:=(s-c).toNat) (m:=c.toNat) (λi hi=>by
 show iq (eI a b c ((c.toNat+i:Nat):Int))=_;unfold eI;rw[if_pos ω,yL hn p2 ω ω];omega) ω;rw[Nat.mul_zero,RD]at e1;rw[e1,e2,show s.toNat=c.toNat+(s-c).toNat by omega,YY,oF]
theorem apt{M:Nat×js}{b:BitVec 64}{c:Int}(hn:n<=4096)(hw:kM n M)(hm:dK c s=true)(hp:jQ (64*n) a b c s=true):kU (rA (oY M.2) (64*n)) a b c s v=rA (oY (EN M (mq a b c s) v).2) (64*n):=by
 rw[aps hn hm hp];rw[KZ hn hm]at hp;have:=az6 hn (v:=v) (AS 0) (HZ (a:=a) (b:=b) hm) hw (λp hq=>cE.1 hp p hq);rw[this,(H5 (a:=a) (b:=b) hm).2.1];rfl
theorem UQ{m:Nat}(h:((m+k:Nat):Int)<=s)(h8:s<=8):iV ((eH v (8*s))>>>(8*m)) k=iV (v>>>(8*m)) k:=by
 unfold iV;refine List.map_congr_left λi hi=>?_;rw[List.mem_range]at hi;unfold mS;congr 2;apply AR;intro j hj;simp only[Y6,RC];unfold eH;rw[CW ω,decide_eq_true (show((8*m+(8*i+j):Nat):Int)<8*s by omega),gG]
theorem acm{B:List Int}{b:BitVec 64}{c:Int}(hm:dK c s=true):kU B a b c s (eH v (8*s))=kU B a b c s v:=by
 have jR:1<=s/\s<=8/\0<=c/\c<s:=by simpa[dK]using hm
 unfold kU;by_cases c0:c=0
 .rw[if_pos c0,if_pos c0];have:=UQ (v:=v) (s:=s) (m:=0) (k:=s.toNat) ω ω;simp only[Nat.mul_zero,RD]at this;rw[this]
 .rw[if_neg c0,if_neg c0];have e1:=UQ (v:=v) (s:=s) (m:=0) (k:=c.toNat) ω ω;have e2:=UQ (v:=v) (s:=s) (m:=c.toNat) (k:=(s-c).toNat) ω ω;simp only[Nat.mul_zero,RD]at e1;rw[e1,e2]
theorem BC{R:List Sl}{L:List (BitVec 64)}{bG:Int}{j:Nat}:∀{k:Nat},(fI R L bG k)[j]?=if j<k/\sI R L bG j=true/\j<R.length then some z0 else R[j]?
 |0=>by simp[fI]|k+1=>by
   have ih:=BC (R:=R) (L:=L) (bG:=bG) (k:=k) (j:=j);have hl:=CO (R:=R) (L:=L) (bG:=bG) (k:=k);simp only[fI];split
   .rename_i hb;rw[rq];by_cases e:k=j
    .subst e;rw[if_pos rfl,hl];by_cases h2:k<R.length
     .rw[if_pos h2,if_pos ⟨ω,hb,h2⟩]
     .rw[if_neg h2,if_neg (λh=>h2 h.2.2),kf ω]
    .rw[if_neg e,ih];by_cases h2:j<k/\sI R L bG j=true/\j<R.length
     .rw[if_pos h2,if_pos ⟨ω,h2.2⟩]
     .rw[if_neg h2,if_neg (λh=>h2 ⟨ω,h.2⟩)]
   .rename_i hb;rw[ih];by_cases h2:j<k/\sI R L bG j=true/\j<R.length
    .rw[if_pos h2,if_pos ⟨ω,h2.2⟩]
    .rw[if_neg h2,if_neg (λh=>h2 ⟨?_,h.2⟩)];rcases Nat.lt_or_eq_of_le (Nat.lt_succ_iff.1 h.1)with h3|h3
     .exact h3
     .subst h3;exact(hb h.2.1).elim
variable {bG:Int}
theorem acd{l:BitVec 64}(hj:j<8):og R l bG j=(!decide ((j:Int)=bG)&&((R.getD j z0).is&&decide ((R.getD j z0).ln=l))):=by
 unfold og nZ;rw[Bz hj];unfold uj;rw[if_pos (Bz hj),aL];simp
theorem acg:∀{R:List Sl},R.length=8->fI R (l.map λp=>p.a/64#64) bG 8=Ab R l bG:=by induction l with
 |nil=>
 intro R hR;apply wX;intro j;rw[BC,if_neg (by simp[sI])];rfl|cons p l ih=>
   intro R hR;show _=Ab (jv R (p.a/64#64) bG 8) l bG;rw[<-ih (by rw[CP,hR])];apply wX;intro j;rw[BC,BC,Gb,CP];by_cases hj:j<8;rotate_left
   .rw[if_neg (λc=>hj c.1),if_neg (λc=>hj c.1),if_neg (λc=>hj c.1)]
   obtain⟨x,hx⟩:∃x,R[j]?=some x:=⟨_,cP ω⟩;have gx:R.getD j z0=x:=by rw[bX,hx];rfl
   have gk:(jv R (p.a/64#64) bG 8).getD j z0=if og R (p.a/64#64) bG j=true then z0 else x:=by
    rw[bX,Gb,hx];by_cases c:og R (p.a/64#64) bG j=true
    .rw[if_pos ⟨hj,c,ω⟩,if_pos c];rfl
    .rw[if_neg (λh=>c h.2.1),if_neg c];rfl
   have kb:=acd (R:=R) (l:=p.a/64#64) (bG:=bG) hj;unfold sI;rw[gx,gk,hx];rw[gx]at kb;simp only[hj,hR,true_and,and_true,gz,List.mem_cons];cases c:og R (p.a/64#64) bG j
   .rw[c]at kb;simp only[dL,if_false];have e:(!decide ((j:Int)=bG)&&(x.is&&decide (x.ln=p.a/64#64\/x.ln∈List.map (λp=>p.a/64#64) l)))=(!decide ((j:Int)=bG)&&(x.is&&decide (x.ln∈List.map (λp=>p.a/64#64) l))):=by
     have kb:=kb.symm;by_cases e1:(j:Int)=bG
     .simp[e1]
     .by_cases e2:x.ln=p.a/64#64
      .have:x.is=false:=by simpa[e1,e2]using kb
       simp[this]
      .simp[e2]
    rw[e]
   .rw[c]at kb;have kb:=kb.symm;simp only[aQ,Bool.not_eq_true',decide_eq_false_iff_not,decide_eq_true_eq]at kb;obtain⟨e1,e2,e3⟩:=kb;simp[e1,e2,e3,z0]
structure Rel(w:Fw)(z:jM):Prop where
 h:w.h=z.h
 hh:z.h<=8
 n:z.fZ.n<=4096
 wf:kM z.fZ.n z.fZ.M
 B:w.B=rA (oY z.fZ.M.2) (64*z.fZ.n)R:w.R=z.R
 l:z.R.length=8
 o:∀j:Nat,z.h<=(j:Int)->z.R.getD j z0=z0
theorem apf(hR:R.length=8)(h:R.getD j z0=z0):(Ab R l bG).getD j z0=z0:=by
 rw[<-acg hR,bX,BC];split
 .rfl
 .rw[<-bX];exact h
theorem afP{R:List Sl}{j k:Nat}{x:Sl}(h:R.getD j z0=z0)(cZ:k≠j):(R.set k x).getD j z0=z0:=by rw[bX,List.getElem?_set_ne cZ,<-bX];exact h
variable {w:Fw}
theorem Rel.step{z:jM}(g:Rel w z)(h:Int)(q:Ak):iL w h q=tE z h q/\wD w h q=dD z h q/\wG w h q=dG z h q/\Rel (w.to (wB w h q) (wR w h q)) (z.to (dM z h q) (dR z h q)):=by
 have lB:w.B.length=64*z.fZ.n:=by rw[g.B,Fi]
 have yr:iL w h q=tE z h q:=by
  unfold iL tE oh;rw[g.h,lB];cases hf:np q.k q.a q.c q.s q.op
  .simp
  .rw[KZ g.n (D6 (b:=q.b) hf)];simp[Bool.and_assoc]
 refine⟨yr,?_⟩;cases ok:tE z h q
 .rw[ok]at yr;have e1:iC w h q=none:=by unfold iC;rw[if_neg (by simp[yr])]
  have e2:vQ z h q=none:=by unfold vQ;rw[if_neg (by simp[ok])]
  have e3:wB w h q=w.B:=by unfold wB;rw[e1]
  have e4:dM z h q=z.fZ.M:=by unfold dM;rw[e2]
  have e5:wR w h q=w.R:=by unfold wR;rw[if_neg (by simp[yr])]
  have e6:dR z h q=z.R:=by unfold dR;rw[if_neg (by simp[ok])]
  refine⟨by unfold wD dD;rw[if_neg (by simp[yr]),if_neg (by simp[ok])],by unfold wG dG;rw[if_neg (by simp[yr]),if_neg (by simp[ok])],?_⟩;rw[e3,e4,e5,e6];exact⟨g.h,g.hh,g.n,g.wf,g.B,g.R,g.l,g.o⟩
 .rw[ok]at yr;have k1:=ok;unfold tE at k1;simp only[aQ,decide_eq_true_eq]at k1;obtain⟨k1,h0,h1⟩:=k1;have hm:=(Va k1).1;have hp:jQ (64*z.fZ.n) q.a q.b q.c q.s=true:=by
   rw[KZ g.n hm];unfold oh at k1;rw[aQ]at k1;exact k1.2
  have hh:=g.hh;obtain⟨m,rfl⟩:∃m:Nat,h=(m:Int):=⟨h.toNat,ω⟩;have m8:m<8:=ω
  have eV:wV w q=dV z q:=by unfold wV dV;rw[g.B];exact aBF g.n hm hp
  have eS:zj w m q=Fu z m q:=by
   unfold zj Fu nZ uj;rw[Bz m8,if_pos rfl,g.R,aL,gG]
  have eL:∀v,kU w.B q.a q.b q.c q.s v=rA (oY (EN z.fZ.M q.l v).2) (64*z.fZ.n):=λv=>by rw[g.B];exact apt g.n g.wf hm hp
  have eK:fI w.R (fO q.a q.b q.c q.s) m 8=Ab z.R q.l m:=by rw[g.R];exact acg g.l
  have eB:wB w m q=rA (oY (dM z m q).2) (64*z.fZ.n):=by
   unfold wB iC dM vQ;rw[if_pos yr,if_pos ok,eV,eS];by_cases k3:q.k=3
   .rw[if_pos k3,if_pos k3];exact eL _
   rw[if_neg k3,if_neg k3];by_cases k4:q.k=4
   .rw[if_pos k4,if_pos k4];exact eL _
   rw[if_neg k4,if_neg k4];by_cases k6:q.k=6
   .rw[if_pos k6,if_pos k6];cases Fu z m q
    .exact g.B
    .rw[if_pos rfl,if_pos rfl];simp only;rw[acm hm];exact eL _
   rw[if_neg k6,if_neg k6];by_cases k8:q.k=8
   .rw[if_pos k8];by_cases hv:dV z q=q.o
    .rw[if_pos hv];exact eL _
    .rw[if_neg hv];exact g.B
   rw[if_neg k8];exact g.B
  have eR1:oE w m q=Bc z m q:=by
   unfold oE iC Bc vQ;rw[if_pos yr,if_pos ok,eV,eS];by_cases k3:q.k=3
   .rw[if_pos k3,if_pos k3];exact eK
   rw[if_neg k3,if_neg k3];by_cases k4:q.k=4
   .rw[if_pos k4,if_pos k4];exact eK
   rw[if_neg k4,if_neg k4];by_cases k6:q.k=6
   .rw[if_pos k6,if_pos k6];cases Fu z m q
    .exact g.R
    .rw[if_pos rfl,if_pos rfl];exact eK
   rw[if_neg k6,if_neg k6];by_cases k8:q.k=8
   .rw[if_pos k8];by_cases hv:dV z q=q.o
    .rw[if_pos hv];exact eK
    .rw[if_neg hv];exact g.R
   rw[if_neg k8];exact g.R
  have sT:∀(R:List Sl)(x:Sl),kL R (m:Int) x=R.set m x:=λR x=>by unfold kL;rw[if_pos (Bz m8),aL]
  have eR:wR w m q=dR z m q:=by
   unfold wR dR;rw[if_pos yr,if_pos ok,eR1,g.R,sT,sT,aL]
  have oz:∀j:Nat,z.h<=(j:Int)->(Bc z m q).getD j z0=z0:=λj hj=>by
   unfold Bc;split
   .exact apf g.l (g.o j hj)
   .exact g.o j hj
  refine⟨?_,?_,⟨g.h,g.hh,g.n,aaI g.wf,eB,eR,aaL g.l,λj hj=>?_⟩⟩
  .unfold wD dD;rw[if_pos yr,if_pos ok,eV]
  .unfold wG dG;rw[if_pos yr,if_pos ok,eV,eS]
  .have zY:z.h<=(j:Int):=hj;show(dR z m q).getD j z0=z0;unfold dR;rw[if_pos ok,sT,sT];have cZ:m≠j:=ω
   split
   .exact afP (g.o j hj) cZ
   .split
    .exact afP (oz j hj) cZ
    .exact oz j hj
theorem Rel.ld{z:jM}(g:Rel w z):BE w.B a 8=.t [.c (.u (UR z.fZ a 8)),.c (.b (Iz z.fZ a 8))]:=by
 have lB:w.B.length=64*z.fZ.n:=by rw[g.B,Fi]
 unfold BE UR Iz;rw[lB,u9];cases hb:hasB z.fZ.n a 8
 .rw[if_neg (by simp)];simp
 .have rJ:=hb;rw[rI]at rJ;rw[if_pos ⟨rfl,δ⟩,g.B,yM,acW ω δ];simp
section
variable {H:AH}
def GM(args:List AV)(H:AH):Option AV:=match args with|[.c (.p p 0 0),.c (.i h)]=>(Cx H p).map λz=>if 0<=h/\h<z.h then .t [.c (.u (z.R.getD h.toNat z0).ln),.c (.b (z.R.getD h.toNat z0).is)]else .t [.c (.u 0#64),.c (.b false)]|_=>none
theorem ayr(hI:ko H z):GM [.c (.p z.p 0 0),.c (.i h)] H=some (if 0<=h/\h<z.h then .t [.c (.u (z.R.getD h.toNat z0).ln),.c (.b (z.R.getD h.toNat z0).is)]else .t [.c (.u 0#64),.c (.b false)]):=by simp only[GM,Ty hI,pn]
theorem atc:bh Tryz.prog 50 (λargs H=>(GM args H).map λv=>(v,H)):=by
 refine jo (s:=GM) (tq VF tn) Tryz.func50 rfl Tryz.results50 Tryz.ntmps50 ?_;intro args H v h b9 hH;unfold GM at h;split at h<;>try(simp at h;done)
 rename_i p h0;rw[eE]at h;obtain⟨z,hz,rfl⟩:=h;obtain⟨hI,rfl⟩:=Tx hz;refine⟨by simp,by split<;>rfl,?_⟩;have ht:=λX=>W8 (hI.app X) (h:=h0);have Pl:=W8 hI (h:=h0);by_cases c:0<=h0/\h0<z.h
 .rw[if_pos c];rw[decide_eq_true c.1,decide_eq_true c.2]at ht Pl;have hh:=hI.hh;obtain⟨m,rfl⟩:∃m:Nat,h0=(m:Int):=⟨h0.toNat,ω⟩;have m8:m<8:=ω
  have mI:(m:Int)<8:=ω
  have m0:(0:Int)<=(m:Int):=ω
  obtain⟨x,hx⟩:∃x,z.R[m]?=some x:=⟨_,cP (by rw[hI.l];exact m8)⟩;have gx:z.R.getD m z0=x:=by rw[bX,hx];rfl
  rw[aL,gx];have oo:=hI.o;have g3:=abx (s:=z) hx;have l0:=zK hI.l hI.lm;have g4:(fg z z.R).getD (5+m*2) .any=.b x.is:=by
   have:=congrArg (λl=>l.getD 0 .any) g3;simpa[bX,zf]using this
  have g5:(fg z z.R).getD (5+m*2+1) .any=.u x.ln:=by
   have:=congrArg (λl=>l.getD 1 .any) g3;simpa[bX,zf]using this
  have g6:5+m*2+1<=343:=ω
  have g7:5+m*2+1+1<=343:=ω
  simp only[go_sem,seval,ht,Pl,oo,l0,mI,m0,g4,g5,g6,g7,aL];exact aE _
 .rw[if_neg c];have e:(decide (0<=h0)&&decide (h0<z.h))=false:=by
   rw[<-Bool.not_eq_true];simpa using λa b=>c ⟨a,b⟩
  rw[e]at ht Pl;simp only[go_sem,seval,ht,Pl];exact aE _
def aDX(args:List AV)(H:AH):Option AV:=match args with|[.c x]=>(Dd H x).map λz=>.g (iA z.R)|_=>none
def aDr(args:List AV)(H:AH):Option AV:=match args with|[.c x]=>(Dd H x).map λz=>.c (.p z.fZ.id 0 0)|_=>none
end
variable {H:AH}
section
variable {α:Type}
def NF(enc:α->List Sc)(ok:α->Prop)(H:AH)(x:Sc)(a:α):Prop:=∃id A B,x=.p id A.length 0/\hg H id=.own (A++(enc a++B))/\ok a
noncomputable def Hy(enc:α->List Sc)(ok:α->Prop)(H:AH)(x:Sc):Option α:=by classical exact if h:∃a,NF enc ok H x a then some h.choose else none
theorem ZK{enc:α->List Sc}{ok:α->Prop}{H:AH}{x:Sc}{a:α}(h:Hy enc ok H x=some a):NF enc ok H x a:=by
 unfold Hy at h;split at h
 .rename_i h1;simp only[ar]at h;rw[<-h];exact h1.choose_spec
 .simp at h
structure RR(enc:α->List Sc)(ok:α->Prop)(n:Nat):Prop where
 l:∀a,ok a->(enc a).length=n
 i:∀a b,ok a->ok b->enc a=enc b->a=b
theorem ZL{enc:α->List Sc}{ok:α->Prop}{n:Nat}(e:RR enc ok n){H:AH}{x:Sc}{a:α}(h:NF enc ok H x a):Hy enc ok H x=some a:=by
 have h1:∃a,NF enc ok H x a:=⟨a,h⟩;unfold Hy;rw[dif_pos h1];obtain⟨id,A,B,hx,ho,ha⟩:=h;obtain⟨qi,A',B',zZ,kv,FL⟩:=h1.choose_spec;rw[hx]at zZ;simp only[Sc.p.injEq,and_true]at zZ;obtain⟨rfl,hl⟩:=zZ;rw[ho]at kv;simp only[ae.own.injEq]at kv;obtain⟨_,h2⟩:=s5 kv hl;obtain⟨h3,_⟩:=s5 h2 (by rw[e.l _ ha,e.l _ FL]);rw[e.i _ _ ha FL h3]
def setAt(enc:α->List Sc)(n:Nat)(H:AH)(x:Sc)(a:α):AH:=match x with|.p id off _=>H.set id (.own ((hg H id).cells.take off++(enc a++(hg H id).cells.drop (off+n))))|_=>H
theorem JH{enc:α->List Sc}{n:Nat}{H:AH}{x:Sc}{a:α}:(setAt enc n H x a).length=H.length:=by unfold setAt;split<;>simp
theorem EL{enc:α->List Sc}{id:Nat}{A B:List Sc}{a b:α}(ho:hg H id=.own (A++(enc a++B)))(hl:(enc a).length=n):setAt enc n H (.p id A.length 0) b=H.set id (.own (A++(enc b++B))):=by
 simp only[setAt,ho,ae.cells];rw[List.take_left,<-fv A (enc a) B,List.drop_left' (by rw[cj,hl])]
theorem afN{enc:α->List Sc}{id:Nat}{A B:List Sc}{a b:α}(ho:hg H id=.own (A++(enc a++B)))(hl:(enc a).length=n)(hb:∀m,(enc b).all (Sc.aj m)=true)(hH:dF H=true):dF (setAt enc n H (.p id A.length 0) b)=true:=by
 rw[EL ho hl];refine py hH ?_;have aD:id<H.length:=eu (by rw[ho];rfl);have:=Cq hH id;rw[ho]at this;simp only[ae.cells,ae.cW,fJ,aQ]at this|-;exact⟨this.1,hb _,this.2.2⟩
end
def iK(w:BitVec 32):Sc:=.k .u32 (w.toNat:Int)
theorem Vv(w:BitVec 32):aw 32 (w.toNat:Int)=w:=by
 apply mB;rw[mf];have:=w.isLt;omega
theorem Y2(w:BitVec 32):IntKind.u32.wrap ((w.toNat:Nat):Int)=(w.toNat:Int):=by
 have:=w.isLt;simp[IntKind.wrap,IntKind.bits,IntKind.signed];omega
section
variable {P:Program}{t:Nat}{x y:Int}
theorem ajC:cA P .and t (.c (.k .u32 x)) (.c (.k .u32 y))=some (.c (.k .u32 ((aw 32 x&&&aw 32 y).toNat:Int))):=RY.trans (congrArg (λz=>some (AV.c (Sc.k .u32 z))) (Y2 (aw 32 x&&&aw 32 y)))
theorem ajD:cA P .or t (.c (.k .u32 x)) (.c (.k .u32 y))=some (.c (.k .u32 ((aw 32 x|||aw 32 y).toNat:Int))):=RZ.trans (congrArg (λz=>some (AV.c (Sc.k .u32 z))) (Y2 (aw 32 x|||aw 32 y)))
theorem ajB:cA P .andNot t (.c (.k .u32 x)) (.c (.k .u32 y))=some (.c (.k .u32 ((aw 32 x&&&~~~(aw 32 y)).toNat:Int))):=Zp.trans (congrArg (λz=>some (AV.c (Sc.k .u32 z))) (Y2 (aw 32 x&&&~~~(aw 32 y))))
end
theorem an6(fr:Fr)(s:Nat):Am.get fr s=.c .any\/∃p∈fr,p.1=s/\Am.get fr s=p.2:=by induction fr with
 |nil=>exact .inl rfl|cons a r ih=>
   obtain⟨d,v⟩:=a;by_cases h:d=s
   .exact .inr ⟨(d,v),by simp,h,by simp[Am.get,h]⟩
   .have e:Am.get ((d,v)::r) s=Am.get r s:=by simp[Am.get,h]
    rw[e];rcases ih with h1|⟨p,h1,h2,h3⟩
    .exact .inl h1
    .exact .inr ⟨p,by simp[h1],h2,h3⟩
theorem Wk.fq{fr eh:Fr}(hf:∀p∈eh,Am.get fr p.1=p.2):Wk n fr H (eh,H):=λρ w tm h1 h2=>⟨ρ,λs=>by
   show aZ ρ (Am.get eh s) (tm s);rcases an6 eh s with e|⟨p,hp,rfl,e⟩
   .rw[e];exact trivial
   .rw[e,<-hf p hp];exact h1 p.1,h2,λi _ hi hL _=>⟨i,hi,hL⟩,λ_ _=>rfl⟩
structure Ck where
 n:Int
 t:BitVec 64
 c:List (BitVec 64)s:List Bool
def aR(x:Ck):List Sc:=.i x.n::.u x.t::(x.c.map Sc.u++x.s.map Sc.b)
structure hF(x:Ck):Prop where
 c:x.c.length=8
 s:x.s.length=8
 n0:0<=x.n
 n1:x.n<=8
theorem gp{x:Ck}(h:hF x):(aR x).length=18:=by simp[aR,h.c,h.s]
theorem Gi{α β:Type}{f:α->β}(hf:∀a b,f a=f b->a=b):∀{l m:List α},l.map f=m.map f->l=m
 |[],[],_=>rfl|[],_::_,h=>by simp at h|_::_,[],h=>by simp at h|a::l,b::m,h=>by
   simp only[gz,cL]at h;rw[hf _ _ h.1,Gi hf h.2]
theorem SN:RR aR hF 18:=⟨λa h=>gp h,λa b ha hb h=>by
 simp only[aR,cL,Sc.i.injEq,Sc.u.injEq]at h;obtain⟨h1,h2,h3⟩:=h;obtain⟨h4,h5⟩:=s5 h3 (by simp[ha.c,hb.c]);have h6:=Gi (λ_ _ h=>Sc.u.inj h) h4;have h7:=Gi (λ_ _ h=>Sc.b.inj h) h5;cases a;cases b;simp only at h1 h2 h6 h7;subst h1 h2 h6 h7;rfl⟩
theorem N5(x:Ck)(n:Nat):(aR x).all (Sc.aj n)=true:=by
 simp only[aR,bK,fJ,vF,aQ];exact⟨rfl,rfl,cE.2 λ_ _=>rfl,cE.2 λ_ _=>rfl⟩
theorem N7(x:Ck):(aR x).getD 0 .any=.i x.n:=rfl
theorem N8(x:Ck):(aR x).getD 1 .any=.u x.t:=rfl
theorem N9{x:Ck}(h:hF x)(hk:k<8):(aR x).getD (2+k) .any=.u (x.c.getD k 0#64):=by
 simp only[aR,bX,zu 2 k,Hg];rw[uh (by simp[h.c];omega),qL,cP (by have:=h.c;omega)];rfl
theorem SO{x:Ck}(h:hF x)(hk:k<8):(aR x).getD (10+k) .any=.b (x.s.getD k false):=by
 simp only[aR,bX,show 10+k=(8+k)+1+1 by omega,Hg];rw[s9 (by simp[h.c]),ui,h.c,th,qL,cP (by have:=h.s;omega)];rfl
theorem SP(x:Ck)(v:BitVec 64):wr (aR x) 1 [.u v]=aR {x with t:=v}:=rfl
theorem SQ{x:Ck}(h:hF x)(hk:k<8)(v:BitVec 64):wr (aR x) (2+k) [.u v]=aR {x with c:=x.c.set k v}:=by
 rw[Dj (by rw[gp h];omega),zu];show .i x.n::.u x.t::((x.c.map Sc.u++x.s.map Sc.b).set k (.u v))=_;rw[mg _ _ (by simp[h.c];omega),<-Dp];rfl
theorem aan{x:Ck}(h:hF x)(hk:k<8)(v:Bool):wr (aR x) (10+k) [.b v]=aR {x with s:=x.s.set k v}:=by
 rw[Dj (by rw[gp h];omega),show 10+k=(8+k)+1+1 by omega];show .i x.n::.u x.t::((x.c.map Sc.u++x.s.map Sc.b).set (8+k) (.b v))=_;rw[Ka _ _ (by simp[h.c]),ui,h.c,th,<-Dp];rfl
theorem hF.t{x:Ck}(h:hF x)(v:BitVec 64):hF {x with t:=v}:=⟨h.c,h.s,h.n0,h.n1⟩
theorem hF.azy{x:Ck}(h:hF x)(k:Nat)(v:BitVec 64):hF {x with c:=x.c.set k v}:=⟨by simp[h.c],h.s,h.n0,h.n1⟩
theorem hF.azA{x:Ck}(h:hF x)(k:Nat)(v:Bool):hF {x with s:=x.s.set k v}:=⟨h.c,by simp[h.s],h.n0,h.n1⟩
structure Ca where
 k:Nat
 h:Nat
 up:BitVec 64
def cb(n:Int)(off:BitVec 64)(size:Int):Ca:=if size=4/\off%4#64=0#64/\off/4#64<aw 64 n then⟨1,(off/4#64).toNat,0#64⟩else if(¬size=4/\¬size=8)\/¬off%aw 64 size=0#64 then⟨0,0,0#64⟩else if 0#64<aw 64 n/\off-off%8#64=49144#64 then⟨3,0,off%8#64*8#64⟩else if 16384#64<=off-off%8#64/\off-off%8#64<16384#64+8#64*aw 64 n then⟨2,((off-off%8#64-16384#64)/8#64).toNat,off%8#64*8#64⟩else⟨0,0,0#64⟩
theorem Ks{n:Int}(n0:0<=n)(n1:n<=8)(off:BitVec 64)(size:Int):(cb n off size).h<8:=by
 have e:(aw 64 n).toNat=n.toNat:=by rw[mf];omega
 unfold cb;split
 .rename_i h;have h:=h.2.2;rw[nP,e]at h;show(off/4#64).toNat<8;omega
 .split
  .decide
  .split
   .show(0:Nat)<8;decide
   .split
    .rename_i h;obtain⟨h1,h⟩:=h;rw[nP,wU,Cc,e]at h;rw[sY]at h1;have e1:(16384#64).toNat=16384:=rfl;have e2:(8#64).toNat=8:=rfl;rw[e1,e2]at h;rw[e1]at h1;show((off-off%8#64-16384#64)/8#64).toNat<8;rw[wW,zo,e1,e2];omega
    .decide
structure Pk where
 n:Int
 p:List Int
 w:BitVec 32
 q:BitVec 32
 s:BitVec 32
 e:List (BitVec 32)l:List Int
def k8(x:Int):Sc:=.k .u8 x
def eJ(x:Pk):List Sc:=.i x.n::(x.p.map k8++(iK x.w::iK x.q::iK x.s::(x.e.map iK++x.l.map k8)))
structure cM(x:Pk):Prop where
 p:x.p.length=32
 e:x.e.length=16
 l:x.l.length=16
 n0:0<=x.n
 n1:x.n<=8
 p7:∀k,0<=x.p.getD k 0/\x.p.getD k 0<=7
 l7:∀k,0<=x.l.getD k 0/\x.l.getD k 0<=7
theorem Al{x:Pk}(h:cM x):(eJ x).length=68:=by simp[eJ,h.p,h.e,h.l]
theorem Rh(a b:BitVec 32)(h:iK a=iK b):a=b:=by
 simp only[iK,Sc.k.injEq,true_and]at h;exact mB ω
theorem ab7(a b:Int)(h:k8 a=k8 b):a=b:=by simpa[k8]using h
theorem V7:RR eJ cM 68:=⟨λa h=>Al h,λa b ha hb h=>by
 simp only[eJ,cL,Sc.i.injEq]at h;obtain⟨h1,h2⟩:=h;obtain⟨h3,h4⟩:=s5 h2 (by simp[ha.p,hb.p]);simp only[cL]at h4;obtain⟨h5,h6,h7,h8⟩:=h4;obtain⟨h9,pH⟩:=s5 h8 (by simp[ha.e,hb.e]);have g3:=Gi ab7 h3;have g9:=Gi Rh h9;have HX:=Gi ab7 pH;have g5:=Rh _ _ h5;have g6:=Rh _ _ h6;have g7:=Rh _ _ h7;clear h2 h3 h5 h6 h7 h8 h9 pH ha hb;cases a;cases b;simp only at h1 g3 g5 g6 g7 g9 HX;subst h1 g3 g5 g6 g7 g9 HX;rfl⟩
theorem av3(x:Pk)(n:Nat):(eJ x).all (Sc.aj n)=true:=by
 simp only[eJ,bK,fJ,vF,aQ];exact⟨rfl,cE.2 λ_ _=>rfl,rfl,rfl,rfl,cE.2 λ_ _=>rfl,cE.2 λ_ _=>rfl⟩
theorem av9{x:Pk}(h:cM x)(hk:k<32):(eJ x).getD (1+k) .any=k8 (x.p.getD k 0):=by
 simp only[eJ,bX,zu 1 k,Hg];rw[uh (by simp[h.p];omega),qL,cP (by have:=h.p;omega)];rfl
theorem L7{x:Pk}(h:cM x)(k:Nat):(eJ x).getD (33+k) .any=(iK x.w::iK x.q::iK x.s::(x.e.map iK++x.l.map k8)).getD k .any:=by
 simp only[eJ,bX,show 33+k=(32+k)+1 by omega,Hg];rw[s9 (by simp[h.p]),ui,h.p,th]
theorem awc{x:Pk}(h:cM x):(eJ x).getD 33 .any=iK x.w:=L7 h 0
theorem awa{x:Pk}(h:cM x):(eJ x).getD 34 .any=iK x.q:=L7 h 1
theorem awb{x:Pk}(h:cM x):(eJ x).getD 35 .any=iK x.s:=L7 h 2
theorem av7{x:Pk}(h:cM x)(hk:k<16):(eJ x).getD (36+k) .any=iK (x.e.getD k 0#32):=by
 rw[show 36+k=33+(k+1+1+1)by omega,L7 h];simp only[bX,Hg];rw[uh (by simp[h.e];omega),qL,cP (by have:=h.e;omega)];rfl
theorem av8{x:Pk}(h:cM x)(hk:k<16):(eJ x).getD (52+k) .any=k8 (x.l.getD k 0):=by
 rw[show 52+k=33+(16+k+1+1+1)by omega,L7 h];simp only[bX,Hg];rw[s9 (by simp[h.e]),ui,h.e,th,qL,cP (by have:=h.l;omega)];rfl
theorem awf{x:Pk}(h:cM x)(hk:k<32)(v:Int):wr (eJ x) (1+k) [k8 v]=eJ {x with p:=x.p.set k v}:=by
 rw[Dj (by rw[Al h];omega),zu];show .i x.n::((x.p.map k8++_).set k (k8 v))=_;rw[mg _ _ (by simp[h.p];omega),<-Dp];rfl
theorem L8{x:Pk}(h:cM x)(hk:k<35)(v:Sc):wr (eJ x) (33+k) [v]=.i x.n::(x.p.map k8++(iK x.w::iK x.q::iK x.s::(x.e.map iK++x.l.map k8)).set k v):=by
 rw[Dj (by rw[Al h];omega),show 33+k=(32+k)+1 by omega];show .i x.n::((x.p.map k8++_).set (32+k) v)=_;rw[Ka _ _ (by simp[h.p]),ui,h.p,th]
theorem awi{x:Pk}(h:cM x)(v:BitVec 32):wr (eJ x) 33 [iK v]=eJ {x with w:=v}:=L8 (k:=0) h δ _
theorem awg{x:Pk}(h:cM x)(v:BitVec 32):wr (eJ x) 34 [iK v]=eJ {x with q:=v}:=L8 (k:=1) h δ _
theorem awh{x:Pk}(h:cM x)(v:BitVec 32):wr (eJ x) 35 [iK v]=eJ {x with s:=v}:=L8 (k:=2) h δ _
theorem awd{x:Pk}(h:cM x)(hk:k<16)(v:BitVec 32):wr (eJ x) (36+k) [iK v]=eJ {x with e:=x.e.set k v}:=by
 rw[show 36+k=33+(k+1+1+1)by omega,L8 h ω];show .i x.n::(x.p.map k8++(iK x.w::iK x.q::iK x.s::((x.e.map iK++x.l.map k8).set k (iK v))))=_;rw[mg _ _ (by simp[h.e];omega),<-Dp];rfl
theorem awe{x:Pk}(h:cM x)(hk:k<16)(v:Int):wr (eJ x) (52+k) [k8 v]=eJ {x with l:=x.l.set k v}:=by
 rw[show 52+k=33+(16+k+1+1+1)by omega,L8 h ω];show .i x.n::(x.p.map k8++(iK x.w::iK x.q::iK x.s::((x.e.map iK++x.l.map k8).set (16+k) (k8 v))))=_;rw[Ka _ _ (by simp[h.e]),ui,h.e,th,<-Dp];rfl
theorem abG{l:List Int}(h:∀k,0<=l.getD k 0/\l.getD k 0<=7){i:Nat}{v:Int}(hv:0<=v/\v<=7)(k:Nat):0<=(l.set i v).getD k 0/\(l.set i v).getD k 0<=7:=by
 have:=h k;simp only[bX,rq]at this|-;split
 .split
  .exact hv
  .simp
 .exact this
theorem cM.JJ{x:Pk}{v:Int}(h:cM x)(k:Nat)(hv:0<=v/\v<=7):cM {x with p:=x.p.set k v}:=⟨by simp[h.p],h.e,h.l,h.n0,h.n1,abG h.p7 hv,h.l7⟩
theorem cM.Nh{x:Pk}{v:Int}(h:cM x)(k:Nat)(hv:0<=v/\v<=7):cM {x with l:=x.l.set k v}:=⟨h.p,h.e,by simp[h.l],h.n0,h.n1,h.p7,abG h.l7 hv⟩
theorem cM.GZ{x:Pk}(h:cM x)(k:Nat)(v:BitVec 32):cM {x with e:=x.e.set k v}:=⟨h.p,by simp[h.e],h.l,h.n0,h.n1,h.p7,h.l7⟩
theorem cM.rU{x:Pk}(h:cM x)(w q s:BitVec 32):cM {x with w:=w,q:=q,s:=s}:=⟨h.p,h.e,h.l,h.n0,h.n1,h.p7,h.l7⟩
def zI(p:List Int)(am:BitVec 32)(ab:Int)(i:Nat):Bool:=decide (am>>>i&&&1#32=1#32)&&decide (ab<p.getD i 0)
def jN(p:List Int)(am:BitVec 32)(ab:Int):Nat->Nat|0=>0|k+1=>if(zI p am ab (k+1)&&(decide (jN p am ab k=0)||decide (p.getD (jN p am ab k) 0<p.getD (k+1) 0)))=true then k+1 else jN p am ab k
theorem Ko{p:List Int}{am:BitVec 32}{ab:Int}:∀k,jN p am ab k<=k
 |0=>aB 0|k+1=>by
   have:=Ko (p:=p) (am:=am) (ab:=ab) k;unfold jN;split<;>omega
def dA(i:Nat):BitVec 32:=1#32<<<i
structure Pa where
 k:Int
 i:Nat
def bM(n:Int)(off:BitVec 64)(size:Int):Pa:=if¬size=4\/¬off%4#64=0#64\/aw 64 (2*n)=0#64 then⟨0,0⟩else if 4#64<=off/\off<128#64 then⟨1,(off/4#64).toNat⟩else if off=4096#64 then⟨2,0⟩else if 8192#64<=off/\off<8192#64+128#64*aw 64 (2*n)/\off%128#64=0#64 then⟨3,((off-8192#64)/128#64).toNat⟩else if 2097152#64<=off/\off<2097152#64+4096#64*aw 64 (2*n)/\off%4096#64=0#64 then⟨4,((off-2097152#64)/4096#64).toNat⟩else if 2097152#64<=off/\off<2097152#64+4096#64*aw 64 (2*n)/\off%4096#64=4#64 then⟨5,((off-2097152#64)/4096#64).toNat⟩else⟨0,0⟩
variable {off:BitVec 64}
theorem U7{n:Int}{a b:Nat}(n0:0<=n)(n1:n<=8)(ha:a<=2097152)(hb:b=128\/b=4096)(h1:kD 64 a<=off)(h2:off<kD 64 a+kD 64 b*aw 64 (2*n)):((off-kD 64 a)/kD 64 b).toNat<16:=by
 have e:(aw 64 (2*n)).toNat=2*n.toNat:=by rw[mf];omega
 have ea:(kD 64 a).toNat=a:=by rw[vB];omega
 have eb:(kD 64 b).toNat=b:=by rw[vB];omega
 rw[nP,wU,Cc,e,ea,eb]at h2;rw[sY,ea]at h1;rw[wW,zo,ea,eb];have:=off.isLt;have hn:n.toNat<=8:=ω
 rcases hb with rfl|rfl<;>omega
theorem L9{n:Int}(n0:0<=n)(n1:n<=8)(off:BitVec 64)(size:Int):(bM n off size).i<32/\((bM n off size).k≠1->(bM n off size).i<16):=by
 unfold bM;split
 .exact⟨by show(0:Nat)<32;decide,λ_=>by show(0:Nat)<16;decide⟩
 split
 .rename_i h;have h:=h.2;rw[nP]at h;have e1:(128#64).toNat=128:=rfl;rw[e1]at h;refine⟨?_,λc=>absurd rfl c⟩;show(off/4#64).toNat<32;rw[wW];have e1:(4#64).toNat=4:=rfl;rw[e1];omega
 split
 .exact⟨by show(0:Nat)<32;decide,λ_=>by show(0:Nat)<16;decide⟩
 split
 .rename_i h;have:=U7 n0 n1 (a:=8192) (b:=128) δ (.inl rfl) h.1 h.2.1;exact⟨Nat.lt_trans this δ,λ_=>this⟩
 split
 .rename_i h;have:=U7 n0 n1 (a:=2097152) (b:=4096) δ (.inr rfl) h.1 h.2.1;exact⟨Nat.lt_trans this δ,λ_=>this⟩
 split
 .rename_i h;have:=U7 n0 n1 (a:=2097152) (b:=4096) δ (.inr rfl) h.1 h.2.1;exact⟨Nat.lt_trans this δ,λ_=>this⟩
 .exact⟨by show(0:Nat)<32;decide,λ_=>by show(0:Nat)<16;decide⟩
noncomputable def tC(H:AH)(x:Sc):Option Ck:=Hy aR hF H x
def zG(H:AH)(x:Sc)(c:Ck):AH:=setAt aR 18 H x c
structure RO(H:AH)(id o:Nat)(cs:List Sc)(c:Ck)(F:Ck->List Sc):Prop where
 ok:hF c
 ho:hg H id=.own cs
 aD:id<H.length
 q:o+18<=cs.length
 d0:cs.getD o .any=.i c.n
 d1:cs.getD (o+1) .any=.u c.t
 dc:∀k,k<8->cs.getD (o+2+k) .any=.u (c.c.getD k 0#64)ds:∀k,k<8->cs.getD (o+10+k) .any=.b (c.s.getD k false)w1:∀v,wr cs (o+1) [.u v]=F {c with t:=v}wc:∀k,k<8->∀v,wr cs (o+2+k) [.u v]=F {c with c:=c.c.set k v}ws:∀k,k<8->∀v,wr cs (o+10+k) [.b v]=F {c with s:=c.s.set k v}set:∀d,zG H (.p id o 0) d=H.set id (.own (F d))aj:∀d,dF H=true->dF (H.set id (.own (F d)))=true
 self:F c=cs
 enc:∀d,∃A B,o=A.length/\F d=A++(aR d++B)
variable {x:Sc}
theorem HE{c:Ck}(h:tC H x=some c):∃id o cs F,x=.p id o 0/\RO H id o cs c F:=by
 obtain⟨id,A,B,rfl,ho,ok⟩:=ZK h;have ll:=gp ok;refine⟨id,A.length,A++(aR c++B),λd=>A++(aR d++B),rfl,ok,ho,eu (by rw[ho];rfl),by simp only[cj,ll];omega,?_,?_,?_,?_,?_,?_,?_,λd=>EL ho ll,λd hH=>?_,rfl,λd=>⟨A,B,rfl,rfl⟩⟩
 .have:=xx (A:=A) (M:=aR c) (B:=B) (i:=0) ω;rw[ru]at this;exact this
 .exact xx (A:=A) (M:=aR c) (B:=B) (i:=1) ω
 .intro k hk;rw[m9,xx ω,N9 ok hk]
 .intro k hk;rw[m9,xx ω,SO ok hk]
 .intro v;rw[AO (by rw[ll];simp),SP]
 .intro k hk v;rw[m9,AO (by rw[ll];simp;omega),SQ ok hk]
 .intro k hk v;rw[m9,AO (by rw[ll];simp;omega),aan ok hk]
 .have:=afN ho ll (N5 d) hH;rwa[EL ho ll]at this
theorem SL{H:AH}{id:Nat}{A B:List Sc}{c:Ck}(ho:hg H id=.own (A++(aR c++B)))(ok:hF c):tC H (.p id A.length 0)=some c:=ZL SN ⟨id,A,B,rfl,ho,ok⟩
theorem RO.q'{H:AH}{id o:Nat}{cs:List Sc}{c:Ck}{F:Ck->List Sc}(h:RO H id o cs c F){K:AH}(hk:hg K id=hg H id):tC K (.p id o 0)=some c:=by
 obtain⟨A,B,e1,e2⟩:=h.enc c;subst e1;exact SL (by rw[hk,h.ho,<-h.self,e2]) h.ok
def ki(x:Sc)(a:Ca):Sc:=match x with|.p id o _=>if a.k=3 then .p id (o+1) 0 else if a.k=2 then .p id (o+2+a.h) 0 else .dk|_=>.dk
theorem Vx{n:Int}(n0:0<=n)(n1:n<=8):(aw 64 n).toNat=n.toNat:=by rw[mf];omega
theorem ajT{n:Int}(n0:0<=n)(n1:n<=8)(l:a<aw 64 n):a.toInt=(a.toNat:Int):=by
 rw[nP,Vx n0 n1]at l;rw[x9,if_pos ω]
theorem Ob{n:Int}(n0:0<=n)(n1:n<=8)(g:16384#64<=a)(h:a<16384#64+8#64*aw 64 n):((a-16384#64)/8#64).toNat<8:=by
 rw[nP,wU,Cc,Vx n0 n1]at h;rw[sY]at g;have e1:(16384#64).toNat=16384:=rfl;have e2:(8#64).toNat=8:=rfl;rw[e1,e2]at h;rw[e1]at g;rw[wW,zo,e1,e2];omega
theorem ajO{id o n:Nat}(a:Ca)(h:id<n):Sc.aj n (ki (.p id o 0) a)=true:=by
 unfold ki;dsimp only;split
 .simpa[Sc.aj]using h
 .split
  .simpa[Sc.aj]using h
  .rfl
noncomputable def Mu(args:List AV)(H:AH):Option AV:=match args with|[.c x,.c (.u off),.c (.i sz)]=>(tC H x).map λc=>.t [.g [.i (if(cb c.n off sz).k=1 then((cb c.n off sz).h:Int)else 0),ki x (cb c.n off sz),.u (cb c.n off sz).up],.c (.b (!decide ((cb c.n off sz).k=0)))]|_=>none
variable {sz:Int}
theorem wI{c:Ck}(h:tC H x=some c):Mu [.c x,.c (.u off),.c (.i sz)] H=some (.t [.g [.i (if(cb c.n off sz).k=1 then((cb c.n off sz).h:Int)else 0),ki x (cb c.n off sz),.u (cb c.n off sz).up],.c (.b (!decide ((cb c.n off sz).k=0)))]):=by simp only[Mu,h,pn]
theorem VD:bh Tryz.prog 180 (λargs H=>(Mu args H).map λv=>(v,H)):=by
 refine jo (s:=Mu) tn Tryz.func180 rfl Tryz.results180 Tryz.ntmps180 ?_;intro args H v h b9 hH;unfold Mu at h;split at h
 .rename_i x off sz;rw[eE]at h;obtain⟨c,hc,rfl⟩:=h;obtain⟨id,o,cs,F,rfl,ck⟩:=HE hc;have aD:=ck.aD;have ho:=ck.ho;have q:=ck.q;have d0:=ck.d0;have fW:∀X,hg (H++X) id=.own cs:=λX=>by rw[cB aD,ho]
  refine⟨by simp,by simp only[AV.aj,bK,dY,ajO _ aD];rfl,?_⟩;have hh:=Ks ck.ok.n0 ck.ok.n1 off sz;have r4:aw 64 4=4#64:=rfl;have r8:aw 64 8=8#64:=rfl;by_cases s4:sz=4
  .subst s4;rcases Classical.propComplete (off%4#64=0#64)with m4|m4
   .rcases Classical.propComplete (off/4#64<aw 64 c.n)with l|l
    .have ei:=ajT ck.ok.n0 ck.ok.n1 (of_eq_true l);have e:cb c.n off 4=⟨1,(off/4#64).toNat,0#64⟩:=if_pos ⟨rfl,of_eq_true m4,of_eq_true l⟩;rw[e]at hh|-;(repeat(first|simp only[go_sem,seval,ho,fW,d0,ki,m4,l]|simp(disch:=omega)only[w0]));exact⟨by rw[ei],aC _ _⟩
    .rcases Classical.propComplete (0#64<aw 64 c.n)with z|z
     .rcases Classical.propComplete (off-off%8#64=49144#64)with e|e
      ·(repeat(first|simp only[go_sem,seval,ho,fW,d0,ki,cb,r4,m4,l,z,e,true_and,and_true,false_and,and_false,or_true,true_or,or_false,false_or,not_true_eq_false,not_false_eq_true,if_true,if_false]|simp(disch:=omega)only[w0]));exact aC _ _
      .rcases Classical.propComplete (16384#64<=off-off%8#64)with g|g
       .rcases Classical.propComplete (off-off%8#64<16384#64+8#64*aw 64 c.n)with t|t
        .have ix:=Ob ck.ok.n0 ck.ok.n1 (of_eq_true g) (of_eq_true t);(repeat(first|simp only[go_sem,seval,ho,fW,d0,ki,cb,r4,m4,l,z,e,g,t,true_and,and_true,false_and,and_false,or_true,true_or,or_false,false_or,not_true_eq_false,not_false_eq_true,if_true,if_false]|simp(disch:=omega)only[w0]));exact aC _ _
        ·(repeat(first|simp only[go_sem,seval,ho,fW,d0,ki,cb,r4,m4,l,z,e,g,t,true_and,and_true,false_and,and_false,or_true,true_or,or_false,false_or,not_true_eq_false,not_false_eq_true,if_true,if_false]|simp(disch:=omega)only[w0]));exact aC _ _
       ·(repeat(first|simp only[go_sem,seval,ho,fW,d0,ki,cb,r4,m4,l,z,e,g,true_and,and_true,false_and,and_false,or_true,true_or,or_false,false_or,not_true_eq_false,not_false_eq_true,if_true,if_false]|simp(disch:=omega)only[w0]));exact aC _ _
     .rcases Classical.propComplete (16384#64<=off-off%8#64)with g|g
      .rcases Classical.propComplete (off-off%8#64<16384#64+8#64*aw 64 c.n)with t|t
       .have ix:=Ob ck.ok.n0 ck.ok.n1 (of_eq_true g) (of_eq_true t);(repeat(first|simp only[go_sem,seval,ho,fW,d0,ki,cb,r4,m4,l,z,g,t,true_and,and_true,false_and,and_false,or_true,true_or,or_false,false_or,not_true_eq_false,not_false_eq_true,if_true,if_false]|simp(disch:=omega)only[w0]));exact aC _ _
       ·(repeat(first|simp only[go_sem,seval,ho,fW,d0,ki,cb,r4,m4,l,z,g,t,true_and,and_true,false_and,and_false,or_true,true_or,or_false,false_or,not_true_eq_false,not_false_eq_true,if_true,if_false]|simp(disch:=omega)only[w0]));exact aC _ _
      ·(repeat(first|simp only[go_sem,seval,ho,fW,d0,ki,cb,r4,m4,l,z,g,true_and,and_true,false_and,and_false,or_true,true_or,or_false,false_or,not_true_eq_false,not_false_eq_true,if_true,if_false]|simp(disch:=omega)only[w0]));exact aC _ _
   ·(repeat(first|simp only[go_sem,seval,ho,fW,d0,ki,cb,r4,m4,true_and,and_true,false_and,and_false,or_true,true_or,or_false,false_or,not_true_eq_false,not_false_eq_true,if_true,if_false]|simp(disch:=omega)only[w0]));exact aC _ _
  by_cases s8:sz=8
  .subst s8;rcases Classical.propComplete (off%8#64=0#64)with m8|m8
   .rcases Classical.propComplete (0#64<aw 64 c.n)with z|z
    .rcases Classical.propComplete (off-off%8#64=49144#64)with e|e
     ·(repeat(first|simp only[go_sem,seval,ho,fW,d0,ki,cb,r8,m8,z,e,true_and,and_true,false_and,and_false,or_true,true_or,or_false,false_or,not_true_eq_false,not_false_eq_true,if_true,if_false]|simp(disch:=omega)only[w0]));exact aC _ _
     .rcases Classical.propComplete (16384#64<=off-off%8#64)with g|g
      .rcases Classical.propComplete (off-off%8#64<16384#64+8#64*aw 64 c.n)with t|t
       .have ix:=Ob ck.ok.n0 ck.ok.n1 (of_eq_true g) (of_eq_true t);(repeat(first|simp only[go_sem,seval,ho,fW,d0,ki,cb,r8,m8,z,e,g,t,true_and,and_true,false_and,and_false,or_true,true_or,or_false,false_or,not_true_eq_false,not_false_eq_true,if_true,if_false]|simp(disch:=omega)only[w0]));exact aC _ _
       ·(repeat(first|simp only[go_sem,seval,ho,fW,d0,ki,cb,r8,m8,z,e,g,t,true_and,and_true,false_and,and_false,or_true,true_or,or_false,false_or,not_true_eq_false,not_false_eq_true,if_true,if_false]|simp(disch:=omega)only[w0]));exact aC _ _
      ·(repeat(first|simp only[go_sem,seval,ho,fW,d0,ki,cb,r8,m8,z,e,g,true_and,and_true,false_and,and_false,or_true,true_or,or_false,false_or,not_true_eq_false,not_false_eq_true,if_true,if_false]|simp(disch:=omega)only[w0]));exact aC _ _
    .rcases Classical.propComplete (16384#64<=off-off%8#64)with g|g
     .rcases Classical.propComplete (off-off%8#64<16384#64+8#64*aw 64 c.n)with t|t
      .have ix:=Ob ck.ok.n0 ck.ok.n1 (of_eq_true g) (of_eq_true t);(repeat(first|simp only[go_sem,seval,ho,fW,d0,ki,cb,r8,m8,z,g,t,true_and,and_true,false_and,and_false,or_true,true_or,or_false,false_or,not_true_eq_false,not_false_eq_true,if_true,if_false]|simp(disch:=omega)only[w0]));exact aC _ _
      ·(repeat(first|simp only[go_sem,seval,ho,fW,d0,ki,cb,r8,m8,z,g,t,true_and,and_true,false_and,and_false,or_true,true_or,or_false,false_or,not_true_eq_false,not_false_eq_true,if_true,if_false]|simp(disch:=omega)only[w0]));exact aC _ _
     ·(repeat(first|simp only[go_sem,seval,ho,fW,d0,ki,cb,r8,m8,z,g,true_and,and_true,false_and,and_false,or_true,true_or,or_false,false_or,not_true_eq_false,not_false_eq_true,if_true,if_false]|simp(disch:=omega)only[w0]));exact aC _ _
   ·(repeat(first|simp only[go_sem,seval,ho,fW,d0,ki,cb,r8,m8,true_and,and_true,false_and,and_false,or_true,true_or,or_false,false_or,not_true_eq_false,not_false_eq_true,if_true,if_false]|simp(disch:=omega)only[w0]));exact aC _ _
  (repeat(first|simp only[go_sem,seval,ho,fW,d0,ki,cb,s4,s8,true_and,and_true,false_and,and_false,or_true,true_or,or_false,false_or,not_true_eq_false,not_false_eq_true,if_true,if_false]|simp(disch:=omega)only[w0]));exact aC _ _
 .simp at h
variable {cs:List Sc}
theorem rW{m:List Sc}(h:wr cs k [x]=m):bJ k cs++x::cQ (k+1) cs=m:=by rw[<-h,Hb];simp
theorem Kt(n:Int)(off:BitVec 64)(sz:Int):(cb n off sz).k=0\/(cb n off sz).k=1\/(cb n off sz).k=2\/(cb n off sz).k=3:=by
 unfold cb;repeat' split
 all_goals simp
def xj(x:Ck)(a:Ca):BitVec 64:=if a.k=3 then x.t else x.c.getD a.h 0#64
def uX(x:Ck)(a:Ca)(sz:Int):BitVec 64:=if a.k=0 then 0#64 else if a.k=1 then(if x.s.getD a.h false=true then 1#64 else 0#64)else if sz=8 then xj x a else xj x a>>>a.up.toNat&&&4294967295#64
def yo(x:Ck)(a:Ca)(v:BitVec 64):Ck:=if a.k=3 then{x with t:=v}else{x with c:=x.c.set a.h v}
def kG(x:Ck)(a:Ca)(sz:Int)(v:BitVec 64):Ck:=if a.k=0 then x else if a.k=1 then{x with s:=x.s.set a.h (decide (v&&&1#64=1#64))}else if sz=8 then yo x a v else yo x a (xj x a&&&~~~(4294967295#64<<<a.up.toNat)|||v<<<a.up.toNat&&&4294967295#64<<<a.up.toNat)
theorem SM{x:Ck}(h:hF x)(a:Ca)(sz:Int)(v:BitVec 64):hF (kG x a sz v):=by
 have p:∀w,hF (yo x a w):=λw=>by
  unfold yo;split
  .exact h.t _
  .exact h.azy _ _
 unfold kG;repeat' split
 .exact h
 .exact h.azA _ _
 .exact p _
 .exact p _
noncomputable def Jc(args:List AV)(H:AH):Option AV:=match args with|[.c x,.c (.u off),.c (.i sz)]=>(tC H x).map λc=>.t [.c (.u (uX c (cb c.n off sz) sz)),.c (.b (!decide ((cb c.n off sz).k=0)))]|_=>none
theorem ax5{c:Ck}(h:tC H x=some c):Jc [.c x,.c (.u off),.c (.i sz)] H=some (.t [.c (.u (uX c (cb c.n off sz) sz)),.c (.b (!decide ((cb c.n off sz).k=0)))]):=by simp only[Jc,h,pn]
theorem asI:bh Tryz.prog 130 (λargs H=>(Jc args H).map λv=>(v,H)):=by
 refine jo (s:=Jc) (tq VD tn) Tryz.func130 rfl Tryz.results130 Tryz.ntmps130 ?_;intro args H v h b9 hH;unfold Jc at h;split at h
 .rename_i x off sz;rw[eE]at h;obtain⟨c,hc,rfl⟩:=h;obtain⟨id,o,cs,F,rfl,ck⟩:=HE hc;have aD:=ck.aD;have ho:=ck.ho;have q:=ck.q;have d1:=ck.d1;have fW:∀X,hg (H++X) id=.own cs:=λX=>by rw[cB aD,ho]
  refine⟨by simp,rfl,?_⟩;have f0:=wI hc (off:=off) (sz:=sz);have hh:=Ks ck.ok.n0 ck.ok.n1 off sz;have hk:=Kt c.n off sz;generalize cb c.n off sz=a at*;have dc:=ck.dc a.h hh;have ds:=ck.ds a.h hh;rcases hk with k|k|k|k
  .simp only[ki,k]at f0;simp only[go_sem,seval,wI,f0,k,uX];exact aC _ _
  .simp only[ki,k]at f0;cases hs:c.s.getD a.h false;all_goals rw[hs]at ds
   all_goals(repeat(first|simp only[go_sem,seval,wI,f0,k,uX,ho,fW,ds,hs,aL]|simp(disch:=omega)only[w0]))
   all_goals exact aC _ _
  .simp only[ki,k]at f0;rcases Classical.propComplete (sz=8)with s8|s8;all_goals(repeat(first|simp only[go_sem,seval,wI,f0,k,uX,xj,ho,fW,dc,s8]|simp(disch:=omega)only[w0]))
   all_goals exact aC _ _
  .simp only[ki,k]at f0;rcases Classical.propComplete (sz=8)with s8|s8;all_goals(repeat(first|simp only[go_sem,seval,wI,f0,k,uX,xj,ho,fW,d1,s8]|simp(disch:=omega)only[w0]))
   all_goals exact aC _ _
 .simp at h
noncomputable def En(args:List AV)(H:AH):Option (AV×AH):=match args with|[.c x,.c (.u off),.c (.i sz),.c (.u v)]=>(tC H x).map λc=>(.c (.b (!decide ((cb c.n off sz).k=0))),zG H x (kG c (cb c.n off sz) sz v))|_=>none
theorem ax8{c:Ck}(h:tC H x=some c):En [.c x,.c (.u off),.c (.i sz),.c (.u v)] H=some (.c (.b (!decide ((cb c.n off sz).k=0))),zG H x (kG c (cb c.n off sz) sz v)):=by simp only[En,h,pn]
theorem apH(args:List AV)(H:AH)(v:AV)(H1:AH)(h:En args H=some (v,H1)):H.length<=H1.length:=by
 unfold En at h;split at h
 .rw[eE]at h;obtain⟨c,_,h⟩:=h;simp only[bE]at h;rw[<-h.2,zG,JH];exact aB _
 .simp at h
theorem asL:bh Tryz.prog 136 En:=by
 refine gJ (s:=En) (tq VD tn) Tryz.func136 rfl Tryz.results136 Tryz.ntmps136 apH ?_;intro args H v H1 h b9 hH;unfold En at h;split at h
 .rename_i x off sz w;rw[eE]at h;obtain⟨c,hc,h⟩:=h;simp only[bE]at h;obtain⟨rfl,rfl⟩:=h;obtain⟨id,o,cs,F,rfl,ck⟩:=HE hc;have aD:=ck.aD;have ho:=ck.ho;have q:=ck.q;have d1:=ck.d1;have fW:∀X,hg (H++X) id=.own cs:=λX=>by rw[cB aD,ho]
  have sX:∀X y,(H++X).set id y=H.set id y++X:=λX y=>mg _ _ aD;refine⟨by simp,?_⟩;have f0:=wI hc (off:=off) (sz:=sz);have hh:=Ks ck.ok.n0 ck.ok.n1 off sz;have hk:=Kt c.n off sz;have hb:=λd=>ck.aj d hH;rw[ck.set];generalize cb c.n off sz=a at*;have dc:=ck.dc a.h hh;have wc:=λv=>rW (ck.wc a.h hh v);have w1:=λv=>rW (ck.w1 v);have ws:=λv=>rW (ck.ws a.h hh v);rcases hk with k|k|k|k
  .have e:kG c a sz w=c:=by unfold kG;rw[if_pos k]
   rw[e,ck.self,<-ho,uK rfl aD];simp only[ki,k]at f0;simp only[go_sem,seval,wI,f0,k];exact cY rfl (aC _ _) hH (aB _)
  .simp only[ki,k]at f0;have e:kG c a sz w={c with s:=c.s.set a.h (decide (w&&&1#64=1#64))}:=by unfold kG;rw[if_neg (by rw[k];decide),if_pos k]
   rw[e];have hb:=hb {c with s:=c.s.set a.h (decide (w&&&1#64=1#64))};have ws:=ws (decide (w&&&1#64=1#64));(repeat(first|simp only[go_sem,seval,wI,f0,k,ho,fW,ws,sX,aL]|simp(disch:=omega)only[w0]));(repeat' first|apply cf|(intro c;exact absurd c ω)|(intro _;kernel_rfl)|kernel_rfl);exact cY rfl (aC _ _) hb (by simp)
  .simp only[ki,k]at f0;rcases Classical.propComplete (sz=8)with s8|s8
   .have e:kG c a sz w={c with c:=c.c.set a.h w}:=by unfold kG yo;rw[if_neg (by rw[k];decide),if_neg (by rw[k];decide),if_pos (of_eq_true s8),if_neg (by rw[k];decide)]
    rw[e];(repeat(first|simp only[go_sem,seval,wI,f0,k,ho,fW,wc,sX,s8]|simp(disch:=omega)only[w0]));(repeat' first|apply cf|(intro c;exact absurd c ω)|(intro _;kernel_rfl)|kernel_rfl);exact cY rfl (aC _ _) (hb _) (by simp)
   .have e:kG c a sz w={c with c:=c.c.set a.h (c.c.getD a.h 0#64&&&~~~(4294967295#64<<<a.up.toNat)|||w<<<a.up.toNat&&&4294967295#64<<<a.up.toNat)}:=by unfold kG yo xj;rw[if_neg (by rw[k];decide),if_neg (by rw[k];decide),if_neg (of_eq_false s8),if_neg (by rw[k];decide),if_neg (by rw[k];decide)]
    rw[e];(repeat(first|simp only[go_sem,seval,wI,f0,k,ho,fW,wc,dc,sX,s8]|simp(disch:=omega)only[w0]));(repeat' first|apply cf|(intro c;exact absurd c ω)|(intro _;kernel_rfl)|kernel_rfl);exact cY rfl (aC _ _) (hb _) (by simp)
  .simp only[ki,k]at f0;rcases Classical.propComplete (sz=8)with s8|s8
   .have e:kG c a sz w={c with t:=w}:=by unfold kG yo;rw[if_neg (by rw[k];decide),if_neg (by rw[k];decide),if_pos (of_eq_true s8),if_pos k]
    rw[e];(repeat(first|simp only[go_sem,seval,wI,f0,k,ho,fW,w1,sX,s8]|simp(disch:=omega)only[w0]));(repeat' first|apply cf|(intro c;exact absurd c ω)|(intro _;kernel_rfl)|kernel_rfl);exact cY rfl (aC _ _) (hb _) (by simp)
   .have e:kG c a sz w={c with t:=c.t&&&~~~(4294967295#64<<<a.up.toNat)|||w<<<a.up.toNat&&&4294967295#64<<<a.up.toNat}:=by unfold kG yo xj;rw[if_neg (by rw[k];decide),if_neg (by rw[k];decide),if_neg (of_eq_false s8),if_pos k,if_pos k]
    rw[e];(repeat(first|simp only[go_sem,seval,wI,f0,k,ho,fW,w1,d1,sX,s8]|simp(disch:=omega)only[w0]));(repeat' first|apply cf|(intro c;exact absurd c ω)|(intro _;kernel_rfl)|kernel_rfl);exact cY rfl (aC _ _) (hb _) (by simp)
 .simp at h
def oG(c:Ck)(n:Int):Ck:=if 0<n/\0<c.n then{c with t:=c.t+aw 64 n}else c
theorem N6{c:Ck}(h:hF c)(n:Int):hF (oG c n):=by
 unfold oG;split
 .exact h.t _
 .exact h
def kT(c:Ck)(h:Int):BitVec 64:=if h<0\/c.n<=h then 0#64 else(if c.s.getD h.toNat false=true then 8#64 else 0#64)|||(if c.c.getD h.toNat 0#64<=c.t then 128#64 else 0#64)
noncomputable def Em(args:List AV)(H:AH):Option (AV×AH):=match args with|[.c x,.c (.i n)]=>(tC H x).map λc=>(.t [],zG H x (oG c n))|_=>none
theorem ax6{c:Ck}{n:Int}(h:tC H x=some c):Em [.c x,.c (.i n)] H=some (.t [],zG H x (oG c n)):=by simp only[Em,h,pn]
theorem apG(args:List AV)(H:AH)(v:AV)(H1:AH)(h:Em args H=some (v,H1)):H.length<=H1.length:=by
 unfold Em at h;split at h
 .rw[eE]at h;obtain⟨c,_,h⟩:=h;simp only[bE]at h;rw[<-h.2,zG,JH];exact aB _
 .simp at h
theorem asJ:bh Tryz.prog 87 Em:=by
 refine gJ (s:=Em) tn Tryz.func87 rfl Tryz.results87 Tryz.ntmps87 apG ?_;intro args H v H1 h b9 hH;unfold Em at h;split at h
 .rename_i x n;rw[eE]at h;obtain⟨c,hc,h⟩:=h;simp only[bE]at h;obtain⟨rfl,rfl⟩:=h;obtain⟨id,o,cs,F,rfl,ck⟩:=HE hc;have aD:=ck.aD;have ho:=ck.ho;have q:=ck.q;have d0:=ck.d0;have d1:=ck.d1;have w1:=λv=>rW (ck.w1 v);have hb:=λd=>ck.aj d hH;refine⟨by simp,?_⟩;rw[ck.set];by_cases hn:0<n
  .by_cases yC:0<c.n
   .have e:oG c n={c with t:=c.t+aw 64 n}:=if_pos ⟨hn,yC⟩;rw[e];(repeat(first|simp only[go_sem,seval,ho,d0,d1,w1,hn,yC]|simp(disch:=omega)only[w0]));(repeat' first|apply cf|(intro c;exact absurd c ω)|(intro _;kernel_rfl)|kernel_rfl);exact cY rfl (aE _) (hb _) (by simp)
   .have e:oG c n=c:=if_neg λh=>yC h.2;rw[e,ck.self,<-ho,uK rfl aD];(repeat(first|simp only[go_sem,seval,ho,d0,hn,yC]|simp(disch:=omega)only[w0]));exact cY rfl (aE _) hH (aB _)
  .have e:oG c n=c:=if_neg λh=>hn h.1;rw[e,ck.self,<-ho,uK rfl aD];simp only[go_sem,seval,ho,d0,hn];exact cY rfl (aE _) hH (aB _)
 .simp at h
noncomputable def Jd(args:List AV)(H:AH):Option AV:=match args with|[.c x]=>(tC H x).map λc=>.c (.u c.t)|_=>none
theorem ax7{c:Ck}(h:tC H x=some c):Jd [.c x] H=some (.c (.u c.t)):=by simp only[Jd,h,pn]
theorem asK:bh Tryz.prog 163 (λargs H=>(Jd args H).map λv=>(v,H)):=by
 refine jo (s:=Jd) tn Tryz.func163 rfl Tryz.results163 Tryz.ntmps163 ?_;intro args H v h b9 hH;unfold Jd at h;split at h
 .rename_i x;rw[eE]at h;obtain⟨c,hc,rfl⟩:=h;obtain⟨id,o,cs,F,rfl,ck⟩:=HE hc;have aD:=ck.aD;have ho:=ck.ho;have q:=ck.q;have d1:=ck.d1;refine⟨by simp,rfl,?_⟩;(repeat(first|simp only[go_sem,seval,ho,d1]|simp(disch:=omega)only[w0]));exact aE _
 .simp at h
noncomputable def Ja(args:List AV)(H:AH):Option AV:=match args with|[.c x,.c (.i h)]=>(tC H x).map λc=>.c (.u (kT c h))|_=>none
theorem ax3{c:Ck}{n:Int}(h:tC H x=some c):Ja [.c x,.c (.i n)] H=some (.c (.u (kT c n))):=by simp only[Ja,h,pn]
theorem asE:bh Tryz.prog 139 (λargs H=>(Ja args H).map λv=>(v,H)):=by
 refine jo (s:=Ja) tn Tryz.func139 rfl Tryz.results139 Tryz.ntmps139 ?_;intro args H v h b9 hH;unfold Ja at h;split at h
 .rename_i x n;rw[eE]at h;obtain⟨c,hc,rfl⟩:=h;obtain⟨id,o,cs,F,rfl,ck⟩:=HE hc;have aD:=ck.aD;have ho:=ck.ho;have q:=ck.q;have d0:=ck.d0;have d1:=ck.d1;refine⟨by simp,rfl,?_⟩;have n8:=ck.ok.n1;by_cases h0:n<0
  .simp only[go_sem,seval,ho,d0,h0,kT,true_or,if_true];exact aE _
  by_cases h1:c.n<=n
  ·(repeat(first|simp only[go_sem,seval,ho,d0,h0,h1,kT,or_true,if_true]|simp(disch:=omega)only[w0]));exact aE _
  obtain⟨k,rfl⟩:∃k:Nat,n=(k:Int):=⟨n.toNat,ω⟩;have hk:k<8:=ω
  have dc:=ck.dc k hk;have ds:=ck.ds k hk;rcases hs:c.s.getD k false with _|_<;>rcases Classical.propComplete (c.c.getD k 0#64<=c.t)with ht|ht;all_goals rw[hs]at ds
  all_goals(repeat(first|simp only[go_sem,seval,ho,d0,d1,dc,ds,hs,ht,h0,h1,kT,or_false,if_false,if_true,aL]|simp(disch:=omega)only[w0]))
  all_goals exact aE _
 .simp at h
def HF(i:Nat):List (BitVec 64):=bD i 18446744073709551615#64++bD (8-i) 0#64
def kQ(h:Int)(i:Nat):Ck:=⟨h,0#64,HF i,bD 8 false⟩
def iS(h:Int):Ck:=if 1<=h/\h<=8 then kQ h h.toNat else kQ 0 0
theorem aks(h:i<=8):(HF i).length=8:=by unfold HF;simp;omega
theorem Ku(h0:0<=h)(h1:h<=8)(hi:i<=8):hF (kQ h i):=⟨aks hi,by simp[kQ],h0,h1⟩
theorem Kv(h:Int):hF (iS h):=by
 unfold iS;split
 .exact Ku ω ω ω
 .exact Ku δ δ δ
theorem akt(h:i<8):(HF i).set i 18446744073709551615#64=HF (i+1):=by
 have:i=0\/i=1\/i=2\/i=3\/i=4\/i=5\/i=6\/i=7:=ω
 rcases this with rfl|rfl|rfl|rfl|rfl|rfl|rfl|rfl<;>rfl
theorem aak(h0:0<=h)(h1:h<=8)(hi:i<8):bJ (2+i) (aR (kQ h i))++Sc.u 18446744073709551615#64::cQ (2+i+1) (aR (kQ h i))=aR (kQ h (i+1)):=by
 rw[rW (SQ (Ku h0 h1 ω) hi 18446744073709551615#64)];show aR ⟨h,0#64,(HF i).set i _,bD 8 false⟩=_;rw[akt hi];rfl
theorem SK(x:Ck):(aR x).all Sc.pf=true:=by
 simp only[aR,bK,fJ,vF,aQ];exact⟨rfl,rfl,cE.2 λ_ _=>rfl,cE.2 λ_ _=>rfl⟩
theorem Wk.frq{fr:Fr}{p:Fr×AH}(e:H=p.2)(h:Wk n fr H (p.1,H)):Wk n fr H p:=by subst e;exact h
theorem nW(x:Ck):(aR x).all Sc.one=true:=by
 simp only[aR,bK,fJ,vF,aQ];exact⟨rfl,rfl,cE.2 λ_ _=>rfl,cE.2 λ_ _=>rfl⟩
def W0(args:List AV):Option AV:=match args with|[.c (.i h)]=>some (.g (aR (iS h)))|_=>none
theorem ax4{h}:W0 [.c (.i h)]=some (.g (aR (iS h))):=rfl
theorem asG:cK Tryz.prog 61 W0:=by
 refine cR tn Tryz.func61 rfl Tryz.results61 Tryz.ntmps61 ?_;intro args v h;unfold W0 at h;split at h
 .rename_i h;simp only[ar]at h;subst h;have pp:=SK (iS h);refine⟨by simp,by first|rfl|simp only[bK,dY,AV.pf,Sc.pf,c8, *],by first|rfl|simp only[bK,dY,AV.pf,Sc.pf,c8, *],?_⟩;by_cases c1:h<1
  .have e:iS h=kQ 0 0:=if_neg ω;rw[e];simp only[go_sem,seval,c1];rfl
  by_cases c2:8<h
  .have e:iS h=kQ 0 0:=if_neg ω;rw[e];simp only[go_sem,seval,c1,c2];rfl
  obtain⟨m,rfl⟩:∃m:Nat,h=(m:Int):=⟨h.toNat,ω⟩;have e:iS (m:Int)=kQ m m:=by unfold iS;rw[if_pos ω,aL]
  rw[e];simp only[go_sem,seval,c1,c2];refine fB m (λi=>([(0,.c (.i m)),(2,.c (.p 0 0 0)),(3,.c (.p 1 0 0)),(14,.c (.i m)),(15,.c (.i i))],[.own (aR (kQ 0 0)),.own (aR (kQ m i))])) (Wk.frq rfl (Wk.fq (by simp[Am.get]))) λi hi=>?_;have ll:=gp (Ku (h:=m) ω ω (i:=i) ω);by_cases aG:i<m
  .have w:=aak (h:=m) ω ω (i:=i) ω;have e0:(i:Int)<(m:Int):=ω
   have e1:aA ((i:Int)+1)=((i+1:Nat):Int):=by rw[aq ω ω];omega
   (repeat(first|simp only[go_sem,seval,e0,e1,w,aL]|simp(disch:=omega)only[w0]));exact⟨i+1,ω,ω,Wk.fq (by simp[Am.get])⟩
  .obtain rfl:i=m:=ω
   have t18:bJ 18 (aR (kQ i i))=aR (kQ i i):=bQ ω;have l0:(aR (kQ 0 0)).length=18:=rfl;have one:=nW (kQ i i);have dn:cQ 18 (aR (kQ 0 0))=[]:=rfl;have r0:∀l:List Sc,l.length=18->bJ 18 l=l:=λl h=>bQ ω;(repeat(first|simp only[go_sem,seval,t18,ll,l0,one,dn]|simp(disch:=omega)only[w0]));done
 .simp at h
noncomputable def rh(H:AH)(x:Sc):Option Pk:=Hy eJ cM H x
def qw(H:AH)(x:Sc)(c:Pk):AH:=setAt eJ 68 H x c
structure AY(H:AH)(id o:Nat)(cs:List Sc)(c:Pk)(F:Pk->List Sc):Prop where
 ok:cM c
 ho:hg H id=.own cs
 aD:id<H.length
 q:o+68<=cs.length
 d0:cs.getD o .any=.i c.n
 dp:∀k,k<32->cs.getD (o+1+k) .any=k8 (c.p.getD k 0)dw:cs.getD (o+33) .any=iK c.w
 dq:cs.getD (o+34) .any=iK c.q
 ds:cs.getD (o+35) .any=iK c.s
 de:∀k,k<16->cs.getD (o+36+k) .any=iK (c.e.getD k 0#32)dl:∀k,k<16->cs.getD (o+52+k) .any=k8 (c.l.getD k 0)wp:∀k,k<32->∀v,wr cs (o+1+k) [k8 v]=F {c with p:=c.p.set k v}ww:∀v,wr cs (o+33) [iK v]=F {c with w:=v}wq:∀v,wr cs (o+34) [iK v]=F {c with q:=v}ws:∀v,wr cs (o+35) [iK v]=F {c with s:=v}we:∀k,k<16->∀v,wr cs (o+36+k) [iK v]=F {c with e:=c.e.set k v}wl:∀k,k<16->∀v,wr cs (o+52+k) [k8 v]=F {c with l:=c.l.set k v}set:∀d,qw H (.p id o 0) d=H.set id (.own (F d))aj:∀d,dF H=true->dF (H.set id (.own (F d)))=true
 self:F c=cs
 enc:∃A B,o=A.length/\∀d,F d=A++(eJ d++B)
variable {c:Pk}
theorem D7(h:rh H x=some c):∃id o cs F,x=.p id o 0/\AY H id o cs c F:=by
 obtain⟨id,A,B,rfl,ho,ok⟩:=ZK h;have ll:=Al ok;have G:∀i,i<68->(A++(eJ c++B)).getD (A.length+i) .any=(eJ c).getD i .any:=λi hi=>xx ω;have W:∀i s,i<68->wr (A++(eJ c++B)) (A.length+i) [s]=A++(wr (eJ c) i [s]++B):=λi s hi=>AO (by rw[ll];simp;omega);refine⟨id,A.length,A++(eJ c++B),λd=>A++(eJ d++B),rfl,ok,ho,eu (by rw[ho];rfl),by simp only[cj,ll];omega,?_,?_,?_,?_,?_,?_,?_,?_,?_,?_,?_,?_,?_,λd=>EL ho ll,λd hH=>?_,rfl,⟨A,B,rfl,λ_=>rfl⟩⟩
 .have:=G 0 ω;rw[ru]at this;exact this
 .intro k hk;rw[m9,G _ ω,av9 ok hk]
 .rw[G _ ω,awc ok]
 .rw[G _ ω,awa ok]
 .rw[G _ ω,awb ok]
 .intro k hk;rw[m9,G _ ω,av7 ok hk]
 .intro k hk;rw[m9,G _ ω,av8 ok hk]
 .intro k hk v;rw[m9,W _ _ ω,awf ok hk]
 .intro v;rw[W _ _ ω,awi ok]
 .intro v;rw[W _ _ ω,awg ok]
 .intro v;rw[W _ _ ω,awh ok]
 .intro k hk v;rw[m9,W _ _ ω,awd ok hk]
 .intro k hk v;rw[m9,W _ _ ω,awe ok hk]
 .have:=afN ho ll (av3 d) hH;rwa[EL ho ll]at this
theorem PY{H:AH}{id:Nat}{A B:List Sc}{c:Pk}(ho:hg H id=.own (A++(eJ c++B)))(ok:cM c):rh H (.p id A.length 0)=some c:=ZL V7 ⟨id,A,B,rfl,ho,ok⟩
theorem AY.q'{H:AH}{id o:Nat}{cs:List Sc}{c:Pk}{F:Pk->List Sc}(h:AY H id o cs c F){K:AH}(hk:hg K id=hg H id):rh K (.p id o 0)=some c:=by
 obtain⟨A,B,e1,e2⟩:=h.enc;subst e1;exact PY (by rw[hk,h.ho,<-h.self,e2]) h.ok
theorem AY.nq{id o:Nat}{cs:List Sc}{c:Pk}{F:Pk->List Sc}(h:AY H id o cs c F){d:Pk}(hd:cM d):rh (H.set id (.own (F d))) (.p id o 0)=some d:=by
 obtain⟨A,B,e1,e2⟩:=h.enc;subst e1;exact PY (by rw[iN h.aD,e2]) hd
theorem AY.ns{id o:Nat}{cs:List Sc}{c:Pk}{F:Pk->List Sc}(h:AY H id o cs c F){d e:Pk}(hd:cM d):qw (H.set id (.own (F d))) (.p id o 0) e=H.set id (.own (F e)):=by
 obtain⟨A,B,e1,e2⟩:=h.enc;subst e1;unfold qw;rw[EL (a:=d) (by rw[iN h.aD,e2]) (Al hd),yd,e2]
theorem vz{a:BitVec 64}(h:a.toNat<32):a.toInt=(a.toNat:Int):=by rw[x9,if_pos ω]
noncomputable def MN(args:List AV)(H:AH):Option AV:=match args with|[.c x,.c (.u off),.c (.i sz)]=>(rh H x).map λc=>.t [.c (.i (bM c.n off sz).k),.c (.i ((bM c.n off sz).i:Int))]|_=>none
theorem rT(h:rh H x=some c):MN [.c x,.c (.u off),.c (.i sz)] H=some (.t [.c (.i (bM c.n off sz).k),.c (.i ((bM c.n off sz).i:Int))]):=by simp only[MN,h,pn]
theorem VJ:bh Tryz.prog 181 (λargs H=>(MN args H).map λv=>(v,H)):=by
 refine jo (s:=MN) tn Tryz.func181 rfl Tryz.results181 Tryz.ntmps181 ?_;intro args H v h b9 hH;unfold MN at h;split at h
 .rename_i x off sz;rw[eE]at h;obtain⟨c,hc,rfl⟩:=h;obtain⟨id,o,cs,F,rfl,ck⟩:=D7 hc;have aD:=ck.aD;have ho:=ck.ho;have q:=ck.q;have d0:=ck.d0;refine⟨by simp,rfl,?_⟩;have n0:=ck.ok.n0;have n1:=ck.ok.n1;have e2:aA (2*c.n)=2*c.n:=aq ω ω;have hi:=(L9 ck.ok.n0 ck.ok.n1 off sz).1;rcases Classical.propComplete (sz=4)with s4|s4
  .rcases Classical.propComplete (off%4#64=0#64)with m4|m4
   .rcases Classical.propComplete (aw 64 (2*c.n)=0#64)with z|z
    ·(repeat(first|simp only[go_sem,seval,ho,d0,e2,bM,s4,m4,z,true_and,and_true,false_and,and_false,or_true,true_or,or_false,false_or,not_true_eq_false,not_false_eq_true,if_true,if_false]|simp(disch:=omega)only[w0]));exact aE _
    .rcases Classical.propComplete (4#64<=off)with a|a
     .rcases Classical.propComplete (off<128#64)with b|b
      .have ei:=vz (a:=off/4#64) (by simpa only[bM,not_true_eq_false,s4,m4,z,a,b,true_and,and_true,false_and,and_false,or_true,true_or,or_false,false_or,not_true_eq_false,not_false_eq_true,if_true,if_false]using hi);(repeat(first|simp only[go_sem,seval,ho,d0,e2,bM,s4,m4,z,a,b,ei,true_and,and_true,false_and,and_false,or_true,true_or,or_false,false_or,not_true_eq_false,not_false_eq_true,if_true,if_false]|simp(disch:=omega)only[w0]));exact aE _
      .rcases Classical.propComplete (off=4096#64)with c1|c1
       ·(repeat(first|simp only[go_sem,seval,ho,d0,e2,bM,s4,m4,z,a,b,c1,true_and,and_true,false_and,and_false,or_true,true_or,or_false,false_or,not_true_eq_false,not_false_eq_true,if_true,if_false]|simp(disch:=omega)only[w0]));exact aE _
       .rcases Classical.propComplete (8192#64<=off)with d|d
        .rcases Classical.propComplete (off<8192#64+128#64*aw 64 (2*c.n))with e|e
         .rcases Classical.propComplete (off%128#64=0#64)with f|f
          .have ei:=vz (a:=(off-8192#64)/128#64) (by simpa only[bM,not_true_eq_false,s4,m4,z,a,b,c1,d,e,f,true_and,and_true,false_and,and_false,or_true,true_or,or_false,false_or,not_true_eq_false,not_false_eq_true,if_true,if_false]using hi);(repeat(first|simp only[go_sem,seval,ho,d0,e2,bM,s4,m4,z,a,b,c1,d,e,f,ei,true_and,and_true,false_and,and_false,or_true,true_or,or_false,false_or,not_true_eq_false,not_false_eq_true,if_true,if_false]|simp(disch:=omega)only[w0]));exact aE _
          .rcases Classical.propComplete (2097152#64<=off)with g|g
           .rcases Classical.propComplete (off<2097152#64+4096#64*aw 64 (2*c.n))with h1|h1
            .rcases Classical.propComplete (off%4096#64=0#64)with i|i
             .have ei:=vz (a:=(off-2097152#64)/4096#64) (by simpa only[bM,not_true_eq_false,s4,m4,z,a,b,c1,d,e,f,g,h1,i,true_and,and_true,false_and,and_false,or_true,true_or,or_false,false_or,not_true_eq_false,not_false_eq_true,if_true,if_false]using hi);(repeat(first|simp only[go_sem,seval,ho,d0,e2,bM,s4,m4,z,a,b,c1,d,e,f,g,h1,i,ei,true_and,and_true,false_and,and_false,or_true,true_or,or_false,false_or,not_true_eq_false,not_false_eq_true,if_true,if_false]|simp(disch:=omega)only[w0]));exact aE _
             .rcases Classical.propComplete (off%4096#64=4#64)with j|j
              .have ei:=vz (a:=(off-2097152#64)/4096#64) (by simpa only[bM,not_true_eq_false,s4,m4,z,a,b,c1,d,e,f,g,h1,i,j,true_and,and_true,false_and,and_false,or_true,true_or,or_false,false_or,not_true_eq_false,not_false_eq_true,if_true,if_false]using hi);(repeat(first|simp only[go_sem,seval,ho,d0,e2,bM,s4,m4,z,a,b,c1,d,e,f,g,h1,i,j,ei,true_and,and_true,false_and,and_false,or_true,true_or,or_false,false_or,not_true_eq_false,not_false_eq_true,if_true,if_false]|simp(disch:=omega)only[w0]));exact aE _
              ·(repeat(first|simp only[go_sem,seval,ho,d0,e2,bM,s4,m4,z,a,b,c1,d,e,f,g,h1,i,j,true_and,and_true,false_and,and_false,or_true,true_or,or_false,false_or,not_true_eq_false,not_false_eq_true,if_true,if_false]|simp(disch:=omega)only[w0]));exact aE _
            ·(repeat(first|simp only[go_sem,seval,ho,d0,e2,bM,s4,m4,z,a,b,c1,d,e,f,g,h1,true_and,and_true,false_and,and_false,or_true,true_or,or_false,false_or,not_true_eq_false,not_false_eq_true,if_true,if_false]|simp(disch:=omega)only[w0]));exact aE _
           ·(repeat(first|simp only[go_sem,seval,ho,d0,e2,bM,s4,m4,z,a,b,c1,d,e,f,g,true_and,and_true,false_and,and_false,or_true,true_or,or_false,false_or,not_true_eq_false,not_false_eq_true,if_true,if_false]|simp(disch:=omega)only[w0]));exact aE _
         .rcases Classical.propComplete (2097152#64<=off)with g|g
          .rcases Classical.propComplete (off<2097152#64+4096#64*aw 64 (2*c.n))with h1|h1
           .rcases Classical.propComplete (off%4096#64=0#64)with i|i
            .have ei:=vz (a:=(off-2097152#64)/4096#64) (by simpa only[bM,not_true_eq_false,s4,m4,z,a,b,c1,d,e,g,h1,i,true_and,and_true,false_and,and_false,or_true,true_or,or_false,false_or,not_true_eq_false,not_false_eq_true,if_true,if_false]using hi);(repeat(first|simp only[go_sem,seval,ho,d0,e2,bM,s4,m4,z,a,b,c1,d,e,g,h1,i,ei,true_and,and_true,false_and,and_false,or_true,true_or,or_false,false_or,not_true_eq_false,not_false_eq_true,if_true,if_false]|simp(disch:=omega)only[w0]));exact aE _
            .rcases Classical.propComplete (off%4096#64=4#64)with j|j
             .have ei:=vz (a:=(off-2097152#64)/4096#64) (by simpa only[bM,not_true_eq_false,s4,m4,z,a,b,c1,d,e,g,h1,i,j,true_and,and_true,false_and,and_false,or_true,true_or,or_false,false_or,not_true_eq_false,not_false_eq_true,if_true,if_false]using hi);(repeat(first|simp only[go_sem,seval,ho,d0,e2,bM,s4,m4,z,a,b,c1,d,e,g,h1,i,j,ei,true_and,and_true,false_and,and_false,or_true,true_or,or_false,false_or,not_true_eq_false,not_false_eq_true,if_true,if_false]|simp(disch:=omega)only[w0]));exact aE _
             ·(repeat(first|simp only[go_sem,seval,ho,d0,e2,bM,s4,m4,z,a,b,c1,d,e,g,h1,i,j,true_and,and_true,false_and,and_false,or_true,true_or,or_false,false_or,not_true_eq_false,not_false_eq_true,if_true,if_false]|simp(disch:=omega)only[w0]));exact aE _
           ·(repeat(first|simp only[go_sem,seval,ho,d0,e2,bM,s4,m4,z,a,b,c1,d,e,g,h1,true_and,and_true,false_and,and_false,or_true,true_or,or_false,false_or,not_true_eq_false,not_false_eq_true,if_true,if_false]|simp(disch:=omega)only[w0]));exact aE _
          ·(repeat(first|simp only[go_sem,seval,ho,d0,e2,bM,s4,m4,z,a,b,c1,d,e,g,true_and,and_true,false_and,and_false,or_true,true_or,or_false,false_or,not_true_eq_false,not_false_eq_true,if_true,if_false]|simp(disch:=omega)only[w0]));exact aE _
        .rcases Classical.propComplete (2097152#64<=off)with g|g
         .rcases Classical.propComplete (off<2097152#64+4096#64*aw 64 (2*c.n))with h1|h1
          .rcases Classical.propComplete (off%4096#64=0#64)with i|i
           .have ei:=vz (a:=(off-2097152#64)/4096#64) (by simpa only[bM,not_true_eq_false,s4,m4,z,a,b,c1,d,g,h1,i,true_and,and_true,false_and,and_false,or_true,true_or,or_false,false_or,not_true_eq_false,not_false_eq_true,if_true,if_false]using hi);(repeat(first|simp only[go_sem,seval,ho,d0,e2,bM,s4,m4,z,a,b,c1,d,g,h1,i,ei,true_and,and_true,false_and,and_false,or_true,true_or,or_false,false_or,not_true_eq_false,not_false_eq_true,if_true,if_false]|simp(disch:=omega)only[w0]));exact aE _
           .rcases Classical.propComplete (off%4096#64=4#64)with j|j
            .have ei:=vz (a:=(off-2097152#64)/4096#64) (by simpa only[bM,not_true_eq_false,s4,m4,z,a,b,c1,d,g,h1,i,j,true_and,and_true,false_and,and_false,or_true,true_or,or_false,false_or,not_true_eq_false,not_false_eq_true,if_true,if_false]using hi);(repeat(first|simp only[go_sem,seval,ho,d0,e2,bM,s4,m4,z,a,b,c1,d,g,h1,i,j,ei,true_and,and_true,false_and,and_false,or_true,true_or,or_false,false_or,not_true_eq_false,not_false_eq_true,if_true,if_false]|simp(disch:=omega)only[w0]));exact aE _
            ·(repeat(first|simp only[go_sem,seval,ho,d0,e2,bM,s4,m4,z,a,b,c1,d,g,h1,i,j,true_and,and_true,false_and,and_false,or_true,true_or,or_false,false_or,not_true_eq_false,not_false_eq_true,if_true,if_false]|simp(disch:=omega)only[w0]));exact aE _
          ·(repeat(first|simp only[go_sem,seval,ho,d0,e2,bM,s4,m4,z,a,b,c1,d,g,h1,true_and,and_true,false_and,and_false,or_true,true_or,or_false,false_or,not_true_eq_false,not_false_eq_true,if_true,if_false]|simp(disch:=omega)only[w0]));exact aE _
         ·(repeat(first|simp only[go_sem,seval,ho,d0,e2,bM,s4,m4,z,a,b,c1,d,g,true_and,and_true,false_and,and_false,or_true,true_or,or_false,false_or,not_true_eq_false,not_false_eq_true,if_true,if_false]|simp(disch:=omega)only[w0]));exact aE _
     .rcases Classical.propComplete (off=4096#64)with c1|c1
      ·(repeat(first|simp only[go_sem,seval,ho,d0,e2,bM,s4,m4,z,a,c1,true_and,and_true,false_and,and_false,or_true,true_or,or_false,false_or,not_true_eq_false,not_false_eq_true,if_true,if_false]|simp(disch:=omega)only[w0]));exact aE _
      .rcases Classical.propComplete (8192#64<=off)with d|d
       .rcases Classical.propComplete (off<8192#64+128#64*aw 64 (2*c.n))with e|e
        .rcases Classical.propComplete (off%128#64=0#64)with f|f
         .have ei:=vz (a:=(off-8192#64)/128#64) (by simpa only[bM,not_true_eq_false,s4,m4,z,a,c1,d,e,f,true_and,and_true,false_and,and_false,or_true,true_or,or_false,false_or,not_true_eq_false,not_false_eq_true,if_true,if_false]using hi);(repeat(first|simp only[go_sem,seval,ho,d0,e2,bM,s4,m4,z,a,c1,d,e,f,ei,true_and,and_true,false_and,and_false,or_true,true_or,or_false,false_or,not_true_eq_false,not_false_eq_true,if_true,if_false]|simp(disch:=omega)only[w0]));exact aE _
         .rcases Classical.propComplete (2097152#64<=off)with g|g
          .rcases Classical.propComplete (off<2097152#64+4096#64*aw 64 (2*c.n))with h1|h1
           .rcases Classical.propComplete (off%4096#64=0#64)with i|i
            .have ei:=vz (a:=(off-2097152#64)/4096#64) (by simpa only[bM,not_true_eq_false,s4,m4,z,a,c1,d,e,f,g,h1,i,true_and,and_true,false_and,and_false,or_true,true_or,or_false,false_or,not_true_eq_false,not_false_eq_true,if_true,if_false]using hi);(repeat(first|simp only[go_sem,seval,ho,d0,e2,bM,s4,m4,z,a,c1,d,e,f,g,h1,i,ei,true_and,and_true,false_and,and_false,or_true,true_or,or_false,false_or,not_true_eq_false,not_false_eq_true,if_true,if_false]|simp(disch:=omega)only[w0]));exact aE _
            .rcases Classical.propComplete (off%4096#64=4#64)with j|j
             .have ei:=vz (a:=(off-2097152#64)/4096#64) (by simpa only[bM,not_true_eq_false,s4,m4,z,a,c1,d,e,f,g,h1,i,j,true_and,and_true,false_and,and_false,or_true,true_or,or_false,false_or,not_true_eq_false,not_false_eq_true,if_true,if_false]using hi);(repeat(first|simp only[go_sem,seval,ho,d0,e2,bM,s4,m4,z,a,c1,d,e,f,g,h1,i,j,ei,true_and,and_true,false_and,and_false,or_true,true_or,or_false,false_or,not_true_eq_false,not_false_eq_true,if_true,if_false]|simp(disch:=omega)only[w0]));exact aE _
             ·(repeat(first|simp only[go_sem,seval,ho,d0,e2,bM,s4,m4,z,a,c1,d,e,f,g,h1,i,j,true_and,and_true,false_and,and_false,or_true,true_or,or_false,false_or,not_true_eq_false,not_false_eq_true,if_true,if_false]|simp(disch:=omega)only[w0]));exact aE _
           ·(repeat(first|simp only[go_sem,seval,ho,d0,e2,bM,s4,m4,z,a,c1,d,e,f,g,h1,true_and,and_true,false_and,and_false,or_true,true_or,or_false,false_or,not_true_eq_false,not_false_eq_true,if_true,if_false]|simp(disch:=omega)only[w0]));exact aE _
          ·(repeat(first|simp only[go_sem,seval,ho,d0,e2,bM,s4,m4,z,a,c1,d,e,f,g,true_and,and_true,false_and,and_false,or_true,true_or,or_false,false_or,not_true_eq_false,not_false_eq_true,if_true,if_false]|simp(disch:=omega)only[w0]));exact aE _
        .rcases Classical.propComplete (2097152#64<=off)with g|g
         .rcases Classical.propComplete (off<2097152#64+4096#64*aw 64 (2*c.n))with h1|h1
          .rcases Classical.propComplete (off%4096#64=0#64)with i|i
           .have ei:=vz (a:=(off-2097152#64)/4096#64) (by simpa only[bM,not_true_eq_false,s4,m4,z,a,c1,d,e,g,h1,i,true_and,and_true,false_and,and_false,or_true,true_or,or_false,false_or,not_true_eq_false,not_false_eq_true,if_true,if_false]using hi);(repeat(first|simp only[go_sem,seval,ho,d0,e2,bM,s4,m4,z,a,c1,d,e,g,h1,i,ei,true_and,and_true,false_and,and_false,or_true,true_or,or_false,false_or,not_true_eq_false,not_false_eq_true,if_true,if_false]|simp(disch:=omega)only[w0]));exact aE _
           .rcases Classical.propComplete (off%4096#64=4#64)with j|j
            .have ei:=vz (a:=(off-2097152#64)/4096#64) (by simpa only[bM,not_true_eq_false,s4,m4,z,a,c1,d,e,g,h1,i,j,true_and,and_true,false_and,and_false,or_true,true_or,or_false,false_or,not_true_eq_false,not_false_eq_true,if_true,if_false]using hi);(repeat(first|simp only[go_sem,seval,ho,d0,e2,bM,s4,m4,z,a,c1,d,e,g,h1,i,j,ei,true_and,and_true,false_and,and_false,or_true,true_or,or_false,false_or,not_true_eq_false,not_false_eq_true,if_true,if_false]|simp(disch:=omega)only[w0]));exact aE _
            ·(repeat(first|simp only[go_sem,seval,ho,d0,e2,bM,s4,m4,z,a,c1,d,e,g,h1,i,j,true_and,and_true,false_and,and_false,or_true,true_or,or_false,false_or,not_true_eq_false,not_false_eq_true,if_true,if_false]|simp(disch:=omega)only[w0]));exact aE _
          ·(repeat(first|simp only[go_sem,seval,ho,d0,e2,bM,s4,m4,z,a,c1,d,e,g,h1,true_and,and_true,false_and,and_false,or_true,true_or,or_false,false_or,not_true_eq_false,not_false_eq_true,if_true,if_false]|simp(disch:=omega)only[w0]));exact aE _
         ·(repeat(first|simp only[go_sem,seval,ho,d0,e2,bM,s4,m4,z,a,c1,d,e,g,true_and,and_true,false_and,and_false,or_true,true_or,or_false,false_or,not_true_eq_false,not_false_eq_true,if_true,if_false]|simp(disch:=omega)only[w0]));exact aE _
       .rcases Classical.propComplete (2097152#64<=off)with g|g
        .rcases Classical.propComplete (off<2097152#64+4096#64*aw 64 (2*c.n))with h1|h1
         .rcases Classical.propComplete (off%4096#64=0#64)with i|i
          .have ei:=vz (a:=(off-2097152#64)/4096#64) (by simpa only[bM,not_true_eq_false,s4,m4,z,a,c1,d,g,h1,i,true_and,and_true,false_and,and_false,or_true,true_or,or_false,false_or,not_true_eq_false,not_false_eq_true,if_true,if_false]using hi);(repeat(first|simp only[go_sem,seval,ho,d0,e2,bM,s4,m4,z,a,c1,d,g,h1,i,ei,true_and,and_true,false_and,and_false,or_true,true_or,or_false,false_or,not_true_eq_false,not_false_eq_true,if_true,if_false]|simp(disch:=omega)only[w0]));exact aE _
          .rcases Classical.propComplete (off%4096#64=4#64)with j|j
           .have ei:=vz (a:=(off-2097152#64)/4096#64) (by simpa only[bM,not_true_eq_false,s4,m4,z,a,c1,d,g,h1,i,j,true_and,and_true,false_and,and_false,or_true,true_or,or_false,false_or,not_true_eq_false,not_false_eq_true,if_true,if_false]using hi);(repeat(first|simp only[go_sem,seval,ho,d0,e2,bM,s4,m4,z,a,c1,d,g,h1,i,j,ei,true_and,and_true,false_and,and_false,or_true,true_or,or_false,false_or,not_true_eq_false,not_false_eq_true,if_true,if_false]|simp(disch:=omega)only[w0]));exact aE _
           ·(repeat(first|simp only[go_sem,seval,ho,d0,e2,bM,s4,m4,z,a,c1,d,g,h1,i,j,true_and,and_true,false_and,and_false,or_true,true_or,or_false,false_or,not_true_eq_false,not_false_eq_true,if_true,if_false]|simp(disch:=omega)only[w0]));exact aE _
         ·(repeat(first|simp only[go_sem,seval,ho,d0,e2,bM,s4,m4,z,a,c1,d,g,h1,true_and,and_true,false_and,and_false,or_true,true_or,or_false,false_or,not_true_eq_false,not_false_eq_true,if_true,if_false]|simp(disch:=omega)only[w0]));exact aE _
        ·(repeat(first|simp only[go_sem,seval,ho,d0,e2,bM,s4,m4,z,a,c1,d,g,true_and,and_true,false_and,and_false,or_true,true_or,or_false,false_or,not_true_eq_false,not_false_eq_true,if_true,if_false]|simp(disch:=omega)only[w0]));exact aE _
   ·(repeat(first|simp only[go_sem,seval,ho,d0,e2,bM,s4,m4,true_and,and_true,false_and,and_false,or_true,true_or,or_false,false_or,not_true_eq_false,not_false_eq_true,if_true,if_false]|simp(disch:=omega)only[w0]));exact aE _
  ·(repeat(first|simp only[go_sem,seval,ho,d0,e2,bM,s4,true_and,and_true,false_and,and_false,or_true,true_or,or_false,false_or,not_true_eq_false,not_false_eq_true,if_true,if_false]|simp(disch:=omega)only[w0]));exact aE _
 .simp at h
attribute [go_sem 1100]ajC ajD ajB
attribute [go_sem]Vv
def C9(args:List AV):Option AV:=match args with|[.c (.i n)]=>if 0<=n/\n<=31 then some (.c (iK (dA n.toNat)))else none|_=>none
theorem ue{n}:C9 [.c (.i n)]=if 0<=n/\n<=31 then some (.c (iK (dA n.toNat)))else none:=rfl
theorem VI:cK Tryz.prog 142 C9:=by
 refine cR tn Tryz.func142 rfl Tryz.results142 Tryz.ntmps142 ?_;intro args v h;unfold C9 at h;split at h
 .rename_i n;split at h
  .rename_i hc;simp only[ar]at h;subst h;refine⟨by simp only[cT,fa];decide,rfl,rfl,?_⟩;obtain⟨c0,c1⟩:=hc;obtain⟨k,rfl⟩:∃k:Nat,n=(k:Int):=⟨n.toNat,ω⟩;have e:(aw 64 (k:Int)).toNat=k:=by rw[mf];omega
   have e5:IntKind.u32.wrap (1*2^min k 32)=((dA k).toNat:Int):=by
    have:k=0\/k=1\/k=2\/k=3\/k=4\/k=5\/k=6\/k=7\/k=8\/k=9\/k=10\/k=11\/k=12\/k=13\/k=14\/k=15\/k=16\/k=17\/k=18\/k=19\/k=20\/k=21\/k=22\/k=23\/k=24\/k=25\/k=26\/k=27\/k=28\/k=29\/k=30\/k=31:=ω
    rcases this with rfl|rfl|rfl|rfl|rfl|rfl|rfl|rfl|rfl|rfl|rfl|rfl|rfl|rfl|rfl|rfl|rfl|rfl|rfl|rfl|rfl|rfl|rfl|rfl|rfl|rfl|rfl|rfl|rfl|rfl|rfl|rfl<;>rfl
   (repeat(first|simp(maxSteps:=9^9)only[go_sem,seval,e,e5,iK,aL]|simp(disch:=omega)only[aq,aV,aU,aT,aS]))
  .simp at h
 .simp at h
noncomputable def MM(args:List AV)(H:AH):Option AV:=match args with|[.c x,.c (.k .u32 am),.c (.k .u8 ab)]=>if 0<=am/\am<=4294967295 then(rh H x).map λc=>.c (.i (jN c.p (aw 32 am) ab 31:Nat))else none|_=>none
theorem BX{H:AH}{x:Sc}{c:Pk}(h:rh H x=some c){am:BitVec 32}{ab:Int}:MM [.c x,.c (.k .u32 (am.toNat:Int)),.c (.k .u8 ab)] H=some (.c (.i (jN c.p am ab 31:Nat))):=by
 have:=am.isLt;simp only[MM,h,pn,Vv];rw[if_pos ω]
theorem azI(A:BitVec 32){i:Nat}(hi:i<32):((A.toNat:Int)/2^min i 32)=((A>>>i).toNat:Int):=by
 rw[Nat.min_eq_left ω,BitVec.toNat_ushiftRight,Nat.shiftRight_eq_div_pow];simp
theorem au6(A:BitVec 32):((A.toNat:Int)=1)=(A=1#32):=propext ⟨λh=>mB (by show _=1;omega),λh=>by rw[h];rfl⟩
theorem ads:bh Tryz.prog 182 (λargs H=>(MM args H).map λv=>(v,H)):=by
 refine jo (s:=MM) tn Tryz.func182 rfl Tryz.results182 Tryz.ntmps182 ?_;intro args H v h b9 hH;unfold MM at h;split at h
 .rename_i x am ab;split at h
  .rename_i ha;rw[eE]at h;obtain⟨c,hc,rfl⟩:=h;obtain⟨A,rfl⟩:∃A:BitVec 32,am=(A.toNat:Int):=⟨aw 32 am,by rw[mf];omega⟩;rw[Vv];obtain⟨id,o,cs,F,rfl,ck⟩:=D7 hc;have aD:=ck.aD;have ho:=ck.ho;have q:=ck.q;refine⟨by simp only[cT,fa];decide,rfl,?_⟩;(repeat(first|simp(maxSteps:=9^9)only[go_sem,seval]|simp(disch:=omega)only[aq,aV,aU,aT,aS]));refine fB 31 (λi=>([(0,.c (.p id o 0)),(1,.c (.k .u32 (A.toNat:Int))),(2,.c (.k .u8 ab)),(7,.c (.i (jN c.p A ab i:Nat))),(8,.c (.i (i+1)))],H)) (Wk.fq (by simp[Am.get,jN])) λi hi=>?_;by_cases aG:i<31
   .have e0:(i:Int)+1<32:=ω
    have e1:aA ((i:Int)+1+1)=((i+1:Nat):Int)+1:=by rw[aq ω ω];omega
    have e2:(aw 64 ((i:Int)+1)).toNat=i+1:=by rw[mf];omega
    have e3:((i:Int)+1).toNat=i+1:=ω
    have d1:cs.getD (o+1+(i+1)) .any=.k .u8 (c.p.getD (i+1) 0):=ck.dp (i+1) ω;have hb:=Ko (p:=c.p) (am:=A) (ab:=ab) i;have d2:cs.getD (o+1+jN c.p A ab i) .any=.k .u8 (c.p.getD (jN c.p A ab i) 0):=ck.dp _ ω;have er:=azI A (i:=i+1) ω;have eb:=au6 (A>>>(i+1)&&&1#32);have eS:jN c.p A ab (i+1)=if(zI c.p A ab (i+1)&&(decide (jN c.p A ab i=0)||decide (c.p.getD (jN c.p A ab i) 0<c.p.getD (i+1) 0)))=true then i+1 else jN c.p A ab i:=rfl;unfold zI at eS;have cz:((jN c.p A ab i:Int)=0)=(jN c.p A ab i=0):=propext ω;generalize hB:jN c.p A ab i=B at*;rcases Classical.propComplete (A>>>(i+1)&&&1#32=1#32)with E|E
    .rw[E]at eb;rcases Classical.propComplete (ab<c.p.getD (i+1) 0)with g|g
     .rcases Classical.propComplete (B=0)with z|z
      .rw[z]at cz;simp only[E,g,z,decide_true,gG,Bool.true_or,if_true]at eS;(repeat(first|simp(maxSteps:=9^9)only[go_sem,seval,e0,e1,e2,e3,ho,d1,er,eb,g,cz]|simp(disch:=omega)only[aq,aV,aU,aT,aS]));exact⟨i+1,ω,ω,Wk.fq (by simp[Am.get,eS])⟩
      .rw[z]at cz;rcases Classical.propComplete (c.p.getD B 0<c.p.getD (i+1) 0)with t|t;all_goals simp only[E,g,z,t,decide_true,decide_false,gG,Bool.false_or,c8,rY,if_true,if_false,dL]at eS
       all_goals(repeat(first|simp(maxSteps:=9^9)only[go_sem,seval,e0,e1,e2,e3,ho,d1,d2,er,eb,g,cz,t,aL]|simp(disch:=omega)only[aq,aV,aU,aT,aS]))
       all_goals exact⟨i+1,ω,ω,Wk.fq (by simp[Am.get,eS])⟩
     .simp only[E,g,decide_true,decide_false,gG,ph,rY,if_false,dL]at eS;(repeat(first|simp(maxSteps:=9^9)only[go_sem,seval,e0,e1,e2,e3,ho,d1,er,eb,g]|simp(disch:=omega)only[aq,aV,aU,aT,aS]));exact⟨i+1,ω,ω,Wk.fq (by simp[Am.get,eS])⟩
    .rw[E]at eb;simp only[E,decide_false,ph,if_false,dL]at eS;(repeat(first|simp(maxSteps:=9^9)only[go_sem,seval,e0,e1,e2,e3,ho,er,eb]|simp(disch:=omega)only[aq,aV,aU,aT,aS]));exact⟨i+1,ω,ω,Wk.fq (by simp[Am.get,eS])⟩
   .obtain rfl:i=31:=ω
    (repeat(first|simp(maxSteps:=9^9)only[go_sem,seval]|simp(disch:=omega)only[aq,aV,aU,aT,aS]));exact aE _
  .simp at h
 .simp at h
theorem EV{m:List Sc}(h:wr cs k [x]=m):bJ k cs++x::cQ (k+1) cs=m:=by rw[<-h,Hb];simp
def uf(c:Pk):Pk:={c with q:=c.q|||c.w&&&~~~c.s}
theorem Yl(h:cM c):cM (uf c):=h.rU _ _ _
noncomputable def GR(args:List AV)(H:AH):Option (AV×AH):=match args with|[.c x]=>(rh H x).map λc=>(.t [],qw H x (uf c))|_=>none
theorem xO(h:rh H x=some c):GR [.c x] H=some (.t [],qw H x (uf c)):=by simp only[GR,h,pn]
theorem apW(args:List AV)(H:AH)(v:AV)(H1:AH)(h:GR args H=some (v,H1)):H.length<=H1.length:=by
 unfold GR at h;split at h
 .rw[eE]at h;obtain⟨c,_,h⟩:=h;simp only[bE]at h;rw[<-h.2,qw,JH];exact aB _
 .simp at h
theorem adt:bh Tryz.prog 143 GR:=by
 refine gJ (s:=GR) tn Tryz.func143 rfl Tryz.results143 Tryz.ntmps143 apW ?_;intro args H v H1 h b9 hH;unfold GR at h;split at h
 .rename_i x;rw[eE]at h;obtain⟨c,hc,h⟩:=h;simp only[bE]at h;obtain⟨rfl,rfl⟩:=h;obtain⟨id,o,cs,F,rfl,ck⟩:=D7 hc;have aD:=ck.aD;have ho:=ck.ho;have q:=ck.q;have dw:cs.getD (o+33) .any=.k .u32 (c.w.toNat:Int):=ck.dw;have dq:cs.getD (o+34) .any=.k .u32 (c.q.toNat:Int):=ck.dq;have ds:cs.getD (o+35) .any=.k .u32 (c.s.toNat:Int):=ck.ds;have wq:∀v:BitVec 32,bJ (o+34) cs++.k .u32 (v.toNat:Int)::cQ (o+34+1) cs=F {c with q:=v}:=λv=>EV (ck.wq v);have hb:=λd=>ck.aj d hH;refine⟨by simp,?_⟩;rw[ck.set];(repeat(first|simp only[go_sem,seval,ho,dw,dq,ds,wq]|simp(disch:=omega)only[w0]));(repeat' first|apply cf|(intro c;exact absurd c ω)|(intro _;kernel_rfl)|kernel_rfl);exact cY rfl (aE _) (hb (uf c)) (by simp)
 .simp at h
def fY(c:Pk)(s:Int)(on:Bool):Pk:=if c.n=0\/s<1\/32<=s then c else if on=true then uf {c with w:=c.w|||dA s.toNat}else uf {c with w:=c.w&&&~~~(dA s.toNat)}
def qx(c:Pk)(s:Int):Bool:=!(decide (c.n=0)||(decide (s<1)||decide (32<=s)))
theorem P0(h:cM c)(s:Int)(on:Bool):cM (fY c s on):=by
 unfold fY;repeat' split
 .exact h
 .exact Yl (h.rU _ _ _)
 .exact Yl (h.rU _ _ _)
noncomputable def BY(args:List AV)(H:AH):Option (AV×AH):=match args with|[.c x,.c (.i s),.c (.b on)]=>(rh H x).map λc=>(.c (.b (qx c s)),qw H x (fY c s on))|_=>none
theorem afv{on:Bool}(h:rh H x=some c):BY [.c x,.c (.i s),.c (.b on)] H=some (.c (.b (qx c s)),qw H x (fY c s on)):=by simp only[BY,h,pn]
theorem apX(args:List AV)(H:AH)(v:AV)(H1:AH)(h:BY args H=some (v,H1)):H.length<=H1.length:=by
 unfold BY at h;split at h
 .rw[eE]at h;obtain⟨c,_,h⟩:=h;simp only[bE]at h;rw[<-h.2,qw,JH];exact aB _
 .simp at h
theorem atM:bh Tryz.prog 89 BY:=by
 refine gJ (s:=BY) (tu VI (tp adt tn)) Tryz.func89 rfl Tryz.results89 Tryz.ntmps89 apX ?_;intro args H v H1 h b9 hH;unfold BY at h;split at h
 .rename_i x s on;rw[eE]at h;obtain⟨c,hc,h⟩:=h;simp only[bE]at h;obtain⟨rfl,rfl⟩:=h;obtain⟨id,o,cs,F,rfl,ck⟩:=D7 hc;have aD:=ck.aD;have ho:=ck.ho;have q:=ck.q;have d0:=ck.d0;have dw:cs.getD (o+33) .any=.k .u32 (c.w.toNat:Int):=ck.dw;have ww:∀v:BitVec 32,bJ (o+33) cs++.k .u32 (v.toNat:Int)::cQ (o+33+1) cs=F {c with w:=v}:=λv=>EV (ck.ww v);have hb:=λd=>ck.aj d hH;refine⟨by simp,?_⟩;rw[ck.set];have no:(c.n=0\/s<1\/32<=s)->fY c s on=c:=λh=>if_pos h;by_cases z:c.n=0
  .rw[no (.inl z),ck.self,<-ho,uK rfl aD];have e:qx c s=false:=by simp[qx,z]
   rw[e];(repeat(first|simp only[go_sem,seval,ho,d0,z]|simp(disch:=omega)only[w0]));exact cY rfl (aE _) hH (aB _)
  by_cases s1:s<1
  .rw[no (.inr (.inl s1)),ck.self,<-ho,uK rfl aD];have e:qx c s=false:=by simp[qx,s1]
   rw[e];(repeat(first|simp only[go_sem,seval,ho,d0,z,s1]|simp(disch:=omega)only[w0]));exact cY rfl (aE _) hH (aB _)
  by_cases s2:32<=s
  .rw[no (.inr (.inr s2)),ck.self,<-ho,uK rfl aD];have e:qx c s=false:=by simp[qx,s2]
   rw[e];(repeat(first|simp only[go_sem,seval,ho,d0,z,s1,s2]|simp(disch:=omega)only[w0]));exact cY rfl (aE _) hH (aB _)
  have e:qx c s=true:=by simp[qx,z,s1,s2]
  rw[e];have eb:C9 [.c (.i s)]=some (.c (.k .u32 ((dA s.toNat).toNat:Int))):=by
   simp only[C9];first|rfl|(rw[if_pos ω];rfl)
  cases on
  .have e1:fY c s false=uf {c with w:=c.w&&&~~~(dA s.toNat)}:=by unfold fY;rw[if_neg ω,if_neg δ]
   have Aj:cM {c with w:=c.w&&&~~~(dA s.toNat)}:=ck.ok.rU _ _ _;have st:=xO (ck.nq Aj);rw[ck.ns Aj]at st;rw[e1];(repeat(first|simp only[go_sem,seval,ue,xO,ho,d0,dw,ww,z,s1,s2,eb,st]|simp(disch:=omega)only[w0]));(repeat' first|apply cf|(intro c;exact absurd c ω)|(intro _;kernel_rfl)|kernel_rfl);exact cY rfl (aE _) (hb _) (by simp)
  .have e1:fY c s true=uf {c with w:=c.w|||dA s.toNat}:=by unfold fY;rw[if_neg ω,if_pos rfl]
   have Aj:cM {c with w:=c.w|||dA s.toNat}:=ck.ok.rU _ _ _;have st:=xO (ck.nq Aj);rw[ck.ns Aj]at st;rw[e1];(repeat(first|simp only[go_sem,seval,ue,xO,ho,d0,dw,ww,z,s1,s2,eb,st]|simp(disch:=omega)only[w0]));(repeat' first|apply cf|(intro c;exact absurd c ω)|(intro _;kernel_rfl)|kernel_rfl);exact cY rfl (aE _) (hb _) (by simp)
 .simp at h
theorem AY.next{H:AH}{id o:Nat}{cs:List Sc}{c:Pk}{F:Pk->List Sc}(h:AY H id o cs c F){d:Pk}(hd:cM d):AY (H.set id (.own (F d))) id o (F d) d F:=by
 obtain⟨qi,o',xo,F',hx,k⟩:=D7 (h.nq hd);simp only[Sc.p.injEq,and_true]at hx;obtain⟨rfl,rfl⟩:=hx;have e1:F'=F:=funext λe=>by
  have a:=k.set e;rw[h.ns hd,yd]at a;have b:=congrArg (λH=>hg H id) a;simp only[iN h.aD]at b;exact(ae.own.inj b).symm
 have e2:xo=F d:=by rw[<-k.self,e1]
 rw[e1,e2]at k;exact k
def kV(c:Pk)(k:Int):Bool:=decide (0<=k/\k<2*c.n)&&decide (0<jN c.p (c.q&&&c.e.getD k.toNat 0#32) (c.l.getD k.toNat 0) 31)
noncomputable def Jv(args:List AV)(H:AH):Option AV:=match args with|[.c x,.c (.i k)]=>(rh H x).map λc=>.c (.b (kV c k))|_=>none
theorem ayH{k:Int}(h:rh H x=some c):Jv [.c x,.c (.i k)] H=some (.c (.b (kV c k))):=by simp only[Jv,h,pn]
theorem atJ:bh Tryz.prog 140 (λargs H=>(Jv args H).map λv=>(v,H)):=by
 refine jo (s:=Jv) (tq ads tn) Tryz.func140 rfl Tryz.results140 Tryz.ntmps140 ?_;intro args H v h b9 hH;unfold Jv at h;split at h
 .rename_i x k;rw[eE]at h;obtain⟨c,hc,rfl⟩:=h;obtain⟨id,o,cs,F,rfl,ck⟩:=D7 hc;have aD:=ck.aD;have ho:=ck.ho;have q:=ck.q;have d0:=ck.d0;have n0:=ck.ok.n0;have n1:=ck.ok.n1;have e2:aA (2*c.n)=2*c.n:=aq ω ω;refine⟨by simp,rfl,?_⟩;by_cases k0:k<0
  .have e:kV c k=false:=by unfold kV;rw[decide_eq_false ω];rfl
   rw[e];simp only[go_sem,seval,ho,d0,k0];exact aE _
  by_cases k1:2*c.n<=k
  .have e:kV c k=false:=by unfold kV;rw[decide_eq_false ω];rfl
   rw[e];(repeat(first|simp only[go_sem,seval,ho,d0,e2,k0,k1]|simp(disch:=omega)only[w0]));exact aE _
  obtain⟨m,rfl⟩:∃m:Nat,k=(m:Int):=⟨k.toNat,ω⟩;have hm:m<16:=ω
  have dq:cs.getD (o+34) .any=.k .u32 (c.q.toNat:Int):=ck.dq;have de:cs.getD (o+36+m) .any=.k .u32 ((c.e.getD m 0#32).toNat:Int):=ck.de m hm;have dl:cs.getD (o+52+m) .any=.k .u8 (c.l.getD m 0):=ck.dl m hm;have pb:=λam ab=>BX hc (am:=am) (ab:=ab);have e:kV c m=decide (0<jN c.p (c.q&&&c.e.getD m 0#32) (c.l.getD m 0) 31):=by unfold kV;rw[decide_eq_true ω,aL];rfl
  rw[e];have ez:(0<((jN c.p (c.q&&&c.e.getD m 0#32) (c.l.getD m 0) 31:Nat):Int))=(0<jN c.p (c.q&&&c.e.getD m 0#32) (c.l.getD m 0) 31):=propext ω;(repeat(first|simp only[go_sem,seval,BX,ho,d0,e2,k0,k1,dq,de,dl,pb,ez,aL]|simp(disch:=omega)only[w0]));exact aE _
 .simp at h
theorem Ma(n:Int)(off:BitVec 64)(sz:Int):(bM n off sz).k=0\/(bM n off sz).k=1\/(bM n off sz).k=2\/(bM n off sz).k=3\/(bM n off sz).k=4\/(bM n off sz).k=5:=by
 unfold bM;repeat' split
 all_goals simp
def rS(c:Pk)(i:Nat):Nat:=jN c.p (c.q&&&c.e.getD i 0#32) 0 31
def o7(c:Pk)(a:Pa):BitVec 64:=if a.k=1 then aw 64 (c.p.getD a.i 0)else if a.k=2 then aw 64 (c.q.toNat:Int)else if a.k=3 then aw 64 ((c.e.getD a.i 0#32).toNat:Int)else if a.k=4 then aw 64 (c.l.getD a.i 0)else if a.k=5 then aw 64 (rS c a.i:Int)else 0#64
def oB(c:Pk)(a:Pa):Pk:=if a.k=5/\0<rS c a.i then{c with q:=c.q&&&~~~(dA (rS c a.i)),s:=c.s|||dA (rS c a.i)}else c
theorem ad1(h:cM c)(a:Pa):cM (oB c a):=by
 unfold oB;split
 .exact h.rU _ _ _
 .exact h
noncomputable def Ey(args:List AV)(H:AH):Option (AV×AH):=match args with|[.c x,.c (.u off),.c (.i sz)]=>(rh H x).map λc=>(.t [.c (.u (o7 c (bM c.n off sz))),.c (.b (!decide ((bM c.n off sz).k=0)))],qw H x (oB c (bM c.n off sz)))|_=>none
theorem ayJ(h:rh H x=some c):Ey [.c x,.c (.u off),.c (.i sz)] H=some (.t [.c (.u (o7 c (bM c.n off sz))),.c (.b (!decide ((bM c.n off sz).k=0)))],qw H x (oB c (bM c.n off sz))):=by simp only[Ey,h,pn]
theorem apV(args:List AV)(H:AH)(v:AV)(H1:AH)(h:Ey args H=some (v,H1)):H.length<=H1.length:=by
 unfold Ey at h;split at h
 .rw[eE]at h;obtain⟨c,_,h⟩:=h;simp only[bE]at h;rw[<-h.2,qw,JH];exact aB _
 .simp at h
theorem atL:bh Tryz.prog 131 Ey:=by
 refine gJ (s:=Ey) (tq VJ (tq ads (tu VI tn))) Tryz.func131 rfl Tryz.results131 Tryz.ntmps131 apV ?_;intro args H v H1 h b9 hH;unfold Ey at h;split at h
 .rename_i x off sz;rw[eE]at h;obtain⟨c,hc,h⟩:=h;simp only[bE]at h;obtain⟨rfl,rfl⟩:=h;obtain⟨id,o,cs,F,rfl,ck⟩:=D7 hc;have aD:=ck.aD;have ho:=ck.ho;have q:=ck.q;have f0:=rT hc (off:=off) (sz:=sz);have hi:=L9 ck.ok.n0 ck.ok.n1 off sz;have hk:=Ma c.n off sz;have hb:=λd=>ck.aj d hH;refine⟨by simp,?_⟩;rw[ck.set];generalize bM c.n off sz=a at*;obtain⟨ak,ai⟩:=a;simp only at hi hk f0;have no:ak≠5->oB c ⟨ak,ai⟩=c:=λh=>if_neg λc=>h c.1;have sf:F c=cs:=ck.self;have hs:H.set id (.own cs)=H:=by rw[<-ho,uK rfl aD]
  have dq:cs.getD (o+34) .any=.k .u32 (c.q.toNat:Int):=ck.dq;rcases hk with rfl|rfl|rfl|rfl|rfl|rfl
  .rw[no δ,sf,hs];simp only[go_sem,seval,rT,BX,ue,f0,o7];exact cY rfl (aE _) hH (aB _)
  .have dp:cs.getD (o+1+ai) .any=.k .u8 (c.p.getD ai 0):=ck.dp ai hi.1;rw[no δ,sf,hs];(repeat(first|simp only[go_sem,seval,rT,BX,ue,f0,o7,ho,dp,aL]|simp(disch:=omega)only[w0]));exact cY rfl (aE _) hH (aB _)
  .rw[no δ,sf,hs];(repeat(first|simp only[go_sem,seval,rT,BX,ue,f0,o7,ho,dq]|simp(disch:=omega)only[w0]));exact cY rfl (aE _) hH (aB _)
  .have i16:=hi.2 δ;have de:cs.getD (o+36+ai) .any=.k .u32 ((c.e.getD ai 0#32).toNat:Int):=ck.de ai i16;rw[no δ,sf,hs];(repeat(first|simp only[go_sem,seval,rT,BX,ue,f0,o7,ho,de,aL]|simp(disch:=omega)only[w0]));exact cY rfl (aE _) hH (aB _)
  .have i16:=hi.2 δ;have dl:cs.getD (o+52+ai) .any=.k .u8 (c.l.getD ai 0):=ck.dl ai i16;rw[no δ,sf,hs];(repeat(first|simp only[go_sem,seval,rT,BX,ue,f0,o7,ho,dl,aL]|simp(disch:=omega)only[w0]));exact cY rfl (aE _) hH (aB _)
  .have i16:=hi.2 δ;have de:cs.getD (o+36+ai) .any=.k .u32 ((c.e.getD ai 0#32).toNat:Int):=ck.de ai i16;have pb:=λam ab=>BX hc (am:=am) (ab:=ab);have ZN:rS c ai<=31:=Ko 31;have eB:jN c.p (c.q&&&c.e.getD ai 0#32) 0 31=rS c ai:=rfl;have eb:C9 [.c (.i (rS c ai:Int))]=some (.c (.k .u32 ((dA (rS c ai)).toNat:Int))):=by
    simp only[C9];rw[if_pos ω,aL];rfl
   have ds:∀v:BitVec 32,(F {c with q:=v}).getD (o+35) .any=.k .u32 (c.s.toNat:Int):=λv=>((ck.next (d:={c with q:=v}) (ck.ok.rU _ _ _)).ds);have wq:∀v:BitVec 32,bJ (o+34) cs++.k .u32 (v.toNat:Int)::cQ (o+34+1) cs=F {c with q:=v}:=λv=>EV (ck.wq v);have ws:∀v w:BitVec 32,bJ (o+35) (F {c with q:=v})++.k .u32 (w.toNat:Int)::cQ (o+35+1) (F {c with q:=v})=F {c with q:=v,s:=w}:=λv w=>EV ((ck.next (d:={c with q:=v}) (ck.ok.rU _ _ _)).ws w);have fl:∀v:BitVec 32,o+68<=(F {c with q:=v}).length:=λv=>(ck.next (d:={c with q:=v}) (ck.ok.rU _ _ _)).q;generalize hB:rS c ai=B at*;rcases Nat.eq_zero_or_pos B with z|z
   .subst z;have e:oB c ⟨5,ai⟩=c:=if_neg λh=>by have:=h.2;rw[hB]at this;exact absurd this δ
    rw[e,sf,hs];(repeat(first|simp only[go_sem,seval,rT,BX,ue,f0,o7,hB,ho,dq,de,pb,eB,aL]|simp(disch:=omega)only[w0]));exact cY rfl (aE _) hH (aB _)
   .have e:oB c ⟨5,ai⟩={c with q:=c.q&&&~~~(dA B),s:=c.s|||dA B}:=by unfold oB;simp only[hB];rw[if_pos ⟨trivial,z⟩]
    have e0:(0:Int)<(B:Int):=ω
    have hgs:∀y,hg (H.set id y) id=y:=λy=>iN aD;have fl1:=fl (c.q&&&~~~(dA B));have fl2:o+35+1<=(F {c with q:=c.q&&&~~~(dA B)}).length:=ω
    rw[e];(repeat(first|simp only[go_sem,seval,rT,BX,ue,f0,o7,hB,ho,dq,de,pb,eB,eb,e0,wq,ws,ds,hgs,fl2,aL]|simp(disch:=omega)only[w0]));(repeat' first|apply cf|(intro c;exact absurd c ω)|(intro _;kernel_rfl)|kernel_rfl);exact cY rfl (aE _) (hb _) (by simp)
 .simp at h
theorem aB0(v:BitVec 64):IntKind.u32.wrap (v.toNat:Int)=((v.setWidth 32).toNat:Int):=by
 rw[BitVec.toNat_setWidth];simp[IntKind.wrap,IntKind.bits,IntKind.signed]
theorem Zz(v:BitVec 64):(v&&&7#64).toNat<=7:=by
 rw[BitVec.toNat_and];exact Nat.and_le_right
theorem aBX(v:BitVec 64):IntKind.u8.wrap ((v&&&7#64).toNat:Int)=((v&&&7#64).toNat:Int):=by
 have:=Zz v;generalize(v&&&7#64).toNat=m at*;have h:∀x:Int,IntKind.u8.wrap x=x%256:=λx=>by simp[IntKind.wrap,IntKind.bits,IntKind.signed]
 rw[h];omega
theorem aCE(A:BitVec 32):((A.toNat:Int)=0)=(A=0#32):=propext ⟨λh=>mB (by show _=0;omega),λh=>by rw[h];rfl⟩
def BP(c:Pk)(i:Nat)(s:BitVec 32):Prop:=s.toNat<32/\¬c.e.getD i 0#32&&&c.s&&&dA s.toNat=0#32
instance {c:Pk}{i:Nat}{s:BitVec 32}:Decidable (BP c i s):=by unfold BP;infer_instance
def ji(c:Pk)(a:Pa)(v:BitVec 64):Pk:=if a.k=1 then{c with p:=c.p.set a.i ((v&&&7#64).toNat:Int)}else if a.k=3 then{c with e:=c.e.set a.i (v.setWidth 32&&&~~~1#32)}else if a.k=4 then{c with l:=c.l.set a.i ((v&&&7#64).toNat:Int)}else if a.k=5/\BP c a.i (v.setWidth 32)then uf {c with s:=c.s&&&~~~(dA (v.setWidth 32).toNat)}else c
theorem V8(h:cM c)(a:Pa)(v:BitVec 64):cM (ji c a v):=by
 have:=Zz v;unfold ji;repeat' split
 .exact h.JJ _ ω
 .exact h.GZ _ _
 .exact h.Nh _ ω
 .exact Yl (h.rU _ _ _)
 .exact h
noncomputable def Ez(args:List AV)(H:AH):Option (AV×AH):=match args with|[.c x,.c (.u off),.c (.i sz),.c (.u v)]=>(rh H x).map λc=>(.c (.b (!decide ((bM c.n off sz).k=0))),qw H x (ji c (bM c.n off sz) v))|_=>none
theorem ayK(h:rh H x=some c):Ez [.c x,.c (.u off),.c (.i sz),.c (.u v)] H=some (.c (.b (!decide ((bM c.n off sz).k=0))),qw H x (ji c (bM c.n off sz) v)):=by simp only[Ez,h,pn]
theorem apY(args:List AV)(H:AH)(v:AV)(H1:AH)(h:Ez args H=some (v,H1)):H.length<=H1.length:=by
 unfold Ez at h;split at h
 .rw[eE]at h;obtain⟨c,_,h⟩:=h;simp only[bE]at h;rw[<-h.2,qw,JH];exact aB _
 .simp at h
theorem atN:bh Tryz.prog 137 Ez:=by
 refine gJ (s:=Ez) (tq VJ (tu VI (tp adt tn))) Tryz.func137 rfl Tryz.results137 Tryz.ntmps137 apY ?_;intro args H v H1 h b9 hH;unfold Ez at h;split at h
 .rename_i x off sz v;rw[eE]at h;obtain⟨c,hc,h⟩:=h;simp only[bE]at h;obtain⟨rfl,rfl⟩:=h;obtain⟨id,o,cs,F,rfl,ck⟩:=D7 hc;have aD:=ck.aD;have ho:=ck.ho;have q:=ck.q;have f0:=rT hc (off:=off) (sz:=sz);have hi:=L9 ck.ok.n0 ck.ok.n1 off sz;have hk:=Ma c.n off sz;have hb:=λd=>ck.aj d hH;have w7:=aBX v;have sw:=aB0 v;refine⟨by simp,?_⟩;rw[ck.set];generalize bM c.n off sz=a at*;obtain⟨ak,ai⟩:=a;simp only at hi hk f0;have sf:F c=cs:=ck.self;have hs:H.set id (.own cs)=H:=by rw[<-ho,uK rfl aD]
  rcases hk with rfl|rfl|rfl|rfl|rfl|rfl
  .have e:ji c ⟨0,ai⟩ v=c:=by simp[ji]
   rw[e,sf,hs];simp only[go_sem,seval,rT,ue,xO,f0];exact cY rfl (aE _) hH (aB _)
  .have e:ji c ⟨1,ai⟩ v={c with p:=c.p.set ai ((v&&&7#64).toNat:Int)}:=by simp[ji]
   have wp:bJ (o+1+ai) cs++.k .u8 ((v&&&7#64).toNat:Int)::cQ (o+1+ai+1) cs=F {c with p:=c.p.set ai ((v&&&7#64).toNat:Int)}:=EV (ck.wp ai hi.1 _);rw[e];(repeat(first|simp only[go_sem,seval,rT,ue,xO,f0,ho,w7,wp,aL]|simp(disch:=omega)only[w0]));(repeat' first|apply cf|(intro c;exact absurd c ω)|(intro _;kernel_rfl)|kernel_rfl);exact cY rfl (aE _) (hb _) (by simp)
  .have e:ji c ⟨2,ai⟩ v=c:=by simp[ji]
   rw[e,sf,hs];simp only[go_sem,seval,rT,ue,xO,f0];exact cY rfl (aE _) hH (aB _)
  .have i16:=hi.2 δ;have e:ji c ⟨3,ai⟩ v={c with e:=c.e.set ai (v.setWidth 32&&&~~~1#32)}:=by simp[ji]
   have we:bJ (o+36+ai) cs++.k .u32 ((v.setWidth 32&&&~~~1#32).toNat:Int)::cQ (o+36+ai+1) cs=F {c with e:=c.e.set ai (v.setWidth 32&&&~~~1#32)}:=EV (ck.we ai i16 _);rw[e];have n1: ~~~1#32=4294967294#32:=rfl;rw[n1]at we|-;(repeat(first|simp only[go_sem,seval,rT,ue,xO,f0,ho,sw,we,aL]|simp(disch:=omega)only[w0]));(repeat' first|apply cf|(intro c;exact absurd c ω)|(intro _;kernel_rfl)|kernel_rfl);exact cY rfl (aE _) (hb _) (by simp)
  .have i16:=hi.2 δ;have e:ji c ⟨4,ai⟩ v={c with l:=c.l.set ai ((v&&&7#64).toNat:Int)}:=by simp[ji]
   have wl:bJ (o+52+ai) cs++.k .u8 ((v&&&7#64).toNat:Int)::cQ (o+52+ai+1) cs=F {c with l:=c.l.set ai ((v&&&7#64).toNat:Int)}:=EV (ck.wl ai i16 _);rw[e];(repeat(first|simp only[go_sem,seval,rT,ue,xO,f0,ho,w7,wl,aL]|simp(disch:=omega)only[w0]));(repeat' first|apply cf|(intro c;exact absurd c ω)|(intro _;kernel_rfl)|kernel_rfl);exact cY rfl (aE _) (hb _) (by simp)
  .have i16:=hi.2 δ;have de:cs.getD (o+36+ai) .any=.k .u32 ((c.e.getD ai 0#32).toNat:Int):=ck.de ai i16;have ds:cs.getD (o+35) .any=.k .u32 (c.s.toNat:Int):=ck.ds;have ws:∀w:BitVec 32,bJ (o+35) cs++.k .u32 (w.toNat:Int)::cQ (o+35+1) cs=F {c with s:=w}:=λw=>EV (ck.ws w);have e:ji c ⟨5,ai⟩ v=if BP c ai (v.setWidth 32)then uf {c with s:=c.s&&&~~~(dA (v.setWidth 32).toNat)}else c:=by simp[ji]
   generalize v.setWidth 32=V at*;by_cases v32:V.toNat<32
   .have Rf:(V.toNat:Int)<32:=ω
    have eb:C9 [.c (.i (V.toNat:Int))]=some (.c (.k .u32 ((dA V.toNat).toNat:Int))):=by
     simp only[C9];rw[if_pos ω,aL];rfl
    have ez:=aCE (c.e.getD ai 0#32&&&c.s&&&dA V.toNat);rcases Classical.propComplete (c.e.getD ai 0#32&&&c.s&&&dA V.toNat=0#32)with z|z
    .rw[z]at ez;rw[if_neg (λh:BP c ai V=>h.2 (of_eq_true z))]at e;rw[e,sf,hs];(repeat(first|simp only[go_sem,seval,rT,ue,xO,f0,ho,sw,de,ds,eb,ez,Rf,aL]|simp(disch:=omega)only[w0]));exact cY rfl (aE _) hH (aB _)
    .rw[z]at ez;have Aj:cM {c with s:=c.s&&&~~~(dA V.toNat)}:=ck.ok.rU _ _ _;have st:=xO (ck.nq Aj);rw[ck.ns Aj]at st;rw[if_pos (show BP c ai V from⟨v32,of_eq_false z⟩)]at e;rw[e];(repeat(first|simp only[go_sem,seval,rT,ue,xO,f0,ho,sw,de,ds,eb,ez,Rf,ws,st,aL]|simp(disch:=omega)only[w0]));(repeat' first|apply cf|(intro c;exact absurd c ω)|(intro _;kernel_rfl)|kernel_rfl);exact cY rfl (aE _) (hb _) (by simp)
   .have Rf:¬(V.toNat:Int)<32:=ω
    rw[if_neg (λh:BP c ai V=>v32 h.1)]at e;rw[e,sf,hs];simp only[go_sem,seval,rT,ue,xO,f0,ho,sw,Rf,aL];exact cY rfl (aE _) hH (aB _)
 .simp at h
def vm(n:Int):Pk:=⟨n,bD 32 0,0#32,0#32,0#32,bD 16 0#32,bD 16 0⟩
def iP(h:Int):Pk:=if 1<=h/\h<=8 then vm h else vm 0
theorem aeR(n k:Nat):(bD n (0:Int)).getD k 0=0:=by
 rw[bX,List.getElem?_replicate];split<;>rfl
theorem V6{n:Int}(h0:0<=n)(h1:n<=8):cM (vm n):=⟨rfl,rfl,rfl,h0,h1,λk=>by
 show 0<=(bD 32 (0:Int)).getD k 0/\(bD 32 (0:Int)).getD k 0<=7;rw[aeR];decide,λk=>by
 show 0<=(bD 16 (0:Int)).getD k 0/\(bD 16 (0:Int)).getD k 0<=7;rw[aeR];decide⟩
theorem V5(h:Int):cM (iP h):=by
 unfold iP;split
 .exact V6 ω ω
 .exact V6 δ δ
theorem ajP(x:Sc)(a:Ca):Sc.one (ki x a)=true:=by
 unfold ki;split
 .split
  .rfl
  .split<;>rfl
 .rfl
def WY(args:List AV):Option AV:=match args with|[.c (.i h),.c (.u off),.c (.i sz)]=>some (.c (.b (!decide ((cb (iS h).n off sz).k=0))))|_=>none
theorem asD:cK Tryz.prog 133 WY:=by
 refine cR (tu asG (tq VD tn)) Tryz.func133 rfl Tryz.results133 Tryz.ntmps133 ?_;intro args v h;unfold WY at h;split at h
 .rename_i h off sz;simp only[ar]at h;subst h;refine⟨by simp,rfl,rfl,?_⟩;have ok:=Kv h;have q0:tC [.own (aR (iS h))] (.p 0 0 0)=some (iS h):=SL (A:=[]) (B:=[]) (id:=0) (by rw[m7];rfl) ok;have f0:=wI q0 (off:=off) (sz:=sz);have ll:=gp ok;have one:=nW (iS h);have o1:=ajP (.p 0 0 0) (cb (iS h).n off sz);generalize ki (.p 0 0 0) (cb (iS h).n off sz)=P at*;generalize(if(cb (iS h).n off sz).k=1 then((cb (iS h).n off sz).h:Int)else 0)=J at*;unfold Sc.one at o1;simp only[go_sem,seval,ax4,wI,f0,ll,one,o1]
 .simp at h
theorem av4(x:Pk):(eJ x).all Sc.pf=true:=by
 simp only[eJ,bK,fJ,vF,aQ];exact⟨rfl,cE.2 λ_ _=>rfl,rfl,rfl,rfl,cE.2 λ_ _=>rfl,cE.2 λ_ _=>rfl⟩
theorem adZ(x:Pk):(eJ x).all Sc.one=true:=by
 simp only[eJ,bK,fJ,vF,aQ];exact⟨rfl,cE.2 λ_ _=>rfl,rfl,rfl,rfl,cE.2 λ_ _=>rfl,cE.2 λ_ _=>rfl⟩
def XD(args:List AV):Option AV:=match args with|[.c (.i h)]=>some (.g (eJ (iP h)))|_=>none
theorem ayI{h}:XD [.c (.i h)]=some (.g (eJ (iP h))):=rfl
theorem atK:cK Tryz.prog 62 XD:=by
 refine cR tn Tryz.func62 rfl Tryz.results62 Tryz.ntmps62 ?_;intro args v h;unfold XD at h;split at h
 .rename_i h;simp only[ar]at h;subst h;have pp:=av4 (iP h);refine⟨by simp,by first|rfl|simp only[bK,dY,AV.pf,Sc.pf,c8, *],by first|rfl|simp only[bK,dY,AV.pf,Sc.pf,c8, *],?_⟩;have e0:eJ (vm 0)=eJ (vm 0):=rfl;by_cases c1:h<1
  .have e:iP h=vm 0:=if_neg ω;rw[e];simp only[go_sem,seval,c1];rfl
  by_cases c2:8<h
  .have e:iP h=vm 0:=if_neg ω;rw[e];simp only[go_sem,seval,c1,c2];rfl
  have e:iP h=vm h:=by unfold iP;rw[if_pos ω]
  rw[e];simp only[go_sem,seval,c1,c2];rfl
 .simp at h
def XC(args:List AV):Option AV:=match args with|[.c (.i h),.c (.u off),.c (.i sz)]=>some (.c (.b (!decide ((bM (iP h).n off sz).k=0))))|_=>none
theorem atH:cK Tryz.prog 134 XC:=by
 refine cR (tu atK (tq VJ tn)) Tryz.func134 rfl Tryz.results134 Tryz.ntmps134 ?_;intro args v h;unfold XC at h;split at h
 .rename_i h off sz;simp only[ar]at h;subst h;refine⟨by simp,rfl,rfl,?_⟩;have ok:=V5 h;have q0:rh [.own (eJ (iP h))] (.p 0 0 0)=some (iP h):=PY (A:=[]) (B:=[]) (id:=0) (by rw[m7];rfl) ok;have f0:=rT q0 (off:=off) (sz:=sz);have ll:=Al ok;have one:=adZ (iP h);simp only[go_sem,seval,ayI,rT,f0,ll,one]
 .simp at h
section
variable {P:Program}{aa:ja}{f:Nat}{fn:Func}{code:Code}{rs:List ResultVar}{n:Nat}{args:List AV}{H:AH}{v:AV}{H1:AH}
def Zj(P:Program)(aa:ja)(f:Nat)(args:List AV)(H:AH)(v:AV)(H1:AH):Prop:=∀fn code,P.funcs[f]?=some fn->fn.body=some code->(args.all (AV.aj H.length))=true->dF H=true->args.length<=fn.ntmps/\aK P ((1000000,.lo H.length)::aa) [.c code] (tH 0 args) H (λfr H'=>∃v',sJ P fr H' fn.results.toList=some v'/\Wk H.length [(0,v')] H' ([(0,v)],H1))
def Mn(R:AV->AH->Prop):Option (AV×AH):=by classical exact if h:∃r:AV×AH,R r.1 r.2 then some h.choose else none
theorem afh{R:AV->AH->Prop}(h:Mn R=some (v,H1)):R v H1:=by
 unfold Mn at h;split at h
 .rename_i h1;simp only[ar]at h;have:=h1.choose_spec;rw[h]at this;exact this
 .simp at h
theorem aw4{R:AV->AH->Prop}(h:R v H1):∃v H1,Mn R=some (v,H1)/\R v H1:=by
 have h1:∃r:AV×AH,R r.1 r.2:=⟨(v,H1),h⟩;refine⟨h1.choose.1,h1.choose.2,?_,h1.choose_spec⟩;unfold Mn;rw[dif_pos h1]
def sd(P:Program)(aa:ja)(f:Nat)(post:List AV->AH->AV->AH->Prop)(args:List AV)(H:AH):Option (AV×AH):=Mn λv H1=>Zj P aa f args H v H1/\H.length<=H1.length/\post args H v H1
variable {post:List AV->AH->AV->AH->Prop}
theorem anz(args:List AV)(H:AH)(v:AV)(H1:AH)(h:sd P aa f post args H=some (v,H1)):H.length<=H1.length:=(afh h).2.1
theorem anA(mP:P.follows .mixedOrders=true)(ht:jC P aa)(hf:P.funcs[f]?=some fn)(hb:fn.body=some code)(mQ:fn.results=rs.toArray)(hn:fn.ntmps=n)(oQ:(fn.name== "runtime.NumGoroutine")=false)(aM:mw n vR code=true):bh P f (sd P aa f post):=by
 refine Tv (s:=sd P aa f post) (aa:=aa) mP ht hf hb mQ hn oQ aM anz ?_;intro args H v H1 h ha hH;have:=(afh h).1 fn code hf hb ha hH;rw[hn,mQ]at this;exact this
theorem ie(hf:P.funcs[f]?=some fn)(hb:fn.body=some code)(mQ:fn.results=rs.toArray)(hn:fn.ntmps=n)(hl:args.length<=n)(h:(args.all (AV.aj H.length))=true->dF H=true->aK P ((1000000,.lo H.length)::aa) [.c code] (tH 0 args) H (λfr H'=>∃v',sJ P fr H' rs=some v'/\Wk H.length [(0,v')] H' ([(0,v)],H1)))(hlen:H.length<=H1.length)(hp:post args H v H1):∃v H1,sd P aa f post args H=some (v,H1)/\H.length<=H1.length/\post args H v H1:=by
 obtain⟨v,H1,h1,_,h2,h3⟩:=aw4 (R:=λv H1=>Zj P aa f args H v H1/\H.length<=H1.length/\post args H v H1) ⟨λfn' akI e1 e2 ha hH=>by
 rw[hf]at e1;simp only[ar]at e1;subst e1;rw[hb]at e2;simp only[ar]at e2;subst e2;rw[hn,mQ];exact⟨hl,h ha hH⟩,hlen,hp⟩;exact⟨v,H1,h1,h2,h3⟩
def Zk(P:Program)(aa:ja)(f:Nat)(args:List AV)(H:AH)(v:AV):Prop:=∀fn code,P.funcs[f]?=some fn->fn.body=some code->(args.all (AV.aj H.length))=true->dF H=true->args.length<=fn.ntmps/\v.aj H.length=true/\aK P ((1000000,.lo H.length)::aa) [.c code] (tH 0 args) H (λfr H'=>sJ P fr H' fn.results.toList=some v/\qz H H')
def Mo(R:AV->Prop):Option AV:=by classical exact if h:∃r:AV,R r then some h.choose else none
theorem aw5{R:AV->Prop}(h:Mo R=some v):R v:=by
 unfold Mo at h;split at h
 .rename_i h1;simp only[ar]at h;have:=h1.choose_spec;rw[h]at this;exact this
 .simp at h
theorem aw6{R:AV->Prop}(h:R v):∃v,Mo R=some v/\R v:=by
 have h1:∃r:AV,R r:=⟨v,h⟩;refine⟨h1.choose,?_,h1.choose_spec⟩;unfold Mo;rw[dif_pos h1]
def lk(P:Program)(aa:ja)(f:Nat)(post:List AV->AH->AV->Prop)(args:List AV)(H:AH):Option AV:=Mo λv=>Zk P aa f args H v/\post args H v
variable {IQ:List AV->AH->AV->Prop}
theorem anx(mP:P.follows .mixedOrders=true)(ht:jC P aa)(hf:P.funcs[f]?=some fn)(hb:fn.body=some code)(mQ:fn.results=rs.toArray)(hn:fn.ntmps=n)(oQ:(fn.name== "runtime.NumGoroutine")=false)(aM:mw n vR code=true):bh P f (λargs H=>(lk P aa f IQ args H).map λv=>(v,H)):=by
 refine abt (s:=lk P aa f IQ) (aa:=aa) mP ht hf hb mQ hn oQ aM ?_;intro args H v h ha hH;have:=(aw5 h).1 fn code hf hb ha hH;rw[hn,mQ]at this;exact this
theorem mM(hf:P.funcs[f]?=some fn)(hb:fn.body=some code)(mQ:fn.results=rs.toArray)(hn:fn.ntmps=n)(hl:args.length<=n)(hv:(args.all (AV.aj H.length))=true->dF H=true->v.aj H.length=true)(h:(args.all (AV.aj H.length))=true->dF H=true->aK P ((1000000,.lo H.length)::aa) [.c code] (tH 0 args) H (λfr H'=>sJ P fr H' rs=some v/\qz H H'))(hp:IQ args H v):∃v,lk P aa f IQ args H=some v/\IQ args H v:=by
 obtain⟨v,h1,_,h3⟩:=aw6 (R:=λv=>Zk P aa f args H v/\IQ args H v) ⟨λfn' akI e1 e2 ha hH=>by
 rw[hf]at e1;simp only[ar]at e1;subst e1;rw[hb]at e2;simp only[ar]at e2;subst e2;rw[hn,mQ];exact⟨hl,hv ha hH,h ha hH⟩,hp⟩;exact⟨v,h1,h3⟩
end
section
variable {f:Nat}{fn:Func}{code:Code}{rs:List ResultVar}{n:Nat}{aa:ja}(ht:jC Tryz.prog aa)(hf:Tryz.prog.funcs[f]?=some fn)(hb:fn.body=some code)(mQ:fn.results=rs.toArray)(hn:fn.ntmps=n)(oQ:(fn.name== "runtime.NumGoroutine")=false:=by kernel_rfl)(aM:mw n vR code=true:=by kernel_rfl)
include ht hf hb mQ hn oQ aM
theorem yw{p:List AV->AH->AV->AH->Prop}:bh Tryz.prog f (sd Tryz.prog aa f p):=anA mP ht hf hb mQ hn oQ aM
theorem oL{p:List AV->AH->AV->Prop}:bh Tryz.prog f (λargs H=>(lk Tryz.prog aa f p args H).map λv=>(v,H)):=anx mP ht hf hb mQ hn oQ aM
end
structure Po where
 e:Int
 l:Int
 m:Int
 s:Int
 dl:Int
 dm:Int
 ff:Bool
 lo:Bool
 em:Bool
 x:Sc
 y:Sc
def iy(p:Po):List Sc:=[.k .u8 p.e,.k .u8 p.l,.k .u8 p.m,.k .u8 p.s,.k .u8 p.dl,.k .u8 p.dm,.b p.ff,.b p.lo,.b p.em,p.x,p.y]
def nJ:ae->Option Po|.own [.k .u8 e,.k .u8 l,.k .u8 m,.k .u8 s,.k .u8 dl,.k .u8 dm,.b ff,.b lo,.b em,x,y]=>some ⟨e,l,m,s,dl,dm,ff,lo,em,x,y⟩|_=>none
variable {o:ae}{p:Po}
theorem tZ(h:nJ o=some p):o=.own [.k .u8 p.e,.k .u8 p.l,.k .u8 p.m,.k .u8 p.s,.k .u8 p.dl,.k .u8 p.dm,.b p.ff,.b p.lo,.b p.em,p.x,p.y]:=by
 unfold nJ at h;split at h
 .simp only[ar]at h;subst h;rfl
 .simp at h
def BF:Sc->Option Nat|.az=>some 0|.sl _ _ _ n=>some n|_=>none
theorem Pz{s:Sc}(h:BF s=some n):(s=.az/\n=0)\/∃i o v,s=.sl i o v n:=by
 unfold BF at h;split at h
 .simp at h;exact .inl ⟨rfl,h.symm⟩
 .simp at h;exact .inr ⟨_,_,_,by rw[h]⟩
 .simp at h
def cn(a b:Int):Int:=IntKind.u8.wrap ((aw 8 a&&&aw 8 b).toNat)
def BM(a b:Int):Int:=IntKind.u8.wrap ((aw 8 a|||aw 8 b).toNat)
variable {P:Program}
theorem ahb{t:Nat}{x y:Int}:cA P .and t (.c (.k .u8 x)) (.c (.k .u8 y))=some (.c (.k .u8 (cn x y))):=RY
theorem ahc{t:Nat}{x y:Int}:cA P .or t (.c (.k .u8 x)) (.c (.k .u8 y))=some (.c (.k .u8 (BM x y))):=RZ
attribute [go_sem 1100]ahb ahc
def xg(p:Po)(n:Nat):Int:=if cn p.e 4≠0/\p.lo=true then 6 else if cn p.e 1≠0/\0<n then 4 else if cn p.e 2≠0/\p.em=true then 2 else 1
def M8(args:List AV)(H:AH):Option AV:=match args with
 |[.c (.p id 0 0)]=>match nJ (hg H id)with
   |some p=>match BF p.x with
     |some n=>some (.c (.k .u8 (xg p n)))|none=>none
   |none=>none
 |_=>none
theorem afI{id:Nat}{H:AH}{p:Po}{n:Nat}(h:nJ (hg H id)=some p)(hn:BF p.x=some n):M8 [.c (.p id 0 0)] H=some (.c (.k .u8 (xg p n))):=by simp only[M8,h,hn]
theorem adF:bh Tryz.prog 144 (λargs H=>(M8 args H).map λv=>(v,H)):=by
 refine jo (s:=M8) tn Tryz.func144 rfl Tryz.results144 Tryz.ntmps144 ?_;intro args H v h b9 hH;unfold M8 at h;split at h
 .rename_i id;split at h
  .rename_i p hp;split at h
   .rename_i n hn;have hm:=tZ hp;simp only[ar]at h;subst h;refine⟨by simp,rfl,?_⟩;obtain⟨e,l,m,s,dl,dm,ff,lo,em,x,y⟩:=p;simp only at hm hn|-;unfold xg;by_cases h4:cn e 4=0<;>by_cases h1:cn e 1=0<;>by_cases h2:cn e 2=0<;>cases lo<;>cases em;all_goals rcases Pz hn with⟨rfl,rfl⟩|⟨i,o,v,rfl⟩
    rotate_left;all_goals first|(by_cases hz:0<n<;>(repeat(first|simp only[go_sem,seval,hm,h4,h1,h2,hz]|simp(disch:=omega)only[w0])))|(repeat(first|simp(maxSteps:=9^9)only[go_sem,seval,hm,h4,h1,h2]|simp(disch:=omega)only[aq,aV,aU,aT,aS]))
    all_goals first|exact aE _|exact⟨by simp,aE _⟩
   .simp at h
  .simp at h
 .simp at h
def Gz(p:Po):Int:=if p.ff=true then 16 else 1
def Nc(args:List AV)(H:AH):Option AV:=match args with
 |[.c (.p id 0 0)]=>match nJ (hg H id)with
   |some p=>some (.c (.i (Gz p)))|none=>none
 |_=>none
theorem azd{id:Nat}{H:AH}{p:Po}(h:nJ (hg H id)=some p):Nc [.c (.p id 0 0)] H=some (.c (.i (Gz p))):=by simp only[Nc,h]
theorem auK:bh Tryz.prog 189 (λargs H=>(Nc args H).map λv=>(v,H)):=by
 refine jo (s:=Nc) tn Tryz.func189 rfl Tryz.results189 Tryz.ntmps189 ?_;intro args H v h b9 hH;unfold Nc at h;split at h
 .rename_i id;split at h
  .rename_i p hp;have hm:=tZ hp;simp only[ar]at h;subst h;refine⟨by simp,rfl,?_⟩;obtain⟨e,l,m,s,dl,dm,ff,lo,em,x,y⟩:=p;simp only at hm|-;cases ff;all_goals simp only[go_sem,seval,hm,Gz]
   all_goals first|exact aE _|exact⟨rfl,aE _⟩
  .simp at h
 .simp at h
theorem Mb{H:AH}(hH:dF H=true){id:Nat}{p:Po}(h:nJ (hg H id)=some p):p.x.aj H.length=true/\p.y.aj H.length=true:=by
 have a:=Cq hH id;rw[tZ h]at a;simp[ae.cells,ae.cW,Sc.aj]at a;exact a
theorem D9(hx:p.x.aj n=true)(hy:p.y.aj n=true):(iy p).all (Sc.aj n)=true:=by
 simp only[iy,bK,dY,Sc.aj,gG,c8];change(p.x.aj n&&p.y.aj n)=true;rw[hx,hy];rfl
def xL(H:AH)(x b:Sc):Option (Sc×AH):=match x with
 |.az=>some (.sl (H.length+1) 0 1 1,H++[.dead,.vec 1 [b]])|.sl i 0 v n=>match hg H i with
   |.vec 1 cs=>if v=cs.length/\cs.length=n/\n<=1000000 then some (.sl i 0 (n+1) (n+1),H.set i (.vec 1 (cs++[b])))else none|_=>none
 |_=>none
def wL(args:List AV)(H:AH):Option (AV×AH):=match args with
 |[.c (.p id 0 0),.c (.k .u8 b)]=>match nJ (hg H id)with
   |some p=>match BF p.x with
     |some n=>if Gz p<=n then some (.c (.b false),H.set id (.own (iy {p with lo:=true})))else match xL H p.x (.k .u8 b)with
        |some (x',H1)=>some (.c (.b true),H1.set id (.own (iy {p with x:=x'})))|none=>none
     |none=>none
   |none=>none
 |_=>none
variable {x':Sc}
theorem ad8{o v:Nat}{b:Sc}{H2:AH}(h:xL H (.sl i o v n) b=some (x',H2)):∃cs,o=0/\hg H i=.vec 1 cs/\v=cs.length/\cs.length=n/\n<=1000000/\x'=.sl i 0 (n+1) (n+1)/\H2=H.set i (.vec 1 (cs++[b])):=by
 unfold xL at h;split at h
 .rename_i hq;simp at hq
 .rename_i i' v' n' hq;simp only[Sc.sl.injEq]at hq;obtain⟨rfl,rfl,rfl,rfl⟩:=hq;split at h
  .rename_i cs hi;split at h
   .rename_i hc;simp only[ar,bE]at h;exact⟨cs,rfl,hi,hc.1,hc.2.1,hc.2.2,h.1.symm,h.2.symm⟩
   .simp at h
  .simp at h
 .simp at h
variable {H1:AH}
theorem ad9{b:Sc}(h:xL H x b=some (x',H1)):H.length<=H1.length:=by
 unfold xL at h;repeat' split at h
 all_goals simp at h
 all_goals rw[<-h.2]
 all_goals simp
theorem UU(args:List AV)(H:AH)(v:AV)(H1:AH)(h:wL args H=some (v,H1)):H.length<=H1.length:=by
 unfold wL at h;repeat' split at h
 all_goals simp at h
 .rw[<-h.2];simp
 .rename_i hp;rw[<-h.2];simpa using ad9 hp
theorem adG:bh Tryz.prog 141 wL:=by
 refine gJ (s:=wL) (tq auK tn) Tryz.func141 rfl Tryz.results141 Tryz.ntmps141 UU ?_;intro args H v H1 h b9 hH;unfold wL at h;split at h
 .rename_i id b;split at h
  .rename_i p hp;have hm:=tZ hp;have aD:id<H.length:=eu (by rw[hm];rfl);have r0:=azd hp;generalize Gz p=R at h r0;obtain⟨bx,nV⟩:=Mb hH hp;obtain⟨e,l,m,s,dl,dm,ff,lo,em,x,y⟩:=p;simp only at hm bx nV r0 h;have gx:∀X,hg (H++X) id=_:=λX=>(cB aD).trans hm;have sx:∀X o,(H++X).set id o=H.set id o++X:=λX o=>mg _ _ aD;split at h
   .rename_i n hn;split at h
    .rename_i hr;simp only[ar,bE]at h;obtain⟨rfl,rfl⟩:=h;refine⟨by simp,?_⟩;have bb:dF (H.set id (.own (iy ⟨e,l,m,s,dl,dm,ff,true,em,x,y⟩)))=true:=py hH (D9 (p:=⟨e,l,m,s,dl,dm,ff,true,em,x,y⟩) bx nV);rcases Pz hn with⟨rfl,rfl⟩|⟨i,o,v,rfl⟩
     ·(repeat(first|simp only[go_sem,seval,hm,r0,hr]|simp(disch:=omega)only[w0]));apply cY
      .rfl
      .exact aE _
      .exact bb
      .simp
     .simp only[go_sem,seval,hm,r0,hr];apply cY
      .rfl
      .exact aE _
      .exact bb
      .simp
    .rename_i hr;split at h
     .rename_i x' H2 sF;simp only[ar,bE]at h;obtain⟨rfl,rfl⟩:=h;refine⟨by simp,?_⟩;rcases Pz hn with⟨rfl,rfl⟩|⟨i,o,v,rfl⟩
      .simp[xL]at sF;obtain⟨rfl,rfl⟩:=sF;(repeat(first|simp only[go_sem,seval,hm,r0,hr,gx,sx]|simp(disch:=omega)only[w0]));apply cY
       .rfl
       .exact EP _ ⟨.inl rfl,.inr rfl,trivial⟩
       .rw[<-sx];refine py (uk hH (by simp[ae.cells,ae.cW,Sc.aj])) (D9 (p:=⟨e,l,m,s,dl,dm,ff,lo,em,_,y⟩) ?_ ?_)
        .simp[Sc.aj]
        .exact Sc.ic nV (by simp)
       .simp
      .obtain⟨cs,rfl,hi,c1,c2,c3,rfl,rfl⟩:=ad8 sF;have li:i<H.length:=eu (by rw[hi];rfl);have ne:i≠id:=λe=>by rw[e,hm]at hi;simp at hi
       have gi:∀X,hg (H++X) i=_:=λX=>(cB li).trans hi;have si:∀X o,(H++X).set i o=H.set i o++X:=λX o=>mg _ _ li;have gs:∀X o,hg (H.set i o++X) id=_:=λX o=>(cB (by simpa using aD)).trans ((ej ne).trans hm);have ss:∀X o o',(H.set i o++X).set id o'=(H.set i o).set id o'++X:=λX o o'=>mg _ _ (by simpa using aD);have c4:n<=1099511627775:=ω
       simp only[go_sem,seval,hm,r0,hr,gx,sx,gi,si,gs,ss,c1,c2,c4];have bi:=Cq hH i;rw[hi]at bi;apply cY
       .rfl
       .exact aC _ _
       .refine py (py hH ?_) (D9 (p:=⟨e,l,m,s,dl,dm,ff,lo,em,_,y⟩) ?_ ?_)
        .simp only[ae.cells,ae.cW,fJ,bK,dY,c8,Sc.aj]at bi|-;exact bi
        .simpa[Sc.aj]using li
        .simpa using nV
       .simp
     .simp at h
   .simp at h
  .simp at h
 .simp at h
def pX(H:AH)(x:Sc):Option (Sc×AH):=match x with|.az=>some (.sl H.length 0 0 0,H++[.vec 1 []])|.sl i o v n=>if v=(hg H i).row/\o+n<=(hg H i).cells.length/\(((hg H i).cells.drop o).take n).all Sc.one=true/\n<=1000000 then some (.sl H.length 0 n n,H++[.vec 1 (((hg H i).cells.drop o).take n)])else none|_=>none
def GX(args:List AV)(H:AH):Option (AV×AH):=match args with|[.c x]=>(pX H x).map λr=>(.c r.1,r.2)|_=>none
theorem SV(h:pX H x=some (x',H1)):H.length<=H1.length:=by
 unfold pX at h;repeat' split at h
 all_goals simp at h
 all_goals rw[<-h.2]
 all_goals simp
theorem ap9(args:List AV)(H:AH)(v:AV)(H1:AH)(h:GX args H=some (v,H1)):H.length<=H1.length:=by
 unfold GX at h;split at h
 .rw[eE]at h;obtain⟨r,h1,h2⟩:=h;simp only[bE]at h2;rw[<-h2.2];exact SV h1
 .simp at h
theorem M9(h:pX H x=some (x',H1)):GX [.c x] H=some (.c x',H1):=by simp only[GX,h,pn]
theorem abm(hb:dF H=true)(hn:n<=H.length):∃v',some (AV.c .az)=some v'/\Wk n [(0,v')] H ([(0,.c (.sl H.length 0 0 0))],H++[.vec 1 []]):=⟨_,rfl,Wk.trans (Wk.nil 0 1 δ rfl hn) (Wk.wk (by simp;omega) (by simp[Am.get]) (by simp[AV.aj,Sc.aj]) (aE _) (uk hb (by simp[ae.cells,ae.cW])))⟩
theorem PT:bh Tryz.prog 52 GX:=by
 refine gJ (s:=GX) tn Tryz.func52 rfl Tryz.results52 Tryz.ntmps52 ap9 ?_;intro args H v H1 h b9 hH;unfold GX at h;split at h
 .rename_i x;rw[eE]at h;obtain⟨⟨x',H2⟩,h1,h2⟩:=h;simp only[bE]at h2;obtain⟨rfl,rfl⟩:=h2;refine⟨by simp,?_⟩;unfold pX at h1;split at h1
  .simp only[ar,bE]at h1;obtain⟨rfl,rfl⟩:=h1;simp only[go_sem,seval];exact abm hH (aB _)
  .rename_i i o v n;split at h1
   .rename_i hc;obtain⟨c1,c2,c3,c4⟩:=hc;simp only[ar,bE]at h1;obtain⟨rfl,rfl⟩:=h1;have li:i<H.length:=by simpa[AV.aj,Sc.aj]using b9
    have gi:∀X,hg (H++X) i=hg H i:=λX=>cB li;have c5:n<=1099511627776:=ω
    generalize hq:((hg H i).cells.drop o).take n=q at c3|-;have lq:q.length=n:=by rw[<-hq];simp;omega
    have bq:q.all (Sc.aj H.length)=true:=by
     have:=Cq hH i;rw[<-hq];exact cE.2 λs hs=>cE.1 this s (J7 (J8 hs))
    have fin:∃v',some (AV.c (.sl H.length 0 n n))=some v'/\Wk H.length [(0,v')] (H++[.vec 1 q]) ([(0,.c (.sl H.length 0 n n))],H++[.vec 1 q]):=by
     apply cY
     .simp[AV.aj,Sc.aj]
     .exact aE _
     .refine uk hH ?_;simp only[wZ,forall_eq,ae.cells,ae.cW];exact cE.2 λs hs=>Sc.ic (cE.1 bq s hs) (by simp)
     .simp
    by_cases hz:n=0
    .subst hz;obtain rfl:q=[]:=vG lq;(repeat(first|simp only[go_sem,seval,aay,c1,c2,c3,c5,gi,hq,lq]|simp(disch:=omega)only[w0]));exact⟨abm hH (aB _),fin⟩
    .simp only[go_sem,seval,c1,c2,c3,c5,gi,hq,lq,hz];exact fin
   .simp at h1
  .simp at h1
 .simp at h
theorem akp(hH:dF H=true)(h:pX H x=some (x',H1)):dF H1=true/\x'.aj H1.length=true/\∃q,H1=H++[.vec 1 q]:=by
 unfold pX at h;split at h
 .simp only[ar,bE]at h;obtain⟨rfl,rfl⟩:=h;exact⟨uk hH (by simp[ae.cells,ae.cW]),by simp[Sc.aj],_,rfl⟩
 .rename_i i o v n;split at h
  .simp only[ar,bE]at h;obtain⟨rfl,rfl⟩:=h;refine⟨uk hH ?_,by simp[Sc.aj],_,rfl⟩;simp only[wZ,forall_eq,ae.cells,ae.cW];exact cE.2 λs hs=>Sc.ic (cE.1 (Cq hH i) s (J7 (J8 hs))) (by simp)
  .simp at h
 .simp at h
def yZ(args:List AV)(H:AH):Option (AV×AH):=match args with
 |[.c (.p id 0 0)]=>match nJ (hg H id)with
   |some p=>match p.x with
     |.az=>some (.c (.k .u8 0),H)|.sl _ 0 _ 0=>some (.c (.k .u8 0),H)|.sl i 0 v (n+1)=>match(hg H i).cells with
       |.k .u8 b::_=>match pX H (.sl i 1 v n)with
         |some (x',H1)=>some (.c (.k .u8 b),H1.set id (.own (iy {p with x:=x'})))|none=>none
       |_=>none
     |_=>none
   |none=>none
 |_=>none
theorem acw(args:List AV)(H:AH)(v:AV)(H1:AH)(h:yZ args H=some (v,H1)):H.length<=H1.length:=by
 unfold yZ at h;repeat' split at h
 all_goals simp at h
 .rw[<-h.2];exact aB _
 .rw[<-h.2];exact aB _
 .rename_i hp;rw[<-h.2];simpa using SV hp
theorem auO:bh Tryz.prog 183 yZ:=by
 refine gJ (s:=yZ) (tp PT tn) Tryz.func183 rfl Tryz.results183 Tryz.ntmps183 acw ?_;intro args H v H1 h b9 hH;unfold yZ at h;split at h
 .rename_i id;split at h
  .rename_i p hp;have hm:=tZ hp;have aD:id<H.length:=eu (by rw[hm];rfl);obtain⟨bx,nV⟩:=Mb hH hp;obtain⟨e,l,m,s,dl,dm,ff,lo,em,x,y⟩:=p;simp only at hm bx nV h;have gx:∀X,hg (H++X) id=_:=λX=>(cB aD).trans hm;have sx:∀X o,(H++X).set id o=H.set id o++X:=λX o=>mg _ _ aD;split at h
   .simp only[ar,bE]at h;obtain⟨rfl,rfl⟩:=h;refine⟨by simp,?_⟩;simp only[go_sem,seval,hm];exact cY rfl (aE _) hH (aB _)
   .simp only[ar,bE]at h;obtain⟨rfl,rfl⟩:=h;refine⟨by simp,?_⟩;simp only[go_sem,seval,hm];exact cY rfl (aE _) hH (aB _)
   .rename_i i v n;split at h
    .rename_i b cs cu;split at h
     .rename_i x' H2 hc;simp only[ar,bE]at h;obtain⟨rfl,rfl⟩:=h;refine⟨by simp,?_⟩;have cq:=M9 hc;obtain⟨bH,bx',q,rfl⟩:=akp hH hc;have c1:v=(hg H i).row/\1+n<=(hg H i).cells.length/\x'=.sl H.length 0 n n:=by
       unfold pX at hc;simp only at hc;split at hc
       .rename_i h;simp only[ar,bE]at hc;exact⟨h.1,h.2.1,hc.1.symm⟩
       .simp at hc
      obtain⟨c1,c2,rfl⟩:=c1;rw[cu]at c2;rw[c1]at cq;have e1:n.succ-1=n:=rfl;(repeat(first|simp only[go_sem,seval,hm,c1,c2,cu,gx,sx,e1,cq]|simp(disch:=omega)only[w0]));apply cY
      .rfl
      .exact aE _
      .rw[<-sx];exact py (o:=.own (iy ⟨e,l,m,s,dl,dm,ff,lo,em,_,y⟩)) bH (D9 (p:=⟨e,l,m,s,dl,dm,ff,lo,em,_,y⟩) bx' (Sc.ic nV (by simp)))
      .simp
     .simp at h
    .simp at h
   .simp at h
  .simp at h
 .simp at h
def za(args:List AV)(H:AH):Option (AV×AH):=match args with
 |[.c (.p id 0 0)]=>match nJ (hg H id)with
   |some p=>match BF p.x with
     |some n=>some (.c (.k .u8 (if p.ff=true then BM (xg p n) 192 else xg p n)),if xg p n=2 then H.set id (.own (iy {p with em:=false}))else H)|none=>none
   |none=>none
 |_=>none
theorem acx(args:List AV)(H:AH)(v:AV)(H1:AH)(h:za args H=some (v,H1)):H.length<=H1.length:=by
 unfold za at h;repeat' split at h
 all_goals simp at h
 all_goals rw[<-h.2];first|(split<;>simp)|simp
theorem auP:bh Tryz.prog 184 za:=by
 refine gJ (s:=za) (tq adF tn) Tryz.func184 rfl Tryz.results184 Tryz.ntmps184 acx ?_;intro args H v H1 h b9 hH;unfold za at h;split at h
 .rename_i id;split at h
  .rename_i p hp;split at h
   .rename_i n hn;have hm:=tZ hp;have aD:id<H.length:=eu (by rw[hm];rfl);obtain⟨bx,nV⟩:=Mb hH hp;have cc:=afI hp hn;generalize xg p n=c at h cc;obtain⟨e,l,m,s,dl,dm,ff,lo,em,x,y⟩:=p;simp only at hm bx nV h;simp only[ar,bE]at h;obtain⟨rfl,rfl⟩:=h;refine⟨by simp,?_⟩;have bb:dF (H.set id (.own (iy ⟨e,l,m,s,dl,dm,ff,lo,false,x,y⟩)))=true:=py hH (D9 (p:=⟨e,l,m,s,dl,dm,ff,lo,false,x,y⟩) bx nV);by_cases h2:c=2
    .subst h2;cases ff;all_goals simp only[go_sem,seval,hm,cc,iN aD]
     all_goals apply cY
     all_goals first|exact bb|exact aE _|simp[AV.aj,Sc.aj]
    .cases ff;all_goals simp only[go_sem,seval,hm,cc,h2]
     all_goals apply cY
     all_goals first|exact hH|exact aE _|simp[AV.aj,Sc.aj]
   .simp at h
  .simp at h
 .simp at h
def stateT(lo:Bool)(n:Nat):Int:=if lo=true then BM (if 0<n then BM 96 1 else 96) 2 else(if 0<n then BM 96 1 else 96)
def yY(args:List AV)(H:AH):Option (AV×AH):=match args with
 |[.c (.p id 0 0)]=>match nJ (hg H id)with
   |some p=>match BF p.x with
     |some n=>some (.c (.k .u8 (stateT p.lo n)),if p.lo=true then H.set id (.own (iy {p with lo:=false}))else H)|none=>none
   |none=>none
 |_=>none
theorem acu(args:List AV)(H:AH)(v:AV)(H1:AH)(h:yY args H=some (v,H1)):H.length<=H1.length:=by
 unfold yY at h;repeat' split at h
 all_goals simp at h
 all_goals rw[<-h.2];first|(split<;>simp)|simp
theorem auN:bh Tryz.prog 185 yY:=by
 refine gJ (s:=yY) tn Tryz.func185 rfl Tryz.results185 Tryz.ntmps185 acu ?_;intro args H v H1 h b9 hH;unfold yY at h;split at h
 .rename_i id;split at h
  .rename_i p hp;split at h
   .rename_i n hn;have hm:=tZ hp;have aD:id<H.length:=eu (by rw[hm];rfl);obtain⟨bx,nV⟩:=Mb hH hp;obtain⟨e,l,m,s,dl,dm,ff,lo,em,x,y⟩:=p;simp only at hm bx nV h hn;simp only[ar,bE]at h;obtain⟨rfl,rfl⟩:=h;refine⟨by simp,?_⟩;have bb:dF (H.set id (.own (iy ⟨e,l,m,s,dl,dm,ff,false,em,x,y⟩)))=true:=py hH (D9 (p:=⟨e,l,m,s,dl,dm,ff,false,em,x,y⟩) bx nV);rcases Pz hn with⟨rfl,rfl⟩|⟨i,o,v,rfl⟩
    .cases lo
     .simp only[go_sem,seval,hm];exact cY rfl (aE _) hH (aB _)
     .simp only[go_sem,seval,hm];exact cY rfl (aE _) bb (by simp)
    .by_cases hz:0<n;all_goals cases lo
     all_goals(repeat(first|simp only[go_sem,seval,hm,hz,stateT]|simp(disch:=omega)only[w0]))
     all_goals apply cY
     all_goals first|exact hH|exact bb|exact aE _|simp[AV.aj,Sc.aj]
   .simp at h
  .simp at h
 .simp at h
def Nj(a:Int)(n:Nat):Int:=IntKind.u8.wrap (a*2^(min n 8))
def QW(a:Int)(n:Nat):Int:=a/2^(min n 8)
section
variable {P:Program}{t:Nat}{x:Int}{y:BitVec 64}
theorem ahe:cA P .shl t (.c (.k .u8 x)) (.c (.u y))=some (.c (.k .u8 (Nj x y.toNat))):=rfl
theorem ahf:cA P .shr t (.c (.k .u8 x)) (.c (.u y))=some (.c (.k .u8 (QW x y.toNat))):=rfl
end
attribute [go_sem 1100]ahe ahf
def CR(m:Int):Int:=if cn m 16=0 then 176 else BM (BM (BM (Nj (cn (QW m 1) 1) 4) (Nj (cn m 1) 5)) (Nj (cn (QW m 2) 1) 6)) (Nj (cn (QW m 3) 1) 7)
def Na(args:List AV)(H:AH):Option AV:=match args with
 |[.c (.p id 0 0)]=>match nJ (hg H id)with
   |some p=>some (.c (.k .u8 (CR p.m)))|none=>none
 |_=>none
theorem azc{id:Nat}{H:AH}{p:Po}(h:nJ (hg H id)=some p):Na [.c (.p id 0 0)] H=some (.c (.k .u8 (CR p.m))):=by simp only[Na,h]
theorem auF:bh Tryz.prog 186 (λargs H=>(Na args H).map λv=>(v,H)):=by
 refine jo (s:=Na) tn Tryz.func186 rfl Tryz.results186 Tryz.ntmps186 ?_;intro args H v h b9 hH;unfold Na at h;split at h
 .rename_i id;split at h
  .rename_i p hp;have hm:=tZ hp;simp only[ar]at h;subst h;refine⟨by simp,rfl,?_⟩;obtain⟨e,l,m,s,dl,dm,ff,lo,em,x,y⟩:=p;simp only at hm|-;by_cases h0:cn m 16=0;all_goals simp only[go_sem,seval,hm,CR,h0]
   all_goals first|exact aE _|exact⟨rfl,aE _⟩
  .simp at h
 .simp at h
theorem aI{v:AV}:∃v',some v=some v'/\Wk n [(0,v')] H ([(0,v)],H):=⟨_,rfl,λρ _ _ h1 h2=>⟨ρ,h1,h2,λi _ hi hL _=>⟨i,hi,hL⟩,λ_ _=>rfl⟩⟩
theorem PN(off:BitVec 64):7#64<off\/off=0#64\/off=1#64\/off=2#64\/off=3#64\/off=4#64\/off=5#64\/off=6#64\/off=7#64:=by
 have k:∀n:Nat,n<18446744073709551616->off.toNat=n->off=kD 64 n:=λn hn h=>by apply mB;rw[vB];omega
 rcases cX 7 off.toNat with h|h
 .left;exact h
 .right;have:off.toNat=0\/off.toNat=1\/off.toNat=2\/off.toNat=3\/off.toNat=4\/off.toNat=5\/off.toNat=6\/off.toNat=7:=ω
  rcases this with h|h|h|h|h|h|h|h;all_goals have:=k _ δ h
  all_goals simp[this]
def okB(r:Option (AV×AH)):Option (AV×AH):=match r with|some (.c s,H1)=>some (.t [.c s,.c (.b true)],H1)|_=>none
variable {r:Option (AV×AH)}
theorem Vz{v:AV}(h:okB r=some (v,H1)):∃s,r=some (.c s,H1)/\v=.t [.c s,.c (.b true)]:=by
 unfold okB at h;split at h
 .simp only[ar,bE]at h;obtain⟨rfl,rfl⟩:=h;exact⟨_,rfl,rfl⟩
 .simp at h
theorem VA{a:List AV}{f:List AV->AH->Option (AV×AH)}(hf:∀a H v H1,f a H=some (v,H1)->H.length<=H1.length){H H1:AH}{v:AV}(h:okB (f a H)=some (v,H1)):H.length<=H1.length:=by
 obtain⟨s,h1,_⟩:=Vz h;exact hf _ _ _ _ h1
def AB(args:List AV)(H:AH):Option (AV×AH):=match args with
 |[.c .dk,.c (.u _)]=>some (.t [.c (.k .u8 0),.c (.b false)],H)|[.c (.p id 0 0),.c (.u off)]=>if 7#64<off then some (.t [.c (.k .u8 0),.c (.b false)],H)else match nJ (hg H id)with
   |none=>none|some p=>if off=0#64 then(if cn p.l 128=0 then okB (yZ [.c (.p id 0 0)] H)else some (.t [.c (.k .u8 p.dl),.c (.b true)],H))else if off=1#64 then some (.t [.c (.k .u8 (if cn p.l 128=0 then p.e else p.dm)),.c (.b true)],H)else if off=2#64 then okB (za [.c (.p id 0 0)] H)else if off=3#64 then some (.t [.c (.k .u8 p.l),.c (.b true)],H)else if off=4#64 then some (.t [.c (.k .u8 p.m),.c (.b true)],H)else if off=5#64 then okB (yY [.c (.p id 0 0)] H)else if off=6#64 then some (.t [.c (.k .u8 (CR p.m)),.c (.b true)],H)else some (.t [.c (.k .u8 p.s),.c (.b true)],H)
 |_=>none
theorem aqb(args:List AV)(H:AH)(v:AV)(H1:AH)(h:AB args H=some (v,H1)):H.length<=H1.length:=by
 unfold AB at h;repeat' split at h
 all_goals first
 |exact VA acw h|exact VA acx h|exact VA acu h|(simp at h;done)|(simp at h;rw[<-h.2];exact aB _)
theorem auJ:bh Tryz.prog 132 AB:=by
 refine gJ (s:=AB) (tp auO (tp auP (tp auN (tq auF tn)))) Tryz.func132 rfl Tryz.results132 Tryz.ntmps132 aqb ?_;intro args H v H1 h b9 hH;unfold AB at h;split at h
 .rename_i off;simp only[ar,bE]at h;obtain⟨rfl,rfl⟩:=h;refine⟨by simp,?_⟩;simp only[go_sem,seval];exact aI
 .rename_i id off;refine⟨by simp,?_⟩;rcases PN off with h7|h7
  .rw[if_pos h7]at h;simp only[ar,bE]at h;obtain⟨rfl,rfl⟩:=h;simp only[go_sem,seval,h7];exact aI
  .have n7:¬7#64<off:=by rcases h7 with rfl|rfl|rfl|rfl|rfl|rfl|rfl|rfl<;>decide
   rw[if_neg n7]at h;split at h
   .simp at h
   .rename_i p hp;have hm:=tZ hp;have aD:id<H.length:=eu (by rw[hm];rfl);have mo:=azc hp;obtain⟨e,l,m,s,dl,dm,ff,lo,em,x,y⟩:=p;simp only at hm mo h;by_cases hl:cn l 128=0;all_goals rcases h7 with rfl|rfl|rfl|rfl|rfl|rfl|rfl|rfl
    all_goals simp[hl]at h
    all_goals first|(obtain⟨rfl,rfl⟩:=h;simp only[go_sem,seval,hm,mo,hl];first|exact aI|skip)|(obtain⟨v',h1,rfl⟩:=Vz h;simp only[go_sem,seval,hm,mo,hl,h1];first|exact aI|skip)
 .simp at h
def yX(args:List AV)(H:AH):Option (AV×AH):=match args with
 |[.c (.p id 0 0),.c (.k .u8 b)]=>match nJ (hg H id)with
   |some p=>if cn p.m 16=0 then match xL H p.y (.k .u8 b)with|some (y',H1)=>some (.t [],H1.set id (.own (iy {p with y:=y',em:=true})))|none=>none else match wL [.c (.p id 0 0),.c (.k .u8 b)] H with
      |some (_,H1)=>match nJ (hg H1 id)with|some p1=>some (.t [],H1.set id (.own (iy {p1 with em:=true})))|none=>none
      |none=>none
   |none=>none
 |_=>none
theorem acs(args:List AV)(H:AH)(v:AV)(H1:AH)(h:yX args H=some (v,H1)):H.length<=H1.length:=by
 unfold yX at h;repeat' split at h
 all_goals simp at h
 .rename_i hp;rw[<-h.2];simpa using ad9 hp
 .rename_i hp _ _ _;rw[<-h.2];simpa using UU _ _ _ _ hp
theorem auM:bh Tryz.prog 187 yX:=by
 refine gJ (s:=yX) (tp adG tn) Tryz.func187 rfl Tryz.results187 Tryz.ntmps187 acs ?_;intro args H v H1 h b9 hH;unfold yX at h;split at h
 .rename_i id b;split at h
  .rename_i p hp;have hm:=tZ hp;have aD:id<H.length:=eu (by rw[hm];rfl);obtain⟨bx,nV⟩:=Mb hH hp;obtain⟨e,l,m,s,dl,dm,ff,lo,em,x,y⟩:=p;simp only at hm bx nV h;have gx:∀X,hg (H++X) id=_:=λX=>(cB aD).trans hm;have sx:∀X o,(H++X).set id o=H.set id o++X:=λX o=>mg _ _ aD;refine⟨by simp,?_⟩;split at h
   .rename_i DT;split at h
    .rename_i y' H2 sF;simp only[ar,bE]at h;obtain⟨rfl,rfl⟩:=h;have cases:y=.az\/∃i o v n,y=.sl i o v n:=by
      unfold xL at sF;split at sF
      .exact .inl rfl
      .exact .inr ⟨_,_,_,_,rfl⟩
      .simp at sF
     rcases cases with rfl|⟨i,o,v,n,rfl⟩
     .simp[xL]at sF;obtain⟨rfl,rfl⟩:=sF;have gh:∀X o,hg (H.set id o++X) id=o:=λX o=>(cB (by simpa using aD)).trans (iN aD);have sh:∀X o o',(H.set id o++X).set id o'=H.set id o'++X:=λX o o'=>by rw[mg _ _ (by simpa using aD),yd]
      simp only[go_sem,seval,hm,DT,gx,sx,gh,sh];apply cY
      .rfl
      .exact EP _ ⟨.inl rfl,.inr rfl,trivial⟩
      .rw[<-sx];refine py (uk hH (by simp[ae.cells,ae.cW,Sc.aj])) (D9 (p:=⟨e,l,m,s,dl,dm,ff,lo,true,x,_⟩) ?_ ?_)
       .exact Sc.ic bx (by simp)
       .simp[Sc.aj]
      .simp
     .obtain⟨cs,rfl,hi,c1,c2,c3,rfl,rfl⟩:=ad8 sF;have li:i<H.length:=eu (by rw[hi];rfl);have ne:i≠id:=λe=>by rw[e,hm]at hi;simp at hi
      have gi:∀X,hg (H++X) i=_:=λX=>(cB li).trans hi;have si:∀X o,(H++X).set i o=H.set i o++X:=λX o=>mg _ _ li;have gs:∀X o,hg (H.set i o++X) id=_:=λX o=>(cB (by simpa using aD)).trans ((ej ne).trans hm);have ss:∀X o o',(H.set i o++X).set id o'=(H.set i o).set id o'++X:=λX o o'=>mg _ _ (by simpa using aD);have gg:∀X o o',hg ((H.set i o).set id o'++X) id=o':=λX o o'=>(cB (by simpa using aD)).trans (iN (by simpa using aD));have sg:∀X o o' LX,((H.set i o).set id o'++X).set id LX=(H.set i o).set id LX++X:=λX o o' LX=>by rw[mg _ _ (by simpa using aD),yd]
      have c4:n<=1099511627775:=ω
      simp only[go_sem,seval,hm,DT,gx,sx,gi,si,gs,ss,gg,sg,c1,c2,c4];have bi:=Cq hH i;rw[hi]at bi;apply cY
      .rfl
      .exact aC _ _
      .refine py (py hH ?_) (D9 (p:=⟨e,l,m,s,dl,dm,ff,lo,true,x,_⟩) ?_ ?_)
       .simp only[ae.cells,ae.cW,fJ,bK,dY,c8,Sc.aj]at bi|-;exact bi
       .simpa using bx
       .simpa[Sc.aj]using li
      .simp
    .simp at h
   .rename_i DT;split at h
    .rename_i w H2 hc;split at h
     .rename_i p1 oU;simp only[ar,bE]at h;obtain⟨rfl,rfl⟩:=h;have yI:=tZ oU;simp only[go_sem,seval,hm,DT,hc,yI];exact aI
     .simp at h
    .simp at h
  .simp at h
 .simp at h
def AA(args:List AV)(H:AH):Option (AV×AH):=match args with
 |[.c (.p id 0 0),.c (.k .u8 b)]=>match nJ (hg H id)with
   |some p=>if(decide (¬cn b 1=0)==p.ff)=true/\cn b 2=0 then some (.t [],H.set id (.own (iy {p with ff:=decide (¬cn b 1=0)})))else some (.t [],H.set id (.own (iy {p with ff:=decide (¬cn b 1=0),x:=.az})))|none=>none
 |_=>none
theorem acr(args:List AV)(H:AH)(v:AV)(H1:AH)(h:AA args H=some (v,H1)):H.length<=H1.length:=by
 unfold AA at h;repeat' split at h
 all_goals simp at h
 all_goals rw[<-h.2];simp
theorem auI:bh Tryz.prog 188 AA:=by
 refine gJ (s:=AA) tn Tryz.func188 rfl Tryz.results188 Tryz.ntmps188 acr ?_;intro args H v H1 h b9 hH;unfold AA at h;split at h
 .rename_i id b;split at h
  .rename_i p hp;have hm:=tZ hp;have aD:id<H.length:=eu (by rw[hm];rfl);obtain⟨e,l,m,s,dl,dm,ff,lo,em,x,y⟩:=p;simp only at hm h;refine⟨by simp,?_⟩;have gg:∀o,hg (H.set id o) id=o:=λo=>iN aD;by_cases h1:cn b 1=0<;>by_cases h2:cn b 2=0<;>cases ff;all_goals simp[h1,h2]at h
   all_goals obtain⟨rfl,rfl⟩:=h
   all_goals simp only[go_sem,seval,hm,h1,h2,gg]
   all_goals exact aI
  .simp at h
 .simp at h
def Rl(p:Po)(off:BitVec 64)(b:Int):Po:=if off=0#64 then{p with dl:=b}else if off=1#64 then(if cn p.l 128=0 then{p with em:=p.em||(decide (¬cn b 2=0)&&decide (cn p.e 2=0)),e:=cn b 15}else{p with dm:=b})else if off=3#64 then{p with l:=b}else if off=4#64 then{p with m:=cn b 31}else{p with s:=b}
def IJ(r:Option (AV×AH)):Option (AV×AH):=match r with|some (_,H1)=>some (.c (.b true),H1)|_=>none
theorem VC{v:AV}(h:IJ r=some (v,H1)):∃w,r=some (w,H1)/\v=.c (.b true):=by
 unfold IJ at h;split at h
 .simp only[ar,bE]at h;obtain⟨rfl,rfl⟩:=h;exact⟨_,rfl,rfl⟩
 .simp at h
theorem ac3{a:List AV}{f:List AV->AH->Option (AV×AH)}(hf:∀a H v H1,f a H=some (v,H1)->H.length<=H1.length){H H1:AH}{v:AV}(h:IJ (f a H)=some (v,H1)):H.length<=H1.length:=by
 obtain⟨s,h1,_⟩:=VC h;exact hf _ _ _ _ h1
def AD(args:List AV)(H:AH):Option (AV×AH):=match args with
 |[.c .dk,.c (.u _),.c (.k .u8 _)]=>some (.c (.b false),H)|[.c (.p id 0 0),.c (.u off),.c (.k .u8 b)]=>if 7#64<off then some (.c (.b false),H)else match nJ (hg H id)with
   |none=>none|some p=>if off=0#64/\cn p.l 128=0 then IJ (yX [.c (.p id 0 0),.c (.k .u8 b)] H)else if off=2#64 then IJ (AA [.c (.p id 0 0),.c (.k .u8 b)] H)else if off=5#64\/off=6#64 then some (.c (.b true),H)else some (.c (.b true),H.set id (.own (iy (Rl p off b))))
 |_=>none
theorem aqc(args:List AV)(H:AH)(v:AV)(H1:AH)(h:AD args H=some (v,H1)):H.length<=H1.length:=by
 unfold AD at h;repeat' split at h
 all_goals first
 |exact ac3 acs h|exact ac3 acr h|(simp at h;done)|(simp at h;rw[<-h.2];exact aB _)|(simp at h;rw[<-h.2];simp)
theorem auR:bh Tryz.prog 138 AD:=by
 refine gJ (s:=AD) (tp auM (tp auI tn)) Tryz.func138 rfl Tryz.results138 Tryz.ntmps138 aqc ?_;intro args H v H1 h b9 hH;unfold AD at h;split at h
 .rename_i off b;simp only[ar,bE]at h;obtain⟨rfl,rfl⟩:=h;refine⟨by simp,?_⟩;simp only[go_sem,seval];apply Sm;simp only[go_sem,seval];exact aI
 .rename_i id off b;refine⟨by simp,?_⟩;rcases PN off with h7|h7
  .rw[if_pos h7]at h;simp only[ar,bE]at h;obtain⟨rfl,rfl⟩:=h;simp only[go_sem,seval,h7];apply Sm;simp only[go_sem,seval,h7];exact aI
  .have n7:¬7#64<off:=by rcases h7 with rfl|rfl|rfl|rfl|rfl|rfl|rfl|rfl<;>decide
   rw[if_neg n7]at h;split at h
   .simp at h
   .rename_i p hp;have hm:=tZ hp;have aD:id<H.length:=eu (by rw[hm];rfl);have gg:∀o,hg (H.set id o) id=o:=λo=>iN aD;obtain⟨e,l,m,s,dl,dm,ff,lo,em,x,y⟩:=p;simp only at hm h;simp only[go_sem,seval];apply Sm;by_cases hl:cn l 128=0;all_goals rcases h7 with rfl|rfl|rfl|rfl|rfl|rfl|rfl|rfl
    all_goals simp[hl,Rl]at h
    all_goals first|(obtain⟨rfl,rfl⟩:=h;by_cases h2:cn b 2=0<;>by_cases h3:cn e 2=0<;>simp only[go_sem,seval,hm,hl,gg,h2,h3,decide_true,decide_false,c8,rY,Bool.or_true,vC,not_true,not_false_eq_true,Ny]<;>exact aI)|(obtain⟨v',h1,rfl⟩:=VC h;simp only[go_sem,seval,hm,hl,h1];exact aI)
 .simp at h
def Az(args:List AV)(H:AH):Option (AV×AH):=match args with
 |[.c .dk,.c (.k .u8 _)]=>some (.c (.b false),H)|[.c (.p id 0 0),.c (.k .u8 b)]=>match nJ (hg H id)with
   |none=>none|some p=>if cn p.m 16=0 then wL [.c (.p id 0 0),.c (.k .u8 b)] H else some (.c (.b false),H)
 |_=>none
theorem aqa(args:List AV)(H:AH)(v:AV)(H1:AH)(h:Az args H=some (v,H1)):H.length<=H1.length:=by
 unfold Az at h;repeat' split at h
 all_goals first|exact UU _ _ _ _ h|(simp at h;done)|(simp at h;rw[<-h.2];exact aB _)
theorem akL{id:Nat}{b:Int}{H H1:AH}{v:AV}(h:wL [.c (.p id 0 0),.c (.k .u8 b)] H=some (v,H1)):∃q,v=.c (.b q):=by
 unfold wL at h;repeat' split at h
 all_goals simp at h
 .exact⟨_,h.1.symm⟩
 .exact⟨_,h.1.symm⟩
theorem auD:bh Tryz.prog 88 Az:=by
 refine gJ (s:=Az) (tp adG tn) Tryz.func88 rfl Tryz.results88 Tryz.ntmps88 aqa ?_;intro args H v H1 h b9 hH;unfold Az at h;split at h
 .rename_i b;simp only[ar,bE]at h;obtain⟨rfl,rfl⟩:=h;refine⟨by simp,?_⟩;simp only[go_sem,seval];exact aI
 .rename_i id b;refine⟨by simp,?_⟩;split at h
  .simp at h
  .rename_i p hp;have hm:=tZ hp;split at h
   .rename_i hz;obtain⟨q,rfl⟩:=akL h;simp only[go_sem,seval,hm,hz,h];exact aI
   .rename_i hz;simp only[ar,bE]at h;obtain⟨rfl,rfl⟩:=h;simp only[go_sem,seval,hm,hz];exact aI
 .simp at h
def Dc(args:List AV)(H:AH):Option AV:=match args with
 |[.c .dk]=>some (.c (.b false))|[.c (.p id 0 0)]=>match nJ (hg H id)with
   |some p=>match BF p.x with
     |some n=>some (.c (.b (!decide (xg p n=1))))|none=>none
   |none=>none
 |_=>none
theorem azb{id:Nat}{H:AH}{p:Po}{n:Nat}(h:nJ (hg H id)=some p)(hn:BF p.x=some n):Dc [.c (.p id 0 0)] H=some (.c (.b (!decide (xg p n=1)))):=by simp only[Dc,h,hn]
theorem auE:bh Tryz.prog 90 (λargs H=>(Dc args H).map λv=>(v,H)):=by
 refine jo (s:=Dc) (tq adF tn) Tryz.func90 rfl Tryz.results90 Tryz.ntmps90 ?_;intro args H v h b9 hH;unfold Dc at h;split at h
 .simp only[ar]at h;subst h;refine⟨by simp,rfl,?_⟩;simp only[go_sem,seval];first|exact aE _|exact⟨rfl,aE _⟩
 .rename_i id;split at h
  .rename_i p hp;split at h
   .rename_i n hn;have cc:=afI hp hn;simp only[ar]at h;subst h;refine⟨by simp,rfl,?_⟩;simp only[go_sem,seval,cc];first|exact aE _|exact⟨rfl,aE _⟩
   .simp at h
  .simp at h
 .simp at h
def EJ(args:List AV)(H:AH):Option (AV×AH):=match args with
 |[.c .dk]=>some (.c .az,H)|[.c (.p id 0 0)]=>match nJ (hg H id)with
   |some p=>(pX H p.x).map λr=>(.c r.1,r.2)|none=>none
 |_=>none
theorem aao{v:AV}(h:((pX H x).map λr=>(AV.c r.1,r.2))=some (v,H1)):H.length<=H1.length:=by
 rw[eE]at h;obtain⟨r,h1,h2⟩:=h;simp only[bE]at h2;rw[<-h2.2];exact SV h1
theorem acy(args:List AV)(H:AH)(v:AV)(H1:AH)(h:EJ args H=some (v,H1)):H.length<=H1.length:=by
 unfold EJ at h;repeat' split at h
 all_goals first|exact aao h|(simp at h;done)|(simp at h;rw[<-h.2];exact aB _)
theorem auQ:bh Tryz.prog 165 EJ:=by
 refine gJ (s:=EJ) (tp PT tn) Tryz.func165 rfl Tryz.results165 Tryz.ntmps165 acy ?_;intro args H v H1 h b9 hH;unfold EJ at h;split at h
 .simp only[ar,bE]at h;obtain⟨rfl,rfl⟩:=h;refine⟨by simp,?_⟩;simp only[go_sem,seval];exact aI
 .rename_i id;split at h
  .rename_i p hp;have hm:=tZ hp;rw[eE]at h;obtain⟨⟨x',H2⟩,h1,h2⟩:=h;simp only[bE]at h2;obtain⟨rfl,rfl⟩:=h2;have cq:=M9 h1;refine⟨by simp,?_⟩;simp only[go_sem,seval,hm,cq];exact aI
  .simp at h
 .simp at h
def EI(args:List AV)(H:AH):Option (AV×AH):=match args with
 |[.c .dk]=>some (.c .az,H)|[.c (.p id 0 0)]=>match nJ (hg H id)with
   |some p=>(pX H p.y).map λr=>(.c r.1,r.2)|none=>none
 |_=>none
theorem acq(args:List AV)(H:AH)(v:AV)(H1:AH)(h:EI args H=some (v,H1)):H.length<=H1.length:=by
 unfold EI at h;repeat' split at h
 all_goals first|exact aao h|(simp at h;done)|(simp at h;rw[<-h.2];exact aB _)
theorem auH:bh Tryz.prog 164 EI:=by
 refine gJ (s:=EI) (tp PT tn) Tryz.func164 rfl Tryz.results164 Tryz.ntmps164 acq ?_;intro args H v H1 h b9 hH;unfold EI at h;split at h
 .simp only[ar,bE]at h;obtain⟨rfl,rfl⟩:=h;refine⟨by simp,?_⟩;simp only[go_sem,seval];exact aI
 .rename_i id;split at h
  .rename_i p hp;have hm:=tZ hp;rw[eE]at h;obtain⟨⟨x',H2⟩,h1,h2⟩:=h;simp only[bE]at h2;obtain⟨rfl,rfl⟩:=h2;have cq:=M9 h1;refine⟨by simp,?_⟩;simp only[go_sem,seval,hm,cq];exact aI
  .simp at h
 .simp at h
def BR:Po:=⟨0,0,0,0,0,0,false,false,false,.az,.az⟩

def dO (x:Int):List Sc:=[.k .u8 x]
def iU:List Sc->Option Int
 | [.k .u8 x]=>some x
 | _=>none
theorem Fy (x:Int):iU (dO x)=some x:=rfl
theorem Fv (cs:List Sc) (x:Int) (h:iU cs=some x):cs=dO x:=by unfold iU at h;split at h <;> simp_all [dO]
theorem Be (x:Int):(dO x).length=1:=rfl
theorem nY (A:List Int):(A.flatMap dO).length=A.length:=by rw [pF Be,Fc]
theorem HL (A:List Int):(A.flatMap dO).all Sc.one=true:=by
 rw [sZ];exact cE.2 λ_ _=>rfl
theorem amk (A:List Int) (n:Nat):(A.flatMap dO).all (Sc.aj n)=true:=by
 rw [sZ];exact cE.2 λ_ _=>rfl
def aJ:Sc->Option Nat
 | .sl i _ _ _=>some i
 | _=>none
def vK (K:AH) (x:Sc) (A:List Int):Prop:=(x=.az/\A=[])\/∃i,x=.sl i 0 A.length A.length/\hg K i=.vec 1 (A.flatMap dO)
theorem NZ {K:AH} {x:Sc} {A:List Int} (h:vK K x A):BF x=some A.length:=by
 rcases h with ⟨rfl,rfl⟩ | ⟨i,rfl,_⟩ <;> rfl
theorem pC {K:AH} {x:Sc} {A:List Int} {i:Nat} (h:vK K x A) (hi:aJ x=some i):i < K.length/\hg K i=.vec 1 (A.flatMap dO):=by
 rcases h with ⟨rfl,rfl⟩ | ⟨j,rfl,hj⟩
 .simp [aJ] at hi
 .simp only [aJ,ar] at hi
  subst hi
  exact ⟨eu (by rw [hj];rfl),hj⟩
theorem A6 {K K':AH} {x:Sc} {A:List Int} (h:vK K x A) (hk:∀i,aJ x=some i->hg K' i=hg K i):vK K' x A:=by
 rcases h with ⟨rfl,rfl⟩ | ⟨j,rfl,hj⟩
 .exact .inl ⟨rfl,rfl⟩
 .exact .inr ⟨j,rfl,by rw [hk j rfl,hj]⟩
theorem N0 {K:AH} {x:Sc} {A:List Int} (h:vK K x A):dh 1 iU K x=some A:=by
 rcases h with ⟨rfl,rfl⟩ | ⟨j,rfl,hj⟩
 .rfl
 .exact B4 Be Fy (by rw [hj];simp only [ae.row,nY]) rfl (by rw [hj];rfl)
theorem nC {K X:AH} {k:Nat} (h:k < K.length):hg (K++X) k=hg K k:=cB h
theorem aea {K:AH} {x:Sc} {A:List Int} (b:Int) (h:vK K x A) (hs:A.length<=1000000) :
 ∃x' K',xL K x (.k .u8 b)=some (x',K')/\vK K' x' (A++[b])/\K.length<=K'.length/\(∀k,k < K.length->aJ x≠some k->hg K' k=hg K k)/\(∀i,aJ x'=some i->aJ x=some i\/K.length<=i):=by
 rcases h with ⟨rfl,rfl⟩ | ⟨i,rfl,hi⟩
 .refine ⟨_,_,rfl,.inr ⟨K.length+1,rfl,?_⟩,by simp,λk hk _=>nC hk,λi hi=>.inr ?_⟩
  .simp [hg,bX,dO]
  .simp only [aJ,ar] at hi;omega
 .have li:i < K.length:=eu (by rw [hi];rfl)
  refine ⟨.sl i 0 (A.length+1) (A.length+1),K.set i (.vec 1 (A.flatMap dO++[.k .u8 b])),?_,.inr ⟨i,by simp,?_⟩,by simp,λk hk cZ=>?_,λj hj=>.inl hj⟩
  .simp only [xL,hi,nY]
   rw [if_pos ⟨trivial,trivial,hs⟩]
  .rw [iN li,OC];rfl
  .exact ej λe=>cZ (by rw [e];rfl)
theorem aap {K:AH} {x:Sc} {A:List Int} (h:vK K x A) (hs:A.length<=1000000) :
 pX K x=some (.sl K.length 0 A.length A.length,K++[.vec 1 (A.flatMap dO)]):=by
 rcases h with ⟨rfl,rfl⟩ | ⟨i,rfl,hi⟩
 .rfl
 .have e:(A.flatMap dO).take A.length=A.flatMap dO:=bQ (by rw [nY];exact aB _)
  simp only [pX,hi,ae.row,ae.cells,ae.cW,nY,ya,e]
  rw [if_pos ⟨trivial,ω,HL A,hs⟩]
theorem akq {K:AH} {i:Nat} {a:Int} {A:List Int} (hi:hg K i=.vec 1 ((a::A).flatMap dO)) (hs:A.length<=1000000) :
 pX K (.sl i 1 (A.length+1) A.length)=some (.sl K.length 0 A.length A.length,K++[.vec 1 (A.flatMap dO)]):=by
 have e:(A.flatMap dO).take A.length=A.flatMap dO:=bQ (by rw [nY];exact aB _)
 have e2:((a::A).flatMap dO).drop 1=A.flatMap dO:=rfl
 simp only [pX,hi,ae.row,ae.cells,ae.cW,nY,e2,e,cT]
 rw [if_pos ⟨trivial,ω,HL A,hs⟩]
structure Pt where
 e:Int
 l:Int
 m:Int
 s:Int
 dl:Int
 dm:Int
 ff:Bool
 lo:Bool
 em:Bool
 A:List Int
 B:List Int
def iJ (t:Pt) (x y:Sc):Po:=⟨t.e,t.l,t.m,t.s,t.dl,t.dm,t.ff,t.lo,t.em,x,y⟩
structure PI (K:AH) (h:Nat) (t:Pt) (x y:Sc):Prop where
 hp:hg K h=.own (iy (iJ t x y))
 hx:vK K x t.A
 hy:vK K y t.B
 ne:∀i,aJ x=some i->aJ y=some i->False
structure Kp (K K':AH) (h:Nat) (x y x' y':Sc):Prop where
 len:K.length<=K'.length
 dj:∀k,k < K.length->k≠h->aJ x≠some k->aJ y≠some k->hg K' k=hg K k
 fx:∀i,aJ x'=some i->aJ x=some i\/K.length<=i
 fy:∀i,aJ y'=some i->aJ y=some i\/K.length<=i
theorem Kp.xN {K:AH} {h:Nat} {x y:Sc}:Kp K K h x y x y:=⟨aB _,λ_ _ _ _ _=>rfl,λ_ h=>.inl h,λ_ h=>.inl h⟩
theorem PI.lt {K:AH} {h:Nat} {t:Pt} {x y:Sc} (hP:PI K h t x y):h < K.length:=eu (by rw [hP.hp];rfl)
theorem PI.nx {K:AH} {h:Nat} {t:Pt} {x y:Sc} (hP:PI K h t x y) {i:Nat} (hi:aJ x=some i):i≠h:=λe=>by
 have:=(pC hP.hx hi).2;rw [e,hP.hp] at this;simp at this
theorem PI.ny {K:AH} {h:Nat} {t:Pt} {x y:Sc} (hP:PI K h t x y) {i:Nat} (hi:aJ y=some i):i≠h:=λe=>by
 have:=(pC hP.hy hi).2;rw [e,hP.hp] at this;simp at this
theorem PI.po {K:AH} {h:Nat} {t:Pt} {x y:Sc} (hP:PI K h t x y):nJ (hg K h)=some (iJ t x y):=by rw [hP.hp];rfl
theorem IP {K:AH} {h:Nat} {t:Pt} {x y:Sc} (hP:PI K h t x y) (t':Pt) (hA:t'.A=t.A) (hB:t'.B=t.B):PI (K.set h (.own (iy (iJ t' x y)))) h t' x y/\Kp K (K.set h (.own (iy (iJ t' x y)))) h x y x y:=by
 refine ⟨⟨iN hP.lt,?_,?_,hP.ne⟩,by simp,λk _ hk _ _=>ej (Ne.symm hk),λ_ h=>.inl h,λ_ h=>.inl h⟩
 .rw [hA];exact A6 hP.hx λi hi=>ej (Ne.symm (hP.nx hi))
 .rw [hB];exact A6 hP.hy λi hi=>ej (Ne.symm (hP.ny hi))
theorem V3 {K K1:AH} {h:Nat} {t:Pt} {x y x':Sc} (hP:PI K h t x y) (t':Pt) (hB:t'.B=t.B) (zZ:vK K1 x' t'.A) (hl:K.length<=K1.length)
 (hk:∀k,k < K.length->aJ x≠some k->hg K1 k=hg K k) (hf:∀i,aJ x'=some i->aJ x=some i\/K.length<=i) :
 PI (K1.set h (.own (iy (iJ t' x' y)))) h t' x' y/\Kp K (K1.set h (.own (iy (iJ t' x' y)))) h x y x' y:=by
 have lt:=hP.lt
 have nx:∀i,aJ x'=some i->i≠h:=λi hi=>by
  rcases hf i hi with e | e
  .exact hP.nx e
  .omega
 refine ⟨⟨iN ω,?_,?_,λi h1 h2=>?_⟩,by simpa using hl,λk wj iG yG _=>?_,hf,λ_ h=>.inl h⟩
 .exact A6 zZ λi hi=>ej (Ne.symm (nx i hi))
 .rw [hB]
  refine A6 hP.hy λi hi=>?_
  rw [ej (Ne.symm (hP.ny hi))]
  exact hk i (pC hP.hy hi).1 λe=>hP.ne i e hi
 .rcases hf i h1 with e | e
  .exact hP.ne i e h2
  .have:=(pC hP.hy h2).1;omega
 .rw [ej (Ne.symm iG)]
  exact hk k wj yG
theorem av2 {K K1:AH} {h:Nat} {t:Pt} {x y y':Sc} (hP:PI K h t x y) (t':Pt) (hA:t'.A=t.A) (hy':vK K1 y' t'.B) (hl:K.length<=K1.length)
 (hk:∀k,k < K.length->aJ y≠some k->hg K1 k=hg K k) (hf:∀i,aJ y'=some i->aJ y=some i\/K.length<=i) :
 PI (K1.set h (.own (iy (iJ t' x y')))) h t' x y'/\Kp K (K1.set h (.own (iy (iJ t' x y')))) h x y x y':=by
 have lt:=hP.lt
 have ny:∀i,aJ y'=some i->i≠h:=λi hi=>by
  rcases hf i hi with e | e
  .exact hP.ny e
  .omega
 refine ⟨⟨iN ω,?_,?_,λi h1 h2=>?_⟩,by simpa using hl,λk wj iG _ yG=>?_,λ_ h=>.inl h,hf⟩
 .rw [hA]
  refine A6 hP.hx λi hi=>?_
  rw [ej (Ne.symm (hP.nx hi))]
  exact hk i (pC hP.hx hi).1 λe=>hP.ne i hi e
 .exact A6 hy' λi hi=>ej (Ne.symm (ny i hi))
 .rcases hf i h2 with e | e
  .exact hP.ne i h1 e
  .have:=(pC hP.hx h1).1;omega
 .rw [ej (Ne.symm iG)]
  exact hk k wj yG
def C5 (t:Pt):Nat:=if t.ff=true then 16 else 1
def dI (t:Pt):Int:=xg (iJ t .az .az) t.A.length
variable {y:Sc}
theorem ajF{t:Pt} (h:n=t.A.length):xg (iJ t x y) n=dI t:=by subst h;rfl
def jh (t:Pt) (b:Int):Pt × Bool:=if C5 t<=t.A.length then ({t with lo:=true},false) else ({t with A:=t.A++[b]},true)
theorem aaA {K:AH} {h:Nat} {t:Pt} {x y:Sc} (hP:PI K h t x y) (b:Int) (hs:t.A.length<=1000000) :
 ∃K' x',wL [.c (.p h 0 0),.c (.k .u8 b)] K=some (.c (.b (jh t b).2),K')/\PI K' h (jh t b).1 x' y/\Kp K K' h x y x' y:=by
 have hl:=NZ hP.hx
 have er:Gz (iJ t x y)=(C5 t:Int):=by unfold Gz C5 iJ;split <;> rfl
 unfold jh
 by_cases hr:C5 t<=t.A.length
 .have:=IP hP {t with lo:=true} rfl rfl
  rw [if_pos hr]
  refine ⟨_,x,?_,this.1,this.2⟩
  simp only [wL,hP.po]
  rw [show (iJ t x y).x=x from rfl,hl]
  simp only [er]
  rw [if_pos ω]
  rfl
 .obtain ⟨x',K1,h1,h2,h3,h4,h5⟩:=aea b hP.hx hs
  have:=V3 hP {t with A:=t.A++[b]} rfl h2 h3 h4 h5
  rw [if_neg hr]
  refine ⟨_,x',?_,this.1,this.2⟩
  simp only [wL,hP.po]
  rw [show (iJ t x y).x=x from rfl,hl]
  simp only [er]
  rw [if_neg ω,h1]
  rfl
def ug (t:Pt):Pt × Int:=match t.A with
 | []=>(t,0)
 | a::A=>({t with A:=A},a)
theorem aAp {K:AH} {h:Nat} {t:Pt} {x y:Sc} (hP:PI K h t x y) (hs:t.A.length<=1000000) :
 ∃K' x',yZ [.c (.p h 0 0)] K=some (.c (.k .u8 (ug t).2),K')/\PI K' h (ug t).1 x' y/\Kp K K' h x y x' y:=by
 unfold ug
 cases hA:t.A with
 | nil =>
   refine ⟨K,x,?_,hP,Kp.xN⟩
   simp only [yZ,hP.po]
   rw [show (iJ t x y).x=x from rfl]
   have:=hP.hx
   rw [hA] at this
   rcases this with ⟨rfl,_⟩ | ⟨i,rfl,_⟩ <;> rfl
 | cons a A =>
   have hx:=hP.hx
   rw [hA] at hx hs
   rcases hx with ⟨_,h0⟩ | ⟨i,hx,hi⟩
   .simp at h0
   .have hc:=akq hi (by simp at hs;omega)
    have lc:(K++[ae.vec 1 (A.flatMap dO)]).length=K.length+1:=by simp
    have gn:hg (K++[ae.vec 1 (A.flatMap dO)]) K.length=.vec 1 (A.flatMap dO):=by simp [hg,bX]
    have:=V3 (K1:=K++[.vec 1 (A.flatMap dO)]) (x':=.sl K.length 0 A.length A.length) hP {t with A:=A} rfl (.inr ⟨_,rfl,gn⟩) ω (λk hk _=>nC hk)
     (λj hj=>.inr (by simp only [aJ,ar] at hj;omega))
    refine ⟨_,_,?_,this.1,this.2⟩
    simp only [yZ,hP.po]
    rw [show (iJ t x y).x=x from rfl,hx]
    simp only [cT,hi,ae.cells,ae.cW]
    rw [show (a::A).flatMap dO=.k .u8 a::A.flatMap dO from rfl]
    simp only [hc]
    rfl
def xX (t:Pt):Pt × Int:=(if dI t=2 then {t with em:=false} else t,if t.ff=true then BM (dI t) 192 else dI t)
theorem aBc {K:AH} {h:Nat} {t:Pt} {x y:Sc} (hP:PI K h t x y) :
 ∃K',za [.c (.p h 0 0)] K=some (.c (.k .u8 (xX t).2),K')/\PI K' h (xX t).1 x y/\Kp K K' h x y x y:=by
 have hl:=NZ hP.hx
 have e:za [.c (.p h 0 0)] K=some (.c (.k .u8 (xX t).2),if dI t=2 then K.set h (.own (iy (iJ {t with em:=false} x y))) else K):=by
  simp only [za,hP.po]
  rw [show (iJ t x y).x=x from rfl,hl]
  simp only [ajF rfl]
  rfl
 rw [e]
 unfold xX
 by_cases h2:dI t=2
 .rw [if_pos h2,if_pos h2]
  have:=IP hP {t with em:=false} rfl rfl
  exact ⟨_,rfl,this.1,this.2⟩
 .rw [if_neg h2,if_neg h2]
  exact ⟨_,rfl,hP,Kp.xN⟩
def AJ (t:Pt):Pt × Int:=({t with lo:=false},stateT t.lo t.A.length)
theorem aAa {K:AH} {h:Nat} {t:Pt} {x y:Sc} (hP:PI K h t x y) :
 ∃K',yY [.c (.p h 0 0)] K=some (.c (.k .u8 (AJ t).2),K')/\PI K' h (AJ t).1 x y/\Kp K K' h x y x y:=by
 have hl:=NZ hP.hx
 have e:yY [.c (.p h 0 0)] K=some (.c (.k .u8 (AJ t).2),if t.lo=true then K.set h (.own (iy (iJ {t with lo:=false} x y))) else K):=by
  simp only [yY,hP.po]
  rw [show (iJ t x y).x=x from rfl,hl]
  rfl
 rw [e]
 by_cases h2:t.lo=true
 .rw [if_pos h2]
  have:=IP hP {t with lo:=false} rfl rfl
  exact ⟨_,rfl,this.1,this.2⟩
 .rw [if_neg h2]
  have:(AJ t).1=t:=by unfold AJ;simp at h2;cases t;simp_all
  rw [this]
  exact ⟨_,rfl,hP,Kp.xN⟩
def fM (t:Pt) (off:BitVec 64):Pt × Int × Bool :=
 if 7#64 < off then (t,0,false)
 else if off=0#64 then (if cn t.l 128=0 then ((ug t).1,(ug t).2,true) else (t,t.dl,true))
 else if off=1#64 then (t,(if cn t.l 128=0 then t.e else t.dm),true)
 else if off=2#64 then ((xX t).1,(xX t).2,true)
 else if off=3#64 then (t,t.l,true)
 else if off=4#64 then (t,t.m,true)
 else if off=5#64 then ((AJ t).1,(AJ t).2,true)
 else if off=6#64 then (t,CR t.m,true)
 else (t,t.s,true)
theorem awA {K:AH} {h:Nat} {t:Pt} {x y:Sc} (hP:PI K h t x y) (off:BitVec 64) (hs:t.A.length<=1000000) :
 ∃K' x',AB [.c (.p h 0 0),.c (.u off)] K=some (.t [.c (.k .u8 (fM t off).2.1),.c (.b (fM t off).2.2)],K')/\PI K' h (fM t off).1 x' y/\Kp K K' h x y x' y:=by
 unfold fM
 simp only [AB]
 split
 .exact ⟨K,x,rfl,hP,Kp.xN⟩
 rw [hP.po]
 simp only
 split
 .rw [show (iJ t x y).l=t.l from rfl]
  split
  .obtain ⟨K',x',h1,h2,h3⟩:=aAp hP hs
   rw [h1]
   exact ⟨K',x',rfl,h2,h3⟩
  .exact ⟨K,x,rfl,hP,Kp.xN⟩
 split
 .exact ⟨K,x,rfl,hP,Kp.xN⟩
 split
 .obtain ⟨K',h1,h2,h3⟩:=aBc hP
  rw [h1]
  exact ⟨K',x,rfl,h2,h3⟩
 split
 .exact ⟨K,x,rfl,hP,Kp.xN⟩
 split
 .exact ⟨K,x,rfl,hP,Kp.xN⟩
 split
 .obtain ⟨K',h1,h2,h3⟩:=aAa hP
  rw [h1]
  exact ⟨K',x,rfl,h2,h3⟩
 split
 .exact ⟨K,x,rfl,hP,Kp.xN⟩
 .exact ⟨K,x,rfl,hP,Kp.xN⟩
def B3 (t:Pt) (b:Int):Pt:=if cn t.m 16=0 then {t with B:=t.B++[b],em:=true} else {(jh t b).1 with em:=true}
theorem azw {K:AH} {h:Nat} {t:Pt} {x y:Sc} (hP:PI K h t x y) (b:Int) (hs:t.A.length<=1000000) (nG:t.B.length<=1000000) :
 ∃K' x' y' w,yX [.c (.p h 0 0),.c (.k .u8 b)] K=some (w,K')/\PI K' h (B3 t b) x' y'/\Kp K K' h x y x' y':=by
 unfold B3
 by_cases hm:cn t.m 16=0
 .rw [if_pos hm]
  obtain ⟨y',K1,h1,h2,h3,h4,h5⟩:=aea b hP.hy nG
  have:=av2 hP {t with B:=t.B++[b],em:=true} rfl h2 h3 h4 h5
  refine ⟨_,x,y',.t [],?_,this.1,this.2⟩
  simp only [yX,hP.po]
  rw [show (iJ t x y).m=t.m from rfl,if_pos hm,show (iJ t x y).y=y from rfl,h1]
  rfl
 .rw [if_neg hm]
  obtain ⟨K1,x',h1,h2,h3⟩:=aaA hP b hs
  obtain ⟨a1,a2⟩:=IP h2 {(jh t b).1 with em:=true} rfl rfl
  refine ⟨_,x',y,.t [],?_,a1,?_⟩
  .simp only [yX,hP.po]
   rw [show (iJ t x y).m=t.m from rfl,if_neg hm,h1]
   simp only [h2.po]
   rfl
  .refine ⟨Nat.le_trans h3.len a2.len,λk k1 k2 k3 k4=>?_,h3.fx,h3.fy⟩
   rw [ej (Ne.symm k2)]
   exact h3.dj k k1 k2 k3 k4
def yQ (t:Pt) (b:Int):Pt :=
 if (decide (¬cn b 1=0) == t.ff)=true/\cn b 2=0 then {t with ff:=decide (¬cn b 1=0)} else {t with ff:=decide (¬cn b 1=0),A:=[]}
theorem aws {K:AH} {h:Nat} {t:Pt} {x y:Sc} (hP:PI K h t x y) (b:Int) :
 ∃K' x' w,AA [.c (.p h 0 0),.c (.k .u8 b)] K=some (w,K')/\PI K' h (yQ t b) x' y/\Kp K K' h x y x' y:=by
 unfold yQ
 simp only [AA,hP.po]
 rw [show (iJ t x y).ff=t.ff from rfl]
 split
 .have:=IP hP {t with ff:=decide (¬cn b 1=0)} rfl rfl
  exact ⟨_,x,_,rfl,this.1,this.2⟩
 .have:=V3 (K1:=K) (x':=.az) hP {t with ff:=decide (¬cn b 1=0),A:=[]} rfl (.inl ⟨rfl,rfl⟩) (aB _) (λ_ _ _=>rfl) (λi hi=>by simp [aJ] at hi)
  exact ⟨_,.az,_,rfl,this.1,this.2⟩
def AN (t:Pt) (off:BitVec 64) (b:Int):Pt :=
 if off=0#64 then {t with dl:=b}
 else if off=1#64 then (if cn t.l 128=0 then {t with em:=t.em || (decide (¬cn b 2=0) && decide (cn t.e 2=0)),e:=cn b 15} else {t with dm:=b})
 else if off=3#64 then {t with l:=b}
 else if off=4#64 then {t with m:=cn b 31}
 else {t with s:=b}
theorem Rn (t:Pt) (x y:Sc) (off:BitVec 64) (b:Int):Rl (iJ t x y) off b=iJ (AN t off b) x y/\(AN t off b).A=t.A/\(AN t off b).B=t.B:=by
 unfold Rl AN
 split
 .exact ⟨rfl,rfl,rfl⟩
 split
 .rw [show (iJ t x y).l=t.l from rfl]
  split <;> exact ⟨rfl,rfl,rfl⟩
 split
 .exact ⟨rfl,rfl,rfl⟩
 split <;> exact ⟨rfl,rfl,rfl⟩
def ga (t:Pt) (off:BitVec 64) (b:Int):Pt × Bool :=
 if 7#64 < off then (t,false)
 else if off=0#64/\cn t.l 128=0 then (B3 t b,true)
 else if off=2#64 then (yQ t b,true)
 else if off=5#64\/off=6#64 then (t,true)
 else (AN t off b,true)
theorem aB1 {K:AH} {h:Nat} {t:Pt} {x y:Sc} (hP:PI K h t x y) (off:BitVec 64) (b:Int) (hs:t.A.length<=1000000) (nG:t.B.length<=1000000) :
 ∃K' x' y',AD [.c (.p h 0 0),.c (.u off),.c (.k .u8 b)] K=some (.c (.b (ga t off b).2),K')/\PI K' h (ga t off b).1 x' y'/\Kp K K' h x y x' y':=by
 unfold ga
 simp only [AD]
 split
 .exact ⟨K,x,y,rfl,hP,Kp.xN⟩
 rw [hP.po]
 simp only
 rw [show (iJ t x y).l=t.l from rfl]
 split
 .obtain ⟨K',x',y',w,h1,h2,h3⟩:=azw hP b hs nG
  rw [h1]
  exact ⟨K',x',y',rfl,h2,h3⟩
 split
 .obtain ⟨K',x',w,h1,h2,h3⟩:=aws hP b
  rw [h1]
  exact ⟨K',x',y,rfl,h2,h3⟩
 split
 .exact ⟨K,x,y,rfl,hP,Kp.xN⟩
 .obtain ⟨w1,w2,w3⟩:=Rn t x y off b
  have:=IP hP (AN t off b) w2 w3
  rw [w1]
  exact ⟨_,x,y,rfl,this.1,this.2⟩
def pK (t:Pt) (b:Int):Pt × Bool:=if cn t.m 16=0 then jh t b else (t,false)
theorem aoX {K:AH} {h:Nat} {t:Pt} {x y:Sc} (hP:PI K h t x y) (b:Int) (hs:t.A.length<=1000000) :
 ∃K' x',Az [.c (.p h 0 0),.c (.k .u8 b)] K=some (.c (.b (pK t b).2),K')/\PI K' h (pK t b).1 x' y/\Kp K K' h x y x' y:=by
 unfold pK
 simp only [Az,hP.po]
 rw [show (iJ t x y).m=t.m from rfl]
 split
 .exact aaA hP b hs
 .exact ⟨K,x,rfl,hP,Kp.xN⟩
theorem aqp {K:AH} {h:Nat} {t:Pt} {x y:Sc} (hP:PI K h t x y):Dc [.c (.p h 0 0)] K=some (.c (.b (!decide (dI t=1)))):=by
 rw [azb hP.po (NZ hP.hx)];rfl
theorem aBG {K:AH} {h:Nat} {t:Pt} {x y:Sc} (hP:PI K h t x y) (hs:t.A.length<=1000000):EJ [.c (.p h 0 0)] K=some (.c (.sl K.length 0 t.A.length t.A.length),K++[.vec 1 (t.A.flatMap dO)]):=by
 simp only [EJ,hP.po]
 rw [show (iJ t x y).x=x from rfl,aap hP.hx hs];rfl
theorem avN {K:AH} {h:Nat} {t:Pt} {x y:Sc} (hP:PI K h t x y) (hs:t.B.length<=1000000):EI [.c (.p h 0 0)] K=some (.c (.sl K.length 0 t.B.length t.B.length),K++[.vec 1 (t.B.flatMap dO)]):=by
 simp only [EI,hP.po]
 rw [show (iJ t x y).y=y from rfl,aap hP.hy hs];rfl
theorem V0 {K X:AH} {h:Nat} {t:Pt} {x y:Sc} (hP:PI K h t x y):PI (K++X) h t x y :=
 ⟨by rw [nC hP.lt];exact hP.hp,A6 hP.hx λi hi=>nC (pC hP.hx hi).1,A6 hP.hy λi hi=>nC (pC hP.hy hi).1,hP.ne⟩
def fR:Pt:=⟨0,0,0,0,0,0,false,false,false,[],[]⟩
theorem adY (K:AH):PI (K++[.own (iy BR)]) K.length fR .az .az:=by
 refine ⟨?_,.inl ⟨rfl,rfl⟩,.inl ⟨rfl,rfl⟩,λi h=>by simp [aJ] at h⟩
 simp [hg,bX];rfl
theorem an5(fr:Fr)(s:Nat):Am.get fr s=.c .any\/∃p∈fr,p.1=s/\Am.get fr s=p.2:=by induction fr with
 |nil=>exact .inl rfl|cons a r ih=>
   obtain⟨d,v⟩:=a;by_cases h:d=s
   .exact .inr ⟨(d,v),by simp,h,by simp[Am.get,h]⟩
   .have e:Am.get ((d,v)::r) s=Am.get r s:=by simp[Am.get,h]
    rw[e];rcases ih with h1|⟨p,h1,h2,h3⟩
    .exact .inl h1
    .exact .inr ⟨p,by simp[h1],h2,h3⟩
theorem Wk.fr{n:Nat}{fr eh:Fr}{H:AH}(hf:∀p∈eh,Am.get fr p.1=p.2):Wk n fr H (eh,H):=λρ w tm h1 h2=>⟨ρ,λs=>by
   show aZ ρ (Am.get eh s) (tm s);rcases an5 eh s with e|⟨p,hp,rfl,e⟩
   .rw[e];exact trivial
   .rw[e,<-hf p hp];exact h1 p.1,h2,λi _ hi hL _=>⟨i,hi,hL⟩,λ_ _=>rfl⟩
theorem Q7{H K:AH}(hl:H.length<=K.length)(h:∀k,k<H.length->hg K k=hg H k):qz H K:=by induction H generalizing K with
 |nil=>exact trivial|cons o r ih=>cases K with|nil=>simp at hl|cons o' r'=>
     refine⟨.inr ?_,ih (by simpa using hl) λk hk=>?_⟩
     .have:=h 0 (by simp);simpa[hg]using this.symm
     .have:=h (k+1) (by simpa using hk);simpa[hg]using this
def EG(args:List AV)(H:AH):Option AV:=match args with
 |[.c x,.c y]=>match dh 1 iU H x,dh 1 iU H y with
   |some L,some M=>if L.length<=1000000/\M.length<=1000000 then some (.c (.b (decide (L=M))))else none|_,_=>none
 |_=>none
theorem afH{M:List Int}(h1:dh 1 iU H x=some L)(h2:dh 1 iU H y=some M)(h3:L.length<=1000000)(h4:M.length<=1000000):EG [.c x,.c y] H=some (.c (.b (decide (L=M)))):=by simp only[EG,h1,h2];rw[if_pos ⟨h3,h4⟩]
theorem auB:bh Tryz.prog 45 (λargs H=>(EG args H).map λv=>(v,H)):=by
 refine jo (s:=EG) tn Tryz.func45 rfl Tryz.results45 Tryz.ntmps45 ?_;intro args H v h b9 hH;unfold EG at h;split at h
 .rename_i x y;split at h
  .rename_i L M hL hM;split at h
   .rename_i hc;obtain⟨c1,c2⟩:=hc;simp only[ar]at h;subst h;refine⟨by simp,rfl,?_⟩;by_cases hlen:L.length=M.length;rotate_left
    .have ne:decide (L=M)=false:=decide_eq_false λe=>hlen (by rw[e]);rw[ne];have hi:((L.length:Int)=(M.length:Int))=False:=eq_false ω;rcases xT Fv hL with⟨rfl,rfl⟩|⟨i,v,rfl,hv,cu⟩<;>rcases xT Fv hM with⟨rfl,rfl⟩|⟨j,w,rfl,hw,jL⟩
     .exact absurd rfl hlen
     .have CA:((0:Int)=(M.length:Int))=False:=eq_false (by simp only[fa]at hlen;omega);simp only[go_sem,seval,CA];first|exact aE _|exact⟨rfl,aE _⟩
     .have CA:((L.length:Int)=0)=False:=eq_false (by simp only[fa]at hlen;omega);simp only[go_sem,seval,CA];first|exact aE _|exact⟨rfl,aE _⟩
     .simp only[go_sem,seval,hi];first|exact aE _|exact⟨rfl,aE _⟩
    .have hi:((L.length:Int)=(M.length:Int))=True:=eq_true ω;rcases Nat.eq_zero_or_pos L.length with h0|uz
     .have l0:=vG h0;have m0:=vG (hlen▸h0);subst l0;subst m0;rcases xT Fv hL with⟨rfl,_⟩|⟨i,v,rfl,hv,cu⟩<;>rcases xT Fv hM with⟨rfl,_⟩|⟨j,w,rfl,hw,jL⟩
      .try simp only[fa]at*
       simp only[go_sem,seval];refine fB 0 (λk=>([(0,.c .az),(1,.c .az),(4,.c (.b false)),(5,.c (.i 0))],H)) (Wk.fr (by simp[Am.get])) λk hk=>?_;simp only[go_sem,seval];first|exact aE _|exact⟨rfl,aE _⟩
      .try simp only[fa]at*
       simp only[go_sem,seval];refine fB 0 (λk=>([(0,.c .az),(1,.c (.sl j 0 w 0)),(4,.c (.b false)),(5,.c (.i 0))],H)) (Wk.fr (by simp[Am.get])) λk hk=>?_;simp only[go_sem,seval];first|exact aE _|exact⟨rfl,aE _⟩
      .try simp only[fa]at*
       simp only[go_sem,seval];refine fB 0 (λk=>([(0,.c (.sl i 0 v 0)),(1,.c .az),(4,.c (.b false)),(5,.c (.i 0))],H)) (Wk.fr (by simp[Am.get])) λk hk=>?_;simp only[go_sem,seval];first|exact aE _|exact⟨rfl,aE _⟩
      .try simp only[fa]at*
       simp only[go_sem,seval];refine fB 0 (λk=>([(0,.c (.sl i 0 v 0)),(1,.c (.sl j 0 w 0)),(4,.c (.b false)),(5,.c (.i 0))],H)) (Wk.fr (by simp[Am.get])) λk hk=>?_;simp only[go_sem,seval];first|exact aE _|exact⟨rfl,aE _⟩
     .rcases xT Fv hL with⟨rfl,rfl⟩|⟨i,v,rfl,hv,cu⟩
      .simp at uz
      rcases xT Fv hM with⟨rfl,rfl⟩|⟨j,w,rfl,hw,jL⟩
      .rw[hlen]at uz;simp at uz
      simp only[go_sem,seval,hi];rw[rz];refine⟨{k:Nat//k<=L.length/\L.take k=M.take k},λk=>([(0,.c (.sl i 0 v L.length)),(1,.c (.sl j 0 w M.length)),(4,.c (.b false)),(5,.c (.i k.1))],H),λk=>L.length-k.1,⟨0,ω,rfl⟩,Wk.fr (by simp[Am.get]),?_⟩;rintro⟨k,hk,Ui⟩;by_cases aG:k<L.length
      .have e1:aA ((k:Int)+1)=((k+1:Nat):Int):=by rw[kC ω];omega
       obtain⟨a,ha⟩:∃a,L[k]?=some a:=⟨_,cP aG⟩;obtain⟨b,hb⟩:∃b,M[k]?=some b:=⟨_,cP ω⟩;have g1:=FD Be (L:=L) (k:=k) aG;have g2:=FD Be (L:=M) (k:=k) ω;have g3:=HV (f:=dO) (g:=Sc.k .u8) (λ_=>rfl) ha;have g4:=HV (f:=dO) (g:=Sc.k .u8) (λ_=>rfl) hb;rw[<-cu]at g1 g3;rw[<-jL]at g2 g4;rw[Fc]at g1 g2;have oP:(k:Int)<(L.length:Int):=ω
       have abS:(k:Int)<(M.length:Int):=ω
       have k0:(0:Int)<=(k:Int):=ω
       by_cases OY:a=b
       .subst OY;simp only[go_sem,seval,e1,g1,g2,g3,g4,oP,abS,k0,hv.symm,hw.symm];refine⟨⟨k+1,ω,?_⟩,by simp only;omega,Wk.fr (by simp[Am.get])⟩;rw[List.take_add_one,List.take_add_one,Ui,ha,hb]
       .have ne:decide (L=M)=false:=decide_eq_false λe=>OY (by rw[e,hb]at ha;simpa using ha.symm);simp only[go_sem,seval,e1,g1,g2,g3,g4,oP,abS,k0,hv.symm,hw.symm,OY,ne];first|exact aE _|exact⟨rfl,aE _⟩
      .obtain rfl:k=L.length:=ω
       have ee:decide (L=M)=true:=by
        rw[List.take_length]at Ui;rw[decide_eq_true_eq];rw[Ui];exact bQ ω
       (repeat(first|simp only[go_sem,seval,aG,ee]|simp(disch:=omega)only[w0]));first|exact aE _|exact⟨rfl,aE _⟩
   .simp at h
  .simp at h
 .simp at h
structure AU(H K:AH)(t:Pt)(x y:Sc):Prop where
 pi:PI K H.length t x y
 dj:∀k,k<H.length->hg K k=hg H k
 nx:∀i,aJ x=some i->H.length<i
 ny:∀i,aJ y=some i->H.length<i
theorem AU.new(H:AH):AU H (H++[.own (iy BR)]) fR .az .az:=⟨adY H,λk hk=>nC hk,λi h=>by simp[aJ]at h,λi h=>by simp[aJ]at h⟩
theorem AU.step{H K K':AH}{t t':Pt}{x y x' y':Sc}(h:AU H K t x y)(hP:PI K' H.length t' x' y')(hk:Kp K K' H.length x y x' y'):AU H K' t' x' y':=by
 have lt:=h.pi.lt;refine⟨hP,λk wj=>?_,λi hi=>?_,λi hi=>?_⟩
 .rw[hk.dj k ω ω (λe=>by have:=h.nx k e;omega) (λe=>by have:=h.ny k e;omega)];exact h.dj k wj
 .rcases hk.fx i hi with e|e
  .exact h.nx i e
  .omega
 .rcases hk.fy i hi with e|e
  .exact h.ny i e
  .omega
theorem AU.app{H K X:AH}{t:Pt}{x y:Sc}(h:AU H K t x y):AU H (K++X) t x y:=⟨V0 h.pi,λk hk=>by rw[nC (by have:=h.pi.lt;omega)];exact h.dj k hk,h.nx,h.ny⟩
theorem AU.sub{H K:AH}{t:Pt}{x y:Sc}(h:AU H K t x y):qz H K:=Q7 (by have:=h.pi.lt;omega) h.dj
def ptQ:Pt:={fR with ff:=true}
def tI(L:List Int)(i:Nat):Pt:={ptQ with A:=L.take (min i 16),lo:=decide (16<i)}
def tO(L M:List Int)(j:Nat):Pt:={tI L L.length with B:=M.take j,em:=decide (0<j)}
def tR(L M:List Int)(i:Nat):Pt:={tO L M M.length with lo:=false,A:=(L.take 16).drop i}
theorem azS{α:Type}{w:Nat}{dc:List Sc->Option α}{H K:AH}{y:Sc}{M:List α}(h:dh w dc H y=some M)(hk:∀k,k<H.length->hg K k=hg H k)(hb:y.aj H.length=true):dh w dc K y=some M:=by
 unfold dh at h|-;split at h
 .exact h
 .rename_i id v n;have aD:id<H.length:=by simpa[Sc.aj]using hb
  simp only[hk id aD];exact h
 .simp at h
theorem aom(n:Int)(j:Nat):n/2^j/2=n/2^(j+1):=by rw[Int.ediv_ediv_of_nonneg (Int.pow_nonneg δ),Int.pow_succ]
theorem abK{n:Int}(h:0<=n/\n<=255)(j:Nat):0<=n/2^j/\n/2^j<=255:=by
 have p:(0:Int)<2^j:=Int.pow_pos δ;exact⟨Int.ediv_nonneg h.1 ω,Int.le_trans (Int.ediv_le_self _ h.1) h.2⟩
def XJ(args:List AV):Option AV:=match args with|[.c (.i n),.c (.i k)]=>if 0<=n/\n<=255/\0<=k/\k<=7 then some (.c (.i (n/2^k.toNat%2)))else none|_=>none
theorem mz{n k}:XJ [.c (.i n),.c (.i k)]=if 0<=n/\n<=255/\0<=k/\k<=7 then some (.c (.i (n/2^k.toNat%2)))else none:=rfl
theorem PS:cK Tryz.prog 157 XJ:=by
 refine cR tn Tryz.func157 rfl Tryz.results157 Tryz.ntmps157 ?_;intro args v h;unfold XJ at h;split at h
 .rename_i n k;split at h
  .rename_i hc;simp only[ar]at h;subst h;refine⟨by simp only[cT,fa];decide,rfl,rfl,?_⟩;obtain⟨h1,h2,h3,h4⟩:=hc;obtain⟨m,rfl⟩:=Int.eq_ofNat_of_zero_le h3;rw[aL];(repeat(first|simp(maxSteps:=9^9)only[go_sem,seval]|simp(disch:=omega)only[aq,aV,aU,aT,aS]));refine fB m (λj=>([(0,.c (.i (n/2^j))),(1,.c (.i m)),(4,.c (.i 0)),(5,.c (.i j))],[])) (Wk.fr (by simp[Am.get])) λj hj=>?_;have e1:aA ((j:Int)+1)=((j+1:Nat):Int):=by rw[kC ω];omega
   obtain⟨r1,r2⟩:=abK ⟨h1,h2⟩ j;have e2:(n/2^j).tdiv 2=n/2^(j+1):=by rw[Int.tdiv_eq_ediv_of_nonneg r1,aom]
   obtain⟨r3,r4⟩:=abK ⟨h1,h2⟩ (j+1);have e3:aA (n/2^(j+1))=n/2^(j+1):=kC ω;by_cases aG:j<m
   .have hI:(j:Int)<(m:Int):=ω
    (repeat(first|simp(maxSteps:=9^9)only[go_sem,seval,e1,e2,e3,hI]|simp(disch:=omega)only[aq,aV,aU,aT,aS]));exact⟨j+1,ω,ω,Wk.fr (by simp[Am.get])⟩
   .obtain rfl:j=m:=ω
    have e4:(n/2^j).tmod 2=n/2^j%2:=He r1;(repeat(first|simp only[go_sem,seval,e4]|simp(disch:=omega)only[w0]))
  .simp at h
 .simp at h
theorem zC:∀n:Nat,n<256->(decide ((n:Int)/2^0%2=1)=decide (¬cn n 1=0))/\(decide ((n:Int)/2^1%2=1)=decide (¬cn n 2=0))/\(decide ((n:Int)/2^2%2=1)=decide (¬cn n 4=0))/\(decide ((n:Int)/2^4%2=1)=decide (¬cn n 16=0))/\(decide ((n:Int)/2^7%2=1)=decide (¬cn n 128=0))/\(decide ((n:Int)/2^1%2=0)=decide (cn n 2=0))/\(n:Int)%16=cn n 15/\(n:Int)%32=cn n 31/\(decide ((n:Int)%2=1)=decide (¬cn n 1=0))/\(decide ((n:Int)/2^4%2=0)=decide (cn n 16=0))/\16*((n:Int)/2^1%2)+32*((n:Int)/2^0%2)+64*((n:Int)/2^2%2)+128*((n:Int)/2^3%2)=(if cn n 16=0 then 16*((n:Int)/2^1%2)+32*((n:Int)/2^0%2)+64*((n:Int)/2^2%2)+128*((n:Int)/2^3%2)else CR n):=by decide+kernel
def fG(n:Int):Prop:=0<=n/\n<=255
instance (n:Int):Decidable (fG n):=inferInstanceAs(Decidable (0<=n/\n<=255))
theorem zD{n:Int}(h:fG n):∃k:Nat,k<256/\n=(k:Int):=⟨n.toNat,by unfold fG at h;omega,by unfold fG at h;omega⟩
theorem bq0{n:Int}(h:fG n):(n/2^0%2=1)=(¬cn n 1=0):=by obtain⟨k,hk,rfl⟩:=zD h;exact propext (decide_eq_decide.1 (zC k hk).1)
theorem Z1{n:Int}(h:fG n):(n/2^1%2=1)=(¬cn n 2=0):=by obtain⟨k,hk,rfl⟩:=zD h;exact propext (decide_eq_decide.1 (zC k hk).2.1)
theorem bq2{n:Int}(h:fG n):(n/2^2%2=1)=(¬cn n 4=0):=by obtain⟨k,hk,rfl⟩:=zD h;exact propext (decide_eq_decide.1 (zC k hk).2.2.1)
theorem Z2{n:Int}(h:fG n):(n/2^4%2=1)=(¬cn n 16=0):=by obtain⟨k,hk,rfl⟩:=zD h;exact propext (decide_eq_decide.1 (zC k hk).2.2.2.1)
theorem Z3{n:Int}(h:fG n):(n/2^7%2=1)=(¬cn n 128=0):=by obtain⟨k,hk,rfl⟩:=zD h;exact propext (decide_eq_decide.1 (zC k hk).2.2.2.2.1)
theorem bz1{n:Int}(h:fG n):(n/2^1%2=0)=(cn n 2=0):=by obtain⟨k,hk,rfl⟩:=zD h;exact propext (decide_eq_decide.1 (zC k hk).2.2.2.2.2.1)
theorem bz4{n:Int}(h:fG n):(n/2^4%2=0)=(cn n 16=0):=by obtain⟨k,hk,rfl⟩:=zD h;exact propext (decide_eq_decide.1 (zC k hk).2.2.2.2.2.2.2.2.2.1)
theorem m16{n:Int}(h:fG n):n.tmod 16=cn n 15:=by obtain⟨k,hk,rfl⟩:=zD h;rw[He ω];exact(zC k hk).2.2.2.2.2.2.1
theorem m32{n:Int}(h:fG n):n.tmod 32=cn n 31:=by obtain⟨k,hk,rfl⟩:=zD h;rw[He ω];exact(zC k hk).2.2.2.2.2.2.2.1
theorem m2q{n:Int}(h:fG n):(n.tmod 2=1)=(¬cn n 1=0):=by obtain⟨k,hk,rfl⟩:=zD h;rw[He ω];exact propext (decide_eq_decide.1 (zC k hk).2.2.2.2.2.2.2.2.1)
theorem mdm{n:Int}(h:fG n)(h0:¬cn n 16=0):16*(n/2^1%2)+32*(n/2^0%2)+64*(n/2^2%2)+128*(n/2^3%2)=CR n:=by
 obtain⟨k,hk,rfl⟩:=zD h;have:=(zC k hk).2.2.2.2.2.2.2.2.2.2;rw[if_neg h0]at this;exact this
def aY(t:Pt)(x y:Sc):List Sc:=[.i t.e,.i t.l,.i t.m,.i t.s,.i t.dl,.i t.dm,.b t.ff,.b t.lo,.b t.em,x,y]
def yU(H:AH):List Sc->Option (Pt×Sc×Sc)
 |[.i e,.i l,.i m,.i s,.i dl,.i dm,.b ff,.b lo,.b em,x,y]=>match dh 1 iU H x,dh 1 iU H y with
   |some A,some B=>if fG e/\fG l/\fG m/\fG s/\fG dl/\fG dm/\A.length<=1000000/\B.length<=1000000 then some (⟨e,l,m,s,dl,dm,ff,lo,em,A,B⟩,x,y)else none|_,_=>none
 |_=>none
structure jm(H:AH)(t:Pt)(x y:Sc):Prop where
 hx:dh 1 iU H x=some t.A
 hy:dh 1 iU H y=some t.B
 e:fG t.e
 l:fG t.l
 m:fG t.m
 s:fG t.s
 dl:fG t.dl
 dm:fG t.dm
 la:t.A.length<=1000000
 lb:t.B.length<=1000000
theorem Mh{c:List Sc}{t:Pt}(h:yU H c=some (t,x,y)):c=aY t x y/\jm H t x y:=by
 unfold yU at h;split at h
 .split at h
  .rename_i A B hA hB;split at h
   .rename_i hc;simp only[ar,bE]at h;obtain⟨rfl,rfl,rfl⟩:=h;exact⟨rfl,hA,hB,hc.1,hc.2.1,hc.2.2.1,hc.2.2.2.1,hc.2.2.2.2.1,hc.2.2.2.2.2.1,hc.2.2.2.2.2.2.1,hc.2.2.2.2.2.2.2⟩
   .simp at h
  .simp at h
 .simp at h
theorem Ei{t:Pt}(h:jm H t x y):yU H (aY t x y)=some (t,x,y):=by
 unfold yU aY;simp only[h.hx,h.hy];rw[if_pos ⟨h.e,h.l,h.m,h.s,h.dl,h.dm,h.la,h.lb⟩]
variable {A:List Int}
theorem dJ(h:dh 1 iU H x=some A):(x=.az/\A=[])\/∃i v,x=.sl i 0 v A.length/\v=(hg H i).row/\(hg H i).cells=A.flatMap dO:=xT Fv h
theorem azT(h:dh 1 iU H x=some A):∀e,nH (.sl e) (.c x)=some (.c (.i A.length)):=by
 intro e;rcases dJ h with⟨rfl,rfl⟩|⟨i,v,rfl,_,_⟩<;>rfl
theorem j9(h:dh 1 iU H x=some A):Sc.one x=true:=by rcases dJ h with⟨rfl,rfl⟩|⟨i,v,rfl,_,_⟩<;>rfl
def GV(args:List AV)(H:AH):Option AV:=match args with
 |[.g c]=>match yU H c with
   |some (t,_,_)=>some (.c (.i (dI t)))|none=>none
 |_=>none
theorem afB{t:Pt}(h:jm H t x y):GV [.g (aY t x y)] H=some (.c (.i (dI t))):=by simp only[GV,Ei h]
theorem adx:bh Tryz.prog 107 (λargs H=>(GV args H).map λv=>(v,H)):=by
 refine jo (s:=GV) (tu PS tn) Tryz.func107 rfl Tryz.results107 Tryz.ntmps107 ?_;intro args H v h b9 hH;unfold GV at h;split at h
 .rename_i c;split at h
  .rename_i t x y hr;obtain⟨rfl,ok⟩:=Mh hr;simp only[ar]at h;subst h;refine⟨by simp,rfl,?_⟩;have b2:=bq2 ok.e;have b0:=bq0 ok.e;have b1:=Z1 ok.e;have b2':(t.e/4%2=1)=¬cn t.e 4=0:=b2;have b1':(t.e/2%2=1)=¬cn t.e 2=0:=b1;have ZM:(t.e/1%2=1)=¬cn t.e 1=0:=b0;have ai1:(t.e%2=1)=¬cn t.e 1=0:=by rw[<-ZM,Int.ediv_one]
   have r:0<=t.e/\t.e<=255:=ok.e;have xl:=azT ok.hx;have n2:(2:Int).toNat=2:=rfl;have n0:(0:Int).toNat=0:=rfl;have n1:(1:Int).toNat=1:=rfl;have ox:=j9 ok.hx;have oy:=j9 ok.hy;unfold dI xg iJ;by_cases h4:cn t.e 4=0<;>by_cases h1:cn t.e 1=0<;>by_cases h2:cn t.e 2=0<;>cases tM:t.lo<;>cases TZ:t.em<;>by_cases hz:0<t.A.length;all_goals have CK:(0:Int)<(t.A.length:Int)↔0<t.A.length:=ω
   all_goals(repeat(first|simp only[go_sem,seval,aY,mz,r.1,r.2,n2,n0,n1,b2,b0,b1,b2',b1',ZM,ai1,h4,h1,h2,tM,TZ,hz,CK,xl,ox,oy]|simp(disch:=omega)only[w0]))
   all_goals first|exact aC _ _|exact⟨by simp,aC _ _⟩
  .simp at h
 .simp at h
theorem Qj{H:AH}{t:Pt}{x y:Sc}(h:(aY t x y).all (Sc.aj H.length)=true):x.aj H.length=true/\y.aj H.length=true:=by
 simp only[aY,bK,dY,c8,aQ]at h;exact⟨h.2.2.2.2.2.2.2.2.2.1,h.2.2.2.2.2.2.2.2.2.2⟩
variable {b:Int}
theorem w8(h:fG b):IntKind.u8.wrap b=b:=by
 unfold fG at h;simp only[IntKind.wrap,IntKind.bits,IntKind.signed,ph];simp;omega
def yW(args:List AV)(H:AH):Option (AV×AH):=match args with
 |[.g c,.c (.i b)]=>match yU H c with
   |some (t,x,y)=>if fG b then(if(jh t b).2=false then some (.t [.g (aY (jh t b).1 x y),.c (.b false)],H++[.own (aY (jh t b).1 x y),.own (aY (jh t b).1 x y)])else some (.t [.g (aY (jh t b).1 (.sl (H.length+2) 0 (t.A.length+1) (t.A.length+1)) y),.c (.b true)],H++[.own (aY (jh t b).1 (.sl (H.length+2) 0 (t.A.length+1) (t.A.length+1)) y),.own (aY (jh t b).1 (.sl (H.length+2) 0 (t.A.length+1) (t.A.length+1)) y),.vec 1 (t.A.flatMap dO++[.k .u8 b]),.vec 1 [.k .u8 b]]))else none|none=>none
 |_=>none
theorem US(args:List AV)(H:AH)(v:AV)(H1:AH)(h:yW args H=some (v,H1)):H.length<=H1.length:=by
 unfold yW at h;repeat' split at h
 all_goals simp at h
 all_goals rw[<-h.2];simp
theorem ady:bh Tryz.prog 159 yW:=by
 refine gJ (s:=yW) tn Tryz.func159 rfl Tryz.results159 Tryz.ntmps159 US ?_;intro args H v H1 h b9 hH;unfold yW at h;split at h
 .rename_i c b;split at h
  .rename_i t x y hr;obtain⟨rfl,ok⟩:=Mh hr;split at h
   .rename_i hb;refine⟨by simp,?_⟩;have FO:(aY t x y).all (Sc.aj H.length)=true:=by simp only[bK,AV.aj,aQ]at b9;exact b9.1
    obtain⟨bx,bY⟩:=Qj FO;have la:=ok.la;have wb:=w8 hb;have one:=HL t.A;have len:=nY t.A;have tk:(t.A.flatMap dO).take t.A.length=t.A.flatMap dO:=bQ (by rw[nY];exact aB _);have el:(t.A++[b]).flatMap dO=t.A.flatMap dO++[.k .u8 b]:=by rw[OC];rfl
    have Ge:t.A.length<=1099511627775:=ω
    have U0:t.A.length<=1099511627776:=ω
    rcases dJ ok.hx with⟨rfl,hA⟩|⟨i,v',rfl,hv,cu⟩<;>rcases dJ ok.hy with⟨rfl,hB⟩|⟨i2,v2,rfl,jy,jL⟩;all_goals first
 |(have li:i<H.length:=(by simpa[Sc.aj]using bx);have gi:∀X,hg (H++X) i=hg H i:=(λX=>nC li);have hv:=hv.symm)|(have li:True:=trivial;have gi:True:=trivial;have hv:True:=trivial;have cu:True:=trivial)
    all_goals cases hf:t.ff
    all_goals by_cases ve:C5 t<=t.A.length
    all_goals unfold jh at h
    all_goals simp only[ve,if_true,if_false,Bool.true_eq_false]at h
    all_goals simp only[ar,bE]at h
    all_goals obtain⟨rfl,rfl⟩:=h
    all_goals unfold C5 at ve
    all_goals simp only[hf,if_true,dL,if_false]at ve
    all_goals first|(simp only[hA,fa]at ve one len tk el;omega)|skip
    all_goals first|(rw[hA]at el|-;simp only[go_sem,seval,aY,hf,wb,ve,fa,List.flatMap_nil])|(repeat(first|simp only[go_sem,seval,aY,hf,wb,one,len,el,gi,hv,cu,tk,ve,Ge,U0]|simp(disch:=omega)only[w0]))
    all_goals first|exact aI
   .simp at h
  .simp at h
 .simp at h
variable {X:AH}
theorem wO(h:dh 1 iU H x=some A)(hb:x.aj H.length=true):dh 1 iU (H++X) x=some A:=azS h (λ_ hk=>nC hk) hb
theorem C6{t:Pt}(h:jm H t x y)(hx:x.aj H.length=true)(hy:y.aj H.length=true):jm (H++X) t x y:=⟨wO h.hx hx,wO h.hy hy,h.e,h.l,h.m,h.s,h.dl,h.dm,h.la,h.lb⟩
def ua(t:Pt)(off:BitVec 64):Bool:=decide (off=0#64)&&decide (cn t.l 128=0)&&decide (0<t.A.length)
def Ax(args:List AV)(H:AH):Option (AV×AH):=match args with
 |[.g c,.c (.u off)]=>match yU H c with
   |some (t,x,y)=>if ua t off=true then some (.t [.g (aY (fM t off).1 (.sl (H.length+2) 0 (t.A.length-1) (t.A.length-1)) y),.c (.i (fM t off).2.1),.c (.b (fM t off).2.2)],H++[.own (aY (fM t off).1 (.sl (H.length+2) 0 (t.A.length-1) (t.A.length-1)) y),.own (aY (fM t off).1 (.sl (H.length+2) 0 (t.A.length-1) (t.A.length-1)) y),.vec 1 (t.A.tail.flatMap dO)])else some (.t [.g (aY (fM t off).1 x y),.c (.i (fM t off).2.1),.c (.b (fM t off).2.2)],H++[.own (aY (fM t off).1 x y),.own (aY (fM t off).1 x y)])|none=>none
 |_=>none
theorem ap4(args:List AV)(H:AH)(v:AV)(H1:AH)(h:Ax args H=some (v,H1)):H.length<=H1.length:=by
 unfold Ax at h;repeat' split at h
 all_goals simp at h
 all_goals rw[<-h.2];simp
theorem ajG(t:Pt):dI t=6\/dI t=4\/dI t=2\/dI t=1:=by
 unfold dI xg;repeat' split
 all_goals simp
theorem aBd(t:Pt):BM (dI t) 192=aA (dI t+192):=by rcases ajG t with h|h|h|h<;>rw[h]<;>decide
theorem aAb(lo:Bool)(n:Nat):stateT lo n=(if lo=true then aA ((if 0<n then aA (96+1)else 96)+2)else(if 0<n then aA (96+1)else 96)):=by
 unfold stateT;by_cases h:0<n
 .rw[if_pos h,if_pos h];cases lo<;>decide
 .rw[if_neg h,if_neg h];cases lo<;>decide
theorem aum:bh Tryz.prog 99 Ax:=by
 refine gJ (s:=Ax) (tu PS (tq adx tn)) Tryz.func99 rfl Tryz.results99 Tryz.ntmps99 ap4 ?_;intro args H v H1 h b9 hH;unfold Ax at h;split at h
 .rename_i c off;split at h
  .rename_i t x y hr;obtain⟨rfl,ok⟩:=Mh hr;refine⟨by simp,?_⟩;have FO:(aY t x y).all (Sc.aj H.length)=true:=by simp only[bK,AV.aj,aQ]at b9;exact b9.1
   obtain⟨bx,bY⟩:=Qj FO;have la:=ok.la;have ca:∀X,GV [.g (aY t x y)] (H++X)=some (.c (.i (dI t))):=λX=>afB (C6 ok bx bY);have b7:=Z3 ok.l;have b4:=bz4 ok.m;have rl:0<=t.l/\t.l<=255:=ok.l;have rm:0<=t.m/\t.m<=255:=ok.m;have n7:(7:Int).toNat=7:=rfl;have n4:(4:Int).toNat=4:=rfl;have n3:(3:Int).toNat=3:=rfl;have n2:(2:Int).toNat=2:=rfl;have n0:(0:Int).toNat=0:=rfl;have n1:(1:Int).toNat=1:=rfl;have ts:=aBd t;have ss:=aAb t.lo t.A.length;generalize hcp:dI t=cp at ca ts;have len:=nY t.A;have h0l:(0:Int)<(t.A.length:Int)↔0<t.A.length:=ω
   have h0e:((t.A.length:Int)=0)=¬0<t.A.length:=by apply propext;omega
   simp only[aY]at ca;rcases PN off with h7|rfl|rfl|rfl|rfl|rfl|rfl|rfl|rfl
   .have rx:ua t off=false:=by
     unfold ua;have:¬off=0#64:=λe=>by rw[e]at h7;exact absurd h7 δ
     rw[decide_eq_false this];rfl
    have rp:fM t off=(t,0,false):=if_pos h7;have e0:(off=0#64)=False:=eq_false λe=>by rw[e]at h7;exact absurd h7 δ
    have e1:(off=1#64)=False:=eq_false λe=>by rw[e]at h7;exact absurd h7 δ
    have e2:(off=2#64)=False:=eq_false λe=>by rw[e]at h7;exact absurd h7 δ
    have e3:(off=3#64)=False:=eq_false λe=>by rw[e]at h7;exact absurd h7 δ
    have e4:(off=4#64)=False:=eq_false λe=>by rw[e]at h7;exact absurd h7 δ
    have e5:(off=5#64)=False:=eq_false λe=>by rw[e]at h7;exact absurd h7 δ
    have e6:(off=6#64)=False:=eq_false λe=>by rw[e]at h7;exact absurd h7 δ
    have e7:(off=7#64)=False:=eq_false λe=>by rw[e]at h7;exact absurd h7 δ
    rw[rx,rp]at h;simp only[dL,if_false,if_true,ar,bE]at h;obtain⟨rfl,rfl⟩:=h;rcases dJ ok.hx with⟨rfl,hA⟩|⟨i,v',rfl,hv,cu⟩<;>rcases dJ ok.hy with⟨rfl,hB⟩|⟨i2,v2,rfl,jy,jL⟩;all_goals simp only[go_sem,seval,-mZ,aY,mz,rl,n7,b7,e0,e1,e2,e3,e4,e5,e6,e7]
    all_goals first|exact aI|exact⟨⟨λe=>absurd e ω,λe=>absurd e ω⟩,aI⟩|exact⟨λe=>absurd e ω,aI⟩|exact⟨by(repeat' apply cf)<;>(intro e;omega),aI⟩
   .by_cases hl:cn t.l 128=0;rotate_left
    .have rx:ua t 0#64=false:=by unfold ua;rw[decide_eq_false hl];rfl
     have rp:fM t 0#64=(t,t.dl,true):=by unfold fM;rw[if_neg δ,if_pos rfl,if_neg hl]
     rw[rx,rp]at h;simp only[dL,if_false,ar,bE]at h;obtain⟨rfl,rfl⟩:=h;rcases dJ ok.hx with⟨rfl,hA⟩|⟨i,v',rfl,hv,cu⟩<;>rcases dJ ok.hy with⟨rfl,hB⟩|⟨i2,v2,rfl,jy,jL⟩;all_goals simp only[go_sem,seval,-mZ,aY,mz,rl,n7,b7,hl]
     all_goals first|exact aI|exact⟨⟨λe=>absurd e ω,λe=>absurd e ω⟩,aI⟩|exact⟨λe=>absurd e ω,aI⟩|exact⟨by(repeat' apply cf)<;>(intro e;omega),aI⟩
    have rp:fM t 0#64=((ug t).1,(ug t).2,true):=by unfold fM;rw[if_neg δ,if_pos rfl,if_pos hl]
    have rx:ua t 0#64=decide (0<t.A.length):=by unfold ua;rw[decide_eq_true hl];simp
    rw[rx,rp]at h;by_cases hz:0<t.A.length;rotate_left
    .have tk:ug t=(t,0):=by
      have:t.A=[]:=vG ω;unfold ug;rw[this]
     rw[decide_eq_false hz,tk]at h;simp only[dL,if_false,ar,bE]at h;obtain⟨rfl,rfl⟩:=h;have Ir:((t.A.length:Int)=0)=True:=eq_true ω;rcases dJ ok.hx with⟨rfl,hA⟩|⟨i,v',rfl,hv,cu⟩<;>rcases dJ ok.hy with⟨rfl,hB⟩|⟨i2,v2,rfl,jy,jL⟩;all_goals simp only[go_sem,seval,-mZ,aY,mz,rl,n7,b7,hl,Ir]
     all_goals first|exact aI|exact⟨⟨λe=>absurd e ω,λe=>absurd e ω⟩,aI⟩|exact⟨λe=>absurd e ω,aI⟩|exact⟨by(repeat' apply cf)<;>(intro e;omega),aI⟩
    obtain⟨a,A',FH⟩:∃a A',t.A=a::A':=by cases hh:t.A with
 |nil=>rw[hh]at hz;simp at hz|cons a A'=>exact⟨a,A',rfl⟩
    have tk:ug t=({t with A:=A'},a):=by unfold ug;rw[FH]
    rw[decide_eq_true hz,tk]at h;simp only[if_true,ar,bE]at h;obtain⟨rfl,rfl⟩:=h;have ll:t.A.length=A'.length+1:=by rw[FH];rfl
    rcases dJ ok.hx with⟨rfl,hA⟩|⟨i,v',rfl,hv,cu⟩
    .rw[hA]at hz;simp at hz
    have li:i<H.length:=by simpa[Sc.aj]using bx
    have gi:∀X,hg (H++X) i=hg H i:=λX=>nC li;rw[FH]at cu;have aov:(hg H i).cells=.k .u8 a::A'.flatMap dO:=cu;have hv:=hv.symm;have o9:(A'.flatMap dO).take A'.length=A'.flatMap dO:=bQ (by rw[nY];exact aB _);have l2:=nY A';have o2:=HL A';have Ge:A'.length<=1099511627776:=ω
    have ez:((A'.length:Int)+1=0)=False:=eq_false ω;rw[FH];rw[ll]at*;rcases dJ ok.hy with⟨rfl,hB⟩|⟨i2,v2,rfl,jy,jL⟩;all_goals(repeat(first|simp only[go_sem,seval,-mZ,aY,mz,rl,n7,b7,hl,ez,gi,hv,aov,o9,l2,o2,Ge,List.tail_cons,Nat.add_sub_cancel]|simp(disch:=omega)only[w0]))
    all_goals first|exact aI|exact⟨⟨λe=>absurd e ω,λe=>absurd e ω⟩,aI⟩|exact⟨λe=>absurd e ω,aI⟩|exact⟨by(repeat' apply cf)<;>(intro e;omega),aI⟩
   .have rx:ua t 1#64=false:=rfl;have rp:fM t 1#64=(t,(if cn t.l 128=0 then t.e else t.dm),true):=rfl;rw[rx,rp]at h;simp only[dL,if_false,if_true,ar,bE]at h;obtain⟨rfl,rfl⟩:=h;by_cases hl:cn t.l 128=0;all_goals rcases dJ ok.hx with⟨rfl,hA⟩|⟨i,v',rfl,hv,cu⟩<;>rcases dJ ok.hy with⟨rfl,hB⟩|⟨i2,v2,rfl,jy,jL⟩
    all_goals simp only[go_sem,seval,-mZ,aY,mz,rl,n7,b7,hl]
    all_goals first|exact aI|exact⟨⟨λe=>absurd e ω,λe=>absurd e ω⟩,aI⟩|exact⟨λe=>absurd e ω,aI⟩|exact⟨by(repeat' apply cf)<;>(intro e;omega),aI⟩
   .have rx:ua t 2#64=false:=rfl;have rp:fM t 2#64=(if cp=2 then{t with em:=false}else t,if t.ff=true then aA (cp+192)else cp,true):=by
     have:fM t 2#64=((xX t).1,(xX t).2,true):=rfl;rw[this];unfold xX;rw[hcp,ts]
    rw[rx,rp]at h;by_cases h2:cp=2<;>cases hf:t.ff;all_goals rw[hf]at ca
    all_goals simp only[h2,hf,dL,if_false,if_true,ar,bE]at h
    all_goals obtain⟨rfl,rfl⟩:=h
    all_goals rcases dJ ok.hx with⟨rfl,hA⟩|⟨i,v',rfl,hv,cu⟩<;>rcases dJ ok.hy with⟨rfl,hB⟩|⟨i2,v2,rfl,jy,jL⟩
    all_goals simp only[go_sem,seval,-mZ,aY,mz,rl,n7,b7,ca,h2,hf]
    all_goals first|exact aI|exact⟨⟨λe=>absurd e ω,λe=>absurd e ω⟩,aI⟩|exact⟨λe=>absurd e ω,aI⟩|exact⟨by(repeat' apply cf)<;>(intro e;omega),aI⟩
   .have rx:ua t 3#64=false:=rfl;have rp:fM t 3#64=(t,t.l,true):=rfl;rw[rx,rp]at h;simp only[dL,if_false,if_true,ar,bE]at h;obtain⟨rfl,rfl⟩:=h;rcases dJ ok.hx with⟨rfl,hA⟩|⟨i,v',rfl,hv,cu⟩<;>rcases dJ ok.hy with⟨rfl,hB⟩|⟨i2,v2,rfl,jy,jL⟩;all_goals simp only[go_sem,seval,-mZ,aY,mz,rl,n7,b7]
    all_goals first|exact aI|exact⟨⟨λe=>absurd e ω,λe=>absurd e ω⟩,aI⟩|exact⟨λe=>absurd e ω,aI⟩|exact⟨by(repeat' apply cf)<;>(intro e;omega),aI⟩
   .have rx:ua t 4#64=false:=rfl;have rp:fM t 4#64=(t,t.m,true):=rfl;rw[rx,rp]at h;simp only[dL,if_false,if_true,ar,bE]at h;obtain⟨rfl,rfl⟩:=h;rcases dJ ok.hx with⟨rfl,hA⟩|⟨i,v',rfl,hv,cu⟩<;>rcases dJ ok.hy with⟨rfl,hB⟩|⟨i2,v2,rfl,jy,jL⟩;all_goals simp only[go_sem,seval,-mZ,aY,mz,rl,n7,b7]
    all_goals first|exact aI|exact⟨⟨λe=>absurd e ω,λe=>absurd e ω⟩,aI⟩|exact⟨λe=>absurd e ω,aI⟩|exact⟨by(repeat' apply cf)<;>(intro e;omega),aI⟩
   .have rx:ua t 5#64=false:=rfl;have rp:fM t 5#64=({t with lo:=false},stateT t.lo t.A.length,true):=rfl;rw[rx,rp,ss]at h;by_cases hz:0<t.A.length<;>cases hf:t.lo;all_goals simp only[hz,hf,dL,if_false,if_true,ar,bE]at h
    all_goals obtain⟨rfl,rfl⟩:=h
    all_goals have Ir:((0:Int)<(t.A.length:Int))=(0<t.A.length):=by apply propext;omega
    all_goals rcases dJ ok.hx with⟨rfl,hA⟩|⟨i,v',rfl,hv,cu⟩
    all_goals first
 |(rw[hA]at hz;simp at hz;done)|skip
    all_goals rcases dJ ok.hy with⟨rfl,hB⟩|⟨i2,v2,rfl,jy,jL⟩
    all_goals simp only[go_sem,seval,-mZ,aY,mz,rl,n7,b7,hz,Ir,hf]
    all_goals first|exact aI|exact⟨⟨λe=>absurd e ω,λe=>absurd e ω⟩,aI⟩|exact⟨λe=>absurd e ω,aI⟩|exact⟨by(repeat' apply cf)<;>(intro e;omega),aI⟩
   .have rx:ua t 6#64=false:=rfl;have rp:fM t 6#64=(t,CR t.m,true):=rfl;rw[rx,rp]at h;simp only[dL,if_false,if_true,ar,bE]at h;obtain⟨rfl,rfl⟩:=h;by_cases ON:cn t.m 16=0
    .have m0:CR t.m=176:=if_pos ON;rw[m0];rcases dJ ok.hx with⟨rfl,hA⟩|⟨i,v',rfl,hv,cu⟩<;>rcases dJ ok.hy with⟨rfl,hB⟩|⟨i2,v2,rfl,jy,jL⟩;all_goals simp only[go_sem,seval,-mZ,aY,mz,rl,rm,n7,n4,b7,b4,ON]
     all_goals first|exact aI|exact⟨⟨λe=>absurd e ω,λe=>absurd e ω⟩,aI⟩|exact⟨λe=>absurd e ω,aI⟩|exact⟨by(repeat' apply cf)<;>(intro e;omega),aI⟩
    .have md:=mdm ok.m ON;have q:∀k:Nat,0<=t.m/2^k%2/\t.m/2^k%2<=1:=λk=>by omega
     obtain⟨q1,q1'⟩:=q 1;obtain⟨q0,q0'⟩:=q 0;obtain⟨q2,q2'⟩:=q 2;obtain⟨q3,q3'⟩:=q 3;rw[<-md];generalize hq1:t.m/2^1%2=p1 at*;generalize hq0:t.m/2^0%2=p0 at*;generalize hq2:t.m/2^2%2=p2 at*;generalize Pg:t.m/2^3%2=p3 at*;rcases dJ ok.hx with⟨rfl,hA⟩|⟨i,v',rfl,hv,cu⟩<;>rcases dJ ok.hy with⟨rfl,hB⟩|⟨i2,v2,rfl,jy,jL⟩;all_goals(repeat(first|simp only[go_sem,seval,-mZ,aY,mz,rl,rm,n7,n4,n3,n2,n1,n0,b7,b4,ON,hq1,hq0,hq2,Pg]|simp(disch:=omega)only[w0]))
     all_goals first|exact aI|exact⟨⟨λe=>absurd e ω,λe=>absurd e ω⟩,aI⟩|exact⟨λe=>absurd e ω,aI⟩|exact⟨by(repeat' apply cf)<;>(intro e;omega),aI⟩
   .have rx:ua t 7#64=false:=rfl;have rp:fM t 7#64=(t,t.s,true):=rfl;rw[rx,rp]at h;simp only[dL,if_false,if_true,ar,bE]at h;obtain⟨rfl,rfl⟩:=h;rcases dJ ok.hx with⟨rfl,hA⟩|⟨i,v',rfl,hv,cu⟩<;>rcases dJ ok.hy with⟨rfl,hB⟩|⟨i2,v2,rfl,jy,jL⟩;all_goals simp only[go_sem,seval,-mZ,aY,mz,rl,n7,b7]
    all_goals first|exact aI|exact⟨⟨λe=>absurd e ω,λe=>absurd e ω⟩,aI⟩|exact⟨λe=>absurd e ω,aI⟩|exact⟨by(repeat' apply cf)<;>(intro e;omega),aI⟩
  .simp at h
 .simp at h
theorem Oe{t:Pt}(ok:jm H t x y)(hb:fG b)(bx:x.aj H.length=true)(bY:y.aj H.length=true)(P Q:ae):∃x' X,yW [.g (aY t x y),.c (.i b)] (H++[P,Q])=some (.t [.g (aY (jh t b).1 x' y),.c (.b (jh t b).2)],H++(P::Q::X))/\(x'=x\/∃i v n,x'=.sl i 0 v n/\H.length<=i)/\dh 1 iU (H++(P::Q::X)) x'=some (jh t b).1.A/\Sc.one x'=true/\x'.aj (H++(P::Q::X)).length=true:=by
 have ok':=C6 (X:=[P,Q]) ok bx bY;have lH:(H++[P,Q]).length=H.length+2:=by simp
 by_cases hr:C5 t<=t.A.length
 .have e:jh t b=({t with lo:=true},false):=if_pos hr;refine⟨x,[.own (aY {t with lo:=true} x y),.own (aY {t with lo:=true} x y)],?_,.inl rfl,?_,j9 ok.hx,Sc.ic bx (by simp)⟩
  .simp only[yW,Ei ok',e];rw[if_pos hb,if_pos trivial];simp
  .rw[e];exact wO ok.hx bx
 .have e:jh t b=({t with A:=t.A++[b]},true):=if_neg hr;refine⟨.sl (H.length+4) 0 (t.A.length+1) (t.A.length+1),[.own (aY {t with A:=t.A++[b]} (.sl (H.length+4) 0 (t.A.length+1) (t.A.length+1)) y),.own (aY {t with A:=t.A++[b]} (.sl (H.length+4) 0 (t.A.length+1) (t.A.length+1)) y),.vec 1 (t.A.flatMap dO++[.k .u8 b]),.vec 1 [.k .u8 b]],?_,.inr ⟨_,_,_,rfl,ω⟩,?_,rfl,by simp[Sc.aj]⟩
  .simp only[yW,Ei ok',e];rw[if_pos hb,if_neg (by simp),lH];simp
  .rw[e];have g:∀P Q R S V W:ae,hg (H++[P,Q,R,S,V,W]) (H.length+4)=V:=λP Q R S V W=>by simp[hg,bX]
   refine B4 Be Fy (L:=t.A++[b]) ?_ (by simp) ?_
   .rw[g];simp only[ae.row,cj,nY,cT,fa]
   .rw[g,OC];rfl
def Au(args:List AV)(H:AH):Option (AV×AH):=match args with
 |[.g c,.c (.i b)]=>match yU H c with
   |some (t,x,y)=>if fG b then(if cn t.m 16=0 then match yW [.g c,.c (.i b)] (H++[.own c,.own (aY fR .az .az)])with|some (.t [.g c',.c (.b q)],K)=>some (.t [.g c',.c (.b q)],K.set (H.length+1) (.own c'))|_=>none else some (.t [.g c,.c (.b false)],H++[.own c,.own c]))else none|none=>none
 |_=>none
theorem ap3(args:List AV)(H:AH)(v:AV)(H1:AH)(h:Au args H=some (v,H1)):H.length<=H1.length:=by
 unfold Au at h;repeat' split at h
 all_goals simp at h
 .rename_i hc;have:=US _ _ _ _ hc;rw[<-h.2];simp at this|-;omega
 .rw[<-h.2];simp
theorem aue:bh Tryz.prog 105 Au:=by
 refine gJ (s:=Au) (tu PS (tp ady tn)) Tryz.func105 rfl Tryz.results105 Tryz.ntmps105 ap3 ?_;intro args H v H1 h b9 hH;unfold Au at h;split at h
 .rename_i c b;split at h
  .rename_i t x y hr;obtain⟨rfl,ok⟩:=Mh hr;split at h
   .rename_i hb;refine⟨by simp,?_⟩;have FO:(aY t x y).all (Sc.aj H.length)=true:=by simp only[bK,AV.aj,aQ]at b9;exact b9.1
    obtain⟨bx,bY⟩:=Qj FO;have b4:=Z2 ok.m;have rm:0<=t.m/\t.m<=255:=ok.m;have n4:(4:Int).toNat=4:=rfl;split at h
    .rename_i hm;obtain⟨x',X,e1,e2,e3,e4⟩:=Oe ok hb bx bY (.own (aY t x y)) (.own (aY fR .az .az));rw[e1]at h;simp only[ar,bE]at h;obtain⟨rfl,rfl⟩:=h;have ox:=j9 ok.hx;simp only[aY,fR]at e1;have sx:x'=.az\/∃i v n,x'=.sl i 0 v n:=by
      rcases dJ e3 with⟨rfl,_⟩|⟨i,v,rfl,_,_⟩
      .exact .inl rfl
      .exact .inr ⟨_,_,_,rfl⟩
     rcases dJ ok.hx with⟨rfl,hA⟩|⟨i,v',rfl,hv,cu⟩<;>rcases dJ ok.hy with⟨rfl,hB⟩|⟨i2,v2,rfl,jy,jL⟩<;>rcases sx with rfl|⟨i3,v3,n3,rfl⟩;all_goals simp only[go_sem,seval,-mZ,aY,mz,rm,n4,b4,hm,e1]
     all_goals first|exact aI
    .rename_i hm;simp only[ar,bE]at h;obtain⟨rfl,rfl⟩:=h;rcases dJ ok.hx with⟨rfl,hA⟩|⟨i,v',rfl,hv,cu⟩<;>rcases dJ ok.hy with⟨rfl,hB⟩|⟨i2,v2,rfl,jy,jL⟩;all_goals simp only[go_sem,seval,-mZ,aY,mz,rm,n4,b4,hm]
     all_goals first|exact aI
   .simp at h
  .simp at h
 .simp at h
def IS(t:Pt)(b:Int):Bool:=(decide (¬cn b 1=0)==t.ff)&&decide (cn b 2=0)
def Ay(args:List AV)(H:AH):Option (AV×AH):=match args with
 |[.g c,.c (.u off),.c (.i b)]=>match yU H c with
   |some (t,x,y)=>if fG b then(if off=0#64/\cn t.l 128=0 then(if cn t.m 16=0 then some (.t [.g (aY (ga t off b).1 x (.sl (H.length+2) 0 (t.B.length+1) (t.B.length+1))),.c (.b true)],H++[.own (aY (ga t off b).1 x (.sl (H.length+2) 0 (t.B.length+1) (t.B.length+1))),.own (aY (ga t off b).1 x (.sl (H.length+2) 0 (t.B.length+1) (t.B.length+1))),.vec 1 (t.B.flatMap dO++[.k .u8 b]),.vec 1 [.k .u8 b]])else match yW [.g c,.c (.i b)] (H++[.own c,.own (aY fR .az .az)])with|some (.t [.g c',.c (.b _)],K)=>some (.t [.g (c'.set 8 (.b true)),.c (.b true)],((K++[ae.own c']).set H.length (.own (c'.set 8 (.b true)))).set (H.length+1) (.own (c'.set 8 (.b true))))|_=>none)else if off=2#64/\IS t b=false then some (.t [.g (aY (ga t off b).1 .az y),.c (.b true)],H++[.own (aY (ga t off b).1 .az y),.own (aY (ga t off b).1 .az y)])else some (.t [.g (aY (ga t off b).1 x y),.c (.b (ga t off b).2)],H++[.own (aY (ga t off b).1 x y),.own (aY (ga t off b).1 x y)]))else none|none=>none
 |_=>none
theorem ap6(args:List AV)(H:AH)(v:AV)(H1:AH)(h:Ay args H=some (v,H1)):H.length<=H1.length:=by
 unfold Ay at h;repeat' split at h
 all_goals simp at h
 all_goals rw[<-h.2]
 all_goals first
 |(simp;done)|(rename_i hc;have:=US _ _ _ _ hc;simp at this|-;omega)
theorem aut:bh Tryz.prog 102 Ay:=by
 refine gJ (s:=Ay) (tu PS (tp ady tn)) Tryz.func102 rfl Tryz.results102 Tryz.ntmps102 ap6 ?_;intro args H v H1 h b9 hH;unfold Ay at h;split at h
 .rename_i c off b;split at h
  .rename_i t x y hr;obtain⟨rfl,ok⟩:=Mh hr;split at h
   .rename_i hb;refine⟨by simp,?_⟩;have FO:(aY t x y).all (Sc.aj H.length)=true:=by simp only[bK,AV.aj,aQ]at b9;exact b9.1
    obtain⟨bx,bY⟩:=Qj FO;have b7:=Z3 ok.l;have b4:=Z2 ok.m;have ZW:=Z1 hb;have be1:=bz1 ok.e;have b16:=m16 hb;have b32:=m32 hb;have b2q:=m2q hb;have wb:=w8 hb;have rb:0<=b/\b<=255:=hb;have re:0<=t.e/\t.e<=255:=ok.e;have rm:0<=t.m/\t.m<=255:=ok.m;have rl:0<=t.l/\t.l<=255:=ok.l;have n7:(7:Int).toNat=7:=rfl;have n4:(4:Int).toNat=4:=rfl;have n1:(1:Int).toNat=1:=rfl;rcases PN off with h7|rfl|rfl|rfl|rfl|rfl|rfl|rfl|rfl
    .have e0:(off=0#64)=False:=eq_false λe=>by rw[e]at h7;exact absurd h7 δ
     have e1:(off=1#64)=False:=eq_false λe=>by rw[e]at h7;exact absurd h7 δ
     have e2:(off=2#64)=False:=eq_false λe=>by rw[e]at h7;exact absurd h7 δ
     have e3:(off=3#64)=False:=eq_false λe=>by rw[e]at h7;exact absurd h7 δ
     have e4:(off=4#64)=False:=eq_false λe=>by rw[e]at h7;exact absurd h7 δ
     have e5:(off=5#64)=False:=eq_false λe=>by rw[e]at h7;exact absurd h7 δ
     have e6:(off=6#64)=False:=eq_false λe=>by rw[e]at h7;exact absurd h7 δ
     have e7:(off=7#64)=False:=eq_false λe=>by rw[e]at h7;exact absurd h7 δ
     have wp:ga t off b=(t,false):=if_pos h7;rw[if_neg (by rw[e0];simp),if_neg (by rw[e2];simp),wp]at h;simp only[ar,bE]at h;obtain⟨rfl,rfl⟩:=h;rcases dJ ok.hx with⟨rfl,hA⟩|⟨i,v',rfl,hv,cu⟩<;>rcases dJ ok.hy with⟨rfl,hB⟩|⟨i2,v2,rfl,jy,jL⟩;all_goals simp only[go_sem,seval,-mZ,aY,mz,rl,n7,b7,e0,e1,e2,e3,e4,e5,e6,e7]
     all_goals first|exact aI|exact⟨⟨λe=>absurd e ω,λe=>absurd e ω⟩,aI⟩|exact⟨λe=>absurd e ω,aI⟩|exact⟨by(repeat' apply cf)<;>(intro e;omega),aI⟩
    .by_cases hl:cn t.l 128=0;rotate_left
     .have wp:ga t 0#64 b=({t with dl:=b},true):=by unfold ga;rw[if_neg δ,if_neg (by simp[hl]),if_neg δ,if_neg δ];rfl
      rw[if_neg (by simp[hl]),if_neg (by simp),wp]at h;simp only[ar,bE]at h;obtain⟨rfl,rfl⟩:=h;rcases dJ ok.hx with⟨rfl,hA⟩|⟨i,v',rfl,hv,cu⟩<;>rcases dJ ok.hy with⟨rfl,hB⟩|⟨i2,v2,rfl,jy,jL⟩;all_goals simp only[go_sem,seval,-mZ,aY,mz,rl,n7,b7,hl]
      all_goals first|exact aI|exact⟨⟨λe=>absurd e ω,λe=>absurd e ω⟩,aI⟩|exact⟨λe=>absurd e ω,aI⟩|exact⟨by(repeat' apply cf)<;>(intro e;omega),aI⟩
     rw[if_pos ⟨rfl,hl⟩]at h;have wp:ga t 0#64 b=(B3 t b,true):=by unfold ga;rw[if_neg δ,if_pos ⟨rfl,hl⟩]
     rw[wp]at h;by_cases hm:cn t.m 16=0
     .rw[if_pos hm]at h;have sp:B3 t b={t with B:=t.B++[b],em:=true}:=if_pos hm;rw[sp]at h;simp only[ar,bE]at h;obtain⟨rfl,rfl⟩:=h;have lb:=ok.lb;have one:=HL t.B;have len:=nY t.B;have tk:(t.B.flatMap dO).take t.B.length=t.B.flatMap dO:=bQ (by rw[nY];exact aB _);have Ge:t.B.length<=1099511627775:=ω
      have U0:t.B.length<=1099511627776:=ω
      rcases dJ ok.hy with⟨rfl,hB⟩|⟨i2,v2,rfl,jy,jL⟩
      .rw[hB];rcases dJ ok.hx with⟨rfl,hA⟩|⟨i,v',rfl,hv,cu⟩;all_goals simp only[go_sem,seval,-mZ,aY,mz,rl,rm,n7,n4,b7,b4,hl,hm,wb,fa,List.flatMap_nil]
       all_goals first|exact aI|exact⟨⟨λe=>absurd e ω,λe=>absurd e ω⟩,aI⟩|exact⟨λe=>absurd e ω,aI⟩|exact⟨by(repeat' apply cf)<;>(intro e;omega),aI⟩
      .have li:i2<H.length:=by simpa[Sc.aj]using bY
       have gi:∀X,hg (H++X) i2=hg H i2:=λX=>nC li;have jy:=jy.symm;rcases dJ ok.hx with⟨rfl,hA⟩|⟨i,v',rfl,hv,cu⟩;all_goals(repeat(first|simp only[go_sem,seval,-mZ,aY,mz,rl,rm,n7,n4,b7,b4,hl,hm,wb,one,len,gi,jy,jL,tk,Ge,U0]|simp(disch:=omega)only[w0]))
       all_goals first|exact aI|exact⟨⟨λe=>absurd e ω,λe=>absurd e ω⟩,aI⟩|exact⟨λe=>absurd e ω,aI⟩|exact⟨by(repeat' apply cf)<;>(intro e;omega),aI⟩
     .rw[if_neg hm]at h;obtain⟨x',X,e1,e2,e3,e4⟩:=Oe ok hb bx bY (.own (aY t x y)) (.own (aY fR .az .az));have hs:∀P Q R c:ae,(((H++(P::Q::X))++[R]).set H.length c).set (H.length+1) c=H++(c::c::(X++[R])):=λP Q R c=>by simp[List.set_append]
      rw[e1]at h;simp only[hs,ar,bE]at h;obtain⟨rfl,rfl⟩:=h;simp only[aY,fR]at e1;have sx:x'=.az\/∃i v n,x'=.sl i 0 v n:=by
       rcases dJ e3 with⟨rfl,_⟩|⟨i,v,rfl,_,_⟩
       .exact .inl rfl
       .exact .inr ⟨_,_,_,rfl⟩
      rcases dJ ok.hx with⟨rfl,hA⟩|⟨i,v',rfl,hv,cu⟩<;>rcases dJ ok.hy with⟨rfl,hB⟩|⟨i2,v2,rfl,jy,jL⟩<;>rcases sx with rfl|⟨i3,v3,n3,rfl⟩;all_goals simp only[go_sem,seval,-mZ,aY,mz,rl,rm,n7,n4,b7,b4,hl,hm,e1]
      all_goals first|exact aI|exact⟨⟨λe=>absurd e ω,λe=>absurd e ω⟩,aI⟩|exact⟨λe=>absurd e ω,aI⟩|exact⟨by(repeat' apply cf)<;>(intro e;omega),aI⟩
    .rw[if_neg (by simp),if_neg (by simp)]at h;by_cases hl:cn t.l 128=0
     .have wp:ga t 1#64 b=({t with em:=t.em||(decide (¬cn b 2=0)&&decide (cn t.e 2=0)),e:=cn b 15},true):=by
       have:ga t 1#64 b=(AN t 1#64 b,true):=rfl;rw[this];unfold AN;rw[if_neg δ,if_pos rfl,if_pos hl]
      rw[wp]at h;simp only[ar,bE]at h;obtain⟨rfl,rfl⟩:=h;by_cases h2:cn b 2=0<;>by_cases h3:cn t.e 2=0<;>cases TZ:t.em;all_goals rcases dJ ok.hx with⟨rfl,hA⟩|⟨i,v',rfl,hv,cu⟩<;>rcases dJ ok.hy with⟨rfl,hB⟩|⟨i2,v2,rfl,jy,jL⟩
      all_goals simp only[go_sem,seval,-mZ,aY,mz,rl,rb,re,n7,n1,b7,ZW,be1,b16,hl,h2,h3,TZ,decide_true,decide_false,not_true,not_false_eq_true,Ny,Bool.true_or,Bool.false_or,Bool.or_true,vC,c8,rY]
      all_goals first|exact aI|exact⟨⟨λe=>absurd e ω,λe=>absurd e ω⟩,aI⟩|exact⟨λe=>absurd e ω,aI⟩|exact⟨by(repeat' apply cf)<;>(intro e;omega),aI⟩
     .have wp:ga t 1#64 b=({t with dm:=b},true):=by
       have:ga t 1#64 b=(AN t 1#64 b,true):=rfl;rw[this];unfold AN;rw[if_neg δ,if_pos rfl,if_neg hl]
      rw[wp]at h;simp only[ar,bE]at h;obtain⟨rfl,rfl⟩:=h;rcases dJ ok.hx with⟨rfl,hA⟩|⟨i,v',rfl,hv,cu⟩<;>rcases dJ ok.hy with⟨rfl,hB⟩|⟨i2,v2,rfl,jy,jL⟩;all_goals simp only[go_sem,seval,-mZ,aY,mz,rl,n7,b7,hl]
      all_goals first|exact aI|exact⟨⟨λe=>absurd e ω,λe=>absurd e ω⟩,aI⟩|exact⟨λe=>absurd e ω,aI⟩|exact⟨by(repeat' apply cf)<;>(intro e;omega),aI⟩
    .have wp:ga t 2#64 b=(yQ t b,true):=rfl;rw[if_neg (by simp),wp]at h;by_cases h1:cn b 1=0<;>by_cases h2:cn b 2=0<;>cases hf:t.ff;all_goals simp[yQ,IS,h1,h2,hf]at h
     all_goals obtain⟨rfl,rfl⟩:=h
     all_goals rcases dJ ok.hx with⟨rfl,hA⟩|⟨i,v',rfl,hv,cu⟩<;>rcases dJ ok.hy with⟨rfl,hB⟩|⟨i2,v2,rfl,jy,jL⟩
     all_goals simp only[go_sem,seval,-mZ,aY,mz,rl,rb,n7,n1,b7,ZW,b2q,h1,h2,hf]
     all_goals first|exact aI|exact⟨⟨λe=>absurd e ω,λe=>absurd e ω⟩,aI⟩|exact⟨λe=>absurd e ω,aI⟩|exact⟨by(repeat' apply cf)<;>(intro e;omega),aI⟩
    .have wp:ga t 3#64 b=({t with l:=b},true):=rfl;rw[if_neg (by simp),if_neg (by simp),wp]at h;simp only[ar,bE]at h;obtain⟨rfl,rfl⟩:=h;rcases dJ ok.hx with⟨rfl,hA⟩|⟨i,v',rfl,hv,cu⟩<;>rcases dJ ok.hy with⟨rfl,hB⟩|⟨i2,v2,rfl,jy,jL⟩;all_goals simp only[go_sem,seval,-mZ,aY,mz,rl,n7,b7]
     all_goals first|exact aI|exact⟨⟨λe=>absurd e ω,λe=>absurd e ω⟩,aI⟩|exact⟨λe=>absurd e ω,aI⟩|exact⟨by(repeat' apply cf)<;>(intro e;omega),aI⟩
    .have wp:ga t 4#64 b=({t with m:=cn b 31},true):=rfl;rw[if_neg (by simp),if_neg (by simp),wp]at h;simp only[ar,bE]at h;obtain⟨rfl,rfl⟩:=h;rcases dJ ok.hx with⟨rfl,hA⟩|⟨i,v',rfl,hv,cu⟩<;>rcases dJ ok.hy with⟨rfl,hB⟩|⟨i2,v2,rfl,jy,jL⟩;all_goals simp only[go_sem,seval,-mZ,aY,mz,rl,n7,b7,b32]
     all_goals first|exact aI|exact⟨⟨λe=>absurd e ω,λe=>absurd e ω⟩,aI⟩|exact⟨λe=>absurd e ω,aI⟩|exact⟨by(repeat' apply cf)<;>(intro e;omega),aI⟩
    .have wp:ga t 5#64 b=(t,true):=rfl;rw[if_neg (by simp),if_neg (by simp),wp]at h;simp only[ar,bE]at h;obtain⟨rfl,rfl⟩:=h;rcases dJ ok.hx with⟨rfl,hA⟩|⟨i,v',rfl,hv,cu⟩<;>rcases dJ ok.hy with⟨rfl,hB⟩|⟨i2,v2,rfl,jy,jL⟩;all_goals simp only[go_sem,seval,-mZ,aY,mz,rl,n7,b7]
     all_goals first|exact aI|exact⟨⟨λe=>absurd e ω,λe=>absurd e ω⟩,aI⟩|exact⟨λe=>absurd e ω,aI⟩|exact⟨by(repeat' apply cf)<;>(intro e;omega),aI⟩
    .have wp:ga t 6#64 b=(t,true):=rfl;rw[if_neg (by simp),if_neg (by simp),wp]at h;simp only[ar,bE]at h;obtain⟨rfl,rfl⟩:=h;rcases dJ ok.hx with⟨rfl,hA⟩|⟨i,v',rfl,hv,cu⟩<;>rcases dJ ok.hy with⟨rfl,hB⟩|⟨i2,v2,rfl,jy,jL⟩;all_goals simp only[go_sem,seval,-mZ,aY,mz,rl,n7,b7]
     all_goals first|exact aI|exact⟨⟨λe=>absurd e ω,λe=>absurd e ω⟩,aI⟩|exact⟨λe=>absurd e ω,aI⟩|exact⟨by(repeat' apply cf)<;>(intro e;omega),aI⟩
    .have wp:ga t 7#64 b=({t with s:=b},true):=rfl;rw[if_neg (by simp),if_neg (by simp),wp]at h;simp only[ar,bE]at h;obtain⟨rfl,rfl⟩:=h;rcases dJ ok.hx with⟨rfl,hA⟩|⟨i,v',rfl,hv,cu⟩<;>rcases dJ ok.hy with⟨rfl,hB⟩|⟨i2,v2,rfl,jy,jL⟩;all_goals simp only[go_sem,seval,-mZ,aY,mz,rl,n7,b7]
     all_goals first|exact aI|exact⟨⟨λe=>absurd e ω,λe=>absurd e ω⟩,aI⟩|exact⟨λe=>absurd e ω,aI⟩|exact⟨by(repeat' apply cf)<;>(intro e;omega),aI⟩
   .simp at h
  .simp at h
 .simp at h
def W9(args:List AV):Option AV:=match args with|[.c (.u off),.c (.i n)]=>some (.c (.b (decide (off<8#64)&&decide (n=1))))|_=>none
theorem ayi{off n}:W9 [.c (.u off),.c (.i n)]=some (.c (.b (decide (off<8#64)&&decide (n=1)))):=rfl
theorem asY:cK Tryz.prog 135 W9:=by
 refine cR tn Tryz.func135 rfl Tryz.results135 Tryz.ntmps135 ?_;intro args v h;unfold W9 at h;split at h
 .rename_i off n;simp only[ar]at h;subst h;refine⟨by simp,rfl,rfl,?_⟩;by_cases h:off<8#64<;>by_cases h1:n=1;all_goals simp only[go_sem,seval,h,h1]
  all_goals rfl
 .simp at h
def wC(H:AH)(id:Nat):Option (Pt×Sc×Sc):=match nJ (hg H id)with
 |some p=>match dh 1 iU H p.x,dh 1 iU H p.y with
   |some A,some B=>some (⟨p.e,p.l,p.m,p.s,p.dl,p.dm,p.ff,p.lo,p.em,A,B⟩,p.x,p.y)|_,_=>none
 |none=>none
theorem awj{h:Nat}{t:Pt}(hP:PI H h t x y):wC H h=some (t,x,y):=by
 unfold wC;rw[hP.po];simp only;rw[show(iJ t x y).x=x from rfl,show(iJ t x y).y=y from rfl,N0 hP.hx,N0 hP.hy];rfl
theorem P2{H:AH}{id:Nat}{t:Pt}{x y:Sc}(h:wC H id=some (t,x,y)):hg H id=.own (iy (iJ t x y))/\dh 1 iU H x=some t.A/\dh 1 iU H y=some t.B:=by
 unfold wC at h;split at h
 .rename_i p hp;split at h
  .rename_i A B hA hB;simp only[ar,bE]at h;obtain⟨rfl,rfl,rfl⟩:=h;exact⟨tZ hp,hA,hB⟩
  .simp at h
 .simp at h
theorem Wk.OF{fr eh:Fr}{H H':AH}(hh:H=H')(hf:∀p∈eh,Am.get fr p.1=p.2):Wk n fr H (eh,H'):=by subst hh;exact Wk.fr hf
def f1(q:Bool):Int:=if q=true then 1 else 0
def PL(t:Pt):List Sc:=[.k .u8 t.e,.k .u8 t.l,.k .u8 t.m,.k .u8 t.s,.k .u8 t.dl,.k .u8 t.dm,.k .u8 (f1 t.ff),.k .u8 (f1 t.lo),.k .u8 (f1 t.em)]
def Nb(args:List AV)(H:AH):Option AV:=match args with
 |[.c (.p id 0 0)]=>match wC H id with
   |some (t,_,_)=>some (.g (PL t))|none=>none
 |_=>none
theorem afJ{id:Nat}{H:AH}{t:Pt}{x y:Sc}(h:wC H id=some (t,x,y)):Nb [.c (.p id 0 0)] H=some (.g (PL t)):=by simp only[Nb,h]
def IH(t:Pt)(k:Nat):List Sc:=[.k .u8 t.e,.k .u8 t.l,.k .u8 t.m,.k .u8 t.s,.k .u8 t.dl,.k .u8 t.dm,.k .u8 (if 0<k then f1 t.ff else 0),.k .u8 (if 1<k then f1 t.lo else 0),.k .u8 (if 2<k then f1 t.em else 0)]
theorem auG:bh Tryz.prog 166 (λargs H=>(Nb args H).map λv=>(v,H)):=by
 refine jo (s:=Nb) tn Tryz.func166 rfl Tryz.results166 Tryz.ntmps166 ?_;intro args H v h b9 hH;unfold Nb at h;split at h
 .rename_i id;split at h
  .rename_i t x y ht;obtain⟨hm,hA,hB⟩:=P2 ht;simp only[ar]at h;subst h;refine⟨by simp,rfl,?_⟩;have aD:id<H.length:=eu (by rw[hm];rfl);have gx:∀X,hg (H++X) id=_:=λX=>(nC aD).trans hm;simp only[iy,iJ]at gx hm;rcases dJ hA with⟨rfl,FH⟩|⟨i,v',rfl,hv,cu⟩<;>rcases dJ hB with⟨rfl,OP⟩|⟨i2,v2,rfl,jy,jL⟩;all_goals simp only[go_sem,seval,gx,hm]
   all_goals refine⟨by(repeat' apply cf)<;>(intro e;omega),?_⟩
   all_goals refine fB 3 (λk=>([(0,.c (.p id 0 0)),(2,.c (.p H.length 0 0)),(3,.c (.p (H.length+1) 0 0)),(43,.g [.b t.ff,.b t.lo,.b t.em]),(44,.c (.i k))],H++[.own [.k .u8 0,.k .u8 0,.k .u8 0,.k .u8 0,.k .u8 0,.k .u8 0,.k .u8 0,.k .u8 0,.k .u8 0],.own (IH t k)])) (Wk.OF (by simp[IH]) (by simp[Am.get])) λk hk=>?_
   all_goals rcases(by omega:k=0\/k=1\/k=2\/k=3)with rfl|rfl|rfl|rfl
   all_goals cases hf:t.ff<;>cases hl:t.lo<;>cases he:t.em
   all_goals(repeat(first|simp only[go_sem,seval,IH,f1,hf,hl,he,Nat.lt_irrefl]|simp(disch:=omega)only[w0]))
   all_goals first
 |exact aC _ _|exact⟨by simp[PL,f1,hf,hl,he],aC _ _⟩|exact⟨1,ω,ω,Wk.OF (by simp[IH,f1,hf,hl,he]) (by simp[Am.get])⟩|exact⟨2,ω,ω,Wk.OF (by simp[IH,f1,hf,hl,he]) (by simp[Am.get])⟩|exact⟨3,ω,ω,Wk.OF (by simp[IH,f1,hf,hl,he]) (by simp[Am.get])⟩
  .simp at h
 .simp at h
def fK(A:List Int):Bool:=A.all λn=>decide (fG n)
theorem byl(A:List Int):Go.Am.A7 (A.flatMap dO)=some A:=by induction A with
 |nil=>rfl|cons a A ih=>show(Go.Am.A7 (A.flatMap dO)).map (a::·)=_;rw[ih];rfl
theorem aBo{a:Int}(ha:fG a)(hb:fG b)(h:UInt8.ofNat a.toNat=UInt8.ofNat b.toNat):a=b:=by
 unfold fG at ha hb;have:=congrArg UInt8.toNat h;rw[UInt8.toNat_ofNat',UInt8.toNat_ofNat']at this;omega
theorem aAe:∀{A B:List Int},fK A=true->fK B=true->(EO A=EO B)=(A=B):=by
 intro A B hA hB;apply propext;constructor
 .intro h;have h2:(A.map λn=>UInt8.ofNat n.toNat)=B.map λn=>UInt8.ofNat n.toNat:=by
   have:=congrArg (λs=>s.data.toList) h;simpa[EO]using this
  induction A generalizing B with
 |nil=>cases B with|nil=>rfl|cons b B=>simp at h2
 |cons a A ih=>cases B with
 |nil=>simp at h2|cons b B=>simp only[gz,cL]at h2;simp only[fK,bK,aQ,decide_eq_true_eq]at hA hB;rw[aBo hA.1 hB.1 h2.1,ih hA.2 hB.2 (by unfold EO;rw[h2.2]) h2.2]
 .intro h;rw[h]
def I8(args:List AV)(H:AH):Option AV:=match args with
 |[.c x,.c y]=>match dh 1 iU H x,dh 1 iU H y with
   |some A,some B=>if fK A=true/\fK B=true then some (.c (.b (decide (A=B))))else none|_,_=>none
 |_=>none
theorem WT{B:List Int}(h1:dh 1 iU H x=some A)(h2:dh 1 iU H y=some B)(h3:fK A=true)(h4:fK B=true):I8 [.c x,.c y] H=some (.c (.b (decide (A=B)))):=by simp only[I8,h1,h2];rw[if_pos ⟨h3,h4⟩]
theorem ada:bh Tryz.prog 55 (λargs H=>(I8 args H).map λv=>(v,H)):=by
 refine jo (s:=I8) tn Tryz.func55 rfl Tryz.results55 Tryz.ntmps55 ?_;intro args H v h b9 hH;unfold I8 at h;split at h
 .rename_i x y;split at h
  .rename_i A B hA hB;split at h
   .rename_i hc;simp only[ar]at h;subst h;refine⟨by simp,rfl,?_⟩;have inj:=aAe hc.1 hc.2;have lA:=nY A;have lB:=nY B;have bA:=byl A;have bB:=byl B;have tA:(A.flatMap dO).take A.length=A.flatMap dO:=bQ (by rw[nY];exact aB _);have tB:(B.flatMap dO).take B.length=B.flatMap dO:=bQ (by rw[nY];exact aB _);have b0:Go.Am.A7 []=some []:=rfl;rcases dJ hA with⟨rfl,rfl⟩|⟨i,v',rfl,hv,cu⟩<;>rcases dJ hB with⟨rfl,rfl⟩|⟨i2,v2,rfl,jy,jL⟩
    .simp only[go_sem,seval,b0,inj];first|exact aE _|exact⟨by simp,aE _⟩
    .have jy:=jy.symm;(repeat(first|simp only[go_sem,seval,b0,inj,jy,jL,lB,bB,tB]|simp(disch:=omega)only[w0]));first|exact aE _|exact⟨by simp,aE _⟩
    .have hv:=hv.symm;(repeat(first|simp only[go_sem,seval,b0,inj,hv,cu,lA,bA,tA]|simp(disch:=omega)only[w0]));first|exact aE _|exact⟨by simp,aE _⟩
    .have hv:=hv.symm;have jy:=jy.symm;(repeat(first|simp only[go_sem,seval,inj,hv,cu,lA,bA,tA,jy,jL,lB,bB,tB]|simp(disch:=omega)only[w0]));first|exact aE _|exact⟨by simp,aE _⟩
   .simp at h
  .simp at h
 .simp at h
def LV(t u:Pt):Bool:=decide (t.e=u.e)&&(decide (t.l=u.l)&&(decide (t.m=u.m)&&(decide (t.s=u.s)&&(decide (t.dl=u.dl)&&(decide (t.dm=u.dm)&&(decide (f1 t.ff=f1 u.ff)&&(decide (f1 t.lo=f1 u.lo)&&decide (f1 t.em=f1 u.em))))))))
def BZ(t u:Pt):Bool:=LV t u&&(decide (t.A=u.A)&&decide (t.B=u.B))
def JE(args:List AV)(H:AH):Option AV:=match args with
 |[.c (.p i 0 0),.c (.p j 0 0)]=>match wC H i,wC H j with
   |some (t,_,_),some (u,_,_)=>if fK t.A=true/\fK t.B=true/\fK u.A=true/\fK u.B=true then some (.c (.b (BZ t u)))else none|_,_=>none
 |_=>none
variable {u:Pt}{y':Sc}
theorem aze{t:Pt}(h1:wC H i=some (t,x,y))(h2:wC H j=some (u,x',y'))(h3:fK t.A=true/\fK t.B=true/\fK u.A=true/\fK u.B=true):JE [.c (.p i 0 0),.c (.p j 0 0)] H=some (.c (.b (BZ t u))):=by simp only[JE,h1,h2];rw[if_pos h3]
theorem auL:bh Tryz.prog 114 (λargs H=>(JE args H).map λv=>(v,H)):=by
 refine jo (s:=JE) (tq auG (tq ada tn)) Tryz.func114 rfl Tryz.results114 Tryz.ntmps114 ?_;intro args H v h b9 hH;unfold JE at h;split at h
 .rename_i i j;split at h
  .rename_i t x y u x' y' ht hu;split at h
   .rename_i hc;obtain⟨c1,c2,c3,c4⟩:=hc;simp only[ar]at h;subst h;refine⟨by simp,rfl,?_⟩;have n1:=afJ ht;have n2:=afJ hu;obtain⟨hm,hA,hB⟩:=P2 ht;obtain⟨mO,hA2,H8⟩:=P2 hu;have q1:=WT hA hA2 c1 c3;have q2:=WT hB H8 c2 c4;simp only[iy,iJ]at hm mO;simp only[PL]at n1 n2;have ne:LV t u=(decide (t.e=u.e)&&(decide (t.l=u.l)&&(decide (t.m=u.m)&&(decide (t.s=u.s)&&(decide (t.dl=u.dl)&&(decide (t.dm=u.dm)&&(decide (f1 t.ff=f1 u.ff)&&(decide (f1 t.lo=f1 u.lo)&&decide (f1 t.em=f1 u.em))))))))):=rfl;unfold BZ;have ox:=j9 hA;have oy:=j9 hB;have ox2:=j9 hA2;have oy2:=j9 H8;cases hn:LV t u;all_goals rw[hn]at ne
    all_goals by_cases hAA:t.A=u.A
    all_goals by_cases hBB:t.B=u.B
    all_goals simp only[go_sem,seval,hm,mO,n1,n2,<-ne,q1,q2,hAA,hBB,ph,gG]
    all_goals first|exact aE _|exact⟨by simp,aE _⟩
   .simp at h
  .simp at h
 .simp at h
theorem aaq(h:dh 1 iU H x=some A)(hb:x.aj H.length=true)(hs:A.length<=1000000):pX (H++X) x=some (.sl (H.length+X.length) 0 A.length A.length,H++(X++[.vec 1 (A.flatMap dO)])):=by
 rcases dJ h with⟨rfl,rfl⟩|⟨i,v,rfl,hv,hc⟩
 .simp[pX]
 .have li:i<H.length:=by simpa[Sc.aj]using hb
  have e:(A.flatMap dO).take A.length=A.flatMap dO:=bQ (by rw[nY];exact aB _);simp only[pX,nC li,hc,nY,ya,e];rw[if_pos ⟨hv,ω,HL A,hs⟩];simp
def EH(args:List AV)(H:AH):Option (AV×AH):=match args with
 |[.c (.p id 0 0)]=>match wC H id with
   |some (t,x,y)=>if t.A.length<=1000000/\t.B.length<=1000000 then some (.c (.p H.length 0 0),H++[.own (iy (iJ t (.sl (H.length+1) 0 t.A.length t.A.length) (.sl (H.length+2) 0 t.B.length t.B.length))),.vec 1 (t.A.flatMap dO),.vec 1 (t.B.flatMap dO)])else none|none=>none
 |_=>none
theorem aza{id:Nat}{H:AH}{t:Pt}{x y:Sc}(h:wC H id=some (t,x,y))(h2:t.A.length<=1000000/\t.B.length<=1000000):EH [.c (.p id 0 0)] H=some (.c (.p H.length 0 0),H++[.own (iy (iJ t (.sl (H.length+1) 0 t.A.length t.A.length) (.sl (H.length+2) 0 t.B.length t.B.length))),.vec 1 (t.A.flatMap dO),.vec 1 (t.B.flatMap dO)]):=by simp only[EH,h];rw[if_pos h2]
theorem ap8(args:List AV)(H:AH)(v:AV)(H1:AH)(h:EH args H=some (v,H1)):H.length<=H1.length:=by
 unfold EH at h;repeat' split at h
 all_goals simp at h
 rw[<-h.2];simp
theorem auC:bh Tryz.prog 112 EH:=by
 refine gJ (s:=EH) (tp PT tn) Tryz.func112 rfl Tryz.results112 Tryz.ntmps112 ap8 ?_;intro args H v H1 h b9 hH;unfold EH at h;split at h
 .rename_i id;split at h
  .rename_i t x y ht;split at h
   .rename_i hc;obtain⟨c1,c2⟩:=hc;simp only[ar,bE]at h;obtain⟨rfl,rfl⟩:=h;refine⟨by simp,?_⟩;obtain⟨hm,hA,hB⟩:=P2 ht;have aD:id<H.length:=eu (by rw[hm];rfl);have aj:=Cq hH id;rw[hm]at aj;have bx:x.aj H.length=true:=by simp only[ae.cells,ae.cW,iy,iJ,bK,aQ]at aj;exact aj.2.2.2.2.2.2.2.2.2.1
    have bY:y.aj H.length=true:=by simp only[ae.cells,ae.cW,iy,iJ,bK,aQ]at aj;exact aj.2.2.2.2.2.2.2.2.2.2.1
    have q1:=λX=>M9 (aaq (X:=X) hA bx c1);have q2:=λX=>M9 (aaq (X:=X) hB bY c2);have gx:∀X,hg (H++X) id=_:=λX=>(nC aD).trans hm;simp only[iy,iJ]at gx hm;rcases dJ hA with⟨rfl,FH⟩|⟨i,v',rfl,hv,cu⟩<;>rcases dJ hB with⟨rfl,OP⟩|⟨i2,v2,rfl,jy,jL⟩;all_goals simp only[go_sem,seval,hm,gx,q1,q2]
    all_goals first|simp only[FH,OP]|skip
    all_goals refine⟨?_,?_,?_,aI⟩
    all_goals(repeat' apply cf)<;>first|kernel_rfl|(intro e;omega)|(intro _;kernel_rfl)
   .simp at h
  .simp at h
 .simp at h
def GY(t u:Pt):Bool:=decide (t.e=u.e)&&decide (t.l=u.l)&&decide (t.m=u.m)&&decide (t.s=u.s)&&decide (t.dl=u.dl)&&decide (t.dm=u.dm)&&(t.ff==u.ff)&&(t.lo==u.lo)&&(t.em==u.em)&&decide (t.A=u.A)&&decide (t.B=u.B)
def X3(args:List AV)(H:AH):Option AV:=match args with
 |[.g c,.g d]=>match yU H c,yU H d with
   |some (t,_,_),some (u,_,_)=>some (.c (.b (GY t u)))|_,_=>none
 |_=>none
theorem ay8{t:Pt}(h1:jm H t x y)(h2:jm H u x' y'):X3 [.g (aY t x y),.g (aY u x' y')] H=some (.c (.b (GY t u))):=by simp only[X3,Ei h1,Ei h2]
def aoI(t u:Pt):Bool:=decide (t.A=u.A)&&(decide (t.B=u.B)&&((!decide (dI t=1))==(!decide (dI u=1))))
def aDs(args:List AV)(H:AH):Option AV:=match args with
 |[.c (.p id 0 0),.g c]=>match wC H id,yU H c with
   |some (t,_,_),some (u,_,_)=>if t.A.length<=1000000/\t.B.length<=1000000 then some (.c (.b (aoI t u)))else none|_,_=>none
 |_=>none
def IF(H:AH)(x x':Sc):Prop:=x'=x\/x'=.az\/∃i v n,x'=.sl i 0 v n/\H.length<=i
theorem Nk{H K:AH}{x:Sc}{A:List Int}(h:dh 1 iU H x=some A)(hk:∀i,aJ x=some i->hg K i=hg H i):dh 1 iU K x=some A:=by
 unfold dh at h|-;split at h
 .exact h
 .rename_i id v n;simp only[hk id rfl];exact h
 .simp at h
theorem azU(h:dh 1 iU H x=some A):x=.az\/∃i v n,x=.sl i 0 v n:=by
 rcases dJ h with⟨rfl,_⟩|⟨i,v,rfl,_,_⟩
 .exact .inl rfl
 .exact .inr ⟨_,_,_,rfl⟩
structure nb(t:Pt):Prop where
 e:fG t.e
 l:fG t.l
 m:fG t.m
 s:fG t.s
 dl:fG t.dl
 dm:fG t.dm
theorem jm.nb{H:AH}{t:Pt}{x y:Sc}(h:jm H t x y):nb t:=⟨h.e,h.l,h.m,h.s,h.dl,h.dm⟩
theorem ah5(h:fG b):fG (cn b 15):=by rw[<-m16 h,He h.1];unfold fG at*;omega
theorem ah6(h:fG b):fG (cn b 31):=by rw[<-m32 h,He h.1];unfold fG at*;omega
theorem acR{t:Pt}(h:nb t):nb (jh t b).1:=by unfold jh;split<;>exact⟨h.e,h.l,h.m,h.s,h.dl,h.dm⟩
theorem aqU{t:Pt}(h:nb t):nb (pK t b).1:=by
 unfold pK;split
 .exact acR h
 .exact h
theorem aqV{t:Pt}(h:nb t):nb (fM t off).1:=by
 have h':∀A,nb {t with A:=A}:=λA=>⟨h.e,h.l,h.m,h.s,h.dl,h.dm⟩;have h2:nb {t with em:=false}:=⟨h.e,h.l,h.m,h.s,h.dl,h.dm⟩;have h3:nb {t with lo:=false}:=⟨h.e,h.l,h.m,h.s,h.dl,h.dm⟩;unfold fM ug xX AJ;repeat' split
 all_goals first|exact h|exact h' _|exact h2|exact h3
theorem aqW{t:Pt}(h:nb t)(hb:fG b):nb (ga t off b).1:=by
 have c:=acR (b:=b) h;unfold ga B3 yQ AN;repeat' split
 all_goals first
 |exact h|exact⟨c.e,c.l,c.m,c.s,c.dl,c.dm⟩|exact⟨ah5 hb,h.l,h.m,h.s,h.dl,h.dm⟩|exact⟨h.e,hb,h.m,h.s,h.dl,h.dm⟩|exact⟨h.e,h.l,ah6 hb,h.s,h.dl,h.dm⟩|exact⟨h.e,h.l,h.m,hb,h.dl,h.dm⟩|exact⟨h.e,h.l,h.m,h.s,hb,h.dm⟩|exact⟨h.e,h.l,h.m,h.s,h.dl,hb⟩|exact⟨h.e,h.l,h.m,h.s,h.dl,h.dm⟩
theorem awW{K:AH}{t:Pt}{x y:Sc}(ok:jm K t x y)(bx:x.aj K.length=true)(off:BitVec 64):∃x' X,Ax [.g (aY t x y),.c (.u off)] K=some (.t [.g (aY (fM t off).1 x' y),.c (.i (fM t off).2.1),.c (.b (fM t off).2.2)],K++X)/\IF K x x'/\dh 1 iU (K++X) x'=some (fM t off).1.A/\(fM t off).1.B=t.B/\x'.aj (K++X).length=true:=by
 simp only[Ax,Ei ok];have hB:(fM t off).1.B=t.B:=by
  unfold fM ug xX AJ;repeat' split
  all_goals rfl
 cases hx:ua t off
 .have hA:(fM t off).1.A=t.A:=by
   unfold ua at hx;unfold fM ug xX AJ;repeat' split
   all_goals first
 |rfl|(simp_all;done)
  refine⟨x,_,rfl,.inl rfl,?_,hB,Sc.ic bx (by simp)⟩;rw[hA];exact wO ok.hx bx
 .have CJ:off=0#64/\cn t.l 128=0/\0<t.A.length:=by unfold ua at hx;simp at hx;exact⟨hx.1.1,hx.1.2,hx.2⟩
  obtain⟨rfl,h2,h3⟩:=CJ;have hA:(fM t 0#64).1.A=t.A.tail:=by
   unfold fM ug;rw[if_neg δ,if_pos rfl,if_pos h2];cases hh:t.A with
 |nil=>rw[hh]at h3;simp at h3|cons a A=>rfl
  refine⟨.sl (K.length+2) 0 (t.A.length-1) (t.A.length-1),_,rfl,.inr (.inr ⟨_,_,_,rfl,ω⟩),?_,hB,by simp[Sc.aj]⟩;rw[hA];have g:∀P Q V:ae,hg (K++[P,Q,V]) (K.length+2)=V:=λP Q V=>by simp[hg,bX]
  refine B4 Be Fy (L:=t.A.tail) ?_ (by simp) ?_
  .rw[g];simp only[ae.row,nY,List.length_tail]
  .rw[g];rfl
theorem awI{K:AH}{t:Pt}{x y:Sc}(ok:jm K t x y)(bx:x.aj K.length=true)(bY:y.aj K.length=true){b:Int}(hb:fG b):∃x' X,Au [.g (aY t x y),.c (.i b)] K=some (.t [.g (aY (pK t b).1 x' y),.c (.b (pK t b).2)],K++X)/\IF K x x'/\dh 1 iU (K++X) x'=some (pK t b).1.A/\(pK t b).1.B=t.B/\x'.aj (K++X).length=true:=by
 simp only[Au,Ei ok];rw[if_pos hb];unfold pK;split
 .obtain⟨x',X,e1,e2,e3,e4⟩:=Oe ok hb bx bY (.own (aY t x y)) (.own (aY fR .az .az));have hs:∀P Q c:ae,(K++(P::Q::X)).set (K.length+1) c=K++(P::c::X):=λP Q c=>by simp[List.set_append]
  rw[e1];simp only[hs];have hB:(jh t b).1.B=t.B:=by unfold jh;split<;>rfl
  refine⟨x',_,rfl,?_,?_,hB,by simpa using e4.2⟩
  .rcases e2 with h|⟨i,v,n,h1,h2⟩
   .exact .inl h
   .exact .inr (.inr ⟨i,v,n,h1,h2⟩)
  .refine Nk e3 λi hi=>?_;have ne:i≠K.length+1:=λe=>by
    rcases e2 with h|⟨j,v,n,h1,h2⟩
    .rw[h]at hi;rcases dJ ok.hx with⟨rfl,_⟩|⟨j,v,rfl,_,_⟩
     .simp[aJ]at hi
     .simp only[aJ,ar]at hi;have:j<K.length:=by simpa[Sc.aj]using bx
      omega
    .subst h1;simp only[aJ,ar]at hi;rcases dJ e3 with⟨h,_⟩|⟨j',v',h,_,cu⟩
     .simp at h
     .simp only[Sc.sl.injEq]at h;obtain⟨h,_⟩:=h;subst h;rw[hi,e]at cu;have g:hg (K++(ae.own (aY t x y)::ae.own (aY fR .az .az)::X)) (K.length+1)=.own (aY fR .az .az):=by simp[hg,bX]
      rw[g]at cu;have:=amk (jh t b).1.A 0;rw[<-cu]at this;have l1:=congrArg (λl=>List.head? l) cu;simp[ae.cells,ae.cW,aY]at l1;cases hq:(jh t b).1.A with
 |nil=>rw[hq]at l1;simp at l1|cons a A=>rw[hq]at l1;simp[dO]at l1
   rw[<-hs (.own (aY t x y)) (.own (aY fR .az .az)),ej (Ne.symm ne)]
 .exact⟨x,_,rfl,.inl rfl,wO ok.hx bx,rfl,Sc.ic bx (by simp)⟩
theorem aw3{K:AH}{t:Pt}{x y:Sc}(ok:jm K t x y)(bx:x.aj K.length=true)(bY:y.aj K.length=true)(off:BitVec 64){b:Int}(hb:fG b):∃x' y' X,Ay [.g (aY t x y),.c (.u off),.c (.i b)] K=some (.t [.g (aY (ga t off b).1 x' y'),.c (.b (ga t off b).2)],K++X)/\IF K x x'/\IF K y y'/\dh 1 iU (K++X) x'=some (ga t off b).1.A/\dh 1 iU (K++X) y'=some (ga t off b).1.B/\x'.aj (K++X).length=true/\y'.aj (K++X).length=true:=by
 simp only[Ay,Ei ok];rw[if_pos hb];split
 .rename_i h0;obtain⟨rfl,hl⟩:=h0;have wp:ga t 0#64 b=(B3 t b,true):=by unfold ga;rw[if_neg δ,if_pos ⟨rfl,hl⟩]
  rw[wp];split
  .rename_i hm;have sp:B3 t b={t with B:=t.B++[b],em:=true}:=if_pos hm;rw[sp];refine⟨x,_,_,rfl,.inl rfl,.inr (.inr ⟨_,_,_,rfl,ω⟩),wO ok.hx bx,?_,Sc.ic bx (by simp),by simp[Sc.aj]⟩;have g:∀P Q V W:ae,hg (K++[P,Q,V,W]) (K.length+2)=V:=λP Q V W=>by simp[hg,bX]
   refine B4 Be Fy (L:=t.B++[b]) ?_ (by simp) ?_
   .rw[g];simp only[ae.row,cj,nY,cT,fa]
   .rw[g,OC];rfl
  .rename_i hm;have sp:B3 t b={(jh t b).1 with em:=true}:=if_neg hm;rw[sp];obtain⟨x',X,e1,e2,e3,e4⟩:=Oe ok hb bx bY (.own (aY t x y)) (.own (aY fR .az .az));have hs:∀P Q R c:ae,(((K++(P::Q::X))++[R]).set K.length c).set (K.length+1) c=K++(c::c::(X++[R])):=λP Q R c=>by simp[List.set_append]
   rw[e1];simp only[hs];have hB:(jh t b).1.B=t.B:=by unfold jh;split<;>rfl
   refine⟨x',y,_,rfl,?_,.inl rfl,?_,?_,Sc.ic e4.2 (by simp),Sc.ic bY (by simp)⟩
   .rcases e2 with h|⟨i,v,n,h1,h2⟩
    .exact .inl h
    .exact .inr (.inr ⟨i,v,n,h1,h2⟩)
   .show dh 1 iU _ x'=some (jh t b).1.A;refine Nk e3 λi hi=>?_;have ne:i≠K.length/\i≠K.length+1:=by
     rcases dJ e3 with⟨h,_⟩|⟨j',v',h,_,cu⟩
     .rw[h]at hi;simp[aJ]at hi
     .rw[h]at hi;simp only[aJ,ar]at hi;subst hi;have bad:∀c:Pt,∀a b':Sc,aY c a b'≠(jh t b).1.A.flatMap dO:=λc a b' hh=>by
       have l1:=congrArg (λl=>List.head? l) hh;cases hq:(jh t b).1.A with|nil=>rw[hq]at l1;simp[aY]at l1|cons a A=>rw[hq]at l1;simp[dO,aY]at l1
      constructor
      .intro e;rw[e]at cu;have g:hg (K++(ae.own (aY t x y)::ae.own (aY fR .az .az)::X)) K.length=.own (aY t x y):=by simp[hg,bX]
       rw[g]at cu;exact bad _ _ _ cu
      .intro e;rw[e]at cu;have g:hg (K++(ae.own (aY t x y)::ae.own (aY fR .az .az)::X)) (K.length+1)=.own (aY fR .az .az):=by simp[hg,bX]
       rw[g]at cu;exact bad _ _ _ cu
    have h1:=hs (.own (aY t x y)) (.own (aY fR .az .az)) (.own (aY (jh t b).1 x' y)) (.own ((aY (jh t b).1 x' y).set 8 (.b true)));rw[<-h1,ej (Ne.symm ne.2),ej (Ne.symm ne.1)];have li:i<(K++(ae.own (aY t x y)::ae.own (aY fR .az .az)::X)).length:=by
     rcases dJ e3 with⟨h,_⟩|⟨j',v',h,hv,cu⟩
     .rw[h]at hi;simp[aJ]at hi
     .rw[h]at hi;simp only[aJ,ar]at hi;subst hi;rcases e2 with h5|⟨j,v,n,h5,h6⟩
      .rw[h5]at h;rw[h]at bx;have:j'<K.length:=by simpa[Sc.aj]using bx
       simp;omega
      .rcases cX j' (K++(ae.own (aY t x y)::ae.own (aY fR .az .az)::X)).length with hh|hh
       .exact hh
       .exfalso;rw[ur _ hh]at cu hv;have:(jh t b).1.A=[]:=by cases hq:(jh t b).1.A with
 |nil=>rfl|cons a A=>rw[hq]at cu;simp[ae.cells,ae.cW,dO]at cu
        have nz:0<(jh t b).1.A.length:=by
         unfold jh;split
         .have e9:jh t b=({t with lo:=true},false):=if_pos ‹_›;rw[e9]at this;have rp:0<C5 t:=by unfold C5;split<;>decide
          have:t.A.length=0:=by simp at this;simp[this]
          omega
         .simp
        rw[this]at nz;simp at nz
    rw[nC li]
   .show dh 1 iU _ y=some (jh t b).1.B;rw[hB];exact wO ok.hy bY
 .rename_i h0;split
  .rename_i h2;obtain⟨rfl,hq⟩:=h2;have wp:ga t 2#64 b=(yQ t b,true):=rfl;have qp:yQ t b={t with ff:=decide (¬cn b 1=0),A:=[]}:=by
    unfold yQ;rw[if_neg];intro hh;unfold IS at hq;rw[hh.1,decide_eq_true hh.2]at hq;exact absurd hq δ
   rw[wp,qp];exact⟨.az,y,_,rfl,.inr (.inl rfl),.inl rfl,rfl,wO ok.hy bY,rfl,Sc.ic bY (by simp)⟩
  .rename_i h2;have hA:(ga t off b).1.A=t.A/\(ga t off b).1.B=t.B:=by
    unfold ga;rw[if_neg h0];split
    .exact⟨rfl,rfl⟩
    split
    .rename_i h3;have hk:IS t b=true:=by
      cases hq:IS t b
      .exact absurd ⟨h3,hq⟩ h2
      .rfl
     unfold IS at hk;simp only[aQ,decide_eq_true_eq]at hk;have qp:yQ t b={t with ff:=decide (¬cn b 1=0)}:=by
      unfold yQ;rw[if_pos ⟨hk.1,hk.2⟩]
     rw[qp];exact⟨rfl,rfl⟩
    split
    .exact⟨rfl,rfl⟩
    .exact(Rn t .az .az off b).2
   refine⟨x,y,_,rfl,.inl rfl,.inl rfl,?_,?_,Sc.ic bx (by simp),Sc.ic bY (by simp)⟩
   .rw[hA.1];exact wO ok.hx bx
   .rw[hA.2];exact wO ok.hy bY
structure ag0(H:AH)(id:Nat)(t:Pt)(x y u v:Sc):Prop where
 pi:PI H id t x y
 rp:jm H t u v
 bu:u.aj H.length=true
 bv:v.aj H.length=true
 su:∀i,aJ u=some i->i≠id/\aJ x≠some i/\aJ y≠some i
 sv:∀i,aJ v=some i->i≠id/\aJ x≠some i/\aJ y≠some i
def zr:List Sc:=aY fR .az .az
def doF(id:Nat)(c:List Sc)(kd:Int)(off:BitVec 64)(b:Int)(H:AH):Option (AV×AH):=if kd=0 then match AB [.c (.p id 0 0),.c (.u off)] (H++[.own c,.own [.i kd,.u off,.k .u8 b],.own zr])with
 |some (.t [.c (.k .u8 v),.c (.b q)],K)=>match Ax [.g c,.c (.u off)] K with
    |some (.t [.g c',.c (.i v'),.c (.b q')],K2)=>some (.t [.g c',.c (.b (decide (v=v')&&(q==q')))],(K2++[ae.own c']).set (H.length+2) (.own c'))|_=>none
 |_=>none else if kd=1 then match Ay [.g c,.c (.u off),.c (.i b)] (H++[.own c,.own [.i kd,.u off,.k .u8 b],.own zr])with
 |some (.t [.g c',.c (.b q')],K)=>match AD [.c (.p id 0 0),.c (.u off),.c (.k .u8 b)] (K++[ae.own c'])with
    |some (.c (.b q),K2)=>some (.t [.g c',.c (.b (q==q'))],K2.set (H.length+2) (.own c'))|_=>none
 |_=>none else match Au [.g c,.c (.i b)] (H++[.own c,.own [.i kd,.u off,.k .u8 b],.own zr])with
 |some (.t [.g c',.c (.b q')],K)=>match Az [.c (.p id 0 0),.c (.k .u8 b)] (K++[ae.own c'])with
    |some (.c (.b q),K2)=>some (.t [.g c',.c (.b (q==q'))],K2.set (H.length+2) (.own c'))|_=>none
 |_=>none
open Classical in def aDi(args:List AV)(H:AH):Option (AV×AH):=match args with|[.c (.p id 0 0),.g c,.g [.i kd,.u off,.k .u8 b]]=>if(∃t x y u v,c=aY t u v/\ag0 H id t x y u v/\t.A.length<=1000000/\t.B.length<=1000000/\fG b)then doF id c kd off b H else none|_=>none
theorem nI(H:AH):dX H H:=λ_ _ _=>rfl
theorem fX{A B C:AH}(h:dX A B)(h':dX B C):dX A C:=λi h1 h2=>by
 have e:=h' i h1 h2;rw[<-e]at h1 h2;exact(h i h1 h2).trans e
theorem arE(h:o.live=true->o.owned=true):dX H (H++[o]):=λi h1 h2=>by
 rw[qO]at h1 h2|-;split at h1
 .rename_i e;rw[if_pos e]at h2;rw[h h1]at h2;simp at h2
 .rename_i e;rw[if_neg e]
theorem arF:∀{X:AH},(∀o∈X,o.live=true->o.owned=true)->dX H (H++X):=by
 intro X;induction X generalizing H with
 |nil=>intro _;rw[m7];exact nI H|cons o X ih=>
 intro h;rw[show H++o::X=(H++[o])++X by simp];exact fX (arE (h o (by simp))) (ih λo' ho=>h o' (by simp[ho]))
theorem jS(h:o.live=true->o.owned=true):dX H (H.set n o):=λi h1 h2=>by
 by_cases e:i=n
 .subst e;rcases cX i H.length with hl|hl
  .rw[iN hl]at h1 h2;rw[h h1]at h2;simp at h2
  .rw[List.set_eq_of_length_le hl]
 .rw[ej (Ne.symm e)]
theorem jb(h:(X.all λo=>o.live=false||o.owned)=true):dX H (H++X):=arF λo ho hl=>by
 have:=cE.1 h o ho;simp[hl]at this;exact this
theorem ot{p:Prop}{full:Array Oper}{i j:Nat}{A B:AH}(h:dX A B)(hl:loose full i j=true):¬(loose full i j=true/\dX A B)->p:=λk=>absurd ⟨hl,h⟩ k
theorem acY{H K:AH}{x b x':Sc}(h:xL H x b=some (x',K)):dX H K:=by
 unfold xL at h;repeat' split at h
 all_goals simp at h
 all_goals rw[<-h.2]
 .exact jb rfl
 .exact jS (λ_=>rfl)
theorem arG{H K:AH}{x x':Sc}(h:pX H x=some (x',K)):dX H K:=by
 unfold pX at h;repeat' split at h
 all_goals simp at h
 all_goals rw[<-h.2]
 all_goals exact jb rfl
theorem VB{a:List AV}{f:List AV->AH->Option (AV×AH)}(hf:∀a H v H1,f a H=some (v,H1)->dX H H1){v:AV}(h:okB (f a H)=some (v,H1)):dX H H1:=by
 obtain⟨s,h1,_⟩:=Vz h;exact hf _ _ _ _ h1
theorem ac4{a:List AV}{f:List AV->AH->Option (AV×AH)}(hf:∀a H v H1,f a H=some (v,H1)->dX H H1){v:AV}(h:IJ (f a H)=some (v,H1)):dX H H1:=by
 obtain⟨s,h1,_⟩:=VC h;exact hf _ _ _ _ h1
variable {args:List AV}
theorem acX{H K:AH}{v:AV}(h:wL args H=some (v,K)):dX H K:=by
 unfold wL at h;repeat' split at h
 all_goals simp at h
 .rw[<-h.2];exact jS λ_=>rfl
 .rename_i hp;rw[<-h.2];exact fX (acY hp) (jS λ_=>rfl)
theorem arB{H K:AH}{v:AV}(h:yZ args H=some (v,K)):dX H K:=by
 unfold yZ at h;repeat' split at h
 all_goals simp at h
 .rw[<-h.2];exact nI _
 .rw[<-h.2];exact nI _
 .rename_i hp;rw[<-h.2];exact fX (arG hp) (jS λ_=>rfl)
theorem arC{H K:AH}{v:AV}(h:za args H=some (v,K)):dX H K:=by
 unfold za at h;repeat' split at h
 all_goals simp at h
 all_goals rw[<-h.2];first|(split<;>first|exact nI _|exact jS λ_=>rfl)|exact nI _|exact jS λ_=>rfl
theorem arA{H K:AH}{v:AV}(h:yY args H=some (v,K)):dX H K:=by
 unfold yY at h;repeat' split at h
 all_goals simp at h
 all_goals rw[<-h.2];first|(split<;>first|exact nI _|exact jS λ_=>rfl)|exact nI _|exact jS λ_=>rfl
theorem ary{H K:AH}{v:AV}(h:AB args H=some (v,K)):dX H K:=by
 unfold AB at h;repeat' split at h
 all_goals first
 |exact VB (f:=yZ) (λ_ _ _ _=>arB) h|exact VB (f:=za) (λ_ _ _ _=>arC) h|exact VB (f:=yY) (λ_ _ _ _=>arA) h|(simp at h;done)|(simp at h;rw[<-h.2];exact nI _)
theorem arz{H K:AH}{v:AV}(h:yX args H=some (v,K)):dX H K:=by
 unfold yX at h;repeat' split at h
 all_goals simp at h
 .rename_i hp;rw[<-h.2];exact fX (acY hp) (jS λ_=>rfl)
 .rename_i hp _ _ _;rw[<-h.2];exact fX (acX hp) (jS λ_=>rfl)
theorem arx{H K:AH}{v:AV}(h:AA args H=some (v,K)):dX H K:=by
 unfold AA at h;repeat' split at h
 all_goals simp at h
 all_goals rw[<-h.2];exact jS λ_=>rfl
theorem arD{H K:AH}{v:AV}(h:AD args H=some (v,K)):dX H K:=by
 unfold AD at h;repeat' split at h
 all_goals first
 |exact ac4 (f:=yX) (λ_ _ _ _=>arz) h|exact ac4 (f:=AA) (λ_ _ _ _=>arx) h|(simp at h;done)|(simp at h;rw[<-h.2];exact nI _)|(simp at h;rw[<-h.2];exact jS λ_=>rfl)
theorem arw{H K:AH}{v:AV}(h:Az args H=some (v,K)):dX H K:=by
 unfold Az at h;repeat' split at h
 all_goals first|exact acX h|(simp at h;done)|(simp at h;rw[<-h.2];exact nI _)
theorem Vm{H K:AH}{v:AV}(h:yW args H=some (v,K)):dX H K:=by
 unfold yW at h;repeat' split at h
 all_goals simp at h
 all_goals rw[<-h.2];exact jb rfl
theorem aru{H K:AH}{v:AV}(h:Ax args H=some (v,K)):dX H K:=by
 unfold Ax at h;repeat' split at h
 all_goals simp at h
 all_goals rw[<-h.2];exact jb rfl
theorem art{H K:AH}{v:AV}(h:Au args H=some (v,K)):dX H K:=by
 unfold Au at h;repeat' split at h
 all_goals simp at h
 .rename_i hc;rw[<-h.2];exact fX (jb rfl) (fX (Vm hc) (jS λ_=>rfl))
 .rw[<-h.2];exact jb rfl
theorem arv{H K:AH}{v:AV}(h:Ay args H=some (v,K)):dX H K:=by
 unfold Ay at h;repeat' split at h
 all_goals simp at h
 all_goals rw[<-h.2]
 all_goals first
 | exact jb rfl
 | (rename_i hc;exact fX (jb rfl) (fX (Vm hc) (fX (jb (X:=[_]) rfl) (fX (jS λ_=>rfl) (jS λ_=>rfl)))))
 |(rename_i hc;refine fX (jb (X:=[_,_]) rfl) (fX (Vm hc) ?_);rw[<-fv];exact fX (jb (X:=[_]) rfl) (fX (jS λ_=>rfl) (jS λ_=>rfl)))
def aaY(t:Pt)(kd:Int)(off:BitVec 64)(b:Int):Pt:=if kd=0 then(fM t off).1 else if kd=1 then(ga t off b).1 else(pK t b).1
def xr(t t':Pt):Prop:=t'.A.length<=t.A.length+1/\t'.B.length<=t.B.length+1/\(fK t.A=true->fK t.B=true->fK t'.A=true/\fK t'.B=true)
theorem Oo(t:Pt):xr t t:=⟨ω,ω,λa b=>⟨a,b⟩⟩
theorem Oq{t t':Pt}(hA:t'.A=t.A)(hB:t'.B=t.B):xr t t':=⟨by rw[hA];omega,by rw[hB];omega,λa b=>⟨by rw[hA];exact a,by rw[hB];exact b⟩⟩
theorem Zt(h:fK A=true)(hb:fG b):fK (A++[b])=true:=by unfold fK at*;simp[h,hb,fJ]
theorem aaZ{t:Pt}(hb:fG b):xr t (jh t b).1:=by
 unfold jh;split
 .exact Oq rfl rfl
 .exact⟨by simp,by simp,λa c=>⟨Zt a hb,c⟩⟩
theorem al9(t:Pt):xr t (ug t).1:=by
 unfold ug;cases h:t.A with|nil=>exact Oo t|cons a A=>
   refine⟨?_,?_,λe f=>⟨?_,f⟩⟩
   .rw[h];simp<;>omega
   .simp
   .rw[h]at e;unfold fK at*;simp only[bK,aQ]at e;exact e.2
theorem HK{t:Pt}{kd:Int}(hb:fG b):xr t (aaY t kd off b):=by
 unfold aaY;split
 .unfold fM xX AJ;repeat' split
  all_goals first|exact al9 t|exact Oq rfl rfl
 split
 .unfold ga B3 yQ;repeat' split
  all_goals first
 |exact Oq rfl rfl|exact⟨by simp,by simp,λa c=>⟨a,Zt c hb⟩⟩|exact aaZ hb|exact⟨by simp,by simp,λa c=>⟨rfl,c⟩⟩|exact Oq (Rn t .az .az off b).2.1 (Rn t .az .az off b).2.2
 .unfold pK;split
  .exact aaZ hb
  .exact Oo t
theorem WJ{K:AH}{t:Pt}{x y:Sc}(n:nb t)(hx:dh 1 iU K x=some t.A)(hy:dh 1 iU K y=some t.B)(la:t.A.length<=1000000)(lb:t.B.length<=1000000):jm K t x y:=⟨hx,hy,n.e,n.l,n.m,n.s,n.dl,n.dm,la,lb⟩
def CS(H:AH)(u u':Sc):Prop:=∀i,aJ u'=some i->aJ u=some i\/H.length<=i
theorem aq9{H K:AH}{u u':Sc}(h:IF K u u')(hl:H.length<=K.length):CS H u u':=by
 rintro i hi;rcases h with rfl|rfl|⟨j,v,n,rfl,hj⟩
 .exact .inl hi
 .simp[aJ]at hi
 .simp only[aJ,ar]at hi;right;omega
theorem rj{u:Sc}(h:dh 1 iU H u=some A)(hb:u.aj H.length=true)(hi:aJ u=some i):i<H.length:=by
 rcases azU h with rfl|⟨j,v,n,rfl⟩
 .simp[aJ]at hi
 .simp only[aJ,ar]at hi;subst hi;simpa[Sc.aj]using hb
theorem azn(t u:Pt):BZ u t=GY t u:=by
 have f:∀a b:Bool,decide (f1 a=f1 b)=(b==a):=by intro a b;cases a<;>cases b<;>rfl
 have c:∀a b:Int,decide (a=b)=decide (b=a):=λa b=>decide_eq_decide.2 eq_comm;have d:∀a b:List Int,decide (a=b)=decide (b=a):=λa b=>decide_eq_decide.2 eq_comm;unfold BZ GY LV;rw[f,f,f,c u.e,c u.l,c u.m,c u.s,c u.dl,c u.dm,d u.A,d u.B];simp only[Bool.and_assoc]
theorem azp(t:Pt):BZ t t=true:=by unfold BZ LV;simp
end
end Go.Proofs.YtghlfboliomhcaaGreat
