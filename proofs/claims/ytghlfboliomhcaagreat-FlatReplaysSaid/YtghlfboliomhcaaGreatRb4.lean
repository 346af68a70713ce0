/- The reference's bits: what 'Bit' returns, for every input. -/
import Derived.Test.YtghlfboliomhcaaGreatRb3
import Derived.Test.YtghlfboliomhcaaGreatRb2
import Derived.RangeFuncNested
import Derived.RangeFuncBound
import Derived.RangeFuncCalls
import Derived.RangeFuncLeaves
import Derived.Shelf.Abstract
import Derived.Shelf.RegionOpen
import Derived.WalkKit
import Derived.OwnWalkIn
import Derived.TacticsInMore
import Derived.LoopNIn
import Derived.LoopIn
set_option maxRecDepth 100000
set_option maxHeartbeats 8000000
open And renaming intro->cf
open Array renaming getElem?_eq_some_iff->J1,replicate_succ->agT,replicate_zero->agU
open BitVec renaming eq_of_toNat_eq->mB,toNat_umod->zp,toNat_ushiftRight->Hc,toNat_ofNat->vB,toNat_udiv->wW,getLsbD_or->wT,getLsbD_shiftLeft->Fa,eq_of_getLsbD_eq->AR,ofInt->aw,toNat_ofInt->mf,getLsbD_and->sW,ofNat->kD,toNat_sub->zo,le_def->sY,lt_def->nP,toInt_eq_toNat_cond->x9,toNat_add->wU,shiftRight_add->Nx
open Bool renaming true_and->gG,and_true->c8,and_eq_true->aQ,not_eq_true'->gY,not_eq_false'->jj,not_eq_true->iM,not_eq_false->jk,or_eq_true->gj,false_eq_true->dL
open ByteArray renaming mk->vD
open Int renaming eq_ofNat_of_zero_le->kZ,zero_add->Cd,toNat_natCast->aL,reduceToNat->zq
open List renaming getD_eq_getElem?_getD->bX,all_eq_true->cE,range->pj,all_append->fJ,all_cons->bK,all_nil->dY,length_append->cj,length_cons->cT,length_nil->fa,append_assoc->fv,getElem?_eq_getElem->cP,set_set->yd,set_append_left->mg,append_nil->m7,cons_append->lf,nil_append->jW,drop_eq_getElem_cons->Dk,getElem?_eq_none->kf,flatMap_cons->rZ,all_flatMap->sZ,getElem?_set->rq,replicate->bD,take_length->vH,map_cons->gz,length_set->iR,getElem?_cons_zero->Hi,mem_cons->uT,mem_of_getElem?->Dq,getElem?_eq_some_iff->RG,getElem?_map->qL,mem_iff_getElem?->RJ,map_append->Hm,map_nil->jf,mem_singleton->wZ,mem_append->wY,pairwise_iff_getElem->Za,takeWhile_cons->agY,getElem?_append_right->s9,getElem?_append_left->uh,getElem?_take_of_lt->yb,take_succ_eq_append_getElem->Hp,getElem?_drop->td,take_append_drop->Ho,getElem?_of_mem->RH,getElem?_take->Hj,pairwise_append->agX,length_map->ui,length_replicate->NA,take_of_length_le->bQ,not_mem_nil->J9,append_toArray->agW,take_left'->nQ,take->bJ,drop->cQ
open List.cons renaming injEq->cL
open Nat renaming shiftRight_eq_div_pow->Hq,lt_or_ge->cX,min_eq_left->ye,add_comm->zu,zero_le->fT,le_refl->aB,zero_add->oF,sub_self->Dx,add_zero->ru,not_lt_zero->NC
open Option renaming map_some->pn,map_eq_some_iff->eE
open Option.some renaming injEq->ar
open Prod.mk renaming injEq->bE
namespace Go.Proofs.YtghlfboliomhcaaGreat
open Go.Am
set_option linter.all false
noncomputable section
def tj(w:BitVec 64)(i:Int):BitVec 64:=if 0<=i/\i<=63 then(if w.getLsbD i.toNat then 1#64 else 0#64)else 0#64
theorem afU(w:BitVec 64)(n:Nat):(w>>>n)%2#64=if w.getLsbD n then 1#64 else 0#64:=by
 apply mB;have h:w.getLsbD n=decide (w.toNat/2^n%2=1):=by simp only[BitVec.getLsbD,Nat.testBit_eq_decide_div_mod_eq]
 have h2:w.toNat/2^n%2<2:=Nat.mod_lt _ ω;simp only[zp,Hc,Hq,h,vB];by_cases hb:w.toNat/2^n%2=1
 .simp[hb]
 .have h0:w.toNat/2^n%2=0:=ω
  simp[h0]
theorem azH(w:BitVec 64)(n:Nat):(w>>>n)/2#64=w>>>(n+1):=by
 apply mB;have h2:(2#64).toNat=2:=rfl;simp only[wW,Hc,Hq,h2];rw[Nat.div_div_eq_div_mul,<-Nat.pow_succ]
def WU(args:List AV):Option AV:=match args with|[.c (.u w),.c (.i m)]=>some (.c (.u (tj w m)))|_=>none
theorem mX{w m}:WU [.c (.u w),.c (.i m)]=some (.c (.u (tj w m))):=rfl
theorem L0:cK Tryz.prog 191 WU:=by
 refine cR tn Tryz.func191 rfl Tryz.results191 Tryz.ntmps191 ?_;intro args v h;unfold WU at h;split at h
 .rename_i w m;simp only[ar]at h;subst h;refine⟨by simp,rfl,rfl,?_⟩;by_cases h1:m<0
  .have e:tj w m=0#64:=by unfold tj;rw[if_neg ω]
   simp(maxSteps:=9^9)only[go_sem,seval,h1,e]
  .by_cases h2:63<m
   .have e:tj w m=0#64:=by unfold tj;rw[if_neg ω]
    simp(maxSteps:=9^9)only[go_sem,seval,h1,h2,e]
   .obtain⟨n,rfl⟩:=kZ (by omega:0<=m);have e:tj w n=(w>>>n)%2#64:=by unfold tj;rw[if_pos ω,afU];rfl
    rw[e];simp(maxSteps:=9^9)only[go_sem,seval,h1,h2];rw[rz];refine⟨{k:Nat//k<=n},λk=>([(0,.c (.u (w>>>k.1))),(1,.c (.i n)),(5,.c (.i k.1))],[]),λk=>n-k.1,⟨0,ω⟩,?_,?_⟩
    .exact Wk.drop (by simp[Am.get]) rfl rfl rfl
    .rintro⟨k,hk⟩;by_cases aG:k<n
     .have e1:aA ((k:Int)+1)=((k+1:Nat):Int):=by rw[kC ω];omega
      have e2:((k:Int)<(n:Int))=True:=by simp;omega
      simp(maxSteps:=9^9)only[go_sem,seval,e1,e2];exact⟨⟨k+1,ω⟩,by simp;omega,Wk.drop (by simp[Am.get,azH]) rfl rfl rfl⟩
     .obtain rfl:k=n:=ω
      have e2:((k:Int)<(k:Int))=False:=by simp
      simp(maxSteps:=9^9)only[go_sem,seval,e2]
 .simp at h
structure eC(x:Int):Prop where
 lo:-9223372036854775808<=x
 hi:x<=9223372036854775807
instance (x:Int):Decidable (eC x):=decidable_of_iff (-9223372036854775808<=x/\x<=9223372036854775807) ⟨λh=>⟨h.1,h.2⟩,λh=>⟨h.1,h.2⟩⟩
def LY(g:Nat->Bool):Nat->BitVec 64|0=>0#64|k+1=>LY g k|||(if g k=true then 1#64<<<k else 0#64)
theorem asg(g:Nat->Bool)(k i:Nat)(hi:i<64):(LY g k).getLsbD i=(decide (i<k)&&g i):=by induction k with|zero=>simp[LY]|succ k ih=>
   simp only[LY,wT,ih];by_cases h:i=k
   .subst h;cases g i<;>simp[hi]
   .have e:decide (i<k+1)=decide (i<k):=by simp;omega
    rw[e];split
    .simp[Fa,BitVec.getLsbD_one,hi];omega
    .simp
theorem ac0(g:Nat->Bool):∃w:BitVec 64,∀i,i<64->w.getLsbD i=g i:=⟨LY g 64,λi hi=>by rw[asg _ _ _ hi];simp[hi]⟩
def mV(g:Nat->Bool):BitVec 64:=Classical.choose (ac0 g)
variable {g:Nat->Bool}{i:Nat}
theorem CW(hi:i<64):(mV g).getLsbD i=g i:=Classical.choose_spec (ac0 g) i hi
variable {w:BitVec 64}
theorem wv(h:∀i,i<64->w.getLsbD i=g i):w=mV g:=by
 apply AR;intro i hi;rw[h i hi,CW hi]
theorem aDc{h:Nat->Bool}(e:∀i,i<64->g i=h i):mV g=mV h:=wv λi hi=>by rw[CW hi,e i hi]
def pA(w:BitVec 64)(i:Int):Bool:=decide (0<=i)&&decide (i<=63)&&w.getLsbD i.toNat
def b2(b:Bool):BitVec 64:=if b=true then 1#64 else 0#64
theorem Sx{i:Int}:tj w i=b2 (pA w i):=by
 unfold tj pA b2;by_cases h:0<=i/\i<=63
 .rw[if_pos h];simp[h.1,h.2]
 .rw[if_neg h];have:(decide (0<=i)&&decide (i<=63))=false:=by simp;intro h0;omega
  rw[this];rfl
theorem ajk{w:BitVec 64}{i:Nat}(hi:i<64):pA w i=w.getLsbD i:=by unfold pA;simp;intro h;omega
theorem NV{i:Int}(h:i<0\/63<i):pA w i=false:=by
 unfold pA;have:(decide (0<=i)&&decide (i<=63))=false:=by simp;intro h0;omega
 rw[this];rfl
def xE(cJ size:Int)(i:Nat):Bool:=decide (cJ<=(i:Int)/\(i:Int)<cJ+size)
def IL(cJ size:Int):BitVec 64:=mV (xE cJ size)
def aEd(w:BitVec 64)(nV:Int):BitVec 64:=mV λi=>pA w (i-nV)
def Fs(w:BitVec 64)(cJ size:Int):BitVec 64:=mV λk=>decide ((k:Int)<size)&&pA w (cJ+k)
def awq(w:BitVec 64)(cJ size:Int)(n:BitVec 64):BitVec 64:=mV λi=>if xE cJ size i=true then pA n (i-cJ)else w.getLsbD i
def eH(w:BitVec 64)(size:Int):BitVec 64:=mV λi=>decide ((i:Int)<size)&&w.getLsbD i
def nM(w:BitVec 64)(size:Int):BitVec 64:=mV λi=>decide (1<=size)&&(if(i:Int)<size then w.getLsbD i else pA w (size-1))
def xU(cJ size:Int):Int:=if size<1 then 0 else if 63<cJ then 0 else if 0<=cJ then cJ else 0
def xV(cJ size:Int):Int:=if size<1 then 0 else if 63<cJ then 0 else if 0<=cJ then cJ+min size (64-cJ)else if cJ+size<=0 then 0 else min (cJ+size) 64
def Yc(args:List AV):Option AV:=match args with|[.c (.i a),.c (.i s)]=>if eC a/\eC s then some (.t [.c (.i (xU a s)),.c (.i (xV a s))])else none|_=>none
theorem afG{a s}:Yc [.c (.i a),.c (.i s)]=if eC a/\eC s then some (.t [.c (.i (xU a s)),.c (.i (xV a s))])else none:=rfl
theorem auA:cK Tryz.prog 179 Yc:=by
 refine cR tn Tryz.func179 rfl Tryz.results179 Tryz.ntmps179 ?_;intro args v h;unfold Yc at h;split at h
 .rename_i a s;split at h
  .rename_i hc;simp only[ar]at h;subst h;refine⟨by simp,rfl,rfl,?_⟩;obtain⟨⟨al,ah⟩,⟨sl,sh⟩⟩:=hc;by_cases h1:s<1
   .simp(maxSteps:=9^9)only[go_sem,seval,xU,xV,h1]
   .by_cases h2:63<a
    .simp(maxSteps:=9^9)only[go_sem,seval,xU,xV,h1,h2]
    .by_cases h3:0<=a
     .have e1:aA (64-a)=64-a:=kC ω;have e2:aA (a+min s (64-a))=a+min s (64-a):=kC ω;simp(maxSteps:=9^9)only[go_sem,seval,xU,xV,h1,h2,h3,e1,e2]
     .have e1:aA (a+s)=a+s:=kC ω;by_cases h4:a+s<=0
      .simp(maxSteps:=9^9)only[go_sem,seval,xU,xV,h1,h2,h3,h4,e1]
      .simp(maxSteps:=9^9)only[go_sem,seval,xU,xV,h1,h2,h3,h4,e1]
  .simp at h
 .simp at h
theorem azZ{a s:Int}:0<=xU a s/\xU a s<=63:=by unfold xU;split<;>(try split)<;>(try split)<;>omega
theorem az0{a s:Int}:0<=xV a s/\xV a s<=64:=by unfold xV;split<;>(try split)<;>(try split)<;>(try split)<;>omega
theorem az1{a s:Int}(hi:i<64):xE a s i=decide (xU a s<=(i:Int)/\(i:Int)<xV a s):=by
 unfold xE xU xV;apply decide_eq_decide.2;split<;>(try split)<;>(try split)<;>(try split)<;>omega
theorem II{n:Nat}(h:n<18446744073709551616):(aw 64 (n:Int)).toNat=n:=by rw[mf];omega
variable {t:Nat}
theorem au7{f:Nat}(h:f<t)(ht:t<=64)(i:Nat)(hi:i<64):((18446744073709551615#64>>>(64-(t-f)))<<<f).getLsbD i=decide (f<=i/\i<t):=by
 have e:18446744073709551615#64=BitVec.allOnes 64:=by decide
 rw[e,Fa,BitVec.getLsbD_ushiftRight,BitVec.getLsbD_allOnes];by_cases h1:i<f
 .simp[h1,hi];omega
 .by_cases h2:i<t
  .simp[h1,h2,hi];omega
  .simp[h1,h2,hi];omega
def XB(args:List AV):Option AV:=match args with|[.c (.i a),.c (.i s)]=>if eC a/\eC s then some (.c (.u (IL a s)))else none|_=>none
theorem ayG{a s}:XB [.c (.i a),.c (.i s)]=if eC a/\eC s then some (.c (.u (IL a s)))else none:=rfl
theorem atF:cK Tryz.prog 129 XB:=by
 refine cR (tu auA tn) Tryz.func129 rfl Tryz.results129 Tryz.ntmps129 ?_;intro args v h;unfold XB at h;split at h
 .rename_i a s;split at h
  .rename_i hc;simp only[ar]at h;subst h;refine⟨by simp,rfl,rfl,?_⟩;obtain⟨ia,is⟩:=hc;have bF:=@azZ a s;have bT:=@az0 a s;have hw:∀g:BitVec 64,(∀i:Nat,i<64->g.getLsbD i=decide (xU a s<=(i:Int)/\(i:Int)<xV a s))->g=IL a s:=λg hg=>wv λi hi=>by rw[hg i hi,az1 hi]
   obtain⟨f,hf⟩:=kZ bF.1;obtain⟨t,ht⟩:=kZ bT.1;rw[hf,ht]at hw;by_cases h:(t:Int)<=(f:Int)
   .have e:=hw 0#64 λi hi=>by simp;omega
    simp(maxSteps:=9^9)only[go_sem,seval,afG,ia,is,hf,ht,h,<-e]
   .have e:=hw _ λi hi=>by rw[au7 (f:=f) (t:=t) ω ω i hi];simp
    have e1:aA ((t:Int)-f)=((t-f:Nat):Int):=by rw[kC ω];omega
    have e2:aA (64-((t-f:Nat):Int))=((64-(t-f):Nat):Int):=by rw[kC ω];omega
    have e3:=II (n:=64-(t-f)) ω;have e4:=II (n:=f) ω;simp(maxSteps:=9^9)only[go_sem,seval,afG,ia,is,hf,ht,h,<-e,e1,e2,e3,e4]
  .simp at h
 .simp at h
theorem Kn{w:BitVec 64}{i:Nat}:pA w i=w.getLsbD i:=by
 rcases cX i 64 with h|h
 .exact ajk h
 .rw[NV ω,BitVec.getLsbD_of_ge _ _ h]
theorem aqu{s:Int}:w&&&IL 0 s=eH w s:=by
 refine wv λi hi=>?_;rw[sW,IL,CW hi];have e2:xE 0 s i=decide ((i:Int)<s):=by unfold xE;apply decide_eq_decide.2;omega
 rw[e2,Bool.and_comm]
def Qs(args:List AV):Option AV:=match args with|[.c (.u w),.c (.i s)]=>if eC s then some (.c (.u (eH w s)))else none|_=>none
theorem Jp{w s}:Qs [.c (.u w),.c (.i s)]=if eC s then some (.c (.u (eH w s)))else none:=rfl
theorem adp:cK Tryz.prog 82 Qs:=by
 refine cR (tu atF tn) Tryz.func82 rfl Tryz.results82 Tryz.ntmps82 ?_;intro args v h;unfold Qs at h;split at h
 .rename_i w s;split at h
  .rename_i hc;simp only[ar]at h;subst h;refine⟨by simp,rfl,rfl,?_⟩;have i0:eC 0:=⟨ω,ω⟩;simp(maxSteps:=9^9)only[go_sem,seval,ayG,hc,i0,aqu]
  .simp at h
 .simp at h
theorem azr{x:BitVec 64}{u:Nat}(h:u<=64):aw 64 (x.toInt/2^(min u 64))=x.sshiftRight u:=by
 rw[ye h];unfold BitVec.sshiftRight;rw[Int.shiftRight_eq_div_pow];simp
theorem azs{x:BitVec 64}{u i:Nat}(hi:i<64):(x.sshiftRight u).getLsbD i=if i+u<64 then x.getLsbD (i+u)else x.getLsbD 63:=by
 rw[BitVec.getLsbD_sshiftRight];have:decide (64<=i)=false:=by simp;omega
 simp only[this,Bool.not_false,gG,BitVec.msb_eq_getLsbD_last];rw[zu]
theorem azP{s:Int}(h:s<1):nM w s=0#64:=by
 refine(wv λi hi=>?_).symm;have:¬1<=s:=ω
 simp[this]
theorem afW{s:Int}(h:63<s):nM w s=w:=by
 refine(wv λi hi=>?_).symm;have h1:1<=s:=ω
 have h2:(i:Int)<s:=ω
 simp[h1,h2]
theorem azR{w:BitVec 64}{s:Nat}(h:1<=s)(h':s<=63):(w<<<(64-s)).sshiftRight (64-s)=nM w s:=by
 refine wv λi hi=>?_;rw[azs hi];have h1:(1:Int)<=s:=ω
 simp only[h1,decide_true,gG];by_cases h2:i<s
 .rw[if_pos ω,if_pos ω,Fa];have e:i+(64-s)-(64-s)=i:=ω
  have e2:i+(64-s)<64:=ω
  simp[e,e2]
 .rw[if_neg ω,if_neg ω,Fa];have e:((s:Int)-1)=((s-1:Nat):Int):=ω
  rw[e,Kn];have e2:63-(64-s)=s-1:=ω
  simp[e2];omega
def X8(args:List AV):Option AV:=match args with|[.c (.u w),.c (.i s)]=>if eC s then some (.c (.u (nM w s)))else none|_=>none
theorem M7{w s}:X8 [.c (.u w),.c (.i s)]=if eC s then some (.c (.u (nM w s)))else none:=rfl
theorem auv:cK Tryz.prog 126 X8:=by
 refine cR tn Tryz.func126 rfl Tryz.results126 Tryz.ntmps126 ?_;intro args v h;unfold X8 at h;split at h
 .rename_i w s;split at h
  .rename_i hc;simp only[ar]at h;subst h;refine⟨by simp,rfl,rfl,?_⟩;obtain⟨sl,sh⟩:=hc;by_cases h1:s<1
   .simp(maxSteps:=9^9)only[go_sem,seval,h1,azP h1]
   .by_cases h2:63<s
    .simp(maxSteps:=9^9)only[go_sem,seval,h1,h2,afW h2]
    .obtain⟨n,rfl⟩:=kZ (by omega:0<=s);have e1:aA (64-(n:Int))=((64-n:Nat):Int):=by rw[kC ω];omega
     have e2:=II (n:=64-n) ω;have e3:=azr (x:=w<<<(64-n)) (u:=64-n) ω;simp(maxSteps:=9^9)only[go_sem,seval,h1,h2,e1,e2,e3,azR (w:=w) (s:=n) ω ω]
  .simp at h
 .simp at h
def aEe(w:BitVec 64)(f:Nat):BitVec 64:=mV λi=>if i+f<64 then w.getLsbD (i+f)else w.getLsbD 63
def SJ:Sc->BitVec 64|.u x=>x|_=>0#64
def HD:Sc->Bool|.u _=>true|_=>false
theorem ajH{l:List Sc}{i:Nat}(h:l.all HD=true)(hi:i<l.length):l.getD i .any=.u (SJ (l.getD i .any)):=by
 have e:l.getD i .any=l[i]:=by simp[bX,hi]
 rw[e];have:=cE.1 h l[i] (List.getElem_mem hi);cases hl:l[i]<;>rw[hl]at this<;>simp[HD]at this;rfl
def Ai(l:List Sc):Nat->BitVec 64|0=>0#64|j+1=>2#64*Ai l j+SJ (l.getD (l.length-1-j) .any)
def Qu(args:List AV)(H:AH):Option AV:=match args with|[.c (.sl id 0 v n)]=>if n<=64/\n=(hg H id).cells.length/\v=(hg H id).row/\(hg H id).cells.all HD=true then some (.c (.u (Ai (hg H id).cells n)))else none|_=>none
theorem oD{id v n:Nat}{H:AH}:Qu [.c (.sl id 0 v n)] H=if n<=64/\n=(hg H id).cells.length/\v=(hg H id).row/\(hg H id).cells.all HD=true then some (.c (.u (Ai (hg H id).cells n)))else none:=rfl
theorem PR:bh Tryz.prog 192 (λargs H=>(Qu args H).map λv=>(v,H)):=by
 refine jo (s:=Qu) tn Tryz.func192 rfl Tryz.results192 Tryz.ntmps192 ?_;intro args H v h b9 hH;unfold Qu at h;split at h
 .rename_i id v n;split at h
  .rename_i hc;obtain⟨h1,h3,h4,h5⟩:=hc;simp only[ar]at h;subst h;generalize hl:(hg H id).cells=l at*;refine⟨by simp,rfl,?_⟩;have aD:id<H.length:=by simpa[AV.aj,Sc.aj]using b9
   have e0:aA ((n:Int)-1)=(n:Int)-1:=kC ω;simp(maxSteps:=9^9)only[go_sem,seval,e0];rw[rz];refine⟨{k:Nat//k<=n},λk=>([(0,.c (.sl id 0 v n)),(3,.c (.u (Ai l k.1))),(4,.c (.i (n-1-k.1)))],H),λk=>n-k.1,⟨0,ω⟩,?_,?_⟩
   .exact Wk.wk (by simp[lo]) (by simp[Am.get,Ai]) (by simp[AV.aj,Sc.aj,aD]) (aE _) hH
   .rintro⟨k,hk⟩;by_cases aG:k<n
    .have e1:aA ((n:Int)-1-(k:Int)-1)=(n:Int)-1-((k+1:Nat):Int):=by rw[kC ω];omega
     have e2:((0:Int)<=(n:Int)-1-(k:Int))=True:=by simp;omega
     have e3:((n:Int)-1-(k:Int)<64)=True:=by simp;omega
     have e5:((n:Int)-1-(k:Int)<(n:Int))=True:=by simp;omega
     have e4:((n:Int)-1-(k:Int)).toNat=n-1-k:=ω
     have e6:(n-1-k+1<=l.length)=True:=by simp;omega
     have e7:=ajH h5 (i:=n-1-k) ω;simp(maxSteps:=9^9)only[go_sem,seval,e1,e2,e3,e4,e5,e6,hl,<-h4];rw[e7];simp(maxSteps:=9^9)only[go_sem,seval,e1];exact⟨⟨k+1,ω⟩,by simp;omega,Wk.wk (by simp[lo]) (by simp[Am.get,Ai,h3]) (by simp[AV.aj,Sc.aj,aD]) (aE _) hH⟩
    .obtain rfl:k=n:=ω
     have e2:(0<=(k:Int)-1-(k:Int))=False:=by simp;omega
     simp(maxSteps:=9^9)only[go_sem,seval,e2];exact aE _
  .simp at h
 .simp at h
def rO(g:Nat->Bool)(k:Nat):List Sc:=(pj k).map λi=>.u (b2 (g i))
variable {k:Nat}
theorem uE:(rO g k).length=k:=by simp[rO]
theorem Ad:rO g (k+1)=rO g k++[.u (b2 (g k))]:=by simp[rO,List.range_succ]
theorem PE:(rO g k).all HD=true:=by simp[rO,HD]
theorem aqx(h:i<k):(rO g k).getD i .any=.u (b2 (g i)):=by simp[rO,bX,h]
variable {n:Nat}
theorem vh:(rO g k).all (Sc.aj n)=true:=by simp[rO,Sc.aj]
theorem dbl{c:Bool}(hi:i<64):(2#64*w+b2 c).getLsbD i=if i=0 then c else w.getLsbD (i-1):=by
 have h0:2#64*w=w<<<1:=by
  apply mB;rw[BitVec.toNat_mul,BitVec.toNat_shiftLeft,Nat.shiftLeft_eq,vB];congr 1;omega
 have h1:∀i,(b2 c).getLsbD i=(decide (i=0)&&c):=by
  intro i;unfold b2;cases c
  .simp
  .by_cases h:i=0
   .subst h;simp
   .simp[h]
 have h:(w<<<1)&&&b2 c=0#64:=by
  apply AR;intro i hi;rw[sW,Fa,h1];by_cases h:i=0
  .subst h;simp
  .simp[h]
 rw[h0,BitVec.add_eq_or_of_and_eq_zero _ _ h,wT,Fa,h1];by_cases h:i=0
 .subst h;simp
 .have h2:¬i<1:=ω
  simp[h,h2,hi]
theorem ac1(g:Nat->Bool)(n:Nat):∀j,j<=n->∀i,i<64->(Ai (rO g n) j).getLsbD i=(decide (i<j)&&g (n-j+i)):=by
 intro j;induction j with|zero=>intro _ i _;simp[Ai]|succ j ih=>
   intro hj i hi;simp only[Ai,uE];rw[aqx ω];simp only[SJ];rw[dbl hi];by_cases h:i=0
   .subst h;have e:n-1-j=n-(j+1)+0:=ω
    simp[e]
   .rw[if_neg h,ih ω _ ω];have e:n-j+(i-1)=n-(j+1)+i:=ω
    have e2:decide (i-1<j)=decide (i<j+1):=decide_eq_decide.2 ω;rw[e,e2]
theorem Vw(g:Nat->Bool):Ai (rO g 64) 64=mV g:=by
 refine wv λi hi=>?_;rw[ac1 g 64 64 ω i hi];simp[hi]
def wu(a s:Int)(b:Int):Int:=if a<=b/\b<a+s then min (b-a) 1000 else 0
def F6(a s:Int)(b:Int):Bool:=decide (a<=b/\b<a+s)
def XQ(args:List AV):Option AV:=match args with|[.c (.i a),.c (.i s),.c (.i b)]=>if eC a/\eC s/\(0<=b/\b<=63)then some (.t [.c (.i (wu a s b)),.c (.b (F6 a s b))])else none|_=>none
theorem EC{a s b}:XQ [.c (.i a),.c (.i s),.c (.i b)]=if eC a/\eC s/\(0<=b/\b<=63)then some (.t [.c (.i (wu a s b)),.c (.b (F6 a s b))])else none:=rfl
theorem aud:cK Tryz.prog 190 XQ:=by
 refine cR tn Tryz.func190 rfl Tryz.results190 Tryz.ntmps190 ?_;intro args v h;unfold XQ at h;split at h
 .rename_i a s b;split at h
  .rename_i hc;simp only[ar]at h;subst h;refine⟨by simp,rfl,rfl,?_⟩;obtain⟨⟨al,ah⟩,⟨sl,sh⟩,b0,b1⟩:=hc;by_cases h1:s<1
   .have e1:wu a s b=0:=if_neg ω;have e2:F6 a s b=false:=decide_eq_false ω;simp(maxSteps:=9^9)only[go_sem,seval,h1,e1,e2]
   .by_cases h2:b<a
    .have e1:wu a s b=0:=if_neg ω;have e2:F6 a s b=false:=decide_eq_false ω;simp(maxSteps:=9^9)only[go_sem,seval,h1,h2,e1,e2]
    .obtain⟨n,hn⟩:=kZ (by omega:0<=b-a);obtain⟨m,rfl⟩:=kZ (by omega:0<=s);have e0:aw 64 b-aw 64 a=kD 64 n:=by
      rw[<-BitVec.ofInt_natCast,<-hn];apply mB;rw[zo,mf,mf,mf];omega
     have e3:aw 64 (m:Int)=kD 64 m:=BitVec.ofInt_natCast ..;by_cases h3:m<=n
     .have e1:wu a m b=0:=if_neg ω;have e2:F6 a m b=false:=decide_eq_false ω;have e4:(kD 64 m<=kD 64 n)=True:=by simp[sY];omega
      simp(maxSteps:=9^9)only[go_sem,seval,h1,h2,e1,e2,e0,e3,e4]
     .have e2:F6 a m b=true:=decide_eq_true ω;have e4:(kD 64 m<=kD 64 n)=False:=by simp[sY];omega
      by_cases h5:1000<n
      .have e1:wu a m b=1000:=by unfold wu;rw[if_pos ω];omega
       have e5:(1000#64<kD 64 n)=True:=by simp[nP];omega
       simp(maxSteps:=9^9)only[go_sem,seval,h1,h2,e1,e2,e0,e3,e4,e5]
      .have e1:wu a m b=(n:Int):=by unfold wu;rw[if_pos ω];omega
       have e5:(1000#64<kD 64 n)=False:=by simp[nP];omega
       have e6:(kD 64 n).toInt=(n:Int):=by rw[x9];simp;omega
       simp(maxSteps:=9^9)only[go_sem,seval,h1,h2,e1,e2,e0,e3,e4,e5,e6]
  .simp at h
 .simp at h
theorem Fg{k:Nat}:tj w k=b2 (w.getLsbD k):=by rw[Sx,Kn]
def Oi(w:BitVec 64)(a s:Int)(k:Nat):Bool:=decide ((k:Int)<s)&&pA w (a+k)
def Bb(w:BitVec 64)(a:Int)(k i:Nat):BitVec 64:=b2 (decide (a+k<(i:Int))&&pA w (a+k))
theorem akR{a:Int}:Bb w a k 64=b2 (pA w (a+k)):=by
 unfold Bb;by_cases h:a+(k:Int)<64
 .have:a+(k:Int)<((64:Nat):Int):=ω
  rw[decide_eq_true this,gG]
 .rw[NV ω];simp
theorem akS{a s:Int}{k i:Nat}(h:xE a s i=true)(hk:wu a s i=k)(h6:k<64):Bb w a k (i+1)=b2 (w.getLsbD i):=by
 have h:a<=(i:Int)/\(i:Int)<a+s:=by simpa[xE]using h
 rw[wu,if_pos h]at hk;have e:a+(k:Int)=(i:Int):=ω
 unfold Bb;rw[e,Kn];have:(i:Int)<((i+1:Nat):Int):=ω
 rw[decide_eq_true this,gG]
theorem aaE{w:BitVec 64}{a s:Int}{k i:Nat}(hs:(k:Int)<s)(h6:k<64)(h:xE a s i=false\/wu a s i≠k):Bb w a k (i+1)=Bb w a k i:=by
 have cZ:a+(k:Int)≠(i:Int):=by
  intro e;have hp:xE a s i=true:=by unfold xE;exact decide_eq_true ω
  rcases h with h|h
  .rw[hp]at h;simp at h
  .apply h;rw[wu,if_pos ω];omega
 unfold Bb;have:decide (a+(k:Int)<((i+1:Nat):Int))=decide (a+(k:Int)<(i:Int)):=decide_eq_decide.2 ω;rw[this]
def XM(args:List AV):Option AV:=match args with|[.c (.u w),.c (.i a),.c (.i s)]=>if eC a/\eC s then some (.c (.u (Fs w a s)))else none|_=>none
theorem MZ{w a s}:XM [.c (.u w),.c (.i a),.c (.i s)]=if eC a/\eC s then some (.c (.u (Fs w a s)))else none:=rfl
theorem at6:cK Tryz.prog 149 XM:=by
 refine cR (tu aud (tq PR (tu L0 tn))) Tryz.func149 rfl Tryz.results149 Tryz.ntmps149 ?_;intro args v h;unfold XM at h;split at h
 .rename_i w a s;split at h
  .rename_i hc;simp only[ar]at h;subst h;refine⟨by simp,rfl,rfl,?_⟩;obtain⟨ia,is⟩:=hc;simp(maxSteps:=9^9)only[go_sem,seval,EC,oD,mX];rw[rz];refine⟨{k:Nat//k<=64},λk=>([(0,.c (.u w)),(1,.c (.i a)),(2,.c (.i s)),(7,.c (.sl 0 0 k.1 k.1)),(8,.c (.i k.1))],[.vec 1 (rO (Oi w a s) k.1)]),λk=>64-k.1,⟨0,ω⟩,?_,?_⟩
   .exact Wk.trans (Wk.nil 7 1 δ rfl (fT _)) (Wk.wk (fT _) (by simp[Am.get]) rfl ⟨.inr rfl,trivial⟩ rfl)
   .rintro⟨k,hk⟩;by_cases aG:k<64
    .have e1:aA ((k:Int)+1)=((k+1:Nat):Int):=by rw[kC ω];omega
     have e2:((k:Int)<64)=True:=by simp;omega
     have e5:(k+1)*8<=1099511627776:=ω
     have hg:Oi w a s k=(decide ((k:Int)<s)&&pA w (a+k)):=rfl;by_cases hs:(k:Int)<s
     .simp(maxSteps:=9^9)only[go_sem,seval,EC,oD,mX,e2,hs];rw[rz];refine⟨{i:Nat//i<=64},λi=>([(0,.c (.u w)),(1,.c (.i a)),(2,.c (.i s)),(7,.c (.sl 0 0 k k)),(8,.c (.i k)),(9,.c (.u (Bb w a k i.1))),(10,.c (.i i.1))],[.vec 1 (rO (Oi w a s) k)]),λi=>64-i.1,⟨0,ω⟩,?_,?_⟩
      .have h0:Bb w a k 0=0#64:=by
        unfold Bb;by_cases h:a+(k:Int)<((0:Nat):Int)
        .rw[NV ω];simp[b2]
        .rw[decide_eq_false h];rfl
       exact Wk.wk (fT _) (by simp[Am.get,h0]) rfl ⟨.inr rfl,trivial⟩ (by simp[ae.cells,ae.cW,vh])
      .rintro⟨i,hi⟩;by_cases oP:i<64
       .have d1:aA ((i:Int)+1)=((i+1:Nat):Int):=by rw[kC ω];omega
        have d2:((i:Int)<64)=True:=by simp;omega
        have d3:(0<=(i:Int))=True:=by simp
        have d4:((i:Int)<=63)=True:=by simp;omega
        have yA:F6 a s i=xE a s i:=rfl;cases hb:xE a s i
        .rw[hb]at yA;have hm:=aaE (w:=w) hs aG (.inl hb);simp(maxSteps:=9^9)only[go_sem,seval,EC,oD,mX,d1,d2,d3,d4,ia,is,yA];exact⟨⟨i+1,ω⟩,by simp;omega,Wk.wk (fT _) (by simp[Am.get,hm]) rfl ⟨.inr rfl,trivial⟩ (by simp[ae.cells,ae.cW,vh])⟩
        .rw[hb]at yA;by_cases hq:wu a s i=(k:Int)
         .have hm:=akS (w:=w) hb hq aG;simp(maxSteps:=9^9)only[go_sem,seval,EC,oD,mX,d1,d2,d3,d4,ia,is,yA,hq,Fg];exact⟨⟨i+1,ω⟩,by simp;omega,Wk.wk (fT _) (by simp[Am.get,hm]) rfl ⟨.inr rfl,trivial⟩ (by simp[ae.cells,ae.cW,vh])⟩
         .have hm:=aaE (w:=w) hs aG (.inr hq);simp(maxSteps:=9^9)only[go_sem,seval,EC,oD,mX,d1,d2,d3,d4,ia,is,yA,hq];exact⟨⟨i+1,ω⟩,by simp;omega,Wk.wk (fT _) (by simp[Am.get,hm]) rfl ⟨.inr rfl,trivial⟩ (by simp[ae.cells,ae.cW,vh])⟩
       .obtain rfl:i=64:=ω
        have d2:((64:Int)<64)=False:=by simp
        simp(maxSteps:=9^9)only[go_sem,seval,EC,oD,mX,d2,e1,e5,uE,akR];exact⟨⟨k+1,ω⟩,by simp;omega,Wk.wk (fT _) (by simp[Am.get]) rfl ⟨.inr (by simp[Ad,hg,hs]),trivial⟩ (by simp[ae.cells,ae.cW,vh])⟩
     .simp(maxSteps:=9^9)only[go_sem,seval,EC,oD,mX,e1,e2,hs,e5,uE];exact⟨⟨k+1,ω⟩,by simp;omega,Wk.wk (fT _) (by simp[Am.get]) rfl ⟨.inr (by simp[Ad,hg,hs,b2]),trivial⟩ (by simp[ae.cells,ae.cW,vh])⟩
    .obtain rfl:k=64:=ω
     have e2:((64:Int)<64)=False:=by simp
     have e6:mV (Oi w a s)=Fs w a s:=rfl;simp(maxSteps:=9^9)only[go_sem,seval,EC,oD,mX,e2,uE,PE,Vw,e6]
  .simp at h
 .simp at h
def Yq(w:BitVec 64)(s:Int)(i:Nat):Bool:=decide (1<=s)&&(if(i:Int)<s then w.getLsbD i else pA w (s-1))
def X5(args:List AV):Option AV:=match args with|[.c (.u w),.c (.i s)]=>if eC s then some (.c (.u (nM w s)))else none|_=>none
theorem xP{w s}:X5 [.c (.u w),.c (.i s)]=if eC s then some (.c (.u (nM w s)))else none:=rfl
theorem VP:cK Tryz.prog 151 X5:=by
 refine cR (tq PR (tu L0 tn)) Tryz.func151 rfl Tryz.results151 Tryz.ntmps151 ?_;intro args v h;unfold X5 at h;split at h
 .rename_i w s;split at h
  .rename_i hc;simp only[ar]at h;subst h;refine⟨by simp,rfl,rfl,?_⟩;obtain⟨sl,sh⟩:=hc;by_cases h1:s<1
   .have e:nM w s=0#64:=by
     refine(wv λi hi=>?_).symm;have:¬1<=s:=ω
     simp[this]
    simp(maxSteps:=9^9)only[go_sem,seval,oD,mX,h1,e]
   .have H6:1<=s:=ω
    have e0:aA (s-1)=s-1:=kC ω;simp(maxSteps:=9^9)only[go_sem,seval,oD,mX,h1];rw[rz];refine⟨{k:Nat//k<=64},λk=>([(0,.c (.u w)),(1,.c (.i s)),(5,.c (.sl 0 0 k.1 k.1)),(6,.c (.i k.1))],[.vec 1 (rO (Yq w s) k.1)]),λk=>64-k.1,⟨0,ω⟩,?_,?_⟩
    .exact Wk.trans (Wk.nil 5 1 δ rfl (fT _)) (Wk.wk (fT _) (by simp[Am.get]) rfl ⟨.inr rfl,trivial⟩ rfl)
    .rintro⟨k,hk⟩;by_cases aG:k<64
     .have e1:aA ((k:Int)+1)=((k+1:Nat):Int):=by rw[kC ω];omega
      have e2:((k:Int)<64)=True:=by simp;omega
      have e5:(k+1)*8<=1099511627776:=ω
      have hg:Yq w s k=(decide (1<=s)&&(if(k:Int)<s then w.getLsbD k else pA w (s-1))):=rfl;by_cases hs:(k:Int)<s
      .simp(maxSteps:=9^9)only[go_sem,seval,oD,mX,e0,e1,e2,e5,hs,uE,Fg];exact⟨⟨k+1,ω⟩,by simp;omega,Wk.wk (fT _) (by simp[Am.get]) rfl ⟨.inr (by simp[Ad,hg,hs,H6]),trivial⟩ (by simp[ae.cells,ae.cW,vh])⟩
      .simp(maxSteps:=9^9)only[go_sem,seval,oD,mX,e0,e1,e2,e5,hs,uE,Sx];exact⟨⟨k+1,ω⟩,by simp;omega,Wk.wk (fT _) (by simp[Am.get]) rfl ⟨.inr (by simp[Ad,hg,hs,H6]),trivial⟩ (by simp[ae.cells,ae.cW,vh])⟩
     .obtain rfl:k=64:=ω
      have e2:((64:Int)<64)=False:=by simp
      have e6:mV (Yq w s)=nM w s:=rfl;simp(maxSteps:=9^9)only[go_sem,seval,oD,mX,e2,uE,PE,Vw,e6]
  .simp at h
 .simp at h
variable {H:AH}
theorem Wk.same{fr eh:Fr}(h:∀s,Am.get eh s=Am.get fr s):Wk n fr H (eh,H):=λρ _ _ h1 h2=>⟨ρ,λs=>by rw[h s];exact h1 s,h2,λi _ hi hL _=>⟨i,hi,hL⟩,λ_ _=>rfl⟩
variable {o:ae}
theorem aje(hH:dF H=true)(ho:o.cW.all (Sc.aj (H.length+1))=true):dF (H++[o])=true:=by
 simp only[dF,fJ,bK,dY,c8,aQ,cj,cT,fa];refine⟨cE.2 λx hx=>cE.2 λs hs=>?_,ho⟩;have:=cE.1 (cE.1 hH x hx) s hs;exact Sc.ic this ω
def G6(w:Nat)(H:AH):Sc->Option (Nat×List Sc×Nat)
 |.az=>some (H.length,[],0)|.sl id off v n=>match hg H id with
   |.vec z cs=>if off=0/\v=cs.length/\z=w/\cs.length=n*w then some (id,cs,n)else none|_=>none
 |_=>none
def rV(w:Nat)(H:AH)(l0:Sc)(m:List Sc):AH:=match l0 with|.sl id _ _ _=>H.set id (.vec w m)|_=>H++[.vec w m]
theorem agt{w:Nat}:G6 w H .az=some (H.length,[],0):=rfl
theorem Rg{w:Nat}{m:List Sc}:rV w H .az m=H++[.vec w m]:=rfl
theorem aBz{w id a b c:Nat}{H:AH}{m:List Sc}:rV w H (.sl id a b c) m=H.set id (.vec w m):=rfl
theorem aBy{w id n v:Nat}{H:AH}{cs:List Sc}(h:hg H id=.vec w cs)(hl:cs.length=n*w)(hv:v=cs.length):G6 w H (.sl id 0 v n)=some (id,cs,n):=by
 subst hv;simp[G6,h,hl]
structure ag9(w:Nat)(H:AH)(l0:Sc)(HH:List Sc->AH)(id:Nat)(cs:List Sc)(k:Nat):Prop where
 an2:∀m,hg (HH m) id=.vec w m
 get:∀m X,hg (HH m++X) id=.vec w m
 azx:∀m m',(HH m).set id (.vec w m')=HH m'
 set:∀m m' X,(HH m++X).set id (.vec w m')=HH m'++X
 iO:∀m,id<(HH m).length
 ge:∀m,H.length<=(HH m).length
 aj:∀m,m.all Sc.pf=true->dF (HH (cs++m))=true
 start:∀fr d,Am.get fr d=.c l0->Wk H.length fr H ((d,.c (.sl id 0 cs.length k))::fr,HH cs)len:cs.length=k*w
theorem CZ{m:List Sc}(n:Nat)(h:m.all Sc.pf=true):m.all (Sc.aj n)=true:=by
 rw[cE]at h|-;intro x hx;have:=h x hx;cases x<;>simp_all[Sc.pf,Sc.aj]
variable {l0:Sc}
theorem aBB{w:Nat}{id k:Nat}{cs:List Sc}(hw:0<w)(hH:dF H=true)(h:G6 w H l0=some (id,cs,k)):ag9 w H l0 (rV w H l0) id cs k:=by
 cases l0<;>simp only[G6]at h<;>try(simp at h;done)
 .obtain⟨rfl,rfl,rfl⟩:H.length=id/\[]=cs/\0=k:=by simpa using h
  refine⟨λm=>?_,λm X=>?_,λm m'=>?_,λm m' X=>?_,λm=>?_,λm=>?_,λm hm=>?_,λfr d hd=>?_,?_⟩
  .exact km
  .simp only[rV,fv];exact km
  .simp only[rV];exact zd
  .simp only[rV,fv];exact zd
  .simp[rV]
  .simp[rV]
  .exact aje hH (CZ _ hm)
  .exact Wk.nil d w hw hd (aB _)
  .simp
 .rename_i qi off v n;split at h
  .rename_i z xo hz;split at h
   .rename_i hc;obtain⟨rfl,rfl,rfl,hl⟩:=hc;obtain⟨rfl,rfl,rfl⟩:qi=id/\xo=cs/\n=k:=by simpa using h
    have iO:qi<H.length:=eu (by rw[hz];rfl);have aoL:H.set qi (.vec z xo)=H:=by
     have:H[qi]=.vec z xo:=by rw[<-hz];unfold hg;rw[bX,cP iO];rfl
     rw[<-this,List.set_getElem_self]
    refine⟨λm=>?_,λm X=>?_,λm m'=>?_,λm m' X=>?_,λm=>?_,λm=>?_,λm hm=>?_,λfr d hd=>?_,hl⟩
    .exact iN iO
    .simp only[rV];rw[cB (by simpa using iO)];exact iN iO
    .simp only[rV,yd]
    .simp only[rV];rw[mg _ _ (by simpa using iO),yd]
    .simpa[rV]using iO
    .simp[rV]
    .refine Su hH ?_;show(xo++m).all _=true;rw[fJ,aQ];refine⟨?_,CZ _ hm⟩;have hm:ae.vec z xo∈H:=by rw[<-hz];unfold hg;rw[bX,cP iO];simp
     exact cE.1 hH _ hm
    .simp only[rV];rw[aoL];refine Wk.same λs=>?_;by_cases e:d=s
     .subst e;rw[hd];simp[Am.get]
     .simp[Am.get,e]
   .simp at h
  .simp at h
def room(v:BitVec 64):Nat:=4096-v.toNat%4096
def dK(c s:Int):Bool:=decide (1<=s/\s<=8/\0<=c/\c<s)
def Ya(args:List AV):Option AV:=match args with|[.g [.u a,.u n,.i c,.i s]]=>some (.c (.b (dK c s)))|_=>none
theorem Yb{a n c s}:Ya [.g [.u a,.u n,.i c,.i s]]=some (.c (.b (dK c s))):=rfl
theorem auy:cK Tryz.prog 199 Ya:=by
 refine cR tn Tryz.func199 rfl Tryz.results199 Tryz.ntmps199 ?_;intro args v h;unfold Ya at h;split at h
 .rename_i a n c s;simp only[ar]at h;subst h;refine⟨by simp,rfl,rfl,?_⟩;by_cases h1:1<=s;all_goals by_cases h2:s<=8
  all_goals by_cases h3:0<=c
  all_goals by_cases h4:c<s
  all_goals simp(maxSteps:=9^9)only[go_sem,seval,dK,h1,h2,h3,h4,and_false,false_and]
 .simp at h
def X9(args:List AV):Option AV:=match args with|[.c (.u v)]=>some (.c (.u (v/64#64)))|_=>none
theorem QH{v}:X9 [.c (.u v)]=some (.c (.u (v/64#64))):=rfl
theorem auw:cK Tryz.prog 175 X9:=by
 refine cR tn Tryz.func175 rfl Tryz.results175 Tryz.ntmps175 ?_;intro args v h;unfold X9 at h;split at h
 .rename_i v;simp only[ar]at h;subst h;refine⟨by simp,rfl,rfl,?_⟩;simp(maxSteps:=9^9)only[go_sem,seval]
 .simp at h
def aAg(v:BitVec 64)(s:Int):Int:=if s<1 then 0 else(v/64#64%aw 64 s).toInt
def left(a:BitVec 64):Nat:=64-a.toNat%64
def pM(a:BitVec 64)(n s:Int):List Sc:=if n<=(left a:Int)then[.u a,.i n,.i s]else[.u a,.i (left a),.i s,.u (a+aw 64 (left a)),.i (n-left a),.i (s+8*left a)]
def oA(a:BitVec 64)(n:Int):Nat:=if n<=(left a:Int)then 1 else 2
theorem Vh(v:BitVec 64):(v%64#64).toInt=((v.toNat%64:Nat):Int):=by
 rw[x9,zp];have e:(64#64).toNat=64:=rfl;rw[e,if_pos ω]
def GW(args:List AV)(H:AH):Option (AV×AH):=match args with
 |[.c l0,.c (.u a),.c (.i n),.c (.i s)]=>if 1<=n/\n<=8/\0<=s/\s<=64 then match G6 3 H l0 with|some (id,cs,k)=>if k<=1000 then some (.c (.sl id 0 (cs.length+3*oA a n) (k+oA a n)),rV 3 H l0 (cs++pM a n s))else none|none=>none else none|_=>none
theorem JC{a:BitVec 64}{n s:Int}{id k:Nat}{cs:List Sc}(h:1<=n/\n<=8/\0<=s/\s<=64)(hv:G6 3 H l0=some (id,cs,k))(hk:k<=1000):GW [.c l0,.c (.u a),.c (.i n),.c (.i s)] H=some (.c (.sl id 0 (cs.length+3*oA a n) (k+oA a n)),rV 3 H l0 (cs++pM a n s)):=by simp only[GW,h,hv,hk,and_self,if_true]
theorem UT(args:List AV)(H:AH)(v:AV)(H1:AH)(h:GW args H=some (v,H1)):H.length<=H1.length:=by
 unfold GW at h;split at h
 .rename_i l0 a n s;split at h
  .split at h
   .split at h
    .simp only[ar,bE]at h;rw[<-h.2];unfold rV;split<;>simp
    .simp at h
   .simp at h
  .simp at h
 .simp at h
theorem aur:bh Tryz.prog 200 GW:=by
 refine gJ (s:=GW) tn Tryz.func200 rfl Tryz.results200 Tryz.ntmps200 UT ?_;intro args H v H1 h b9 hH;unfold GW at h;split at h
 .rename_i l0 a n s;split at h
  .rename_i hc;obtain⟨hn1,hn8,hs0,aC4⟩:=hc;split at h
   .rename_i id cs k0 hv;split at h
    .rename_i hk0;simp only[ar,bE]at h;obtain⟨rfl,rfl⟩:=h;have V:=aBB δ hH hv;generalize rV 3 H l0=HH at V;have g0:=V.an2;have g1:=V.get;have g2:=V.azx;have g3:=V.set;have DR:=V.len;refine⟨by simp,?_⟩;have d1:aA (64-((a.toNat%64:Nat):Int))=(left a:Int):=by rw[kC ω];unfold left;omega
     have d2:1<=left a/\left a<=64:=by unfold left;omega
     have d3:((k0+1)*24<=1099511627776)=True:=eq_true ω;have S3:((k0+1+1)*24<=1099511627776)=True:=eq_true ω;simp(maxSteps:=9^9)only[go_sem,seval];rw[rz];by_cases hb:n<=(left a:Int)
     .have e1:min n (left a:Int)=n:=ω
      have hp:pM a n s=[.u a,.i n,.i s]:=by simp only[pM,hb,if_true]
      have hq:oA a n=1:=by simp only[oA,hb,if_true]
      have e2:(0<n)=True:=eq_true ω;have e3:aA (n-n)=0:=by rw[kC ω];omega
      have e4:(cs.length=k0*3)=True:=eq_true DR;have Bm:=V.aj [.u a,.i n,.i s] rfl;have sr:=V.aj [] rfl;rw[m7]at sr;refine⟨Bool,λk=>if k=true then([(0,.c (.sl id 0 cs.length k0)),(1,.c (.u a)),(2,.c (.i n)),(3,.c (.i s))],HH cs)else([(0,.c (.sl id 0 (cs.length+3) (k0+1))),(2,.c (.i 0))],HH (cs++[.u a,.i n,.i s])),λk=>k.toNat,true,?_,?_⟩
      .exact Wk.trans (V.start _ 0 (by simp[Am.get])) (Wk.wk (V.ge _) (by simp[Am.get]) (by simp[AV.aj,Sc.aj,V.iO]) (aE _) sr)
      .rintro(_|_)
       .simp(maxSteps:=9^9)only[go_sem,seval,hp,hq];exact⟨_,rfl,Wk.wk (V.ge _) (by simp[Am.get]) (by simp[AV.aj,Sc.aj,V.iO]) (aE _) Bm⟩
       .simp(maxSteps:=9^9)only[go_sem,seval,Vh,d1,d3,S3,e1,e2,e3,e4,g0,g1,g2,g3];exact⟨false,δ,Wk.wk (V.ge _) (by simp[Am.get]) (by simp[AV.aj,Sc.aj,V.iO]) (aC _ _) Bm⟩
     .obtain⟨m,hm⟩:∃m,left a=m:=⟨_,rfl⟩;have hp:pM a n s=[.u a,.i m,.i s,.u (a+aw 64 m),.i (n-m),.i (s+8*m)]:=by unfold pM;rw[if_neg hb,hm]
      have hq:oA a n=2:=by simp only[oA,hb,if_false]
      rw[hm]at d1 d2 hb;have e1:min n (m:Int)=m:=ω
      have e2:(0<n)=True:=eq_true ω;have e3:aA (n-m)=n-m:=kC ω;have e4:(cs.length=k0*3)=True:=eq_true DR;have e5:aA (s+aA (8*(m:Int)))=s+8*m:=by rw[kC (n:=8*(m:Int)) ω];exact kC ω
      have e6:aA (n-m-(n-m))=0:=by rw[kC ω];omega
      have e7:(cs.length+3=(k0+1)*3)=True:=eq_true ω;have e8:(0<n-m)=True:=eq_true ω;have d4:(a+aw 64 (m:Int)).toNat%64=0:=by
       have e0:(aw 64 (m:Int)).toNat=m:=II ω;rw[wU,e0,<-hm];unfold left;omega
      have d5:aA 64=64:=by decide
      have d6:min (n-(m:Int)) 64=n-m:=ω
      have vd:=V.aj [.u a,.i m,.i s,.u (a+aw 64 m),.i (n-m),.i (s+8*m)] rfl;have Bm:=V.aj [.u a,.i m,.i s] rfl;have sr:=V.aj [] rfl;rw[m7]at sr;refine⟨Option Bool,λk=>(match k with|none=>([(0,.c (.sl id 0 (cs.length+6) (k0+2))),(2,.c (.i 0))],HH (cs++[.u a,.i m,.i s,.u (a+aw 64 m),.i (n-m),.i (s+8*m)]))|some true=>([(0,.c (.sl id 0 cs.length k0)),(1,.c (.u a)),(2,.c (.i n)),(3,.c (.i s))],HH cs)|some false=>([(0,.c (.sl id 0 (cs.length+3) (k0+1))),(1,.c (.u (a+aw 64 m))),(2,.c (.i (n-m))),(3,.c (.i (s+8*m)))],HH (cs++[.u a,.i m,.i s]))),λk=>(match k with|none=>0|some true=>2|some false=>1),some true,?_,?_⟩
      .exact Wk.trans (V.start _ 0 (by simp[Am.get])) (Wk.wk (V.ge _) (by simp[Am.get]) (by simp[AV.aj,Sc.aj,V.iO]) (aE _) sr)
      .rintro(_|_|_)
       .simp(maxSteps:=9^9)only[go_sem,seval,hp,hq];exact⟨_,rfl,Wk.wk (V.ge _) (by simp[Am.get]) (by simp[AV.aj,Sc.aj,V.iO]) (aE _) vd⟩
       .simp(maxSteps:=9^9)only[go_sem,seval,Vh,d1,d3,S3,d4,d5,d6,e1,e2,e3,e4,e5,e6,e7,e8,g0,g1,g2,g3];exact⟨none,δ,Wk.wk (V.ge _) (by simp[Am.get]) (by simp[AV.aj,Sc.aj,V.iO]) (aC _ _) vd⟩
       .simp(maxSteps:=9^9)only[go_sem,seval,Vh,d1,d3,S3,e1,e2,e3,e4,e5,g0,g1,g2,g3];exact⟨some false,δ,Wk.wk (V.ge _) (by simp[Am.get]) (by simp[AV.aj,Sc.aj,V.iO]) (aC _ _) Bm⟩
    .simp at h
   .simp at h
  .simp at h
 .simp at h
def DA(a b:BitVec 64)(c s:Int):List Sc:=if dK c s=true then(if c=0 then pM a s 0 else pM a c 0++pM b (s-c) (8*c))else[]
def AZ(a b:BitVec 64)(c s:Int):Nat:=if dK c s=true then(if c=0 then oA a s else oA a c+oA b (s-c))else 0
theorem avY{a:BitVec 64}{n s:Int}:(pM a n s).length=3*oA a n:=by unfold pM oA;split<;>rfl
theorem avU{a:BitVec 64}{n:Int}:1<=oA a n/\oA a n<=2:=by unfold oA;split<;>omega
def Ju(args:List AV)(H:AH):Option (AV×AH):=match args with|[.g [.u a,.u b,.i c,.i s]]=>if dK c s=true then some (.c (.sl (H.length+1) 0 (3*AZ a b c s) (AZ a b c s)),H++[.dead,.vec 3 (DA a b c s)])else some (.c .az,H)|_=>none
variable {a b:BitVec 64}{c:Int}
theorem Qv{s:Int}:Ju [.g [.u a,.u b,.i c,.i s]] H=if dK c s=true then some (.c (.sl (H.length+1) 0 (3*AZ a b c s) (AZ a b c s)),H++[.dead,.vec 3 (DA a b c s)])else some (.c .az,H):=rfl
theorem apU(args:List AV)(H:AH)(v:AV)(H1:AH)(h:Ju args H=some (v,H1)):H.length<=H1.length:=by
 unfold Ju at h;split at h
 .split at h;all_goals simp only[ar,bE]at h
  all_goals rw[<-h.2]
  all_goals simp
 .simp at h
theorem VZ{n s:Int}:(pM a n s).all Sc.pf=true:=by unfold pM;split<;>rfl
theorem agb(H:AH)(x y:ae):qz (H++[.dead,y]) (H++[x,y]):=by induction H with|nil=>exact⟨.inl rfl,.inr rfl,trivial⟩|cons o r ih=>exact⟨.inr rfl,ih⟩
theorem ZY(hH:dF H=true)(ho:o.cW.all (Sc.aj (H.length+2))=true):dF (H++[.dead,o])=true:=by
 simp only[dF,fJ,bK,dY,c8,aQ,cj,cT,fa];refine⟨cE.2 λx hx=>cE.2 λs hs=>?_,rfl,ho⟩;have:=cE.1 (cE.1 hH x hx) s hs;exact Sc.ic this ω
theorem atI:bh Tryz.prog 173 Ju:=by
 refine gJ (s:=Ju) (tu auy (tp aur tn)) Tryz.func173 rfl Tryz.results173 Tryz.ntmps173 apU ?_;intro args H v H1 h b9 hH;unfold Ju at h;split at h
 .rename_i a b c s;split at h
  .rename_i hm;simp only[ar,bE]at h;obtain⟨rfl,rfl⟩:=h;refine⟨by simp,?_⟩;have jR:1<=s/\s<=8/\0<=c/\c<s:=by simpa[dK]using hm
   by_cases hc:c=0
   .subst hc;have r:=JC (H:=H++[.own [.u a,.u b,.i 0,.i s]]) (l0:=.az) (a:=a) (n:=s) (s:=0) ω agt ω;have n1:AZ a b 0 s=oA a s:=by simp only[AZ,hm,if_true]
    have n2:DA a b 0 s=pM a s 0:=by simp only[DA,hm,if_true]
    simp(maxSteps:=9^9)only[go_sem,seval,Yb,JC,hm,r];exact⟨_,rfl,Wk.wk (by simp[lo]) (by simp[Am.get,n1]) (by simp[AV.aj,Sc.aj]) (by rw[Rg,n2,fv];exact agb H _ _) (by rw[n2];exact ZY hH (CZ _ VZ))⟩
   .have r:=JC (H:=H++[.own [.u a,.u b,.i c,.i s]]) (l0:=.az) (a:=a) (n:=c) (s:=0) ω agt ω;have f1:(H++[ae.own [.u a,.u b,.i c,.i s]]).length=H.length+1:=by simp
    have pa:=@avU a c;have la:=@avY a c 0;have e1:aA (s-c)=s-c:=kC ω;have e2:aA (8*c)=8*c:=kC ω;have n1:AZ a b c s=oA a c+oA b (s-c):=by simp only[AZ,hm,hc,if_true,if_false]
    have n2:DA a b c s=pM a c 0++pM b (s-c) (8*c):=by simp only[DA,hm,hc,if_true,if_false]
    have r2:=JC (H:=rV 3 (H++[.own [.u a,.u b,.i c,.i s]]) .az ([]++pM a c 0)) (l0:=.sl (H.length+1) 0 (3*oA a c) (oA a c)) (a:=b) (n:=s-c) (s:=8*c) (id:=H.length+1) (cs:=pM a c 0) (k:=oA a c) ω (aBy (by rw[Rg,fv];exact gM) ω la.symm) ω;rw[aBz,Rg,fv,xS]at r2;simp only[lf,jW,List.set_cons_succ,List.set_cons_zero]at r2;simp(maxSteps:=9^9)only[go_sem,seval,Yb,JC,hm,hc,r,Rg,e1,e2,r2];exact⟨δ,_,rfl,Wk.wk (by simp[lo]) (by simp[Am.get,n1,la];omega) (by simp[AV.aj,Sc.aj]) (by rw[n2];exact agb H _ _) (by rw[n2];exact ZY hH (CZ _ (by show(pM a c 0++pM b (s-c) (8*c)).all Sc.pf=true;rw[fJ,aQ];exact⟨VZ,VZ⟩)))⟩
  .rename_i hm;simp only[ar,bE]at h;obtain⟨rfl,rfl⟩:=h;refine⟨by simp,?_⟩;simp(maxSteps:=9^9)only[go_sem,seval,Yb,JC,hm];exact⟨_,rfl,Wk.wk (by simp[lo]) (by simp[Am.get]) rfl (aC _ _) hH⟩
 .simp at h
structure Pc where
 a:BitVec 64
 n:Int
 s:Int
def u0(p:Pc):List Sc:=[.u p.a,.i p.n,.i p.s]
def Tb:List Sc->Option Pc|[.u a,.i n,.i s]=>some ⟨a,n,s⟩|_=>none
theorem Ti(p:Pc):(u0 p).length=3:=rfl
def Mg(n s:Int):Bool:=decide (1<=n)&&decide (n<=8)&&(decide (0<=s)&&decide (s<=63))
def aC9(n s:Int):BitVec 64:=if Mg n s=true then IL 0 (8*n)else 0#64
def Gu(v:BitVec 64)(n s:Int):BitVec 64:=if Mg n s=true then Fs v s (8*n)else 0#64
def jn1(out:BitVec 64)(p:Pc)(x:BitVec 64):BitVec 64:=if Mg p.n p.s=true then awq out p.s (8*p.n) x else out
def UE:List Pc->List (BitVec 64)->BitVec 64->BitVec 64|p::l,x::r,out=>UE l r (jn1 out p x)|_,_,out=>out
def aDO(args:List AV)(H:AH):Option AV:=match args with
 |[.c x,.c y]=>match dh 3 Tb H x,dh 1 sc H y with
   |some l,some r=>if l.length<=1000000/\r.length<=1000000 then some (.c (.u (UE l r 0#64)))else none|_,_=>none
 |_=>none
theorem avX{l:List Pc}{k:Nat}{p:Pc}(h:l[k]?=some p):(l.flatMap u0).drop (k*3)=u0 p++(l.drop (k+1)).flatMap u0:=by
 rw[KM Ti,Dk (by rcases cX k l.length with g|g;exact g;rw[kf g]at h;simp at h),rZ];rw[cP (by rcases cX k l.length with g|g;exact g;rw[kf g]at h;simp at h)]at h;simp only[ar]at h;rw[h]
def aDB(args:List AV)(H:AH):Option AV:=match args with
 |[.c x,.c y]=>match dh 3 Tb H x,dh 1 sc H y with
   |some l,some r=>if l.length<=1000000/\r.length<=1000000/\∀p∈l,eC p.s then some (.c (.u (UE l r 0#64)))else none|_,_=>none
 |_=>none
def aDP(args:List AV)(H:AH):Option AV:=match args with
 |[.c (.u v),.c x,.c y]=>match dh 3 Tb H x,dh 1 sc H y with
   |some l,some r=>if(∀p∈l,eC p.s)/\l.length<=9223372036854775807/\r.length<=9223372036854775807 then some (.c (.b true))else none|_,_=>none
 |_=>none
def xK(a:BitVec 64)(n s:Int):List Pc:=if n<=(left a:Int)then[⟨a,n,s⟩]else[⟨a,left a,s⟩,⟨a+aw 64 (left a),n-left a,s+8*left a⟩]
theorem VY(a:BitVec 64)(n s:Int):pM a n s=(xK a n s).flatMap u0:=by unfold pM xK;split<;>rfl
theorem VX(a:BitVec 64)(n s:Int):oA a n=(xK a n s).length:=by unfold oA xK;split<;>rfl
def mq(a b:BitVec 64)(c s:Int):List Pc:=if dK c s=true then(if c=0 then xK a s 0 else xK a c 0++xK b (s-c) (8*c))else[]
theorem ahX(a b:BitVec 64)(c s:Int):DA a b c s=(mq a b c s).flatMap u0:=by
 unfold DA mq;split
 .split
  .exact VY _ _ _
  .rw[List.flatMap_append,VY,VY]
 .rfl
theorem ahY(a b:BitVec 64)(c s:Int):AZ a b c s=(mq a b c s).length:=by
 unfold AZ mq;split
 .split
  .exact VX _ _ _
  .rw[cj,VX a c 0,VX b (s-c) (8*c)]
 .rfl
def eI(a b:BitVec 64)(c i:Int):BitVec 64:=if 0<c/\c<=i then b+aw 64 (i-c)else a+aw 64 i
def XK(args:List AV):Option AV:=match args with|[.g [.u a,.u b,.i c,.i s],.c (.i i)]=>if 0<=c/\c<=8/\0<=i/\i<=8 then some (.c (.u (eI a b c i)))else none|_=>none
theorem vt{a b c s i}:XK [.g [.u a,.u b,.i c,.i s],.c (.i i)]=if 0<=c/\c<=8/\0<=i/\i<=8 then some (.c (.u (eI a b c i)))else none:=rfl
theorem VN:cK Tryz.prog 77 XK:=by
 refine cR tn Tryz.func77 rfl Tryz.results77 Tryz.ntmps77 ?_;intro args v h;unfold XK at h;split at h
 .rename_i a b c s i;split at h
  .rename_i hc;simp only[ar]at h;subst h;refine⟨by simp only[cT,fa];decide,rfl,rfl,?_⟩;by_cases h1:0<c;all_goals by_cases h2:c<=i
   all_goals(repeat(first|simp only[go_sem,seval,eI,h1,h2,and_false,false_and]|simp(disch:=omega)only[w0]))
  .simp at h
 .simp at h
def H4(B:Int->BitVec 64):List Pc->Int->Prop|[],_=>True|p::l,m=>p.s=8*m/\1<=p.n/\m+p.n<=8/\p.a=B m/\(p.a+aw 64 (p.n-1))/64#64=p.a/64#64/\H4 B l (m+p.n)
def jq:List Pc->Int|[]=>0|p::l=>p.n+jq l
theorem aBe(l r:List Pc):jq (l++r)=jq l+jq r:=by induction l with|nil=>simp[jq]|cons p l ih=>simp only[lf,jq,ih];omega
variable {B:Int->BitVec 64}{r:List Pc}{m:Int}
theorem aoa{l:List Pc}(h1:H4 B l m)(h2:H4 B r (m+jq l)):H4 B (l++r) m:=by induction l generalizing m with|nil=>simpa[jq]using h2|cons p l ih=>
 obtain⟨a1,a2,a3,a4,a5,a6⟩:=h1;refine⟨a1,a2,a3,a4,a5,ih a6 ?_⟩;simp only[jq]at h2;rwa[show m+p.n+jq l=m+(p.n+jq l)by omega]
theorem IA(a:BitVec 64)(k:Int)(h0:0<=k)(hk:k<left a):(a+aw 64 k)/64#64=a/64#64:=by
 have ha:=a.isLt;unfold left at hk;have e0:(aw 64 k).toNat=k.toNat:=by rw[mf];omega
 have e:(64#64).toNat=64:=rfl;apply mB;rw[wW,wW,wU,e0,e];omega
theorem aco(a:BitVec 64):left (a+aw 64 (left a))=64:=by
 have ha:=a.isLt;have e0:(aw 64 (left a:Int)).toNat=left a:=II (by unfold left;omega);have h:(a+aw 64 (left a)).toNat%64=0:=by rw[wU,e0];unfold left;omega
 unfold left at h|-;omega
theorem OM{n:Int}(hn:1<=n)(hm:m+n<=8)(h0:0<=m)(hB:∀j,0<=j->j<n->B (m+j)=a+aw 64 j):H4 B (xK a n (8*m)) m/\jq (xK a n (8*m))=n/\(xK a n (8*m)).length<=2:=by
 have hl:1<=left a/\left a<=64:=by unfold left;omega
 have b0:a=B m:=by
  have:=hB 0 ω ω;rw[Int.add_zero]at this;rw[this];exact(BitVec.add_zero _).symm
 unfold xK;split
 .rename_i h;refine⟨⟨rfl,hn,hm,b0,IA _ _ (by simp only;omega) (by simp only;omega),trivial⟩,by simp[jq],by simp⟩
 .rename_i h;refine⟨⟨rfl,by simp only;omega,by simp only;omega,b0,IA _ _ (by simp only;omega) (by simp only;omega),by simp only;omega,by simp only;omega,by simp only;omega,?_,?_,trivial⟩,by simp only[jq];omega,by simp⟩
  .simp only;rw[hB _ ω ω]
  .refine IA _ _ (by simp only;omega) ?_;simp only;rw[aco];omega
theorem H5{s:Int}(h:dK c s=true):H4 (eI a b c) (mq a b c s) 0/\jq (mq a b c s)=s/\(mq a b c s).length<=4:=by
 have hm:1<=s/\s<=8/\0<=c/\c<s:=by simpa[dK]using h
 unfold mq;rw[if_pos h];split
 .rename_i hc;subst hc;have:=OM (B:=eI a b 0) (a:=a) (n:=s) (m:=0) ω ω ω (λj h0 h1=>by unfold eI;rw[if_neg ω,Cd]);exact⟨this.1,this.2.1,by have:=this.2.2;simp only[Int.mul_zero]at this;omega⟩
 .rename_i hc;obtain⟨g1,g2,g3⟩:=OM (B:=eI a b c) (a:=a) (n:=c) (m:=0) ω ω ω (λj h0 h1=>by unfold eI;rw[if_neg ω,Cd]);obtain⟨k1,k2,k3⟩:=OM (B:=eI a b c) (a:=b) (n:=s-c) (m:=c) ω ω ω (λj h0 h1=>by unfold eI;rw[if_pos ω,show c+j-c=j by omega]);simp only[Int.mul_zero]at g1 g2 g3;refine⟨aoa g1 (by rw[g2,Cd];exact k1),by rw[aBe];omega,by rw[cj];omega⟩
structure Sl where
 is:Bool
 ln:BitVec 64
def zf(x:Sl):List Sc:=[.b x.is,.u x.ln]
def FA:List Sc->Option Sl|[.b q,.u l]=>some ⟨q,l⟩|_=>none
theorem aaT(x:Sl):FA (zf x)=some x:=rfl
theorem EM(x:Sl):(zf x).length=2:=rfl
def z0:Sl:=⟨false,0#64⟩
def iA(R:List Sl):List Sc:=R.flatMap zf
def aAl:ae->Option (List Sl)|.own cs=>if cs.length=16 then tF 2 FA 8 cs else none|_=>none
theorem AK{R:List Sl}(h:R.length=8):(iA R).length=16:=by unfold iA;rw[pF EM,h]
theorem YC(R:List Sl)(n:Nat):(iA R).all (Sc.aj n)=true:=by unfold iA;rw[sZ];exact cE.2 λ_ _=>rfl
def vf(h:Int):Bool:=decide (0<=h)&&decide (h<8)
variable {h:Int}
theorem abZ(x:vf h=true):∃k:Nat,h=k/\k<8:=by
 simp only[vf,aQ,decide_eq_true_eq]at x;exact⟨h.toNat,ω,ω⟩
theorem Bz{k:Nat}(h:k<8):vf (k:Int)=true:=by simp[vf];omega
def uj(R:List Sl)(h:Int):Sl:=if vf h=true then R.getD h.toNat z0 else z0
def kL(R:List Sl)(h:Int)(x:Sl):List Sl:=if vf h=true then R.set h.toNat x else R
theorem azB{R:List Sl}{x:Sl}:(kL R h x).length=R.length:=by unfold kL;split<;>simp
def nZ(R:List Sl)(h:Int)(l:BitVec 64):Bool:=vf h&&((uj R h).is&&decide ((uj R h).ln=l))
def G3(H:AH):Sc->Option (Option (List Sl))|.dk=>some none|.p id 0 0=>(aAl (hg H id)).map some|_=>none
def JJ(H:AH)(x:Sc)(R:List Sl):AH:=match x with|.p id _ _=>H.set id (.own (iA R))|_=>H
theorem So{R:List Sl}{k:Nat}{x:Sl}(hk:k<8)(h:R[k]?=some x):uj R k=x:=by unfold uj;rw[if_pos (Bz hk),aL,bX,h];rfl
theorem QY{R:List Sl}{k:Nat}(hR:R.length=8)(hk:k<8):∃x,R[k]?=some x:=⟨_,cP ω⟩
def aD9(args:List AV)(H:AH):Option AV:=match args with
 |[.c x,.c (.i h)]=>match G3 H x with
   |some (some R)=>some (.t [.c (.u (uj R h).ln),.c (.b (uj R h).is)])|some none=>some (.t [.c (.u 0#64),.c (.b false)])|none=>none
 |_=>none
def aD7(args:List AV)(H:AH):Option AV:=match args with
 |[.c x,.c (.i h),.c (.u l)]=>match G3 H x with
   |some (some R)=>some (.c (.b (nZ R h l)))|some none=>some (.c (.b false))|none=>none
 |_=>none
def aEb(args:List AV)(H:AH):Option (AV×AH):=match args with
 |[.c x,.c (.i h),.c (.u l)]=>match G3 H x with
   |some (some R)=>some (.c (.b (vf h)),JJ H x (kL R h ⟨true,l⟩))|some none=>some (.c (.b false),H)|none=>none
 |_=>none
def aD5(args:List AV)(H:AH):Option (AV×AH):=match args with
 |[.c x,.c (.i h)]=>match G3 H x with
   |some (some R)=>some (.c (.b (uj R h).is),JJ H x (kL R h z0))|some none=>some (.c (.b false),H)|none=>none
 |_=>none
def og(R:List Sl)(l:BitVec 64)(bG:Int)(k:Nat):Bool:=!decide ((k:Int)=bG)&&nZ R k l
def jv(R:List Sl)(l:BitVec 64)(bG:Int):Nat->List Sl|0=>R|k+1=>if og R l bG k=true then(jv R l bG k).set k z0 else jv R l bG k
def uZ(R:List Sl)(l:BitVec 64)(bG:Int):Nat->Nat|0=>0|k+1=>if og R l bG k=true then uZ R l bG k+1 else uZ R l bG k
theorem CP{R:List Sl}{l:BitVec 64}{bG:Int}:∀{k:Nat},(jv R l bG k).length=R.length
 |0=>rfl|k+1=>by
   have ih:=CP (R:=R) (l:=l) (bG:=bG) (k:=k);simp only[jv];split
   .simp[ih]
   .exact ih
theorem aaz{R:List Sl}{l:BitVec 64}{bG:Int}:∀{k:Nat},uZ R l bG k<=k
 |0=>aB _|k+1=>by
   have ih:=aaz (R:=R) (l:=l) (bG:=bG) (k:=k);simp only[uZ];split<;>omega
theorem Gb{R:List Sl}{l:BitVec 64}{bG:Int}{j:Nat}:∀{k:Nat},(jv R l bG k)[j]?=if j<k/\og R l bG j=true/\j<R.length then some z0 else R[j]?
 |0=>by simp[jv]|k+1=>by
   have ih:=Gb (R:=R) (l:=l) (bG:=bG) (k:=k) (j:=j);have hl:=CP (R:=R) (l:=l) (bG:=bG) (k:=k);simp only[jv];split
   .rename_i hb;rw[rq];by_cases e:k=j
    .subst e;rw[if_pos rfl,hl];by_cases h2:k<R.length
     .rw[if_pos h2,if_pos ⟨ω,hb,h2⟩]
     .rw[if_neg h2,if_neg (λh=>h2 h.2.2),kf ω]
    .rw[if_neg e,ih];by_cases h2:j<k/\og R l bG j=true/\j<R.length
     .rw[if_pos h2,if_pos ⟨ω,h2.2⟩]
     .rw[if_neg h2,if_neg (λh=>h2 ⟨ω,h.2⟩)]
   .rename_i hb;rw[ih];by_cases h2:j<k/\og R l bG j=true/\j<R.length
    .rw[if_pos h2,if_pos ⟨ω,h2.2⟩]
    .rw[if_neg h2,if_neg (λh=>h2 ⟨?_,h.2⟩)];rcases Nat.lt_or_eq_of_le (Nat.lt_succ_iff.1 h.1)with h3|h3
     .exact h3
     .subst h3;exact(hb h.2.1).elim
def aD8(args:List AV)(H:AH):Option (AV×AH):=match args with
 |[.c x,.c (.u l),.c (.i bG)]=>match G3 H x with
   |some (some R)=>some (.c (.i (uZ R l bG 8)),JJ H x (jv R l bG 8))|some none=>some (.c (.i 0),H)|none=>none
 |_=>none
def Nl(H:AH):Sc->Option (List Sl)
 |.p id off 0=>match hg H id with
   |.own cs=>if off+16<=cs.length then tF 2 FA 8 ((cs.drop off).take 16)else none|_=>none
 |_=>none
def Yj(H:AH)(x:Sc)(R:List Sl):AH:=match x with|.p id off _=>H.set id (.own ((hg H id).cells.take off++(iA R++(hg H id).cells.drop (off+16))))|_=>H
def aD3(args:List AV)(H:AH):Option AV:=match args with|[.c x,.c (.i h)]=>(Nl H x).map λR=>.t [.c (.u (uj R h).ln),.c (.b (uj R h).is)]|_=>none
def aD1(args:List AV)(H:AH):Option AV:=match args with|[.c x,.c (.i h),.c (.u l)]=>(Nl H x).map λR=>.c (.b (nZ R h l))|_=>none
def aD4(args:List AV)(H:AH):Option (AV×AH):=match args with|[.c x,.c (.i h),.c (.u l)]=>(Nl H x).map λR=>(.c (.b (vf h)),Yj H x (kL R h ⟨true,l⟩))|_=>none
def aD0(args:List AV)(H:AH):Option (AV×AH):=match args with|[.c x,.c (.i h)]=>(Nl H x).map λR=>(.c (.b (uj R h).is),Yj H x (kL R h z0))|_=>none
def aD2(args:List AV)(H:AH):Option (AV×AH):=match args with|[.c x,.c (.u l),.c (.i bG)]=>(Nl H x).map λR=>(.c (.i (uZ R l bG 8)),Yj H x (jv R l bG 8))|_=>none
def gi(l:List Sc)(i:Nat):Int:=match l.getD i .any with|.i x=>x|_=>0
def gu(l:List Sc)(i:Nat):BitVec 64:=match l.getD i .any with|.u x=>x|_=>0#64
def gb(l:List Sc)(i:Nat):Bool:=match l.getD i .any with|.b x=>x|_=>false
def apn:List K:=[.q,.q,.q,.n .u64,.n .i64]
def ack:List K:=[.n .i64,.n .u64,.n .u64,.n .i64,.n .i64,.n .i64,.n .u64,.n .u64,.q,.n .i64,.q,.q,.q,.n .u64,.n .i64,.n .i64,.n .u64,.n .i64,.n .u64]
def apl:List K:=[.n .u64,.q]++(bD 8 apn).flatten
def ksE:List K:=[.n .i64]++ack++apl++[.n .i64,.n .i64,.n .i64]
def Uy(l:List Sc):Prop:=L2 jY l ksE
instance (l:List Sc):Decidable (Uy l):=Classical.propDecidable _
abbrev Ev:={l:List Sc//Uy l}
def dcE(cs:List Sc):Option Ev:=if h:Uy cs then some ⟨cs,h⟩else none
def Pv(k:Int):Bool:=decide (1<=k)&&decide (k<=20)
def W4(args:List AV):Option AV:=match args with|[.c (.i k)]=>some (.c (.b (Pv k)))|_=>none
theorem ax9{k}:W4 [.c (.i k)]=some (.c (.b (Pv k))):=rfl
theorem asM:cK Tryz.prog 67 W4:=by
 refine cR tn Tryz.func67 rfl Tryz.results67 Tryz.ntmps67 ?_;intro args v h;unfold W4 at h;split at h
 .rename_i k;simp only[ar]at h;subst h;refine⟨by simp,rfl,rfl,?_⟩;by_cases h1:1<=k;all_goals simp only[go_sem,seval,Pv,h1]
 .simp at h
def fi(k:Int):Int:=if k<1 then 0 else if k<=8 then 1 else if k<=11 then 2 else if k<=14 then 3 else if k<=17 then 4 else if k<=20 then 5 else 0
def Mv(args:List AV):Option AV:=match args with|[.c (.i k)]=>some (.c (.i (fi k)))|_=>none
theorem Je{k}:Mv [.c (.i k)]=some (.c (.i (fi k))):=rfl
theorem VE:cK Tryz.prog 27 Mv:=by
 refine cR (tu asM tn) Tryz.func27 rfl Tryz.results27 Tryz.ntmps27 ?_;intro args v h;unfold Mv at h;split at h
 .rename_i k;simp only[ar]at h;subst h;refine⟨by simp,rfl,rfl,?_⟩;by_cases h1:1<=k;all_goals by_cases h2:k<=20
  all_goals simp only[go_sem,seval,ax9,Pv,h1,h2]
  repeat'(first
 |(refine vN (λh=>?_) (λh=>?_)<;>(try simp only[decide_eq_true_eq,decide_eq_false_iff_not,gY,jj,iM,jk,aQ,beq_iff_eq,beq_eq_false_iff_ne,ne_eq,gj]at h)<;>(simp only[go_sem,seval,h]))|(refine vY (λh=>?_) (λh=>?_)<;>(try simp only[decide_eq_true_eq,decide_eq_false_iff_not,gY,jj,iM,jk,aQ,beq_iff_eq,beq_eq_false_iff_ne,ne_eq,gj]at h)<;>(simp only[go_sem,seval,h]))|(refine vZ (λh=>?_) (λh=>?_)<;>(try simp only[decide_eq_true_eq,decide_eq_false_iff_not,gY,jj,iM,jk,aQ,beq_iff_eq,beq_eq_false_iff_ne,ne_eq,gj]at h)<;>(simp only[go_sem,seval,h])))
  all_goals(unfold fi;repeat' split)
  all_goals first|rfl|(exfalso;omega)
 .simp at h
def adT(l:List Sc):Bool:=decide (0<=gi l 0)&&(decide (1<=fi (gi l 1))&&decide (fi (gi l 1)<=3))
def ajd(a b:List Sc):Bool:=if gi b 63<gi a 63 then false else if gi b 64<gi a 62 then false else !(adT a&&(adT b&&decide (gi a 0=gi b 0)))||decide (gi a 64<gi b 62)
def azv(e:List Sc):Bool:=if gi e 62<0 then false else if gi e 63<gi e 62 then false else if gi e 64<gi e 63 then false else true
def asn(L:List Ev)(i:Nat):Bool:=match L[i]? with|some e=>azv e.1&&(L.take i).all λa=>ajd a.1 e.1|none=>true
def ZV(L:List Ev):Option Nat:=(pj L.length).find? λi=>!asn L i
def avM(L:List Ev):Int:=match ZV L with|some i=>i|none=>0
def avL(L:List Ev):Bool:=(ZV L).isNone
def aDj(args:List AV)(H:AH):Option AV:=match args with
 |[.c x]=>match dh 65 dcE H x with
   |some L=>if L.length<=1000000 then some (.t [.c (.i (avM L)),.c (.b (avL L))])else none|none=>none
 |_=>none
def X7(args:List AV):Option AV:=match args with|[.g (.i k::.u a::.u b::.i c::.i s::r)]=>if r.length=14/\r.all Sc.pf=true then some (.g [.u a,.u b,.i c,.i s])else none|_=>none
theorem QG{k a b c s r}:X7 [.g (.i k::.u a::.u b::.i c::.i s::r)]=if r.length=14/\r.all Sc.pf=true then some (.g [.u a,.u b,.i c,.i s])else none:=rfl
theorem auu:cK Tryz.prog 174 X7:=by
 refine cR tn Tryz.func174 rfl Tryz.results174 Tryz.ntmps174 ?_;intro args v h;unfold X7 at h;split at h
 .rename_i k a b c s r;split at h
  .rename_i hc;simp only[ar]at h;subst h;have pr:=hc.2;refine⟨by simp,by first|rfl|simp only[bK,dY,AV.pf,Sc.pf,c8, *],by first|rfl|simp only[bK,dY,AV.pf,Sc.pf,c8, *],?_⟩;simp only[go_sem,seval,hc.1]
  .simp at h
 .simp at h
def Qx(args:List AV):Option AV:=match args with|[.g (.i k::.u a::.u b::.i c::.i s::r)]=>if r.length=14/\r.all Sc.pf=true then some (.g [.u a,.u b,.i c,.i s])else none|_=>none
theorem vr{k a b c s r}:Qx [.g (.i k::.u a::.u b::.i c::.i s::r)]=if r.length=14/\r.all Sc.pf=true then some (.g [.u a,.u b,.i c,.i s])else none:=rfl
theorem VK:cK Tryz.prog 75 Qx:=by
 refine cR tn Tryz.func75 rfl Tryz.results75 Tryz.ntmps75 ?_;intro args v h;unfold Qx at h;split at h
 .rename_i k a b c s r;split at h
  .rename_i hc;simp only[ar]at h;subst h;have pr:=hc.2;refine⟨by simp,by first|rfl|simp only[bK,dY,AV.pf,Sc.pf,c8, *],by first|rfl|simp only[bK,dY,AV.pf,Sc.pf,c8, *],?_⟩;simp only[go_sem,seval,hc.1]
  .simp at h
 .simp at h
def JU(k:Int)(g:Bool):Bool:=if k=3 then true else if k=4 then true else if k=6 then g else if k=8 then g else false
theorem avZ{m:List Sc}(n:Nat)(h:m.all Sc.pf=true):m.all (Sc.aj n)=true:=by
 rw[cE]at h|-;intro x hx;have:=h x hx;cases x<;>simp_all[Sc.pf,Sc.aj]
def nT(r:List Sc):Prop:=r.length=10/\r.all Sc.pf=true/\r.all Sc.one=true
instance aCK(r:List Sc):Decidable (nT r):=Classical.propDecidable _
def dC:List Sc:=(bD 8 [Sc.b false,.b false,.b false,.u 0#64,.i 0]).flatten
def bU(d:BitVec 64)(g:Bool):List Sc:=.u d::.b g::dC
theorem Nw:dC.length=40:=by decide
theorem aCa:dC.take 40=dC:=by rw[<-Nw,vH]
theorem aB9:dC.drop 40=[]:=by rw[<-Nw,List.drop_length]
theorem agL:dC.all Sc.one=true:=rfl
theorem agM:dC.all Sc.pf=true:=rfl
theorem aB8:dC.all (Sc.aj n)=true:=(avZ n agM)
theorem Zw{d:BitVec 64}{g:Bool}:(bU d g).all (Sc.aj n)=true:=by unfold bU;rw[bK,bK,aB8];rfl
theorem aB7:zT Tryz.prog 73=some (.u 0#64::.b false::dC):=κ
attribute [go_sem]Nw aCa aB9 agL agM
attribute [go_sem 2000]aB7
def Fh(b:BitVec 8):Sc:=.k .u8 b.toNat
def CQ(L:List (BitVec 8)):List Sc:=L.map Fh
def Ta:Sc->Option (BitVec 8)|.k .u8 n=>if 0<=n/\n<256 then some (aw 8 n)else none|_=>none
theorem alV(b:BitVec 8):Ta (Fh b)=some b:=by
 have:=b.isLt;simp only[Ta,Fh];rw[if_pos ω];congr 1;apply mB;simp
def ab3(cs:List Sc):Prop:=∃L:List (BitVec 8),L.length=64/\cs=CQ L
instance aCN(cs:List Sc):Decidable (ab3 cs):=Classical.propDecidable _
def PB(cs:List Sc):List (BitVec 8):=cs.filterMap Ta
theorem acC(L:List (BitVec 8)):PB (CQ L)=L:=by
 unfold PB CQ;induction L with|nil=>rfl|cons b L ih=>rw[gz,List.filterMap_cons_some (alV b),ih]
variable {L:List (BitVec 8)}
theorem aqj:(CQ L).all (Sc.aj n)=true:=by unfold CQ;rw[List.all_map];exact cE.2 λ_ _=>rfl
theorem ago{v:BitVec 64}:Sc.k .u8 (IntKind.u8.wrap (v.toNat:Int))=Fh (v.setWidth 8):=by
 unfold Fh;congr 1
def an4(L:List (BitVec 8))(a n:Nat):Nat->BitVec 64|0=>0#64|m+1=>(an4 L a n m<<<8)|||(L.getD (a+(n-1-m)) 0#8).setWidth 64
def yP(L:List (BitVec 8))(a:Nat)(v:BitVec 64):Nat->List (BitVec 8)|0=>L|m+1=>(yP L a v m).set (a+m) ((v>>>(8*m)).setWidth 8)
theorem We{L:List (BitVec 8)}{a:Nat}{v:BitVec 64}:∀{m:Nat},(yP L a v m).length=L.length|0=>rfl|m+1=>by simp only[yP,iR];exact We
theorem aeb{L:List (BitVec 8)}{a j:Nat}{v:BitVec 64}:∀{m:Nat},a+m<=L.length->(yP L a v m).getD j 0#8=if a<=j/\j<a+m then(v>>>(8*(j-a))).setWidth 8 else L.getD j 0#8
 |0,_=>by simp only[yP];rw[if_neg ω]|m+1,h=>by
   have ih:=aeb (L:=L) (a:=a) (v:=v) (j:=j) (m:=m) ω;simp only[yP];rw[bX,rq];by_cases e:a+m=j
   .subst e;rw[if_pos rfl,We,if_pos ω,if_pos ω];simp
   .rw[if_neg e,<-bX,ih];by_cases h2:a<=j/\j<a+m
    .rw[if_pos h2,if_pos ω]
    .rw[if_neg h2,if_neg ω]
abbrev js:=List (Nat×Nat×List (BitVec 8))
def Kh:List (BitVec 8):=bD 64 0#8
def qX:js->Nat->Nat->Option (Nat×List (BitVec 8))|[],_,_=>none|e::E,i,s=>if e.2.1=i then some (s,e.2.2)else qX E i (s+1)
def pL(E:js)(i:Nat):List (BitVec 8):=match qX E i 0 with|some p=>p.2|none=>Kh
def GZ(M:Nat×js)(i:Nat)(L:List (BitVec 8)):Nat×js:=match qX M.2 i 0 with|some p=>(M.1,M.2.set p.1 ((M.2.getD p.1 (0,i,L)).1,i,L))|none=>(M.1+1,M.2++[(M.1,i,L)])
def KC(M:Nat×js)(i:Nat):Nat×js:=match qX M.2 i 0 with|some p=>(M.1,M.2.eraseIdx p.1)|none=>M
instance aCL(a b:List (BitVec 8)):Decidable (a=b):=inferInstance
def zg(M:Nat×js)(i:Nat)(L:List (BitVec 8)):Nat×js:=if L=Kh then KC M i else GZ M i L
def kM(n:Nat)(M:Nat×js):Prop:=(M.2.map (·.2.1)).Nodup/\∀e∈M.2,e.2.1<n/\e.2.2.length=64
theorem LM:∀{E:js}{i s:Nat},qX E i s=(qX E i 0).map λp=>(p.1+s,p.2)
 |[],_,_=>rfl|e::E,i,s=>by
   simp only[qX];split
   .simp
   .rw[LM (s:=s+1),LM (s:=0+1)];cases qX E i 0 with|none=>rfl|some p=>simp only[pn];congr 2;omega
theorem LN:∀{E:js}{i j:Nat}{L:List (BitVec 8)},qX E i 0=some (j,L)->∃b,E[j]?=some (b,i,L)
 |[],_,_,_,h=>by simp[qX]at h|e::E,i,j,L,h=>by
   simp only[qX]at h;split at h
   .rename_i he;simp only[ar,bE]at h;obtain⟨rfl,rfl⟩:=h;exact⟨e.1,by rw[Hi,<-he]⟩
   .rw[LM]at h;rw[eE]at h;obtain⟨⟨j2,L2⟩,h1,h2⟩:=h;simp only[bE]at h2;obtain⟨rfl,rfl⟩:=h2;obtain⟨b,hb⟩:=LN h1;exact⟨b,by rw[zu,zu,oF,List.getElem?_cons_succ];exact hb⟩
theorem LK:∀{E:js}{i:Nat},qX E i 0=none↔i∉E.map (·.2.1)
 |[],_=>by simp[qX]|e::E,i=>by
   have ih:=LK (E:=E) (i:=i);simp only[qX,gz,uT,not_or];split
   .rename_i he;simp[he]
   .rename_i he;rw[LM,Option.map_eq_none_iff,ih];exact⟨λh=>⟨λh2=>he h2.symm,h⟩,λh=>h.2⟩
variable {E:js}
theorem aqr{b:Nat}(hE:(E.map (·.2.1)).Nodup)(h:(b,i,L)∈E):∃j,qX E i 0=some (j,L):=by induction E with
 |nil=>simp at h|cons e E ih=>
   rw[gz,List.nodup_cons]at hE;simp only[qX];rcases uT.1 h with h1|h1
   .subst h1;exact⟨0,by rw[if_pos rfl]⟩
   .have hn:¬e.2.1=i:=λhe=>hE.1 (List.mem_map.2 ⟨_,h1,he.symm⟩);obtain⟨j,hj⟩:=ih hE.2 h1;rw[if_neg hn,LM,hj];exact⟨j+(0+1),rfl⟩
theorem Gf(hE:(E.map (·.2.1)).Nodup):pL E i=L↔(∃b,(b,i,L)∈E)\/(i∉E.map (·.2.1)/\L=Kh):=by
 unfold pL;constructor
 .intro h;cases e:qX E i 0 with|none=>rw[e]at h;exact .inr ⟨LK.1 e,h.symm⟩|some p=>
    rw[e]at h;obtain⟨j,L2⟩:=p;simp only at h;subst h;obtain⟨b,hb⟩:=LN e;exact .inl ⟨b,Dq hb⟩
 .rintro(⟨b,h⟩|⟨h1,rfl⟩)
  .obtain⟨j,hj⟩:=aqr hE h;rw[hj]
  .rw[LK.2 h1]
theorem aca{E:js}{j i b b2:Nat}{L L2:List (BitVec 8)}(h:E[j]?=some (b,i,L)):(E.set j (b2,i,L2)).map (·.2.1)=E.map (·.2.1):=by
 rw[List.map_set];apply List.ext_getElem?;intro k;rw[rq];split
 .rename_i e;subst e;have hj:=(RG.1 h).1;rw[if_pos (by simpa using hj),qL,h];rfl
 .rfl
variable {M:Nat×js}
theorem aqm(hM:kM n M):pL (GZ M i L).2 k=if k=i then L else pL M.2 k:=by
 unfold GZ;cases e:qX M.2 i 0 with
 |some p=>
   obtain⟨j,L2⟩:=p;obtain⟨b,hb⟩:=LN e;have hj:=(RG.1 hb).1;simp only;have hk:=aca (b2:=(M.2.getD j (0,i,L)).1) (L2:=L) hb;rw[Gf (by rw[hk];exact hM.1),hk];by_cases h:k=i
   .subst h;rw[if_pos rfl];exact .inl ⟨_,Dq (by rw[rq,if_pos rfl,if_pos hj])⟩
   .rw[if_neg h];rcases(Gf hM.1 (i:=k) (L:=pL M.2 k)).1 rfl with⟨b3,h3⟩|h3
    .obtain⟨m,hm⟩:=RJ.1 h3;refine .inl ⟨b3,Dq (i:=m) ?_⟩;rw[rq];split
     .rename_i ejm;subst ejm;rw[hb]at hm;simp only[ar,bE]at hm;exact(h hm.2.1.symm).elim
     .exact hm
    .exact .inr h3|none=>
   simp only;have iH:=LK.1 e;have Ie:((M.2++[(M.1,i,L)]).map (·.2.1)).Nodup:=by
    rw[Hm,List.nodup_append];refine⟨hM.1,by simp,λa ha b hb=>?_⟩;simp only[gz,jf,wZ]at hb;subst hb;rintro rfl;exact iH ha
   rw[Gf Ie];by_cases h:k=i
   .subst h;rw[if_pos rfl];exact .inl ⟨M.1,by simp⟩
   .rw[if_neg h];rcases(Gf hM.1 (i:=k) (L:=pL M.2 k)).1 rfl with⟨b3,h3⟩|h3
    .exact .inl ⟨b3,List.mem_append_left _ h3⟩
    .refine .inr ⟨?_,h3.2⟩;rw[Hm,wY];rintro(h4|h4)
     .exact h3.1 h4
     .simp only[gz,jf,wZ]at h4;exact h h4
theorem aBN(hM:kM n M)(hi:i<n)(hL:L.length=64):kM n (GZ M i L):=by
 unfold GZ;cases e:qX M.2 i 0 with
 |some p=>
   obtain⟨j,L2⟩:=p;obtain⟨b,hb⟩:=LN e;refine⟨by rw[aca hb];exact hM.1,λx hx=>?_⟩;rcases List.mem_or_eq_of_mem_set hx with h1|h1
   .exact hM.2 x h1
   .rw[h1];exact⟨hi,hL⟩|none=>
   have iH:=LK.1 e;refine⟨?_,λx hx=>?_⟩
   .rw[Hm,List.nodup_append];refine⟨hM.1,by simp,λa ha b hb=>?_⟩;simp only[gz,jf,wZ]at hb;subst hb;rintro rfl;exact iH ha
   .rcases wY.1 hx with h1|h1
    .exact hM.2 x h1
    .rw[wZ]at h1;rw[h1];exact⟨hi,hL⟩
theorem Pu{E:js}{j:Nat}:(E.eraseIdx j).map (·.2.1)=(E.map (·.2.1)).eraseIdx j:=by induction E generalizing j with|nil=>rfl|cons e E ih=>cases j with|zero=>rfl|succ j=>simp only[List.eraseIdx_cons_succ,gz,ih]
theorem aql(hM:kM n M):pL (KC M i).2 k=if k=i then Kh else pL M.2 k:=by
 unfold KC;cases e:qX M.2 i 0 with
 |some p=>
   obtain⟨j,L2⟩:=p;obtain⟨b,hb⟩:=LN e;have hj:=(RG.1 hb).1;simp only;have Ie:((M.2.eraseIdx j).map (·.2.1)).Nodup:=by rw[Pu];exact hM.1.sublist (List.eraseIdx_sublist ..)
   rw[Gf Ie];by_cases h:k=i
   .subst h;rw[if_pos rfl];refine .inr ⟨?_,rfl⟩;intro hk;rw[Pu]at hk;have hP:=hM.1;obtain⟨m,yI,hm⟩:=List.mem_eraseIdx_iff_getElem?.1 hk;have h5:(M.2.map (·.2.1))[j]?=some k:=by rw[qL,hb];rfl
    have h6:=(RG.1 hm);have h7:=(RG.1 h5);obtain⟨l6,g6⟩:=h6;obtain⟨l7,g7⟩:=h7;rw[List.nodup_iff_pairwise_ne,Za]at hP;rcases Nat.lt_trichotomy m j with h8|h8|h8
    .exact hP m j l6 l7 h8 (g6.trans g7.symm)
    .exact yI h8
    .exact hP j m l7 l6 h8 (g7.trans g6.symm)
   .rw[if_neg h];rcases(Gf hM.1 (i:=k) (L:=pL M.2 k)).1 rfl with⟨b3,h3⟩|h3
    .obtain⟨m,hm⟩:=RJ.1 h3;refine .inl ⟨b3,List.mem_eraseIdx_iff_getElem?.2 ⟨m,?_,hm⟩⟩;rintro rfl;rw[hb]at hm;simp only[ar,bE]at hm;exact h hm.2.1.symm
    .refine .inr ⟨λhk=>h3.1 ?_,h3.2⟩;rw[Pu]at hk;exact List.mem_of_mem_eraseIdx hk|none=>
 simp only;by_cases h:k=i
 .subst h;rw[if_pos rfl];unfold pL;rw[e]
 .rw[if_neg h]
theorem aBM(hM:kM n M):kM n (KC M i):=by
 unfold KC;split
 .exact⟨by rw[Pu];exact hM.1.sublist (List.eraseIdx_sublist ..),λx hx=>hM.2 x (List.mem_of_mem_eraseIdx hx)⟩
 .exact hM
theorem aqn(hM:kM n M):pL (zg M i L).2 k=if k=i then L else pL M.2 k:=by
 unfold zg;split
 .rename_i h;subst h;exact aql hM
 .exact aqm hM
theorem aBO(hM:kM n M)(hi:i<n)(hL:L.length=64):kM n (zg M i L):=by
 unfold zg;split
 .exact aBM hM
 .exact aBN hM hi hL
theorem acB(hM:kM n M):(pL M.2 i).length=64:=by
 rcases(Gf hM.1 (i:=i) (L:=pL M.2 i)).1 rfl with⟨b,h⟩|⟨_,h⟩
 .exact(hM.2 _ h).2
 .rw[h];rfl
def oY(E:js)(j:Nat):BitVec 8:=(pL E (j/64)).getD (j%64) 0#8
def Md(B:Nat->BitVec 8)(a n:Nat):BitVec 64:=mV λi=>decide (i<8*n)&&(B (a+i/8)).getLsbD (i%8)
def stM(M:Nat×js)(a n:Nat)(v:BitVec 64):Nat×js:=if min n (64-a%64)<n then zg (zg M (a/64) (yP (pL M.2 (a/64)) (a%64) v (64-a%64))) (a/64+1) (yP (pL (zg M (a/64) (yP (pL M.2 (a/64)) (a%64) v (64-a%64))).2 (a/64+1)) 0 (v>>>(8*(64-a%64))) (n-(64-a%64)))else zg M (a/64) (yP (pL M.2 (a/64)) (a%64) v n)
variable {j:Nat}
theorem aqH(hM:kM n M):oY (zg M i L).2 j=if j/64=i then L.getD (j%64) 0#8 else oY M.2 j:=by unfold oY;rw[aqn hM];split<;>rfl
variable {N:Nat}{v:BitVec 64}
theorem Rk{o m:Nat}(hM:kM N M)(hi:i<N):kM N (zg M i (yP (pL M.2 i) o v m)):=aBO hM hi (by rw[We];exact acB hM)
theorem agB{a:Nat}(hM:kM N M)(ha:a+n<=64*N)(h1:1<=n)(h8:n<=8):kM N (stM M a n v):=by
 unfold stM;split
 .exact Rk (Rk hM ω) ω
 .exact Rk hM ω
theorem Vc{o m:Nat}(hM:kM N M)(h:o+m<=64):oY (zg M i (yP (pL M.2 i) o v m)).2 j=if 64*i+o<=j/\j<64*i+o+m then(v>>>(8*(j-(64*i+o)))).setWidth 8 else oY M.2 j:=by
 rw[aqH hM];by_cases hj:j/64=i
 .rw[if_pos hj,aeb (by rw[acB hM];omega)];by_cases h2:o<=j%64/\j%64<o+m
  .rw[if_pos h2,if_pos ω,show j%64-o=j-(64*i+o)by omega]
  .rw[if_neg h2,if_neg ω];unfold oY;rw[hj]
 .rw[if_neg hj,if_neg ω]
theorem aqG{a:Nat}(hM:kM N M)(ha:a+n<=64*N)(h1:1<=n)(h8:n<=8):oY (stM M a n v).2 j=if a<=j/\j<a+n then(v>>>(8*(j-a))).setWidth 8 else oY M.2 j:=by
 unfold stM;have ea:64*(a/64)+a%64=a:=ω
 split
 .rw[Vc (Rk hM ω) ω,Vc hM ω,ea];by_cases h2:a+(64-a%64)<=j/\j<a+n
  .rw[if_pos ω,if_pos ω];rw[<-Nx,show 8*(64-a%64)+8*(j-(64*(a/64+1)+0))=8*(j-a)by omega]
  .rw[if_neg ω];by_cases h3:a<=j/\j<a+(64-a%64)
   .rw[if_pos h3,if_pos ω]
   .rw[if_neg h3,if_neg ω]
 .rw[Vc hM ω,ea]
theorem ac2(x:BitVec 64):∃n:Nat,n=x.toNat-2147483648:=⟨_,rfl⟩
def iq(x:BitVec 64):Nat:=Classical.choose (ac2 x)
theorem xJ(x:BitVec 64):iq x=x.toNat-2147483648:=Classical.choose_spec (ac2 x)
def hasB(N:Nat)(x:BitVec 64)(n:Int):Bool:=decide (1<=n)&&(decide (2147483648<=x.toNat)&&(decide (iq x<64*N)&&decide (n<=((64*N-iq x:Nat):Int))))
variable {x:BitVec 64}
theorem rI{n:Int}:hasB N x n=true↔1<=n/\2147483648<=x.toNat/\iq x<64*N/\n<=((64*N-iq x:Nat):Int):=by simp only[hasB,aQ,decide_eq_true_eq]
def yy(B:Int->BitVec 64):List Pc->Int->Prop|[],_=>True|p::l,m=>p.s=8*m/\1<=p.n/\m+p.n<=8/\(∀j,0<=j->j<p.n->B (m+j)=p.a+aw 64 j/\(p.a+aw 64 j)/64#64=p.a/64#64)/\yy B l (m+p.n)
theorem anU{l:List Pc}(h1:yy B l m)(h2:yy B r (m+jq l)):yy B (l++r) m:=by induction l generalizing m with|nil=>simpa[jq]using h2|cons p l ih=>
 obtain⟨a1,a2,a3,a4,a6⟩:=h1;refine⟨a1,a2,a3,a4,ih a6 ?_⟩;simp only[jq]at h2;rwa[show m+p.n+jq l=m+(p.n+jq l)by omega]
theorem TA{n:Int}(hn:1<=n)(hm:m+n<=8)(h0:0<=m)(hB:∀j,0<=j->j<n->B (m+j)=a+aw 64 j):yy B (xK a n (8*m)) m:=by
 have hl:1<=left a/\left a<=64:=by unfold left;omega
 unfold xK;split
 .rename_i h;exact⟨rfl,hn,hm,λj h1 h2=>⟨hB j h1 h2,IA _ _ h1 (by have h3:j<n:=h2;show j<(left a:Int);omega)⟩,trivial⟩
 .rename_i h;refine⟨rfl,by simp only;omega,by simp only;omega,λj h1 h2=>⟨hB j h1 (by have h3:j<(left a:Int):=h2;omega),IA _ _ h1 h2⟩,by simp only;omega,by simp only;omega,by simp only;omega,λj h1 h2=>⟨?_,IA _ _ h1 (by have h3:j<n-(left a:Int):=h2;rw[aco];omega)⟩,trivial⟩;have h3:j<n-(left a:Int):=h2;show B (m+(left a:Int)+j)=a+aw 64 (left a)+aw 64 j;rw[show m+(left a:Int)+j=m+((left a:Int)+j)by omega,hB _ ω ω,BitVec.add_assoc];congr 1;exact BitVec.ofInt_add ..
theorem HZ{s:Int}(h:dK c s=true):yy (eI a b c) (mq a b c s) 0:=by
 have hm:1<=s/\s<=8/\0<=c/\c<s:=by simpa[dK]using h
 unfold mq;rw[if_pos h];split
 .rename_i hc;subst hc;have:=TA (B:=eI a b 0) (a:=a) (n:=s) (m:=0) ω ω ω (λj h0 h1=>by unfold eI;rw[if_neg ω,Cd]);simpa only[Int.mul_zero]using this
 .rename_i hc;have g1:=TA (B:=eI a b c) (a:=a) (n:=c) (m:=0) ω ω ω (λj h0 h1=>by unfold eI;rw[if_neg ω,Cd]);have k1:=TA (B:=eI a b c) (a:=b) (n:=s-c) (m:=c) ω ω ω (λj h0 h1=>by unfold eI;rw[if_pos ω,show c+j-c=j by omega]);have g2:=(OM (B:=eI a b c) (a:=a) (n:=c) (m:=0) ω ω ω (λj h0 h1=>by unfold eI;rw[if_neg ω,Cd])).2.1;simp only[Int.mul_zero]at g1 g2;exact anU g1 (by rw[g2,Cd];exact k1)
theorem yL{n j:Int}(hN:N<=4096)(h:hasB N x n=true)(h0:0<=j)(hj:j<n):iq (x+aw 64 j)=iq x+j.toNat:=by
 rw[rI]at h;have e0:(aw 64 j).toNat=j.toNat:=by rw[mf];omega
 rw[xJ,xJ,wU,e0];rw[xJ]at h;omega
def OL(E:js)(B:Int->BitVec 64)(s:Int):BitVec 64:=mV λi=>decide ((i:Int)<8*s)&&(oY E (iq (B ((i/8:Nat):Int)))).getLsbD (i%8)
def aDd(E:js)(l:List Pc):List (BitVec 64):=l.map λp=>Md (oY E) (iq p.a) p.n.toNat
theorem Rc{l:List Pc}(h:yy B l m)(k:Nat):0<=jq (l.drop k):=by induction l generalizing m k with|nil=>simp[jq]|cons q l ih=>cases k with|zero=>have:=ih h.2.2.2.2 0;have:=h.2.1;simp only[List.drop_zero,jq]at*;omega|succ k=>exact ih h.2.2.2.2 k
def lfB(a n:Int):Bool:=decide (1<=n)&&(decide (n<=8)&&(decide (0<=a)&&decide (a<=64-n)))
structure pR where
 id:Nat
 xF:Nat
 n:Nat
 M:Nat×js
def LB(i:Nat):AV:=.g [.i ((i%16:Nat):Int),.i ((i/16:Nat):Int)]
def KH(e:Nat×Nat×List (BitVec 8)):Nat×AV×AV:=(e.1,LB e.2.1,.g (CQ e.2.2))
def yJ(M:Nat×js):ae:=.map M.1 (M.2.map KH)
theorem aqk{M:List (BitVec 8)}(h:CQ L=CQ M):L=M:=by
 have:=congrArg PB h;rwa[acC,acC]at this
theorem apd(h:LB i=LB j):i=j:=by
 simp only[LB,AV.g.injEq,cL,Sc.i.injEq,and_true]at h;omega
theorem amr{a b:Nat×Nat×List (BitVec 8)}(h:KH a=KH b):a=b:=by
 obtain⟨a1,a2,a3⟩:=a;obtain⟨b1,b2,b3⟩:=b;simp only[KH,bE]at h;obtain⟨h1,h2,h3⟩:=h;simp only[AV.g.injEq]at h3;rw[h1,apd h2,aqk h3]
theorem map_inj{α β:Type}{f:α->β}(hf:∀a b,f a=f b->a=b):∀{L M:List α},L.map f=M.map f->L=M
 |[],[],_=>rfl|[],b::M,h=>by simp at h|a::L,[],h=>by simp at h|a::L,b::M,h=>by
   simp only[gz,cL]at h;rw[hf _ _ h.1,map_inj hf h.2]
theorem aqB{N:Nat×js}(h:yJ M=yJ N):M=N:=by
 simp only[yJ,ae.map.injEq]at h;obtain⟨a,A⟩:=M;obtain⟨b,B⟩:=N;simp only at h;rw[h.1,map_inj (λ_ _=>amr) h.2]
structure nd(H:AH)(x:Sc)(s:pR):Prop where
 x:x=.p s.id 0 0
 o:hg H s.id=.own [.i s.n,.mp s.xF]m:hg H s.xF=yJ s.M
 w:kM s.n s.M
 n1:1<=s.n
 n2:s.n<=4096
theorem nd.uniq{x:Sc}{s t:pR}(h:nd H x s)(g:nd H x t):s=t:=by
 obtain⟨a,b,c,d⟩:=s;obtain⟨a',b',c',d'⟩:=t;have h1:=h.x.symm.trans g.x;simp only[Sc.p.injEq,and_true]at h1;subst h1;have h2:=h.o.symm.trans g.o;simp only[ae.own.injEq,cL,Sc.i.injEq,Sc.mp.injEq,and_true]at h2;obtain⟨h3,h4⟩:=h2;obtain rfl:c=c':=ω
 subst h4;obtain rfl:d=d':=aqB (h.m.symm.trans g.m);rfl
def IT(H:AH)(x:Sc):Option pR:=open Classical in if h:∃s,nd H x s then some h.choose else none
theorem nd.ne{x:Sc}{s:pR}(h:nd H x s):s.id≠s.xF:=λe=>by
 have h1:=h.o;rw[e,h.m]at h1;exact ae.noConfusion h1
theorem nd.aD{x:Sc}{s:pR}(h:nd H x s):s.id<H.length:=eu (by rw[h.o];rfl)
theorem nd.U2{x:Sc}{s:pR}(h:nd H x s):s.xF<H.length:=eu (by rw[h.m];rfl)
theorem nd.app{H:AH}{x:Sc}{s:pR}(h:nd H x s)(X:AH):nd (H++X) x s:=⟨h.x,by rw[cB h.aD];exact h.o,by rw[cB h.U2];exact h.m,h.w,h.n1,h.n2⟩
def pR.to(s:pR)(M:Nat×js):pR:=⟨s.id,s.xF,s.n,M⟩
theorem nd.set{x:Sc}{s:pR}(h:nd H x s){M:Nat×js}(hM:kM s.n M):nd (H.set s.xF (yJ M)) x (s.to M):=⟨h.x,by show hg _ s.id=_;rw[ej h.ne.symm];exact h.o,iN h.U2,hM,h.n1,h.n2⟩
theorem nd.other{x:Sc}{s:pR}(h:nd H x s){i:Nat}{o:ae}(h1:i≠s.id)(h2:i≠s.xF):nd (H.set i o) x s:=⟨h.x,by rw[ej h1];exact h.o,by rw[ej h2];exact h.m,h.w,h.n1,h.n2⟩
theorem aqA:(yJ M).cW.all (Sc.aj n)=true:=by
 simp only[yJ,ae.cW,List.flatMap_map,sZ,KH,AV.cW,LB,fJ,aqj,bK,dY,Sc.aj];exact cE.2 λ_ _=>rfl
theorem nd.aj{x:Sc}{s:pR}(h:nd H x s)(hH:dF H=true):dF (H.set s.xF (yJ M))=true:=py hH aqA
theorem nd.self{x:Sc}{s:pR}(h:nd H x s):H.set s.xF (yJ s.M)=H:=uK h.m h.U2
def aDD(args:List AV)(H:AH):Option AV:=match args with|[.c x]=>(IT H x).map λs=>.c (.i s.n)|_=>none
def Uu(n:Nat)(i:Int):Bool:=decide (0<=i)&&decide (i<n)
def aqo(s:pR)(i:Int):List (BitVec 8):=if Uu s.n i=true then pL s.M.2 i.toNat else Kh
def aDC(args:List AV)(H:AH):Option AV:=match args with|[.c x,.c (.i i)]=>(IT H x).map λs=>.g (CQ (aqo s i))|_=>none
def azz(H:AH)(s:pR)(i:Int)(L:List (BitVec 8)):AH:=if Uu s.n i=true then H.set s.xF (yJ (zg s.M i.toNat L))else H
def aDG(args:List AV)(H:AH):Option (AV×AH):=match args with
 |[.c x,.c (.i i),.g cs]=>match IT H x with
   |some s=>if ab3 cs then some (.c (.b (Uu s.n i)),azz H s i (PB cs))else none|none=>none
 |_=>none
theorem ajc(h:2147483648<=a.toNat):(a-2147483648#64).toNat=iq a:=by
 have e:(2147483648#64).toNat=2147483648:=rfl;rw[xJ];rw[zo,e];have:=a.isLt;omega
def aDA(args:List AV)(H:AH):Option AV:=match args with
 |[.c x,.c (.u a),.c (.i n)]=>match IT H x with
   |some s=>if eC n then some (.c (.b (hasB s.n a n)))else none|none=>none
 |_=>none
def aC5(a:BitVec 64):Bool:=decide (2147483648<=a.toNat)&&decide (iq a<262144)
def Iz(s:pR)(a:BitVec 64)(n:Int):Bool:=decide (n<=8)&&hasB s.n a n
def UR(s:pR)(a:BitVec 64)(n:Int):BitVec 64:=if Iz s a n=true then Md (oY s.M.2) (iq a) n.toNat else 0#64
def aDE(args:List AV)(H:AH):Option AV:=match args with
 |[.c x,.c (.u a),.c (.i n)]=>match IT H x with
   |some s=>if eC n then some (.t [.c (.u (UR s a n)),.c (.b (Iz s a n))])else none|none=>none
 |_=>none
def stH(H:AH)(s:pR)(a:BitVec 64)(n:Int)(v:BitVec 64):AH:=if Iz s a n=true then H.set s.xF (yJ (stM s.M (iq a) n.toNat v))else H
def aDI(args:List AV)(H:AH):Option (AV×AH):=match args with
 |[.c x,.c (.u a),.c (.i n),.c (.u v)]=>match IT H x with
   |some s=>if eC n then some (.c (.b (Iz s a n)),stH H s a n v)else none|none=>none
 |_=>none
def byP(B:Int->BitVec 64)(c:Int)(l:List Pc)(i:Nat):List Pc:=match l.getLast? with|some p=>if(i:Int)≠c/\B i/64#64=p.a/64#64 then l.dropLast++[⟨p.a,p.n+1,p.s⟩]else l++[⟨B i,1,8*i⟩]|none=>l++[⟨B i,1,8*i⟩]
def A7(B:Int->BitVec 64)(c:Int):Nat->List Pc|0=>[]|i+1=>byP B c (A7 B c i) i
theorem amq(l:List Pc)(n:Nat):(l.flatMap u0).all (Sc.aj n)=true:=by rw[sZ];exact cE.2 λ_ _=>rfl
section
variable {α:Type}
def lU(lt:α->α->Bool)(x:α)(P:List α):Nat:=(P.reverse.takeWhile λy=>lt x y).length
def CM(lt:α->α->Bool)(x:α)(P:List α):List α:=P.take (P.length-lU lt x P)++x::P.drop (P.length-lU lt x P)
def kx(lt:α->α->Bool)(A:List α):Nat->List α|0=>[]|i+1=>match A[i]? with|some x=>CM lt x (kx lt A i)|none=>kx lt A i
def jB(lt:α->α->Bool)(A:List α):List α:=kx lt A A.length
theorem agn{p:α->Bool}:∀(l:List α),(l.takeWhile p).length<=l.length
 |[]=>aB _|x::l=>by
   rw[agY];split
   .simp only[cT];have:=agn (p:=p) l;omega
   .simp
theorem Uv{lt:α->α->Bool}{x:α}{P:List α}:lU lt x P<=P.length:=by unfold lU;have:=agn (p:=λy=>lt x y) P.reverse;simpa using this
theorem aoY{lt:α->α->Bool}{x:α}{P:List α}:(CM lt x P).length=P.length+1:=by unfold CM;simp;omega
theorem Wb{lt:α->α->Bool}{A:List α}:∀{i:Nat},i<=A.length->(kx lt A i).length=i
 |0,_=>rfl|i+1,h=>by
   have:A[i]?=some A[i]:=cP ω;simp only[kx,this,aoY,Wb (show i<=A.length by omega)]
theorem agm{p:α->Bool}:∀{l:List α}{k:Nat}{y:α},k<(l.takeWhile p).length->l[k]?=some y->p y=true
 |[],k,y,h,_=>by simp at h|x::l,k,y,h,hy=>by
   rw[agY]at h;split at h
   .cases k with
 |zero=>simp at hy;subst hy;assumption|succ k=>exact agm (l:=l) (k:=k) (by simpa using h) (by simpa using hy)
   .simp at h
theorem agl{p:α->Bool}:∀{l:List α}{y:α},l[(l.takeWhile p).length]?=some y->p y=false
 |[],y,h=>by simp at h|x::l,y,h=>by
   rw[agY]at h;split at h
   .exact agl (l:=l) (by simpa using h)
   .rename_i hp;simp at h;subst h;simpa using hp
theorem ab2{lt:α->α->Bool}{x:α}{P:List α}{k:Nat}{y:α}(h:k<lU lt x P)(hy:P[P.length-1-k]?=some y):lt x y=true:=by
 have hl:=Uv (lt:=lt) (x:=x) (P:=P);refine agm (p:=λy=>lt x y) (l:=P.reverse) (k:=k) h ?_;rw[List.getElem?_reverse ω];exact hy
theorem ab1{lt:α->α->Bool}{x:α}{P:List α}{y:α}(h:lU lt x P<P.length)(hy:P[P.length-1-lU lt x P]?=some y):lt x y=false:=by
 refine agl (p:=λy=>lt x y) (l:=P.reverse) ?_;show P.reverse[lU lt x P]?=_;rw[List.getElem?_reverse h];exact hy
def uF(P:List α)(x:α)(R:List α)(k:Nat):List α:=P.take (P.length-k)++x::(P.drop (P.length-k)++R)
theorem aqO{P R:List α}{x:α}{k:Nat}:(uF P x R k).length=P.length+1+R.length:=by simp[uF];omega
theorem aqQ{P R:List α}{x:α}{k:Nat}(h:k<=P.length):(uF P x R k)[P.length-k]?=some x:=by
 unfold uF;rw[s9 (by simp),show P.length-k-(P.take (P.length-k)).length=0 by simp];rfl
theorem aqR{P R:List α}{x:α}{k:Nat}(h:k<P.length):(uF P x R k)[P.length-k-1]?=P[P.length-1-k]?:=by
 unfold uF;rw[uh (by simp;omega),yb ω];congr 1;omega
theorem aqP{P R:List α}{x y:α}{k:Nat}(h:k<P.length)(hy:P[P.length-1-k]?=some y):((uF P x R k).set (P.length-k) y).set (P.length-k-1) x=uF P x R (k+1):=by
 have hj:P.length-1-k<P.length:=ω
 have hyy:P[P.length-1-k]=y:=by rw[cP hj]at hy;simpa using hy
 have e1:P.take (P.length-k)=P.take (P.length-(k+1))++[y]:=by
  have:P.length-k=P.length-(k+1)+1:=ω
  rw[this,Hp ω];have e:P.length-(k+1)=P.length-1-k:=ω
  simp only[e,hyy]
 have e2:P.drop (P.length-(k+1))=y::P.drop (P.length-k):=by
  rw[Dk ω];have e:P.length-(k+1)=P.length-1-k:=ω
  have e':P.length-1-k+1=P.length-k:=ω
  simp only[e,e',hyy]
 unfold uF;rw[e1,e2];have l1:(P.take (P.length-(k+1))).length=P.length-k-1:=by simp;omega
 generalize P.take (P.length-(k+1))=T at l1|-;have l2:P.length-k=T.length+1:=ω
 have l3:P.length-k-1=T.length:=ω
 rw[l3,l2];simp[List.set_append]
def BU(lt:α->α->Bool)(A:List α)(i:Nat):List α:=kx lt A i++A.drop i
theorem aw0{lt:α->α->Bool}{A:List α}:BU lt A 1=A:=by cases A with|nil=>rfl|cons x l=>simp[BU,kx,CM,lU]
theorem aw2{lt:α->α->Bool}{A:List α}{i:Nat}{x:α}(hx:A[i]?=some x):BU lt A i=uF (kx lt A i) x (A.drop (i+1)) 0:=by
 have hi:i<A.length:=by
  rcases cX i A.length with h|h
  .exact h
  .rw[kf h]at hx;simp at hx
 unfold BU uF;rw[Dk hi,Nat.sub_zero,vH,List.drop_length];rw[cP hi]at hx;simp only[ar]at hx;rw[hx];rfl
theorem afg{lt:α->α->Bool}{A:List α}{i:Nat}{x:α}(hx:A[i]?=some x):uF (kx lt A i) x (A.drop (i+1)) (lU lt x (kx lt A i))=BU lt A (i+1):=by
 unfold BU uF;simp only[kx,hx,CM,fv,lf]
theorem aw1{lt:α->α->Bool}{A:List α}:BU lt A A.length=jB lt A:=by simp[BU,jB]
theorem Yu{lt:α->α->Bool}{A:List α}:(jB lt A).length=A.length:=Wb (aB _)
variable [DecidableEq α]
def sU(A:List α)(i:Nat):Bool:=decide (0<i/\A[i]?=A[i-1]?)
def iE(A:List α):Nat->List α|0=>[]|m+1=>match A[m]? with|some x=>if sU A m=true then iE A m else iE A m++[x]|none=>iE A m
def kj(A:List α):List α:=iE A A.length
theorem HJ{A:List α}:∀{m:Nat},(iE A m).length<=m
 |0=>aB _|m+1=>by
   have:=HJ (A:=A) (m:=m);simp only[iE];split
   .split
    .omega
    .simp;omega
   .omega
theorem aaW{A:List α}{K:Nat}(hK:sU A K=true)(hl:K<A.length):∀{m:Nat},K<m->(iE A m).length<m
 |0,h=>ω|m+1,h=>by
   have h1:=HJ (A:=A) (m:=m);simp only[iE];split
   .split
    .omega
    .rename_i h2;have hm:K<m:=by
      rcases cX K m with h3|h3
      .exact h3
      .obtain rfl:K=m:=ω
       exact(h2 hK).elim
     have:=aaW hK hl hm;simp;omega
   .omega
theorem Td{A:List α}:∀{m:Nat},m<=A.length->(∀i,i<m->sU A i=false)->iE A m=A.take m
 |0,_,_=>by simp[iE]|m+1,h,hn=>by
   have e:A[m]?=some A[m]:=cP ω;simp only[iE,e,hn m ω,dL,if_false];rw[Td ω λi hi=>hn i ω,Hp ω]
def qy(A:List α)(m:Nat):List α:=iE A m++A.drop (iE A m).length
theorem awX{A:List α}{m:Nat}(h:m<=A.length):(qy A m).length=A.length:=by have:=HJ (A:=A) (m:=m);simp[qy];omega
theorem afe{A:List α}{m i:Nat}(h:(iE A m).length<=i):(qy A m)[i]?=A[i]?:=by
 unfold qy;rw[s9 h,td];congr 1;omega
theorem awZ{A:List α}{m:Nat}{x:α}(hx:A[m]?=some x)(hn:sU A m=false)(hl:(iE A m).length<A.length):(qy A m).set (iE A m).length x=qy A (m+1):=by
 have e:iE A (m+1)=iE A m++[x]:=by simp only[iE,hx,hn,dL,if_false]
 unfold qy;rw[e,List.set_append_right _ _ (aB _),Dx,fv,cj];congr 1;rw[Dk hl];rfl
theorem awY{A:List α}{m:Nat}{x:α}(hx:A[m]?=some x)(hn:sU A m=true):qy A (m+1)=qy A m:=by unfold qy;simp only[iE,hx,hn,if_true]
end
structure yf{α:Type}(lt:α->α->Bool):Prop where
 irr:∀x,lt x x=false
 tr:∀x y z,lt x y=true->lt y z=true->lt x z=true
 jq:∀x y,lt x y=false->lt y x=false->x=y
section
variable {α:Type}{lt:α->α->Bool}
theorem yf.aiU{x y:α}(h:yf lt)(hx:lt x y=true):lt y x=false:=by cases e:lt y x with|false=>rfl|true=>have:=h.tr _ _ _ hx e;rw[h.irr]at this;exact this.symm
theorem yf.acn{x y z:α}(h:yf lt)(h1:lt y x=false)(h2:lt y z=true):lt x z=true:=by cases e:lt x y with|true=>exact h.tr _ _ _ e h2|false=>rw[h.jq _ _ e h1];exact h2
theorem yf.apx{x y z:α}(h:yf lt)(h1:lt y x=false)(h2:lt z y=false):lt z x=false:=by cases e:lt z x with
 |false=>rfl|true=>have:=h.acn h2 e;rw[h1]at this;simp at this
theorem aoZ{x y:α}{P:List α}:y∈CM lt x P↔y=x\/y∈P:=by
 unfold CM;have e:y∈P↔y∈P.take (P.length-lU lt x P)\/y∈P.drop (P.length-lU lt x P):=by rw[<-wY,Ho]
 simp only[wY,uT,e];constructor
 .rintro(h|h|h)
  .exact .inr (.inl h)
  .exact .inl h
  .exact .inr (.inr h)
 .rintro(h|h|h)
  .exact .inr (.inl h)
  .exact .inl h
  .exact .inr (.inr h)
theorem ao0{x:α}{P:List α}(h:yf lt)(hP:P.Pairwise λx y=>lt y x=false):(CM lt x P).Pairwise λx y=>lt y x=false:=by
 have hk:=Uv (lt:=lt) (x:=x) (P:=P);have hT:∀y∈P.take (P.length-lU lt x P),lt x y=false:=by
  intro y hy;obtain⟨i,hi⟩:=RH hy;rw[Hj]at hi;split at hi
  .rename_i aG;have hlen:lU lt x P<P.length:=ω
   obtain⟨z,hz⟩:∃z,P[P.length-1-lU lt x P]?=some z:=⟨_,cP ω⟩;have e1:=ab1 hlen hz;rcases cX i (P.length-1-lU lt x P)with h2|h2
   .have:=Za.1 hP i (P.length-1-lU lt x P) ω ω h2;rw[cP ω]at hi hz;simp only[ar]at hi hz;rw[hi,hz]at this;exact h.apx this e1
   .have:i=P.length-1-lU lt x P:=ω
    rw[this,hz]at hi;simp at hi;rw[<-hi];exact e1
  .simp at hi
 have hD:∀y∈P.drop (P.length-lU lt x P),lt x y=true:=by
  intro y hy;obtain⟨i,hi⟩:=RH hy;rw[td]at hi;have aG:P.length-lU lt x P+i<P.length:=by
   rcases cX (P.length-lU lt x P+i) P.length with h|h
   .exact h
   .rw[kf h]at hi;simp at hi
  refine ab2 (P:=P) (k:=P.length-1-(P.length-lU lt x P+i)) ω ?_;rw[show P.length-1-(P.length-1-(P.length-lU lt x P+i))=P.length-lU lt x P+i by omega];exact hi
 unfold CM;rw[agX,List.pairwise_cons];have OW:=hP;rw[<-Ho (P.length-lU lt x P) P,agX]at OW;refine⟨OW.1,⟨λy hy=>h.aiU (hD y hy),OW.2.1⟩,λy hy z hz=>?_⟩;rcases uT.1 hz with rfl|hz
 .exact hT y hy
 .exact OW.2.2 y hy z hz
theorem Wc{A:List α}(h:yf lt):∀{i:Nat},(kx lt A i).Pairwise λx y=>lt y x=false
 |0=>List.Pairwise.nil|i+1=>by
   simp only[kx];split
   .exact ao0 h (Wc h)
   .exact Wc h
theorem ad4{A:List α}{y:α}:∀{i:Nat},i<=A.length->(y∈kx lt A i↔y∈A.take i)
 |0,_=>by simp[kx]|i+1,hi=>by
   have e:A[i]?=some A[i]:=cP ω;simp only[kx,e,aoZ];rw[ad4 (show i<=A.length by omega),Hp ω,wY,wZ];exact Or.comm
theorem az4{A:List α}(h:yf lt):(jB lt A).Pairwise λx y=>lt y x=false:=Wc h
theorem az3{A:List α}{y:α}:y∈jB lt A↔y∈A:=by unfold jB;rw[ad4 (aB _),vH]
def Uw(lt:α->α->Bool)(s:α)(L:List α):Nat:=(L.takeWhile λy=>lt y s).length
variable [DecidableEq α]
theorem aaX{A:List α}(h:yf lt)(hA:A.Pairwise λx y=>lt y x=false):∀{m:Nat},m<=A.length->(iE A m).Pairwise (λx y=>lt x y=true)/\(∀y,y∈iE A m↔y∈A.take m)
 |0,_=>by simp[iE]|m+1,hm=>by
   obtain⟨h1,h2⟩:=aaX h hA (show m<=A.length by omega);have e:A[m]?=some A[m]:=cP ω;have et:A.take (m+1)=A.take m++[A[m]]:=Hp ω;simp only[iE,e,et,wY,wZ];split
   .rename_i ht;refine⟨h1,λy=>?_⟩;rw[h2];refine⟨.inl,λhy=>?_⟩;rcases hy with hy|rfl
    .exact hy
    .unfold sU at ht;simp only[decide_eq_true_eq]at ht;rw[e]at ht;have:(A.take m)[m-1]?=some A[m]:=by rw[yb ω];exact ht.2.symm
     exact Dq this
   .rename_i ht;refine⟨?_,λy=>by rw[wY,wZ,h2]⟩;rw[agX];refine⟨h1,List.pairwise_singleton _ _,λy hy z hz=>?_⟩;rw[wZ]at hz;subst hz;rw[h2]at hy;obtain⟨i,hi⟩:=RH hy;rw[Hj]at hi;split at hi
    .rename_i him;have cZ:A[m-1]'ω≠A[m]:=by
      intro hh;refine ht ?_;unfold sU;simp only[decide_eq_true_eq];exact⟨ω,by rw[e,cP ω,hh]⟩
     have a1:=Za.1 hA (m-1) m ω ω ω;have a2:lt (A[m-1]'ω) A[m]=true:=by cases hq:lt (A[m-1]'ω) A[m]with
 |true=>rfl|false=>exact(cZ (h.jq _ _ hq a1)).elim
     rw[cP ω]at hi;simp only[ar]at hi;rcases cX i (m-1)with h3|h3
     .have:=Za.1 hA i (m-1) ω ω h3;rw[hi]at this;exact h.acn this a2
     .have:i=m-1:=ω
      subst this;rw[<-hi];exact a2
    .simp at hi
theorem al6{A:List α}(h:yf lt)(hA:A.Pairwise λx y=>lt y x=false):(kj A).Pairwise (λx y=>lt x y=true)/\∀y,y∈kj A↔y∈A:=by
 have:=aaX h hA (aB A.length);rw[vH]at this;exact this
def ao1(lt:α->α->Bool)(L:List α)(s:α):List α:=if L[Uw lt s L]?=some s then L else L.take (Uw lt s L)++s::L.drop (Uw lt s L)
theorem al5{A:List α}(hl:(kj A).length=A.length):kj A=A:=by
 have key:∀m,m<=A.length->(iE A m).length=m->iE A m=A.take m:=by
  intro m;induction m with
 |zero=>intro _ _;simp[iE]|succ m ih=>
    intro hm h;have e:A[m]?=some A[m]:=cP ω;have hle:=HJ (A:=A) (m:=m);rw[Hp ω];simp only[iE,e]at h|-;split at h
    .omega
    .rename_i ht;rw[if_neg ht,ih ω (by simpa using h)]
 have:=key A.length (aB _) hl;rw[vH]at this;exact this
end
def zJ(p:Nat->Bool):Nat->Nat|0=>0|n+1=>if zJ p n<n then zJ p n else if p n=true then n else n+1
theorem Tw(p:Nat->Bool):∀n,zJ p n<=n
 |0=>aB _|n+1=>by
   have:=Tw p n;simp only[zJ];repeat' split
   all_goals omega
theorem OG{p:Nat->Bool}:∀{n k:Nat},k<zJ p n->p k=false
 |0,k,h=>by simp[zJ]at h|n+1,k,h=>by
   have l:=Tw p n;simp only[zJ]at h;split at h
   .exact OG h
   .split at h
    .exact OG (n:=n) ω
    .by_cases e:k=n
     .subst e;simpa using‹¬p _=true›
     .exact OG (n:=n) ω
theorem abw{p:Nat->Bool}:∀{n:Nat},zJ p n<n->p (zJ p n)=true
 |0,h=>ω|n+1,h=>by
   simp only[zJ]at h|-;split
   .exact abw ‹_›
   .split
    .assumption
    .rename_i h1 h2;rw[if_neg h1,if_neg h2]at h;omega
theorem agk{α:Type}[DecidableEq α]{A:List α}{i:Nat}{x y:α}(h0:0<i)(hx:A[i]?=some x)(hy:A[i-1]?=some y):sU A i=decide (x=y):=by
 unfold sU;simp[h0,hx,hy]
def tv(x:BitVec 64):Int:=if x.toNat=0 then 0 else if x.toNat<2 then 1 else if x.toNat<4 then 2 else if x.toNat<8 then 3 else 4
def WW(args:List AV):Option AV:=match args with|[.c (.u x)]=>if x.toNat<=12 then some (.c (.i (tv x)))else none|_=>none
theorem axU{x}:WW [.c (.u x)]=if x.toNat<=12 then some (.c (.i (tv x)))else none:=rfl
theorem asw:cK Tryz.prog 218 WW:=by
 refine cR tn Tryz.func218 rfl Tryz.results218 Tryz.ntmps218 ?_;intro args v h;unfold WW at h;split at h
 .rename_i x;split at h
  .rename_i hc;simp only[ar]at h;subst h;refine⟨by simp only[cT,fa];decide,rfl,rfl,?_⟩;have hx:x=0#64\/x=1#64\/x=2#64\/x=3#64\/x=4#64\/x=5#64\/x=6#64\/x=7#64\/x=8#64\/x=9#64\/x=10#64\/x=11#64\/x=12#64:=by simp only[BitVec.toNat_eq,vB];omega
   rcases hx with rfl|rfl|rfl|rfl|rfl|rfl|rfl|rfl|rfl|rfl|rfl|rfl|rfl
   ·(repeat(first|simp(maxSteps:=9^9)only[go_sem,seval]|simp(disch:=omega)only[aq,aV,aU,aT,aS]));generalize hs:vD _=s;have h1:s.size=256:=by rw[<-hs];rfl
    have h2:s.data.getD 0 0=0:=by rw[<-hs];rfl
    have h3:IntKind.u8.wrap 0=0:=by decide
    have h4:tv 0#64=0:=by decide
    have h5:UInt8.toNat 0=0:=by decide
    have h6:s.size<=9223372036854775807:=ω
    (repeat(first|simp(maxSteps:=9^9)only[go_sem,seval,ev,pq,mj,h1,h2,h3,h4,h5,h6,aL,zq]|simp(disch:=omega)only[aq,aV,aU,aT,aS]))
   ·(repeat(first|simp(maxSteps:=9^9)only[go_sem,seval]|simp(disch:=omega)only[aq,aV,aU,aT,aS]));generalize hs:vD _=s;have h1:s.size=256:=by rw[<-hs];rfl
    have h2:s.data.getD 1 0=1:=by rw[<-hs];rfl
    have h3:IntKind.u8.wrap 1=1:=by decide
    have h4:tv 1#64=1:=by decide
    have h5:UInt8.toNat 1=1:=by decide
    have h6:s.size<=9223372036854775807:=ω
    (repeat(first|simp(maxSteps:=9^9)only[go_sem,seval,ev,pq,mj,h1,h2,h3,h4,h5,h6,aL,zq]|simp(disch:=omega)only[aq,aV,aU,aT,aS]))
   ·(repeat(first|simp(maxSteps:=9^9)only[go_sem,seval]|simp(disch:=omega)only[aq,aV,aU,aT,aS]));generalize hs:vD _=s;have h1:s.size=256:=by rw[<-hs];rfl
    have h2:s.data.getD 2 0=2:=by rw[<-hs];rfl
    have h3:IntKind.u8.wrap 2=2:=by decide
    have h4:tv 2#64=2:=by decide
    have h5:UInt8.toNat 2=2:=by decide
    have h6:s.size<=9223372036854775807:=ω
    (repeat(first|simp(maxSteps:=9^9)only[go_sem,seval,ev,pq,mj,h1,h2,h3,h4,h5,h6,aL,zq]|simp(disch:=omega)only[aq,aV,aU,aT,aS]))
   ·(repeat(first|simp(maxSteps:=9^9)only[go_sem,seval]|simp(disch:=omega)only[aq,aV,aU,aT,aS]));generalize hs:vD _=s;have h1:s.size=256:=by rw[<-hs];rfl
    have h2:s.data.getD 3 0=2:=by rw[<-hs];rfl
    have h3:IntKind.u8.wrap 3=3:=by decide
    have h4:tv 3#64=2:=by decide
    have h5:UInt8.toNat 2=2:=by decide
    have h6:s.size<=9223372036854775807:=ω
    (repeat(first|simp(maxSteps:=9^9)only[go_sem,seval,ev,pq,mj,h1,h2,h3,h4,h5,h6,aL,zq]|simp(disch:=omega)only[aq,aV,aU,aT,aS]))
   ·(repeat(first|simp(maxSteps:=9^9)only[go_sem,seval]|simp(disch:=omega)only[aq,aV,aU,aT,aS]));generalize hs:vD _=s;have h1:s.size=256:=by rw[<-hs];rfl
    have h2:s.data.getD 4 0=3:=by rw[<-hs];rfl
    have h3:IntKind.u8.wrap 4=4:=by decide
    have h4:tv 4#64=3:=by decide
    have h5:UInt8.toNat 3=3:=by decide
    have h6:s.size<=9223372036854775807:=ω
    (repeat(first|simp(maxSteps:=9^9)only[go_sem,seval,ev,pq,mj,h1,h2,h3,h4,h5,h6,aL,zq]|simp(disch:=omega)only[aq,aV,aU,aT,aS]))
   ·(repeat(first|simp(maxSteps:=9^9)only[go_sem,seval]|simp(disch:=omega)only[aq,aV,aU,aT,aS]));generalize hs:vD _=s;have h1:s.size=256:=by rw[<-hs];rfl
    have h2:s.data.getD 5 0=3:=by rw[<-hs];rfl
    have h3:IntKind.u8.wrap 5=5:=by decide
    have h4:tv 5#64=3:=by decide
    have h5:UInt8.toNat 3=3:=by decide
    have h6:s.size<=9223372036854775807:=ω
    (repeat(first|simp(maxSteps:=9^9)only[go_sem,seval,ev,pq,mj,h1,h2,h3,h4,h5,h6,aL,zq]|simp(disch:=omega)only[aq,aV,aU,aT,aS]))
   ·(repeat(first|simp(maxSteps:=9^9)only[go_sem,seval]|simp(disch:=omega)only[aq,aV,aU,aT,aS]));generalize hs:vD _=s;have h1:s.size=256:=by rw[<-hs];rfl
    have h2:s.data.getD 6 0=3:=by rw[<-hs];rfl
    have h3:IntKind.u8.wrap 6=6:=by decide
    have h4:tv 6#64=3:=by decide
    have h5:UInt8.toNat 3=3:=by decide
    have h6:s.size<=9223372036854775807:=ω
    (repeat(first|simp(maxSteps:=9^9)only[go_sem,seval,ev,pq,mj,h1,h2,h3,h4,h5,h6,aL,zq]|simp(disch:=omega)only[aq,aV,aU,aT,aS]))
   ·(repeat(first|simp(maxSteps:=9^9)only[go_sem,seval]|simp(disch:=omega)only[aq,aV,aU,aT,aS]));generalize hs:vD _=s;have h1:s.size=256:=by rw[<-hs];rfl
    have h2:s.data.getD 7 0=3:=by rw[<-hs];rfl
    have h3:IntKind.u8.wrap 7=7:=by decide
    have h4:tv 7#64=3:=by decide
    have h5:UInt8.toNat 3=3:=by decide
    have h6:s.size<=9223372036854775807:=ω
    (repeat(first|simp(maxSteps:=9^9)only[go_sem,seval,ev,pq,mj,h1,h2,h3,h4,h5,h6,aL,zq]|simp(disch:=omega)only[aq,aV,aU,aT,aS]))
   ·(repeat(first|simp(maxSteps:=9^9)only[go_sem,seval]|simp(disch:=omega)only[aq,aV,aU,aT,aS]));generalize hs:vD _=s;have h1:s.size=256:=by rw[<-hs];rfl
    have h2:s.data.getD 8 0=4:=by rw[<-hs];rfl
    have h3:IntKind.u8.wrap 8=8:=by decide
    have h4:tv 8#64=4:=by decide
    have h5:UInt8.toNat 4=4:=by decide
    have h6:s.size<=9223372036854775807:=ω
    (repeat(first|simp(maxSteps:=9^9)only[go_sem,seval,ev,pq,mj,h1,h2,h3,h4,h5,h6,aL,zq]|simp(disch:=omega)only[aq,aV,aU,aT,aS]))
   ·(repeat(first|simp(maxSteps:=9^9)only[go_sem,seval]|simp(disch:=omega)only[aq,aV,aU,aT,aS]));generalize hs:vD _=s;have h1:s.size=256:=by rw[<-hs];rfl
    have h2:s.data.getD 9 0=4:=by rw[<-hs];rfl
    have h3:IntKind.u8.wrap 9=9:=by decide
    have h4:tv 9#64=4:=by decide
    have h5:UInt8.toNat 4=4:=by decide
    have h6:s.size<=9223372036854775807:=ω
    (repeat(first|simp(maxSteps:=9^9)only[go_sem,seval,ev,pq,mj,h1,h2,h3,h4,h5,h6,aL,zq]|simp(disch:=omega)only[aq,aV,aU,aT,aS]))
   ·(repeat(first|simp(maxSteps:=9^9)only[go_sem,seval]|simp(disch:=omega)only[aq,aV,aU,aT,aS]));generalize hs:vD _=s;have h1:s.size=256:=by rw[<-hs];rfl
    have h2:s.data.getD 10 0=4:=by rw[<-hs];rfl
    have h3:IntKind.u8.wrap 10=10:=by decide
    have h4:tv 10#64=4:=by decide
    have h5:UInt8.toNat 4=4:=by decide
    have h6:s.size<=9223372036854775807:=ω
    (repeat(first|simp(maxSteps:=9^9)only[go_sem,seval,ev,pq,mj,h1,h2,h3,h4,h5,h6,aL,zq]|simp(disch:=omega)only[aq,aV,aU,aT,aS]))
   ·(repeat(first|simp(maxSteps:=9^9)only[go_sem,seval]|simp(disch:=omega)only[aq,aV,aU,aT,aS]));generalize hs:vD _=s;have h1:s.size=256:=by rw[<-hs];rfl
    have h2:s.data.getD 11 0=4:=by rw[<-hs];rfl
    have h3:IntKind.u8.wrap 11=11:=by decide
    have h4:tv 11#64=4:=by decide
    have h5:UInt8.toNat 4=4:=by decide
    have h6:s.size<=9223372036854775807:=ω
    (repeat(first|simp(maxSteps:=9^9)only[go_sem,seval,ev,pq,mj,h1,h2,h3,h4,h5,h6,aL,zq]|simp(disch:=omega)only[aq,aV,aU,aT,aS]))
   ·(repeat(first|simp(maxSteps:=9^9)only[go_sem,seval]|simp(disch:=omega)only[aq,aV,aU,aT,aS]));generalize hs:vD _=s;have h1:s.size=256:=by rw[<-hs];rfl
    have h2:s.data.getD 12 0=4:=by rw[<-hs];rfl
    have h3:IntKind.u8.wrap 12=12:=by decide
    have h4:tv 12#64=4:=by decide
    have h5:UInt8.toNat 4=4:=by decide
    have h6:s.size<=9223372036854775807:=ω
    (repeat(first|simp(maxSteps:=9^9)only[go_sem,seval,ev,pq,mj,h1,h2,h3,h4,h5,h6,aL,zq]|simp(disch:=omega)only[aq,aV,aU,aT,aS]))
  .simp at h
 .simp at h
def WV(args:List AV):Option AV:=match args with|[.c (.u x)]=>if x.toNat<=12 then some (.c (.i (tv x)))else none|_=>none
theorem axV{x}:WV [.c (.u x)]=if x.toNat<=12 then some (.c (.i (tv x)))else none:=rfl
theorem asv:cK Tryz.prog 202 WV:=by
 refine cR (tu asw tn) Tryz.func202 rfl Tryz.results202 Tryz.ntmps202 ?_;intro args v h;unfold WV at h;split at h
 .rename_i x;split at h
  .rename_i hc;simp only[ar]at h;subst h;refine⟨by simp,rfl,rfl,?_⟩;simp only[go_sem,seval,axU,hc]
  .simp at h
 .simp at h
theorem awE{α:Type}{n:Nat}{x:α}:(bD n [x]).flatten=bD n x:=by induction n with|zero=>rfl|succ n ih=>simp[List.replicate_succ,ih]
def sV{α:Type}(dc:List Sc->Option α)(H:AH):Sc->Option (List α)
 |.az=>some []|.sl id 0 v n=>match hg H id with
   |.vec 1 cs=>if v=cs.length/\n=cs.length then tF 1 dc n cs else none|_=>none
 |_=>none
def wE(H:AH)(x:Sc)(cs:List Sc):AH:=match x with|.sl id _ _ _=>H.set id (.vec 1 cs)|_=>H
variable {cs:List Sc}
theorem P3{x:Sc}:(wE H x cs).length=H.length:=by unfold wE;split<;>simp
theorem abp{α:Type}{g:α->Sc}(L:List α):L.flatMap (λx=>[g x])=L.map g:=by induction L with|nil=>rfl|cons x l ih=>simp[ih]
theorem G7{α:Type}{dc:List Sc->Option α}{g:α->Sc}(hd:∀cs x,dc cs=some x->cs=[g x]){H:AH}{x:Sc}{L:List α}(h:sV dc H x=some L):(x=.az/\L=[])\/∃id,x=.sl id 0 L.length L.length/\hg H id=.vec 1 (L.map g):=by
 unfold sV at h;split at h
 .simp at h;exact .inl ⟨rfl,h⟩
 .rename_i id v n;split at h
  .rename_i cs ho;split at h
   .rename_i hc;obtain⟨e1,e2⟩:=On (w:=1) (f:=λx=>[g x]) hd n cs L ω h;rw[abp]at e2;exact .inr ⟨id,by rw[hc.1,<-hc.2,e1],by rw[ho,e2]⟩
   .simp at h
  .simp at h
 .simp at h
theorem agu{α:Type}{dc:List Sc->Option α}{g:α->Sc}(hd:∀x,dc [g x]=some x){id v n:Nat}{L:List α}(ho:hg H id=.vec 1 (L.map g))(hv:v=L.length)(hn:n=L.length):sV dc H (.sl id 0 v n)=some L:=by
 subst hv;subst hn;simp only[sV,ho,ui,and_self,if_true];have:=FB (w:=1) (f:=λx=>[g x]) (dc:=dc) (λ_=>rfl) hd L;rw[abp]at this;exact this
def gI(x:Int):Sc:=.i x
def gU(x:BitVec 64):Sc:=.u x
theorem HY(x:BitVec 64):(gU x).num=true:=rfl
theorem FG(cs:List Sc)(x:BitVec 64)(h:sc cs=some x):cs=[gU x]:=al0 cs x h
def slP{α:Type}(dc:List Sc->Option α)(H:AH):Sc->Option (List α)|.az=>some []|.sl id 0 v n=>if v=(hg H id).row/\n<=(hg H id).cells.length then tF 1 dc n ((hg H id).cells.take n)else none|_=>none
def aDt(args:List AV)(H:AH):Option AV:=match args with
 |[.c x,.c y]=>match slP Kz H x,slP Kz H y with
   |some A,some B=>if A=B/\A.length<=1000000 then some (.c (.b true))else none|_,_=>none
 |_=>none
def fA(x y:(BitVec 64)):Bool:=decide (x<y)
def Xy(args:List AV):Option AV:=match args with|[.c (.u x)]=>some (.c (.b false))|_=>none
theorem ayF{x}:Xy [.c (.u x)]=some (.c (.b false)):=rfl
theorem atD:cK Tryz.prog 229 Xy:=by
 refine cR tn Tryz.func229 rfl Tryz.results229 Tryz.ntmps229 ?_;intro args v h;unfold Xy at h;split at h
 .rename_i x;simp only[ar]at h;subst h;refine⟨by simp only[cT,fa];decide,rfl,rfl,?_⟩;(repeat(first|simp(maxSteps:=9^9)only[go_sem,seval]|simp(disch:=omega)only[aq,aV,aU,aT,aS]))
 .simp at h
def Xn(args:List AV):Option AV:=match args with|[.c (.u x),.c (.u y)]=>some (.c (.b (decide (x<y))))|_=>none
theorem MJ{x y}:Xn [.c (.u x),.c (.u y)]=some (.c (.b (decide (x<y)))):=rfl
theorem atr:cK Tryz.prog 214 Xn:=by
 refine cR (tu atD tn) Tryz.func214 rfl Tryz.results214 Tryz.ntmps214 ?_;intro args v h;unfold Xn at h;split at h
 .rename_i x y;simp only[ar]at h;subst h;refine⟨by simp only[cT,fa];decide,rfl,rfl,?_⟩;(repeat(first|simp(maxSteps:=9^9)only[go_sem,seval,ayF]|simp(disch:=omega)only[aq,aV,aU,aT,aS]))
 .simp at h
def BV(args:List AV)(H:AH):Option (AV×AH):=match args with
 |[.c x,.c (.i 0),.c (.i n)]=>match sV sc H x with
   |some A=>if n=A.length/\A.length<=12 then some (.t [],wE H x ((jB fA A).map gU))else none|none=>none
 |_=>none
theorem acp(args:List AV)(H:AH)(v:AV)(H1:AH)(h:BV args H=some (v,H1)):H.length<=H1.length:=by
 unfold BV at h;repeat' split at h
 all_goals simp at h
 rw[<-h.2,P3];exact aB _
theorem ayy{H:AH}{x:Sc}{A:List (BitVec 64)}{n:Int}(hA:sV sc H x=some A)(hn:n=A.length)(hl:A.length<=12):BV [.c x,.c (.i 0),.c (.i n)] H=some (.t [],wE H x ((jB fA A).map gU)):=by simp only[BV,hA,hn,hl,and_self,if_true]
theorem ato:bh Tryz.prog 208 BV:=by
 refine gJ (s:=BV) (tu atr tn) Tryz.func208 rfl Tryz.results208 Tryz.ntmps208 acp ?_;intro args H v H1 h b9 hH;unfold BV at h;split at h
 .rename_i x n;split at h
  .rename_i A hA;split at h
   .rename_i hc;obtain⟨rfl,hl⟩:=hc;simp only[ar,bE]at h;obtain⟨rfl,rfl⟩:=h;refine⟨by simp only[cT,fa];decide,?_⟩;rcases G7 FG hA with⟨rfl,rfl⟩|⟨id,rfl,ho⟩
    ·(repeat(first|simp(maxSteps:=9^9)only[go_sem,seval,fa]|simp(disch:=omega)only[aq,aV,aU,aT,aS]));refine fB 0 (λ_=>([(0,.c .az),(1,.c (.i 0)),(2,.c (.i 0)),(6,.c (.i 1))],H)) ?_ λj hj=>?_
     .exact Wk.wk (aB _) (by simp[Am.get]) (by rfl) (aE _) hH
     ·(repeat(first|simp(maxSteps:=9^9)only[go_sem,seval]|simp(disch:=omega)only[aq,aV,aU,aT,aS]));exact cY rfl (aE _) hH (aB _)
    .have aD:id<H.length:=eu (by rw[ho];rfl);let O:List (BitVec 64)->AH:=λL=>H.set id (.vec 1 (L.map gU));have gO:∀L,hg (O L) id=.vec 1 (L.map gU):=λL=>iN aD;have sO:∀L M,(O L).set id (.vec 1 (M.map gU))=O M:=λL M=>yd ..;have lO:∀L,(O L).length=H.length:=λL=>iR;have bO:∀L,dF (O L)=true:=λL=>py hH (IC HY L _);have h1:O A=H:=uK ho aD;have fin:wE H (.sl id 0 A.length A.length) ((jB fA A).map gU)=O (jB fA A):=rfl;rw[fin];clear_value O;(repeat(first|simp(maxSteps:=9^9)only[go_sem,seval]|simp(disch:=omega)only[aq,aV,aU,aT,aS]));refine fB (A.length-1) (λj=>([(0,.c (.sl id 0 A.length A.length)),(1,.c (.i 0)),(2,.c (.i A.length)),(6,.c (.i (j+1:Nat)))],O (BU fA A (j+1)))) ?_ λj hj=>?_
     .rw[aw0,h1];exact Wk.wk (aB _) (by simp[Am.get]) (by simp[AV.aj,Sc.aj,aD]) (aE _) hH
     .by_cases aG:j+1<A.length
      .obtain⟨a,ha⟩:∃a,A[j+1]?=some a:=⟨_,cP aG⟩;have ec:((j+1:Nat):Int)<A.length:=ω
       (repeat(first|simp(maxSteps:=9^9)only[go_sem,seval,ec]|simp(disch:=omega)only[aq,aV,aU,aT,aS]));have lP:(kx fA A (j+1)).length=j+1:=Wb ω;have kP:=Uv (lt:=fA) (x:=a) (P:=kx fA A (j+1));rw[aw2 ha];refine fB (lU fA a (kx fA A (j+1))) (λk=>([(0,.c (.sl id 0 A.length A.length)),(1,.c (.i 0)),(2,.c (.i A.length)),(6,.c (.i (j+1:Nat))),(7,.c (.i (j+1-k:Nat)))],O (uF (kx fA A (j+1)) a (A.drop (j+2)) k))) ?_ λk hk=>?_
       .exact Wk.wk (by simp[lo,lO]) (by simp[Am.get]) (by simp[AV.aj,Sc.aj,aD,lO]) (aE _) (bO _)
       .have lM:(uF (kx fA A (j+1)) a (A.drop (j+2)) k).length=A.length:=by rw[aqO,lP];simp;omega
        by_cases hz:k<j+1
        .obtain⟨y,hy⟩:∃y,(kx fA A (j+1))[(kx fA A (j+1)).length-1-k]?=some y:=⟨_,cP ω⟩;have m1:=aqQ (R:=A.drop (j+2)) (x:=a) (k:=k) (P:=kx fA A (j+1)) ω;have m2:=aqR (R:=A.drop (j+2)) (x:=a) (k:=k) (P:=kx fA A (j+1)) ω;have st:=aqP (R:=A.drop (j+2)) (x:=a) (k:=k) (P:=kx fA A (j+1)) ω hy;have kg:=ab2 (lt:=fA) (x:=a) (P:=kx fA A (j+1)) (k:=k) (y:=y);have ke:=ab1 (lt:=fA) (x:=a) (P:=kx fA A (j+1)) (y:=y);have en:=afg (lt:=fA) ha;rw[hy]at m2;rw[lP]at m1 m2 st;have w1:aA ((j+1-k:Nat)-1)=((j+1-k-1:Nat):Int):=by rw[aq ω ω];omega
         generalize hL:uF (kx fA A (j+1)) a (A.drop (j+2)) k=L at*;generalize hq:j+1-k=q at*;have q0:(0:Int)<q:=ω
         have q1:(q:Int)<A.length:=ω
         have q2:((q-1:Nat):Int)<A.length:=ω
         have q3:(0:Int)<=((q-1:Nat):Int):=ω
         have q4:(0:Int)<=(q:Int):=ω
         have q5:q+1<=A.length:=ω
         have q6:q-1+1<=A.length:=ω
         have c1:=ID (g:=gU) m1;have c2:=ID (g:=gU) m2;have r1:wr (L.map gU) q [.u y]=(L.set q y).map gU:=Y1 (g:=gU) ω;have r2:wr ((L.set q y).map gU) (q-1) [.u a]=((L.set q y).set (q-1) a).map gU:=Y1 (g:=gU) (by simp;omega);(repeat(first|simp(maxSteps:=9^9)only[go_sem,seval,MJ,w1,q0,q1,q2,q3,q4,q5,q6,gO,lM,ui,aL,c1,c2,gU]|simp(disch:=omega)only[aq,aV,aU,aT,aS]));by_cases iG:k<lU fA a (kx fA A (j+1))
         .have dy:a<y:=by
           have:=kg iG (by rw[<-hy]);simpa[fA]using this
          (repeat(first|simp(maxSteps:=9^9)only[go_sem,seval,MJ,dy,w1,q0,q1,q2,q3,q4,q5,q6,gO,sO,lM,ui,iR,aL,c1,c2,r1,r2,gU]|simp(disch:=omega)only[aq,aV,aU,aT,aS]));refine⟨by repeat' first|apply cf|(intro _;kernel_rfl),?_⟩;(repeat(first|simp(maxSteps:=9^9)only[go_sem,seval,MJ,dy,w1,q0,q1,q2,q3,q4,q5,q6,gO,sO,lM,ui,iR,aL,c1,c2,r1,r2,gU,st]|simp(disch:=omega)only[aq,aV,aU,aT,aS]));refine⟨by repeat' first|apply cf|(intro _;kernel_rfl),k+1,ω,ω,Wk.wk (by simp[lo,lO]) ?_ (by simp[AV.aj,Sc.aj,aD,lO]) (aE _) (bO _)⟩;have w2:j+1-(k+1)=q-1:=ω
          simp[Am.get,w2]
         .obtain rfl:k=lU fA a (kx fA A (j+1)):=ω
          have dy:¬a<y:=by
           have:=ke ω (by rw[<-hy]);simpa[fA]using this
          (repeat(first|simp(maxSteps:=9^9)only[go_sem,seval,MJ,dy,w1]|simp(disch:=omega)only[aq,aV,aU,aT,aS]));rw[<-hL,en];refine⟨j+1,ω,ω,Wk.wk (by simp[lo,lO]) ?_ (by simp[AV.aj,Sc.aj,aD,lO]) (aE _) (bO _)⟩;simp[Am.get]
        .have hq:j+1-k=0:=ω
         obtain rfl:k=lU fA a (kx fA A (j+1)):=ω
         have en:=afg (lt:=fA) ha;(repeat(first|simp(maxSteps:=9^9)only[go_sem,seval,MJ,hq,Int.natCast_zero]|simp(disch:=omega)only[aq,aV,aU,aT,aS]));rw[en];refine⟨j+1,ω,ω,Wk.wk (by simp[lo,lO]) ?_ (by simp[AV.aj,Sc.aj,aD,lO]) (aE _) (bO _)⟩;simp[Am.get]
      .have ec:¬((j+1:Nat):Int)<A.length:=ω
       have e2:BU fA A (j+1)=jB fA A:=by
        rcases cX 0 A.length with h0|h0
        .rw[show j+1=A.length by omega,aw1]
        .obtain rfl:A=[]:=List.eq_nil_of_length_eq_zero ω;obtain rfl:j=0:=by simpa using hj
         rfl
       (repeat(first|simp(maxSteps:=9^9)only[go_sem,seval,ec,e2]|simp(disch:=omega)only[aq,aV,aU,aT,aS]));exact cY rfl (aE _) (bO _) (by rw[lO];exact aB _)
   .simp at h
  .simp at h
 .simp at h
def Jt(args:List AV)(H:AH):Option (AV×AH):=match args with|[.c x,.c (.i 0),.c (.i n),.c (.i _)]=>BV [.c x,.c (.i 0),.c (.i n)] H|_=>none
theorem apT(args:List AV)(H:AH)(v:AV)(H1:AH)(h:Jt args H=some (v,H1)):H.length<=H1.length:=by
 unfold Jt at h;split at h
 .exact acp _ _ _ _ h
 .simp at h
theorem afu{H:AH}{x:Sc}{A:List (BitVec 64)}{n m:Int}(hA:sV sc H x=some A)(hn:n=A.length)(hl:A.length<=12):Jt [.c x,.c (.i 0),.c (.i n),.c (.i m)] H=some (.t [],wE H x ((jB fA A).map gU)):=ayy hA hn hl
theorem apb{H H1:AH}{x:Sc}{n:Int}{v:AV}(h:BV [.c x,.c (.i 0),.c (.i n)] H=some (v,H1)):∃A,sV sc H x=some A/\n=A.length/\A.length<=12/\v=.t []/\H1=wE H x ((jB fA A).map gU):=by
 simp only[BV]at h;split at h
 .rename_i A hA;split at h
  .rename_i hc;simp only[ar,bE]at h;exact⟨A,hA,hc.1,hc.2,h.1.symm,h.2.symm⟩
  .simp at h
 .simp at h
theorem af6{H:AH}{x:Sc}{A B:List (BitVec 64)}(hH:dF H=true)(hA:sV sc H x=some A):dF (wE H x (B.map gU))=true:=by
 rcases G7 FG hA with⟨rfl,rfl⟩|⟨id,rfl,ho⟩
 .exact hH
 .exact py hH (IC HY B _)
theorem aBA{H:AH}{x:Sc}{A:List (BitVec 64)}(hA:sV sc H x=some A):x.aj H.length=true:=by
 rcases G7 FG hA with⟨rfl,rfl⟩|⟨id,rfl,ho⟩
 .rfl
 .simpa[Sc.aj]using eu (H:=H) (i:=id) (by rw[ho];rfl)
theorem atG:bh Tryz.prog 201 Jt:=by
 refine gJ (s:=Jt) (tp ato tn) Tryz.func201 rfl Tryz.results201 Tryz.ntmps201 apT ?_;intro args H v H1 h b9 hH;unfold Jt at h;split at h
 .rename_i x n m;have h0:=h;obtain⟨A,hA,rfl,hl,rfl,rfl⟩:=apb h;refine⟨by simp only[cT,fa];decide,?_⟩;(repeat(first|simp(maxSteps:=9^9)only[go_sem,seval]|simp(disch:=omega)only[aq,aV,aU,aT,aS]));refine fB 0 (λ_=>([(0,.c x),(1,.c (.i 0)),(2,.c (.i A.length))],H)) ?_ λj hj=>?_
  .exact Wk.wk (aB _) (by simp[Am.get]) (by simp only[bK,dY,AV.aj,aBA hA];rfl) (aE _) hH
  .have w1:aA ((A.length:Int)-0)=A.length:=by rw[aq ω ω];omega
   have c1:(A.length:Int)<=12:=ω
   (repeat(first|simp(maxSteps:=9^9)only[go_sem,seval,w1,c1,h0]|simp(disch:=omega)only[aq,aV,aU,aT,aS]));exact cY rfl (aE _) (af6 hH hA) (by rw[P3];exact aB _)
 .simp at h
def EF(args:List AV)(H:AH):Option (AV×AH):=match args with
 |[.c x]=>match sV sc H x with
   |some A=>if A.length<=12 then some (.t [],wE H x ((jB fA A).map gU))else none|none=>none
 |_=>none
theorem ap7(args:List AV)(H:AH)(v:AV)(H1:AH)(h:EF args H=some (v,H1)):H.length<=H1.length:=by
 unfold EF at h;repeat' split at h
 all_goals simp at h
 rw[<-h.2,P3];exact aB _
theorem JD{H:AH}{x:Sc}{A:List (BitVec 64)}(hA:sV sc H x=some A)(hl:A.length<=12):EF [.c x] H=some (.t [],wE H x ((jB fA A).map gU)):=by simp only[EF,hA,hl,if_true]
theorem auz:bh Tryz.prog 176 EF:=by
 refine gJ (s:=EF) (tu asv (tp atG tn)) Tryz.func176 rfl Tryz.results176 Tryz.ntmps176 ap7 ?_;intro args H v H1 h b9 hH;unfold EF at h;split at h
 .rename_i x;split at h
  .rename_i A hA;split at h
   .rename_i hl;simp only[ar,bE]at h;obtain⟨rfl,rfl⟩:=h;refine⟨by simp only[cT,fa];decide,?_⟩;have xl:∀e,nH (.sl e) (.c x)=some (.c (.i A.length)):=by
     intro e;rcases G7 FG hA with⟨rfl,rfl⟩|⟨id2,rfl,ho⟩<;>rfl
    have xa:∀(l:Array Operand)(ts:List Nat)(t:Nat)(aa:ja),cU Tryz.prog aa (.call ⟨.builtin .len,l,(t::ts).toArray⟩) [.c x] H=(Ac Tryz.prog t (.c x)).map λv=>(v,H):=by
     intro l ts t aa;rcases G7 FG hA with⟨rfl,rfl⟩|⟨id2,rfl,ho⟩
     .exact ZE
     .exact ZF
    have xb:uO [.c x]=.no:=by rcases G7 FG hA with⟨rfl,rfl⟩|⟨id2,rfl,ho⟩<;>rfl
    have e1:(aw 64 (A.length:Int)).toNat<=12:=by rw[mf];omega
    have p1:=λm=>afu (m:=m) hA rfl hl;(repeat(first|simp(maxSteps:=9^9)only[go_sem,seval,axV,afu,xa,xb,xl,e1,p1]|simp(disch:=omega)only[aq,aV,aU,aT,aS]));exact cY rfl (aE _) (af6 hH hA) (by rw[P3];exact aB _)
   .simp at h
  .simp at h
 .simp at h
def tD(A:List (BitVec 64)):List Sc:=(kj A).map gU++bD (A.length-(kj A).length) (gU 0#64)
def uY(H:AH)(x:Sc)(A:List (BitVec 64)):Sc×AH:=if(kj A).length=A.length then(x,H)else match x with|.sl id o v _=>(.sl id o v (kj A).length,H.set id (.vec 1 (tD A)))|x=>(x,H)
def El(args:List AV)(H:AH):Option (AV×AH):=match args with
 |[.c x]=>match sV sc H x with
   |some A=>if A.length<=12 then some (.c (uY H x A).1,(uY H x A).2)else none|none=>none
 |_=>none
theorem akD{H:AH}{x:Sc}{A:List (BitVec 64)}:(uY H x A).2.length=H.length:=by
 unfold uY;repeat' split
 all_goals simp
theorem apF(args:List AV)(H:AH)(v:AV)(H1:AH)(h:El args H=some (v,H1)):H.length<=H1.length:=by
 unfold El at h;repeat' split at h
 all_goals simp at h
 rw[<-h.2,akD];exact aB _
theorem Jb{H:AH}{x:Sc}{A:List (BitVec 64)}(hA:sV sc H x=some A)(hl:A.length<=12):El [.c x] H=some (.c (uY H x A).1,(uY H x A).2):=by simp only[El,hA,hl,if_true]
theorem asF:bh Tryz.prog 177 El:=by
 refine gJ (s:=El) tn Tryz.func177 rfl Tryz.results177 Tryz.ntmps177 apF ?_;intro args H v H1 h b9 hH;unfold El at h;split at h
 .rename_i x;split at h
  .rename_i A hA;split at h
   .rename_i hl;simp only[ar,bE]at h;obtain⟨rfl,rfl⟩:=h;refine⟨by simp only[cT,fa];decide,?_⟩;rcases G7 FG hA with⟨rfl,rfl⟩|⟨id,rfl,ho⟩
    ·(repeat(first|simp(maxSteps:=9^9)only[go_sem,seval]|simp(disch:=omega)only[aq,aV,aU,aT,aS]));exact cY rfl (aE _) hH (aB _)
    .have aD:id<H.length:=eu (by rw[ho];rfl);by_cases h2:A.length<2
     .have e1:(A.length:Int)<2:=ω
      have e2:uY H (.sl id 0 A.length A.length) A=(.sl id 0 A.length A.length,H):=by
       unfold uY;rw[if_pos];match A,h2 with
 |[],_=>rfl|[a],_=>simp[kj,iE,sU]
      (repeat(first|simp(maxSteps:=9^9)only[go_sem,seval,e1,e2]|simp(disch:=omega)only[aq,aV,aU,aT,aS]));exact cY (by simp[AV.aj,Sc.aj,aD]) (aE _) hH (aB _)
     .have e1:¬(A.length:Int)<2:=ω
      let O:List (BitVec 64)->AH:=λL=>H.set id (.vec 1 (L.map gU));have gO:∀L,hg (O L) id=.vec 1 (L.map gU):=λL=>iN aD;have sO:∀L M,(O L).set id (.vec 1 (M.map gU))=O M:=λL M=>yd ..;have sC:∀L cs,(O L).set id (.vec 1 cs)=H.set id (.vec 1 cs):=λL cs=>yd ..;have lO:∀L,(O L).length=H.length:=λL=>iR;have bO:∀L,dF (O L)=true:=λL=>py hH (IC HY L _);have h1:O A=H:=uK ho aD;clear_value O;have kle:=Tw (sU A) A.length;have UJ:=λk h=>OG (p:=sU A) (n:=A.length) (k:=k) h;have acb:=abw (p:=sU A) (n:=A.length);generalize hK:zJ (sU A) A.length=K at*;have k1:1<=K:=by
       rcases cX 0 K with h|h
       .exact h
       .obtain rfl:K=0:=ω
        have:=acb ω;simp[sU]at this
      have aCJ:∀m,(iE A m).length<=m:=λm=>HJ;(repeat(first|simp(maxSteps:=9^9)only[go_sem,seval,e1]|simp(disch:=omega)only[aq,aV,aU,aT,aS]));refine fB (K-1) (λj=>([(0,.c (.sl id 0 A.length A.length)),(3,.c (.i (j+1:Nat)))],O A)) ?_ λj hj=>?_
      .rw[h1];exact Wk.wk (aB _) (by simp[Am.get]) (by simp[AV.aj,Sc.aj,aD]) (aE _) hH
      .by_cases aG:j+1<A.length
       .obtain⟨a,ha⟩:∃a,A[j+1]?=some a:=⟨_,cP aG⟩;obtain⟨b,hb⟩:∃b,A[j]?=some b:=⟨_,cP ω⟩;have ec:((j+1:Nat):Int)<A.length:=ω
        have w1:aA ((j+1:Nat)-1)=(j:Nat):=by rw[aq ω ω];omega
        have tw:=agk ω ha (y:=b) (by simpa using hb);have c1:=ID (g:=gU) ha;have c2:=ID (g:=gU) hb;have q1:(0:Int)<=((j+1:Nat):Int):=ω
        have q2:(0:Int)<=(j:Int):=ω
        have q3:(j:Int)<A.length:=ω
        have q4:j+1+1<=A.length:=ω
        have q5:j+1<=A.length:=ω
        have q6:((j+1:Nat):Int)<=A.length:=ω
        (repeat(first|simp(maxSteps:=9^9)only[go_sem,seval,ec,w1,gO,c1,c2,ui,aL,q1,q2,q3,q4,q5,gU]|simp(disch:=omega)only[aq,aV,aU,aT,aS]));by_cases hjk:j+1<K
        .have S9:¬a=b:=by
          have:=UJ _ hjk;rw[tw]at this;simpa using this
         (repeat(first|simp(maxSteps:=9^9)only[go_sem,seval,S9]|simp(disch:=omega)only[aq,aV,aU,aT,aS]));refine⟨j+1,ω,ω,Wk.wk (by simp[lo,lO]) ?_ (by simp[AV.aj,Sc.aj,aD,lO]) (aE _) (bO _)⟩;simp[Am.get]
        .obtain rfl:K=j+1:=ω
         have tk:=acb aG;have S9:a=b:=by rw[tw]at tk;simpa using tk
         have dd0:iE A (j+1)=A.take (j+1):=Td ω UJ;have nX:iE A (j+2)=A.take (j+1):=by simp only[iE,ha,tk,if_true]at dd0|-;exact dd0
         have rw1:qy A (j+2)=A:=by unfold qy;rw[nX];simp[ye (show j+1<=A.length by omega)]
         have al3:(iE A (j+2)).length=j+1:=by rw[nX];simp;omega
         have al4:∀m,j+1<m->(iE A m).length<m:=λm h=>aaW tk aG h;(repeat(first|simp(maxSteps:=9^9)only[go_sem,seval,S9,q1,q6,aL]|simp(disch:=omega)only[aq,aV,aU,aT,aS]));refine fB (A.length-(j+2)) (λi=>([(0,.c (.sl id 0 A.length A.length)),(3,.c (.i (iE A (j+2+i)).length)),(4,.c (.sl id (j+1) A.length (A.length-(j+1)))),(5,.c (.i (i+1:Nat)))],O (qy A (j+2+i)))) ?_ λi hi=>?_
         .rw[ru,rw1,al3];exact Wk.wk (by simp[lo,lO]) (by simp[Am.get]) (by simp[AV.aj,Sc.aj,aD,lO]) (aE _) (bO _)
         .have lM:(qy A (j+2+i)).length=A.length:=awX ω;have dl:=al4 (j+2+i) ω;by_cases hm:j+2+i<A.length
          .obtain⟨c,hc⟩:∃c,A[j+2+i]?=some c:=⟨_,cP hm⟩;obtain⟨d,hd⟩:∃d,A[j+1+i]?=some d:=⟨_,cP ω⟩;have tw2:=agk ω hc (y:=d) (by rw[show j+2+i-1=j+1+i by omega];exact hd);have st:=λh=>awZ hc h ω;have sm:=λh=>awY hc h;have g1:(qy A (j+2+i))[j+1+(i+1)]?=some c:=by rw[afe ω,show j+1+(i+1)=j+2+i by omega];exact hc
           have g2:(qy A (j+2+i))[j+1+i]?=some d:=by rw[afe ω];exact hd
           have dS:iE A (j+2+(i+1))=if sU A (j+2+i)=true then iE A (j+2+i)else iE A (j+2+i)++[c]:=by
            show iE A (j+2+i+1)=_;simp only[iE,hc]
           generalize hL:qy A (j+2+i)=L at*;generalize hq:(iE A (j+2+i)).length=q at*;have c3:=ID (g:=gU) g1;have c4:=ID (g:=gU) g2;have v1:((i+1:Nat):Int)<((A.length-(j+1):Nat):Int):=ω
           have v2:(0:Int)<=((i+1:Nat):Int):=ω
           have v3:aA ((i+1:Nat)-1)=(i:Nat):=by rw[aq ω ω];omega
           have v4:(0:Int)<=(i:Int):=ω
           have v5:(i:Int)<((A.length-(j+1):Nat):Int):=ω
           have v6:j+1+(i+1)+1<=A.length:=ω
           have v7:j+1+i+1<=A.length:=ω
           have v8:(0:Int)<=(q:Int):=ω
           have v9:(q:Int)<A.length:=ω
           have v10:q+1<=A.length:=ω
           have v11:aA ((q:Int)+1)=((q+1:Nat):Int):=by rw[aq ω ω];omega
           have r1:wr (L.map gU) q [.u c]=(L.set q c).map gU:=Y1 (g:=gU) ω;(repeat(first|simp(maxSteps:=9^9)only[go_sem,seval,v1,v2,v3,v4,v5,v6,v7,v8,v9,v10,gO,lM,c3,c4,ui,aL,gU]|simp(disch:=omega)only[aq,aV,aU,aT,aS]));by_cases H9:c=d
           .have tt:sU A (j+2+i)=true:=by rw[tw2];simpa using H9
            have sm':qy A (j+2+(i+1))=L:=sm tt;have S6:(iE A (j+2+(i+1))).length=q:=by rw[dS,if_pos tt,hq]
            (repeat(first|simp(maxSteps:=9^9)only[go_sem,seval,H9]|simp(disch:=omega)only[aq,aV,aU,aT,aS]));refine⟨i+1,ω,ω,?_⟩;rw[sm',S6];refine Wk.wk (by simp[lo,lO]) ?_ (by simp[AV.aj,Sc.aj,aD,lO]) (aE _) (bO _);simp[Am.get]
           .have tt:sU A (j+2+i)=false:=by rw[tw2];simpa using H9
            have st':L.set q c=qy A (j+2+(i+1)):=st tt;have S6:(iE A (j+2+(i+1))).length=q+1:=by rw[dS,if_neg (by rw[tt];decide),cj,hq];rfl
            (repeat(first|simp(maxSteps:=9^9)only[go_sem,seval,H9,v8,v9,v10,v11,r1,sO,gO,lM,ui,aL,c3,gU,st']|simp(disch:=omega)only[aq,aV,aU,aT,aS]));refine⟨i+1,ω,ω,?_⟩;rw[S6];refine Wk.wk (by simp[lo,lO]) ?_ (by simp[AV.aj,Sc.aj,aD,lO]) (aE _) (bO _);simp[Am.get]
          .obtain rfl:i=A.length-(j+2):=ω
           have em:j+2+(A.length-(j+2))=A.length:=ω
           rw[em]at dl lM;have ei:A.length-(j+2)+1=A.length-(j+1):=ω
           have Ot:(iE A A.length).length=(kj A).length:=rfl;have fin:(uY H (.sl id 0 A.length A.length) A)=(.sl id 0 A.length (kj A).length,H.set id (.vec 1 (tD A))):=by unfold uY;rw[if_neg (by rw[<-Ot];omega)]
           have lC:(tD A).length=A.length:=by simp[tD];rw[<-Ot];omega
           have r3:wr ((qy A A.length).map gU) (kj A).length (bD (A.length-(kj A).length) (.u 0#64))=tD A:=by
            have e3:qy A A.length=kj A++A.drop (kj A).length:=rfl;unfold wr;rw[e3,Hm];have e4:((kj A).map gU).length=(kj A).length:=by simp
            rw[List.take_append_of_le_length ω,<-e4,vH,List.drop_of_length_le (by simp)];simp[tD,gU]
           rw[Ot]at dl;generalize hq:(kj A).length=q at*;have v1:(0:Int)<=(q:Int):=ω
           have v2:(q:Int)<=A.length:=ω
           have v3:A.length-q≠0:=ω
           have v4:q+(A.length-q)<=A.length:=ω
           (repeat(first|simp(maxSteps:=9^9)only[go_sem,seval,em,ei,Ot,hq,gO,lM,v1,v2,v3,v4,ui,aL,awE,NA,r3,sC,fin,DE]|simp(disch:=omega)only[aq,aV,aU,aT,aS]));exact cY (by simp[AV.aj,Sc.aj,aD]) (aE _) (py hH (by simp only[ae.cW];unfold tD;rw[fJ,aQ];exact⟨IC HY _ _,by rw[List.all_replicate];split<;>rfl⟩)) (by rw[iR];exact aB _)
       .obtain rfl:K=A.length:=ω
        have ec:¬((j+1:Nat):Int)<A.length:=ω
        have e2:uY H (.sl id 0 A.length A.length) A=(.sl id 0 A.length A.length,H):=by
         unfold uY;rw[if_pos];rw[kj,Td (aB _) UJ];simp
        (repeat(first|simp(maxSteps:=9^9)only[go_sem,seval,ec,e2]|simp(disch:=omega)only[aq,aV,aU,aT,aS]));rw[h1];exact cY (by simp[AV.aj,Sc.aj,aD]) (aE _) hH (aB _)
   .simp at h
  .simp at h
 .simp at h
theorem acA:yf fA where
 irr x:=by simp[fA]
 tr x y z h1 h2:=by simp only[fA,decide_eq_true_eq]at*;exact BitVec.lt_trans h1 h2
 jq x y h1 h2:=by simp only[fA,decide_eq_false_iff_not]at*;exact BitVec.le_antisymm (BitVec.not_lt.1 h2) (BitVec.not_lt.1 h1)
theorem akE{H:AH}{id v n:Nat}{A:List (BitVec 64)}(ho:hg H id=.vec 1 (A.map gU))(aD:id<H.length)(hn:n=A.length):uY H (.sl id 0 v n) A=(.sl id 0 v (kj A).length,H.set id (.vec 1 (tD A))):=by
 unfold uY;split
 .rename_i h;have e:tD A=A.map gU:=by unfold tD;rw[al5 h,Dx];simp
  rw[e,uK ho aD,h,hn]
 .rfl
def fO(a b:BitVec 64)(c s:Int):List (BitVec 64):=(mq a b c s).map λp=>p.a/64#64
theorem acz{a b:BitVec 64}{c s:Int}:(fO a b c s).length=(mq a b c s).length:=by simp[fO]
theorem Zq{a b:BitVec 64}{c s:Int}:(mq a b c s).length<=4:=by
 cases h:dK c s
 .unfold mq;rw[if_neg (by simp[h])];simp
 .exact(H5 h).2.2
def CN(k c s:Int):Bool:=decide (fi k=1)&&dK c s
def UA(r:List Sc):Prop:=r.length=14/\r.all Sc.pf=true
instance (r:List Sc):Decidable (UA r):=Classical.propDecidable _
def Eo(args:List AV)(H:AH):Option (AV×AH):=match args with
 |[.g (.i k::.u a::.u b::.i c::.i s::r)]=>if UA r then if CN k c s=true then some (.c (.sl H.length 0 (fO a b c s).length (kj (jB fA (fO a b c s))).length),H++[.vec 1 (tD (jB fA (fO a b c s)))])else some (.c .az,H)else none|_=>none
theorem aya{k s:Int}{r:List Sc}(h:UA r):Eo [.g (.i k::.u a::.u b::.i c::.i s::r)] H=if CN k c s=true then some (.c (.sl H.length 0 (fO a b c s).length (kj (jB fA (fO a b c s))).length),H++[.vec 1 (tD (jB fA (fO a b c s)))])else some (.c .az,H):=by simp only[Eo,h,if_true]
theorem apI(args:List AV)(H:AH)(v:AV)(H1:AH)(h:Eo args H=some (v,H1)):H.length<=H1.length:=by
 unfold Eo at h;repeat' split at h
 all_goals simp at h
 all_goals rw[<-h.2]
 all_goals simp
theorem aaw{A:List (BitVec 64)}:(tD A).all (Sc.aj n)=true:=by
 unfold tD;rw[fJ,aQ];exact⟨IC HY _ _,by rw[List.all_replicate];split<;>rfl⟩
theorem asN:bh Tryz.prog 123 Eo:=by
 refine gJ (s:=Eo) (tu VE (tu auu (tp atI (tu auw (tp auz (tp asF tn)))))) Tryz.func123 rfl Tryz.results123 Tryz.ntmps123 apI ?_;intro args H v H1 h b9 hH;unfold Eo at h;split at h
 .rename_i kk a b c s r;split at h
  .rename_i hr;obtain⟨lr,pr⟩:=hr;have br:∀n,r.all (Sc.aj n)=true:=λn=>CZ n pr;have rt:r.take 14=r:=bQ ω;by_cases hg:fi kk=1
   .cases hm:dK c s
    .have hL:CN kk c s=false:=by simp[CN,hm]
     rw[hL]at h;simp only[dL,if_false,ar,bE]at h;obtain⟨rfl,rfl⟩:=h;refine⟨by simp,?_⟩;have v0:∀H,sV sc H .az=some []:=λ_=>rfl;have p1:=λH=>JD (v0 H) δ;have p2:=λH=>Jb (v0 H) δ;have e2:∀H,uY H .az []=(.az,H):=λ_=>rfl;have e3:∀H cs,wE H .az cs=H:=λ_ _=>rfl;simp only[go_sem,seval,Je,QG,Qv,QH,JD,Jb,hm,hg,lr,pr,rt];refine fB 0 (λ_=>([(3,.c .az),(13,.c (.i 0)),(14,.c (.i 0))],H)) ?_ λj hj=>?_
     .exact Wk.wk (aB _) (by simp[Am.get]) (by rfl) (aC _ _) hH
     .simp only[go_sem,seval,p1,p2,e2,e3];exact cY rfl (aE _) hH (aB _)
    .have hL:CN kk c s=true:=by simp[CN,hm,hg]
     rw[hL]at h;simp only[if_true,ar,bE]at h;obtain⟨rfl,rfl⟩:=h;refine⟨by simp,?_⟩;have l4:=@Zq a b c s;have sl:=@acz a b c s;have eL:=ahX a b c s;have eN:=ahY a b c s;have sg:∀(k:Nat)(p:Pc),(mq a b c s)[k]?=some p->(fO a b c s)[k]?=some (p.a/64#64):=λk p h=>by simp[fO,h]
     generalize fO a b c s=A at*;generalize mq a b c s=l at*;simp only[go_sem,seval,Je,QG,Qv,QH,JD,Jb,hm,hg,lr,pr,rt,eL,eN];have fl:(l.flatMap u0).length=3*l.length:=by rw[pF Ti,Nat.mul_comm]
     have bb:∀k,dF (H++[.dead,.dead,.vec 3 (l.flatMap u0),.vec 1 ((A.take k).map gU)])=true:=λk=>uk hH (by simp only[uT,J9,or_false,forall_eq_or_imp,forall_eq];exact⟨rfl,rfl,amq _ _,IC HY _ _⟩);refine fB l.length (λk=>([(3,.c (.sl (H.length+3) 0 k k)),(12,.c (.sl (H.length+2) 0 (3*l.length) l.length)),(13,.c (.i l.length)),(14,.c (.i k))],H++[.dead,.dead,.vec 3 (l.flatMap u0),.vec 1 ((A.take k).map gU)])) ?_ λk hk=>?_
     .exact Wk.trans (Wk.nil 3 1 δ rfl (by simp[lo])) (Wk.wk (by simp[lo]) (by simp[Am.get]) (by simp[AV.aj,Sc.aj]) (by rw[fv];exact EP _ ⟨.inl rfl,.inl rfl,.inr rfl,.inr rfl,trivial⟩) (bb 0))
     .have tl:((A.take k).map gU).length=k:=by simp;omega
      by_cases aG:k<l.length
      .obtain⟨p,hp⟩:∃p,l[k]?=some p:=⟨_,cP aG⟩;have e1:aA ((k:Int)+1)=((k+1:Nat):Int):=by rw[aq ω ω];omega
       have g1:=FD Ti (L:=l) (k:=k) aG;have g3:=avX hp;rw[fl]at g1;have hA:=sg k p hp;have ht:(A.take (k+1)).map gU=(A.take k).map gU++[.u (p.a/64#64)]:=by rw[List.take_add_one,hA,Option.toList_some,Hm];rfl
       have k5:(k+1)*8<=1099511627776:=ω
       (repeat(first|simp only[go_sem,seval,Je,QG,Qv,QH,JD,Jb,e1,g1,g3,u0,fl,tl,k5,List.take_succ_cons,List.take_zero]|simp(disch:=omega)only[w0]));exact⟨k+1,ω,ω,Wk.wk (by simp[lo]) (by simp[Am.get]) (by simp[AV.aj,Sc.aj]) (EP _ ⟨.inl rfl,.inl rfl,.inr rfl,.inr (by rw[ht]),trivial⟩) (bb (k+1))⟩
      .obtain rfl:k=l.length:=ω
       have tA:A.take l.length=A:=by rw[<-sl,vH]
       rw[tA];have lS:(jB fA A).length=A.length:=Yu;have p1:EF [.c (.sl (H.length+3) 0 l.length l.length)] (H++[.dead,.dead,.vec 3 (l.flatMap u0),.vec 1 (A.map gU)])=some (.t [],H++[.dead,.dead,.vec 3 (l.flatMap u0),.vec 1 ((jB fA A).map gU)]):=by
        rw[JD (A:=A) (agu (g:=gU) aaU (by rw[gM];rfl) sl.symm sl.symm) ω];simp only[wE,xS];rfl
       have p2:El [.c (.sl (H.length+3) 0 l.length l.length)] (H++[.dead,.dead,.vec 3 (l.flatMap u0),.vec 1 ((jB fA A).map gU)])=some (.c (.sl (H.length+3) 0 l.length (kj (jB fA A)).length),H++[.dead,.dead,.vec 3 (l.flatMap u0),.vec 1 (tD (jB fA A))]):=by
        rw[Jb (A:=jB fA A) (agu (g:=gU) aaU (by rw[gM];rfl) ω ω) ω,akE (by rw[gM];rfl) (by simp) ω];simp only[xS];rfl
       (repeat(first|simp only[go_sem,seval,p1,p2]|simp(disch:=omega)only[w0]));rw[sl];exact ang 3 (aB _) hH rfl aaw awC.symm (by simp[AV.aj,Sc.aj])
   .have hL:CN kk c s=false:=by simp[CN,hg]
    rw[hL]at h;simp only[dL,if_false,ar,bE]at h;obtain⟨rfl,rfl⟩:=h;refine⟨by simp,?_⟩;simp only[go_sem,seval,Je,QG,Qv,QH,JD,Jb,hg,lr,pr,rt];exact cY rfl (aC _ _) hH (aB _)
  .simp at h
 .simp at h
def PA(a b:BitVec 64):Bool:=if tj a 63=tj b 63 then decide (a<b)else decide (tj a 63=1#64)
theorem ZZ(a:BitVec 64):tj a 63=b2 a.msb:=by
 have:(63:Int)=((63:Nat):Int):=rfl;rw[this,Fg,BitVec.msb_eq_getLsbD_last]
theorem aqe(a b:BitVec 64):PA a b=decide (a.toInt<b.toInt):=by
 unfold PA;rw[ZZ,ZZ];have h1:=BitVec.toInt_eq_msb_cond a;have h2:=BitVec.toInt_eq_msb_cond b;have l1:=a.isLt;have l2:=b.isLt;cases ha:a.msb<;>cases hb:b.msb<;>rw[ha]at h1<;>rw[hb]at h2<;>simp only[dL,if_false,if_true]at h1 h2<;>simp[b2,nP]<;>omega
def XU(args:List AV):Option AV:=match args with|[.c (.u a),.c (.u b)]=>some (.c (.b (decide (a.toInt<b.toInt))))|_=>none
theorem M3{a b}:XU [.c (.u a),.c (.u b)]=some (.c (.b (decide (a.toInt<b.toInt)))):=rfl
theorem adB:cK Tryz.prog 150 XU:=by
 refine cR (tu L0 tn) Tryz.func150 rfl Tryz.results150 Tryz.ntmps150 ?_;intro args v h;unfold XU at h;split at h
 .rename_i a b;simp only[ar]at h;subst h;refine⟨by simp,rfl,rfl,?_⟩;rw[<-aqe];by_cases h:tj a 63=tj b 63
  .simp(maxSteps:=9^9)only[go_sem,seval,mX,PA,h]
  .simp(maxSteps:=9^9)only[go_sem,seval,mX,PA,h]
 .simp at h
def JL(nE:Int)(w:BitVec 64)(f size:Nat)(i:Nat):Bool:=if nE=1 then pA w ((i:Int)-f)&&decide ((i:Int)-f<size)else if i+f<size then w.getLsbD (i+f)else if nE=3 then w.getLsbD (size-1)else false
def FC(n:BitVec 64)(size:Nat):Nat:=if size=32 then n.toNat%32 else n.toNat%64
def Wy(nE:Int)(w n:BitVec 64)(size:Nat):BitVec 64:=nM (mV λi=>decide (i<size)&&JL nE w (FC n size) size i) size
theorem asi(g:Nat->Bool)(n:Nat)(hn:n<=64):Ai (rO g n) n=mV λi=>decide (i<n)&&g i:=by
 refine wv λi hi=>?_;rw[ac1 g n n (aB _) i hi];simp
def X4(args:List AV):Option AV:=match args with|[.c (.i nE),.c (.u w),.c (.u n),.c (.i size)]=>if(nE=1\/nE=2\/nE=3)/\(size=32\/size=64)then some (.c (.u (Wy nE w n size.toNat)))else none|_=>none
theorem aDH{nE w n size}:X4 [.c (.i nE),.c (.u w),.c (.u n),.c (.i size)]=if(nE=1\/nE=2\/nE=3)/\(size=32\/size=64)then some (.c (.u (Wy nE w n size.toNat)))else none:=rfl
theorem auo:cK Tryz.prog 194 X4:=by
 refine cR (tq PR (tu L0 (tu VP tn))) Tryz.func194 rfl Tryz.results194 Tryz.ntmps194 ?_;intro args v h;unfold X4 at h;split at h
 .rename_i nE w n size;split at h
  .rename_i hc;simp only[ar]at h;subst h;refine⟨by simp,rfl,rfl,?_⟩;obtain⟨hh,hz⟩:=hc;obtain⟨z,rfl⟩:∃z:Nat,size=z:=⟨size.toNat,ω⟩;have aoS:z<=64:=ω
   have i0:eC (z:Int):=⟨ω,ω⟩;have hw:((z:Int)).toNat=z:=ω
   obtain⟨f,hf,hfl⟩:∃f,FC n z=f/\f<z:=⟨_,rfl,by unfold FC;split<;>omega⟩;have t1:(n%64#64).toInt=((n.toNat%64:Nat):Int):=by rw[x9];simp;omega
   have t2:(n%32#64).toInt=((n.toNat%32:Nat):Int):=by rw[x9];simp;omega
   have K9:(((z:Int)=32)=True/\n.toNat%32=f)\/(((z:Int)=32)=False/\n.toNat%64=f):=by
    by_cases h:z=32
    .exact .inl ⟨eq_true ω,by rw[<-hf];unfold FC;rw[if_pos h]⟩
    .exact .inr ⟨eq_false ω,by rw[<-hf];unfold FC;rw[if_neg h]⟩
   rcases K9 with⟨c,Lc⟩|⟨c,Lc⟩;all_goals
    simp(maxSteps:=9^9)only[go_sem,seval,oD,mX,xP,t1,t2,Lc,c];rw[rz];refine⟨{k:Nat//k<=z},λk=>([(0,.c (.i nE)),(1,.c (.u w)),(3,.c (.i z)),(9,.c (.i f)),(10,.c (.sl 0 0 k.1 k.1)),(11,.c (.i k.1))],[.vec 1 (rO (JL nE w f z) k.1)]),λk=>z-k.1,⟨0,ω⟩,?_,?_⟩
    .exact Wk.trans (Wk.nil 10 1 δ rfl (fT _)) (Wk.wk (fT _) (by simp[Am.get]) rfl ⟨.inr rfl,trivial⟩ rfl)
    .rintro⟨k,hk⟩;by_cases aG:k<z
     .have e1:aA ((k:Int)+1)=((k+1:Nat):Int):=by rw[kC ω];omega
      have e2:((k:Int)<(z:Int))=True:=eq_true ω;have e3:aA ((k:Int)+(f:Int))=((k+f:Nat):Int):=by rw[kC ω];omega
      have e4:aA ((k:Int)-(f:Int))=(k:Int)-(f:Int):=kC ω;have e5:(k+1)*8<=1099511627776:=ω
      have e6:aA ((z:Int)-1)=((z-1:Nat):Int):=by rw[kC ω];omega
      have e7:((z:Int)<=(k:Int)-(f:Int))=False:=eq_false ω;have e8:((k:Int)-(f:Int)<(z:Int))=True:=eq_true ω;have e9:(0<=((k+f:Nat):Int))=True:=eq_true ω;have KE:(0<=((z-1:Nat):Int))=True:=eq_true ω;have KF:(((z-1:Nat):Int)<(z:Int))=True:=eq_true ω;have hg:JL nE w f z k=if nE=1 then pA w ((k:Int)-f)&&decide ((k:Int)-f<z)else if k+f<z then w.getLsbD (k+f)else if nE=3 then w.getLsbD (z-1)else false:=rfl;rcases hh with rfl|rfl|rfl
      .by_cases hle:f<=k
       .have d1:((0:Int)<=(k:Int)-(f:Int))=True:=eq_true ω;simp(maxSteps:=9^9)only[go_sem,seval,oD,mX,xP,e1,e2,e3,e4,e5,e7,e8,d1,uE,Sx];exact⟨⟨k+1,ω⟩,by simp;omega,Wk.wk (fT _) (by simp[Am.get]) rfl ⟨.inr (by simp[Ad,hg,e8]),trivial⟩ (by simp[ae.cells,ae.cW,vh])⟩
       .have d1:((0:Int)<=(k:Int)-(f:Int))=False:=eq_false ω;have d2:pA w ((k:Int)-(f:Int))=false:=NV ω;simp(maxSteps:=9^9)only[go_sem,seval,oD,mX,xP,e1,e2,e3,e4,e5,e7,e8,d1,uE];exact⟨⟨k+1,ω⟩,by simp;omega,Wk.wk (fT _) (by simp[Am.get]) rfl ⟨.inr (by simp[Ad,hg,d2,b2]),trivial⟩ (by simp[ae.cells,ae.cW,vh])⟩
      .by_cases hle:k+f<z
       .have d1:((z:Int)<=((k+f:Nat):Int))=False:=eq_false ω;have d2:(((k+f:Nat):Int)<(z:Int))=True:=eq_true ω;simp(maxSteps:=9^9)only[go_sem,seval,oD,mX,xP,e1,e2,e3,e5,e9,d1,d2,uE,Fg];exact⟨⟨k+1,ω⟩,by simp;omega,Wk.wk (fT _) (by simp[Am.get]) rfl ⟨.inr (by simp[Ad,hg,hle]),trivial⟩ (by simp[ae.cells,ae.cW,vh])⟩
       .have d1:((z:Int)<=((k+f:Nat):Int))=True:=eq_true ω;have d2:(((k+f:Nat):Int)<(z:Int))=False:=eq_false ω;simp(maxSteps:=9^9)only[go_sem,seval,oD,mX,xP,e1,e2,e3,e5,e9,d1,d2,uE];exact⟨⟨k+1,ω⟩,by simp;omega,Wk.wk (fT _) (by simp[Am.get]) rfl ⟨.inr (by simp[Ad,hg,hle,b2]),trivial⟩ (by simp[ae.cells,ae.cW,vh])⟩
      .by_cases hle:k+f<z
       .have d1:((z:Int)<=((k+f:Nat):Int))=False:=eq_false ω;have d2:(((k+f:Nat):Int)<(z:Int))=True:=eq_true ω;simp(maxSteps:=9^9)only[go_sem,seval,oD,mX,xP,e1,e2,e3,e5,e9,d1,d2,uE,Fg];exact⟨⟨k+1,ω⟩,by simp;omega,Wk.wk (fT _) (by simp[Am.get]) rfl ⟨.inr (by simp[Ad,hg,hle]),trivial⟩ (by simp[ae.cells,ae.cW,vh])⟩
       .have d1:((z:Int)<=((k+f:Nat):Int))=True:=eq_true ω;simp(maxSteps:=9^9)only[go_sem,seval,oD,mX,xP,e1,e2,e3,e5,e6,KE,KF,d1,uE,Fg];exact⟨⟨k+1,ω⟩,by simp;omega,Wk.wk (fT _) (by simp[Am.get]) rfl ⟨.inr (by simp[Ad,hg,hle]),trivial⟩ (by simp[ae.cells,ae.cW,vh])⟩
     .obtain rfl:k=z:=ω
      have e2:((k:Int)<(k:Int))=False:=by simp
      have e6:(mV λi=>decide (i<k)&&JL nE w f k i)=(mV λi=>decide (i<k)&&JL nE w (FC n k) k i):=by rw[hf]
      have e7:nM (mV λi=>decide (i<k)&&JL nE w (FC n k) k i) (k:Int)=Wy nE w n k:=rfl;have e8:(k<=64)=True:=eq_true ω;simp(maxSteps:=9^9)only[go_sem,seval,oD,mX,xP,e2,uE,PE,asi _ _ aoS,e6,e7,e8,i0,hw]
  .simp at h
 .simp at h
def CV:List (List UInt8):=[[],[108,117,105],[97,117,105,112,99],[106,97,108],[106,97,108,114],[98,101,113],[98,110,101],[98,108,116],[98,103,101],[98,108,116,117],[98,103,101,117],[108,98],[108,104],[108,119],[108,100],[108,98,117],[108,104,117],[108,119,117],[115,98],[115,104],[115,119],[115,100],[97,100,100,105],[115,108,116,105],[115,108,116,105,117],[120,111,114,105],[111,114,105],[97,110,100,105],[115,108,108,105],[115,114,108,105],[115,114,97,105],[97,100,100],[115,117,98],[115,108,108],[115,108,116],[115,108,116,117],[120,111,114],[115,114,108],[115,114,97],[111,114],[97,110,100],[97,100,100,105,119],[115,108,108,105,119],[115,114,108,105,119],[115,114,97,105,119],[97,100,100,119],[115,117,98,119],[115,108,108,119],[115,114,108,119],[115,114,97,119],[102,101,110,99,101],[102,101,110,99,101,46,105],[101,99,97,108,108],[101,98,114,101,97,107],[109,117,108],[109,117,108,104],[109,117,108,104,115,117],[109,117,108,104,117],[100,105,118],[100,105,118,117],[114,101,109],[114,101,109,117],[109,117,108,119],[100,105,118,119],[100,105,118,117,119],[114,101,109,119],[114,101,109,117,119],[108,114,46,119],[115,99,46,119],[97,109,111,115,119,97,112,46,119],[97,109,111,97,100,100,46,119],[97,109,111,120,111,114,46,119],[97,109,111,97,110,100,46,119],[97,109,111,111,114,46,119],[97,109,111,109,105,110,46,119],[97,109,111,109,97,120,46,119],[97,109,111,109,105,110,117,46,119],[97,109,111,109,97,120,117,46,119],[108,114,46,100],[115,99,46,100],[97,109,111,115,119,97,112,46,100],[97,109,111,97,100,100,46,100],[97,109,111,120,111,114,46,100],[97,109,111,97,110,100,46,100],[97,109,111,111,114,46,100],[97,109,111,109,105,110,46,100],[97,109,111,109,97,120,46,100],[97,109,111,109,105,110,117,46,100],[97,109,111,109,97,120,117,46,100],[99,115,114,114,119],[99,115,114,114,115],[99,115,114,114,99],[99,115,114,114,119,105],[99,115,114,114,115,105],[99,115,114,114,99,105],[109,114,101,116],[115,114,101,116],[119,102,105],[115,102,101,110,99,101,46,118,109,97]]
def nm(k:Nat):ByteArray:=⟨(CV.getD k []).toArray⟩
def D5:List Sc:=CV.map λl=>.s ⟨l.toArray⟩
theorem ard:CV.length=99:=rfl
theorem BL:D5.length=99:=rfl
theorem PJ(h:k<99):D5.getD k .any=.s (nm k):=by
 unfold D5 nm;rw[bX,qL,bX,cP (by rw[ard];exact h)];rfl
def nO(op a b:Int):Bool:=decide (a<=op)&&decide (op<=b)
def Yd(args:List AV):Option AV:=match args with|[.c (.i op),.c (.i a),.c (.i b)]=>some (.c (.b (nO op a b)))|_=>none
theorem QL{op a b}:Yd [.c (.i op),.c (.i a),.c (.i b)]=some (.c (.b (nO op a b))):=rfl
theorem auV:cK Tryz.prog 167 Yd:=by
 refine cR tn Tryz.func167 rfl Tryz.results167 Tryz.ntmps167 ?_;intro args v h;unfold Yd at h;split at h
 .rename_i op a b;simp only[ar]at h;subst h;refine⟨by simp,rfl,rfl,?_⟩;by_cases h1:a<=op;all_goals simp only[go_sem,seval,nO,h1]
 .simp at h
def gB(op:Int):Int:=if nO op 1 2=true then 2 else if nO op 3 4=true then 3 else if nO op 5 10=true then 4 else if nO op 11 17=true then 5 else if nO op 18 21=true then 6 else if nO op 22 49=true then 1 else if nO op 54 66=true then 1 else if nO op 50 51=true then 9 else if nO op 67 88=true then 7 else if nO op 89 94=true then 8 else if nO op 52 53=true then 10 else if nO op 95 98=true then 10 else 0
def WZ(args:List AV):Option AV:=match args with|[.c (.i op)]=>some (.c (.i (gB op)))|_=>none
theorem I9{op}:WZ [.c (.i op)]=some (.c (.i (gB op))):=rfl
theorem adg:cK Tryz.prog 116 WZ:=by
 refine cR (tu auV tn) Tryz.func116 rfl Tryz.results116 Tryz.ntmps116 ?_;intro args v h;unfold WZ at h;split at h
 .rename_i op;simp only[ar]at h;subst h;refine⟨by simp,rfl,rfl,?_⟩;simp only[go_sem,seval,QL];repeat'(first
 |(refine vN (λh=>?_) (λh=>?_)<;>(try simp only[decide_eq_true_eq,decide_eq_false_iff_not,gY,jj,iM,jk,aQ,beq_iff_eq,beq_eq_false_iff_ne,ne_eq,gj]at h)<;>(simp only[go_sem,seval,QL,h]))|(refine vY (λh=>?_) (λh=>?_)<;>(try simp only[decide_eq_true_eq,decide_eq_false_iff_not,gY,jj,iM,jk,aQ,beq_iff_eq,beq_eq_false_iff_ne,ne_eq,gj]at h)<;>(simp only[go_sem,seval,QL,h]))|(refine vZ (λh=>?_) (λh=>?_)<;>(try simp only[decide_eq_true_eq,decide_eq_false_iff_not,gY,jj,iM,jk,aQ,beq_iff_eq,beq_eq_false_iff_ne,ne_eq,gj]at h)<;>(simp only[go_sem,seval,QL,h])))
  all_goals simp only[gB, *,if_true,if_false,dL]
 .simp at h
def Js(args:List AV)(H:AH):Option (AV×AH):=match args with|[]=>some (.c (.sl H.length 0 99 99),H++[.vec 1 D5])|_=>none
theorem wJ:Js [] H=some (.c (.sl H.length 0 99 99),H++[.vec 1 D5]):=rfl
theorem apS(args:List AV)(H:AH)(v:AV)(H1:AH)(h:Js args H=some (v,H1)):H.length<=H1.length:=by
 unfold Js at h;split at h
 .simp only[ar,bE]at h;rw[<-h.2];simp
 .simp at h
theorem are(n:Nat):D5.all (Sc.aj n)=true:=by simp[D5,CV,Sc.aj]
theorem PQ:bh Tryz.prog 171 Js:=by
 refine gJ (s:=Js) tn Tryz.func171 rfl Tryz.results171 Tryz.ntmps171 apS ?_;intro args H v H1 h b9 hH;unfold Js at h;split at h
 .simp only[ar,bE]at h;obtain⟨rfl,rfl⟩:=h;refine⟨δ,?_⟩;simp only[go_sem,seval];refine arM (v:=.c (.sl H.length 0 99 99)) (H':=H++[.vec 1 D5]) κ ?_;simp only[go_sem,seval];refine⟨_,rfl,Wk.wk (by simp) (by simp[Am.get]) (by simp[AV.aj,Sc.aj]) (aE _) ?_⟩;exact uk hH (by simp only[wZ,forall_eq];exact are _)
 .simp at h
def vU(a b:ByteArray):Bool:=decide (b.size<=a.size)&&decide (a.extract (a.size-b.size) a.size=b)
def W5(args:List AV):Option AV:=match args with|[.c (.s a),.c (.s b)]=>if a.size<=9223372036854775807/\b.size<=9223372036854775807 then some (.c (.b (vU a b)))else none|_=>none
theorem Ar{a b}:W5 [.c (.s a),.c (.s b)]=if a.size<=9223372036854775807/\b.size<=9223372036854775807 then some (.c (.b (vU a b)))else none:=rfl
theorem adh:cK Tryz.prog 172 W5:=by
 refine cR tn Tryz.func172 rfl Tryz.results172 Tryz.ntmps172 ?_;intro args v h;unfold W5 at h;split at h
 .rename_i a b;split at h
  .rename_i hc;simp only[ar]at h;subst h;refine⟨by simp only[cT,fa];decide,rfl,rfl,?_⟩;by_cases h1:b.size<=a.size
   .have e:(((a.size:Int)-(b.size:Int)).toNat)=a.size-b.size:=ω
    have e2:((b.size:Int)<=(a.size:Int))=True:=eq_true ω;(repeat(first|simp only[go_sem,seval,vU,h1,e,e2]|simp(disch:=omega)only[w0]))
   .have e2:((b.size:Int)<=(a.size:Int))=False:=eq_false ω;(repeat(first|simp only[go_sem,seval,vU,h1,e2]|simp(disch:=omega)only[w0]))
  .simp at h
 .simp at h
def Fl(s:ByteArray)(op:Int):Int:=if s=(⟨#[108,117,105]⟩:ByteArray)then 2 else if s=(⟨#[97,117,105,112,99]⟩:ByteArray)then 2 else if s=(⟨#[106,97,108]⟩:ByteArray)then 3 else if s=(⟨#[106,97,108,114]⟩:ByteArray)then 3 else if op<11 then 4 else if s=(⟨#[102,101,110,99,101]⟩:ByteArray)then 9 else if s=(⟨#[102,101,110,99,101,46,105]⟩:ByteArray)then 9 else if s=(⟨#[101,99,97,108,108]⟩:ByteArray)then 10 else if s=(⟨#[101,98,114,101,97,107]⟩:ByteArray)then 10 else if s=(⟨#[109,114,101,116]⟩:ByteArray)then 10 else if s=(⟨#[115,114,101,116]⟩:ByteArray)then 10 else if s=(⟨#[119,102,105]⟩:ByteArray)then 10 else if s=(⟨#[115,102,101,110,99,101,46,118,109,97]⟩:ByteArray)then 10 else if vU s (⟨#[46,119]⟩:ByteArray)=true then 7 else if vU s (⟨#[46,100]⟩:ByteArray)=true then 7 else if 3<(s.size:Int)/\s.extract 0 3=(⟨#[99,115,114]⟩:ByteArray)then 8 else if(s.size:Int)<=3/\((s.data.getD 0 0).toNat:Int)=108 then 5 else if s=(⟨#[115,98]⟩:ByteArray)then 6 else if s=(⟨#[115,104]⟩:ByteArray)then 6 else if s=(⟨#[115,119]⟩:ByteArray)then 6 else if s=(⟨#[115,100]⟩:ByteArray)then 6 else 1
theorem akj:∀k,k<99->1<=k->Fl (nm k) k=gB k:=by decide+kernel
theorem arj:∀k,k<99->1<=k->1<=(nm k).size/\(nm k).size<=100:=by decide+kernel
variable {op:Int}
theorem SR(h:op<1\/98<op):gB op=0:=by
 simp only[gB,nO,aQ,decide_eq_true_eq];repeat rw[if_neg ω]
def XL(args:List AV):Option AV:=match args with|[.c (.i op)]=>some (.c (.i (gB op)))|_=>none
theorem EB{op}:XL [.c (.i op)]=some (.c (.i (gB op))):=rfl
theorem VO:cK Tryz.prog 170 XL:=by
 refine cR (tp PQ (tu adh tn)) Tryz.func170 rfl Tryz.results170 Tryz.ntmps170 ?_;intro args v h;unfold XL at h;split at h
 .rename_i op;simp only[ar]at h;subst h;refine⟨by simp,rfl,rfl,?_⟩;by_cases h1:op<1
  .simp only[go_sem,seval,wJ,Ar,h1,SR (.inl h1)]
  by_cases h2:98<op
  .simp only[go_sem,seval,wJ,Ar,h1,h2,SR (.inr h2)]
  obtain⟨k,rfl⟩:=kZ (by omega:0<=op);rw[<-akj k ω ω];have g:=PJ (k:=k) ω;obtain⟨z1,z2⟩:=arj k ω ω;generalize nm k=s at*;(repeat(first|simp only[go_sem,seval,wJ,Ar,h1,h2,BL,g]|simp(disch:=omega)only[w0]));repeat'(first
 |(refine vN (λh=>?_) (λh=>?_)<;>(try simp only[decide_eq_true_eq,decide_eq_false_iff_not,gY,jj,iM,jk,aQ,beq_iff_eq,beq_eq_false_iff_ne,ne_eq,gj]at h)<;>((repeat(first|simp(maxSteps:=9^9)only[go_sem,seval,wJ,Ar,BL,g,h]|simp(disch:=omega)only[aq,aV,aU,aT,aS]))))|(refine vY (λh=>?_) (λh=>?_)<;>(try simp only[decide_eq_true_eq,decide_eq_false_iff_not,gY,jj,iM,jk,aQ,beq_iff_eq,beq_eq_false_iff_ne,ne_eq,gj]at h)<;>((repeat(first|simp(maxSteps:=9^9)only[go_sem,seval,wJ,Ar,BL,g,h]|simp(disch:=omega)only[aq,aV,aU,aT,aS]))))|(refine vZ (λh=>?_) (λh=>?_)<;>(try simp only[decide_eq_true_eq,decide_eq_false_iff_not,gY,jj,iM,jk,aQ,beq_iff_eq,beq_eq_false_iff_ne,ne_eq,gj]at h)<;>((repeat(first|simp(maxSteps:=9^9)only[go_sem,seval,wJ,Ar,BL,g,h]|simp(disch:=omega)only[aq,aV,aU,aT,aS])))))
  all_goals first|(simp only[Fl, *,if_true,if_false,and_true,true_and,and_false,false_and,dL];done)|(simp[Fl, *];done)|(simp[Fl, *];decide+kernel)|(have hx:¬3<(s.size:Int):=ω;simp only[Fl, *,if_true,if_false,and_true,true_and,and_false,false_and,dL];done)|(have hx:¬(s.size:Int)<=3:=ω;simp only[Fl, *,if_true,if_false,and_true,true_and,and_false,false_and,dL];done)|(have hx:(s.size:Int)<=3:=ω;simp only[Fl, *,if_true,if_false,and_true,true_and,and_false,false_and,dL];done)
 .simp at h
def j8(op:Int):Int:=if nO op 67 77=true then 4 else if nO op 78 88=true then 8 else if op=11 then 1 else if op=12 then 2 else if op=13 then 4 else if op=14 then 8 else if op=15 then 1 else if op=16 then 2 else if op=17 then 4 else if op=18 then 1 else if op=19 then 2 else if op=20 then 4 else if op=21 then 8 else 0
def afX(c:Int)(s:ByteArray):Int:=if c=7 then(if vU s (⟨#[46,119]⟩:ByteArray)=true then 4 else 8)else if((s.data.getD 1 0).toNat:Int)=98 then 1 else if((s.data.getD 1 0).toNat:Int)=104 then 2 else if((s.data.getD 1 0).toNat:Int)=119 then 4 else 8
theorem afY:∀k:Nat,k<99->(gB k=5\/gB k=6\/gB k=7)->afX (gB k) (nm k)=j8 k/\2<=(nm k).size/\(nm k).size<=100:=by decide+kernel
theorem akn(h:gB op≠0):1<=op/\op<=98:=by
 by_cases h0:1<=op/\op<=98
 .exact h0
 .exact(h (SR ω)).elim
theorem afZ(h:¬(gB op=5\/gB op=6\/gB op=7)):j8 op=0:=by
 by_cases h0:1<=op/\op<=98
 .obtain⟨k,rfl⟩:=kZ (by omega:0<=op);have:∀k:Nat,k<99->¬(gB k=5\/gB k=6\/gB k=7)->j8 k=0:=by decide+kernel
  exact this k ω h
 .simp only[j8,nO,aQ,decide_eq_true_eq];repeat rw[if_neg ω]
def XT(args:List AV):Option AV:=match args with|[.c (.i op)]=>some (.c (.i (j8 op)))|_=>none
theorem Aw{op}:XT [.c (.i op)]=some (.c (.i (j8 op))):=rfl
theorem adA:cK Tryz.prog 120 XT:=by
 refine cR (tu VO (tp PQ (tu adh tn))) Tryz.func120 rfl Tryz.results120 Tryz.ntmps120 ?_;intro args v h;unfold XT at h;split at h
 .rename_i op;simp only[ar]at h;subst h;refine⟨by simp,rfl,rfl,?_⟩;by_cases h:gB op=5\/gB op=6\/gB op=7
  .have O7:=akn (op:=op) ω;obtain⟨k,rfl⟩:=kZ (by omega:0<=op);obtain⟨e,z1,z2⟩:=afY k ω h;have g:=PJ (k:=k) ω;rw[<-e];have i1:(nm k).size<=9223372036854775807:=ω
   generalize nm k=s at*;rcases h with h|h|h;all_goals(repeat(first|simp only[go_sem,seval,EB,wJ,Ar,BL,g,i1,h]|simp(disch:=omega)only[w0]))
   all_goals simp only[afX,if_true,show¬((5:Int)=7)by decide,show¬((6:Int)=7)by decide,if_false]
   repeat'(first
 |(refine vN (λh=>?_) (λh=>?_)<;>(try simp only[decide_eq_true_eq,decide_eq_false_iff_not,gY,jj,iM,jk,aQ,beq_iff_eq,beq_eq_false_iff_ne,ne_eq,gj]at h)<;>((repeat(first|simp(maxSteps:=9^9)only[go_sem,seval,EB,wJ,Ar,BL,g,i1,h]|simp(disch:=omega)only[aq,aV,aU,aT,aS]))))|(refine vY (λh=>?_) (λh=>?_)<;>(try simp only[decide_eq_true_eq,decide_eq_false_iff_not,gY,jj,iM,jk,aQ,beq_iff_eq,beq_eq_false_iff_ne,ne_eq,gj]at h)<;>((repeat(first|simp(maxSteps:=9^9)only[go_sem,seval,EB,wJ,Ar,BL,g,i1,h]|simp(disch:=omega)only[aq,aV,aU,aT,aS]))))|(refine vZ (λh=>?_) (λh=>?_)<;>(try simp only[decide_eq_true_eq,decide_eq_false_iff_not,gY,jj,iM,jk,aQ,beq_iff_eq,beq_eq_false_iff_ne,ne_eq,gj]at h)<;>((repeat(first|simp(maxSteps:=9^9)only[go_sem,seval,EB,wJ,Ar,BL,g,i1,h]|simp(disch:=omega)only[aq,aV,aU,aT,aS])))))
   all_goals simp only[*,if_true,if_false]
  .have h5:¬gB op=5:=λe=>h (.inl e);have h6:¬gB op=6:=λe=>h (.inr (.inl e));have h7:¬gB op=7:=λe=>h (.inr (.inr e));simp only[go_sem,seval,EB,wJ,Ar,h5,h6,h7,afZ h]
 .simp at h
def Xz(args:List AV):Option AV:=match args with|[.c (.b q)]=>some (.c (.u (b2 q)))|_=>none
theorem XA{q}:Xz [.c (.b q)]=some (.c (.u (b2 q))):=rfl
theorem adr:cK Tryz.prog 195 Xz:=by
 refine cR tn Tryz.func195 rfl Tryz.results195 Tryz.ntmps195 ?_;intro args v h;unfold Xz at h;split at h
 .rename_i q;simp only[ar]at h;subst h;refine⟨by simp,rfl,rfl,?_⟩;cases q;all_goals simp only[go_sem,seval,b2]
 .simp at h
def BG(a b mn mx:BitVec 64)(i:Nat):Bool:=decide (mn<=b2 (a.getLsbD i)+b2 (b.getLsbD i))&&decide (b2 (a.getLsbD i)+b2 (b.getLsbD i)<=mx)
def Xq(args:List AV):Option AV:=match args with|[.c (.u a),.c (.u b),.c (.u mn),.c (.u mx)]=>some (.c (.u (mV (BG a b mn mx))))|_=>none
theorem Xr{a b mn mx}:Xq [.c (.u a),.c (.u b),.c (.u mn),.c (.u mx)]=some (.c (.u (mV (BG a b mn mx)))):=rfl
theorem atu:cK Tryz.prog 196 Xq:=by
 refine cR (tu L0 (tu adr (tq PR tn))) Tryz.func196 rfl Tryz.results196 Tryz.ntmps196 ?_;intro args v h;unfold Xq at h;split at h
 .rename_i a b mn mx;simp only[ar]at h;subst h;refine⟨by simp,rfl,rfl,?_⟩;simp(maxSteps:=9^9)only[go_sem,seval,mX,XA,oD];refine fB 64 (λk=>([(0,.c (.u a)),(1,.c (.u b)),(2,.c (.u mn)),(3,.c (.u mx)),(9,.c (.sl 0 0 k k)),(10,.c (.i k))],[.vec 1 (rO (BG a b mn mx) k)])) ?_ λk hk=>?_
  .exact Wk.trans (Wk.nil 9 1 δ rfl (fT _)) (Wk.wk (fT _) (by simp[Am.get]) rfl ⟨.inr rfl,trivial⟩ rfl)
  .by_cases aG:k<64
   .have e1:aA ((k:Int)+1)=((k+1:Nat):Int):=by rw[kC ω];omega
    have e5:(k+1)*8<=1099511627776:=ω
    have hg:BG a b mn mx k=(decide (mn<=b2 (a.getLsbD k)+b2 (b.getLsbD k))&&decide (b2 (a.getLsbD k)+b2 (b.getLsbD k)<=mx)):=rfl;by_cases h1:mn<=b2 (a.getLsbD k)+b2 (b.getLsbD k);all_goals(repeat(first|simp only[go_sem,seval,mX,XA,oD,Fg,e1,e5,uE,h1]|simp(disch:=omega)only[w0]))
    all_goals exact⟨k+1,ω,ω,Wk.wk (fT _) (by simp[Am.get]) rfl ⟨.inr (by simp[Ad,hg,h1]),trivial⟩ (by simp[ae.cells,ae.cW,vh])⟩
   .obtain rfl:k=64:=ω
    simp only[go_sem,seval,mX,XA,oD,uE,PE,Vw]
 .simp at h
theorem aqh(a b:BitVec 64):mV (BG a b 1#64 1#64)=a^^^b:=by
 refine(wv λi hi=>?_).symm;rw[BitVec.getLsbD_xor];unfold BG b2;cases a.getLsbD i<;>cases b.getLsbD i<;>decide
theorem aqg(a b:BitVec 64):mV (BG a b 1#64 2#64)=a|||b:=by
 refine(wv λi hi=>?_).symm;rw[wT];unfold BG b2;cases a.getLsbD i<;>cases b.getLsbD i<;>decide
theorem aqf(a b:BitVec 64):mV (BG a b 2#64 2#64)=a&&&b:=by
 refine(wv λi hi=>?_).symm;rw[sW];unfold BG b2;cases a.getLsbD i<;>cases b.getLsbD i<;>decide
theorem ark:∀k:Nat,(k=36\/k=39\/k=40)->¬nm k=⟨#[]⟩/\¬nm k=(⟨#[97,100,100,105]⟩:ByteArray)/\¬nm k=(⟨#[115,108,116,105]⟩:ByteArray)/\¬nm k=(⟨#[120,111,114,105]⟩:ByteArray)/\¬nm k=(⟨#[111,114,105]⟩:ByteArray)/\¬nm k=(⟨#[97,110,100,105]⟩:ByteArray)/\¬nm k=(⟨#[115,108,108,105]⟩:ByteArray)/\¬nm k=(⟨#[115,114,108,105]⟩:ByteArray)/\¬nm k=(⟨#[115,114,97,105]⟩:ByteArray)/\¬nm k=(⟨#[115,108,116,105,117]⟩:ByteArray)/\¬nm k=(⟨#[97,100,100,105,119]⟩:ByteArray)/\¬nm k=(⟨#[115,108,108,105,119]⟩:ByteArray)/\¬nm k=(⟨#[115,114,108,105,119]⟩:ByteArray)/\¬nm k=(⟨#[115,114,97,105,119]⟩:ByteArray):=by rintro k(rfl|rfl|rfl)<;>decide+kernel
theorem arf:(nm 36=(⟨#[97,100,100]⟩:ByteArray))=False/\(nm 36=(⟨#[115,117,98]⟩:ByteArray))=False/\(nm 36=(⟨#[115,108,108]⟩:ByteArray))=False/\(nm 36=(⟨#[115,114,108]⟩:ByteArray))=False/\(nm 36=(⟨#[115,114,97]⟩:ByteArray))=False/\(nm 36=(⟨#[115,108,116]⟩:ByteArray))=False/\(nm 36=(⟨#[115,108,116,117]⟩:ByteArray))=False/\(nm 36=(⟨#[120,111,114]⟩:ByteArray))=True/\(nm 36=⟨#[]⟩)=False:=by
 simp only[eq_iff_iff,iff_false,iff_true];decide+kernel
theorem arh:(nm 39=(⟨#[97,100,100]⟩:ByteArray))=False/\(nm 39=(⟨#[115,117,98]⟩:ByteArray))=False/\(nm 39=(⟨#[115,108,108]⟩:ByteArray))=False/\(nm 39=(⟨#[115,114,108]⟩:ByteArray))=False/\(nm 39=(⟨#[115,114,97]⟩:ByteArray))=False/\(nm 39=(⟨#[115,108,116]⟩:ByteArray))=False/\(nm 39=(⟨#[115,108,116,117]⟩:ByteArray))=False/\(nm 39=(⟨#[120,111,114]⟩:ByteArray))=False/\(nm 39=(⟨#[111,114]⟩:ByteArray))=True/\(nm 39=⟨#[]⟩)=False:=by
 simp only[eq_iff_iff,iff_false,iff_true];decide+kernel
theorem ari:(nm 40=(⟨#[97,100,100]⟩:ByteArray))=False/\(nm 40=(⟨#[115,117,98]⟩:ByteArray))=False/\(nm 40=(⟨#[115,108,108]⟩:ByteArray))=False/\(nm 40=(⟨#[115,114,108]⟩:ByteArray))=False/\(nm 40=(⟨#[115,114,97]⟩:ByteArray))=False/\(nm 40=(⟨#[115,108,116]⟩:ByteArray))=False/\(nm 40=(⟨#[115,108,116,117]⟩:ByteArray))=False/\(nm 40=(⟨#[120,111,114]⟩:ByteArray))=False/\(nm 40=(⟨#[111,114]⟩:ByteArray))=False/\(nm 40=(⟨#[97,110,100]⟩:ByteArray))=True/\(nm 40=⟨#[]⟩)=False:=by
 simp only[eq_iff_iff,iff_false,iff_true];decide+kernel
def Qt(args:List AV):Option AV:=match args with|[.c (.i op)]=>if op=36\/op=39\/op=40 then some (.c (.s (nm op.toNat)))else none|_=>none
theorem ayE{op}:Qt [.c (.i op)]=if op=36\/op=39\/op=40 then some (.c (.s (nm op.toNat)))else none:=rfl
theorem atC:cK Tryz.prog 193 Qt:=by
 refine cR (tu VO (tp PQ tn)) Tryz.func193 rfl Tryz.results193 Tryz.ntmps193 ?_;intro args v h;unfold Qt at h;split at h
 .rename_i op;split at h
  .rename_i hc;simp only[ar]at h;subst h;refine⟨by simp only[cT,fa];decide,rfl,rfl,?_⟩;obtain⟨k,rfl⟩:=kZ (by omega:0<=op);have hk:k=36\/k=39\/k=40:=ω
   have g:=PJ (k:=k) ω;have c1:gB (k:Int)=1:=by rcases hk with rfl|rfl|rfl<;>rfl
   have ns:=ark k hk;rw[aL];generalize nm k=s at*;(repeat(first|simp only[go_sem,seval,EB,wJ,c1,BL,g,ns]|simp(disch:=omega)only[w0]))
  .simp at h
 .simp at h
def LJ(op:Int)(a b:BitVec 64):BitVec 64:=if op=36 then a^^^b else if op=39 then a|||b else a&&&b
def JB(args:List AV):Option AV:=match args with|[.c (.i op),.c (.u a),.c (.u b)]=>if op=36\/op=39\/op=40 then some (.t [.c (.u (LJ op a b)),.c (.b true)])else none|_=>none
theorem ay1{op a b}:JB [.c (.i op),.c (.u a),.c (.u b)]=if op=36\/op=39\/op=40 then some (.t [.c (.u (LJ op a b)),.c (.b true)])else none:=rfl
theorem aua:cK Tryz.prog 153 JB:=by
 refine cR (tu atC (tu auo (tu adr (tu adB (tu atu (tu VP tn)))))) Tryz.func153 rfl Tryz.results153 Tryz.ntmps153 ?_;intro args v h;unfold JB at h;split at h
 .rename_i op a b;split at h
  .rename_i hc;simp only[ar]at h;subst h;refine⟨by simp,rfl,rfl,?_⟩;have i1:eC 32:=⟨ω,ω⟩;have n1:Qt [.c (.i op)]=some (.c (.s (nm op.toNat))):=by rw[ayE,if_pos hc]
   rcases hc with rfl|rfl|rfl
   .have e:LJ 36 a b=a^^^b:=rfl;have q:=arf;rw[show(36:Int).toNat=36 from rfl]at n1;generalize nm 36=s at*;simp only[go_sem,seval,n1,Xr,e,q,aqh]
   .have e:LJ 39 a b=a|||b:=rfl;have q:=arh;rw[show(39:Int).toNat=39 from rfl]at n1;generalize nm 39=s at*;simp only[go_sem,seval,n1,Xr,e,q,aqg]
   .have e:LJ 40 a b=a&&&b:=rfl;have q:=ari;rw[show(40:Int).toNat=40 from rfl]at n1;generalize nm 40=s at*;simp only[go_sem,seval,n1,Xr,e,q,aqf]
  .simp at h
 .simp at h
def qW(op:Int):Bool:=if op=67 then true else if op=78 then true else false
def rB(op:Int):Bool:=if op=68 then true else if op=79 then true else false
def qT(op:Int):Bool:=decide (gB op=7)&&(!qW op&&!rB op)
def WO(args:List AV):Option AV:=match args with|[.c (.i op)]=>some (.c (.b (qW op)))|_=>none
theorem Ap{op}:WO [.c (.i op)]=some (.c (.b (qW op))):=rfl
theorem ac9:cK Tryz.prog 69 WO:=by
 refine cR tn Tryz.func69 rfl Tryz.results69 Tryz.ntmps69 ?_;intro args v h;unfold WO at h;split at h
 .rename_i op;simp only[ar]at h;subst h;refine⟨by simp,rfl,rfl,?_⟩;simp only[go_sem,seval];repeat'(first
 |(refine vN (λh=>?_) (λh=>?_)<;>(try simp only[decide_eq_true_eq,decide_eq_false_iff_not,gY,jj,iM,jk,aQ,beq_iff_eq,beq_eq_false_iff_ne,ne_eq,gj]at h)<;>(simp only[go_sem,seval,h]))|(refine vY (λh=>?_) (λh=>?_)<;>(try simp only[decide_eq_true_eq,decide_eq_false_iff_not,gY,jj,iM,jk,aQ,beq_iff_eq,beq_eq_false_iff_ne,ne_eq,gj]at h)<;>(simp only[go_sem,seval,h]))|(refine vZ (λh=>?_) (λh=>?_)<;>(try simp only[decide_eq_true_eq,decide_eq_false_iff_not,gY,jj,iM,jk,aQ,beq_iff_eq,beq_eq_false_iff_ne,ne_eq,gj]at h)<;>(simp only[go_sem,seval,h])))
  all_goals simp[qW, *]
 .simp at h
def WM(args:List AV):Option AV:=match args with|[.c (.i op)]=>some (.c (.b (rB op)))|_=>none
theorem Ao{op}:WM [.c (.i op)]=some (.c (.b (rB op))):=rfl
theorem ac7:cK Tryz.prog 70 WM:=by
 refine cR tn Tryz.func70 rfl Tryz.results70 Tryz.ntmps70 ?_;intro args v h;unfold WM at h;split at h
 .rename_i op;simp only[ar]at h;subst h;refine⟨by simp,rfl,rfl,?_⟩;simp only[go_sem,seval];repeat'(first
 |(refine vN (λh=>?_) (λh=>?_)<;>(try simp only[decide_eq_true_eq,decide_eq_false_iff_not,gY,jj,iM,jk,aQ,beq_iff_eq,beq_eq_false_iff_ne,ne_eq,gj]at h)<;>(simp only[go_sem,seval,h]))|(refine vY (λh=>?_) (λh=>?_)<;>(try simp only[decide_eq_true_eq,decide_eq_false_iff_not,gY,jj,iM,jk,aQ,beq_iff_eq,beq_eq_false_iff_ne,ne_eq,gj]at h)<;>(simp only[go_sem,seval,h]))|(refine vZ (λh=>?_) (λh=>?_)<;>(try simp only[decide_eq_true_eq,decide_eq_false_iff_not,gY,jj,iM,jk,aQ,beq_iff_eq,beq_eq_false_iff_ne,ne_eq,gj]at h)<;>(simp only[go_sem,seval,h])))
  all_goals simp[rB, *]
 .simp at h
def WN(args:List AV):Option AV:=match args with|[.c (.i op)]=>some (.c (.b (qT op)))|_=>none
theorem vp{op}:WN [.c (.i op)]=some (.c (.b (qT op))):=rfl
theorem ac8:cK Tryz.prog 68 WN:=by
 refine cR (tu adg (tu ac9 (tu ac7 tn))) Tryz.func68 rfl Tryz.results68 Tryz.ntmps68 ?_;intro args v h;unfold WN at h;split at h
 .rename_i op;simp only[ar]at h;subst h;refine⟨by simp,rfl,rfl,?_⟩;by_cases h:gB op=7;all_goals cases h1:qW op
  all_goals cases h2:rB op
  all_goals simp only[go_sem,seval,I9,Ap,Ao,qT,h,h1,h2]
 .simp at h
def AM(op:Int):Int:=if op<78 then op+11 else op
def uL(op:Int):Int:=if op<78 then 32 else 64
def WR(args:List AV):Option AV:=match args with|[.c (.i op)]=>if eC op then some (.t [.c (.i (AM op)),.c (.i (uL op))])else none|_=>none
theorem Mp{op}:WR [.c (.i op)]=if eC op then some (.t [.c (.i (AM op)),.c (.i (uL op))])else none:=rfl
theorem asr:cK Tryz.prog 125 WR:=by
 refine cR tn Tryz.func125 rfl Tryz.results125 Tryz.ntmps125 ?_;intro args v h;unfold WR at h;split at h
 .rename_i op;split at h
  .rename_i hc;simp only[ar]at h;subst h;refine⟨by simp only[cT,fa];decide,rfl,rfl,?_⟩;obtain⟨i1,i2⟩:=hc;(repeat(first|simp only[go_sem,seval]|simp(disch:=omega)only[w0]));repeat'(first
 |(refine vN (λh=>?_) (λh=>?_)<;>(try simp only[decide_eq_true_eq,decide_eq_false_iff_not,gY,jj,iM,jk,aQ,beq_iff_eq,beq_eq_false_iff_ne,ne_eq,gj]at h)<;>((repeat(first|simp only[go_sem,seval,h]|simp(disch:=omega)only[w0]))))|(refine vY (λh=>?_) (λh=>?_)<;>(try simp only[decide_eq_true_eq,decide_eq_false_iff_not,gY,jj,iM,jk,aQ,beq_iff_eq,beq_eq_false_iff_ne,ne_eq,gj]at h)<;>((repeat(first|simp only[go_sem,seval,h]|simp(disch:=omega)only[w0]))))|(refine vZ (λh=>?_) (λh=>?_)<;>(try simp only[decide_eq_true_eq,decide_eq_false_iff_not,gY,jj,iM,jk,aQ,beq_iff_eq,beq_eq_false_iff_ne,ne_eq,gj]at h)<;>((repeat(first|simp only[go_sem,seval,h]|simp(disch:=omega)only[w0])))))
   all_goals simp[AM,uL, *]
   all_goals try(intro h;omega)
  .simp at h
 .simp at h
def Gd(a b:Int)(g:Bool):Int:=if decide (b<a)=g then a else b
def D3(a b:BitVec 64)(g:Bool):BitVec 64:=if decide (b<a)=g then a else b
def Xo(args:List AV):Option AV:=match args with|[.c (.i a),.c (.i b),.c (.b g)]=>some (.c (.i (Gd a b g)))|_=>none
theorem MK{a b g}:Xo [.c (.i a),.c (.i b),.c (.b g)]=some (.c (.i (Gd a b g))):=rfl
theorem ats:cK Tryz.prog 127 Xo:=by
 refine cR tn Tryz.func127 rfl Tryz.results127 Tryz.ntmps127 ?_;intro args v h;unfold Xo at h;split at h
 .rename_i a b g;simp only[ar]at h;subst h;refine⟨by simp,rfl,rfl,?_⟩;by_cases h:b<a;all_goals cases g
  all_goals simp only[go_sem,seval,Gd,h]
 .simp at h
def Xp(args:List AV):Option AV:=match args with|[.c (.u a),.c (.u b),.c (.b g)]=>some (.c (.u (D3 a b g)))|_=>none
theorem ML{a b g}:Xp [.c (.u a),.c (.u b),.c (.b g)]=some (.c (.u (D3 a b g))):=rfl
theorem att:cK Tryz.prog 128 Xp:=by
 refine cR tn Tryz.func128 rfl Tryz.results128 Tryz.ntmps128 ?_;intro args v h;unfold Xp at h;split at h
 .rename_i a b g;simp only[ar]at h;subst h;refine⟨by simp,rfl,rfl,?_⟩;by_cases h:b<a;all_goals cases g
  all_goals simp only[go_sem,seval,D3,h]
 .simp at h
theorem Kw:(gB op=7)=(67<=op/\op<=88):=by
 apply propext;simp only[gB,nO,aQ,decide_eq_true_eq];repeat' split
 all_goals omega
theorem Pq:(qT op=true)=((69<=op/\op<=77)\/(80<=op/\op<=88)):=by
 apply propext;simp only[qT,Kw,qW,rB,aQ,gY,decide_eq_true_eq];repeat' split
 all_goals simp
 all_goals omega
def Cn(c s:Int)(m x:BitVec 64):BitVec 64:=if c=80 then eH x s else if c=81 then eH (eH m s+eH x s) s else if c=82 then eH m s^^^eH x s else if c=83 then eH m s&&&eH x s else if c=84 then eH m s|||eH x s else if c=85 then(if(nM x s).toInt<(nM m s).toInt then eH x s else eH m s)else if c=86 then(if(nM x s).toInt<(nM m s).toInt then eH m s else eH x s)else if c=87 then(if eH x s<eH m s then eH x s else eH m s)else(if eH x s<eH m s then eH m s else eH x s)
def uW(op:Int)(m x:BitVec 64):BitVec 64:=if qT op=true then Cn (AM op) (uL op) m x else 0#64
theorem tV(w:BitVec 64)(s:Int)(i:Nat)(hi:i<64):(eH w s).getLsbD i=(decide ((i:Int)<s)&&w.getLsbD i):=by unfold eH;rw[CW hi]
theorem DH{x y:BitVec 64}(h:∀i,i<64->x.getLsbD i=y.getLsbD i):x=y:=AR h
theorem aqt(w:BitVec 64):eH w 64=w:=DH λi hi=>by rw[tV _ _ _ hi,decide_eq_true ω];rfl
theorem PC(w:BitVec 64)(s:Int):eH (eH w s) s=eH w s:=DH λi hi=>by rw[tV _ _ _ hi,tV _ _ _ hi];cases decide ((i:Int)<s)<;>rfl
theorem Oj(w:BitVec 64)(s:Int):Fs w 0 s=eH w s:=DH λi hi=>by rw[tV _ _ _ hi];unfold Fs;rw[CW hi,show(0:Int)+(i:Int)=(i:Int)by omega,Kn]
theorem Yp(w:BitVec 64)(i:Nat)(hi:i<64):(nM w 32).getLsbD i=if i<32 then w.getLsbD i else w.getLsbD 31:=by
 unfold nM;rw[CW hi];have:pA w (32-1)=w.getLsbD 31:=Kn (i:=31);simp only[show decide ((1:Int)<=32)=true from rfl,gG,this,show((i:Int)<32)=(i<32)from propext ω]
theorem aqv(w:BitVec 64)(s:Int)(h:s=32\/s=64):eH (nM w s) s=eH w s:=by
 rcases h with rfl|rfl
 .refine DH λi hi=>?_;rw[tV _ _ _ hi,tV _ _ _ hi,Yp _ _ hi];by_cases h:i<32
  .rw[if_pos h]
  .rw[decide_eq_false ω];rfl
 .rw[afW ω]
theorem azQ(w:BitVec 64)(s:Int)(h:s=32\/s=64):nM (eH w s) s=nM w s:=by
 rcases h with rfl|rfl
 .refine DH λi hi=>?_;rw[Yp _ _ hi,Yp _ _ hi,tV _ _ _ hi,tV _ _ _ ω];by_cases h:i<32
  .rw[if_pos h,if_pos h,decide_eq_true ω];rfl
  .rw[if_neg h,if_neg h];rfl
 .rw[aqt]
theorem U6(a b:BitVec 64)(s:Int):eH (eH a s^^^eH b s) s=eH a s^^^eH b s:=DH λi hi=>by rw[tV _ _ _ hi,BitVec.getLsbD_xor,tV _ _ _ hi,tV _ _ _ hi];cases decide ((i:Int)<s)<;>simp
theorem U4(a b:BitVec 64)(s:Int):eH (eH a s&&&eH b s) s=eH a s&&&eH b s:=DH λi hi=>by rw[tV _ _ _ hi,sW,tV _ _ _ hi,tV _ _ _ hi];cases decide ((i:Int)<s)<;>simp
theorem U5(a b:BitVec 64)(s:Int):eH (eH a s|||eH b s) s=eH a s|||eH b s:=DH λi hi=>by rw[tV _ _ _ hi,wT,tV _ _ _ hi,tV _ _ _ hi];cases decide ((i:Int)<s)<;>simp
theorem ash(w:BitVec 64):aw 64 w.toInt=w:=BitVec.ofInt_toInt
theorem af0(op:Int):uL op=32\/uL op=64:=by unfold uL;split<;>simp
theorem aBP(h:qT op=true):80<=AM op/\AM op<=88:=by rw[Pq]at h;unfold AM;split<;>omega
theorem UW(a b:Int):Gd a b false=if b<a then b else a:=by unfold Gd;by_cases h:b<a<;>simp[h]
theorem UX(a b:Int):Gd a b true=if b<a then a else b:=by unfold Gd;by_cases h:b<a<;>simp[h]
theorem UY(a b:BitVec 64):D3 a b false=if b<a then b else a:=by unfold D3;by_cases h:b<a<;>simp[h]
theorem UZ(a b:BitVec 64):D3 a b true=if b<a then a else b:=by unfold D3;by_cases h:b<a<;>simp[h]
def WQ(args:List AV):Option AV:=match args with|[.c (.i op),.c (.u m),.c (.u x)]=>some (.t [.c (.u (uW op m x)),.c (.b (qT op))])|_=>none
theorem axS{op m x}:WQ [.c (.i op),.c (.u m),.c (.u x)]=some (.t [.c (.u (uW op m x)),.c (.b (qT op))]):=rfl
theorem asq:cK Tryz.prog 81 WQ:=by
 refine cR (tu ac8 (tu asr (tu adp (tu auv (tu ats (tu att tn)))))) Tryz.func81 rfl Tryz.results81 Tryz.ntmps81 ?_;intro args v h;unfold WQ at h;split at h
 .rename_i op m x;simp only[ar]at h;subst h;refine⟨by simp,rfl,rfl,?_⟩;cases h:qT op
  .simp only[go_sem,seval,vp,Mp,Jp,M7,MK,ML,h,uW]
  .have hs:=af0 op;obtain⟨c1,c2⟩:=aBP h;have hr:eC op:=by rw[Pq]at h;exact⟨ω,ω⟩
   have i1:eC (uL op):=by rcases hs with e|e<;>rw[e]<;>exact⟨ω,ω⟩
   have e:uW op m x=Cn (AM op) (uL op) m x:=if_pos h;rw[e];simp only[go_sem,seval,vp,Mp,Jp,M7,MK,ML,h,hr,i1];generalize AM op=c at c1 c2;generalize uL op=s at hs i1;repeat'(first|(refine vN (λh=>?_) (λh=>?_)<;>(try simp only[decide_eq_true_eq,decide_eq_false_iff_not,gY,jj,iM,jk,aQ,beq_iff_eq,beq_eq_false_iff_ne,ne_eq,gj]at h)<;>(simp only[go_sem,seval,vp,Mp,Jp,M7,MK,ML,i1,UW,UX,UY,UZ,h]))|(refine vY (λh=>?_) (λh=>?_)<;>(try simp only[decide_eq_true_eq,decide_eq_false_iff_not,gY,jj,iM,jk,aQ,beq_iff_eq,beq_eq_false_iff_ne,ne_eq,gj]at h)<;>(simp only[go_sem,seval,vp,Mp,Jp,M7,MK,ML,i1,UW,UX,UY,UZ,h]))|(refine vZ (λh=>?_) (λh=>?_)<;>(try simp only[decide_eq_true_eq,decide_eq_false_iff_not,gY,jj,iM,jk,aQ,beq_iff_eq,beq_eq_false_iff_ne,ne_eq,gj]at h)<;>(simp only[go_sem,seval,vp,Mp,Jp,M7,MK,ML,i1,UW,UX,UY,UZ,h])))
   all_goals first|(simp[Cn, *];done)|skip
   all_goals first|(by_cases hx:(nM x s).toInt<(nM m s).toInt<;>simp[Cn,ash,aqv _ _ hs, *];done)|skip
   all_goals(have hc:c=87\/c=88:=by omega)
   all_goals(rcases hc with rfl|rfl<;>by_cases hx:eH x s<eH m s<;>simp[Cn,D3, *])
 .simp at h
def aC7(op:Int)(m:BitVec 64):BitVec 64:=if gB op=7 then nM m (uL op)else 0#64
theorem aqD(a b:BitVec 64):(if b<a then a else b)=if a<b then b else a:=by
 by_cases h:b<a
 .have h2:¬a<b:=by rw[nP]at h|-;omega
  rw[if_pos h,if_neg h2]
 .by_cases h2:a<b
  .rw[if_neg h,if_pos h2]
  .rw[if_neg h,if_neg h2];apply mB;rw[nP]at h h2;omega
theorem Zv(z:Int)(m x:BitVec 64):Cn 88 z m x=if eH m z<eH x z then eH x z else eH m z:=aqD _ _
def zm(op:Int):ByteArray:=if gB op=7 then(nm op.toNat).extract 0 ((nm op.toNat).size-2)else⟨#[]⟩
def Ye(args:List AV):Option AV:=match args with|[.c (.i op)]=>some (.c (.s (zm op)))|_=>none
theorem JF{op}:Ye [.c (.i op)]=some (.c (.s (zm op))):=rfl
theorem adH:cK Tryz.prog 152 Ye:=by
 refine cR (tu VO (tp PQ tn)) Tryz.func152 rfl Tryz.results152 Tryz.ntmps152 ?_;intro args v h;unfold Ye at h;split at h
 .rename_i op;simp only[ar]at h;subst h;refine⟨by simp only[cT,fa];decide,rfl,rfl,?_⟩;by_cases h:gB op=7
  .have h':=h;rw[Kw]at h;obtain⟨k,rfl⟩:=kZ (by omega:0<=op);obtain⟨_,z1,z2⟩:=afY k ω (.inr (.inr h'));have g:=PJ (k:=k) ω;have e0:((((nm k).size:Int)-2).toNat)=(nm k).size-2:=ω
   (repeat(first|simp only[go_sem,seval,EB,wJ,h',BL,g,zm,aL,e0]|simp(disch:=omega)only[w0]))
  ·(repeat(first|simp only[go_sem,seval,EB,wJ,h,zm]|simp(disch:=omega)only[w0]))
 .simp at h
def uB(op:Int):Int:=if gB op=7 then(if qW op=true then 2 else if rB op=true then 3 else 1)else 0
def UC(s:ByteArray):Int:=if s=⟨#[]⟩then 0 else if s=(⟨#[108,114]⟩:ByteArray)then 2 else if s=(⟨#[115,99]⟩:ByteArray)then 3 else 1
theorem aBQ:∀k:Nat,k<99->UC (zm k)=uB k:=by decide+kernel
def XR(args:List AV):Option AV:=match args with|[.c (.i op)]=>some (.c (.i (uB op)))|_=>none
theorem Av{op}:XR [.c (.i op)]=some (.c (.i (uB op))):=rfl
theorem adz:cK Tryz.prog 119 XR:=by
 refine cR (tu adH tn) Tryz.func119 rfl Tryz.results119 Tryz.ntmps119 ?_;intro args v h;unfold XR at h;split at h
 .rename_i op;simp only[ar]at h;subst h;refine⟨by simp,rfl,rfl,?_⟩;have e:uB op=UC (zm op):=by
   by_cases h:gB op=7
   .have h':=h;rw[Kw]at h;obtain⟨k,rfl⟩:=kZ (by omega:0<=op);exact(aBQ k ω).symm
   .unfold uB zm;rw[if_neg h,if_neg h];rfl
  rw[e];simp only[go_sem,seval,JF];generalize zm op=s;repeat'(first
 |(refine vN (λh=>?_) (λh=>?_)<;>(try simp only[decide_eq_true_eq,decide_eq_false_iff_not,gY,jj,iM,jk,aQ,beq_iff_eq,beq_eq_false_iff_ne,ne_eq,gj]at h)<;>(simp only[go_sem,seval,h]))|(refine vY (λh=>?_) (λh=>?_)<;>(try simp only[decide_eq_true_eq,decide_eq_false_iff_not,gY,jj,iM,jk,aQ,beq_iff_eq,beq_eq_false_iff_ne,ne_eq,gj]at h)<;>(simp only[go_sem,seval,h]))|(refine vZ (λh=>?_) (λh=>?_)<;>(try simp only[decide_eq_true_eq,decide_eq_false_iff_not,gY,jj,iM,jk,aQ,beq_iff_eq,beq_eq_false_iff_ne,ne_eq,gj]at h)<;>(simp only[go_sem,seval,h])))
  all_goals simp[UC, *]
 .simp at h
def Fp(s:ByteArray):Int:=if s=(⟨#[97,109,111,115,119,97,112]⟩:ByteArray)then 80 else if s=(⟨#[97,109,111,97,100,100]⟩:ByteArray)then 81 else if s=(⟨#[97,109,111,120,111,114]⟩:ByteArray)then 82 else if s=(⟨#[97,109,111,97,110,100]⟩:ByteArray)then 83 else if s=(⟨#[97,109,111,111,114]⟩:ByteArray)then 84 else if s=(⟨#[97,109,111,109,105,110]⟩:ByteArray)then 85 else if s=(⟨#[97,109,111,109,97,120]⟩:ByteArray)then 86 else if s=(⟨#[97,109,111,109,105,110,117]⟩:ByteArray)then 87 else 88
theorem akJ:∀k:Nat,k<99->uB k=1->Fp (zm k)=AM k/\j8 k*8=uL k/\(zm k=(⟨#[97,109,111,109,97,120,117]⟩:ByteArray)\/Fp (zm k)≠88):=by decide+kernel
theorem Uz:(uB op=1)=(qT op=true):=by
 apply propext;unfold uB qT;cases qW op<;>cases rB op<;>by_cases h:gB op=7<;>simp[h]
theorem Wr(a b:BitVec 64):JB [.c (.i 36),.c (.u a),.c (.u b)]=some (.t [.c (.u (a^^^b)),.c (.b true)]):=rfl
theorem Ws(a b:BitVec 64):JB [.c (.i 39),.c (.u a),.c (.u b)]=some (.t [.c (.u (a|||b)),.c (.b true)]):=rfl
theorem Wt(a b:BitVec 64):JB [.c (.i 40),.c (.u a),.c (.u b)]=some (.t [.c (.u (a&&&b)),.c (.b true)]):=rfl
def XN(args:List AV):Option AV:=match args with|[.c (.i op),.c (.u m),.c (.u x)]=>some (.t [.c (.u (uW op m x)),.c (.b (qT op))])|_=>none
theorem ay2{op m x}:XN [.c (.i op),.c (.u m),.c (.u x)]=some (.t [.c (.u (uW op m x)),.c (.b (qT op))]):=rfl
theorem aub:cK Tryz.prog 94 XN:=by
 refine cR (tu adz (tu adA (tu at6 (tu VP (tu adB (tu adH (tu aua tn))))))) Tryz.func94 rfl Tryz.results94 Tryz.ntmps94 ?_;intro args v h;unfold XN at h;split at h
 .rename_i op m x;simp only[ar]at h;subst h;refine⟨by simp,rfl,rfl,?_⟩;by_cases h:uB op=1
  .have h':=h;rw[Uz]at h';have e:uW op m x=Cn (AM op) (uL op) m x:=if_pos h';have hs:=af0 op;have O7:=h';rw[Pq]at O7;obtain⟨k,rfl⟩:=kZ (by omega:0<=op);obtain⟨e1,e2,e3⟩:=akJ k ω h;have e4:aA (8*j8 (k:Int))=uL (k:Int):=by rw[kC ω];omega
   have i1:eC (uL (k:Int)):=by rcases hs with e|e<;>rw[e]<;>exact⟨ω,ω⟩
   have i0:eC 0:=⟨ω,ω⟩;rw[e,h',<-e1];generalize hz:uL (k:Int)=z at*;simp only[go_sem,seval,Av,Aw,MZ,xP,M3,JF,h,e4,i1,i0,Oj,azQ _ _ hs];generalize zm (k:Int)=s at*;repeat'(first
 |(refine vN (λh=>?_) (λh=>?_)<;>(try simp only[decide_eq_true_eq,decide_eq_false_iff_not,gY,jj,iM,jk,aQ,beq_iff_eq,beq_eq_false_iff_ne,ne_eq,gj]at h)<;>(simp only[go_sem,seval,Av,Aw,MZ,xP,M3,JF,Wr,Ws,Wt,i1,i0,Oj,PC,U6,U4,U5,h]))|(refine vY (λh=>?_) (λh=>?_)<;>(try simp only[decide_eq_true_eq,decide_eq_false_iff_not,gY,jj,iM,jk,aQ,beq_iff_eq,beq_eq_false_iff_ne,ne_eq,gj]at h)<;>(simp only[go_sem,seval,Av,Aw,MZ,xP,M3,JF,Wr,Ws,Wt,i1,i0,Oj,PC,U6,U4,U5,h]))|(refine vZ (λh=>?_) (λh=>?_)<;>(try simp only[decide_eq_true_eq,decide_eq_false_iff_not,gY,jj,iM,jk,aQ,beq_iff_eq,beq_eq_false_iff_ne,ne_eq,gj]at h)<;>(simp only[go_sem,seval,Av,Aw,MZ,xP,M3,JF,Wr,Ws,Wt,i1,i0,Oj,PC,U6,U4,U5,h])))
   all_goals first|(simp[Fp,Cn, *];done)|skip
   all_goals first|(by_cases hx:(nM x z).toInt<(nM m z).toInt<;>simp[Fp,Cn,PC, *];done)|skip
   .have ec:Fp (⟨#[97,109,111,109,97,120,117]⟩:ByteArray)=88:=by decide
    rw[ec,Zv,if_pos h]
   .have ec:Fp (⟨#[97,109,111,109,97,120,117]⟩:ByteArray)=88:=by decide
    rw[ec,Zv,if_neg h]
   .exfalso;rcases e3 with e3|e3
    .contradiction
    .exact e3 (by simp only[Fp, *,if_false])
  .have h':qT op=false:=by rw[Uz]at h;simpa using h
   have e:uW op m x=0#64:=by unfold uW;rw[if_neg (by simp[h'])]
   simp only[go_sem,seval,Av,Aw,MZ,xP,M3,JF,ay1,h,h',e]
 .simp at h
variable {P:Program}{p:Nat}{W:World}
section
open Go.RowKit Go.Shelf
attribute [local go_sem]Oper.semAt_some
structure Ci(B:Nat)(I:World->Prop):Prop where
 new:∀W o,I W->o.isCells=false->I (W.alloc o)put:∀W r o o',I W->B<=r->W.heap[r]?=some o->o.isCells=false->o'.isCells=false->I (W.putObj r o')
def Zm(F:Fence)(n:Nat)(P:Program)(g:Nat)(S:ByteArray)(HO:Nat->Array Value)(N:Nat):Prop:=∀(l:Nat)(J:Nat->World->Prop)(Jx:World->Prop)(W:World),(∀k W1 p q,J k W1->W1.heap[W.heap.size]?=some (.stringIter S p)->J k (W1.putObj W.heap.size (.stringIter S q)))->(∀k W1 p,k<N->J k W1->W1.heap[W.heap.size]?=some (.stringIter S p)->YieldAt F (n-1) P l (HO k) W1 λe W'=>(e=.returned (.bool true)/\J (k+1) W'/\W'.heap[W.heap.size]?=some (.stringIter S p))\/(e=.returned (.bool false)/\Jx W'))->J 0 (W.iter S 0)->CallsIn F n P g #[.func (.yield l) #[] #[]] W λe W'=>(∃v,e=.returned v)/\(J N W'\/Jx W')
def awt(I:Nat->World->Prop)(Ix:World->Prop)(k:Nat)(W:World):Exit->Act->World->Prop|.normal,_,W'=>KeepsOthers W W'/\I (k+1) W'|.ret,_,W'=>KeepsOthers W W'/\Ix W'|_,_,_=>False
theorem awG{F:Fence}{g:Operand}{ps:Array Tmp}{assign body:Code}{Q:Exit->Act->World->Prop}{a:Act}{w:World}{gf:Nat}{S:ByteArray}{HO:Nat->Array Value}(Bw:F.round=none)(h1:1<=n)(hg:a.eval g=.func (.func gf) #[] #[])(hFg:F.fn gf)(eg:∀args w,(callFunc gf args).run P w=.ok (.enter gf args) w)(aoM:Zm F (n-1) P gf S HO N)(sF:∀k,(HO k).size=ps.size)(I:Nat->World->Prop)(Ix:World->Prop)(hI:∀k,Ci w.heap.size (I k))(hIx:Ci w.heap.size Ix)(h0:I 0 w)(Cp:Nat->Act)(aor:∀(l k:Nat)(W:World)(K:Act->World->Prop),K (Cp k) W->assign.wpIn (F.inRound l) (n-1-1) P (Exit.then K (λ_ _ _=>False)) {tmps:=(ps.zip (HO k)).foldl (λt(p,v)=>t.setIfInBounds p v) a.tmps,defers:=[]} W)(aot:∀(l k:Nat)(W:World),I k W->k<N->body.wpIn (F.inRound l) (n-1-1) P (awt I Ix k W) (Cp k) W)(aoB:∀(D:Nat)(W:World),w.heap.size<=D->I N W->W.heap[D]?=some (.deferred (some []))->Q .normal {a with defers:={target:=.collected D,args:=#[]}::a.defers} W)(aoP:∀(D:Nat)(W:World),w.heap.size<=D->Ix W->W.heap[D]?=some (.deferred (some []))->Code.ret.wpIn F n P Q {a with defers:={target:=.collected D,args:=#[]}::a.defers} W):(Code.rangeFunc g ps assign body).wpIn F n P Q a w:=by
 refine wpIn_rangeFunc λfn Ld=>?_;rw[Bw];obtain⟨rec,Bv⟩:∃rec:LoopState->Option Code->Loop,rec=λst pe=>{state:=st,pending:=pe,fn,tmps:=a.tmps,params:=ps,assign,body,defers:=w.heap.size}:=⟨_,rfl⟩;obtain⟨W1,KY⟩:∃W1,(w.alloc (.deferred (some []))).alloc (.loop (rec .ready none))=W1:=⟨_,rfl⟩;have sz:W1.heap.size=w.heap.size+2:=by rw[<-KY];simp
 have hL1:W1.heap[w.heap.size+1]?=some (.loop (rec .ready none)):=by
  rw[<-KY];have:=World.alloc_heap_new (w.alloc (.deferred (some []))) (.loop (rec .ready none));rwa[World.size_alloc]at this
 have Cy:W1.heap[w.heap.size]?=some (.deferred (some [])):=by rw[<-KY];exact(Below.heap_alloc _ _ _ (by simp)).trans (World.alloc_heap_new w _)
 have hI1:I 0 W1:=by rw[<-KY];exact(hI 0).new _ _ ((hI 0).new _ _ h0 rfl) rfl
 have aC3:(Code.ret).wpIn F n P Q=(Code.ret).wpIn F n P Q:=rfl;let J:Nat->World->Prop:=λk W=>I k W/\W.heap[w.heap.size+1]?=some (.loop (rec .ready none))/\W.heap[w.heap.size]?=some (.deferred (some []));let Jx:World->Prop:=λW=>Ix W/\W.heap[w.heap.size+1]?=some (.loop (rec .done (some .ret)))/\W.heap[w.heap.size]?=some (.deferred (some []));refine⟨w.heap.size+1,[{target:=.collected w.heap.size,args:=#[]}],W1,{target:=.fn (.func gf) #[],args:=#[.func (.yield (w.heap.size+1)) #[] #[]]},W1,gf,#[.func (.yield (w.heap.size+1)) #[] #[]],W1,?_,?_,?_,?_,λ_=>h1,?_⟩
 .rw[<-KY,Bv];exact run_enterLoop_outer _ _ _ _ _
 .simp only[resolve,hg];simp[go_sem]
 .intro f' Lc;simp[Target.leads]at Lc;subst Lc;exact hFg
 .simp[invoke,go_sem,eg]
 .refine(aoM (w.heap.size+1) J Jx W1 ?_ ?_ ?_).mono ?_
  .rintro k W p q⟨hi,hl,hk⟩hs;rw[sz]at hs|-;exact⟨(hI k).put _ _ _ _ hi ω hs rfl rfl,(World.putObj_heap_other ω).trans hl,(World.putObj_heap_other ω).trans hk⟩
  .rintro k W p aG⟨hi,hl,hk⟩hs;rw[sz]at hs|-;have Ic:w.heap.size+1<W.heap.size:=(J1.1 hl).1;have hy:=run_yield (P:=P) (args:=HO k) hl (by rw[Bv];exact sF k);rw[Bv]at hy;refine⟨fn,_,assign,body,hy,roundIn_of_wpIn Ld (aor _ k W _ ⟨_,run_beginRound hl (by rw[Bv]),?_⟩)⟩;have Br:(W.putObj (w.heap.size+1) (.loop {rec .ready none with state:=.busy})).heap[w.heap.size+1]?=some (.loop {rec .ready none with state:=.busy}):=World.putObj_heap_same Ic;have iG:(W.putObj (w.heap.size+1) (.loop {rec .ready none with state:=.busy})).heap[w.heap.size]?=some (.deferred (some [])):=(World.putObj_heap_other ω).trans hk;have nG:(W.putObj (w.heap.size+1) (.loop {rec .ready none with state:=.busy})).heap[w.heap.size+2]?=some (.stringIter S p):=(World.putObj_heap_other ω).trans hs;refine wpIn_mono (aot _ k _ ((hI k).put _ _ _ _ hi ω hl rfl rfl) aG) ?_;rintro e a3 W3 hp;cases e with
 |normal=>
     obtain⟨yG,T5⟩:=hp;have CC:=yG.same _ _ Br rfl;have hr:=run_endRound (P:=P) none CC;refine⟨_,_,hr,.inl ⟨rfl,⟨(hI _).put _ _ _ _ T5 ω CC rfl rfl,?_,?_⟩,?_⟩⟩
     .rw[World.putObj_heap_same (J1.1 CC).1,Bv];rfl
     .exact(World.putObj_heap_other ω).trans (yG.same _ _ iG rfl)
     .exact(World.putObj_heap_other ω).trans (yG.same _ _ nG rfl)|ret=>
     obtain⟨yG,T5⟩:=hp;have CC:=yG.same _ _ Br rfl;have hr:=run_endRound (P:=P) (some .ret) CC;refine⟨_,_,hr,.inr ⟨rfl,hIx.put _ _ _ _ T5 ω CC rfl rfl,?_,?_⟩⟩
     .rw[World.putObj_heap_same (J1.1 CC).1,Bv];rfl
     .exact(World.putObj_heap_other ω).trans (yG.same _ _ iG rfl)|exit id=>exact hp.elim|goto t=>exact hp.elim|panic ch=>exact hp.elim|outgrown=>exact hp.elim
  .refine⟨(hI 0).new _ _ hI1 rfl,?_,?_⟩
   .exact(Below.heap_alloc _ _ _ ω).trans hL1
   .exact(Below.heap_alloc _ _ _ ω).trans Cy
  .rintro e W2⟨⟨v,rfl⟩,(⟨hi,hl,hk⟩|⟨hi,hl,hk⟩)⟩
   .refine⟨none,_,by have:=run_endLoop (P:=P) hl (by rw[Bv];simp);rw[Bv]at this;exact this,?_⟩;exact aoB _ _ (aB _) ((hI N).put _ _ _ _ hi ω hl rfl rfl) ((World.putObj_heap_other ω).trans hk)
   .refine⟨some .ret,_,by have:=run_endLoop (P:=P) hl (by rw[Bv];simp);rw[Bv]at this;exact this,?_⟩;exact aoP _ _ (aB _) (hIx.put _ _ _ _ hi ω hl rfl rfl) ((World.putObj_heap_other ω).trans hk)
attribute [local go_sem]Oper.semAt_some
def U1:Code->Option ByteArray
 |.region _ ops _=>ops.toList.findSome? λo=>match o.op with
   |.range _ (.const (.string s))=>some s|_=>none
 |.seq a b=>(U1 a).or (U1 b)|_=>none
noncomputable def qv:ByteArray:=((Tryz.f198.body).bind U1).getD ⟨#[]⟩
def qZ:List UInt8:=qv.data.toList
def vl(p:Nat):Nat:=(qZ.take p).countP (·==32)
def tJ:Nat->Nat|0=>0|p+1=>if qZ.getD p 0==32 then p+1 else tJ p
def tY(p:Nat):Bool:=decide ((qZ.getD p 0).toNat<128)&&(if qZ.getD p 0==32 then decide (vl p<97)&&decide (tJ p<=p)&&decide ((qZ.drop (tJ p)).take (p-tJ p)=CV.getD (vl p+1) [])else true)
theorem adL:qZ.length=558:=κ
theorem Gs:qv.size=558:=κ
theorem asp:(pj 558).all tY=true:=κ
theorem adP:vl 558=97/\tJ 558<=558/\(qZ.drop (tJ 558)).take (558-tJ 558)=CV.getD 98 []:=by refine⟨κ,by decide+kernel,κ⟩
theorem adO(h:p<558):tY p=true:=cE.1 asp p (by simpa using h)
theorem L5(h:p<558):p<qv.size:=by rw[Gs];exact h
theorem adK(h:p<qv.size):qZ.getD p 0=qv[p]'h:=by
 have:p<qZ.length:=by rw[adL];rw[Gs]at h;exact h
 rw[bX,cP this];rfl
theorem adR(h:p<558):vl (p+1)=vl p+(if qZ.getD p 0==32 then 1 else 0):=by
 unfold vl;have hp:p<qZ.length:=by rw[adL];exact h
 have e:qZ.getD p 0=qZ[p]:=by rw[bX,cP hp];rfl
 rw[Hp hp,List.countP_append,e];simp[List.countP_cons]
theorem adN{a b:Nat}:qv.extract a b=⟨((qZ.drop a).take (b-a)).toArray⟩:=by
 apply ByteArray.ext;rw[ByteArray.data_extract];apply Array.ext';simp[qZ,List.extract]
theorem abu:∀p,tJ p<=p|0=>aB _|p+1=>by unfold tJ;split<;>first|exact aB _|exact Nat.le_succ_of_le (abu p)
theorem avE(h:p<558)(hb:qZ.getD p 0=32):vl p<97/\vl (p+1)=vl p+1/\tJ (p+1)=p+1/\qv.extract (tJ p) p=nm (vl p+1):=by
 have:=adO h;unfold tY at this;rw[if_pos (by rw[hb];rfl)]at this;simp only[aQ,decide_eq_true_eq]at this;refine⟨this.2.1.1,by rw[adR h,if_pos (by rw[hb];rfl)],by rw[tJ,if_pos (by rw[hb];rfl)],?_⟩;rw[adN,this.2.2];rfl
theorem avr(h:p<558)(hb:qZ.getD p 0≠32):vl (p+1)=vl p/\tJ (p+1)=tJ p:=by
 have e:¬(qZ.getD p 0==32)=true:=by simpa using hb
 exact⟨by rw[adR h,if_neg e,ru],by rw[tJ,if_neg e]⟩
theorem avb(h:p<qv.size):(qv[p]'h).toNat<128:=by
 rw[Gs]at h;have:=adO h;unfold tY at this;simp only[aQ,decide_eq_true_eq]at this;rw[<-adK (L5 h)];exact this.1
theorem avq:qv.extract (tJ 558) 558=nm 98:=by rw[adN,adP.2.2];rfl
theorem ara{P:Program}{W:World}{r:Nat}{s:ByteArray}{p:Nat}(ty:TypeId)(hs:W.heap[r]?=some (.stringIter s p))(h:p<s.size)(ha:(s[p]'h).toNat<128):(Instr.next (.pointer (some ⟨r,0,none⟩)) true ty).run P W=.ok (.tuple #[.bool true,.int .i64 p,.int .i32 (s[p]'h).toNat]) (W.putObj r (.stringIter s (p+1))):=by
 simp only[Instr.next,getObj,setObj,Sem.run_bind,Sem.run,hs,Result.andThen,h,if_true,decode_ascii s p h ha];simp[goInt,Sem.run,hs,World.putObj]
theorem arb{r:Nat}{s:ByteArray}(ty:TypeId)(hs:W.heap[r]?=some (.stringIter s p))(h:¬p<s.size):(Instr.next (.pointer (some ⟨r,0,none⟩)) true ty).run P W=.ok (.tuple #[.bool false]) W:=by simp[Instr.next,getObj,Sem.run,hs,h]
attribute [local go_sem]Oper.semAt_some
theorem adM:(vD #[108,117,105,32,97,117,105,112,99,32,106,97,108,32,106,97,108,114,32,98,101,113,32,98,110,101,32,98,108,116,32,98,103,101,32,98,108,116,117,32,98,103,101,117,32,108,98,32,108,104,32,108,119,32,108,100,32,108,98,117,32,108,104,117,32,108,119,117,32,115,98,32,115,104,32,115,119,32,115,100,32,97,100,100,105,32,115,108,116,105,32,115,108,116,105,117,32,120,111,114,105,32,111,114,105,32,97,110,100,105,32,115,108,108,105,32,115,114,108,105,32,115,114,97,105,32,97,100,100,32,115,117,98,32,115,108,108,32,115,108,116,32,115,108,116,117,32,120,111,114,32,115,114,108,32,115,114,97,32,111,114,32,97,110,100,32,97,100,100,105,119,32,115,108,108,105,119,32,115,114,108,105,119,32,115,114,97,105,119,32,97,100,100,119,32,115,117,98,119,32,115,108,108,119,32,115,114,108,119,32,115,114,97,119,32,102,101,110,99,101,32,102,101,110,99,101,46,105,32,101,99,97,108,108,32,101,98,114,101,97,107,32,109,117,108,32,109,117,108,104,32,109,117,108,104,115,117,32,109,117,108,104,117,32,100,105,118,32,100,105,118,117,32,114,101,109,32,114,101,109,117,32,109,117,108,119,32,100,105,118,119,32,100,105,118,117,119,32,114,101,109,119,32,114,101,109,117,119,32,108,114,46,119,32,115,99,46,119,32,97,109,111,115,119,97,112,46,119,32,97,109,111,97,100,100,46,119,32,97,109,111,120,111,114,46,119,32,97,109,111,97,110,100,46,119,32,97,109,111,111,114,46,119,32,97,109,111,109,105,110,46,119,32,97,109,111,109,97,120,46,119,32,97,109,111,109,105,110,117,46,119,32,97,109,111,109,97,120,117,46,119,32,108,114,46,100,32,115,99,46,100,32,97,109,111,115,119,97,112,46,100,32,97,109,111,97,100,100,46,100,32,97,109,111,120,111,114,46,100,32,97,109,111,97,110,100,46,100,32,97,109,111,111,114,46,100,32,97,109,111,109,105,110,46,100,32,97,109,111,109,97,120,46,100,32,97,109,111,109,105,110,117,46,100,32,97,109,111,109,97,120,117,46,100,32,99,115,114,114,119,32,99,115,114,114,115,32,99,115,114,114,99,32,99,115,114,114,119,105,32,99,115,114,114,115,105,32,99,115,114,114,99,105,32,109,114,101,116,32,115,114,101,116,32,119,102,105,32,115,102,101,110,99,101,46,118,109,97])=qv:=κ
theorem akU{a b:Nat}(h1:a<=b)(h2:b<=558)(w:World):(Instr.slice 9 (.string (vD #[108,117,105,32,97,117,105,112,99,32,106,97,108,32,106,97,108,114,32,98,101,113,32,98,110,101,32,98,108,116,32,98,103,101,32,98,108,116,117,32,98,103,101,117,32,108,98,32,108,104,32,108,119,32,108,100,32,108,98,117,32,108,104,117,32,108,119,117,32,115,98,32,115,104,32,115,119,32,115,100,32,97,100,100,105,32,115,108,116,105,32,115,108,116,105,117,32,120,111,114,105,32,111,114,105,32,97,110,100,105,32,115,108,108,105,32,115,114,108,105,32,115,114,97,105,32,97,100,100,32,115,117,98,32,115,108,108,32,115,108,116,32,115,108,116,117,32,120,111,114,32,115,114,108,32,115,114,97,32,111,114,32,97,110,100,32,97,100,100,105,119,32,115,108,108,105,119,32,115,114,108,105,119,32,115,114,97,105,119,32,97,100,100,119,32,115,117,98,119,32,115,108,108,119,32,115,114,108,119,32,115,114,97,119,32,102,101,110,99,101,32,102,101,110,99,101,46,105,32,101,99,97,108,108,32,101,98,114,101,97,107,32,109,117,108,32,109,117,108,104,32,109,117,108,104,115,117,32,109,117,108,104,117,32,100,105,118,32,100,105,118,117,32,114,101,109,32,114,101,109,117,32,109,117,108,119,32,100,105,118,119,32,100,105,118,117,119,32,114,101,109,119,32,114,101,109,117,119,32,108,114,46,119,32,115,99,46,119,32,97,109,111,115,119,97,112,46,119,32,97,109,111,97,100,100,46,119,32,97,109,111,120,111,114,46,119,32,97,109,111,97,110,100,46,119,32,97,109,111,111,114,46,119,32,97,109,111,109,105,110,46,119,32,97,109,111,109,97,120,46,119,32,97,109,111,109,105,110,117,46,119,32,97,109,111,109,97,120,117,46,119,32,108,114,46,100,32,115,99,46,100,32,97,109,111,115,119,97,112,46,100,32,97,109,111,97,100,100,46,100,32,97,109,111,120,111,114,46,100,32,97,109,111,97,110,100,46,100,32,97,109,111,111,114,46,100,32,97,109,111,109,105,110,46,100,32,97,109,111,109,97,120,46,100,32,97,109,111,109,105,110,117,46,100,32,97,109,111,109,97,120,117,46,100,32,99,115,114,114,119,32,99,115,114,114,115,32,99,115,114,114,99,32,99,115,114,114,119,105,32,99,115,114,114,115,105,32,99,115,114,114,99,105,32,109,114,101,116,32,115,114,101,116,32,119,102,105,32,115,102,101,110,99,101,46,118,109,97])) (some (.int .i64 (a:Int))) (some (.int .i64 (b:Int))) none).run Tryz.prog w=.ok (.string (qv.extract a b)) w:=by
 rw[adM];have:=run_slice_string (P:=Tryz.prog) (w:=w) 9 qv .i64 .i64 (a:Int) (b:Int) Tryz.underlying9 ω ω (by rw[Gs];omega);rw[this];rfl
theorem akT{a:Nat}(h2:a<=558)(w:World):(Instr.slice 9 (.string (vD #[108,117,105,32,97,117,105,112,99,32,106,97,108,32,106,97,108,114,32,98,101,113,32,98,110,101,32,98,108,116,32,98,103,101,32,98,108,116,117,32,98,103,101,117,32,108,98,32,108,104,32,108,119,32,108,100,32,108,98,117,32,108,104,117,32,108,119,117,32,115,98,32,115,104,32,115,119,32,115,100,32,97,100,100,105,32,115,108,116,105,32,115,108,116,105,117,32,120,111,114,105,32,111,114,105,32,97,110,100,105,32,115,108,108,105,32,115,114,108,105,32,115,114,97,105,32,97,100,100,32,115,117,98,32,115,108,108,32,115,108,116,32,115,108,116,117,32,120,111,114,32,115,114,108,32,115,114,97,32,111,114,32,97,110,100,32,97,100,100,105,119,32,115,108,108,105,119,32,115,114,108,105,119,32,115,114,97,105,119,32,97,100,100,119,32,115,117,98,119,32,115,108,108,119,32,115,114,108,119,32,115,114,97,119,32,102,101,110,99,101,32,102,101,110,99,101,46,105,32,101,99,97,108,108,32,101,98,114,101,97,107,32,109,117,108,32,109,117,108,104,32,109,117,108,104,115,117,32,109,117,108,104,117,32,100,105,118,32,100,105,118,117,32,114,101,109,32,114,101,109,117,32,109,117,108,119,32,100,105,118,119,32,100,105,118,117,119,32,114,101,109,119,32,114,101,109,117,119,32,108,114,46,119,32,115,99,46,119,32,97,109,111,115,119,97,112,46,119,32,97,109,111,97,100,100,46,119,32,97,109,111,120,111,114,46,119,32,97,109,111,97,110,100,46,119,32,97,109,111,111,114,46,119,32,97,109,111,109,105,110,46,119,32,97,109,111,109,97,120,46,119,32,97,109,111,109,105,110,117,46,119,32,97,109,111,109,97,120,117,46,119,32,108,114,46,100,32,115,99,46,100,32,97,109,111,115,119,97,112,46,100,32,97,109,111,97,100,100,46,100,32,97,109,111,120,111,114,46,100,32,97,109,111,97,110,100,46,100,32,97,109,111,111,114,46,100,32,97,109,111,109,105,110,46,100,32,97,109,111,109,97,120,46,100,32,97,109,111,109,105,110,117,46,100,32,97,109,111,109,97,120,117,46,100,32,99,115,114,114,119,32,99,115,114,114,115,32,99,115,114,114,99,32,99,115,114,114,119,105,32,99,115,114,114,115,105,32,99,115,114,114,99,105,32,109,114,101,116,32,115,114,101,116,32,119,102,105,32,115,102,101,110,99,101,46,118,109,97])) (some (.int .i64 (a:Int))) none none).run Tryz.prog w=.ok (.string (qv.extract a 558)) w:=by
 rw[adM];have:=run_slice_string_l (P:=Tryz.prog) (w:=w) 9 qv Tryz.underlying9 .i64 (a:Int) ω (by rw[Gs];omega);rw[this,Gs];rfl
def VS(k:Nat):Array Value:=#[.int .i64 ((k:Int)+1),.string (nm (k+1))]
theorem ah3(F:Fence)(n:Nat)(hf:F.fn 198)(Bw:F.round=none)(hn:1<=n):Zm F n Tryz.prog 198 qv VS 98:=λl J Jx W hA hY h0=>by
 refine callsIn_of_wp Tryz.func198 rfl hf ?_ Bw;simp only[Tryz.ntmps198,List.size_toArray,cT,fa,Nat.reduceAdd,Nat.reduceSub,agT,agU,List.push_toArray,agW,jW,lf];gi_wp2;gi_loopw[2,3](λo f wr=>∃p:Nat,p<=558/\o=.int .i64 ((vl p:Int)+1)/\f=.int .i64 (tJ p:Int)/\wr.heap[W.heap.size]?=some (.stringIter qv p)/\J (vl p) wr)(λ_ _ wr=>558-wr.iterPos W.heap.size);case atStart=>exact⟨0,ω,rfl,rfl,World.iter_heap _ _ _,h0⟩
 case round=>
  obtain⟨p,hp,rfl,rfl,hs,hJ⟩:=hrel;by_cases aG:p<558
  .have hnx:=λty=>ara (P:=Tryz.prog) ty hs (L5 aG) (avb (L5 aG));have hJ2:=hA _ _ p (p+1) hJ hs;have nG:(wr.putObj W.heap.size (.stringIter qv (p+1))).heap[W.heap.size]?=some (.stringIter qv (p+1)):=World.putObj_heap_same (J1.1 hs).1;have uz:(wr.putObj W.heap.size (.stringIter qv (p+1))).iterPos W.heap.size=p+1:=by simp only[World.iterPos,nG]
   have aC2:wr.iterPos W.heap.size=p:=by simp only[World.iterPos,hs]
   have abM:=adK (L5 aG);by_cases hb:qZ.getD p 0=32
   .obtain⟨g1,g2,g3',g4⟩:=avE aG hb;have g3:=abu p;obtain⟨fn,tmps,assign,body,hy,hR⟩:=hY (vl p) _ (p+1) ω hJ2 nG;dsimp only[VS]at hy;rw[<-abM,hb]at hnx;have Im:=akU g3 (by omega:p<=558);gi_wp2;refine hR.mono ?_;rintro e W3(⟨rfl,TD,Ls⟩|⟨rfl,TE⟩)
    .gi_wp2;go_roundw;case rel=>exact⟨p+1,ω,by rw[g2];simp[wrap64]<;>omega,by rw[g3'];simp[wrap64]<;>omega,Ls,by rw[g2];exact TD⟩
     case measure=>simp[World.iterPos,Ls,hs]<;>omega
    .gi_wp2;refine bodyPost_ret (results_none rfl _ _ _) rfl ?_;exact⟨⟨_,rfl⟩,.inr TE⟩
   .obtain⟨g2,g3⟩:=avr aG hb;have vd:((qv[p]'(L5 aG)).toNat:Int)≠32:=by
     rw[<-abM];intro h;apply hb;have:(qZ.getD p 0).toNat=32:=ω
     exact UInt8.toNat_inj.1 this
    gi_wp2;go_roundw;case rel=>exact⟨p+1,ω,by rw[g2],by rw[g3],nG,by rw[g2];exact hJ2⟩
    case measure=>simp[World.iterPos,nG,hs]<;>omega
  .obtain rfl:p=558:=ω
   have hnx:=λty=>arb (P:=Tryz.prog) ty hs (by rw[Gs];omega);obtain⟨e1,e2,e3⟩:=adP;rw[e1]at hJ;obtain⟨fn,tmps,assign,body,hy,hR⟩:=hY 97 _ 558 ω hJ hs;have hy:(Instr.yield l #[.int .i64 98,.string (nm 98)]).run Tryz.prog wr=.ok (.round l fn tmps assign body) wr:=hy;have Im:=akT e2;rw[avq]at Im;rw[e1];gi_wp2;refine hR.mono ?_;rintro e W3(⟨rfl,TD,Ls⟩|⟨rfl,TE⟩)
   .gi_wp2;go_end0;exact⟨⟨_,rfl⟩,.inl TD⟩
   .gi_wp2;go_end0;exact⟨⟨_,rfl⟩,.inr TE⟩
attribute [local go_sem]Oper.semAt_some
def yK(op:Int):ByteArray:=if 1<=op/\op<=98 then nm op.toNat else⟨#[]⟩
def KN(w W:World):Prop:=Go.Am.ij w (λ_=>False) W
theorem apk{w:World}{o:Obj}(h:KN w W)(ho:o.isCells=false):KN w (W.alloc o):=by
 refine⟨h.os,h.tape,h.output,by have:=h.size;simp;omega,λb hb hm=>?_,λb c t f hf hm=>?_⟩
 .rw[A3 _ _ _ (Nat.lt_of_lt_of_le hb h.size)];exact h.jT b hb hm
 .by_cases e:b=W.heap.size
  .subst e;rw[Cl]at hf;simp at hf;subst hf;simp[Obj.isCells]at ho
  .rcases cX b W.heap.size with h'|h'
   .rw[A3 _ _ _ h']at hf;exact h.free b c t f hf hm
   .rw[Array.getElem?_eq_none (by simp;omega)]at hf;simp at hf
theorem UI{w:World}{r:Nat}{o':Obj}(h:KN w W)(hr:w.heap.size<=r)(hl:r<W.heap.size)(ho:o'.isCells=false):KN w (W.putObj r o'):=by
 refine⟨h.os,h.tape,h.output,by have:=h.size;simp;omega,λb hb hm=>?_,λb c t f hf hm=>?_⟩
 .rw[World.putObj_heap_other ω];exact h.jT b hb hm
 .by_cases e:b=r
  .subst e;rw[World.putObj_heap_same hl]at hf;simp at hf;subst hf;simp[Obj.isCells]at ho
  .rw[World.putObj_heap_other e]at hf;exact h.free b c t f hf hm
theorem aci{w:World}(h:KN w W)(c:Array Value)(t:Nat):KN w (W.alloc (.cells c t)):=Go.Am.ij.alloc h c t
theorem acj{w:World}{b:Nat}{v:Value}(h:KN w W)(hr:w.heap.size<=b):KN w (W.setCell ⟨b,i,none⟩ v):=by
 have e:∀k,(W.setCell ⟨b,i,none⟩ v).heap[k]?=if b=k then(W.heap[k]?).map (λo=>match o with|.cells c t f=>.cells (c.setIfInBounds i v) t f|o=>o)else W.heap[k]?:=by
  intro k;simp only[World.setCell,Array.getElem?_modify];split
  .cases W.heap[k]? with
 |none=>rfl|some o=>cases o<;>rfl
  .rfl
 refine⟨h.os,h.tape,h.output,by have:=h.size;show _<=(W.heap.modify _ _).size;rw[Array.size_modify];exact this,λk hk hm=>?_,λk c t f hf hm=>?_⟩
 .rw[e,if_neg ω];exact h.jT k hk hm
 .rw[e]at hf;split at hf
  .cases ho:W.heap[k]? with|none=>rw[ho]at hf;simp at hf|some o=>rw[ho]at hf;cases o with
 |cells c' t' f'=>simp at hf;obtain⟨_,rfl,rfl⟩:=hf;exact h.free k c' t' _ ho hm|_=>simp at hf
  .exact h.free k c t f hf hm
theorem aag{W:World}{a:Addr}{v:Value}(o:Obj)(h:W.cell? a=some v):(W.alloc o).cell? a=some v:=cell_kept h (World.grownBy_alloc W o none) (λr e=>by cases e)
theorem abv{W:World}{a:Addr}{v:Value}(o:Obj)(h:W.cell? a=some v)(hf:W.frozen? a=false):(W.alloc o).frozen? a=false:=(frozen_kept h (World.grownBy_alloc W o none) (λr e=>by cases e)).trans hf
theorem aah(W:World)(v:Value)(t:TypeId):(W.alloc (.cells #[v] t)).cell? ⟨W.heap.size,0,none⟩=some v/\(W.alloc (.cells #[v] t)).frozen? ⟨W.heap.size,0,none⟩=false:=by
 have h:∀(V:World)(B:Nat),V.heap[B]?=some (.cells #[v] t (0,0))->V.cell? ⟨B,0,none⟩=some v/\V.frozen? ⟨B,0,none⟩=false:=by
  intro V B h;constructor<;>simp[World.cell?,World.frozen?,h]
 exact h _ _ (World.alloc_heap_new W _)
theorem Yw{B:Nat}{p:Addr}{v:Value}:Ci B λW=>W.cell? p=some v/\W.frozen? p=false:=by
 refine⟨λW o⟨h1,h2⟩_=>?_,λW r o o'⟨h1,h2⟩_ hr ho kv=>?_⟩
 .exact⟨aag _ h1,abv _ h1 h2⟩
 .have hg:=grownBy_putObj' W r o';have hk:∀k,some r=some k->∃o:Obj,W.heap[k]?=some o/\o.isCells=false:=λk e=>by cases e;exact⟨o,hr,ho⟩
  exact⟨cell_kept h1 hg hk,(frozen_kept h1 hg hk).trans h2⟩
theorem af9{w:World}{B:Nat}(h:w.heap.size<=B):Ci B λW=>KN w W:=⟨λW o hi ho=>apk hi ho,λW r o o' hi hB hr ho kv=>UI hi ω (J1.1 hr).1 kv⟩
theorem Ci.and{B:Nat}{I J:World->Prop}(h:Ci B I)(h':Ci B J):Ci B λW=>I W/\J W:=⟨λW o hi ho=>⟨h.new W o hi.1 ho,h'.new W o hi.2 ho⟩,λW r o o' hi hB hr ho kv=>⟨h.put W r o o' hi.1 hB hr ho kv,h'.put W r o o' hi.2 hB hr ho kv⟩⟩
theorem aAc{B:Nat}{p:Prop}:Ci B λ_=>p:=⟨λ_ _ h _=>h,λ_ _ _ _ h _ _ _ _=>h⟩
theorem ah4(F:Fence)(n:Nat)(hf:F.fn 169)(Bw:F.round=none)(w:World):CallsIn F n Tryz.prog 169 #[] w λe w'=>e=.returned (.func (.func 198) #[] #[])/\w'=w:=by
 refine callsIn_of_wp Tryz.func169 rfl hf ?_ Bw;simp only[Tryz.ntmps169,List.size_toArray,cT,fa,Nat.reduceAdd,Nat.reduceSub,agT,agU,List.push_toArray,agW,jW,lf];gi_wp2;go_ret;exact⟨rfl,rfl⟩
theorem aqT(F:Fence)(n:Nat)(h9:F.fn 118)(pH:F.fn 169)(h20:F.fn 198)(Bw:F.round=none)(hn:3<=n)(op:Int)(w:World):CallsIn F n Tryz.prog 118 #[.int .i64 op] w λe W'=>e=.returned (.string (yK op))/\KN w W':=by
 have h1:1<=n:=ω
 have hkw:KN w w:=Go.Am.ab9 w;refine callsIn_of_wp_marks Tryz.func118 rfl h9 ?_ Bw;simp only[Tryz.ntmps118,List.size_toArray,cT,fa,Nat.reduceAdd,Nat.reduceSub,agT,agU,List.push_toArray,agW,jW,lf];gi_wp2_with(gi_at_call 169;refine(ah4 F (n-1) pH Bw _).mono ?_;rintro e w'⟨rfl,rfl⟩);have c0:=aah w (.int .i64 op) 27;have c1:=aah (w.alloc (.cells #[.int .i64 op] 27)) (.string ⟨#[]⟩) 9;rw[World.size_alloc]at c1;refine awG Bw h1 rfl h20 (enters_of Tryz.func198 κ rfl) (ah3 F (n-1) h20 Bw ω) (λ_=>rfl) (λk W=>KN w W/\(W.cell? ⟨w.heap.size,0,none⟩=some (.int .i64 op)/\W.frozen? ⟨w.heap.size,0,none⟩=false)/\(W.cell? ⟨w.heap.size+1,0,none⟩=some (.string ⟨#[]⟩)/\W.frozen? ⟨w.heap.size+1,0,none⟩=false)/\∀j:Nat,j<k->(j:Int)+1≠op) (λW=>KN w W/\(W.cell? ⟨w.heap.size+1,0,none⟩=some (.string (yK op))/\W.frozen? ⟨w.heap.size+1,0,none⟩=false)) (λk=>(af9 (by simp;omega)).and (Yw.and (Yw.and aAc))) ((af9 (by simp;omega)).and Yw) ⟨aci (aci hkw _ _) _ _,⟨aag _ c0.1,abv _ c0.1 c0.2⟩,c1,λj hj=>absurd hj (NC _)⟩ (λk=>{tmps:=#[.int .i64 op,.pointer (some ⟨w.heap.size,0,none⟩),.pointer (some ⟨w.heap.size+1,0,none⟩),.int .i64 ((k:Int)+1),.string (nm (k+1)),.func (.func 198) #[] #[],.int .i64 ((k:Int)+1),.string (nm (k+1)),undef,undef,undef,undef],defers:=[]}) ?assign ?body ?done ?stop;case assign=>
  intro l k W K hK;simp only[VS];gi_wp2;exact hK
 case body=>
  rintro l k W⟨Ib,⟨yC,hf0⟩,⟨sA,O3⟩,cZ⟩aG;gi_wp2
  .rename_i hx;obtain rfl:(k:Int)+1=op:=eq_of_beq hx;refine⟨KeepsOthers.setCell _ _ _,acj Ib ω,?_,by rw[World.frozen?_setCell];exact O3⟩;have:yK ((k:Int)+1)=nm (k+1):=by unfold yK;rw[if_pos ω];congr 1
   rw[this];exact World.cell?_setCell_same' _ _ _ (by rw[sA];rfl)
  .rename_i hx;refine⟨KeepsOthers.refl _,Ib,⟨yC,hf0⟩,⟨sA,O3⟩,λj hj=>?_⟩;rcases Nat.lt_succ_iff_lt_or_eq.1 hj with hj|rfl
   .exact cZ j hj
   .intro e;simp[e]at hx
 case done=>
  rintro D W hD⟨Ib,⟨yC,hf0⟩,⟨sA,O3⟩,cZ⟩hK;gi_wp2;have TG:=(KeepsOthers.setCell W ⟨w.heap.size+1,0,none⟩ (.string ⟨#[]⟩)).same D _ hK rfl;refine⟨by simp,.inl ⟨_,_,rfl,run_takeDeferred TG,?_⟩⟩;have TS:=cell_kept (World.cell?_setCell_same' W ⟨w.heap.size+1,0,none⟩ (.string ⟨#[]⟩) (by rw[sA];rfl)) (grownBy_putObj' _ D (.deferred none)) (λr e=>by cases e;exact⟨_,TG,rfl⟩);refine⟨.string ⟨#[]⟩,by simp[results,Tryz.f118,go_sem,TS],?_,?_⟩
  .have:yK op=⟨#[]⟩:=by unfold yK;rw[if_neg (λh=>cZ (op.toNat-1) ω ω)]
   rw[this]
  .simp only[World.size_alloc]at hD;exact UI (acj Ib ω) ω (J1.1 TG).1 rfl
 case stop=>
 rintro D W hD⟨Ib,sA,O3⟩hK;gi_wp2;refine⟨by simp,.inl ⟨_,_,rfl,run_takeDeferred hK,?_⟩⟩;have TS:=cell_kept sA (grownBy_putObj' _ D (.deferred none)) (λr e=>by cases e;exact⟨_,hK,rfl⟩);simp only[World.size_alloc]at hD;exact⟨_,by simp[results,Tryz.f118,go_sem,TS],rfl,UI Ib ω (J1.1 hK).1 rfl⟩
attribute [local go_sem]Oper.semAt_some
def anh(s:ByteArray):Nat:=match(pj 98).find? (λk=>decide (nm (k+1)=s))with|some k=>k+1|none=>0
def aoo(s:ByteArray):Bool:=((pj 98).find? (λk=>decide (nm (k+1)=s))).isSome
def F0:Fence:={fn:=λ_=>True}
theorem ag1(k:Nat):F0.room k:=λd h=>by simp[F0]at h
theorem acS(k:Nat):(nm k).size<=9223372036854775807:=by
 have h:∀l∈CV,l.length<=20:=by decide+kernel
 show(CV.getD k []).length<=_;rw[bX];cases hk:CV[k]? with|none=>simp|some l=>have:=h l (Dq hk);simp;omega
theorem aqS(op:Int):(yK op).size<=9223372036854775807:=by
 unfold yK;split
 .exact acS _
 .exact fT _
def Xl(args:List AV):Option AV:=match args with|[.c (.i op)]=>some (.c (.s (yK op)))|_=>none
theorem MI:Xl [.c (.i op)]=some (.c (.s (yK op))):=rfl
def aDv(args:List AV):Option AV:=match args with|[.c (.s s)]=>some (.t [.c (.i (anh s)),.c (.b (aoo s))])|_=>none
theorem atp:cK Tryz.prog 118 Xl:=by
 refine⟨enters_of Tryz.func118 κ rfl,λargs v hs ρ w cs cu=>?_⟩;unfold Xl at hs;split at hs
 .rename_i op;simp only[ar]at hs;subst hs;cases cu with|cons h hr=>
    cases hr;obtain⟨rfl,h1,h2⟩:=h;refine((aqT F0 3 trivial trivial trivial rfl (aB _) op w).calls ag1).mono ?_;rintro e w'⟨rfl,hk⟩;exact⟨_,rfl,λbg=>⟨rfl,aqS op⟩,hk⟩
 .simp at hs
theorem aAj{a b:ByteArray}(h1:b.size<=a.size):(((a.size:Int)-(b.size:Int)).toNat)=a.size-b.size:=ω
def Xj(args:List AV):Option AV:=match args with|[.c (.s a),.c (.s b)]=>if a.size<=9223372036854775807/\b.size<=9223372036854775807 then some (.c (.b (vU a b)))else none|_=>none
theorem ayw{a b}:Xj [.c (.s a),.c (.s b)]=if a.size<=9223372036854775807/\b.size<=9223372036854775807 then some (.c (.b (vU a b)))else none:=rfl
theorem atl:cK Tryz.prog 168 Xj:=by
 refine cR tn Tryz.func168 rfl Tryz.results168 Tryz.ntmps168 ?_;intro args v h;unfold Xj at h;split at h
 .rename_i a b;split at h
  .rename_i hc;simp only[ar]at h;subst h;refine⟨by simp only[cT,fa];decide,rfl,rfl,?_⟩;by_cases h1:b.size<=a.size
   .have e:=aAj h1;have e2:((b.size:Int)<=(a.size:Int))=True:=eq_true ω;(repeat(first|simp only[go_sem,seval,vU,h1,e,e2]|simp(disch:=omega)only[w0]))
   .have e2:((b.size:Int)<=(a.size:Int))=False:=eq_false ω;(repeat(first|simp only[go_sem,seval,vU,h1,e2]|simp(disch:=omega)only[w0]))
  .simp at h
 .simp at h
def Xi(args:List AV):Option AV:=match args with|[.c (.s a),.c (.s b)]=>if a.size<=9223372036854775807/\b.size<=9223372036854775807 then some (.c (.b (vU a b)))else none|_=>none
theorem MG{a b}:Xi [.c (.s a),.c (.s b)]=if a.size<=9223372036854775807/\b.size<=9223372036854775807 then some (.c (.b (vU a b)))else none:=rfl
theorem atk:cK Tryz.prog 117 Xi:=by
 refine cR (tu atl tn) Tryz.func117 rfl Tryz.results117 Tryz.ntmps117 ?_;intro args v h;unfold Xi at h;split at h
 .rename_i a b;split at h
  .rename_i hc;simp only[ar]at h;subst h;refine⟨by simp,rfl,rfl,?_⟩;simp only[go_sem,seval,ayw,hc]
  .simp at h
 .simp at h
theorem aAk:∀k:Nat,k<89->67<=k->vU (nm k) (⟨#[46,100]⟩:ByteArray)=decide (78<=k):=by decide+kernel
theorem akk:(gB op=5)=(11<=op/\op<=17):=by
 apply propext;simp only[gB,nO,aQ,decide_eq_true_eq];repeat' split
 all_goals omega
theorem akl:(gB op=6)=(18<=op/\op<=21):=by
 apply propext;simp only[gB,nO,aQ,decide_eq_true_eq];repeat' split
 all_goals omega
theorem akm:(gB op=7)=(67<=op/\op<=88):=by
 apply propext;simp only[gB,nO,aQ,decide_eq_true_eq];repeat' split
 all_goals omega
def Xm(args:List AV):Option AV:=match args with|[.c (.i op)]=>some (.c (.i (j8 op)))|_=>none
theorem BW{op}:Xm [.c (.i op)]=some (.c (.i (j8 op))):=rfl
theorem atq:cK Tryz.prog 71 Xm:=by
 refine cR (tu adg (tu atp (tu atk tn))) Tryz.func71 rfl Tryz.results71 Tryz.ntmps71 ?_;intro args v h;unfold Xm at h;split at h
 .rename_i op;simp only[ar]at h;subst h;refine⟨by simp,rfl,rfl,?_⟩;by_cases h5:gB op=5
  .have h:=h5;rw[akk]at h;have:op=11\/op=12\/op=13\/op=14\/op=15\/op=16\/op=17:=ω
   rcases this with rfl|rfl|rfl|rfl|rfl|rfl|rfl;all_goals simp only[go_sem,seval,I9,MI,MG,h5]
   all_goals exact congrArg (λn=>some (AV.c (Sc.i n))) (by decide+kernel)
  by_cases h6:gB op=6
  .have h:=h6;rw[akl]at h;have:op=18\/op=19\/op=20\/op=21:=ω
   rcases this with rfl|rfl|rfl|rfl;all_goals simp only[go_sem,seval,I9,MI,MG,h6]
   all_goals exact congrArg (λn=>some (AV.c (Sc.i n))) (by decide+kernel)
  by_cases h7:gB op=7
  .have h:=h7;rw[akm]at h;obtain⟨k,rfl⟩:=kZ (by omega:0<=op);have e1:yK (k:Int)=nm k:=by unfold yK;rw[if_pos ω];rfl
   have e2:=aAk k ω ω;have i1:(nm k).size<=9223372036854775807:=acS k;have i2:ByteArray.size ⟨#[46,100]⟩<=9223372036854775807:=by decide
   by_cases h8:78<=k
   .have e3:j8 (k:Int)=8:=by unfold j8 nO;rw[if_neg (by simp;omega),if_pos (by simp;omega)]
    simp only[go_sem,seval,I9,MI,MG,h7,e1,e2,i1,i2,h8,e3]
   .have e3:j8 (k:Int)=4:=by unfold j8 nO;rw[if_pos (by simp;omega)]
    simp only[go_sem,seval,I9,MI,MG,h7,e1,e2,i1,i2,h8,e3]
  .have e3:j8 op=0:=afZ ω;simp only[go_sem,seval,I9,MI,MG,h5,h6,h7,e3]
 .simp at h
end
structure jM where
 id:Nat
 fZ:pR
 h:Int
 t:Int
 b:Int
 R:List Sl
def JK(s:jM):List Sc:=.p s.fZ.id 0 0::.i s.h::.i s.t::.i s.fZ.n::.i s.b::iA s.R
structure pS(H:AH)(x:Sc)(s:jM):Prop where
 x:x=.p s.id 0 0
 o:hg H s.id=.own (JK s)r:nd H (.p s.fZ.id 0 0) s.fZ
 l:s.R.length=8
 h1:1<=s.h/\s.h<=8
 t1:1<=s.t/\s.t<=64
theorem YD{R S:List Sl}(hR:R.length=8)(hS:S.length=8)(h:iA R=iA S):R=S:=by
 have a:=FB EM aaT R;have b:=FB EM aaT S;rw[hR]at a;rw[hS]at b;have c:tF 2 FA 8 (iA R)=tF 2 FA 8 (iA S):=by rw[h]
 have a':tF 2 FA 8 (iA R)=some R:=a;have b':tF 2 FA 8 (iA S)=some S:=b;rw[a',b']at c;simpa using c
theorem pS.uniq{H:AH}{x:Sc}{s t:jM}(h:pS H x s)(g:pS H x t):s=t:=by
 have h1:=h.x.symm.trans g.x;simp only[Sc.p.injEq,and_true]at h1;have h2:=h.o;rw[h1,g.o]at h2;simp only[ae.own.injEq,JK,cL,Sc.p.injEq,Sc.i.injEq,and_true]at h2;obtain⟨a,b,c,d,e,f⟩:=h2;have hr:=h.r;rw[<-a]at hr;have e2:=hr.uniq g.r;have e3:=YD g.l h.l f;cases s;cases t;simp only at*;subst h1 b c e e2 e3;rfl
def Dd(H:AH)(x:Sc):Option jM:=open Classical in if h:∃s,pS H x s then some h.choose else none
theorem pS.ne1{x:Sc}{s:jM}(h:pS H x s):s.id≠s.fZ.id:=λe=>by
 have h1:=h.o;rw[e,h.r.o]at h1;simp[JK]at h1
theorem pS.ne2{x:Sc}{s:jM}(h:pS H x s):s.id≠s.fZ.xF:=λe=>by
 have h1:=h.o;rw[e,h.r.m]at h1;exact ae.noConfusion h1
theorem pS.aD{x:Sc}{s:jM}(h:pS H x s):s.id<H.length:=eu (by rw[h.o];rfl)
theorem pS.app{H:AH}{x:Sc}{s:jM}(h:pS H x s)(X:AH):pS (H++X) x s:=⟨h.x,by rw[cB h.aD];exact h.o,h.r.app X,h.l,h.h1,h.t1⟩
def jM.to(s:jM)(M:Nat×js)(R:List Sl):jM:=⟨s.id,s.fZ.to M,s.h,s.t,s.b,R⟩
def AE(H:AH)(s:jM)(M:Nat×js)(R:List Sl):AH:=(H.set s.fZ.xF (yJ M)).set s.id (.own (JK (s.to M R)))
theorem pS.set{x:Sc}{s:jM}(h:pS H x s){M:Nat×js}{R:List Sl}(hM:kM s.fZ.n M)(hR:R.length=8):pS (AE H s M R) x (s.to M R):=by
 refine⟨h.x,?_,?_,hR,h.h1,h.t1⟩
 .show hg (AE H s M R) s.id=_;unfold AE;rw[iN (by rw[iR];exact h.aD)]
 .show nd (AE H s M R) (.p s.fZ.id 0 0) (s.fZ.to M);unfold AE;exact(h.r.set hM).other h.ne1 h.ne2
theorem pS.self{x:Sc}{s:jM}(h:pS H x s):AE H s s.fZ.M s.R=H:=by
 unfold AE;rw[h.r.self];exact uK h.o h.aD
theorem azF{x:Sc}{s:jM}(h:pS H x s)(M:Nat×js)(R:List Sl):(ae.own (JK (s.to M R))).cW.all (Sc.aj H.length)=true:=by
 simp only[ae.cW,JK,jM.to,pR.to,bK,Sc.aj,gG,YC,c8,decide_eq_true_eq];exact h.r.aD
theorem pS.aj{x:Sc}{s:jM}(h:pS H x s)(hH:dF H=true)(M:Nat×js)(R:List Sl):dF (AE H s M R)=true:=by
 unfold AE;exact py (h.r.aj hH) (by rw[iR];exact azF h M R)
def iY(k op:Int):Int:=if k=1 then 4 else if k=7 then 8 else if k=8 then 8 else if k=4 then(if qT op=true then j8 op else 0)else if k=5 then(if qW op=true then j8 op else 0)else if k=6 then(if rB op=true then j8 op else 0)else 0
def VV(s:Int):Bool:=decide (s=1)||(decide (s=2)||(decide (s=4)||decide (s=8)))
def np(k:Int)(a:BitVec 64)(c s op:Int):Bool:=if k=2\/k=3 then dK c s&&VV s else decide (¬iY k op=0)&&(decide (s=iY k op)&&(decide (c=0)&&decide (a%aw 64 (iY k op)=0#64)))
def oh(n:Nat)(k:Int)(a b:BitVec 64)(c s op:Int):Bool:=np k a c s op&&(mq a b c s).all λp=>hasB n p.a p.n
theorem ab6{p:Prop}[Decidable p]{a b:Int}(ha:0<=a/\a<=8)(hb:0<=b/\b<=8):0<=(if p then a else b)/\(if p then a else b)<=8:=by split<;>assumption
theorem size_le(op:Int):0<=j8 op/\j8 op<=8:=by
 unfold j8;repeat'(first|exact⟨δ,δ⟩|apply ab6)
theorem Q8(k op:Int):0<=iY k op/\iY k op<=8:=by
 have:=size_le op;unfold iY;repeat'(first|exact⟨δ,δ⟩|exact this|apply ab6)
theorem avv:bI (.makeMap t none)=[]:=rfl
attribute [go_sem]avv Sc.pf
def G9(n m:Int):Bool:=decide (1<=n)&&decide (n<=m)
def aDZ(args:List AV):Option AV:=match args with|[.c (.i n),.c (.i m)]=>some (.c (.b (G9 n m)))|_=>none
def Eh(h t n b:Int):Bool:=G9 h 8&&(G9 t 64&&(G9 n 4096&&G9 b 32))
def aDW(args:List AV):Option AV:=match args with|[.g [.i h,.i t,.i n,.i b]]=>some (.c (.b (Eh h t n b)))|_=>none
def nwS(L:Nat)(h t n b:Int):jM:=⟨L+3,⟨L+2,L+1,n.toNat,(0,[])⟩,h,t,b,bD 8 z0⟩
def aDQ(args:List AV)(H:AH):Option AV:=match args with
 |[.c x,.g (.i k::.u a::.u b::.i c::.i s::.i op::.u d::.u o::.b lv::r)]=>if nT r then match x with|.dk=>some (.c (.b false))|x=>(Dd H x).map λz=>.c (.b (oh z.fZ.n k a b c s op))else none|_=>none
theorem D6{k:Int}{a b:BitVec 64}{c s op:Int}(h:np k a c s op=true):dK c s=true:=by
 unfold np at h;split at h
 .rw[aQ]at h;exact h.1
 .simp only[aQ,decide_eq_true_eq]at h;obtain⟨h1,h2,h3,_⟩:=h;have:=Q8 k op;simp[dK];omega
theorem avW{l:List Pc}{m:Int}(h:yy B l m)(h0:0<=m){k:Nat}{p:Pc}(hp:l[k]?=some p):1<=p.n/\p.n<=8:=by induction l generalizing m k with
 |nil=>simp at hp|cons q l ih=>obtain⟨a1,a2,a3,a4,a6⟩:=h;cases k with|zero=>simp only[Hi,ar]at hp;subst hp;exact⟨a2,ω⟩|succ k=>exact ih a6 ω (by simpa using hp)
def aDN(args:List AV)(H:AH):Option AV:=match args with
 |[.c x,.g (.i k::.u a::.u b::.i c::.i s::.i op::.u d::.u o::.b lv::r)]=>match Dd H x with
   |some z=>if nT r/\oh z.fZ.n k a b c s op=true then some (.c (.u (OL z.fZ.M.2 (eI a b c) s)))else none|none=>none
 |_=>none
theorem Va{k s:Int}(h:oh n k a b c s op=true):dK c s=true/\∀p∈mq a b c s,hasB n p.a p.n=true:=by
 unfold oh at h;rw[aQ]at h;exact⟨D6 (b:=b) h.1,λp hp=>cE.1 h.2 p hp⟩
def vP(P:List (BitVec 64))(k:Nat):List (BitVec 64):=P.take k++bD (P.length-k) 0#64
def EN(M:Nat×js)(l:List Pc)(v:BitVec 64):Nat×js:=l.foldl (λM p=>stM M (iq p.a) p.n.toNat (Gu v p.n p.s)) M
def Ab(R:List Sl)(l:List Pc)(h:Int):List Sl:=l.foldl (λR p=>jv R (p.a/64#64) h 8) R
theorem ape{l:List Pc}:∀{R:List Sl},(Ab R l h).length=R.length:=by induction l with|nil=>intro R;rfl|cons p l ih=>intro R;show(Ab (jv R (p.a/64#64) h 8) l h).length=_;rw[ih,CP]
theorem az5{l:List Pc}:∀{M:Nat×js},kM N M->(∀p∈l,hasB N p.a p.n=true/\p.n<=8)->kM N (EN M l v):=by induction l with|nil=>intro M h _;exact h|cons p l ih=>
 intro M h hl;obtain⟨h1,h2⟩:=hl p (by simp);rw[rI]at h1;exact ih (agB h ω ω ω) λq hq=>hl q (by simp[hq])
def aDU(args:List AV)(H:AH):Option (AV×AH):=match args with
 |[.c x,.c (.i h),.g (.i k::.u a::.u b::.i c::.i s::.i op::.u d::.u o::.b lv::r),.c (.u v)]=>match Dd H x with
   |some z=>if nT r/\oh z.fZ.n k a b c s op=true then some (.t [],AE H z (EN z.fZ.M (mq a b c s) v) (Ab z.R (mq a b c s) h))else none|none=>none
 |_=>none
structure Ak where
 k:Int
 a:BitVec 64
 b:BitVec 64
 c:Int
 s:Int
 op:Int
 d:BitVec 64
 o:BitVec 64
 lv:Bool
def Ak.l(q:Ak):List Pc:=mq q.a q.b q.c q.s
def tE(z:jM)(h:Int)(q:Ak):Bool:=oh z.fZ.n q.k q.a q.b q.c q.s q.op&&(decide (0<=h)&&decide (h<z.h))
def dV(z:jM)(q:Ak):BitVec 64:=OL z.fZ.M.2 (eI q.a q.b q.c) q.s
def Fu(z:jM)(h:Int)(q:Ak):Bool:=q.lv&&nZ z.R h (q.a/64#64)
def vQ(z:jM)(h:Int)(q:Ak):Option (BitVec 64):=if tE z h q=true then if q.k=3 then some q.d else if q.k=4 then some (uW q.op (dV z q) q.d)else if q.k=6 then(if Fu z h q=true then some q.d else none)else if q.k=8 then(if dV z q=q.o then some q.d else none)else none else none
def dM(z:jM)(h:Int)(q:Ak):Nat×js:=match vQ z h q with|some v=>EN z.fZ.M q.l v|none=>z.fZ.M
def Bc(z:jM)(h:Int)(q:Ak):List Sl:=match vQ z h q with|some _=>Ab z.R q.l h|none=>z.R
def dR(z:jM)(h:Int)(q:Ak):List Sl:=if tE z h q=true then(if q.k=5 then kL z.R h ⟨true,q.a/64#64⟩else if q.k=6 then kL (Bc z h q) h z0 else Bc z h q)else z.R
def dD(z:jM)(h:Int)(q:Ak):BitVec 64:=if tE z h q=true then(if q.k=3 then 0#64 else if q.k=6 then 0#64 else dV z q)else 0#64
def dG(z:jM)(h:Int)(q:Ak):Bool:=if tE z h q=true then(if q.k=6 then Fu z h q else if q.k=8 then decide (dV z q=q.o)else false)else false
theorem ahZ{z:jM}{q:Ak}(hw:kM z.fZ.n z.fZ.M)(hm:oh z.fZ.n q.k q.a q.b q.c q.s q.op=true)(v:BitVec 64):kM z.fZ.n (EN z.fZ.M q.l v):=by
 obtain⟨h1,h2⟩:=Va hm;refine az5 hw λp hp=>?_;obtain⟨j,hj⟩:=RJ.1 hp;exact⟨h2 p hp,(avW (HZ (a:=q.a) (b:=q.b) h1) ω hj).2⟩
variable {z:jM}{q:Ak}
theorem aaJ(e:tE z h q=true):oh z.fZ.n q.k q.a q.b q.c q.s q.op=true:=by unfold tE at e;rw[aQ]at e;exact e.1
theorem aaI(hw:kM z.fZ.n z.fZ.M):kM z.fZ.n (dM z h q):=by
 unfold dM;cases e:vQ z h q with
 |none=>exact hw|some v=>
   have ho:tE z h q=true:=by
    unfold vQ at e;split at e
    .rename_i h1;exact h1
    .simp at e
   exact ahZ hw (aaJ ho) v
theorem aaK(hR:z.R.length=8):(Bc z h q).length=8:=by
 unfold Bc;split
 .rw[ape,hR]
 .exact hR
theorem aaL(hR:z.R.length=8):(dR z h q).length=8:=by
 have:=aaK (h:=h) (q:=q) hR;unfold dR;repeat' split
 all_goals first|exact hR|exact this|(rw[azB];first|exact hR|exact this)
def aDM(args:List AV)(H:AH):Option (AV×AH):=match args with
 |[.c x,.c (.i h),.g (.i k::.u a::.u b::.i c::.i s::.i op::.u d::.u o::.b lv::r)]=>if nT r then match x with|.dk=>some (.t [.g (bU 0#64 false),.c (.b false)],H)|x=>(Dd H x).map λz=>(.t [.g (bU (dD z h ⟨k,a,b,c,s,op,d,o,lv⟩) (dG z h ⟨k,a,b,c,s,op,d,o,lv⟩)),.c (.b (tE z h ⟨k,a,b,c,s,op,d,o,lv⟩))],AE H z (dM z h ⟨k,a,b,c,s,op,d,o,lv⟩) (dR z h ⟨k,a,b,c,s,op,d,o,lv⟩))else none|_=>none
theorem FP{R:List Sl}{k:Nat}{y:Sl}{l:BitVec 64}(hk:k<8)(hy:R[k]?=some y):nZ R k l=(y.is&&decide (y.ln=l)):=by unfold nZ;rw[Bz hk,So hk hy];rfl
variable {ln:BitVec 64}
theorem aoq{R:List Sl}{l:BitVec 64}{b:Int}{k:Nat}(hR:R.length=8)(hk:k<8):nZ (jv R l b 8) k ln=(nZ R k ln&&!(!decide ((k:Int)=b)&&decide (l=ln))):=by
 obtain⟨y,hy⟩:=QY hR hk;have g:=Gb (R:=R) (l:=l) (bG:=b) (j:=k) (k:=8);have hB:og R l b k=(!decide ((k:Int)=b)&&(y.is&&decide (y.ln=l))):=by unfold og;rw[FP hk hy]
 rw[FP hk hy];by_cases h:og R l b k=true
 .rw[if_pos ⟨hk,h,ω⟩]at g;rw[FP hk g];rw[hB]at h;simp only[aQ,decide_eq_true_eq]at h;obtain⟨h1,h2,h3⟩:=h;rw[h1,h2,h3];simp[z0]
 .rw[if_neg (by simp[h]),hy]at g;rw[FP hk g];rw[hB]at h;by_cases e:l=ln
  .subst e;cases h1:decide ((k:Int)=b)<;>simp_all
  .rw[decide_eq_false e];simp
theorem aop{b:Int}{k:Nat}(hk:k<8){l:List Pc}:∀{R:List Sl},R.length=8->nZ (Ab R l b) k ln=(nZ R k ln&&!(!decide ((k:Int)=b)&&l.any λp=>decide (p.a/64#64=ln))):=by induction l with
 |nil=>intro R _;simp[Ab]|cons p l ih=>
 intro R hR;show nZ (Ab (jv R (p.a/64#64) b 8) l b) k ln=_;rw[ih (by rw[CP];exact hR),aoq hR hk,List.any_cons];generalize(l.any λp=>decide (p.a/64#64=ln))=u;generalize decide (p.a/64#64=ln)=v;cases nZ R k ln<;>cases decide ((k:Int)=b)<;>cases u<;>cases v<;>rfl
theorem abL{R:List Sl}{h k:Nat}{y:Sl}(hR:R.length=8)(hh:h<8)(hk:k<8):nZ (kL R h y) k ln=if h=k then(y.is&&decide (y.ln=ln))else nZ R k ln:=by
 have e:kL R h y=R.set h y:=by unfold kL;rw[if_pos (Bz hh)];rfl
 rw[e];obtain⟨x,hx⟩:=QY hR hk;by_cases c:h=k
 .subst c;rw[if_pos rfl];exact FP hk (by rw[rq,if_pos rfl,if_pos ω])
 .rw[if_neg c,FP hk hx];exact FP hk (by rw[rq,if_neg c];exact hx)
structure Hs where
 h:Int
 q:Ak
 g:Bool
def YE(q:Ak)(ln:BitVec 64):Bool:=q.l.any λp=>decide (p.a/64#64=ln)
def Yx(v:Bool)(x:Hs)(h:Int)(ln:BitVec 64):Bool:=if x.h=h then(if x.q.k=6 then false else if x.q.k=5 then decide (x.q.a/64#64=ln)else v)else if(JU x.q.k x.g&&YE x.q ln)=true then false else v
def Fo(P:List Hs)(h:Int)(ln:BitVec 64):Bool:=P.foldl (λv x=>Yx v x h ln) false
theorem akH{P:List Hs}{x:Hs}:Fo (P++[x]) h ln=Yx (Fo P h ln) x h ln:=by unfold Fo;rw[List.foldl_append];rfl
theorem ak2(e:tE z h q=true)(hz:z.h<=8):∃k:Nat,h=k/\k<8:=by
 unfold tE at e;simp only[aQ,decide_eq_true_eq]at e;exact⟨h.toNat,ω,ω⟩
theorem ao7{P:List Hs}(hz:z.h<=8)(hR:z.R.length=8)(hI:∀(j:Nat)ln,j<8->nZ z.R j ln=Fo P j ln)(ok:tE z h q=true)(j:Nat)(ln:BitVec 64)(hj:j<8):nZ (dR z h q) j ln=Fo (P++[⟨h,q,dG z h q⟩]) j ln:=by
 obtain⟨h,rfl,hh⟩:=ak2 ok hz;rw[akH,<-hI j ln hj];have kc:((h:Int)=(j:Int))=(h=j):=propext ω;have kd:decide ((j:Int)=(h:Int))=decide (h=j):=decide_eq_decide.2 ω;unfold Yx;simp only[kc];have r1:nZ (Bc z h q) j ln=if h=j then nZ z.R j ln else if((vQ z h q).isSome&&YE q ln)=true then false else nZ z.R j ln:=by
  unfold Bc;cases vQ z h q with|none=>simp|some v=>
    simp only[Option.isSome_some,gG];rw[aop hj hR,kd];unfold YE;by_cases c:h=j
    .rw[if_pos c,decide_eq_true c];simp
    .rw[if_neg c,decide_eq_false c];cases(q.l.any λp=>decide (p.a/64#64=ln))<;>simp
 unfold dR;rw[if_pos ok];by_cases k5:q.k=5
 .rw[if_pos k5,abL hR hh hj];simp[k5,JU]
 by_cases k6:q.k=6
 .rw[if_neg k5,if_pos k6,abL (aaK hR) hh hj,r1];have w:(vQ z h q).isSome=JU q.k (dG z h q):=by
   simp only[vQ,dG,ok,if_true,k6,JU];cases Fu z h q<;>simp
  rw[w];simp only[k6,if_true,z0,Bool.false_and];by_cases c:h=j<;>simp[c]
 .rw[if_neg k5,if_neg k6,r1];have w:(vQ z h q).isSome=JU q.k (dG z h q):=by
   simp only[vQ,dG,ok,if_true,k6,if_false,JU];by_cases k3:q.k=3
   .simp[k3]
   by_cases k4:q.k=4
   .simp[k4]
   by_cases k8:q.k=8
   .simp only[k8];by_cases c:dV z q=q.o<;>simp[c]
   .simp[k3,k4,k8]
  rw[w];simp only[k5,k6,if_false]
def apm:List K:=.n .i64::ack
def Ux(l:List Sc):Prop:=L2 jY l apm
instance aCM(l:List Sc):Decidable (Ux l):=Classical.propDecidable _
abbrev De:={l:List Sc//Ux l}
def dcD(cs:List Sc):Option De:=if h:Ux cs then some ⟨cs,h⟩else none
def dH(e:De):Int:=gi e.1 0
def dQ(e:De):Ak:=⟨gi e.1 1,gu e.1 2,gu e.1 3,gi e.1 4,gi e.1 5,gi e.1 6,gu e.1 7,gu e.1 8,gb e.1 9⟩
abbrev An:=BitVec 64×Bool
def aCQ(x:An):List Sc:=bU x.1 x.2
def dcA:List Sc->Option An|.u d::.b g::r=>open Classical in if r=dC then some (d,g)else none|_=>none
def F3(L:List De)(T:List An):List Hs:=List.zipWith (λe t=>⟨dH e,dQ e,t.2⟩) L T
def okL(L:List De)(T:List An):Prop:=L.length=T.length/\L.length<=1000/\∀e∈L,dK (dQ e).c (dQ e).s=true
instance aCO(L:List De)(T:List An):Decidable (okL L T):=Classical.propDecidable _
def aDL(args:List AV)(H:AH):Option AV:=match args with
 |[.c x,.c y,.c (.i h),.c (.u ln)]=>match dh 20 dcD H x,dh 42 dcA H y with
   |some L,some T=>if okL L T then some (.c (.b (Fo (F3 L T) h ln)))else none|_,_=>none
 |_=>none
structure Ke where
 M:Nat×js
 R:List Sl
 L:List De
 T:List An
def Yz(z:jM)(p:Ke)(e:De):Ke:=if tE (z.to p.M p.R) (dH e) (dQ e)=true then⟨dM (z.to p.M p.R) (dH e) (dQ e),dR (z.to p.M p.R) (dH e) (dQ e),p.L++[e],p.T++[(dD (z.to p.M p.R) (dH e) (dQ e),dG (z.to p.M p.R) (dH e) (dQ e))]⟩else p
def aEf(z:jM)(L:List De)(k:Nat):Ke:=(L.take k).foldl (Yz z) ⟨z.fZ.M,z.R,[],[]⟩
structure RW(z:jM)(k:Nat)(p:Ke):Prop where
 w:kM z.fZ.n p.M
 r:p.R.length=8
 e:p.L.length=p.T.length
 k:p.L.length<=k
 s:∀e∈p.L,dK (dQ e).c (dQ e).s=true
 c:∀(j:Nat)(ln:BitVec 64),j<8->nZ p.R j ln=Fo (F3 p.L p.T) j ln
theorem aoK{L:List De}{T:List An}(h:L.length=T.length)(e:De)(t:An):F3 (L++[e]) (T++[t])=F3 L T++[⟨dH e,dQ e,t.2⟩]:=by
 unfold F3;rw[List.zipWith_append h];rfl
theorem RW.step{k:Nat}{p:Ke}(hz:z.h<=8)(h:RW z k p)(e:De):RW z (k+1) (Yz z p e):=by
 unfold Yz;split
 .rename_i ok;refine⟨aaI (z:=z.to p.M p.R) h.w,aaL (z:=z.to p.M p.R) h.r,by simp only[cj,h.e];rfl,by have:=h.k;simp only[cj,cT,fa];omega,?_,?_⟩
  .intro x hx;rcases wY.1 hx with g|g
   .exact h.s x g
   .rw[wZ]at g;rw[g];exact(Va (aaJ ok)).1
  .intro j ln hj;rw[aoK h.e];exact ao7 (z:=z.to p.M p.R) hz h.r h.c ok j ln hj
 .exact⟨h.w,h.r,h.e,by have:=h.k;omega,h.s,h.c⟩
def aDT(args:List AV)(H:AH):Option AV:=match args with
 |[.c x]=>match dh 20 dcD H x with
   |some L=>if L.length<=9223372036854775807 then some (.c (.b true))else none|none=>none
 |_=>none
def ME(args:List AV):Option AV:=match args with|[.g (.i k::.u a::.u b::.i c::.i s::.i op::.u d::.u o::.b lv::r)]=>if r.length=10/\r.all Sc.pf=true/\r.all Sc.one=true then some (.c (.b (np k a c s op)))else none|_=>none
theorem ayt{k a b c s op d o lv r}:ME [.g (.i k::.u a::.u b::.i c::.i s::.i op::.u d::.u o::.b lv::r)]=if r.length=10/\r.all Sc.pf=true/\r.all Sc.one=true then some (.c (.b (np k a c s op)))else none:=rfl
theorem atf:cK Tryz.prog 29 ME:=by
 refine cR (tu ac8 (tu atq (tu ac9 (tu ac7 tn)))) Tryz.func29 rfl Tryz.results29 Tryz.ntmps29 ?_;intro args v h;unfold ME at h;split at h
 .rename_i k a b c s op d o lv r;split at h
  .rename_i hc;simp only[ar]at h;subst h;have pr:=hc.2.1;have lr:=hc.1;refine⟨by simp,by first|rfl|simp only[bK,dY,AV.pf,Sc.pf,c8, *],by first|rfl|simp only[bK,dY,AV.pf,Sc.pf,c8, *],?_⟩;have rt:r.take 10=r:=bQ ω;have ro:=hc.2.2;have zr:=Q8 k op;have zn:¬iY k op=0->(aw 64 (iY k op)=0#64)=False:=λh=>eq_false λe=>by
    have:=congrArg BitVec.toNat e;rw[mf]at this;have e0:(0#64).toNat=0:=rfl;rw[e0]at this;omega
   have fin:∀z,¬(k=2\/k=3)->iY k op=z->np k a c s op=(decide (¬z=0)&&(decide (s=z)&&(decide (c=0)&&decide (a%aw 64 z=0#64)))):=λz h1 h2=>by unfold np;rw[if_neg h1,h2]
   have fi2:(k=2\/k=3)->np k a c s op=((decide (s=1)||(decide (s=2)||(decide (s=4)||decide (s=8))))&&(decide (0<=c)&&decide (c<s))):=λh=>by
    unfold np;rw[if_pos h,Bool.eq_iff_iff];simp only[VV,dK,aQ,gj,decide_eq_true_eq];omega
   by_cases h2:k=2\/k=3
   .rw[fi2 h2];rcases h2 with rfl|rfl;all_goals by_cases s1:s=1
    all_goals by_cases s2:s=2
    all_goals by_cases s4:s=4
    all_goals by_cases s8:s=8
    all_goals by_cases c0:0<=c
    all_goals by_cases c1:c<s
    all_goals simp only[go_sem,seval,Sc.pf,lr,rt,ro,pr,s1,s2,s4,s8,c0,c1]
    all_goals(simp_all<;>done)
   have fin:=λz=>fin z h2;have iG:¬k=2:=λe=>h2 (.inl e);have yG:¬k=3:=λe=>h2 (.inr e);by_cases h1:k=1
   .subst h1;have hz:iY 1 op=4:=rfl;rw[fin _ hz];simp only[go_sem,seval,vp,BW,Ap,Ao,Sc.pf,lr,rt,ro];repeat'(first
 |(refine vN (λh=>?_) (λh=>?_)<;>(try simp only[decide_eq_true_eq,decide_eq_false_iff_not,gY,jj,iM,jk,aQ,beq_iff_eq,beq_eq_false_iff_ne,ne_eq,gj]at h)<;>(simp only[go_sem,seval,h]))|(refine vY (λh=>?_) (λh=>?_)<;>(try simp only[decide_eq_true_eq,decide_eq_false_iff_not,gY,jj,iM,jk,aQ,beq_iff_eq,beq_eq_false_iff_ne,ne_eq,gj]at h)<;>(simp only[go_sem,seval,h]))|(refine vZ (λh=>?_) (λh=>?_)<;>(try simp only[decide_eq_true_eq,decide_eq_false_iff_not,gY,jj,iM,jk,aQ,beq_iff_eq,beq_eq_false_iff_ne,ne_eq,gj]at h)<;>(simp only[go_sem,seval,h])))
    all_goals(simp_all<;>done)
   by_cases h7:k=7
   .subst h7;have hz:iY 7 op=8:=rfl;rw[fin _ hz];simp only[go_sem,seval,vp,BW,Ap,Ao,Sc.pf,lr,rt,ro];repeat'(first
 |(refine vN (λh=>?_) (λh=>?_)<;>(try simp only[decide_eq_true_eq,decide_eq_false_iff_not,gY,jj,iM,jk,aQ,beq_iff_eq,beq_eq_false_iff_ne,ne_eq,gj]at h)<;>(simp only[go_sem,seval,h]))|(refine vY (λh=>?_) (λh=>?_)<;>(try simp only[decide_eq_true_eq,decide_eq_false_iff_not,gY,jj,iM,jk,aQ,beq_iff_eq,beq_eq_false_iff_ne,ne_eq,gj]at h)<;>(simp only[go_sem,seval,h]))|(refine vZ (λh=>?_) (λh=>?_)<;>(try simp only[decide_eq_true_eq,decide_eq_false_iff_not,gY,jj,iM,jk,aQ,beq_iff_eq,beq_eq_false_iff_ne,ne_eq,gj]at h)<;>(simp only[go_sem,seval,h])))
    all_goals(simp_all<;>done)
   by_cases h8:k=8
   .subst h8;have hz:iY 8 op=8:=rfl;rw[fin _ hz];simp only[go_sem,seval,vp,BW,Ap,Ao,Sc.pf,lr,rt,ro];repeat'(first
 |(refine vN (λh=>?_) (λh=>?_)<;>(try simp only[decide_eq_true_eq,decide_eq_false_iff_not,gY,jj,iM,jk,aQ,beq_iff_eq,beq_eq_false_iff_ne,ne_eq,gj]at h)<;>(simp only[go_sem,seval,h]))|(refine vY (λh=>?_) (λh=>?_)<;>(try simp only[decide_eq_true_eq,decide_eq_false_iff_not,gY,jj,iM,jk,aQ,beq_iff_eq,beq_eq_false_iff_ne,ne_eq,gj]at h)<;>(simp only[go_sem,seval,h]))|(refine vZ (λh=>?_) (λh=>?_)<;>(try simp only[decide_eq_true_eq,decide_eq_false_iff_not,gY,jj,iM,jk,aQ,beq_iff_eq,beq_eq_false_iff_ne,ne_eq,gj]at h)<;>(simp only[go_sem,seval,h])))
    all_goals(simp_all<;>done)
   by_cases h4:k=4
   .subst h4;cases hb:qT op
    .have hz:iY 4 op=0:=by simp[iY,hb]
     rw[fin _ hz];simp only[go_sem,seval,vp,BW,Ap,Ao,Sc.pf,lr,rt,ro,hb]
    .have hz:iY 4 op=j8 op:=by simp[iY,hb]
     rw[fin _ hz];rw[hz]at zn zr;simp only[go_sem,seval,vp,BW,Ap,Ao,Sc.pf,lr,rt,ro,hb];generalize j8 op=z at*;by_cases h0:z=0
     .simp only[go_sem,seval,h0]
     have z1:=zn h0;have z2:0<z:=ω
     by_cases e1:s=z;all_goals by_cases e2:c=0
     all_goals simp only[go_sem,seval,lr,h0,z1,z2,e1,e2]
   by_cases h5:k=5
   .subst h5;cases hb:qW op
    .have hz:iY 5 op=0:=by simp[iY,hb]
     rw[fin _ hz];simp only[go_sem,seval,vp,BW,Ap,Ao,Sc.pf,lr,rt,ro,hb]
    .have hz:iY 5 op=j8 op:=by simp[iY,hb]
     rw[fin _ hz];rw[hz]at zn zr;simp only[go_sem,seval,vp,BW,Ap,Ao,Sc.pf,lr,rt,ro,hb];generalize j8 op=z at*;by_cases h0:z=0
     .simp only[go_sem,seval,h0]
     have z1:=zn h0;have z2:0<z:=ω
     by_cases e1:s=z;all_goals by_cases e2:c=0
     all_goals simp only[go_sem,seval,lr,h0,z1,z2,e1,e2]
   by_cases h6:k=6
   .subst h6;cases hb:rB op
    .have hz:iY 6 op=0:=by simp[iY,hb]
     rw[fin _ hz];simp only[go_sem,seval,vp,BW,Ap,Ao,Sc.pf,lr,rt,ro,hb]
    .have hz:iY 6 op=j8 op:=by simp[iY,hb]
     rw[fin _ hz];rw[hz]at zn zr;simp only[go_sem,seval,vp,BW,Ap,Ao,Sc.pf,lr,rt,ro,hb];generalize j8 op=z at*;by_cases h0:z=0
     .simp only[go_sem,seval,h0]
     have z1:=zn h0;have z2:0<z:=ω
     by_cases e1:s=z;all_goals by_cases e2:c=0
     all_goals simp only[go_sem,seval,lr,h0,z1,z2,e1,e2]
   have hz:iY k op=0:=by simp[iY, *]
   rw[fin _ hz];simp only[go_sem,seval,vp,BW,Ap,Ao,Sc.pf,lr,rt,ro,h1,iG,yG,h4,h5,h6,h7,h8]
  .simp at h
 .simp at h
def G5:List Sc->Option (List (BitVec 64))|[]=>some []|.u n::r=>(G5 r).map (n::·)|_=>none
theorem aBt{L:List (BitVec 64)}(h:G5 cs=some L):cs=L.map gU:=by induction cs generalizing L with|nil=>simp[G5]at h;subst h;rfl|cons a r ih=>
 unfold G5 at h;split at h
 .simp_all
 .rename_i n r' heq;simp only[cL]at heq;obtain⟨rfl,rfl⟩:=heq;rw[eE]at h;obtain⟨l',h5,rfl⟩:=h;rw[ih h5];rfl
 .simp at h
theorem aBu(L:List (BitVec 64)):G5 (L.map gU)=some L:=by induction L with|nil=>rfl|cons a r ih=>rw[gz];simp[gU,G5,ih]
def ET(H:AH)(id v n:Nat):Option (List (BitVec 64)):=match hg H id with|.vec 1 cs=>if v=cs.length/\n<=cs.length/\n<=1000000 then G5 (cs.take n)else none|_=>none
theorem aBr{id v n:Nat}{L:List (BitVec 64)}(h:ET H id v n=some L):∃X,hg H id=.vec 1 (L.map gU++X)/\v=L.length+X.length/\n=L.length/\n<=1000000:=by
 unfold ET at h;split at h<;>try(simp at h;done)
 rename_i cs hx;split at h<;>try(simp at h;done)
 rename_i hc;have e:=aBt h;have l:n=L.length:=by have:=congrArg List.length e;simp at this;omega
 refine⟨cs.drop n,?_,?_,l,hc.2.2⟩
 .rw[hx,<-e,Ho]
 .rw[List.length_drop];omega
theorem aBs{H:AH}{id v:Nat}{L:List (BitVec 64)}{X:List Sc}(h:hg H id=.vec 1 (L.map gU++X))(hv:v=L.length+X.length)(hl:L.length<=1000000):ET H id v L.length=some L:=by
 unfold ET;simp only[h];rw[if_pos ⟨by simp[hv],by simp,hl⟩,nQ (by simp),aBu]
def DX(L:List (BitVec 64))(q:BitVec 64):Int:=match L.findIdx? (λx=>decide (q=x))with|some i=>i|none=>-1
theorem aoU(L:List (BitVec 64))(q:BitVec 64):decide (0<=DX L q)=decide (q∈L):=by
 unfold DX;cases h:L.findIdx? (λx=>decide (q=x))with
 |none=>
 have:=List.findIdx?_eq_none_iff.1 h;have hn:¬q∈L:=λhk=>by have:=this q hk;simp at this
 simp[hn]|some i=>
 obtain⟨hi,h1,_⟩:=List.findIdx?_eq_some_iff_getElem.1 h;have hk:q∈L:=by simp at h1;rw[h1];exact List.getElem_mem hi
 simp[hk]
section
variable {H:AH}
def Mz(args:List AV)(H:AH):Option AV:=match args with|[.c (.sl id 0 v n),.c (.u q)]=>(ET H id v n).map λL=>.c (.i (DX L q))|_=>none
theorem ayh{id v n:Nat}{q:BitVec 64}{L:List (BitVec 64)}(h:ET H id v n=some L):Mz [.c (.sl id 0 v n),.c (.u q)] H=some (.c (.i (DX L q))):=by simp only[Mz,h,pn]
theorem asX:bh Tryz.prog 178 (λargs H=>(Mz args H).map λv=>(v,H)):=by
 refine jo (s:=Mz) tn Tryz.func178 rfl Tryz.results178 Tryz.ntmps178 ?_;intro args H v h b9 hH;unfold Mz at h;split at h<;>try(simp at h;done)
 rename_i id v n q;rw[eE]at h;obtain⟨L,hL,rfl⟩:=h;refine⟨by simp,rfl,?_⟩;obtain⟨X,ho,rfl,rfl,hm⟩:=aBr hL;simp only[go_sem,seval];rw[rz];refine⟨{k:Nat//k<=L.length/\∀j,j<k->∀y,L[j]?=some y->q≠y},λk=>([(0,.c (.sl id 0 (L.length+X.length) L.length)),(1,.c (.u q)),(7,.c (.i L.length)),(8,.c (.i k.1))],H),λk=>L.length-k.1,⟨0,ω,λj hj=>absurd hj (NC _)⟩,mF (by simp[Am.get]),?_⟩;rintro⟨k,hk,hj⟩;have k0:(0:Int)<=(k:Int):=ω
 by_cases aG:k<L.length;rotate_left
 .obtain rfl:k=L.length:=ω
  have kI:¬((L.length:Int)<L.length):=ω
  have e:DX L q=-1:=by
   unfold DX;rw[List.findIdx?_eq_none_iff.2 (λy hy=>by
 obtain⟨j,fz,rfl⟩:=List.mem_iff_getElem.1 hy;simpa using hj j fz _ (cP fz))]
  simp only[go_sem,seval,kI,e];exact aE _
 have kI:((k:Int)<(L.length:Int)):=ω
 obtain⟨y,hy⟩:∃y,L[k]?=some y:=⟨_,cP aG⟩;have e1:aA ((k:Int)+1)=((k+1:Nat):Int):=by rw[kC ω];omega
 have rl:L.length+X.length=(hg H id).row:=by rw[ho];simp[ae.row]
 have g1:(hg H id).cells.getD k .any=.u y:=by
  rw[ho];show(L.map gU++X).getD k .any=_;rw[bX,uh (by simpa using aG),qL,hy];rfl
 have b1:k+1<=(hg H id).cells.length:=by rw[ho];simp[ae.cells];omega
 by_cases hq:q=y
 .have e:DX L q=(k:Int):=by
   unfold DX;rw[List.findIdx?_eq_some_iff_getElem.2 ⟨aG,by rw[cP aG]at hy;simp at hy;simp[hy,hq],λj fz=>by
 have:=hj j fz _ (cP ω);simpa using this⟩]
  subst hq;simp only[go_sem,seval,kI,k0,rl,b1,g1,e,aL];exact aE _
 .simp only[go_sem,seval,kI,k0,rl,b1,g1,hq,e1,aL];exact⟨⟨k+1,ω,λj zY z hz=>by
   rcases Nat.lt_succ_iff_lt_or_eq.1 zY with h'|rfl
   .exact hj j h' z hz
   .rw[hy]at hz;simp at hz;subst hz;exact hq⟩,by simp only;omega,mF (by simp[Am.get,rl])⟩
def Jh(args:List AV)(H:AH):Option AV:=match args with|[.c (.sl id 0 v n),.c (.u q)]=>(ET H id v n).map λL=>.c (.b (decide (q∈L)))|_=>none
theorem ayg{id v n:Nat}{q:BitVec 64}{L:List (BitVec 64)}(h:ET H id v n=some L):Jh [.c (.sl id 0 v n),.c (.u q)] H=some (.c (.b (decide (q∈L)))):=by simp only[Jh,h,pn]
theorem asV:bh Tryz.prog 124 (λargs H=>(Jh args H).map λv=>(v,H)):=by
 refine jo (s:=Jh) (tq asX tn) Tryz.func124 rfl Tryz.results124 Tryz.ntmps124 ?_;intro args H v h b9 hH;unfold Jh at h;split at h<;>try(simp at h;done)
 rename_i id v n q;rw[eE]at h;obtain⟨L,hL,rfl⟩:=h;refine⟨by simp,rfl,?_⟩;have q1:=ayh (q:=q) hL;have q2:=aoU L q;simp only[go_sem,seval,q1,q2];exact aE _
end
structure Fw where
 p:Nat
 id:Nat
 h:Int
 t:Int
 n:Int
 b:Int
 B:List Int
 R:List Sl
 mK:Sc
 m:List Sc
def fg(s:Fw)(R:List Sl):List Sc:=pP s.h s.t s.n s.b (.sl s.id 0 s.B.length s.B.length) (iA R) s.mK s.m
structure ko(H:AH)(s:Fw):Prop where
 o:hg H s.p=.own (fg s s.R)v:hg H s.id=.vec 1 (s.B.flatMap bR)l:s.R.length=8
 b0:0<s.B.length
 b1:s.B.length<=262144
 lm:s.m.length=321
 hh:s.h<=8
variable {s:Fw}
theorem zK{R:List Sl}(h:R.length=8)(hm:s.m.length=321):(fg s R).length=343:=by
 unfold fg pP;simp only[cT,cj,AK h,hm]
theorem anD{t:Fw}(h:fg s s.R=fg t t.R)(hs:s.R.length=8)(ht:t.R.length=8):s.h=t.h/\s.t=t.t/\s.n=t.n/\s.b=t.b/\s.id=t.id/\s.R=t.R/\s.mK=t.mK/\s.m=t.m:=by
 unfold fg pP at h;simp only[cL,Sc.i.injEq,Sc.sl.injEq]at h;obtain⟨a1,a2,a3,a4,a5,a6⟩:=h;obtain⟨c1,c2⟩:=List.append_inj a6 (by rw[AK hs,AK ht]);simp only[cL]at c2;exact⟨a1,a2,a3,a4,a5.1,YD hs ht c1,c2.1,c2.2⟩
theorem Th:∀{L M:List Int},L.flatMap bR=M.flatMap bR->L=M:=λ{L M}h=>by
 have:=Hz L;rw[h,Hz]at this;simpa using this.symm
theorem ko.uniq{t:Fw}(h:ko H s)(g:ko H t)(hp:s.p=t.p):s=t:=by
 have e:=h.o;rw[hp,g.o]at e;simp only[ae.own.injEq]at e;obtain⟨a1,a2,a3,a4,a5,a6,a7,a8⟩:=anD e.symm h.l g.l;have e2:=h.v;rw[a5,g.v]at e2;simp only[ae.vec.injEq,true_and]at e2;have a9:=(Th e2).symm;cases s;cases t;simp only at*;subst hp a1 a2 a3 a4 a5 a6 a7 a8 a9;rfl
def Cx(H:AH)(p:Nat):Option Fw:=open Classical in if h:∃s,ko H s/\s.p=p then some h.choose else none
theorem Ty(h:ko H s):Cx H s.p=some s:=by
 unfold Cx;have e:∃t,ko H t/\t.p=s.p:=⟨s,h,rfl⟩;rw[dif_pos e,e.choose_spec.1.uniq h e.choose_spec.2]
theorem Tx(h:Cx H p=some s):ko H s/\s.p=p:=by
 unfold Cx at h;split at h
 .rename_i e;simp only[ar]at h;rw[<-h];exact e.choose_spec
 .simp at h
theorem ko.lp(h:ko H s):s.p<H.length:=eu (by rw[h.o];rfl)
theorem ko.li(h:ko H s):s.id<H.length:=eu (by rw[h.v];rfl)
theorem ko.ne(h:ko H s):s.p≠s.id:=λe=>by
 have h1:=h.o;rw[e,h.v]at h1;exact ae.noConfusion h1
theorem ko.app(h:ko H s)(X:AH):ko (H++X) s:=⟨by rw[cB h.lp];exact h.o,by rw[cB h.li];exact h.v,h.l,h.b0,h.b1,h.lm,h.hh⟩
theorem ko.R(h:ko H s):pg H s.p=some (.sl s.id 0 s.B.length s.B.length,s.B):=YT (Rj h.o h.v)
def Fw.to(s:Fw)(B:List Int)(R:List Sl):Fw:=⟨s.p,s.id,s.h,s.t,s.n,s.b,B,R,s.mK,s.m⟩
def gq(H:AH)(s:Fw)(B:List Int)(R:List Sl):AH:=(H.set s.id (.vec 1 (B.flatMap bR))).set s.p (.own (fg s R))
theorem pG{B:List Int}{R:List Sl}:(gq H s B R).length=H.length:=by unfold gq;simp
theorem ko.set{H:AH}{s:Fw}(h:ko H s){B:List Int}{R:List Sl}(hB:B.length=s.B.length)(hR:R.length=8):ko (gq H s B R) (s.to B R):=by
 refine⟨?_,?_,hR,by have:=h.b0;simp only[Fw.to];omega,by have:=h.b1;simp only[Fw.to];omega,h.lm,h.hh⟩
 .show hg (gq H s B R) s.p=.own (pP s.h s.t s.n s.b (.sl s.id 0 B.length B.length) (iA R) s.mK s.m);unfold gq;rw[iN (by rw[iR];exact h.lp),hB];rfl
 .show hg (gq H s B R) s.id=_;unfold gq;rw[ej h.ne,iN h.li];rfl
theorem ko.self(h:ko H s):gq H s s.B s.R=H:=by
 unfold gq;rw[QQ h.v h.li];exact QQ h.o h.lp
theorem abA(h:ko H s)(X:AH)(B:List Int)(R:List Sl):gq (H++X) s B R=gq H s B R++X:=by
 unfold gq;rw[mg _ _ h.li,mg _ _ (by rw[iR];exact h.lp)]
theorem Ov(B:List Int)(n:Nat):(B.flatMap bR).all (Sc.aj n)=true:=by rw[sZ];exact cE.2 λ_ _=>rfl
theorem ko.aj(h:ko H s)(hH:dF H=true)(B:List Int)(R:List Sl):dF (gq H s B R)=true:=by
 unfold gq;refine py (py hH (Ov B _)) ?_;have:=Cq hH s.p;rw[h.o]at this;rw[iR];simp only[ae.cells,ae.cW,fg,pP,bK,fJ,YC,gG,Sc.aj,aQ,decide_eq_true_eq]at this|-;exact this
theorem aby{R:List Sl}(h:R.length=8):((fg s R).drop 5).take 16=iA R:=by
 unfold fg pP;show(iA R++s.mK::s.m).take 16=_;exact nQ (AK h)
theorem abz{R:List Sl}(hR:R.length=8)(hk:k<8)(x:Sl):wr (fg s R) (5+k*2) (zf x)=fg s (R.set k x):=by
 have e:=AO (A:=[.i s.h,.i s.t,.i s.n,.i s.b,.sl s.id 0 s.B.length s.B.length]) (M:=iA R) (B:=s.mK::s.m) (a:=zf x) (i:=k*2) (by rw[AK hR,EM];omega);have e2:=aBV EM (L:=R) (k:=k) (x:=x) ω;unfold fg pP;show wr ([.i s.h,.i s.t,.i s.n,.i s.b,.sl s.id 0 s.B.length s.B.length]++(iA R++s.mK::s.m)) (5+k*2) (zf x)=_;rw[show(5:Nat)=([.i s.h,.i s.t,.i s.n,.i s.b,.sl s.id 0 s.B.length s.B.length]:List Sc).length from rfl,e];unfold iA at e2|-;rw[e2];rfl
def mS(v:BitVec 64)(i:Nat):Int:=(((v>>>(8*i)).setWidth 8).toNat:Int)
def iV(v:BitVec 64)(n:Nat):List Int:=(pj n).map (mS v)
theorem oV:(iV v n).length=n:=by simp[iV]
theorem LG:iV v 0=[]:=rfl
theorem LH:iV v (n+1)=iV v n++[mS v n]:=by unfold iV;rw[List.range_succ,Hm];rfl
theorem apv{v:BitVec 64}{i:Nat}:IntKind.u8.wrap ((v>>>(8*i)).toNat:Int)=mS v i:=by
 have:=ago (v:=v>>>(8*i));simp only[Fh,Sc.k.injEq,true_and]at this;exact this
theorem apu:0<=mS v i/\mS v i<=255:=by
 unfold mS;have:=((v>>>(8*i)).setWidth 8).isLt;omega
def kU(B:List Int)(a b:BitVec 64)(c s:Int)(v:BitVec 64):List Int:=if c=0 then gF B (bp a) (iV v s.toNat)else gF (gF B (bp a) (iV v c.toNat)) (bp b) (iV (v>>>(8*c.toNat)) (s-c).toNat)
def jQ(N:Nat)(a b:BitVec 64)(c s:Int):Bool:=if c=0 then gC N a s else gC N a c&&gC N b (s-c)
def sI(R:List Sl)(L:List (BitVec 64))(bG:Int)(k:Nat):Bool:=!decide ((k:Int)=bG)&&((R.getD k z0).is&&decide ((R.getD k z0).ln∈L))
def fI(R:List Sl)(L:List (BitVec 64))(bG:Int):Nat->List Sl|0=>R|k+1=>if sI R L bG k=true then(fI R L bG k).set k z0 else fI R L bG k
theorem CO{R:List Sl}{L:List (BitVec 64)}{bG:Int}:∀{k:Nat},(fI R L bG k).length=R.length
 |0=>rfl|k+1=>by
   have ih:=CO (R:=R) (L:=L) (bG:=bG) (k:=k);simp only[fI];split
   .simp[ih]
   .exact ih
section
variable {H:AH}
def GI (args:List AV) (H:AH):Option (AV × AH) :=
 match args with
 | [.c (.p p 0 0),.c (.i h),.g (.i k::.u a::.u b::.i c::.i s::r),.c (.u v)] =>
   match Cx H p with
   | some z=>if jQ z.B.length a b c s=true/\dK c s=true/\fi k=1/\r.length=14/\r.all Sc.pf=true/\r.all Sc.one=true then some (.t [],gq H z (kU z.B a b c s v) (fI z.R (fO a b c s) h 8)) else none
   | none=>none
 | _=>none
theorem ayj{z:Fw}{k s:Int}{r:List Sc} (hz:ko H z) (h1:jQ z.B.length a b c s=true) (h2:dK c s=true) (h3:fi k=1) (h4:r.length=14) (h5:r.all Sc.pf=true) (h6:r.all Sc.one=true) :
 GI [.c (.p z.p 0 0),.c (.i h),.g (.i k::.u a::.u b::.i c::.i s::r),.c (.u v)] H=some (.t [],gq H z (kU z.B a b c s v) (fI z.R (fO a b c s) h 8)):=by
 simp only [GI,Ty hz];rw [if_pos ⟨h1,h2,h3,h4,h5,h6⟩]
theorem apN (args:List AV) (H:AH) (v:AV) (H1:AH) (h:GI args H=some (v,H1)):H.length<=H1.length:=by
 unfold GI at h
 repeat' split at h
 all_goals simp at h
 rw [<-h.2,pG];exact aB _
theorem aqi{s:Int}{y:BitVec 64} :y∈kj (jB fA (fO a b c s)) ↔ y∈fO a b c s:=by
 rw [(al6 acA (az4 acA)).2 y,az3]
theorem ad7{B:List Int} {id:Nat} {a b:BitVec 64} {c s:Int} {v:BitVec 64} (hp:jQ B.length a b c s=true) (hm:dK c s=true) :
 ∃x1 n0 n1 o1,yO id 0 B.length B.length a b c s=.t [.c (.sl id (bp a) B.length n0),.c x1,.c (.b true)]/\(x1=.az/\n1=0\/x1=.sl id o1 B.length n1)/\bp a+n0<=B.length/\o1+n1<=B.length/\n0<=8/\n1<=8 /\
  kU B a b c s v=gF (gF B (bp a) (iV v n0)) o1 (iV (v >>> (8 * n0)) n1):=by
 simp only [dK,decide_eq_true_eq] at hm
 obtain ⟨m1,m2,m3,m4⟩:=hm
 unfold jQ at hp
 unfold yO kU
 by_cases c0:c=0
 .rw [if_pos c0] at hp
  rw [if_pos c0,if_pos c0,if_pos hp]
  rw [lI] at hp
  refine ⟨.az,s.toNat,0,0,by rw [oF],.inl ⟨rfl,rfl⟩,ω,ω,ω,ω,?_⟩
  rw [LG,LD]
 .rw [if_neg c0,aQ] at hp
  rw [if_neg c0,if_neg c0,if_pos hp]
  rw [lI,lI] at hp
  exact ⟨.sl id (bp b) B.length (s - c).toNat,c.toNat,(s - c).toNat,bp b,by rw [oF,oF],.inr rfl,ω,ω,ω,ω,rfl⟩
theorem as1:bh Tryz.prog 80 GI:=by
 refine gJ (s:=GI) (tq VG (tp asN (tq asV tn))) Tryz.func80 rfl Tryz.results80 Tryz.ntmps80 apN ?_
 intro args H v H1 h b9 hH
 unfold GI at h
 split at h <;> try (simp at h;done)
 rename_i p h0 k a b c s r v
 split at h <;> try (simp at h;done)
 rename_i z hz
 split at h <;> try (simp at h;done)
 rename_i hc
 obtain ⟨hp,hm,hk,lr,pr,ro⟩:=hc
 simp only [ar,bE] at h
 obtain ⟨rfl,rfl⟩:=h
 obtain ⟨hI,rfl⟩:=Tx hz
 refine ⟨by simp,?_⟩
 have rt:r.take 14=r:=bQ ω
 have jR:=hm
 simp only [dK,decide_eq_true_eq] at jR
 obtain ⟨x1,n0,n1,o1,KI,hx,q0,q1,q8,q9,amn⟩:=ad7 (id:=z.id) (v:=v) hp hm
 have pt:=λX=>Xd (k:=k) (a:=a) (b:=b) (c:=c) (s:=s) (r:=r) (hI.app X).R hI.b0 hI.b1 jR.2.2.1 jR.2.2.2 jR.2.1 lr ro
 simp only [oF,KI] at pt
 rw [amn]
 have b1:=hI.b1
 obtain ⟨B1,DK⟩:∃B1,B1=gF z.B (bp a) (iV v n0):=⟨_,rfl⟩
 have Iy:B1.length=z.B.length:=by rw [DK,BD (by rw [oV];omega)]
 rw [<-DK]
 obtain ⟨B2,H8⟩:∃B2,B2=gF B1 o1 (iV (v >>> (8 * n0)) n1):=⟨_,rfl⟩
 have lB2:B2.length=z.B.length:=by rw [H8,BD (by rw [oV];omega),Iy]
 rw [<-H8]
 have sG:(AV.c x1).cells=some [x1]:=by rcases hx with ⟨rfl,_⟩ | rfl <;> rfl
 simp only [AV.cells] at sG
 have xl1:∀e,nH (.sl e) (.c x1)=some (.c (.i n1)):=by rcases hx with ⟨rfl,rfl⟩ | rfl <;> intro e <;> rfl
 obtain ⟨ask,mN⟩:∃ask:List Sc,ask=.i k::.u a::.u b::.i c::.i s::r:=⟨_,rfl⟩
 simp only [<-mN] at pt
 have qU:ask.length=19:=by rw [mN];simp [lr]
 have task:ask.take 19=ask:=bQ ω
 have rR:ask.all Sc.one=true:=by rw [mN];simp [Sc.one,ro]
 have Sr:∀n,ask.all (Sc.aj n)=true:=λn=>by rw [mN];simp [Sc.aj,CZ n pr]
 let O:List Int->AH:=λB=>gq H z B z.R
 let P:Nat->AH:=λj=>gq H z B2 (fI z.R (fO a b c s) h0 j)
 have lO:∀B,(O B).length=H.length:=λB=>pG
 have lP:∀j,(P j).length=H.length:=λj=>pG
 have bP:∀j,dF (P j)=true:=λj=>hI.aj hH _ _
 have gI:∀B X,hg (O B++X) z.id=.vec 1 (B.flatMap bR):=λB X=>by
  show hg (gq H z B z.R++X) z.id=_
  rw [cB (by rw [pG];exact hI.li)]
  unfold gq
  rw [ej hI.ne,iN hI.li]
 have gS:∀B C X,(O B++X).set z.id (.vec 1 (C.flatMap bR))=O C++X:=λB C X=>by
  show (gq H z B z.R++X).set z.id _=gq H z C z.R++X
  rw [mg _ _ (by rw [pG];exact hI.li)]
  unfold gq
  rw [List.set_comm _ _ hI.ne,yd]
 have gL:∀B X,hg (O B++X) H.length=hg X 0:=λB X=>by rw [<-lO B,km]
 have gP:∀j X,hg (P j++X) z.p=.own (fg z (fI z.R (fO a b c s) h0 j)):=λj X=>by
  show hg (gq H z B2 _++X) z.p=_
  rw [cB (by rw [pG];exact hI.lp)]
  unfold gq
  rw [iN (by rw [iR];exact hI.lp)]
 have gQ:∀j X n,hg (P j++X) (H.length+n)=hg X n:=λj X n=>by rw [<-lP j,gM]
 have sP:∀j R X,(P j++X).set z.p (.own (fg z R))=gq H z B2 R++X:=λj R X=>by
  show (gq H z B2 _++X).set z.p _=_
  rw [mg _ _ (by rw [pG];exact hI.lp)]
  unfold gq
  rw [yd]
 have sQ:∀j X n o,(P j++X).set (H.length+n) o=P j++X.set n o:=λj X n o=>by rw [<-lP j,xS]
 have e0:O z.B=H:=hI.self
 have eP:O B2=P 0:=rfl
 have ePS:∀j,P (j+1)=gq H z B2 (fI z.R (fO a b c s) h0 (j+1)):=λj=>rfl
 have ePJ:∀j,P j=gq H z B2 (fI z.R (fO a b c s) h0 j):=λj=>rfl
 have eF:gq H z B2 (fI z.R (fO a b c s) h0 8)=P 8:=rfl
 rw [eF]
 clear_value O P
 have byw:∀(v:BitVec 64) i,IntKind.u8.wrap ((v >>> (8 * i)).toNat:Int)=mS v i:=λv i=>apv
 simp only [go_sem,seval,<-mN,qU,task,rR,pt,sG]
 refine fB 2 (λj=>([(0,.c (.p z.p 0 0)),(1,.c (.i h0)),(3,.c (.u (if j=0 then v else if j=1 then v >>> (8 * n0) else v >>> (8 * n0) >>> (8 * n1)))),(6,.c (.p H.length 0 0)),(26,.g [.sl z.id (bp a) z.B.length n0,x1]),(27,.c (.i j))],O (if j=0 then z.B else if j=1 then B1 else B2)++[.own ask])) ?_ λj hj=>?_
 .refine Ha ?_ (by simp [Am.get])
  simp [e0]
 rcases (show j=0\/j=1\/j=2 by omega) with rfl | rfl | rfl
 .have xl:∀e,nH (.sl e) (.c (.sl z.id (bp a) z.B.length n0))=some (.c (.i n0)):=λe=>rfl
  have xs:(nH (.sl 0) (.c (.sl z.id (bp a) z.B.length n0))).isSome=true:=by rw [xl];rfl
  simp only [go_sem,seval,xl,xs,xf,sG]
  refine fB n0 (λi=>([(0,.c (.p z.p 0 0)),(1,.c (.i h0)),(3,.c (.u ((v) >>> (8 * i)))),(6,.c (.p H.length 0 0)),(12,.c (.sl z.id (bp a) z.B.length n0)),(26,.g [.sl z.id (bp a) z.B.length n0,x1]),(27,.c (.i 0)),(31,.c (.i n0)),(32,.c (.i i))],O (gF z.B (bp a) (iV (v) i))++[.own ask])) ?_ λi hi=>?_
  .refine Ha ?_ (by simp [Am.get])
   rw [LG,LD]
  .by_cases aG:i < n0
   rotate_left
   .obtain rfl:i=n0:=ω
    have iI:¬((i:Int) < i):=ω
    (repeat (first | simp only [go_sem,seval,iI] | simp (disch:=omega) only [w0]))
    exact ⟨1,ω,ω,by refine Ha ?_ (by simp [Am.get]);simp [DK]⟩
   have iI:(i:Int) < n0:=ω
   have i0:(0:Int)<=(i:Int):=ω
   have F1:aA ((i:Int)+1)=((i+1:Nat):Int):=by rw [aq ω ω];omega
   obtain ⟨C,hC⟩:∃C,C=gF z.B (bp a) (iV (v) i):=⟨_,rfl⟩
   have lC:C.length=z.B.length:=by rw [hC,BD (by rw [oV];omega)]
   have st:=LF (B:=z.B) (c:=iV (v) i) (k:=(bp a)) (q:=mS (v) i) (by rw [oV];omega)
   rw [oV,<-LH,<-hC] at st
   have w1:=Rm C [mS (v) i] ((bp a)+i)
   rw [st] at w1
   have w2:=w1
   rw [Hb] at w2
   have YQ:wr (C.flatMap bR) ((bp a)+i) [.k .u8 (mS (v) i)]=(gF z.B (bp a) (iV (v) (i+1))).flatMap bR:=w1
   have YR:bJ ((bp a)+i) (C.flatMap bR)++Sc.k .u8 (mS (v) i)::cQ ((bp a)+i+1) (C.flatMap bR)=(gF z.B (bp a) (iV (v) (i+1))).flatMap bR:=by
    rw [<-w2]
    simp only [rZ,List.flatMap_nil,bR,m7,cT,fa,fv,lf,jW]
   have UN:(bp a)+i+1<=(C.flatMap bR).length:=by rw [yq,lC];omega
   have rC:(C.flatMap bR).length=z.B.length:=by rw [yq,lC]
   have bw:=byw (v) i
   have sw:(v) >>> (8 * i) >>> 8=(v) >>> (8 * (i+1)):=by rw [<-Nx];rfl
   rw [<-hC]
   (repeat (first | simp only [go_sem,seval,iI,i0,F1,UN,rC,YQ,YR,bw,sw,gI,gS,gL,aL] | simp (disch:=omega) only [w0]))
   exact ⟨i+1,ω,ω,mF (by simp [Am.get])⟩
 .have xl:∀e,nH (.sl e) (.c x1)=some (.c (.i n1)):=xl1
  have xs:(nH (.sl 0) (.c x1)).isSome=true:=by rw [xl];rfl
  simp only [go_sem,seval,xl,xs,xf,sG]
  refine fB n1 (λi=>([(0,.c (.p z.p 0 0)),(1,.c (.i h0)),(3,.c (.u ((v >>> (8 * n0)) >>> (8 * i)))),(6,.c (.p H.length 0 0)),(12,.c x1),(26,.g [.sl z.id (bp a) z.B.length n0,x1]),(27,.c (.i 1)),(31,.c (.i n1)),(32,.c (.i i))],O (gF B1 o1 (iV (v >>> (8 * n0)) i))++[.own ask])) ?_ λi hi=>?_
  .refine Ha ?_ (by simp [Am.get])
   rw [LG,LD]
  .by_cases aG:i < n1
   rotate_left
   .obtain rfl:i=n1:=ω
    have iI:¬((i:Int) < i):=ω
    (repeat (first | simp only [go_sem,seval,iI] | simp (disch:=omega) only [w0]))
    exact ⟨2,ω,ω,by refine Ha ?_ (by simp [Am.get]);simp [H8]⟩
   rcases hx with ⟨rfl,rfl⟩ | rfl
   .omega
   have iI:(i:Int) < n1:=ω
   have i0:(0:Int)<=(i:Int):=ω
   have F1:aA ((i:Int)+1)=((i+1:Nat):Int):=by rw [aq ω ω];omega
   obtain ⟨C,hC⟩:∃C,C=gF B1 o1 (iV (v >>> (8 * n0)) i):=⟨_,rfl⟩
   have lC:C.length=z.B.length:=by rw [hC,BD (by rw [oV];omega)];exact Iy
   have st:=LF (B:=B1) (c:=iV (v >>> (8 * n0)) i) (k:=o1) (q:=mS (v >>> (8 * n0)) i) (by rw [oV,Iy];omega)
   rw [oV,<-LH,<-hC] at st
   have w1:=Rm C [mS (v >>> (8 * n0)) i] (o1+i)
   rw [st] at w1
   have w2:=w1
   rw [Hb] at w2
   have YQ:wr (C.flatMap bR) (o1+i) [.k .u8 (mS (v >>> (8 * n0)) i)]=(gF B1 o1 (iV (v >>> (8 * n0)) (i+1))).flatMap bR:=w1
   have YR:bJ (o1+i) (C.flatMap bR)++Sc.k .u8 (mS (v >>> (8 * n0)) i)::cQ (o1+i+1) (C.flatMap bR)=(gF B1 o1 (iV (v >>> (8 * n0)) (i+1))).flatMap bR:=by
    rw [<-w2]
    simp only [rZ,List.flatMap_nil,bR,m7,cT,fa,fv,lf,jW]
   have UN:o1+i+1<=(C.flatMap bR).length:=by rw [yq,lC];omega
   have rC:(C.flatMap bR).length=z.B.length:=by rw [yq,lC]
   have bw:=byw (v >>> (8 * n0)) i
   have sw:(v >>> (8 * n0)) >>> (8 * i) >>> 8=(v >>> (8 * n0)) >>> (8 * (i+1)):=by rw [<-Nx];rfl
   rw [<-hC]
   (repeat (first | simp only [go_sem,seval,iI,i0,F1,UN,rC,YQ,YR,bw,sw,gI,gS,gL,aL] | simp (disch:=omega) only [w0]))
   exact ⟨i+1,ω,ω,mF (by simp [Am.get])⟩
 .have lL:(fO a b c s).length<=4:=by rw [acz];exact Zq
  have p1:Eo [.g ask] (O B2++[.own ask])=some (.c (.sl (H.length+1) 0 (fO a b c s).length (kj (jB fA (fO a b c s))).length),P 0++[.own ask,.vec 1 (tD (jB fA (fO a b c s)))]):=by
   rw [mN,aya ⟨lr,pr⟩,if_pos (by simp [CN,hk,hm]),cj,lO,eP,fv];rfl
  obtain ⟨D,hD⟩:∃D,D=kj (jB fA (fO a b c s)):=⟨_,rfl⟩
  have Pb:∀y,decide (y∈D)=decide (y∈fO a b c s):=λy=>by rw [hD];exact decide_eq_decide.2 aqi
  obtain ⟨Z,hZ⟩:∃Z,Z=tD (jB fA (fO a b c s)):=⟨_,rfl⟩
  have hZ2:∃X,Z=D.map gU++X/\(fO a b c s).length=D.length+X.length/\D.length<=4:=by
   have dl:(kj (jB fA (fO a b c s))).length<=(jB fA (fO a b c s)).length:=HJ
   refine ⟨_,by rw [hZ,hD];rfl,?_,?_⟩
   .rw [hD,NA];rw [Yu] at dl |-;omega
   .rw [hD];rw [Yu] at dl;omega
  rw [<-hD,<-hZ] at p1
  have bZ:∀n,Z.all (Sc.aj n)=true:=λn=>by rw [hZ];exact aaw
  obtain ⟨X,hX,lX,lD⟩:=hZ2
  have ct:∀j Y q,Jh [.c (.sl (H.length+1) 0 (fO a b c s).length D.length),.c (.u q)] (P j++.own ask::.vec 1 Z::Y)=some (.c (.b (decide (q∈fO a b c s)))):=λj Y q=>by
   rw [ayg (aBs (L:=D) (X:=X) (by rw [gQ,hX];rfl) lX ω),Pb]
  generalize fO a b c s=L at *
  have tR:=λj=>aby (s:=z) (R:=fI z.R L h0 j) (by rw [CO];exact hI.l)
  have lR:=λj=>zK (s:=z) (R:=fI z.R L h0 j) (by rw [CO];exact hI.l) hI.lm
  have t0:fI z.R L h0 0=z.R:=rfl
  have t16:(iA z.R).length=16:=AK hI.l
  have tR0:=tR 0
  rw [t0] at tR0
  have gP0:∀X,hg (P 0++X) z.p=.own (fg z z.R):=λX=>gP 0 X
  have lR0:=lR 0
  rw [t0] at lR0
  simp only [go_sem,seval,gL,qU,task,rR,p1,gP0,tR0,lR0]
  refine fB 8 (λj=>([(0,.c (.p z.p 0 0)),(1,.c (.i h0)),(14,.c (.sl (H.length+1) 0 L.length D.length)),(49,.g (iA z.R)),(50,.c (.i j))],P j++[.own ask,.vec 1 Z])) (mF (by simp [Am.get])) λj hj=>?_
  by_cases aG:j < 8
  rotate_left
  .obtain rfl:j=8:=ω
   simp only [go_sem,seval]
   exact cY rfl (aC _ _) (bP 8) (by rw [lP];exact aB _)
  have jI:(j:Int) < 8:=ω
  have j0:(0:Int)<=(j:Int):=ω
  have F1:aA ((j:Int)+1)=((j+1:Nat):Int):=by rw [aq ω ω];omega
  obtain ⟨x,hxj⟩:∃x,z.R[j]?=some x:=⟨_,cP (by rw [hI.l];omega)⟩
  have gx:z.R.getD j z0=x:=by rw [bX,hxj];rfl
  have g3:((iA z.R).drop (j * 2)).take 2=[.b x.is,.u x.ln]:=KO EM hxj
  have g4:j * 2+2<=(iA z.R).length:=ω
  have bt:=YC z.R
  have bb:dF (P (j+1)++[.own ask,.vec 1 Z])=true:=uk (bP _) (by simp only [uT,J9,or_false,forall_eq_or_imp,forall_eq];exact ⟨Sr _,bZ _⟩)
  have lp:=hI.lp
  have wk:∀n K fr Y,n<=H.length->K=P (j+1)->(∀p∈([(0,.c (.p z.p 0 0)),(1,.c (.i h0)),(14,.c (.sl (H.length+1) 0 L.length D.length)),(49,.g (iA z.R)),(50,.c (.i ((j+1:Nat):Int)))]:Fr),Am.get fr p.1=p.2)->Wk n fr (K++.own ask::.vec 1 Z::Y) ([(0,.c (.p z.p 0 0)),(1,.c (.i h0)),(14,.c (.sl (H.length+1) 0 L.length D.length)),(49,.g (iA z.R)),(50,.c (.i ((j+1:Nat):Int)))],P (j+1)++[.own ask,.vec 1 Z]):=λn K fr Y hn hK hf=>by
   subst hK
   exact Wk.wk (by simp [lP];omega) hf (by simp [AV.aj,Sc.aj,lP,bt];omega) (EP _ ⟨.inr rfl,.inr rfl,trivial⟩) bb
  have sk:sI z.R L h0 j=false->P (j+1)=P j:=λe=>by
   rw [ePS,ePJ];simp only [fI,e];rfl
  by_cases c1:(j:Int)=h0
  .have kb:sI z.R L h0 j=false:=by unfold sI;rw [decide_eq_true c1];rfl
   have c1':=eq_true c1
   (repeat (first | simp only [go_sem,seval,jI,j0,F1,g3,g4,t16,gQ,sQ,c1'] | simp (disch:=omega) only [w0]))
   exact ⟨j+1,ω,ω,wk _ _ _ _ (by simp [lo]) (sk kb).symm (by simp [Am.get])⟩
  cases c2:x.is with
  | false =>
    have kb:sI z.R L h0 j=false:=by unfold sI;rw [gx,c2];simp
    rw [c2] at g3
    (repeat (first | simp only [go_sem,seval,jI,j0,F1,g3,g4,t16,gQ,sQ,c1] | simp (disch:=omega) only [w0]))
    exact ⟨j+1,ω,ω,wk _ _ _ _ (by simp [lo]) (sk kb).symm (by simp [Am.get])⟩
  | true =>
    rw [c2] at g3
    by_cases c3:x.ln∈L
    .have kb:sI z.R L h0 j=true:=by unfold sI;rw [gx,c2,decide_eq_false c1,decide_eq_true c3];rfl
     have SG:=decide_eq_true c3
     have w1:=abz (s:=z) (R:=fI z.R L h0 j) (k:=j) (by rw [CO];exact hI.l) aG z0
     have e5:gq H z B2 ((fI z.R L h0 j).set j z0)=P (j+1):=by rw [ePS];simp only [fI,kb,if_true]
     have w2:wr (fg z (fI z.R L h0 j)) (5+j * 2) [.b false,.u 0#64]=fg z ((fI z.R L h0 j).set j z0):=w1
     have g6:5+j * 2+2<=343:=ω
     (repeat (first | simp only [go_sem,seval,jI,j0,F1,g3,g4,t16,gQ,sQ,c1,ct,SG,gP,sP,lR,w2,e5,g6,aL] | simp (disch:=omega) only [w0]))
     exact ⟨j+1,ω,ω,wk _ _ _ _ (by simp [lo]) rfl (by simp [Am.get])⟩
    .have kb:sI z.R L h0 j=false:=by unfold sI;rw [gx,c2,decide_eq_false c3];simp
     have SG:=decide_eq_false c3
     (repeat (first | simp only [go_sem,seval,jI,j0,F1,g3,g4,t16,gQ,sQ,c1,ct,SG] | simp (disch:=omega) only [w0]))
     exact ⟨j+1,ω,ω,wk _ _ _ _ (by simp [lo]) (sk kb).symm (by simp [Am.get])⟩
end
def vL(B:List Int)(a b:BitVec 64)(c s:Int):List Int:=if c=0 then(B.drop (bp a)).take s.toNat else(B.drop (bp a)).take c.toNat++(B.drop (bp b)).take (s-c).toNat
def wV(z:Fw)(q:Ak):BitVec 64:=mU (vL z.B q.a q.b q.c q.s)
def iL(z:Fw)(h:Int)(q:Ak):Bool:=np q.k q.a q.c q.s q.op&&(jQ z.B.length q.a q.b q.c q.s&&(decide (0<=h)&&decide (h<z.h)))
def zj(z:Fw)(h:Int)(q:Ak):Bool:=q.lv&&((z.R.getD h.toNat z0).is&&decide ((z.R.getD h.toNat z0).ln=q.a/64#64))
def iC(z:Fw)(h:Int)(q:Ak):Option (BitVec 64):=if iL z h q=true then if q.k=3 then some q.d else if q.k=4 then some (uW q.op (wV z q) q.d)else if q.k=6 then(if zj z h q=true then some (eH q.d (8*q.s))else none)else if q.k=8 then(if wV z q=q.o then some q.d else none)else none else none
def wB(z:Fw)(h:Int)(q:Ak):List Int:=match iC z h q with|some v=>kU z.B q.a q.b q.c q.s v|none=>z.B
def oE(z:Fw)(h:Int)(q:Ak):List Sl:=match iC z h q with|some _=>fI z.R (fO q.a q.b q.c q.s) h 8|none=>z.R
def wR(z:Fw)(h:Int)(q:Ak):List Sl:=if iL z h q=true then(if q.k=5 then z.R.set h.toNat ⟨true,q.a/64#64⟩else if q.k=6 then(oE z h q).set h.toNat z0 else oE z h q)else z.R
def wD(z:Fw)(h:Int)(q:Ak):BitVec 64:=if iL z h q=true then(if q.k=3 then 0#64 else if q.k=6 then 0#64 else wV z q)else 0#64
def wG(z:Fw)(h:Int)(q:Ak):Bool:=if iL z h q=true then(if q.k=6 then zj z h q else if q.k=8 then decide (wV z q=q.o)else false)else false
theorem KP{k s:Int}(h:np k a c s op=true):fi k=1:=by
 unfold np at h;by_cases h2:k=2\/k=3
 .rcases h2 with rfl|rfl<;>rfl
 .rw[if_neg h2]at h;simp only[aQ,decide_eq_true_eq]at h;have h0:=h.1;unfold iY at h0;by_cases h1:k=1
  .subst h1;rfl
  by_cases h7:k=7
  .subst h7;rfl
  by_cases h8:k=8
  .subst h8;rfl
  by_cases h4:k=4
  .subst h4;rfl
  by_cases h5:k=5
  .subst h5;rfl
  by_cases h6:k=6
  .subst h6;rfl
  simp[h1,h7,h8,h4,h5,h6]at h0
theorem apr{B:List Int}{s:Int}(hp:jQ B.length a b c s=true)(hm:dK c s=true):(kU B a b c s v).length=B.length:=by
 obtain⟨x1,n0,n1,o1,_,_,q0,q1,_,_,e⟩:=ad7 (id:=0) (v:=v) hp hm;rw[e,BD (by rw[oV,BD (by rw[oV];omega)];exact q1),BD (by rw[oV];exact q0)]
theorem agx{z:Fw}:(wB z h q).length=z.B.length:=by
 unfold wB;cases e:iC z h q with
 |none=>rfl|some v=>
   have ho:iL z h q=true:=by
    unfold iC at e;split at e
    .rename_i h1;exact h1
    .simp at e
   unfold iL at ho;simp only[aQ]at ho;exact apr ho.2.1 (D6 (b:=q.b) ho.1)
theorem aBE{z:Fw}(hl:z.R.length=8):(oE z h q).length=8:=by
 unfold oE;split
 .rw[CO,hl]
 .exact hl
theorem agy{z:Fw}(hl:z.R.length=8):(wR z h q).length=8:=by
 have:=aBE (h:=h) (q:=q) hl;unfold wR;repeat' split
 all_goals first|exact hl|exact this|(rw[iR];first|exact hl|exact this)
section
variable {H:AH}
theorem W8{z:Fw}(hI:ko H z):Et [.c (.p z.p 0 0),.c (.i h)] H=some (.c (.b (decide (0<=h)&&decide (h<z.h)))):=by simp only[Et,hI.o,fg,pP]
def aDn(args:List AV)(H:AH):Option AV:=match args with
 |[.c (.p p 0 0),.c (.i h),.g (.i k::.u a::.u b::.i c::.i s::.i op::.u d::.u o::.b lv::r)]=>match Cx H p with
   |some z=>if nT r/\k<=8 then some (.c (.b (iL z h ⟨k,a,b,c,s,op,d,o,lv⟩)))else none|none=>none
 |_=>none
theorem awl{B:List Int}{id:Nat}{a b:BitVec 64}{c s:Int}:∃x y,yO id 0 B.length B.length a b c s=.t [.c x,.c y,.c (.b (jQ B.length a b c s))]/\(AV.c x).cells=some [x]/\(AV.c y).cells=some [y]:=by
 unfold yO jQ;by_cases c0:c=0
 .rw[if_pos c0,if_pos c0];cases gC B.length a s
  .exact⟨_,_,rfl,rfl,rfl⟩
  .exact⟨_,_,rfl,rfl,rfl⟩
 .rw[if_neg c0,if_neg c0];cases gC B.length a c
  .exact⟨_,_,rfl,rfl,rfl⟩
  .cases gC B.length b (s-c)
   .exact⟨_,_,rfl,rfl,rfl⟩
   .exact⟨_,_,rfl,rfl,rfl⟩
end
end
end Go.Proofs.YtghlfboliomhcaaGreat
