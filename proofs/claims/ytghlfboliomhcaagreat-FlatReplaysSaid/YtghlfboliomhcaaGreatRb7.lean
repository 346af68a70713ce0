/- The document's memory: bytes read and laid one by one: contracts. -/
import Derived.Test.YtghlfboliomhcaaGreatRb5
import Derived.Test.YtghlfboliomhcaaGreatRb6
import Derived.Test.YtghlfboliomhcaaGreatRb3
set_option maxRecDepth 100000
set_option maxHeartbeats 8000000
open And renaming intro->cf
open BitVec renaming shiftRight_add->Nx,ofInt->aw
open Bool renaming and_eq_true->aQ,not_eq_true'->gY,and_true->c8,true_and->gG,false_and->ph,and_false->rY,not_eq_false'->jj,not_eq_true->iM,not_eq_false->jk,or_eq_true->gj
open Int renaming le_refl->AS,zero_add->Cd,toNat_natCast->aL,eq_ofNat_of_zero_le->kZ
open List renaming length_take->tg,length_drop->uS,length_append->cj,getElem?_take_of_lt->yb,getElem?_drop->td,getElem?_append_left->uh,getElem?_append_right->s9,ext_getElem?->wX,getElem?_eq_getElem->cP,getD_eq_getElem?_getD->bX,mem_cons->uT,append_assoc->fv,append_nil->m7,not_mem_nil->J9,drop_zero->ya,take->bJ,drop->cQ,set_append_left->mg,length_set->iR,take_of_length_le->bQ,drop_of_length_le->kN,getElem?_eq_none->kf,all_cons->bK,all_nil->dY,drop_append->zt,drop_eq_nil_of_le->Nz,nil_append->jW,drop_append_of_le_length->J3,take_append_of_le_length->Dr,drop_drop->uR,take_append_drop->Ho,take_left'->nQ,drop_left'->vE,all_append->fJ,cons_append->lf,length_cons->cT,length_nil->fa,all_flatMap->sZ,all_eq_true->cE,take_succ_cons->Ds,drop_succ_cons->Dl,getElem?_set->rq,getElem?_replicate->Dm,replicate->bD,append_inj->s5,mem_append->wY,drop_left->J4,length_replicate->NA,flatMap_cons->rZ,drop_eq_getElem_cons->Dk
open List.cons renaming injEq->cL
open Nat renaming le_refl->aB,lt_or_ge->cX,add_zero->ru,add_sub_cancel_left->th,add_assoc->m9,le_trans->Du,zero_add->oF
open Option.some renaming injEq->ar,inj->Kd
open Prod.mk renaming injEq->bE
namespace Go.Proofs.YtghlfboliomhcaaGreat
open Go.Am
set_option linter.all false
noncomputable section
variable {m:Nat}{a:BitVec 64}{c s:Int}
theorem SE{b:BitVec 64}{i:Int}(hn:m<=4096)(hm:dK c s=true)(hp:jQ (64*m) a b c s=true)(h0:0<=i)(h1:i<s):hasB m (eI a b c i) 1=true:=by
 rw[KZ hn hm]at hp;have e:=Zu hn (AS 0) (HZ (a:=a) (b:=b) hm);rw[(H5 (a:=a) (b:=b) hm).2.1,Cd]at e;exact e.1 hp i h0 h1
theorem aac{m:Nat}(hn:m<=4096){a b:BitVec 64}{c s:Int}(hm:dK c s=true)(hp:jQ (64*m) a b c s=true){i:Nat}(h1:(i:Int)<s):bp (eI a b c i)=if c=0\/(i:Int)<c then bp a+i else bp b+(i-c.toNat):=by
 have jR:1<=s/\s<=8/\0<=c/\c<s:=by simpa[dK]using hm
 unfold jQ at hp;unfold eI;rw[yM,yM,yM];by_cases c0:c=0
 .subst c0;rw[if_pos rfl,u9]at hp;rw[if_neg ω,if_pos (.inl rfl),yL hn hp ω ω,aL]
 .rw[if_neg c0,aQ,u9,u9]at hp;by_cases ci:(i:Int)<c
  .rw[if_neg ω,if_pos (.inr ci),yL hn hp.1 ω ci,aL]
  .rw[if_pos ω,if_neg ω,yL hn hp.2 ω ω];omega
theorem TL{N:Nat}{b:BitVec 64}(hm:dK c s=true)(hp:jQ N a b c s=true):if c=0 then bp a+s.toNat<=N else bp a+c.toNat<=N/\bp b+(s-c).toNat<=N:=by
 have jR:1<=s/\s<=8/\0<=c/\c<s:=by simpa[dK]using hm
 unfold jQ at hp;by_cases c0:c=0
 .rw[if_pos c0,lI]at hp;rw[if_pos c0];omega
 .rw[if_neg c0,aQ,lI,lI]at hp;rw[if_neg c0];omega
theorem ajt{B:List Int}{b:BitVec 64}(hm:dK c s=true)(hp:jQ B.length a b c s=true):(vL B a b c s).length=s.toNat:=by
 have jR:1<=s/\s<=8/\0<=c/\c<s:=by simpa[dK]using hm
 have he:=TL hm hp;unfold vL;by_cases c0:c=0
 .rw[if_pos c0]at he|-;rw[tg,uS];omega
 .rw[if_neg c0]at he|-;rw[cj,tg,uS,tg,uS];omega
theorem ajs{B:List Int}(hl:B.length=64*m)(hn:m<=4096){a b:BitVec 64}{c s:Int}(hm:dK c s=true)(hp:jQ B.length a b c s=true){i:Nat}(hi:(i:Int)<s):(vL B a b c s)[i]?=B[bp (eI a b c i)]?:=by
 have jR:1<=s/\s<=8/\0<=c/\c<s:=by simpa[dK]using hm
 have he:=TL hm hp;rw[aac hn hm (by rw[<-hl];exact hp) hi];unfold vL;by_cases c0:c=0
 .rw[if_pos c0]at he|-;rw[yb ω,td,if_pos (.inl c0)]
 .rw[if_neg c0]at he|-;have l1:((B.drop (bp a)).take c.toNat).length=c.toNat:=by rw[tg,uS];omega
  by_cases ci:(i:Int)<c
  .rw[uh ω,yb ω,td,if_pos (.inr ci)]
  .rw[s9 ω,l1,yb ω,td,if_neg ω]
def bW(B:List Int)(a b:BitVec 64)(c:Int)(v:BitVec 64):Nat->List Int|0=>B|i+1=>gF (bW B a b c v i) (bp (eI a b c i)) [mS v i]
theorem ZT{B:List Int}{m:Nat}{a b v:BitVec 64}{c s:Int}(hl:B.length=64*m)(hn:m<=4096)(hm:dK c s=true)(hp:jQ B.length a b c s=true):∀{i:Nat},(i:Int)<=s->bW B a b c v i=if c=0\/(i:Int)<=c then gF B (bp a) (iV v i)else gF (gF B (bp a) (iV v c.toNat)) (bp b) (iV (v>>>(8*c.toNat)) (i-c.toNat))
 |0,_=>by
   have jR:1<=s/\s<=8/\0<=c/\c<s:=by simpa[dK]using hm
   rw[if_pos ω,LG,LD];rfl|i+1,h=>by
   have jR:1<=s/\s<=8/\0<=c/\c<s:=by simpa[dK]using hm
   have he:=TL hm hp;show gF (bW B a b c v i) (bp (eI a b c i)) [mS v i]=_;rw[ZT hl hn hm hp ω,aac hn hm (by rw[<-hl];exact hp) ω];by_cases c0:c=0
   .rw[if_pos c0]at he;rw[if_pos (.inl c0),if_pos (.inl c0),if_pos (.inl c0)];have:=LF (B:=B) (c:=iV v i) (k:=bp a) (q:=mS v i) (by rw[oV];omega);rw[oV,<-LH]at this;exact this
   rw[if_neg c0]at he;by_cases ci:(i:Int)<c
   .rw[if_pos (.inr ω),if_pos (.inr ci),if_pos (.inr ω)];have:=LF (B:=B) (c:=iV v i) (k:=bp a) (q:=mS v i) (by rw[oV];omega);rw[oV,<-LH]at this;exact this
   .rw[if_neg (show¬(c=0\/(i:Int)<c)by omega),if_neg (show¬(c=0\/((i+1:Nat):Int)<=c)by omega)];have lq:(gF B (bp a) (iV v c.toNat)).length=B.length:=BD (by rw[oV];omega);have e0:(if c=0\/(i:Int)<=c then gF B (bp a) (iV v i)else gF (gF B (bp a) (iV v c.toNat)) (bp b) (iV (v>>>(8*c.toNat)) (i-c.toNat)))=gF (gF B (bp a) (iV v c.toNat)) (bp b) (iV (v>>>(8*c.toNat)) (i-c.toNat)):=by
     by_cases ce:(i:Int)<=c
     .rw[if_pos (.inr ce),show i-c.toNat=0 by omega,LG,LD,show i=c.toNat by omega]
     .rw[if_neg ω]
    rw[e0];have:=LF (B:=gF B (bp a) (iV v c.toNat)) (c:=iV (v>>>(8*c.toNat)) (i-c.toNat)) (k:=bp b) (q:=mS v i) (by rw[oV,lq];omega);rw[oV]at this;rw[this,show i+1-c.toNat=(i-c.toNat)+1 by omega,LH];congr 2;unfold mS;rw[<-Nx,show 8*c.toNat+8*(i-c.toNat)=8*i by omega]
variable {v:BitVec 64}
theorem ajb{B:List Int}{b:BitVec 64}(hl:B.length=64*m)(hn:m<=4096)(hm:dK c s=true)(hp:jQ B.length a b c s=true):bW B a b c v s.toNat=kU B a b c s v:=by
 have jR:1<=s/\s<=8/\0<=c/\c<s:=by simpa[dK]using hm
 rw[ZT hl hn hm hp ω];unfold kU;by_cases c0:c=0
 .rw[if_pos (.inl c0),if_pos c0]
 .rw[if_neg ω,if_neg c0,show s.toNat-c.toNat=(s-c).toNat by omega]
theorem ZU{B:List Int}{m:Nat}{a b v:BitVec 64}{c s:Int}(hl:B.length=64*m)(hn:m<=4096)(hm:dK c s=true)(hp:jQ B.length a b c s=true):∀{i:Nat},(i:Int)<=s->(bW B a b c v i).length=B.length
 |0,_=>rfl|i+1,h=>by
   show(gF (bW B a b c v i) _ _).length=_;have ih:=ZU (v:=v) hl hn hm hp (i:=i) ω;have hb:=SE hn hm (by rw[<-hl];exact hp) (i:=(i:Int)) ω ω;rw[rI,<-yM]at hb;rw[BD (by rw[ih,hl];show bp _+1<=_;omega),ih]
def kW(R:List Sl)(a b:BitVec 64)(c:Int)(h:Int):Nat->List Sl|0=>R|i+1=>jv (kW R a b c h i) (eI a b c i/64#64) h 8
theorem UG{R:List Sl}{a b:BitVec 64}{c h:Int}:∀{i:Nat},(kW R a b c h i).length=R.length|0=>rfl|i+1=>by show(jv (kW R a b c h i) _ h 8).length=_;rw[CP,UG]
variable {bG:Int}
theorem aph{R:List Sl}{l:BitVec 64}{L:List (BitVec 64)}(hR:R.length=8):fI (jv R l bG 8) L bG 8=fI R (l::L) bG 8:=by
 apply wX;intro j;rw[BC,BC,Gb,CP];by_cases hj:j<8;rotate_left
 .rw[if_neg (λc=>hj c.1),if_neg (λc=>hj c.1),if_neg (λc=>hj c.1)]
 obtain⟨x,hx⟩:∃x,R[j]?=some x:=⟨_,cP ω⟩;have gx:R.getD j z0=x:=by rw[bX,hx];rfl
 have gk:(jv R l bG 8).getD j z0=if og R l bG j=true then z0 else x:=by
  rw[bX,Gb,hx];by_cases c:og R l bG j=true
  .rw[if_pos ⟨hj,c,ω⟩,if_pos c];rfl
  .rw[if_neg (λh=>c h.2.1),if_neg c];rfl
 have kb:=acd (R:=R) (l:=l) (bG:=bG) hj;unfold sI;rw[gx,gk,hx];rw[gx]at kb;simp only[hj,hR,true_and,and_true,uT];cases c:og R l bG j
 .rw[c]at kb;have kb:=kb.symm;simp only[Bool.false_eq_true,if_false];have e:(!decide ((j:Int)=bG)&&(x.is&&decide (x.ln=l\/x.ln∈L)))=(!decide ((j:Int)=bG)&&(x.is&&decide (x.ln∈L))):=by
   by_cases e1:(j:Int)=bG
   .simp[e1]
   .by_cases e2:x.ln=l
    .have:x.is=false:=by simpa[e1,e2]using kb
     simp[this]
    .simp[e2]
  rw[e]
 .rw[c]at kb;have kb:=kb.symm;simp only[aQ,gY,decide_eq_false_iff_not,decide_eq_true_eq]at kb;obtain⟨e1,e2,e3⟩:=kb;simp[e1,e2,e3,z0]
theorem api{R:List Sl}{L M:List (BitVec 64)}(h:∀x,x∈L↔x∈M):fI R L bG 8=fI R M bG 8:=by
 apply wX;intro j;rw[BC,BC];unfold sI;simp only[h]
theorem ab8{a b:BitVec 64}{c h:Int}:∀{i:Nat}{R:List Sl}{L:List (BitVec 64)},R.length=8->fI (kW R a b c h i) L h 8=fI R ((List.range i).map (λ(k:Nat)=>eI a b c k/64#64)++L) h 8
 |0,R,L,_=>rfl|i+1,R,L,hR=>by
   show fI (jv (kW R a b c h i) _ h 8) L h 8=_;rw[aph (by rw[UG,hR]),ab8 hR,List.range_succ,List.map_append,fv];rfl
theorem apg{R:List Sl}:fI R [] bG 8=R:=by
 apply wX;intro j;rw[BC,if_neg (by simp[sI])]
variable {h:Int}
theorem apc{R:List Sl}{b:BitVec 64}(hR:R.length=8)(hm:dK c s=true):kW R a b c h s.toNat=fI R (fO a b c s) h 8:=by
 have e:=ab8 (a:=a) (b:=b) (c:=c) (h:=h) (i:=s.toNat) (L:=[]) hR;rw[apg,m7]at e;rw[e];refine api λx=>?_;have jR:1<=s/\s<=8/\0<=c/\c<s:=by simpa[dK]using hm
 have g:=HZ (a:=a) (b:=b) hm;have t:=(H5 (a:=a) (b:=b) hm).2.1;have key:∀{l:List Pc}{m:Int},0<=m->yy (eI a b c) l m->(x∈l.map (λp=>p.a/64#64)↔∃i:Int,m<=i/\i<m+jq l/\eI a b c i/64#64=x):=by
  intro l;induction l with|nil=>intro m _ _;simp only[List.map_nil,J9,jq,false_iff];rintro⟨i,h1,h2,_⟩;omega|cons p l ih=>
    intro m h0 hg;obtain⟨a1,a2,a3,a4,a6⟩:=hg;have t0:=Rc a6 0;rw[ya]at t0;rw[List.map_cons,uT,ih ω a6];simp only[jq];constructor
    .rintro(rfl|⟨i,h1,h2,h3⟩)
     .have:=a4 0 ω ω;refine⟨m,ω,ω,?_⟩;rw[show m+0=m by omega]at this;rw[this.1,this.2]
     .exact⟨i,ω,ω,h3⟩
    .rintro⟨i,h1,h2,h3⟩;by_cases c1:i<m+p.n
     .have:=a4 (i-m) ω ω;rw[show m+(i-m)=i by omega]at this;left;rw[<-h3,this.1,this.2]
     .exact .inr ⟨i,ω,ω,h3⟩
 have k:=key (AS 0) g;rw[t,Cd]at k;show x∈_↔x∈(mq a b c s).map _;rw[k,List.mem_map];constructor
 .rintro⟨i,hi,rfl⟩;rw[List.mem_range]at hi;exact⟨i,ω,ω,rfl⟩
 .rintro⟨i,h0,h1,h2⟩;exact⟨i.toNat,by rw[List.mem_range];omega,by rw[Int.toNat_of_nonneg h0];exact h2⟩
theorem al7(v:BitVec 64):v/256#64=v>>>8:=by
 apply BitVec.eq_of_toNat_eq;rw[BitVec.toNat_udiv,BitVec.toNat_ushiftRight,Nat.shiftRight_eq_div_pow];rfl
theorem acQ(v:BitVec 64):(v%256#64).toNat=v.toNat%256:=by rw[BitVec.toNat_umod];rfl
theorem aBZ(v:BitVec 64)(i:Nat):IntKind.u8.wrap (((v>>>(8*i))%256#64%256#64).toNat:Int)=mS v i:=by
 have e:=ago (v:=(v>>>(8*i))%256#64%256#64);simp only[Fh,Sc.k.injEq,true_and]at e;rw[e];unfold mS;congr 1;rw[BitVec.toNat_setWidth,BitVec.toNat_setWidth,acQ,acQ];omega
theorem arq(b:Int):mU [b]=aw 64 b:=by
 show(0#64<<<8)|||aw 64 b=_;rw[BitVec.zero_shiftLeft,BitVec.zero_or]
section
variable {H:AH}
def EE(args:List AV)(H:AH):Option (AV×AH):=match args with
 |[.g [.sl id 0 v N],.c (.u a),.c (.i 1),.c (.u x)]=>match I5 H id v N with
   |some B=>if B.length<=262144/\gC B.length a 1=true then some (.c (.b true),H.set id (.vec 1 ((gF B (bp a) [IntKind.u8.wrap ((x%256#64).toNat:Int)]).flatMap bR)))else none|none=>none
 |_=>none
theorem ay9{id:Nat}{B:List Int}{a x:BitVec 64}(h:hg H id=.vec 1 (B.flatMap bR))(hl:B.length<=262144)(hh:gC B.length a 1=true):EE [.g [.sl id 0 B.length B.length],.c (.u a),.c (.i 1),.c (.u x)] H=some (.c (.b true),H.set id (.vec 1 ((gF B (bp a) [IntKind.u8.wrap ((x%256#64).toNat:Int)]).flatMap bR))):=by simp only[EE,awK h];rw[if_pos ⟨hl,hh⟩]
theorem ap5(args:List AV)(H:AH)(v:AV)(H1:AH)(h:EE args H=some (v,H1)):H.length<=H1.length:=by
 unfold EE at h;repeat' split at h
 all_goals simp at h
 rw[<-h.2];simp
theorem auq:bh Tryz.prog 147 EE:=by
 refine gJ (s:=EE) (tq ado tn) Tryz.func147 rfl Tryz.results147 Tryz.ntmps147 ap5 ?_;intro args H v H1 h b9 hH;unfold EE at h;split at h<;>try(simp at h;done)
 rename_i id v N a x;split at h<;>try(simp at h;done)
 rename_i B hv;split at h<;>try(simp at h;done)
 rename_i hc;obtain⟨hB,hh⟩:=hc;simp only[ar,bE]at h;obtain⟨rfl,rfl⟩:=h;obtain⟨ho,rfl,rfl⟩:=awJ hv;refine⟨by simp,?_⟩;have aD:id<H.length:=eu (by rw[ho];rfl);have oX:∀X,hg (H++X) id=.vec 1 (B.flatMap bR):=λX=>by rw[cB aD,ho]
 have sp:=λX=>afr (zH (oX X)) hB (show(1:Int)<=9223372036854775807 by decide) (a:=a);simp only[hh]at sp;rw[lI]at hh;have h3:=NU (a:=a) ω;have e3:(a-2147483648#64).toInt=(bp a:Int):=by rw[BitVec.toInt_eq_toNat_cond,h3,if_pos ω]
 obtain⟨q,hq⟩:∃q,q=IntKind.u8.wrap ((x%256#64).toNat:Int):=⟨_,rfl⟩;rw[<-hq];obtain⟨C,hC⟩:∃C,C=gF B (bp a) [q]:=⟨_,rfl⟩;rw[<-hC];have w1:wr (B.flatMap bR) (bp a) [.k .u8 q]=C.flatMap bR:=by rw[hC];exact Rm B [q] (bp a)
 have w2:bJ (bp a) (B.flatMap bR)++Sc.k .u8 q::cQ (bp a+1) (B.flatMap bR)=C.flatMap bR:=by rw[<-w1,Hb];simp
 have lB:(B.flatMap bR).length=B.length:=yq B;have k0:(0:Int)<=(bp a:Int):=ω
 have k1:(bp a:Int)<(B.length:Int):=ω
 have k2:bp a+1<=B.length:=ω
 have w0:aA ((bp a:Int)+0)=(bp a:Int):=by rw[aq ω ω];omega
 have bC:dF (H.set id (.vec 1 (C.flatMap bR)))=true:=py hH (Ov C _);have sX:∀o X,(H++X).set id o=H.set id o++X:=λo X=>mg _ _ aD;have gN:∀o X n,hg (H.set id o++X) (H.length+n)=hg X n:=λo X n=>by
  have:=gM (H:=H.set id o) (X:=X) (n:=n);rwa[iR]at this
 have g0:∀o X,hg (H.set id o++X) H.length=hg X 0:=λo X=>gN o X 0;simp only[go_sem,seval,sp];refine fB 1 (λj=>([(2,.c (.i 1)),(9,.c (.i j))]++(if j=0 then[(1,.c (.u a)),(3,.c (.u x)),(4,.c (.p H.length 0 0))]else[]),if j=0 then H++[.own [.sl id 0 B.length B.length]]else H.set id (.vec 1 (C.flatMap bR)))) ?_ λj hj=>?_
 .simp only[if_true];exact mF (by simp[Am.get])
 .rcases(show j=0\/j=1 by omega)with rfl|rfl
  .simp only[if_true];(repeat(first|simp(maxSteps:=9^9)only[go_sem,seval,oX,e3,w0,k0,k1,k2,lB,w1,w2,sX,<-hq,aL]|simp(disch:=omega)only[aq,aV,aU,aT,aS]));refine⟨1,ω,ω,?_⟩;exact Wk.wk (by simp[lo]) (by simp[Am.get]) (by simp[AV.aj,Sc.aj]) (aC _ _) bC
  .simp only[if_neg (show¬(1:Nat)=0 by decide)];simp only[go_sem,seval];exact xw
end
def eZ(h t n b:Int)(id N:Nat)(R:List Sl):List Sc:=.i h::.i t::.i n::.i b::.sl id 0 N N::cH R
variable {n:Int}
theorem BS{t b:Int}{id N:Nat}{R:List Sl}(hR:R.length=8):(eZ h t n b id N R).length=21:=by unfold eZ;simp[ub hR]
theorem C4{t b:Int}{id N:Nat}{R:List Sl}:(eZ h t n b id N R).all Sc.one=true:=by unfold eZ;simp[Sc.one,BT]
theorem Wu{h t n b:Int}{id N:Nat}{R:List Sl}{k:Nat}(hk:id<k):(eZ h t n b id N R).all (Sc.aj k)=true:=by unfold eZ;simp[Sc.aj,IY,hk]
theorem awy{t b:Int}{id N:Nat}{R:List Sl}(hR:R.length=8):(eZ h t n b id N R).take 21=eZ h t n b id N R:=bQ (by rw[BS hR];exact aB _)
theorem aeN{t b:Int}{id N:Nat}{R:List Sl}(hR:R.length=8):((eZ h t n b id N R).drop 5).take 16=cH R:=by
 unfold eZ;show(cH R).take 16=_;exact bQ (by rw[ub hR];exact aB _)
theorem awx{t b:Int}{id N:Nat}{R:List Sl}:((eZ h t n b id N R).drop 4).take 1=[.sl id 0 N N]:=rfl
theorem aeO{h t n b:Int}{id N:Nat}{R S:List Sl}(hR:R.length=8)(hS:S.length=8):wr (eZ h t n b id N R) 5 (cH S)=eZ h t n b id N S:=by
 unfold eZ wr;rw[ub hS];show[Sc.i h,.i t,.i n,.i b,.sl id 0 N N]++cH S++((cH R).drop 16)=_;rw[kN (by rw[ub hR];exact aB _),m7];rfl
structure vJ(H:AH)(id v N:Nat)(rf:List Sc)(B:List Int)(m:Nat)(R:List Sl):Prop where
 o:hg H id=.vec 1 (B.flatMap bR)v:v=B.length
 N:N=B.length
 l:B.length=64*m
 m:m<=4096
 nV:∀y∈B,0<=y/\y<=255
 rf:rf=cH R
 R:R.length=8
section
variable {H:AH}
open Classical in def Ef(H:AH)(id v N:Nat)(rf:List Sc):Option (List Int×List Sl):=if h:∃x:List Int×Nat×List Sl,vJ H id v N rf x.1 x.2.1 x.2.2 then some (h.choose.1,h.choose.2.2)else none
theorem P7{id v N:Nat}{rf:List Sc}{B:List Int}{m:Nat}{R:List Sl}(h:vJ H id v N rf B m R):Ef H id v N rf=some (B,R):=by
 unfold Ef;have e:∃x:List Int×Nat×List Sl,vJ H id v N rf x.1 x.2.1 x.2.2:=⟨(B,m,R),h⟩;rw[dif_pos e];have g:=e.choose_spec;have h1:=g.o;rw[h.o]at h1;simp only[ae.vec.injEq,true_and]at h1;have e1:=Th h1.symm;have e2:=P8 g.R h.R (g.rf.symm.trans h.rf);rw[e1,e2]
theorem Wv{id v N:Nat}{rf:List Sc}{B:List Int}{R:List Sl}(h:Ef H id v N rf=some (B,R)):∃m,vJ H id v N rf B m R:=by
 unfold Ef at h;split at h
 .rename_i e;simp only[ar,bE]at h;obtain⟨rfl,rfl⟩:=h;exact⟨_,e.choose_spec⟩
 .simp at h
theorem vJ.lt{id v N:Nat}{rf:List Sc}{B:List Int}{m:Nat}{R:List Sl}(h:vJ H id v N rf B m R):id<H.length:=eu (by rw[h.o];rfl)
theorem vJ.app{id v N:Nat}{rf:List Sc}{B:List Int}{m:Nat}{R:List Sl}(h:vJ H id v N rf B m R)(X:AH):vJ (H++X) id v N rf B m R:=⟨by rw[cB h.lt];exact h.o,h.v,h.N,h.l,h.m,h.nV,h.rf,h.R⟩
def Jw(args:List AV)(H:AH):Option AV:=match args with
 |[.g (.i _::.i _::.i _::.i _::.sl id 0 v N::rf),.g (.i k::.u a::.u b::.i c::.i s::r)]=>match Ef H id v N rf with
   |some (B,_)=>if r.length=14/\r.all Sc.pf=true/\r.all Sc.one=true/\dK c s=true/\jQ B.length a b c s=true then some (.c (.u (mU (vL B a b c s))))else none|none=>none
 |_=>none
theorem ayP{h t n b':Int}{id v N:Nat}{rf:List Sc}{B:List Int}{m:Nat}{R:List Sl}(hd:vJ H id v N rf B m R){k:Int}{a b:BitVec 64}{c s:Int}{r:List Sc}(l1:r.length=14)(l2:r.all Sc.pf=true)(l3:r.all Sc.one=true)(hm:dK c s=true)(hp:jQ B.length a b c s=true):Jw [.g (.i h::.i t::.i n::.i b'::.sl id 0 v N::rf),.g (.i k::.u a::.u b::.i c::.i s::r)] H=some (.c (.u (mU (vL B a b c s)))):=by simp only[Jw,P7 hd];rw[if_pos ⟨l1,l2,l3,hm,hp⟩]
theorem atS:bh Tryz.prog 92 (λargs H=>(Jw args H).map λv=>(v,H)):=by
 refine jo (s:=Jw) (tu VK (tu VN (tq atd tn))) Tryz.func92 rfl Tryz.results92 Tryz.ntmps92 ?_;intro args H v h b9 hH;unfold Jw at h;split at h<;>try(simp at h;done)
 rename_i q1 q2 q3 q4 id v N rf k a b c s r;split at h<;>try(simp at h;done)
 rename_i B R hd;split at h<;>try(simp at h;done)
 rename_i hc;obtain⟨lr,pr,ro,hm,hp⟩:=hc;simp only[ar]at h;subst h;obtain⟨m,hd⟩:=Wv hd;obtain⟨ho,rfl,rfl,hl,uu,yB,rfl,hR⟩:=hd;refine⟨by simp,rfl,?_⟩;have jR:1<=s/\s<=8/\0<=c/\c<s:=by simpa[dK]using hm
 have rt:r.take 14=r:=bQ ω;have aD:id<H.length:=eu (by rw[ho];rfl);have oX:∀X,hg (H++X) id=.vec 1 (B.flatMap bR):=λX=>by rw[cB aD,ho]
 obtain⟨j,rfl⟩:∃j:Nat,s=(j:Int):=⟨s.toNat,ω⟩;obtain⟨L,hL⟩:∃L,L=vL B a b c (j:Int):=⟨_,rfl⟩;have lL:L.length=j:=by rw[hL,ajt hm hp,aL]
 have cJ:∀i:Nat,i<j->L[i]?=B[bp (eI a b c i)]?:=λi hi=>by rw[hL];exact ajs hl uu hm hp ω
 have hs:∀i:Nat,i<j->gC B.length (eI a b c i) 1=true:=λi hi=>by
  rw[hl,u9];exact SE uu hm (by rw[<-hl];exact hp) ω ω
 have bL:∀x∈L,0<=x/\x<=255:=λx hx=>by
  obtain⟨i,hi⟩:=List.mem_iff_getElem?.1 hx;have il:i<j:=by
   rcases cX i j with c1|c1
   .exact c1
   .rw[kf ω]at hi;simp at hi
  rw[cJ i il]at hi;exact yB x (List.mem_of_getElem? hi)
 rw[<-hL,<-acT bL];have lds:∀(i:Nat)(q:Int)X,i<j->L[i]?=some q->Jn [.g [.sl id 0 B.length B.length],.c (.u (eI a b c i)),.c (.i 1)] (H++X)=some (.t [.c (.u (aw 64 q)),.c (.b true)]):=λi q X hi hq=>by
  rw[ays (zH (oX X)) ω δ yB];unfold BE;have h1:=hs i hi;rw[if_pos ⟨h1,δ⟩];rw[lI]at h1;have:(B.drop (bp (eI a b c i))).take (1:Int).toNat=[q]:=by
   rw[cJ i hi]at hq;apply wX;intro k;rcases k with _|k
   .rw[yb δ,td,ru,hq];rfl
   .rw[kf (by rw[tg];simp;omega),kf (by simp)]
  rw[this,arq]
 have w1:aA ((j:Int)-1)=(j:Int)-1:=aq ω ω;have ra:=vr (k:=k) (a:=a) (b:=b) (c:=c) (s:=(j:Int)) (r:=r);rw[if_pos ⟨lr,pr⟩]at ra;obtain⟨S,hS⟩:∃S:List Sc,S=.i q1::.i q2::.i q3::.i q4::.sl id 0 B.length B.length::cH R:=⟨_,rfl⟩;have lS:S.length=21:=by rw[hS];exact BS (h:=q1) (t:=q2) (n:=q3) (b:=q4) hR
 have tS:S.take 21=S:=bQ ω;have oS:S.all Sc.one=true:=by rw[hS];exact C4 (h:=q1) (t:=q2) (n:=q3) (b:=q4)
 have dS:(S.drop 4).take 1=[.sl id 0 B.length B.length]:=by rw[hS];rfl
 rw[<-hS];simp only[go_sem,seval,lr,ro,rt,lS,tS,oS,w1];refine fB j (λr'=>([(2,.c (.p H.length 0 0)),(3,.c (.p (H.length+1) 0 0)),(5,.c (.u ((L.drop (j-r')).foldr G2 0#64))),(6,.c (.i ((j:Int)-1-r')))],H++[.own S,.own (.i k::.u a::.u b::.i c::.i j::r)])) ?_ λr' hr=>?_
 .exact mF (by simp[Am.get,<-lL])
 by_cases aG:r'<j;rotate_left
 .obtain rfl:r'=j:=ω
  have e0:((r':Int)-1-(r':Int))=-1:=ω
  have d0:L.drop (r'-r')=L:=by rw[Nat.sub_self];rfl
  simp only[go_sem,seval,e0,d0];exact aC _ _
 obtain⟨i,hi⟩:∃i,i=j-1-r':=⟨_,rfl⟩;have e0:((j:Int)-1-(r':Int))=(i:Int):=ω
 have e1:aA ((i:Int)-1)=(i:Int)-1:=aq ω ω;have k0:(0:Int)<=(i:Int):=ω
 obtain⟨q,hq⟩:∃q,L[i]?=some q:=⟨_,cP ω⟩;have ld:=λX=>lds i q X ω hq;have rb:=vt (a:=a) (b:=b) (c:=c) (s:=(j:Int)) (i:=(i:Int));rw[if_pos ⟨ω,ω,ω,ω⟩]at rb;have st:=af8 0#64 (M:=L) ω ω hq (r:=r');rw[lL]at st;have e4:(i:Int)-1=(j:Int)-1-((r'+1:Nat):Int):=ω
 have cm:∀x:BitVec 64,256#64*x=x*256#64:=λx=>BitVec.mul_comm _ _;(repeat(first|simp only[go_sem,seval,lr,ro,rt,lS,dS,e0,e1,k0,ra,rb,ld,cm,<-st,e4]|simp(disch:=omega)only[w0]));exact⟨r'+1,ω,ω,mF (by simp[Am.get])⟩
def Eg:List Sc:=[.i 0,.i 0,.i 0,.i 0,.az,.b false,.b false,.b false,.b false,.b false,.b false,.b false,.b false,.u 0#64,.u 0#64,.u 0#64,.u 0#64,.u 0#64,.u 0#64,.u 0#64,.u 0#64]
def EA(args:List AV)(H:AH):Option (AV×AH):=match args with
 |[.g (.i q1::.i q2::.i q3::.i q4::.sl id 0 v N::rf),.c (.i h),.g (.i k::.u a::.u b::.i c::.i s::r),.c (.u x)]=>match Ef H id v N rf with
   |some (B,R)=>if r.length=14/\r.all Sc.pf=true/\r.all Sc.one=true/\dK c s=true/\jQ B.length a b c s=true then some (.g (eZ q1 q2 q3 q4 id B.length (fI R (fO a b c s) h 8)),H.set id (.vec 1 ((kU B a b c s x).flatMap bR)))else none|none=>none
 |_=>none
theorem ayR{q1 q2 q3 q4 h:Int}{id v N:Nat}{rf:List Sc}{B:List Int}{m:Nat}{R:List Sl}(hd:vJ H id v N rf B m R){k:Int}{a b:BitVec 64}{c s:Int}{r:List Sc}{x:BitVec 64}(l1:r.length=14)(l2:r.all Sc.pf=true)(l3:r.all Sc.one=true)(hm:dK c s=true)(hp:jQ B.length a b c s=true):EA [.g (.i q1::.i q2::.i q3::.i q4::.sl id 0 v N::rf),.c (.i h),.g (.i k::.u a::.u b::.i c::.i s::r),.c (.u x)] H=some (.g (eZ q1 q2 q3 q4 id B.length (fI R (fO a b c s) h 8)),H.set id (.vec 1 ((kU B a b c s x).flatMap bR))):=by simp only[EA,P7 hd];rw[if_pos ⟨l1,l2,l3,hm,hp⟩]
theorem ap2(args:List AV)(H:AH)(v:AV)(H1:AH)(h:EA args H=some (v,H1)):H.length<=H1.length:=by
 unfold EA at h;repeat' split at h
 all_goals simp at h
 rw[<-h.2];simp
theorem atU:bh Tryz.prog 93 EA:=by
 refine gJ (s:=EA) (tu VK (tu VN (tp auq (tu auT tn)))) Tryz.func93 rfl Tryz.results93 Tryz.ntmps93 ap2 ?_;intro args H v H1 h b9 hH;unfold EA at h;split at h<;>try(simp at h;done)
 rename_i q1 q2 q3 q4 id v N rf h0 k a b c s r x;split at h<;>try(simp at h;done)
 rename_i B R hd;split at h<;>try(simp at h;done)
 rename_i hc;obtain⟨lr,pr,ro,hm,hp⟩:=hc;simp only[ar,bE]at h;obtain⟨rfl,rfl⟩:=h;obtain⟨m,hd⟩:=Wv hd;obtain⟨ho,rfl,rfl,hl,uu,yB,rfl,hR⟩:=hd;refine⟨by simp,?_⟩;have jR:1<=s/\s<=8/\0<=c/\c<s:=by simpa[dK]using hm
 have rt:r.take 14=r:=bQ ω;have aD:id<H.length:=eu (by rw[ho];rfl);rw[<-ajb hl uu hm hp,<-apc hR hm];obtain⟨j,rfl⟩:∃j:Nat,s=(j:Int):=⟨s.toNat,ω⟩;rw[aL];let O:Nat->AH:=λi=>H.set id (.vec 1 ((bW B a b c x i).flatMap bR));have lO:∀i,(O i).length=H.length:=λi=>iR;have bO:∀i,dF (O i)=true:=λi=>py hH (Ov _ _);have lb:∀i,i<=j->(bW B a b c x i).length=B.length:=λi hi=>ZU hl uu hm hp ω;have gO:∀i X,hg (O i++X) id=.vec 1 ((bW B a b c x i).flatMap bR):=λi X=>by rw[cB (by rw[lO];exact aD)];exact iN aD
 have sO:∀i X(C:List Int),(O i++X).set id (.vec 1 (C.flatMap bR))=H.set id (.vec 1 (C.flatMap bR))++X:=λi X C=>by rw[mg _ _ (by rw[lO];exact aD)];show(H.set id _).set id _++X=_;rw[List.set_set]
 have eO:∀i,H.set id (.vec 1 ((bW B a b c x (i+1)).flatMap bR))=O (i+1):=λi=>rfl;have e0:O 0=H:=QQ ho aD;have eF:H.set id (.vec 1 ((bW B a b c x j).flatMap bR))=O j:=rfl;have st:∀i X,i<j->EE [.g [.sl id 0 B.length B.length],.c (.u (eI a b c i)),.c (.i 1),.c (.u ((x>>>(8*i))%256#64))] (O i++X)=some (.c (.b true),O (i+1)++X):=λi X hi=>by
  have hb:=SE uu hm (by rw[<-hl];exact hp) (i:=(i:Int)) ω ω;rw[<-u9,<-hl]at hb;have l1:=lb i ω;have e:=ay9 (x:=(x>>>(8*i))%256#64) (gO i X) (by rw[l1];omega) (by rw[l1];exact hb);rw[l1,aBZ,sO]at e;exact e
 have kR:∀i,(kW R a b c h0 i).length=8:=λi=>by rw[UG,hR]
 have vk:∀i:Nat,∃n:Nat,QJ [.g (cH (kW R a b c h0 i)),.c (.u (eI a b c i/64#64)),.c (.i h0)]=some (.t [.g (cH (kW R a b c h0 (i+1))),.c (.i n)]):=λi=>⟨_,by rw[azg,if_pos (UB (kR i)),I4 (kR i)];rfl⟩;rw[eF];clear_value O;obtain⟨ask,mN⟩:∃ask:List Sc,ask=.i k::.u a::.u b::.i c::.i j::r:=⟨_,rfl⟩;obtain⟨S,hS⟩:∃S:Nat->List Sc,S=λi=>eZ q1 q2 q3 q4 id B.length (kW R a b c h0 i):=⟨_,rfl⟩;have yz:(Sc.i q1::.i q2::.i q3::.i q4::.sl id 0 B.length B.length::cH R)=S 0:=by rw[hS];rfl
 have lS:∀i,(S i).length=21:=λi=>by rw[hS];exact BS (kR i)
 have oS:∀i,(S i).all Sc.one=true:=λi=>by rw[hS];exact C4
 have bS:∀i k,id<k->(S i).all (Sc.aj k)=true:=λi k hk=>by rw[hS];exact Wu hk
 have tS:∀i,(S i).take 21=S i:=λi=>bQ (by rw[lS];exact aB _);have dT:∀i,((S i).drop 5).take 16=cH (kW R a b c h0 i):=λi=>by rw[hS];exact aeN (kR i)
 have dM:∀i,((S i).drop 4).take 1=[.sl id 0 B.length B.length]:=λi=>by rw[hS];exact awx
 have wS:∀i,wr (S i) 5 (cH (kW R a b c h0 (i+1)))=S (i+1):=λi=>by rw[hS];exact aeO (kR i) (kR (i+1))
 have fS:eZ q1 q2 q3 q4 id B.length (kW R a b c h0 j)=S j:=by rw[hS]
 have lT:∀i,(cH (kW R a b c h0 i)).length=16:=λi=>ub (kR i);have tT:∀i,(cH (kW R a b c h0 i)).take 16=cH (kW R a b c h0 i):=λi=>bQ (by rw[lT];exact aB _);have oT:∀i,(cH (kW R a b c h0 i)).all Sc.one=true:=λi=>BT;have lZ:Eg.length=21:=rfl;have Sr:∀k,ask.all (Sc.aj k)=true:=λk=>by rw[mN];simp[Sc.aj,CZ k pr]
 have qU:ask.length=19:=by rw[mN];simp[lr]
 have task:ask.take 19=ask:=bQ ω;have rR:ask.all Sc.one=true:=by rw[mN];simp[Sc.one,ro]
 have abF:ask.getD 4 .any=.i j:=by rw[mN];rfl
 have ra:Qx [.g ask]=some (.g [.u a,.u b,.i c,.i j]):=by rw[mN,vr,if_pos ⟨lr,pr⟩]
 have g0:∀i X,hg (O i++X) H.length=hg X 0:=λi X=>by rw[<-lO i,km]
 have gN:∀i X n,hg (O i++X) (H.length+n)=hg X n:=λi X n=>by rw[<-lO i,gM]
 have s0:∀i X o,(O i++X).set H.length o=O i++X.set 0 o:=λi X o=>by rw[<-lO i,zd]
 have sN:∀i X n o,(O i++X).set (H.length+n) o=O i++X.set n o:=λi X n o=>by rw[<-lO i,xS]
 rw[yz,fS,<-mN];clear hS;simp only[go_sem,seval,lS,tS,oS,qU,task,rR];refine fB j (λi=>([(1,.c (.i h0)),(3,.c (.u (x>>>(8*i)))),(4,.c (.p H.length 0 0)),(6,.c (.p (H.length+1) 0 0)),(8,.c (.p (H.length+2) 0 0)),(9,.c (.i i))],O i++[.own (S i),.own ask,.own Eg])) ?_ λi hi=>?_
 .refine Ha ?_ (by simp[Am.get]);rw[e0];rfl
 by_cases aG:i<j;rotate_left
 .obtain rfl:i=j:=ω
  have iI:¬((i:Int)<i):=ω
  have dZ:Eg.drop 21=[]:=rfl;simp only[go_sem,seval,g0,gN,sN,s0,lO,qU,abF,iI,lS,tS,oS,lZ,dZ];exact cY (bS _ _ (by rw[lO];exact aD)) (aC _ _) (bO _) (by rw[lO];exact aB _)
 have iI:(i:Int)<j:=ω
 have F1:aA ((i:Int)+1)=((i+1:Nat):Int):=by rw[aq ω ω];omega
 have rb:=vt (a:=a) (b:=b) (c:=c) (s:=(j:Int)) (i:=(i:Int));rw[if_pos ⟨ω,ω,ω,ω⟩]at rb;have st:=λX=>st i X aG;obtain⟨n,vk⟩:=vk i;have sh:(x>>>(8*i))/256#64=x>>>(8*(i+1)):=by rw[al7,<-Nx];rfl
 have bb:dF (O (i+1)++[.own (S (i+1)),.own ask,.own Eg])=true:=uk (bO _) (by simp only[uT,J9,or_false,forall_eq_or_imp,forall_eq];exact⟨bS _ _ (by rw[cj,lO];omega),Sr _,rfl⟩);simp only[go_sem,seval,g0,gN,sN,s0,lO,qU,task,rR,abF,iI,F1,lS,tS,oS,dM,dT,wS,lT,tT,oT,ra,rb,st,sh,vk];exact⟨i+1,ω,ω,Wk.wk (by simp[lo,lO]) (by simp[Am.get]) (by simp[AV.aj,Sc.aj,lO]) (EP _ ⟨.inr rfl,.inr rfl,.inr rfl,trivial⟩) bb⟩
end
def uo (h t n b:Int) (B:List Int) (R:List Sl):Fw:=⟨0,0,h,t,n,b,B,R,.dk,[]⟩
theorem U9{k op:Int}{b:BitVec 64} (hm:m<=4096) :oh m k a b c s op=(np k a c s op && jQ (64 * m) a b c s):=by
 unfold oh
 cases hf:np k a c s op
 .rfl
 .rw [KZ hm (D6 (b:=b) hf)]
section
variable {H:AH}
def Db (args:List AV) (H:AH):Option (AV × AH) :=
 match args with
 | [.g (.i q1::.i q2::.i q3::.i q4::.sl id 0 v N::rf),.c (.i h),.g (.i k::.u a::.u b::.i c::.i s::.i op::.u d::.u o::.b lv::r)] =>
   match Ef H id v N rf with
   | some (B,R)=>open Classical in if nT r/\eC s/\q1<=8 then
      some (.t [.g (eZ q1 q2 q3 q4 id B.length (wR (uo q1 q2 q3 q4 B R) h ⟨k,a,b,c,s,op,d,o,lv⟩)),.g (bU (wD (uo q1 q2 q3 q4 B R) h ⟨k,a,b,c,s,op,d,o,lv⟩) (wG (uo q1 q2 q3 q4 B R) h ⟨k,a,b,c,s,op,d,o,lv⟩)),.c (.b (iL (uo q1 q2 q3 q4 B R) h ⟨k,a,b,c,s,op,d,o,lv⟩))],
       H.set id (.vec 1 ((wB (uo q1 q2 q3 q4 B R) h ⟨k,a,b,c,s,op,d,o,lv⟩).flatMap bR))) else none
   | none=>none
 | _=>none
theorem ayO {q1 q2 q3 q4 h:Int} {id v N:Nat} {rf:List Sc} {B:List Int} {m:Nat} {R:List Sl} (hd:vJ H id v N rf B m R) {k:Int} {a b:BitVec 64} {c s op:Int} {d o:BitVec 64} {lv:Bool} {r:List Sc} (hr:nT r) (hs:eC s) (hq:q1<=8) :
 Db [.g (.i q1::.i q2::.i q3::.i q4::.sl id 0 v N::rf),.c (.i h),.g (.i k::.u a::.u b::.i c::.i s::.i op::.u d::.u o::.b lv::r)] H=some (.t [.g (eZ q1 q2 q3 q4 id B.length (wR (uo q1 q2 q3 q4 B R) h ⟨k,a,b,c,s,op,d,o,lv⟩)),.g (bU (wD (uo q1 q2 q3 q4 B R) h ⟨k,a,b,c,s,op,d,o,lv⟩) (wG (uo q1 q2 q3 q4 B R) h ⟨k,a,b,c,s,op,d,o,lv⟩)),.c (.b (iL (uo q1 q2 q3 q4 B R) h ⟨k,a,b,c,s,op,d,o,lv⟩))],
  H.set id (.vec 1 ((wB (uo q1 q2 q3 q4 B R) h ⟨k,a,b,c,s,op,d,o,lv⟩).flatMap bR))):=by
 simp only [Db,P7 hd];rw [if_pos ⟨hr,hs,hq⟩]
theorem ap0 (args:List AV) (H:AH) (v:AV) (H1:AH) (h:Db args H=some (v,H1)):H.length<=H1.length:=by
 unfold Db at h
 repeat' split at h
 all_goals simp at h
 rw [<-h.2];simp
theorem aqs{B:List Int}{b:BitVec 64} (hm:dK c s=true):kU B a b c s (eH v (8 * s))=kU B a b c s v:=acm hm
theorem atP:bh Tryz.prog 41 Db:=by
 refine gJ (s:=Db) (tq adC (tq atS (tp atU (tu aub (tu auU (tu auS tn)))))) Tryz.func41 rfl Tryz.results41 Tryz.ntmps41 ap0 ?_
 intro args H v H1 h b9 hH
 unfold Db at h
 split at h <;> try (simp at h;done)
 rename_i q1 q2 q3 q4 id v N rf h0 k a b c s op d o lv r
 split at h <;> try (simp at h;done)
 rename_i B R hd
 split at h <;> try (simp at h;done)
 rename_i hc
 obtain ⟨hr,hs,hq⟩:=hc
 simp only [ar,bE] at h
 obtain ⟨rfl,rfl⟩:=h
 obtain ⟨m,hd⟩:=Wv hd
 have FQ:=hd
 obtain ⟨ho,rfl,rfl,hl,uu,yB,rfl,hR⟩:=FQ
 have Ul:=hr
 obtain ⟨lr,pr,ro⟩:=Ul
 refine ⟨by simp,?_⟩
 have rt:r.take 10=r:=bQ ω
 have aD:id < H.length:=eu (by rw [ho];rfl)
 obtain ⟨w,hw⟩:∃w,w=uo q1 q2 q3 q4 B R:=⟨_,rfl⟩
 have zh:w.B=B:=by rw [hw];rfl
 have B8:w.R=R:=by rw [hw];rfl
 have wh:w.h=q1:=by rw [hw];rfl
 rw [<-hw]
 obtain ⟨ask,mN⟩:∃ask:List Sc,ask=.i k::.u a::.u b::.i c::.i s::.i op::.u d::.u o::.b lv::r:=⟨_,rfl⟩
 obtain ⟨S,hS⟩:∃S:List Sl->List Sc,S=λT=>eZ q1 q2 q3 q4 id B.length T:=⟨_,rfl⟩
 have yz:(Sc.i q1::.i q2::.i q3::.i q4::.sl id 0 B.length B.length::cH R)=S R:=by rw [hS];rfl
 have lS:∀T,T.length=8->(S T).length=21:=λT hT=>by rw [hS];exact BS hT
 have oS:∀T,(S T).all Sc.one=true:=λT=>by rw [hS];exact C4
 have bS:∀T n,id < n->(S T).all (Sc.aj n)=true:=λT n hn=>by rw [hS];exact Wu hn
 have tS:∀T,T.length=8->(S T).take 21=S T:=λT hT=>bQ (by rw [lS T hT];exact aB _)
 have dT:∀T,T.length=8->((S T).drop 5).take 16=cH T:=λT hT=>by rw [hS];exact aeN hT
 have wS:∀T U,T.length=8->U.length=8->wr (S T) 5 (cH U)=S U:=λT U hT hU=>by rw [hS];exact aeO hT hU
 have zL:∀T,(S T).getD 0 .any=.i q1:=λT=>by rw [hS];rfl
 have lT:∀T:List Sl,T.length=8->(cH T).length=16:=λT hT=>ub hT
 have tT:∀T:List Sl,T.length=8->(cH T).take 16=cH T:=λT hT=>bQ (by rw [lT T hT];exact aB _)
 have oT:∀T:List Sl,(cH T).all Sc.one=true:=λT=>BT
 have pT:Ra (cH R):=⟨ub hR,Gw,BT⟩
 have zS:(Eg.drop 21:List Sc)=[]:=rfl
 have qU:ask.length=19:=by rw [mN];simp [lr]
 have task:ask.take 19=ask:=bQ ω
 have rR:ask.all Sc.one=true:=by rw [mN];simp [Sc.one,ro]
 have a0:ask.getD 0 .any=.i k:=by rw [mN];rfl
 have a1:ask.getD 1 .any=.u a:=by rw [mN];rfl
 have a5:ask.getD 5 .any=.i op:=by rw [mN];rfl
 have a6:ask.getD 6 .any=.u d:=by rw [mN];rfl
 have a7:ask.getD 7 .any=.u o:=by rw [mN];rfl
 have a8:ask.getD 8 .any=.b lv:=by rw [mN];rfl
 have my:∀X,ED [.g (S R),.g ask] (H++X)=some (.c (.b (oh m k a b c s op))):=λX=>by
  rw [<-yz,mN,hl];exact afC pT hr hs uu
 have zy:∀(T:List Sl) (d:BitVec 64) (g q:Bool) (K:AH),id < K.length->(AV.t [.g (S T),.g (bU d g),.c (.b q)]).aj K.length=true:=λT d g q K hK=>by
  simp only [AV.aj,bK,dY,bS T _ hK,Zw,Sc.aj,c8]
 have ajr:∀C:List Int,dF (H.set id (.vec 1 (C.flatMap bR)))=true:=λC=>py hH (Ov C _)
 have zA:(Sc.u 0#64::.b false::dC).drop 42=[]:=kN (by simp [Nw])
 have AF:H.set id (.vec 1 (B.flatMap bR))=H:=QQ ho aD
 have gX:∀(C:List Int) X n,hg (H.set id (.vec 1 (C.flatMap bR))++X) (H.length+n)=hg X n:=λC X n=>by
  have:=gM (H:=H.set id (.vec 1 (List.flatMap bR C))) (X:=X) (n:=n)
  rwa [iR] at this
 have OK:∀(C:List Int) X,hg (H.set id (.vec 1 (C.flatMap bR))++X) H.length=hg X 0:=λC X=>gX C X 0
 have sX:∀(C:List Int) X n o,(H.set id (.vec 1 (C.flatMap bR))++X).set (H.length+n) o=H.set id (.vec 1 (C.flatMap bR))++X.set n o:=λC X n o=>by
  have:=xS (H:=H.set id (.vec 1 (List.flatMap bR C))) (X:=X) (n:=n) (o:=o)
  rwa [iR] at this
 have Qm:∀(C:List Int) X o,(H.set id (.vec 1 (C.flatMap bR))++X).set H.length o=H.set id (.vec 1 (C.flatMap bR))++X.set 0 o:=λC X o=>sX C X 0 o
 have eS:∀T,eZ q1 q2 q3 q4 id B.length T=S T:=λT=>by rw [hS]
 rw [yz,<-mN,eS]
 have no:∀q:Ak,iL w h0 q=false->wD w h0 q=0#64/\wG w h0 q=false/\wB w h0 q=B/\wR w h0 q=R:=λq e=>by
  have eW:iC w h0 q=none:=by unfold iC;rw [if_neg (by simp [e])]
  exact ⟨by unfold wD;rw [if_neg (by simp [e])],by unfold wG;rw [if_neg (by simp [e])],by unfold wB;rw [eW];exact zh,by unfold wR;rw [if_neg (by simp [e])];exact B8⟩
 have aCV:∀(n:Nat) (X:AH),n=H.length->∃v',some (AV.t [.g (S R),.g (.u 0#64::.b false::dC),.c (.b false)])=some v'/\Wk n [(0,v')] (H++X) ([(0,.t [.g (S R),.g (bU 0#64 false),.c (.b false)])],H):=λn X hn=>by
  subst hn
  exact cY (zy R 0#64 false false H aD) (aC _ _) hH (aB _)
 cases tN:oh m k a b c s op
 .have e:iL w h0 ⟨k,a,b,c,s,op,d,o,lv⟩=false:=by
   rw [U9 uu] at tN
   unfold iL
   rw [zh,hl]
   cases hf:np k a c s op
   .rfl
   .rw [hf,gG] at tN;rw [tN];simp
  obtain ⟨e1,e2,e3,e4⟩:=no _ e
  rw [e,e1,e2,e3,e4,AF]
  simp only [go_sem,seval,lS R hR,oS,tS R hR,qU,task,rR,my,tN,zS,zA]
  exact cY (zy R 0#64 false false H aD) (aC _ _) hH (aB _)
 by_cases h1:h0 < 0
 .have e:iL w h0 ⟨k,a,b,c,s,op,d,o,lv⟩=false:=by unfold iL;rw [decide_eq_false (show ¬0<=h0 by omega)];simp
  obtain ⟨e1,e2,e3,e4⟩:=no _ e
  rw [e,e1,e2,e3,e4,AF]
  simp only [go_sem,seval,lS R hR,oS,tS R hR,qU,task,rR,my,tN,h1,zS,zA]
  exact cY (zy R 0#64 false false H aD) (aC _ _) hH (aB _)
 by_cases h2:q1<=h0
 .have e:iL w h0 ⟨k,a,b,c,s,op,d,o,lv⟩=false:=by unfold iL;rw [wh,decide_eq_false (show ¬h0 < q1 by omega)];simp
  obtain ⟨e1,e2,e3,e4⟩:=no _ e
  rw [e,e1,e2,e3,e4,AF]
  simp only [go_sem,seval,lS R hR,oS,tS R hR,zL,qU,task,rR,my,tN,h1,h2,zS,zA]
  exact cY (zy R 0#64 false false H aD) (aC _ _) hH (aB _)
 obtain ⟨x0,mu⟩:∃x0:Nat,h0=(x0:Int):=⟨h0.toNat,ω⟩
 subst mu
 have x8:x0 < 8:=ω
 have xI:(x0:Int) < 8:=ω
 have Rp:(0:Int)<=(x0:Int):=ω
 have hmp:=tN
 rw [U9 uu,aQ,<-hl] at hmp
 obtain ⟨hf,hp⟩:=hmp
 have hm:=D6 (b:=b) hf
 have aM:iL w x0 ⟨k,a,b,c,s,op,d,o,lv⟩=true:=by
  unfold iL
  rw [zh,hf,hp,wh,decide_eq_true Rp,decide_eq_true (show (x0:Int) < q1 by omega)];rfl
 rw [aM]
 have DZ:(Sc.i op::.u d::.u o::.b lv::r).length=14:=by simp [lr]
 have PV:(Sc.i op::.u d::.u o::.b lv::r).all Sc.pf=true:=by simp [Sc.pf,pr]
 have Gp:(Sc.i op::.u d::.u o::.b lv::r).all Sc.one=true:=by simp [Sc.one,ro]
 have gt:∀X,Jw [.g (S R),.g ask] (H++X)=some (.c (.u (wV w ⟨k,a,b,c,s,op,d,o,lv⟩))):=λX=>by
  have:=ayP (h:=q1) (t:=q2) (n:=q3) (b':=q4) (k:=k) (hd.app X) DZ PV Gp hm hp
  rw [<-yz,mN,this]
  unfold wV
  rw [zh]
 have pu:∀X y,EA [.g (S R),.c (.i x0),.g ask,.c (.u y)] (H++X)=some (.g (S (fI R (fO a b c s) x0 8)),H.set id (.vec 1 ((kU B a b c s y).flatMap bR))++X):=λX y=>by
  have:=ayR (q1:=q1) (q2:=q2) (q3:=q3) (q4:=q4) (h:=(x0:Int)) (k:=k) (x:=y) (hd.app X) DZ PV Gp hm hp
  rw [<-yz,mN,this,eS,mg _ _ aD]
 have kl:(fI R (fO a b c s) x0 8).length=8:=by rw [CO,hR]
 obtain ⟨y,hy⟩:∃y,R[x0]?=some y:=⟨_,cP ω⟩
 have gy:R.getD x0 z0=y:=by rw [bX,hy];rfl
 obtain ⟨c0,c1⟩:=IZ hR hy
 have d0:(S R).getD (5+x0) .any=.b y.is:=by
  rw [hS,<-c0]
  show (eZ q1 q2 q3 q4 id B.length R).getD (5+x0) .any=_
  unfold eZ
  rw [Nat.add_comm];rfl
 have d1:(S R).getD (13+x0) .any=.u y.ln:=by
  rw [hS,<-c1]
  show (eZ q1 q2 q3 q4 id B.length R).getD (13+x0) .any=_
  unfold eZ
  rw [show 13+x0=(8+x0)+5 by omega];rfl
 have d2:5+x0+1<=21:=ω
 have d3:13+x0+1<=21:=ω
 have sT:∀(T:List Sl) (u:Sl),kL T (x0:Int) u=T.set x0 u:=λT u=>by unfold kL;rw [if_pos (Bz x8),aL]
 have vs:∀u,QK [.g (cH R),.c (.i x0),.c (.u u)]=some (.t [.g (cH (R.set x0 ⟨true,u⟩)),.c (.b true)]):=λu=>by
  rw [azh,if_pos (UB hR),I4 hR,sT,Bz x8]
 have vc:∀T:List Sl,T.length=8->∃q,QI [.g (cH T),.c (.i x0)]=some (.t [.g (cH (T.set x0 z0)),.c (.b q)]):=λT hT=>⟨_,by
  rw [azf,if_pos (UB hT),I4 hT,sT]⟩
 have ls:∀(T:List Sl) u,T.length=8->(T.set x0 u).length=8:=λT u hT=>by rw [iR,hT]
 have fin:=λ(T:List Sl) (dd:BitVec 64) (g:Bool) (C:List Int) (X:AH)=>cY (n:=H.length) (zy T dd g true (H.set id (.vec 1 (C.flatMap bR))) (by rw [iR];exact aD)) (aC _ X) (ajr C) (by rw [iR];exact aB _)
 by_cases k3:k=3
 .subst k3
  have eW:iC w x0 ⟨3,a,b,c,s,op,d,o,lv⟩=some d:=by unfold iC;rw [if_pos aM,if_pos rfl]
  have eD:wD w x0 ⟨3,a,b,c,s,op,d,o,lv⟩=0#64:=by unfold wD;rw [if_pos aM,if_pos rfl]
  have eG:wG w x0 ⟨3,a,b,c,s,op,d,o,lv⟩=false:=by unfold wG;rw [if_pos aM,if_neg (show ¬(3:Int)=6 by decide),if_neg (show ¬(3:Int)=8 by decide)]
  have eB:wB w x0 ⟨3,a,b,c,s,op,d,o,lv⟩=kU B a b c s d:=by unfold wB;rw [eW,zh]
  have eR:wR w x0 ⟨3,a,b,c,s,op,d,o,lv⟩=fI R (fO a b c s) x0 8:=by unfold wR oE;rw [if_pos aM,if_neg (show ¬(3:Int)=5 by decide),if_neg (show ¬(3:Int)=6 by decide),eW,B8]
  rw [eD,eG,eB,eR]
  simp only [go_sem,seval,lS R hR,oS,tS R hR,dT R hR,zL,qU,task,rR,a0,a1,a5,a6,a7,a8,my,tN,h1,h2,zS,zA,gt,pu,gX,OK,sX,Qm,lS _ kl,tS _ kl]
  exact fin _ _ _ _ _
 by_cases k4:k=4
 .subst k4
  have eW:iC w x0 ⟨4,a,b,c,s,op,d,o,lv⟩=some (uW op (wV w ⟨4,a,b,c,s,op,d,o,lv⟩) d):=by unfold iC;rw [if_pos aM,if_neg (show ¬(4:Int)=3 by decide),if_pos rfl]
  have eD:wD w x0 ⟨4,a,b,c,s,op,d,o,lv⟩=wV w ⟨4,a,b,c,s,op,d,o,lv⟩:=by unfold wD;rw [if_pos aM,if_neg (show ¬(4:Int)=3 by decide),if_neg (show ¬(4:Int)=6 by decide)]
  have eG:wG w x0 ⟨4,a,b,c,s,op,d,o,lv⟩=false:=by unfold wG;rw [if_pos aM,if_neg (show ¬(4:Int)=6 by decide),if_neg (show ¬(4:Int)=8 by decide)]
  have eB:wB w x0 ⟨4,a,b,c,s,op,d,o,lv⟩=kU B a b c s (uW op (wV w ⟨4,a,b,c,s,op,d,o,lv⟩) d):=by unfold wB;rw [eW,zh]
  have eR:wR w x0 ⟨4,a,b,c,s,op,d,o,lv⟩=fI R (fO a b c s) x0 8:=by unfold wR oE;rw [if_pos aM,if_neg (show ¬(4:Int)=5 by decide),if_neg (show ¬(4:Int)=6 by decide),eW,B8]
  rw [eD,eG,eB,eR]
  generalize wV w ⟨4,a,b,c,s,op,d,o,lv⟩=V at *
  simp only [go_sem,seval,ay2,lS R hR,oS,tS R hR,dT R hR,zL,qU,task,rR,a0,a1,a5,a6,a7,a8,my,tN,h1,h2,zS,zA,gt,pu,gX,OK,sX,Qm,lS _ kl,tS _ kl]
  exact fin _ _ _ _ _
 by_cases k5:k=5
 .subst k5
  have eW:iC w x0 ⟨5,a,b,c,s,op,d,o,lv⟩=none:=by unfold iC;rw [if_pos aM];rfl
  have eD:wD w x0 ⟨5,a,b,c,s,op,d,o,lv⟩=wV w ⟨5,a,b,c,s,op,d,o,lv⟩:=by unfold wD;rw [if_pos aM,if_neg (show ¬(5:Int)=3 by decide),if_neg (show ¬(5:Int)=6 by decide)]
  have eG:wG w x0 ⟨5,a,b,c,s,op,d,o,lv⟩=false:=by unfold wG;rw [if_pos aM,if_neg (show ¬(5:Int)=6 by decide),if_neg (show ¬(5:Int)=8 by decide)]
  have eB:wB w x0 ⟨5,a,b,c,s,op,d,o,lv⟩=B:=by unfold wB;rw [eW];exact zh
  have eR:wR w x0 ⟨5,a,b,c,s,op,d,o,lv⟩=R.set x0 ⟨true,a / 64#64⟩:=by unfold wR;rw [if_pos aM,if_pos rfl,B8,aL]
  rw [eD,eG,eB,eR,AF]
  generalize wV w ⟨5,a,b,c,s,op,d,o,lv⟩=V at *
  have l8:=ls R ⟨true,a / 64#64⟩ hR
  simp only [go_sem,seval,lS R hR,oS,tS R hR,dT R hR,zL,qU,task,rR,a0,a1,a5,a6,a7,a8,my,tN,h1,h2,zS,zA,gt,vs,lT R hR,lT _ l8,tT _ l8,oT,wS R _ hR l8,lS _ l8,tS _ l8]
  exact cY (zy _ V false true H aD) (aC _ _) hH (aB _)
 by_cases k6:k=6
 .subst k6
  have eD:wD w x0 ⟨6,a,b,c,s,op,d,o,lv⟩=0#64:=by unfold wD;rw [if_pos aM,if_neg (show ¬(6:Int)=3 by decide),if_pos rfl]
  have eG:wG w x0 ⟨6,a,b,c,s,op,d,o,lv⟩=zj w x0 ⟨6,a,b,c,s,op,d,o,lv⟩:=by unfold wG;rw [if_pos aM,if_pos rfl]
  have yu:zj w x0 ⟨6,a,b,c,s,op,d,o,lv⟩=(lv && (y.is && decide (y.ln=a / 64#64))):=by unfold zj;simp only [aL,B8,gy]
  rw [eD,eG]
  cases O6:zj w x0 ⟨6,a,b,c,s,op,d,o,lv⟩
  .have eW:iC w x0 ⟨6,a,b,c,s,op,d,o,lv⟩=none:=by unfold iC;rw [if_pos aM,if_neg (show ¬(6:Int)=3 by decide),if_neg (show ¬(6:Int)=4 by decide),if_pos rfl,O6];rfl
   have eB:wB w x0 ⟨6,a,b,c,s,op,d,o,lv⟩=B:=by unfold wB;rw [eW];exact zh
   have eR:wR w x0 ⟨6,a,b,c,s,op,d,o,lv⟩=R.set x0 z0:=by unfold wR oE;rw [if_pos aM,if_neg (show ¬(6:Int)=5 by decide),if_pos rfl,eW,B8,aL]
   rw [eB,eR,AF]
   rw [O6] at yu
   obtain ⟨qq,vc⟩:=vc R hR
   have l8:=ls R z0 hR
   cases lv
   .simp only [go_sem,seval,lS R hR,oS,tS R hR,dT R hR,zL,qU,task,rR,a0,a1,a5,a6,a7,a8,my,tN,h1,h2,zS,zA,gt,vc,lT R hR,lT _ l8,tT _ l8,oT,wS R _ hR l8,lS _ l8,tS _ l8]
    exact cY (zy _ 0#64 false true H aD) (aC _ _) hH (aB _)
   .rw [gG] at yu
    cases hyi:y.is
    .rw [hyi] at d0
     simp only [go_sem,seval,lS R hR,oS,tS R hR,dT R hR,zL,qU,task,rR,a0,a1,a5,a6,a7,a8,my,tN,h1,h2,zS,zA,gt,vc,lT R hR,lT _ l8,tT _ l8,oT,wS R _ hR l8,lS _ l8,tS _ l8,xI,Rp,d0,d2,d3,aL]
     exact cY (zy _ 0#64 false true H aD) (aC _ _) hH (aB _)
    .rw [hyi] at d0 yu
     rw [gG] at yu
     have yu:=of_decide_eq_false yu.symm
     simp only [go_sem,seval,lS R hR,oS,tS R hR,dT R hR,zL,qU,task,rR,a0,a1,a5,a6,a7,a8,my,tN,h1,h2,zS,zA,gt,vc,lT R hR,lT _ l8,tT _ l8,oT,wS R _ hR l8,lS _ l8,tS _ l8,xI,Rp,d0,d1,d2,d3,yu,aL]
     exact cY (zy _ 0#64 false true H aD) (aC _ _) hH (aB _)
  .have eW:iC w x0 ⟨6,a,b,c,s,op,d,o,lv⟩=some (eH d (8 * s)):=by unfold iC;rw [if_pos aM,if_neg (show ¬(6:Int)=3 by decide),if_neg (show ¬(6:Int)=4 by decide),if_pos rfl,O6];rfl
   have eB:wB w x0 ⟨6,a,b,c,s,op,d,o,lv⟩=kU B a b c s d:=by unfold wB;rw [eW,zh];exact aqs hm
   have eR:wR w x0 ⟨6,a,b,c,s,op,d,o,lv⟩=(fI R (fO a b c s) x0 8).set x0 z0:=by unfold wR oE;rw [if_pos aM,if_neg (show ¬(6:Int)=5 by decide),if_pos rfl,eW,B8,aL]
   rw [eB,eR]
   rw [O6] at yu
   have yu:=yu.symm
   simp only [aQ,decide_eq_true_eq] at yu
   obtain ⟨rfl,e1,e2⟩:=yu
   rw [e1] at d0
   have e2:=eq_true e2
   obtain ⟨qq,vc⟩:=vc _ kl
   have l8:=ls _ z0 kl
   have dZ:(S R).drop 21=[]:=kN (by rw [lS R hR];exact aB _)
   simp only [go_sem,seval,lS R hR,oS,tS R hR,dT R hR,zL,qU,task,rR,a0,a1,a5,a6,a7,a8,my,tN,h1,h2,zS,zA,gt,dZ,m7,pu,gX,OK,sX,Qm,vc,lT _ kl,lT _ l8,tT _ l8,oT,dT _ kl,wS _ _ kl l8,lS _ kl,tS _ kl,lS _ l8,tS _ l8,xI,Rp,d0,d1,d2,d3,e2,aL]
   exact fin _ _ _ _ _
 by_cases k8:k=8
 .subst k8
  have eD:wD w x0 ⟨8,a,b,c,s,op,d,o,lv⟩=wV w ⟨8,a,b,c,s,op,d,o,lv⟩:=by unfold wD;rw [if_pos aM,if_neg (show ¬(8:Int)=3 by decide),if_neg (show ¬(8:Int)=6 by decide)]
  have eG:wG w x0 ⟨8,a,b,c,s,op,d,o,lv⟩=decide (wV w ⟨8,a,b,c,s,op,d,o,lv⟩=o):=by unfold wG;rw [if_pos aM,if_neg (show ¬(8:Int)=6 by decide),if_pos rfl]
  rw [eD,eG]
  by_cases hv:wV w ⟨8,a,b,c,s,op,d,o,lv⟩=o
  .have eW:iC w x0 ⟨8,a,b,c,s,op,d,o,lv⟩=some d:=by unfold iC;rw [if_pos aM,if_neg (show ¬(8:Int)=3 by decide),if_neg (show ¬(8:Int)=4 by decide),if_neg (show ¬(8:Int)=6 by decide),if_pos rfl,if_pos hv]
   have eB:wB w x0 ⟨8,a,b,c,s,op,d,o,lv⟩=kU B a b c s d:=by unfold wB;rw [eW,zh]
   have eR:wR w x0 ⟨8,a,b,c,s,op,d,o,lv⟩=fI R (fO a b c s) x0 8:=by unfold wR oE;rw [if_pos aM,if_neg (show ¬(8:Int)=5 by decide),if_neg (show ¬(8:Int)=6 by decide),eW,B8]
   rw [eB,eR]
   generalize wV w ⟨8,a,b,c,s,op,d,o,lv⟩=V at *
   have mR:=eq_true hv
   simp only [go_sem,seval,lS R hR,oS,tS R hR,dT R hR,zL,qU,task,rR,a0,a1,a5,a6,a7,a8,my,tN,h1,h2,zS,zA,gt,mR,pu,gX,OK,sX,Qm,lS _ kl,tS _ kl]
   exact fin _ _ _ _ _
  .have eW:iC w x0 ⟨8,a,b,c,s,op,d,o,lv⟩=none:=by unfold iC;rw [if_pos aM,if_neg (show ¬(8:Int)=3 by decide),if_neg (show ¬(8:Int)=4 by decide),if_neg (show ¬(8:Int)=6 by decide),if_pos rfl,if_neg hv]
   have eB:wB w x0 ⟨8,a,b,c,s,op,d,o,lv⟩=B:=by unfold wB;rw [eW];exact zh
   have eR:wR w x0 ⟨8,a,b,c,s,op,d,o,lv⟩=R:=by unfold wR oE;rw [if_pos aM,if_neg (show ¬(8:Int)=5 by decide),if_neg (show ¬(8:Int)=6 by decide),eW];exact B8
   rw [eB,eR,AF]
   generalize wV w ⟨8,a,b,c,s,op,d,o,lv⟩=V at *
   have mR:=eq_false hv
   simp only [go_sem,seval,lS R hR,oS,tS R hR,dT R hR,zL,qU,task,rR,a0,a1,a5,a6,a7,a8,my,tN,h1,h2,zS,zA,gt,mR]
   exact cY (zy _ V false true H aD) (aC _ _) hH (aB _)
 have eW:iC w x0 ⟨k,a,b,c,s,op,d,o,lv⟩=none:=by unfold iC;rw [if_pos aM,if_neg k3,if_neg k4,if_neg k6,if_neg k8]
 have eD:wD w x0 ⟨k,a,b,c,s,op,d,o,lv⟩=wV w ⟨k,a,b,c,s,op,d,o,lv⟩:=by unfold wD;rw [if_pos aM,if_neg k3,if_neg k6]
 have eG:wG w x0 ⟨k,a,b,c,s,op,d,o,lv⟩=false:=by unfold wG;rw [if_pos aM,if_neg k6,if_neg k8]
 have eB:wB w x0 ⟨k,a,b,c,s,op,d,o,lv⟩=B:=by unfold wB;rw [eW];exact zh
 have eR:wR w x0 ⟨k,a,b,c,s,op,d,o,lv⟩=R:=by unfold wR oE;rw [if_pos aM,if_neg k5,if_neg k6,eW];exact B8
 rw [eD,eG,eB,eR,AF]
 generalize wV w ⟨k,a,b,c,s,op,d,o,lv⟩=V at *
 simp only [go_sem,seval,lS R hR,oS,tS R hR,dT R hR,zL,qU,task,rR,a0,a1,a5,a6,a7,a8,my,tN,h1,h2,zS,zA,gt,k3,k4,k5,k6,k8]
 exact cY (zy _ V false true H aD) (aC _ _) hH (aB _)
end
theorem PF{A M C:List Sc}{i n:Nat}(h:i+n<=M.length):((A++(M++C)).drop (A.length+i)).take n=(M.drop i).take n:=by rw[zt,Nz ω,jW,th,J3 ω,Dr (by rw[uS];omega)]
theorem acJ{A M C:List Sc}{i:Nat}(h:i<M.length):(A++(M++C)).getD (A.length+i) .any=M.getD i .any:=by rw[bX,s9 ω,th,uh h,<-bX]
theorem acK{A M C q:List Sc}{i n:Nat}(h:i+n<=M.length):(A++(M++C)).take (A.length+i)++(q++(A++(M++C)).drop (A.length+i+n))=A++((M.take i++q++M.drop (i+n))++C):=by
 have e1:(A++(M++C)).take (A.length+i)=A++M.take i:=by rw[List.take_append,bQ ω,th,Dr ω]
 have e2:(A++(M++C)).drop (A.length+i+n)=M.drop (i+n)++C:=by rw[m9,zt,Nz ω,jW,th,J3 ω]
 rw[e1,e2];simp only[fv]
def Gk(o:ae)(off:Nat):Option (Int×List Row):=match o with|.own cs=>Af (.own ((cs.drop off).take 321))|_=>none
variable {B:List Row}{C:List Sc}
theorem Vg{A:List Sc}(h:B.length=8):Gk (.own (A++(aH n B++C))) A.length=some (n,B):=by
 unfold Gk;have:=PF (A:=A) (M:=aH n B) (C:=C) (i:=0) (n:=321) (by rw[kK n h];exact aB _);rw[ru]at this;simp only[this,ya];rw[bQ (by rw[kK n h];exact aB _)];exact Ag h
theorem Vf{o:ae}{off:Nat}(h:Gk o off=some (n,B)):∃A C,o=.own (A++(aH n B++C))/\off=A.length/\B.length=8:=by
 unfold Gk at h;split at h
 .rename_i cs;obtain⟨e,hB⟩:=Vd h;simp only[ae.own.injEq]at e;have l:=kK n hB;rw[<-e,tg,uS]at l;refine⟨cs.take off,cs.drop (off+321),?_,by rw[tg];omega,hB⟩;rw[<-e,<-uR,Ho,Ho]
 .simp at h
section
def Jr(args:List AV)(H:AH):Option AV:=match args with
 |[.c (.p id off 0),.c (.i h)]=>match Gk (hg H id) off with
   |some (n,_)=>some (.c (.b (gv n h)))|none=>none
 |_=>none
theorem ayB{id:Nat}{h n:Int}{B:List Row}{A C:List Sc}{H:AH}(e:hg H id=.own (A++(aH n B++C)))(hB:B.length=8):Jr [.c (.p id A.length 0),.c (.i h)] H=some (.c (.b (gv n h))):=by simp only[Jr,e,Vg hB]
theorem atx:bh Tryz.prog 73 (λargs H=>(Jr args H).map λv=>(v,H)):=by
 refine jo (s:=Jr) tn Tryz.func73 rfl Tryz.results73 Tryz.ntmps73 ?_;intro args H v h b9 hH;unfold Jr at h;split at h
 .rename_i id off h';split at h
  .rename_i n B hm;simp only[ar]at h;subst h;obtain⟨A,C,e,rfl,hB⟩:=Vf hm;refine⟨by simp,rfl,?_⟩;have l:=kK n hB;have b0:A.length+1<=(A++(aH n B++C)).length:=by simp only[cj,l];omega
   have g0:(A++(aH n B++C)).getD A.length .any=.i n:=by
    have:=acJ (A:=A) (M:=aH n B) (C:=C) (i:=0) (by rw[l];decide);rw[ru]at this;rw[this];rfl
   generalize A++(aH n B++C)=cs at*;by_cases h1:0<=h';all_goals simp only[go_sem,seval,e,b0,g0,gv,h1]
   all_goals exact aE _
  .simp at h
 .simp at h
def GP(args:List AV)(H:AH):Option AV:=match args with
 |[.c (.p id off 0),.c (.i cd),.g [.i k,.u _,.u _,.i _,.i _,.i _,.u _,.u _,.b _,.i h,.b rs,.b _,.b _,.u _,.i i,.i _,.u _,.i _,.u _]]=>match Gk (hg H id) off with
   |some (n,_)=>some (.c (.b (fk n cd k h rs i)))|none=>none
 |_=>none
theorem aft{id:Nat}{n cd k h i c z o e1 e3:Int}{ad nx da ol va e2 e4:BitVec 64}{li rs rv ra:Bool}{B:List Row}{A C:List Sc}{H:AH}(e:hg H id=.own (A++(aH n B++C)))(hB:B.length=8):GP [.c (.p id A.length 0),.c (.i cd),.g [.i k,.u ad,.u nx,.i c,.i z,.i o,.u da,.u ol,.b li,.i h,.b rs,.b rv,.b ra,.u va,.i i,.i e1,.u e2,.i e3,.u e4]] H=some (.c (.b (fk n cd k h rs i))):=by simp only[GP,e,Vg hB]
theorem adq:bh Tryz.prog 32 (λargs H=>(GP args H).map λv=>(v,H)):=by
 refine jo (s:=GP) (tq atx tn) Tryz.func32 rfl Tryz.results32 Tryz.ntmps32 ?_;intro args H v h b9 hH;unfold GP at h;split at h
 .rename_i id off cd k ad nx c z o da ol li h' rs rv ra va i e1 e2 e3 e4;split at h
  .rename_i n B hm;simp only[ar]at h;subst h;obtain⟨A,C,e,rfl,hB⟩:=Vf hm;have aD:id<H.length:=eu (by rw[e];rfl);have q:∀X x,Jr [.c (.p id A.length 0),.c (.i x)] (H++X)=some (.c (.b (gv n x))):=λX x=>ayB (by rw[cB aD];exact e) hB;refine⟨by simp,rfl,?_⟩;cases h0:gv n cd
   .simp only[go_sem,seval,q,h0,fk];exact aC _ _
   by_cases k1:k=12
   .simp only[go_sem,seval,q,h0,fk,k1];exact aC _ _
   by_cases k2:k=13
   .cases rs
    .simp only[go_sem,seval,q,h0,fk,k1,k2];exact aC _ _
    by_cases i1:i<0
    .simp only[go_sem,seval,q,h0,fk,k1,k2,i1];exact aC _ _
    by_cases i2:65535<i
    .simp only[go_sem,seval,q,h0,fk,k1,k2,i1,i2];exact aC _ _
    cases h1:gv n h';all_goals simp only[go_sem,seval,q,h0,fk,k1,k2,i1,i2,h1]
    all_goals exact aC _ _
   by_cases k3:k=14
   .cases h1:gv n h';all_goals simp only[go_sem,seval,q,h0,fk,k1,k2,k3,h1]
    all_goals exact aC _ _
   .simp only[go_sem,seval,q,h0,fk,k1,k2,k3];exact aC _ _
  .simp at h
 .simp at h
def Ex(args:List AV)(H:AH):Option (AV×AH):=match args with
 |[.c (.p id off 0),.c (.i cd),.g [.i k,.u _,.u _,.i _,.i _,.i _,.u _,.u _,.b _,.i h,.b rs,.b rv,.b ra,.u va,.i i,.i _,.u _,.i _,.u _]]=>match Gk (hg H id) off with
   |some (n,B)=>if n<=8 then some (.t [.g (nj n B cd k h ⟨rs,rv,ra,va,i⟩),.c (.b (fk n cd k h rs i))],H.set id (.own ((hg H id).cells.take off++(aH n (nn n B cd k h ⟨rs,rv,ra,va,i⟩)++(hg H id).cells.drop (off+321)))))else none|none=>none
 |_=>none
theorem acL{A:List Sc}(hB:B.length=8):(A++(aH n B++C)).take A.length=A/\(A++(aH n B++C)).drop (A.length+321)=C:=by
 refine⟨nQ rfl,?_⟩;rw[<-fv];exact vE (by rw[cj,kK n hB])
theorem ayz{id:Nat}{n cd k h i c z o e1 e3:Int}{ad nx da ol va e2 e4:BitVec 64}{li rs rv ra:Bool}{B:List Row}{A C:List Sc}{H:AH}(e:hg H id=.own (A++(aH n B++C)))(hB:B.length=8)(hn:n<=8):Ex [.c (.p id A.length 0),.c (.i cd),.g [.i k,.u ad,.u nx,.i c,.i z,.i o,.u da,.u ol,.b li,.i h,.b rs,.b rv,.b ra,.u va,.i i,.i e1,.u e2,.i e3,.u e4]] H=some (.t [.g (nj n B cd k h ⟨rs,rv,ra,va,i⟩),.c (.b (fk n cd k h rs i))],H.set id (.own (A++(aH n (nn n B cd k h ⟨rs,rv,ra,va,i⟩)++C)))):=by
 obtain⟨q1,q2⟩:=acL (n:=n) (A:=A) (C:=C) hB;simp only[Ex,e,Vg hB,hn,if_true,ae.cells,q1,q2]
theorem apR(args:List AV)(H:AH)(v:AV)(H1:AH)(h:Ex args H=some (v,H1)):H.length<=H1.length:=by
 unfold Ex at h;repeat' split at h
 all_goals simp at h
 rw[<-h.2];simp
theorem atv:bh Tryz.prog 40 Ex:=by
 refine gJ (s:=Ex) (tq adq (tu aty tn)) Tryz.func40 rfl Tryz.results40 Tryz.ntmps40 apR ?_;intro args H v H1 h b9 hH;unfold Ex at h;split at h
 .rename_i id off cd k ad nx c z o da ol li h' rs rv ra va i e1 e2 e3 e4;split at h
  .rename_i n B hm;split at h
   .rename_i hn;simp only[ar,bE]at h;obtain⟨rfl,rfl⟩:=h;obtain⟨A,C,e,rfl,hB⟩:=Vf hm;obtain⟨q1,q2⟩:=acL (n:=n) (A:=A) (C:=C) hB;rw[e];simp only[ae.cells,q1,q2];clear q1 q2;have aD:id<H.length:=eu (by rw[e];rfl);have q:∀X,GP [.c (.p id A.length 0),.c (.i cd),.g [.i k,.u ad,.u nx,.i c,.i z,.i o,.u da,.u ol,.b li,.i h',.b rs,.b rv,.b ra,.u va,.i i,.i e1,.u e2,.i e3,.u e4]] (H++X)=some (.c (.b (fk n cd k h' rs i))):=λX=>aft (by rw[cB aD];exact e) hB;have gx:∀X,hg (H++X) id=.own (A++(aH n B++C)):=λX=>by rw[cB aD];exact e
    have sx:∀X o,(H++X).set id o=H.set id o++X:=λX o=>mg _ _ aD;have bx:∀B',dF (H.set id (.own (A++(aH n B'++C))))=true:=λB'=>by
     have ba:=Cq hH id;rw[e]at ba;simp only[ae.cW,ae.cells,fJ,aQ]at ba;refine Su hH ?_;show(A++(aH n B'++C)).all (Sc.aj H.length)=true;rw[fJ,fJ,ba.1,ba.2.2,Gj];rfl
    have l0:=kK n hB;have lx:(A++(aH n B++C)).length=A.length+321+C.length:=by simp only[cj,l0];omega
    refine⟨by simp,?_⟩;have fin:∀(v:AV)(B':List Row)(X:AH),v.aj H.length=true->Wk H.length [(0,v)] (H.set id (.own (A++(aH n B'++C)))++X) ([(0,v)],H.set id (.own (A++(aH n B'++C)))):=λv B' X hv=>Wk.wk (by simp) (by simp[Am.get]) (by simp only[bK,dY,c8,iR];exact hv) (aC _ _) (bx B');have vb:(AV.t [.g (nj n B cd k h' ⟨rs,rv,ra,va,i⟩),.c (.b (fk n cd k h' rs i))]).aj H.length=true:=by simp only[AV.aj,bK,dY,c8,amc,Sc.aj]
    cases lJ:fk n cd k h' rs i
    .have r1:nj n B cd k h' ⟨rs,rv,ra,va,i⟩=fL 0#64 false jA:=by unfold nj;rw[if_neg (by simp[lJ])]
     have r2:nn n B cd k h' ⟨rs,rv,ra,va,i⟩=B:=by unfold nn;rw[if_neg (by simp[lJ])]
     rw[lJ]at vb;have hs:H.set id (.own (A++(aH n B++C)))=H:=uK e aD;rw[r1]at vb|-;rw[r2];simp only[go_sem,seval,q,lJ];refine⟨_,rfl,?_⟩;have:=fin _ B [.own [.i k,.u ad,.u nx,.i c,.i z,.i o,.u da,.u ol,.b li,.i h',.b rs,.b rv,.b ra,.u va,.i i,.i e1,.u e2,.i e3,.u e4],.own (fL 0#64 false jA)] vb;rw[hs]at this|-;exact this
    .obtain⟨m1,m2⟩:=Vb lJ;simp only[gv,aQ,decide_eq_true_eq]at m1;obtain⟨f,rfl⟩:=kZ m1.1;have hf:f<8:=ω
     have sn:∀X,hg (H.set id (.own (A++(aH n B++C)))++X) id=.own (A++(aH n B++C)):=λX=>by rw[uK e aD];exact gx X
     rw[lJ]at vb;have nf:(0:Int)<=(f:Int):=ω
     have CT:(f:Int)<8:=ω
     have Vk:A.length+1+f*40+40<=A.length+321+C.length:=ω
     rcases m2 with F8|⟨F9|Lz,m3⟩
     .obtain⟨r,hr⟩:∃r,B[f]?=some r:=⟨_,cP ω⟩;have r1:nj n B f k h' ⟨rs,rv,ra,va,i⟩=fL 0#64 false r:=by unfold nj rowAt;rw[if_pos (by simp only[lJ]),if_neg ω,if_pos F8,aL,hr];rfl
      have r2:nn n B f k h' ⟨rs,rv,ra,va,i⟩=B.set f jA:=by unfold nn;rw[if_pos (by simp only[lJ]),if_neg ω,if_pos F8,aL]
      rw[r1]at vb|-;rw[r2];have g1:=awM (n:=n) hB hf hr;rw[<-PF (A:=A) (C:=C) (by rw[l0];omega)]at g1;have g2:(A++(aH n B++C)).take (A.length+(1+f*40))++(jU jA++(A++(aH n B++C)).drop (A.length+(1+f*40)+40))=A++(aH n (B.set f jA)++C):=by rw[acK (by rw[l0];omega),awN (n:=n) hB hf jA]
      simp only[<-m9]at g1 g2;rw[Qa]at g2;simp only[fv,lf,jW]at g2;have g3:=uI r;have g4:=Qb r;have g5:(jU r).take 40=jU r:=bQ ω;subst F8;simp only[go_sem,seval,q,lJ,gx,sx,lx,nf,CT,Vk,g1,g2,g3,g4,g5,hgS,stS];refine⟨_,rfl,?_⟩;exact fin _ (B.set f jA) _ vb
     .simp only[gv,aQ,decide_eq_true_eq]at m3;obtain⟨g,rfl⟩:=kZ m3.1;have zX:g<8:=ω
      have r1:nj n B f k g ⟨rs,rv,ra,va,i⟩=fL 0#64 false jA:=by unfold nj;rw[if_pos (by simp only[lJ]),if_pos F9]
      have r2:nn n B f k g ⟨rs,rv,ra,va,i⟩=wN B g f (lY (fH B g f) ⟨rs,rv,ra,va,i⟩):=by unfold nn;rw[if_pos (by simp only[lJ]),if_pos F9,aL,aL]
      rw[r1]at vb|-;rw[r2];have g1:=G0 (n:=n) hB zX hf;rw[<-PF (A:=A) (C:=C) (by rw[l0];omega)]at g1;have g2:(A++(aH n B++C)).take (A.length+(1+g*40+f*5))++(fV (lY (fH B g f) ⟨rs,rv,ra,va,i⟩)++(A++(aH n B++C)).drop (A.length+(1+g*40+f*5)+5))=A++(aH n (wN B g f (lY (fH B g f) ⟨rs,rv,ra,va,i⟩))++C):=by rw[acK (by rw[l0];omega),Ys (n:=n) hB zX hf (lY (fH B g f) ⟨rs,rv,ra,va,i⟩)]
      simp only[<-m9]at g1 g2;have ng:(0:Int)<=(g:Int):=ω
      have Gm:(g:Int)<8:=ω
      have CU:A.length+1+g*40+f*5+5<=A.length+321+C.length:=ω
      generalize Im:fH B g f=sl at g1 g2;obtain⟨os,ov,od,oa,oi⟩:=sl;have es:fV ⟨os,ov,od,oa,oi⟩=[.b os,.b ov,.b od,.u oa,.i oi]:=rfl;rw[es]at g1;have g6:∀m,(fV m).all Sc.one=true:=λm=>rfl;subst F9;simp only[go_sem,seval,q,lJ,gx,sx,lx,nf,CT,Vk,ng,Gm,CU,g1,g2,g6,vT,hgS,stS,ayC];refine⟨?_,?_⟩
      .repeat' apply cf
       all_goals first|decide|(exact λ_=>δ)|(intro hx;exfalso;omega)|exact λhx=>hx.2.elim
      refine⟨_,rfl,?_⟩;exact fin _ _ _ vb
     .simp only[gv,aQ,decide_eq_true_eq]at m3;obtain⟨g,rfl⟩:=kZ m3.1;have zX:g<8:=ω
      have r1:nj n B f k g ⟨rs,rv,ra,va,i⟩=fL 0#64 (vV (fH B g f) pO) jA:=by unfold nj;rw[if_pos (by simp only[lJ]),if_neg ω,if_neg ω,aL,aL]
      have r2:nn n B f k g ⟨rs,rv,ra,va,i⟩=B:=by unfold nn;rw[if_pos (by simp only[lJ]),if_neg ω,if_neg ω]
      have hs:H.set id (.own (A++(aH n B++C)))=H:=uK e aD;rw[r1]at vb|-;rw[r2,hs];have g1:=G0 (n:=n) hB zX hf;rw[<-PF (A:=A) (C:=C) (by rw[l0];omega)]at g1;simp only[<-m9]at g1;have ng:(0:Int)<=(g:Int):=ω
      have Gm:(g:Int)<8:=ω
      have CU:A.length+1+g*40+f*5+5<=A.length+321+C.length:=ω
      generalize Im:fH B g f=sl at g1 vb|-;obtain⟨os,ov,od,oa,oi⟩:=sl;have es:fV ⟨os,ov,od,oa,oi⟩=[.b os,.b ov,.b od,.u oa,.i oi]:=rfl;rw[es]at g1;subst Lz;simp only[go_sem,seval,q,lJ,gx,sx,lx,nf,CT,Vk,ng,Gm,CU,g1];refine⟨?_,?_⟩
      .repeat' apply cf
       all_goals first|decide|(exact λ_=>δ)|(intro hx;exfalso;omega)|exact λhx=>hx.2.elim
      have:=fin _ B [.own [.i 14,.u ad,.u nx,.i c,.i z,.i o,.u da,.u ol,.b li,.i g,.b rs,.b rv,.b ra,.u va,.i i,.i e1,.u e2,.i e3,.u e4],.own (fL 0#64 (vV ⟨os,ov,od,oa,oi⟩ pO) jA),.own (fL 0#64 (vV ⟨os,ov,od,oa,oi⟩ pO) jA)] vb;rw[hs]at this;exact⟨_,rfl,this⟩
   .simp at h
  .simp at h
 .simp at h
end
structure Wa where
 k:Int
 a:BitVec 64
 b:BitVec 64
 c:Int
 s:Int
 op:Int
 d:BitVec 64
 o:BitVec 64
 lv:Bool
 h:Int
 rs:Bool
 rv:Bool
 rd:Bool
 va:BitVec 64
 i:Int
 e1:Int
 e2:BitVec 64
 e3:Int
 e4:BitVec 64
def Wa.r(q:Wa):List Sc:=[.i q.h,.b q.rs,.b q.rv,.b q.rd,.u q.va,.i q.i,.i q.e1,.u q.e2,.i q.e3,.u q.e4]
def Wa.K(q:Wa):Ak:=⟨q.k,q.a,q.b,q.c,q.s,q.op,q.d,q.o,q.lv⟩
def Wa.Q(q:Wa):Aq:=⟨q.k,q.a,q.b,q.c,q.s,q.op,q.d,q.o,q.lv,q.r⟩
def Wa.R(q:Wa):Rq:=⟨q.rs,q.rv,q.rd,q.va,q.i⟩
def cG(q:Wa):List Sc:=.i q.k::.u q.a::.u q.b::.i q.c::.i q.s::.i q.op::.u q.d::.u q.o::.b q.lv::q.r
variable {q:Wa}
theorem Ri:cG q=bV q.Q:=rfl
theorem Wa.ok(q:Wa):nT q.r:=⟨rfl,rfl,rfl⟩
theorem Nq{p:Wa}(h:cG p=cG q):p=q:=by
 simp only[cG,Wa.r,cL,Sc.i.injEq,Sc.u.injEq,Sc.b.injEq,and_true]at h;obtain⟨h1,h2,h3,h4,h5,h6,h7,h8,h9,g1,g2,g3,g4,g5,g6,g7,g8,g9,HX⟩:=h;cases p;cases q;simp only at*;subst h1 h2 h3 h4 h5 h6 h7 h8 h9 g1 g2 g3 g4 g5 g6 g7 g8 g9 HX;rfl
structure Wd where
 w:Fw
 D:Bd
 n:Int
 M:List Row
structure WI(H:AH)(x:Wd):Prop where
 w:ko H x.w
 d:BI H x.D
 mK:x.w.mK=.p x.D.id 0 0
 m:x.w.m=aH x.n x.M
 l:x.M.length=8
 n8:x.n<=8
 hb:x.D.b.n=x.w.h
 p:x.w.p≠x.D.id/\x.w.p≠x.D.pid/\aJ x.D.x≠some x.w.p/\aJ x.D.y≠some x.w.p
 i:x.w.id≠x.D.id/\x.w.id≠x.D.pid/\aJ x.D.x≠some x.w.id/\aJ x.D.y≠some x.w.id
variable {x:Wd}
section
variable {H:AH}
theorem WI.app(h:WI H x)(X:AH):WI (H++X) x:=⟨h.w.app X,h.d.app X,h.mK,h.m,h.l,h.n8,h.hb,h.p,h.i⟩
def FE(x:Wd):List Sc:=.i x.w.h::.i x.w.t::.i x.w.n::.i x.w.b::.sl x.w.id 0 x.w.B.length x.w.B.length::(iA x.w.R++[.p x.D.id 0 0])
theorem abC(h:WI H x):fg x.w x.w.R=FE x++(aH x.n x.M++[]):=by
 unfold fg pP FE;rw[h.mK,h.m];simp
theorem abB(h:WI H x):(FE x).length=22:=by
 unfold FE;simp only[cj,cT,fa,AK h.w.l]
theorem FF(h:WI H x):(fg x.w x.w.R).getD 21 .any=.p x.D.id 0 0:=by
 unfold fg pP;rw[h.mK,bX];show((iA x.w.R++Sc.p x.D.id 0 0::x.w.m)[16]?).getD .any=_;rw[s9 (by rw[AK h.w.l];exact aB _),AK h.w.l];rfl
theorem WI.uniq{y:Wd}(h:WI H x)(g:WI H y)(hp:x.w.p=y.w.p):x=y:=by
 have hw:=h.w.uniq g.w hp;have hb:=h.mK;rw[hw,g.mK]at hb;simp only[Sc.p.injEq,and_true]at hb;have hD:=h.d.uniq g.d hb.symm;have hm:=h.m;rw[hw,g.m]at hm;have e1:=Ag (n:=x.n) h.l;rw[<-hm,Ag g.l]at e1;simp only[ar,bE]at e1;cases x;cases y;simp only at*;obtain⟨e1,e2⟩:=e1;subst hw hD e1 e2;rfl
def dx(x:Wd)(h:Int)(q:Wa):Bool:=if q.k<1 then false else if q.k<=8 then iL x.w h q.K else if q.k=12\/q.k=13\/q.k=14 then fk x.n h q.k q.h q.rs q.i else if q.k=15\/q.k=16\/q.k=17 then true else kF x.D.b.n q.Q&&(!decide (q.k=11)||(decide (0<=h)&&decide (h<x.w.h)))
def aem(args:List AV)(H:AH)(v:AV):Prop:=∀x h q,args=[.c (.p x.w.p 0 0),.c (.i h),.g (cG q)]->WI H x->v=.c (.b (dx x h q))
def Jk:List AV->AH->Option AV:=lk Tryz.prog [(27,.pu Mv),(28,.fq Et),(29,.pu ME),(30,.fq Jm),(31,.fq C7),(32,.fq GP)] 9 aem
theorem as6:bh Tryz.prog 9 (λargs H=>(Jk args H).map λv=>(v,H)):=oL (tu VE (tq VF (tu atf (tq VG (tq adf (tq adq tn)))))) Tryz.func9 rfl Tryz.results9 Tryz.ntmps9
theorem afn(hI:WI H x):Jk [.c (.p x.w.p 0 0),.c (.i h),.g (cG q)] H=some (.c (.b (dx x h q))):=by
 have:∃v,Jk [.c (.p x.w.p 0 0),.c (.i h),.g (cG q)] H=some v/\aem [.c (.p x.w.p 0 0),.c (.i h),.g (cG q)] H v:=by
  unfold Jk;apply mM (v:=.c (.b (dx x h q))) Tryz.func9 rfl Tryz.results9 Tryz.ntmps9 (by simp)
  .exact λ_ _=>rfl
  .intro _ _;obtain⟨lr,pr,ro⟩:=q.ok;have ht:=λX=>W8 (hI.w.app X) (h:=h);have wc:cG q=.i q.k::.u q.a::.u q.b::.i q.c::.i q.s::.i q.op::.u q.d::.u q.o::.b q.lv::q.r:=rfl;have rt:q.r.take 10=q.r:=rfl;have ge:=Je (k:=q.k);by_cases k1:q.k<1
   .have g0:fi q.k=0:=by unfold fi;rw[if_pos k1]
    have e:dx x h q=false:=by unfold dx;rw[if_pos k1]
    rw[g0]at ge;rw[e];simp only[go_sem,seval,wc,lr,ro,rt,ge];exact aC _ _
   by_cases k8:q.k<=8
   .have g1:fi q.k=1:=by unfold fi;rw[if_neg k1,if_pos k8]
    rw[g1]at ge;have e:dx x h q=iL x.w h q.K:=by unfold dx;rw[if_neg k1,if_pos k8]
    rw[e];have sh:ME [.g (cG q)]=some (.c (.b (np q.k q.a q.c q.s q.op))):=by rw[wc,ayt,if_pos ⟨lr,pr,ro⟩]
    rw[wc]at sh;obtain⟨y,hy⟩:∃y:Bool,y=(decide (0<=h)&&decide (h<x.w.h)):=⟨_,rfl⟩;rw[<-hy]at ht;cases y with
 |false=>
 have e:iL x.w h q.K=false:=by unfold iL;rw[<-hy];simp
 rw[e];simp only[go_sem,seval,wc,lr,ro,rt,ge,ht];exact aC _ _|true=>cases hf:np q.k q.a q.c q.s q.op with
 |false=>
        have e:iL x.w h q.K=false:=by unfold iL;show(np q.k q.a q.c q.s q.op&&_)=false;rw[hf];rfl
        rw[e];rw[hf]at sh;simp only[go_sem,seval,wc,lr,ro,rt,ge,ht,sh];exact aC _ _|true=>
        have e:iL x.w h q.K=jQ x.w.B.length q.a q.b q.c q.s:=by
         unfold iL;show(np q.k q.a q.c q.s q.op&&(jQ x.w.B.length q.a q.b q.c q.s&&(decide (0<=h)&&decide (h<x.w.h))))=_;rw[hf,<-hy];simp
        rw[e];rw[hf]at sh;have hm:=D6 (b:=q.b) hf;simp only[dK,decide_eq_true_eq]at hm;have DZ:(Sc.i q.op::.u q.d::.u q.o::.b q.lv::q.r).length=14:=rfl;have Gp:(Sc.i q.op::.u q.d::.u q.o::.b q.lv::q.r).all Sc.one=true:=rfl;have pt:=λX=>Xd (k:=q.k) (a:=q.a) (b:=q.b) (c:=q.c) (s:=q.s) (r:=.i q.op::.u q.d::.u q.o::.b q.lv::q.r) (hI.w.app X).R hI.w.b0 hI.w.b1 hm.2.2.1 hm.2.2.2 hm.2.1 DZ Gp;obtain⟨x',y',KI,x1,y1⟩:=awl (B:=x.w.B) (id:=x.w.id) (a:=q.a) (b:=q.b) (c:=q.c) (s:=q.s);simp only[KI]at pt;simp only[AV.cells]at x1 y1;simp only[go_sem,seval,wc,lr,ro,rt,ge,ht,sh,pt,x1,y1];exact aC _ _
   by_cases k3:q.k=12\/q.k=13\/q.k=14
   .have g1:fi q.k=3:=by unfold fi;rw[if_neg k1,if_neg k8,if_neg ω,if_pos ω]
    rw[g1]at ge;have e:dx x h q=fk x.n h q.k q.h q.rs q.i:=by unfold dx;rw[if_neg k1,if_neg k8,if_pos k3]
    rw[e];have mm:=λX=>aft (cd:=h) (k:=q.k) (h:=q.h) (i:=q.i) (c:=q.c) (z:=q.s) (o:=q.op) (e1:=q.e1) (e3:=q.e3) (ad:=q.a) (nx:=q.b) (da:=q.d) (ol:=q.o) (va:=q.va) (e2:=q.e2) (e4:=q.e4) (li:=q.lv) (rs:=q.rs) (rv:=q.rv) (ra:=q.rd) (((hI.app X).w.o).trans (by rw[abC hI])) hI.l;rw[abB hI]at mm;have YS:cG q=[.i q.k,.u q.a,.u q.b,.i q.c,.i q.s,.i q.op,.u q.d,.u q.o,.b q.lv,.i q.h,.b q.rs,.b q.rv,.b q.rd,.u q.va,.i q.i,.i q.e1,.u q.e2,.i q.e3,.u q.e4]:=rfl;simp only[go_sem,seval,YS,lr,ro,rt,ge,mm];exact aC _ _
   by_cases k4:q.k=15\/q.k=16\/q.k=17
   .have g1:fi q.k=4:=by unfold fi;rw[if_neg k1,if_neg k8,if_neg ω,if_neg ω,if_pos ω]
    rw[g1]at ge;have e:dx x h q=true:=by unfold dx;rw[if_neg k1,if_neg k8,if_neg k3,if_pos k4]
    rw[e];simp only[go_sem,seval,wc,lr,ro,rt,ge];exact aC _ _
   have e:dx x h q=(kF x.D.b.n q.Q&&(!decide (q.k=11)||(decide (0<=h)&&decide (h<x.w.h)))):=by unfold dx;rw[if_neg k1,if_neg k8,if_neg k3,if_neg k4]
   rw[e];have bm:=λX=>afk (hI.app X).d (q:=q.Q) q.ok;simp only[<-Ri]at bm;rw[wc]at bm;have gw:=λX=>(hI.w.app X).o;have lw:=zK (R:=x.w.R) hI.w.l hI.w.lm;have Tz:=FF hI;by_cases k20:20<q.k
   .have g0:fi q.k=0:=by unfold fi;rw[if_neg k1,if_neg k8,if_neg ω,if_neg ω,if_neg ω,if_neg ω]
    have e0:kF x.D.b.n q.Q=false:=by
     unfold kF;rw[if_neg (show¬(q.Q.k=9\/q.Q.k=10)from(show¬(q.k=9\/q.k=10)by omega))];exact decide_eq_false (show¬(q.k=11\/q.k=18\/q.k=19\/q.k=20)by omega)
    rw[g0]at ge;rw[e0,ph];simp only[go_sem,seval,wc,lr,ro,rt,ge];exact aC _ _
   have gg:fi q.k=2\/fi q.k=5:=by
    unfold fi;rw[if_neg k1,if_neg k8];by_cases c:q.k<=11
    .exact .inl (if_pos c)
    .rw[if_neg c,if_neg ω,if_neg ω,if_pos ω];exact .inr rfl
   obtain⟨bb,hbb⟩:∃bb,bb=kF x.D.b.n q.Q:=⟨_,rfl⟩;rw[<-hbb]at bm|-;obtain⟨y,hy⟩:∃y:Bool,y=(decide (0<=h)&&decide (h<x.w.h)):=⟨_,rfl⟩;rw[<-hy]at ht|-;rcases Classical.propComplete (q.k=11)with F7|F7;all_goals rcases gg with gg|gg
   all_goals rw[gg]at ge
   all_goals cases bb
   all_goals simp only[go_sem,seval,wc,lr,ro,rt,ge,gw,lw,Tz,bm,ht,F7]
   all_goals exact aC _ _
  .intro y h' q' he mE;simp only[cL,AV.c.injEq,AV.g.injEq,Sc.p.injEq,Sc.i.injEq,and_true]at he;obtain⟨e1,e2,e3⟩:=he;have hx:=hI.uniq mE e1;have hq:=Nq e3;subst hx hq e2;rfl
 obtain⟨v,h1,h2⟩:=this;rw[h1,h2 x h q rfl hI]
end
theorem ZO {D:Bd} {h:Int} {q:Aq}:(dE D h q).n=D.b.n:=by
 unfold dE nU kE px pW
 repeat' split
 all_goals rfl
def n9 (k:Int):Prop:=k=12\/k=13\/k=14
def DY (k:Int):Prop:=k=15\/k=16\/k=17
instance (k:Int):Decidable (n9 k):=by unfold n9;infer_instance
instance (k:Int):Decidable (DY k):=by unfold DY;infer_instance
def jD (x:Wd) (h:Int) (q:Wa):List Sc :=
 if dx x h q=true then
  (if q.k<=8 then bU (wD x.w h q.K) (wG x.w h q.K) else if n9 q.k then nj x.n x.M h q.k q.h q.R else if DY q.k then bU 0#64 false else bU (fD x.D h q.Q) false)
 else bU 0#64 false
def j5 (x:Wd) (h:Int) (q:Wa):List Int:=if q.k<=8 then wB x.w h q.K else x.w.B
def kH (x:Wd) (h:Int) (q:Wa):List Sl:=if q.k<=8 then wR x.w h q.K else x.w.R
def rG (x:Wd) (h:Int) (q:Wa):List Row:=if n9 q.k then nn x.n x.M h q.k q.h q.R else x.M
def flb (x:Wd) (h:Int) (q:Wa):Bs:=if 8 < q.k/\¬n9 q.k/\¬DY q.k then dE x.D h q.Q else x.D.b
def jJ (x:Wd) (h:Int) (q:Wa):Pt:=if 8 < q.k/\¬n9 q.k/\¬DY q.k then dP x.D h q.Q else x.D.t
def oJ (x:Wd) (h:Int) (q:Wa) (u v:Sc):Wd:=⟨{x.w with B:=j5 x h q,R:=kH x h q,m:=aH x.n (rG x h q)},{x.D with b:=flb x h q,t:=jJ x h q,x:=u,y:=v},x.n,rG x h q⟩
structure Fe (H H1:AH) (x:Wd) (h:Int) (q:Wa) (u v:Sc):Prop where
 wi:WI H1 (oJ x h q u v)
 len:H.length<=H1.length
 dj:∀k,k < H.length->k≠x.w.p->k≠x.w.id->k≠x.D.id->k≠x.D.pid->aJ x.D.x≠some k->aJ x.D.y≠some k->hg H1 k=hg H k
 fx:∀i,aJ u=some i->aJ x.D.x=some i\/H.length<=i
 fy:∀i,aJ v=some i->aJ x.D.y=some i\/H.length<=i
 nw:dX H H1
variable {u w:Sc}
section
variable {H:AH}
def Wj (args:List AV) (H:AH) (v:AV) (H1:AH):Prop:=∀x h q,args=[.c (.p x.w.p 0 0),.c (.i h),.g (cG q)]->WI H x->v=.t [.g (jD x h q),.c (.b (dx x h q))]/\∃u w,Fe H H1 x h q u w
def vq:List AV->AH->Option (AV × AH):=sd Tryz.prog [(9,.fq Jk),(27,.pu Mv),(38,.fp Ew),(39,.fp sK),(40,.fp Ex)] 11 Wj
theorem adj:bh Tryz.prog 11 vq:=yw (tq as6 (tu VE (tp as8 (tp ast (tp atv tn))))) Tryz.func11 rfl Tryz.results11 Tryz.ntmps11
theorem KK{v:AV}{H1:AH} (hI:WI H x) (h1:v=.t [.g (jD x h q),.c (.b (dx x h q))]) (h2:Fe H H1 x h q u w):Wj [.c (.p x.w.p 0 0),.c (.i h),.g (cG q)] H v H1:=by
 intro y h' q' he mE
 simp only [cL,AV.c.injEq,AV.g.injEq,Sc.p.injEq,Sc.i.injEq,and_true] at he
 obtain ⟨e1,e2,e3⟩:=he
 have hx:=hI.uniq mE e1
 have hq:=Nq e3
 subst hx hq e2
 exact ⟨h1,u,w,h2⟩
theorem Fe.same (hI:WI H x) (X:AH) (hX:(X.all λo=>o.live=false || o.owned)=true) (eB:j5 x h q=x.w.B) (eR:kH x h q=x.w.R) (eM:rG x h q=x.M) (eb:flb x h q=x.D.b) (et:jJ x h q=x.D.t):Fe H (H++X) x h q x.D.x x.D.y:=by
 have e:oJ x h q x.D.x x.D.y=x:=by
  unfold oJ
  rw [eB,eR,eM,eb,et,<-hI.m]
 exact ⟨by rw [e];exact hI.app X,by simp,λk hk _ _ _ _ _ _=>cB hk,λ_ h=>.inl h,λ_ h=>.inl h,jb hX⟩
theorem abo (hI:WI H x) (hm:dx x h q=false):j5 x h q=x.w.B/\kH x h q=x.w.R/\rG x h q=x.M/\flb x h q=x.D.b/\jJ x h q=x.D.t:=by
 unfold dx at hm
 by_cases k8:q.k<=8
 .have ok:iL x.w h q.K=false:=by
   by_cases k1:q.k < 1
   .unfold iL
    cases hf:np q.K.k q.K.a q.K.c q.K.s q.K.op
    .rfl
    .have:=KP hf
     unfold fi at this
     rw [if_pos (show q.K.k < 1 from k1)] at this
     omega
   .rw [if_neg k1,if_pos k8] at hm;exact hm
  have eW:iC x.w h q.K=none:=by unfold iC;rw [if_neg (by simp [ok])]
  refine ⟨?_,?_,?_,?_,?_⟩
  .unfold j5 wB;rw [if_pos k8,eW]
  .unfold kH wR;rw [if_pos k8,if_neg (by simp [ok])]
  .unfold rG;rw [if_neg (show ¬n9 q.k by unfold n9;omega)]
  .unfold flb;rw [if_neg ω]
  .unfold jJ;rw [if_neg ω]
 rw [if_neg ω,if_neg k8] at hm
 refine ⟨by unfold j5;rw [if_neg k8],by unfold kH;rw [if_neg k8],?_,?_,?_⟩
 .unfold rG
  split
  .rename_i hk
   rw [if_pos (show q.k=12\/q.k=13\/q.k=14 from hk)] at hm
   unfold nn
   show (if fk x.n h q.k q.h q.rs q.i=true then _ else _)=_
   rw [if_neg (by simp [hm])]
  .rfl
 all_goals first | unfold flb | unfold jJ
 all_goals split
 all_goals first | rfl | skip
 all_goals
  rename_i hk
  obtain ⟨_,n1,n2⟩:=hk
  rw [if_neg (show ¬(q.k=12\/q.k=13\/q.k=14) from n1),if_neg (show ¬(q.k=15\/q.k=16\/q.k=17) from n2)] at hm
  have bo:eY x.D.b.n h q.Q=false:=by
   unfold eY
   rw [hI.hb] at hm |-
   have:q.Q.k=q.k:=rfl
   rw [this]
   revert hm
   cases kF x.w.h q.Q <;> by_cases c1:q.k=11 <;> by_cases c2:0<=h <;> by_cases c3:h < x.w.h <;> simp [c1,c2,c3] <;> omega
  first | (unfold dE;rw [if_neg (by simp [bo])]) | (unfold dP;rw [if_neg (by simp [bo])])
theorem WI.rU{B:List Int}{R:List Sl} (hI:WI H x) (hB:B.length=x.w.B.length) (hR:R.length=8):WI (gq H x.w B R) ⟨x.w.to B R,x.D,x.n,x.M⟩:=by
 refine ⟨hI.w.set hB hR,?_,hI.mK,hI.m,hI.l,hI.n8,hI.hb,hI.p,hI.i⟩
 unfold gq
 exact (hI.d.other hI.i.1 hI.i.2.1 hI.i.2.2.1 hI.i.2.2.2).other hI.p.1 hI.p.2.1 hI.p.2.2.1 hI.p.2.2.2
theorem aia (d:BitVec 64) (g:Bool) (r:Row):(fL d g r).length=42/\(fL d g r).all Sc.one=true:=by
 refine ⟨by simp [fL,uI],?_⟩
 unfold fL
 rw [bK,bK,Qb];rfl
theorem amb (n:Int) (B:List Row) (cd k h:Int) (q:Rq):(nj n B cd k h q).length=42/\(nj n B cd k h q).all Sc.one=true:=by
 unfold nj
 repeat' split
 all_goals exact aia _ _ _
theorem WI.Ni (hI:WI H x) (hB:B.length=8):WI (H.set x.w.p (.own (FE x++(aH x.n B++[])))) ⟨{x.w with m:=aH x.n B},x.D,x.n,B⟩:=by
 refine ⟨⟨?_,?_,hI.w.l,hI.w.b0,hI.w.b1,kK x.n hB,hI.w.hh⟩,hI.d.other hI.p.1 hI.p.2.1 hI.p.2.2.1 hI.p.2.2.2,hI.mK,rfl,hB,hI.n8,hI.hb,hI.p,hI.i⟩
 .rw [iN hI.w.lp]
  unfold fg pP FE
  simp only
  rw [hI.mK]
  simp
 .rw [ej hI.w.ne];exact hI.w.v
theorem afm (hI:WI H x) (hf:AT x.D.t) :∃H1 u w,vq [.c (.p x.w.p 0 0),.c (.i h),.g (cG q)] H=some (.t [.g (jD x h q),.c (.b (dx x h q))],H1)/\Fe H H1 x h q u w:=by
 have:∃v H1,vq [.c (.p x.w.p 0 0),.c (.i h),.g (cG q)] H=some (v,H1)/\H.length<=H1.length/\Wj [.c (.p x.w.p 0 0),.c (.i h),.g (cG q)] H v H1:=by
  obtain ⟨lr,pr,ro⟩:=q.ok
  have my:=λX=>afn (hI.app X) (h:=h) (q:=q)
  have wc:cG q=.i q.k::.u q.a::.u q.b::.i q.c::.i q.s::.i q.op::.u q.d::.u q.o::.b q.lv::q.r:=rfl
  have lq:(cG q).length=19:=rfl
  have tq:(cG q).take 19=cG q:=rfl
  have oq:(cG q).all Sc.one=true:=rfl
  have kq:(cG q).getD 0 .any=.i q.k:=rfl
  have ge:=Je (k:=q.k)
  have zA:(.u 0#64::.b false::dC:List Sc)=bU 0#64 false:=rfl
  cases aM:dx x h q
  .obtain ⟨e1,e2,e3,e4,e5⟩:=abo hI aM
   have ea:jD x h q=bU 0#64 false:=by unfold jD;rw [aM];rfl
   rw [aM] at my
   unfold vq
   apply ie (v:=.t [.g (bU 0#64 false),.c (.b false)]) (H1:=H++[.own (cG q),.own (bU 0#64 false)]) Tryz.func11 rfl Tryz.results11 Tryz.ntmps11 (by simp)
   .intro _ _
    generalize hW:cG q=W at *
    simp only [go_sem,seval,lq,tq,oq,my]
    exact aI
   .simp
   .exact KK hI (by rw [ea,aM]) (Fe.same hI _ rfl e1 e2 e3 e4 e5)
  rw [aM] at my
  by_cases k4:DY q.k
  .have LA:q.k=15\/q.k=16\/q.k=17:=k4
   have n8:¬q.k<=8:=ω
   have n3:¬n9 q.k:=by unfold n9;omega
   have g4:fi q.k=4:=by unfold fi;rw [if_neg ω,if_neg n8,if_neg ω,if_neg ω,if_pos ω]
   rw [g4] at ge
   have ea:jD x h q=bU 0#64 false:=by unfold jD;rw [aM,if_pos rfl,if_neg n8,if_neg n3,if_pos k4]
   unfold vq
   apply ie (v:=.t [.g (bU 0#64 false),.c (.b true)]) (H1:=H++[.own (cG q),.own (bU 0#64 false)]) Tryz.func11 rfl Tryz.results11 Tryz.ntmps11 (by simp)
   .intro _ _
    generalize hW:cG q=W at *
    simp only [go_sem,seval,lq,tq,oq,kq,my,ge]
    exact aI
   .simp
   .exact KK hI (by rw [ea,aM]) (Fe.same hI _ rfl (by unfold j5;rw [if_neg n8]) (by unfold kH;rw [if_neg n8]) (by unfold rG;rw [if_neg n3]) (by unfold flb;rw [if_neg (λc=>c.2.2 k4)]) (by unfold jJ;rw [if_neg (λc=>c.2.2 k4)]))
  by_cases k8:q.k<=8
  .have n3:¬n9 q.k:=by unfold n9;omega
   have hw:iL x.w h q.K=true:=by
    have:=aM
    unfold dx at this
    by_cases k1:q.k < 1
    .rw [if_pos k1] at this;simp at this
    .rw [if_neg k1,if_pos k8] at this;exact this
   have g1:fi q.k=1:=by
    have h1:=hw
    unfold iL at h1
    rw [aQ] at h1
    exact KP h1.1
   rw [g1] at ge
   have ea:jD x h q=bU (wD x.w h q.K) (wG x.w h q.K):=by unfold jD;rw [aM,if_pos rfl,if_pos k8]
   have mm:=λX=>ayp (h:=h) (k:=q.k) (a:=q.a) (b:=q.b) (c:=q.c) (s:=q.s) (op:=q.op) (d:=q.d) (o:=q.o) (lv:=q.lv) (hI.w.app X) q.ok hw
   have eK:(⟨q.k,q.a,q.b,q.c,q.s,q.op,q.d,q.o,q.lv⟩:Ak)=q.K:=rfl
   simp only [abA hI.w,eK] at mm
   rw [<-wc] at mm
   obtain ⟨Q,hQ⟩:∃Q,Q=bU (wD x.w h q.K) (wG x.w h q.K):=⟨_,rfl⟩
   have al:Q.length=42:=by rw [hQ];exact Kj _ _
   have a1:Q.all Sc.one=true:=by rw [hQ];exact NM _ _
   have cJ:Q.take 42=Q:=bQ ω
   rw [<-hQ] at mm ea
   have hB:(wB x.w h q.K).length=x.w.B.length:=agx
   have hR:(wR x.w h q.K).length=8:=agy hI.w.l
   obtain ⟨K,hK⟩:∃K,K=gq H x.w (wB x.w h q.K) (wR x.w h q.K):=⟨_,rfl⟩
   have lK:K.length=H.length:=by rw [hK,pG]
   have kI:=hI.rU hB hR
   rw [<-hK] at mm kI
   have gH:∀X,hg (K++X) H.length=hg X 0:=λX=>by rw [<-lK,km]
   have gN:∀X n,hg (K++X) (H.length+n)=hg X n:=λX n=>by rw [<-lK,gM]
   have sN:∀X n o,(K++X).set (H.length+n) o=K++X.set n o:=λX n o=>by rw [<-lK,xS]
   unfold vq
   apply ie (v:=.t [.g Q,.c (.b true)]) (H1:=K++[.own (cG q),.own Q]) Tryz.func11 rfl Tryz.results11 Tryz.ntmps11 (by simp)
   .intro _ _
    generalize hW:cG q=W at *
    simp only [go_sem,seval,lq,tq,oq,kq,my,ge,mm,gH,gN,sN,al,a1,cJ]
    exact aI
   .rw [cj,lK];omega
   .refine KK hI (by rw [ea,aM]) (u:=x.D.x) (w:=x.D.y) ?_
    have e:oJ x h q x.D.x x.D.y=⟨x.w.to (wB x.w h q.K) (wR x.w h q.K),x.D,x.n,x.M⟩:=by
     unfold oJ
     rw [show j5 x h q=wB x.w h q.K from if_pos k8,show kH x h q=wR x.w h q.K from if_pos k8,show rG x h q=x.M from if_neg n3,show flb x h q=x.D.b from if_neg (λc=>ω),show jJ x h q=x.D.t from if_neg (λc=>ω),<-hI.m];rfl
    refine ⟨by rw [e];exact kI.app _,by rw [cj,lK];omega,λk hk n1 n2 _ _ _ _=>?_,λ_ h=>.inl h,λ_ h=>.inl h,fX (by rw [hK];unfold gq;exact fX (jS λ_=>rfl) (jS λ_=>rfl)) (jb rfl)⟩
    rw [cB ω,hK]
    unfold gq
    rw [ej (λc=>n1 c.symm),ej (λc=>n2 c.symm)]
  by_cases k3:n9 q.k
  .have Ga:q.k=12\/q.k=13\/q.k=14:=k3
   have g3:fi q.k=3:=by unfold fi;rw [if_neg ω,if_neg k8,if_neg ω,if_pos ω]
   rw [g3] at ge
   have hm:fk x.n h q.k q.h q.rs q.i=true:=by
    have:=aM
    unfold dx at this
    rw [if_neg ω,if_neg k8,if_pos Ga] at this;exact this
   have ea:jD x h q=nj x.n x.M h q.k q.h q.R:=by unfold jD;rw [aM,if_pos rfl,if_neg k8,if_pos k3]
   have mm:=λX=>ayz (cd:=h) (k:=q.k) (h:=q.h) (i:=q.i) (c:=q.c) (z:=q.s) (o:=q.op) (e1:=q.e1) (e3:=q.e3) (ad:=q.a) (nx:=q.b) (da:=q.d) (ol:=q.o) (va:=q.va) (e2:=q.e2) (e4:=q.e4) (li:=q.lv) (rs:=q.rs) (rv:=q.rv) (ra:=q.rd) (((hI.app X).w.o).trans (by rw [abC hI])) hI.l hI.n8
   have eR:(⟨q.rs,q.rv,q.rd,q.va,q.i⟩:Rq)=q.R:=rfl
   have YS:cG q=[.i q.k,.u q.a,.u q.b,.i q.c,.i q.s,.i q.op,.u q.d,.u q.o,.b q.lv,.i q.h,.b q.rs,.b q.rv,.b q.rd,.u q.va,.i q.i,.i q.e1,.u q.e2,.i q.e3,.u q.e4]:=rfl
   simp only [abB hI,eR,hm,mg _ _ hI.w.lp] at mm
   rw [<-YS] at mm
   obtain ⟨Q,hQ⟩:∃Q,Q=nj x.n x.M h q.k q.h q.R:=⟨_,rfl⟩
   obtain ⟨al,a1⟩:=amb x.n x.M h q.k q.h q.R
   rw [<-hQ] at mm ea al a1
   have cJ:Q.take 42=Q:=bQ ω
   have hB:(nn x.n x.M h q.k q.h q.R).length=8:=by rw [aa0];exact hI.l
   have kI:=hI.Ni hB
   obtain ⟨K,hK⟩:∃K,K=H.set x.w.p (.own (FE x++(aH x.n (nn x.n x.M h q.k q.h q.R)++[]))):=⟨_,rfl⟩
   have lK:K.length=H.length:=by rw [hK,iR]
   rw [<-hK] at mm kI
   have gH:∀X,hg (K++X) H.length=hg X 0:=λX=>by rw [<-lK,km]
   have gN:∀X n,hg (K++X) (H.length+n)=hg X n:=λX n=>by rw [<-lK,gM]
   have sN:∀X n o,(K++X).set (H.length+n) o=K++X.set n o:=λX n o=>by rw [<-lK,xS]
   unfold vq
   apply ie (v:=.t [.g Q,.c (.b true)]) (H1:=K++[.own (cG q),.own Q]) Tryz.func11 rfl Tryz.results11 Tryz.ntmps11 (by simp)
   .intro _ _
    generalize hW:cG q=W at *
    simp only [go_sem,seval,lq,tq,oq,kq,my,ge,mm,gH,gN,sN,al,a1,cJ]
    refine ⟨by (repeat' first | apply cf | (intro c;exact absurd c ω) | (intro _;kernel_rfl) | kernel_rfl),?_⟩
    exact aI
   .rw [cj,lK];omega
   .refine KK hI (by rw [ea,aM]) (u:=x.D.x) (w:=x.D.y) ?_
    have e:oJ x h q x.D.x x.D.y=⟨{x.w with m:=aH x.n (nn x.n x.M h q.k q.h q.R)},x.D,x.n,nn x.n x.M h q.k q.h q.R⟩:=by
     unfold oJ
     rw [show j5 x h q=x.w.B from if_neg k8,show kH x h q=x.w.R from if_neg k8,show rG x h q=nn x.n x.M h q.k q.h q.R from if_pos k3,show flb x h q=x.D.b from if_neg (λc=>c.2.1 k3),show jJ x h q=x.D.t from if_neg (λc=>c.2.1 k3)]
    refine ⟨by rw [e];exact kI.app _,by rw [cj,lK];omega,λk hk n1 n2 _ _ _ _=>?_,λ_ h=>.inl h,λ_ h=>.inl h,fX (by rw [hK];exact jS λ_=>rfl) (jb rfl)⟩
    rw [cB ω,hK,ej (λc=>n1 c.symm)]
  have LA:¬(q.k=15\/q.k=16\/q.k=17):=k4
  have Ga:¬(q.k=12\/q.k=13\/q.k=14):=k3
  have hb:=aM
  unfold dx at hb
  rw [if_neg ω,if_neg k8,if_neg Ga,if_neg LA] at hb
  have bo:eY x.D.b.n h q.Q=true:=by
   unfold eY
   rw [hI.hb] at hb |-
   have:q.Q.k=q.k:=rfl
   rw [this]
   revert hb
   cases kF x.w.h q.Q <;> by_cases c1:q.k=11 <;> by_cases c2:0<=h <;> by_cases c3:h < x.w.h <;> simp [c1,c2,c3] <;> omega
  have gg:fi q.k=2\/fi q.k=5:=by
   have Bm:=hb
   rw [aQ] at Bm
   have vd:=Bm.1
   unfold kF at vd
   have eK:q.Q.k=q.k:=rfl
   rw [eK] at vd
   unfold fi
   by_cases c:q.k=9\/q.k=10
   .rw [if_neg ω,if_neg k8,if_pos ω];exact .inl rfl
   .rw [if_neg c] at vd
    have hb3:=of_decide_eq_true vd
    by_cases c2:q.k<=11
    .rw [if_neg ω,if_neg k8,if_pos c2];exact .inl rfl
    .rw [if_neg ω,if_neg k8,if_neg c2,if_neg ω,if_neg ω,if_pos ω];exact .inr rfl
  have ea:jD x h q=bU (fD x.D h q.Q) false:=by unfold jD;rw [aM,if_pos rfl,if_neg k8,if_neg k3,if_neg k4]
  obtain ⟨G,hG⟩:∃G:AH,G=H++[.own (cG q),.own (bU 0#64 false)]:=⟨_,rfl⟩
  have hIG:=hI.app [.own (cG q),.own (bU 0#64 false)]
  rw [<-hG] at hIG
  have lG:G.length=H.length+2:=by rw [hG];simp
  obtain ⟨K1,d1,dl,⟨u,w,d2,d3⟩,dn⟩:=afi hIG.d hf h (q:=q.Q) q.ok
  rw [<-Ri,bo] at d1
  obtain ⟨Q,hQ⟩:∃Q,Q=bU (fD x.D h q.Q) false:=⟨_,rfl⟩
  rw [<-hQ] at d1 ea
  have al:Q.length=42:=by rw [hQ];exact Kj _ _
  have a1:Q.all Sc.one=true:=by rw [hQ];exact NM _ _
  have cJ:Q.take 42=Q:=bQ ω
  have pE:∀j,H.length<=j->j < G.length->hg K1 j=hg G j:=λj h1 h2=>by
   obtain ⟨f1,f2,f3,f4⟩:=hI.d.pE h1
   exact d3.dj j h2 f1 f2 f3 f4
  have gA:hg K1 (H.length+1)=.own (bU 0#64 false):=by rw [pE _ ω ω,hG,gM];rfl
  have gW:hg K1 H.length=.own (cG q):=by rw [pE _ ω ω,hG,km];rfl
  have kp:∀k,k < H.length->k≠x.D.id->k≠x.D.pid->aJ x.D.x≠some k->aJ x.D.y≠some k->hg K1 k=hg H k:=λk h1 h2 h3 h4 h5=>by
   rw [d3.dj k ω h2 h3 h4 h5,hG,cB h1]
  have gw:=hI.w.o
  have lw:=zK (R:=x.w.R) hI.w.l hI.w.lm
  have Tz:=FF hI
  have gwX:∀X,hg (H++X) x.w.p=.own (fg x.w x.w.R):=λX=>(hI.w.app X).o
  rw [hG,<-zA] at d1
  rw [<-zA] at gA
  rw [hG,<-zA] at dn
  have gS:hg (K1.set (H.length+1) (.own Q)) (H.length+1)=.own Q:=iN ω
  unfold vq
  apply ie (v:=.t [.g Q,.c (.b true)]) (H1:=K1.set (H.length+1) (.own Q)) Tryz.func11 rfl Tryz.results11 Tryz.ntmps11 (by simp)
  .intro _ _
   generalize hW:cG q=W at *
   rcases gg with gg | gg
   all_goals rw [gg] at ge
   all_goals simp only [go_sem,seval,lq,tq,oq,kq,my,ge,gwX,lw,Tz,d1,gA,gS,al,a1,cJ]
   all_goals first | exact aI | (refine ⟨by (repeat' first | apply cf | (intro c;exact absurd c ω) | (intro _;kernel_rfl) | kernel_rfl | exact ot (nI _) κ),by (repeat' first | apply cf | (intro c;exact absurd c ω) | (intro _;kernel_rfl) | kernel_rfl | exact ot (nI _) κ),?_⟩;exact aI)
  .rw [iR];omega
  .refine KK hI (by rw [ea,aM]) (u:=u) (w:=w) ?_
   have e:oJ x h q u w=⟨x.w,{x.D with b:=dE x.D h q.Q,t:=dP x.D h q.Q,x:=u,y:=w},x.n,x.M⟩:=by
    unfold oJ
    rw [show j5 x h q=x.w.B from if_neg k8,show kH x h q=x.w.R from if_neg k8,show rG x h q=x.M from if_neg k3,show flb x h q=dE x.D h q.Q from if_pos ⟨ω,k3,k4⟩,show jJ x h q=dP x.D h q.Q from if_pos ⟨ω,k3,k4⟩,<-hI.m]
   have nx:∀i,i < H.length+2->aJ x.D.x≠some i->aJ u≠some i:=λi h1 h2 c=>(d3.fx i c).elim h2 ω
   have ny:∀i,i < H.length+2->aJ x.D.y≠some i->aJ w≠some i:=λi h1 h2 c=>(d3.fy i c).elim h2 ω
   have fr:=hI.d.pE (j:=H.length+1) ω
   have lp:=hI.w.lp
   have li:=hI.w.li
   refine ⟨?_,by rw [iR];omega,λk hk _ _ n3 n4 n5 n6=>by rw [ej ω];exact kp k hk n3 n4 n5 n6,λi hi=>(d3.fx i hi).imp id ω,λi hi=>(d3.fy i hi).imp id ω,fX (jb rfl) (fX dn (jS λ_=>rfl))⟩
   rw [e]
   refine ⟨⟨?_,?_,hI.w.l,hI.w.b0,hI.w.b1,hI.w.lm,hI.w.hh⟩,d2.other fr.1 fr.2.1 (nx _ ω fr.2.2.1) (ny _ ω fr.2.2.2),hI.mK,hI.m,hI.l,hI.n8,ZO.trans hI.hb,⟨hI.p.1,hI.p.2.1,nx x.w.p ω hI.p.2.2.1,ny x.w.p ω hI.p.2.2.2⟩,⟨hI.i.1,hI.i.2.1,nx x.w.id ω hI.i.2.2.1,ny x.w.id ω hI.i.2.2.2⟩⟩
   .show hg _ x.w.p=_
    rw [ej ω,kp _ lp hI.p.1 hI.p.2.1 hI.p.2.2.1 hI.p.2.2.2];exact hI.w.o
   .show hg _ x.w.id=_
    rw [ej ω,kp _ li hI.i.1 hI.i.2.1 hI.i.2.2.1 hI.i.2.2.2];exact hI.w.v
 obtain ⟨v,H1,h1,_,h2⟩:=this
 obtain ⟨rfl,u,w,h3⟩:=h2 x h q rfl hI
 exact ⟨H1,u,w,h1,h3⟩
end
theorem Pp(x:¬(0<=h/\h<n)):gv n h=false:=by
 unfold gv;rw[<-Bool.decide_and,decide_eq_false x]
theorem ab0(x:0<=h/\h<n):gv n h=true:=by
 unfold gv;rw[<-Bool.decide_and,decide_eq_true x]
def XY(args:List AV):Option AV:=match args with|[.g [.b s,.b v,.b d,.u a,.i i]]=>some (.g (fV (BQ ⟨s,v,d,a,i⟩)))|_=>none
theorem XZ{s v d a i}:XY [.g [.b s,.b v,.b d,.u a,.i i]]=some (.g (fV (BQ ⟨s,v,d,a,i⟩))):=rfl
theorem aul:cK Tryz.prog 162 XY:=by
 refine cR tn Tryz.func162 rfl Tryz.results162 Tryz.ntmps162 ?_;intro args v h;unfold XY at h;split at h
 .rename_i s v d a i;simp only[ar]at h;subst h;refine⟨by simp,rfl,rfl,?_⟩;cases v<;>cases d<;>simp only[go_sem,seval,fV,BQ]
 .simp at h
def XV(args:List AV):Option AV:=match args with|[.g [.b os,.b ov,.b od,.u oa,.i oi],.g [.b s,.b v,.b d,.u a,.i i]]=>some (.g (fV (lY ⟨os,ov,od,oa,oi⟩ ⟨s,v,d,a,i⟩)))|_=>none
theorem QB{os ov od oa oi s v d a i}:XV [.g [.b os,.b ov,.b od,.u oa,.i oi],.g [.b s,.b v,.b d,.u a,.i i]]=some (.g (fV (lY ⟨os,ov,od,oa,oi⟩ ⟨s,v,d,a,i⟩))):=rfl
theorem auf:cK Tryz.prog 108 XV:=by
 refine cR (tu aul tn) Tryz.func108 rfl Tryz.results108 Tryz.ntmps108 ?_;intro args v h;unfold XV at h;split at h
 .rename_i os ov od oa oi s v d a i;simp only[ar]at h;subst h;refine⟨by simp,rfl,rfl,?_⟩;generalize hp:BQ ⟨s,v,d,a,i⟩=p;obtain⟨ps,pv,pd,pa,pi⟩:=p;cases os
  .have e0:lY ⟨false,ov,od,oa,oi⟩ ⟨s,v,d,a,i⟩=⟨ps,pv,pd,pa,pi⟩:=by simp[lY,hp]
   rw[e0];simp only[go_sem,seval,XZ,hp,fV]
  .cases he:vV ⟨true,ov,od,oa,oi⟩ ⟨ps,pv,pd,pa,pi⟩
   .have e0:lY ⟨true,ov,od,oa,oi⟩ ⟨s,v,d,a,i⟩=⟨true,false,false,0#64,0⟩:=by simp[lY,hp,he]
    rw[e0];simp only[vV,Bool.true_beq]at he;simp only[go_sem,seval,XZ,hp,fV,he]
   .have e0:lY ⟨true,ov,od,oa,oi⟩ ⟨s,v,d,a,i⟩=⟨true,ov,od,oa,oi⟩:=by
     simp only[lY,hp,he,or_true,if_true];exact(abb.mp he).symm
    rw[e0];simp only[vV,Bool.true_beq]at he;simp only[go_sem,seval,XZ,hp,fV,he]
 .simp at h
theorem EZ:zT Tryz.prog 66=some (aH 0 Z8):=κ
def QD(args:List AV):Option AV:=match args with|[.c (.i n)]=>some (.g (aH (if 1<=n/\n<=8 then n else 0) Z8))|_=>none
theorem ay7{n}:QD [.c (.i n)]=some (.g (aH (if 1<=n/\n<=8 then n else 0) Z8)):=rfl
theorem auj:cK Tryz.prog 26 QD:=by
 refine cR tn Tryz.func26 rfl Tryz.results26 Tryz.ntmps26 ?_;intro args v h;unfold QD at h;split at h
 .rename_i n;simp only[ar]at h;subst h;have pz:∀m,(aH m Z8).all Sc.pf=true:=λm=>rfl;refine⟨by simp,by first|rfl|simp only[bK,dY,AV.pf,Sc.pf,c8, *],by first|rfl|simp only[bK,dY,AV.pf,Sc.pf,c8, *],?_⟩;have l0:=λm=>kK m zx;have d1:∀m,(aH m Z8).drop 321=[]:=λm=>kN (by rw[l0];omega);have d2:∀m,(aH m Z8).drop 1=Z8.flatMap jU:=λm=>rfl;have d3:∀m,(aH m Z8).all Sc.one=true:=λm=>rfl;have d4:∀m,.i m::Z8.flatMap jU=aH m Z8:=λm=>rfl;have d5:∀m,(aH m Z8).take 321=aH m Z8:=λm=>bQ (by rw[l0];omega);by_cases h1:n<1
  .have e:(if 1<=n/\n<=8 then n else 0)=0:=if_neg ω;simp only[go_sem,seval,h1,e,EZ,l0,d1,d2,d3,d4,d5]
  by_cases h2:8<n
  .have e:(if 1<=n/\n<=8 then n else 0)=0:=if_neg ω;simp only[go_sem,seval,h1,h2,e,EZ,l0,d1,d2,d3,d4,d5]
  .have e:(if 1<=n/\n<=8 then n else 0)=n:=if_pos ω;simp only[go_sem,seval,h1,h2,e,EZ,l0,d1,d2,d3,d4,d5]
 .simp at h
def KQ(m:List Sc):Int:=match m.getD 0 .any with|.i n=>n|_=>0
def tU(m:List Sc):Prop:=m.length=321/\m.all Sc.pf=true/\m.getD 0 .any=.i (KQ m)
instance (l:List Sc):Decidable (tU l):=Classical.propDecidable _
theorem acP(n:Int)(B:List Row):(aH n B).all Sc.pf=true:=by
 unfold aH;rw[bK];simp only[Sc.pf,gG];rw[sZ];exact cE.2 λr _=>by unfold jU;rw[sZ];exact cE.2 λ_ _=>rfl
theorem ab5(n:Int)(hB:B.length=8):tU (aH n B)/\KQ (aH n B)=n:=⟨⟨kK n hB,acP n B,rfl⟩,rfl⟩
def M4(args:List AV):Option AV:=match args with|[.g m,.c (.i cd),.g [.i k,.u x1,.u x2,.i x3,.i x4,.i x5,.u x6,.u x7,.b x8,.i h,.b rs,.b y1,.b y2,.u y3,.i i,.i z1,.u z2,.i z3,.u z4]]=>if tU m then some (.c (.b (fk (KQ m) cd k h rs i)))else none|_=>none
theorem M5{m cd k x1 x2 x3 x4 x5 x6 x7 x8 h rs y1 y2 y3 i z1 z2 z3 z4}:M4 [.g m,.c (.i cd),.g [.i k,.u x1,.u x2,.i x3,.i x4,.i x5,.u x6,.u x7,.b x8,.i h,.b rs,.b y1,.b y2,.u y3,.i i,.i z1,.u z2,.i z3,.u z4]]=if tU m then some (.c (.b (fk (KQ m) cd k h rs i)))else none:=rfl
theorem adD:cK Tryz.prog 37 M4:=by
 refine cR tn Tryz.func37 rfl Tryz.results37 Tryz.ntmps37 ?_;intro args v h;unfold M4 at h;split at h
 .rename_i m cd k x1 x2 x3 x4 x5 x6 x7 x8 h rs y1 y2 y3 i z1 z2 z3 z4;split at h
  .rename_i hc;simp only[ar]at h;subst h;obtain⟨lm,pm,gm⟩:=hc;refine⟨by simp only[cT,fa];decide,by first|rfl|simp only[bK,dY,AV.pf,Sc.pf,c8, *],by first|rfl|simp only[bK,dY,AV.pf,Sc.pf,c8, *],?_⟩;generalize KQ m=n at*;by_cases h0:cd<0
   .have e:gv n cd=false:=Pp ω;(repeat(first|simp(maxSteps:=9^9)only[go_sem,seval,lm,gm,h0,fk,e]|simp(disch:=omega)only[aq,aV,aU,aT,aS]))
   by_cases h1:n<=cd
   .have e:gv n cd=false:=Pp ω;(repeat(first|simp(maxSteps:=9^9)only[go_sem,seval,lm,gm,h0,h1,fk,e]|simp(disch:=omega)only[aq,aV,aU,aT,aS]))
   have e:gv n cd=true:=ab0 ω;by_cases k1:k=12
   ·(repeat(first|simp(maxSteps:=9^9)only[go_sem,seval,lm,gm,h0,h1,fk,e,k1]|simp(disch:=omega)only[aq,aV,aU,aT,aS]))
   by_cases g0:h<0
   .have e2:gv n h=false:=Pp ω;by_cases k2:k=13
    ·(repeat(first|simp(maxSteps:=9^9)only[go_sem,seval,lm,gm,h0,h1,fk,e,k1,k2,g0,e2]|simp(disch:=omega)only[aq,aV,aU,aT,aS]));all_goals simp
    by_cases k3:k=14
    ·(repeat(first|simp(maxSteps:=9^9)only[go_sem,seval,lm,gm,h0,h1,fk,e,k1,k2,k3,g0,e2]|simp(disch:=omega)only[aq,aV,aU,aT,aS]))
    ·(repeat(first|simp(maxSteps:=9^9)only[go_sem,seval,lm,gm,h0,h1,fk,e,k1,k2,k3,g0,e2]|simp(disch:=omega)only[aq,aV,aU,aT,aS]))
   by_cases g1:n<=h
   .have e2:gv n h=false:=Pp ω;by_cases k2:k=13
    ·(repeat(first|simp(maxSteps:=9^9)only[go_sem,seval,lm,gm,h0,h1,fk,e,k1,k2,g0,g1,e2]|simp(disch:=omega)only[aq,aV,aU,aT,aS]));all_goals simp
    by_cases k3:k=14
    ·(repeat(first|simp(maxSteps:=9^9)only[go_sem,seval,lm,gm,h0,h1,fk,e,k1,k2,k3,g0,g1,e2]|simp(disch:=omega)only[aq,aV,aU,aT,aS]))
    ·(repeat(first|simp(maxSteps:=9^9)only[go_sem,seval,lm,gm,h0,h1,fk,e,k1,k2,k3,g0,g1,e2]|simp(disch:=omega)only[aq,aV,aU,aT,aS]))
   have e2:gv n h=true:=ab0 ω;by_cases g2:h=cd
   .by_cases k2:k=13
    ·(repeat(first|simp(maxSteps:=9^9)only[go_sem,seval,lm,gm,h0,h1,fk,e,k1,k2,g0,g1,g2]|simp(disch:=omega)only[aq,aV,aU,aT,aS]));all_goals simp
    by_cases k3:k=14
    ·(repeat(first|simp(maxSteps:=9^9)only[go_sem,seval,lm,gm,h0,h1,fk,e,k1,k2,k3,g0,g1,g2]|simp(disch:=omega)only[aq,aV,aU,aT,aS]))
    ·(repeat(first|simp(maxSteps:=9^9)only[go_sem,seval,lm,gm,h0,h1,fk,e,k1,k2,k3,g0,g1,g2]|simp(disch:=omega)only[aq,aV,aU,aT,aS]))
   by_cases k2:k=13
   .cases rs
    ·(repeat(first|simp(maxSteps:=9^9)only[go_sem,seval,lm,gm,h0,h1,fk,e,k1,k2,g0,g1,g2,e2]|simp(disch:=omega)only[aq,aV,aU,aT,aS]))
    by_cases i1:i<0
    ·(repeat(first|simp(maxSteps:=9^9)only[go_sem,seval,lm,gm,h0,h1,fk,e,k1,k2,g0,g1,g2,e2,i1]|simp(disch:=omega)only[aq,aV,aU,aT,aS]))
    by_cases i2:65535<i
    ·(repeat(first|simp(maxSteps:=9^9)only[go_sem,seval,lm,gm,h0,h1,fk,e,k1,k2,g0,g1,g2,e2,i1,i2]|simp(disch:=omega)only[aq,aV,aU,aT,aS]))
    ·(repeat(first|simp(maxSteps:=9^9)only[go_sem,seval,lm,gm,h0,h1,fk,e,k1,k2,g0,g1,g2,e2,i1,i2]|simp(disch:=omega)only[aq,aV,aU,aT,aS]))
   by_cases k3:k=14
   ·(repeat(first|simp(maxSteps:=9^9)only[go_sem,seval,lm,gm,h0,h1,fk,e,k1,k2,k3,g0,g1,g2,e2]|simp(disch:=omega)only[aq,aV,aU,aT,aS]))
   ·(repeat(first|simp(maxSteps:=9^9)only[go_sem,seval,lm,gm,h0,h1,fk,e,k1,k2,k3,g0,g1,g2,e2]|simp(disch:=omega)only[aq,aV,aU,aT,aS]))
  .simp at h
 .simp at h
def Qc(r:Row)(i:Nat)(q:Rq):Row:=⟨r.1.set i q,by rw[iR];exact r.2⟩
theorem NO(d:BitVec 64)(g:Bool)(r:Row):(fL d g r).length=42:=by unfold fL;rw[cT,cT,uI]
variable {i:Nat}
theorem aic(d:BitVec 64)(g:Bool)(r:Row)(hi:i<8)(q:Rq):(fL d g r).take (2+i*5)++fV q++(fL d g r).drop (2+i*5+5)=fL d g (Qc r i q):=by
 obtain⟨q0,hq⟩:∃q,r.1[i]?=some q:=⟨_,cP (by rw[r.2];omega)⟩;obtain⟨P,Q,g1,g2,g3⟩:=Bf vT hq;unfold fL;rw[show 2+i*5=(i*5+1)+1 by omega,Ds,Ds,show i*5+1+1+5=(i*5+5+1)+1 by omega,Dl,Dl,lf,lf,lf,lf];congr 2;unfold jU Qc;simp only;rw[g3,g1];have:=JN (P:=P) (M:=fV q0) (Q:=Q) (l:=fV q) (o:=0) (by simp[vT]);rw[ru,vT]at this;rw[<-g2,this];simp[fV]
def vM(R:List Row)(f:Nat):Nat->List Row|0=>R|i+1=>wN (vM R f i) i f pO
def Ba(R:List Row)(f:Nat):Nat->Row|0=>jA|i+1=>Qc (Ba R f i) i (fH (vM R f i) i f)
theorem Oc(R:List Row)(f:Nat):∀i,(vM R f i).length=R.length|0=>rfl|i+1=>by rw[vM,QS,Oc R f i]
def oH(n:Int)(R:List Row)(cd k h:Int)(q:Rq):List Row:=if fk n cd k h q.s q.i=true then(if k=13 then wN R cd.toNat h.toNat (lY (fH R cd.toNat h.toNat) q)else if k=12 then vM R cd.toNat 8 else R)else R
def qe(n:Int)(R:List Row)(cd k h:Int)(q:Rq):List Sc:=if fk n cd k h q.s q.i=true then(if k=13 then fL 0#64 false jA else if k=12 then fL 0#64 false (Ba R cd.toNat 8)else fL 0#64 (!(fH R cd.toNat h.toNat).s) jA)else fL 0#64 false jA
variable {cd:Int}
theorem aa1{R:List Row}{k:Int}{q:Rq}:(oH n R cd k h q).length=R.length:=by
 unfold oH;split
 .split
  .exact QS _ _ _ _
  .split
   .exact Oc _ _ _
   .rfl
 .rfl
def Pr(m:List Sc):Prop:=∃n R,m=aH n R/\R.length=8/\n<=8
instance (l:List Sc):Decidable (Pr l):=Classical.propDecidable _
def Me(m:List Sc)(cd k h:Int)(q:Rq):AV:=match Af (.own m)with|some (n,R)=>.t [.g (aH n (oH n R cd k h q)),.g (qe n R cd k h q),.c (.b (fk n cd k h q.s q.i))]|none=>.c (.b false)
theorem aib(d:BitVec 64)(g:Bool)(r:Row):(fL d g r).all Sc.pf=true:=by
 unfold fL jU;rw[bK,bK,sZ];simp only[Sc.pf,gG];exact cE.2 λ_ _=>rfl
theorem amd(n:Int)(R:List Row)(cd k h:Int)(q:Rq):(qe n R cd k h q).all Sc.pf=true:=by
 unfold qe;repeat' split
 all_goals exact aib _ _ _
theorem BH(n:Int)(B:List Row):(aH n B).all Sc.one=true:=by
 unfold aH;rw[bK];simp only[Sc.one,gG];rw[sZ];exact cE.2 λr _=>Qb r
theorem NP(d:BitVec 64)(g:Bool)(r:Row):(fL d g r).all Sc.one=true:=by
 unfold fL;rw[bK,bK];simp only[Sc.one,gG];exact Qb r
theorem Kk(d:BitVec 64)(g:Bool)(r:Row)(m:Nat):(fL d g r).all (Sc.aj m)=true:=by
 unfold fL jU;rw[bK,bK,sZ];simp only[Sc.aj,gG];exact cE.2 λ_ _=>rfl
theorem ZX{a b c d:List Sc}(ha:a.all (Sc.aj 5)=true)(hb:b.all (Sc.aj 5)=true)(hc:c.all (Sc.aj 5)=true)(hd:d.all (Sc.aj 5)=true):dF [.own a,.dead,.own b,.own c,.own d]=true:=by
 have z:ae.dead.cW.all (Sc.aj 5)=true:=rfl;simp only[dF,cT,fa,bK,dY,c8,aQ];exact⟨ha,z,hb,hc,hd⟩
variable {f:Nat}
theorem azY{t:Nat}(hB:B.length=8)(ht:t<8)(hf:f<8):(aH n B).getD (1+t*40+f*5) .any=.b (fH B t f).s:=by
 have h:=G0 (n:=n) hB ht hf;have l:=kK n hB;have h2:(((aH n B).drop (1+t*40+f*5)).take 5).getD 0 .any=(aH n B).getD (1+t*40+f*5) .any:=by rw[bX,bX,yb δ,td,ru]
 rw[<-h2,h];rfl
def M0(args:List AV):Option AV:=match args with|[.g m,.c (.i cd),.g [.i k,.u x1,.u x2,.i x3,.i x4,.i x5,.u x6,.u x7,.b x8,.i h,.b rs,.b rv,.b rd,.u ra,.i ri,.i z1,.u z2,.i z3,.u z4]]=>if Pr m then some (Me m cd k h ⟨rs,rv,rd,ra,ri⟩)else none|_=>none
theorem ay0{m cd k x1 x2 x3 x4 x5 x6 x7 x8 h rs rv rd ra ri z1 z2 z3 z4}:M0 [.g m,.c (.i cd),.g [.i k,.u x1,.u x2,.i x3,.i x4,.i x5,.u x6,.u x7,.b x8,.i h,.b rs,.b rv,.b rd,.u ra,.i ri,.i z1,.u z2,.i z3,.u z4]]=if Pr m then some (Me m cd k h ⟨rs,rv,rd,ra,ri⟩)else none:=rfl
theorem at9:cK Tryz.prog 43 M0:=by
 refine cR (tu adD (tu auf tn)) Tryz.func43 rfl Tryz.results43 Tryz.ntmps43 ?_;intro args v h;unfold M0 at h;split at h
 .rename_i m cd k x1 x2 x3 x4 x5 x6 x7 x8 h rs rv rd ra ri z1 z2 z3 z4;split at h
  .rename_i hc;simp only[ar]at h;subst h;obtain⟨n,R,rfl,hR,hn⟩:=hc;have ev:Me (aH n R) cd k h ⟨rs,rv,rd,ra,ri⟩=.t [.g (aH n (oH n R cd k h ⟨rs,rv,rd,ra,ri⟩)),.g (qe n R cd k h ⟨rs,rv,rd,ra,ri⟩),.c (.b (fk n cd k h rs ri))]:=by unfold Me;rw[Ag hR]
   have mp:=acP;have dp:=amd n R cd k h ⟨rs,rv,rd,ra,ri⟩;refine⟨by simp,by first|rfl|simp only[bK,dY,AV.pf,Sc.pf,c8, *],by first|rfl|simp only[bK,dY,AV.pf,Sc.pf,c8, *],?_⟩;rw[ev];have l0:=kK n hR;have lz:=kK 0 zx;obtain⟨m0,m1⟩:=ab5 n hR;have t0:(aH n R).take 321=aH n R:=bQ ω;have tz:(aH 0 Z8).drop 321=[]:=kN ω;have ez:∀X,Sc.u 0#64::Sc.b false::(jU jA++X)=fL 0#64 false jA++X:=λX=>rfl;have al:=NO;have a0:∀r d g,(fL d g r).take 42=fL d g r:=λr d g=>bQ (by rw[al];omega);have a1:∀r d g,(fL d g r).drop 42=[]:=λr d g=>kN (by rw[al];omega);have mo:∀R',(aH n R').all Sc.one=true:=λR'=>BH n R';have ao:∀d g r,(fL d g r).all Sc.one=true:=NP;cases lJ:fk n cd k h rs ri
   .have r1:qe n R cd k h ⟨rs,rv,rd,ra,ri⟩=fL 0#64 false jA:=by unfold qe;rw[if_neg (by simp[lJ])]
    have r2:oH n R cd k h ⟨rs,rv,rd,ra,ri⟩=R:=by unfold oH;rw[if_neg (by simp[lJ])]
    rw[r1,r2];simp only[go_sem,seval,M5,QB,l0,lz,t0,tz,m0,m1,lJ,EZ,mo];rfl
   obtain⟨i1,i2⟩:=Vb lJ;simp only[gv,aQ,decide_eq_true_eq]at i1;obtain⟨f,rfl⟩:=kZ i1.1;have hf:f<8:=ω
   have nf:(0:Int)<=(f:Int):=ω
   have CT:(f:Int)<8:=ω
   rcases i2 with F8|⟨F9|Lz,m3⟩
   .subst F8;have r1:qe n R f 12 h ⟨rs,rv,rd,ra,ri⟩=fL 0#64 false (Ba R f 8):=by unfold qe;rw[if_pos (by simp only[lJ]),if_neg ω,if_pos rfl,aL]
    have r2:oH n R f 12 h ⟨rs,rv,rd,ra,ri⟩=vM R f 8:=by unfold oH;rw[if_pos (by simp only[lJ]),if_neg ω,if_pos rfl,aL]
    rw[r1,r2];simp only[go_sem,seval,M5,QB,l0,lz,t0,tz,m0,m1,lJ,EZ,mo];refine fB 8 (λi=>([(1,.c (.i f)),(3,.c (.p 0 0 0)),(6,.c (.p 2 0 0)),(7,.c (.p 3 0 0)),(9,.c (.p 4 0 0)),(10,.c (.i i))],[.own (aH n (vM R f i)),.dead,.own (aH 0 Z8),.own (fL 0#64 false jA),.own (fL 0#64 false (Ba R f i))])) ?_ λi hi=>?_
    .exact Wk.wk (by simp[lo]) (by simp[Am.get]) (by simp[AV.aj,Sc.aj]) ⟨.inr rfl,.inl rfl,.inr rfl,.inr rfl,.inr rfl,trivial⟩ (ZX (Gj _ _ _) (Gj _ _ _) (Kk _ _ _ _) (Kk _ _ _ _))
    have ni:(0:Int)<=(i:Int):=ω
    have qh:(vM R f i).length=8:=by rw[Oc];exact hR
    have l4:=kK n qh;by_cases h8:i<8;rotate_left
    .obtain rfl:i=8:=ω
     have t4:(aH n (vM R f 8)).take 321=aH n (vM R f 8):=bQ ω;simp only[go_sem,seval,l4,lz,t4,tz,mo,al,a0,a1,ao]
    have ni8:(i:Int)<8:=ω
    have e1:aA ((i:Int)+1)=((i+1:Nat):Int):=by rw[kC ω];omega
    have g1:=G0 (n:=n) qh h8 hf;have g2:=Ys (n:=n) qh h8 hf pO;have g3:=aic 0#64 false (Ba R f i) h8 (fH (vM R f i) i f);have er:fV pO=[.b false,.b false,.b false,.u 0#64,.i 0]:=rfl;rw[er]at g2;simp only[fv,lf,jW]at g2 g3;have g6:∀m,(fV m).all Sc.one=true:=λm=>rfl;have b1:1+i*40+f*5+5<=321:=ω
    have b2:2+i*5+5<=42:=ω
    simp only[go_sem,seval,l4,al,ao,nf,CT,ni,ni8,g1,g2,g3,g6,b1,b2,e1,vT];exact⟨i+1,ω,ω,Wk.wk (by simp[lo]) (by simp[Am.get]) (by simp[AV.aj,Sc.aj]) ⟨.inr rfl,.inr rfl,.inr rfl,.inr rfl,.inr rfl,trivial⟩ (ZX (Gj _ _ _) (Gj _ _ _) (Kk _ _ _ _) (Kk _ _ _ _))⟩
   .subst F9;simp only[gv,aQ,decide_eq_true_eq]at m3;obtain⟨g,rfl⟩:=kZ m3.1;have zX:g<8:=ω
    have r1:qe n R f 13 g ⟨rs,rv,rd,ra,ri⟩=fL 0#64 false jA:=by unfold qe;rw[if_pos (by simp only[lJ]),if_pos rfl]
    have r2:oH n R f 13 g ⟨rs,rv,rd,ra,ri⟩=wN R f g (lY (fH R f g) ⟨rs,rv,rd,ra,ri⟩):=by unfold oH;rw[if_pos (by simp only[lJ]),if_pos rfl,aL,aL]
    rw[r1,r2];have g1:=G0 (n:=n) hR hf zX;have g2:=Ys (n:=n) hR hf zX (lY (fH R f g) ⟨rs,rv,rd,ra,ri⟩);simp only[fv]at g2;have ng:(0:Int)<=(g:Int):=ω
    have Gm:(g:Int)<8:=ω
    have CU:1+f*40+g*5+5<=321:=ω
    have l3:=kK n (B:=wN R f g (lY (fH R f g) ⟨rs,rv,rd,ra,ri⟩)) (by rw[QS];exact hR);have t3:(aH n (wN R f g (lY (fH R f g) ⟨rs,rv,rd,ra,ri⟩))).take 321=_:=bQ ω;generalize Im:fH R f g=sl at g1 g2 l3 t3;obtain⟨os,ov,od,oa,oi⟩:=sl;have es:fV ⟨os,ov,od,oa,oi⟩=[.b os,.b ov,.b od,.u oa,.i oi]:=rfl;rw[es]at g1;have g6:∀m,(fV m).all Sc.one=true:=λm=>rfl;simp only[go_sem,seval,M5,QB,l0,lz,t0,tz,m0,m1,lJ,EZ,mo,nf,CT,ng,Gm,CU,g1,g2,g6,vT,l3,t3,Im];repeat' apply cf
    all_goals first|decide|(exact λ_=>δ)|(intro hx;exfalso;omega)|exact λhx=>hx.2.elim|rfl
   .subst Lz;simp only[gv,aQ,decide_eq_true_eq]at m3;obtain⟨g,rfl⟩:=kZ m3.1;have zX:g<8:=ω
    have r1:qe n R f 14 g ⟨rs,rv,rd,ra,ri⟩=fL 0#64 (!(fH R f g).s) jA:=by unfold qe;rw[if_pos (by simp only[lJ]),if_neg ω,if_neg ω,aL,aL]
    have r2:oH n R f 14 g ⟨rs,rv,rd,ra,ri⟩=R:=by unfold oH;rw[if_pos (by simp only[lJ]),if_neg ω,if_neg ω]
    rw[r1,r2];have g1:(aH n R).getD (1+f*40+g*5) .any=.b (fH R f g).s:=azY hR hf zX;have ng:(0:Int)<=(g:Int):=ω
    have Gm:(g:Int)<8:=ω
    have CU:1+f*40+g*5+1<=321:=ω
    simp only[go_sem,seval,M5,QB,l0,lz,t0,tz,m0,m1,lJ,EZ,mo,nf,CT,ng,Gm,CU,g1];repeat' apply cf
    all_goals first|decide|(exact λ_=>δ)|(intro hx;exfalso;omega)|exact λhx=>hx.2.elim|rfl
  .simp at h
 .simp at h
def ajo(n cd k h:Int)(rs:Bool)(i:Int):Int:=if fk n cd k h rs i=true then(if k=12 then cd else h)else 0
def aDw(args:List AV)(H:AH):Option AV:=match args with
 |[.c (.p id 0 0),.c (.i cd),.g [.i k,.u _,.u _,.i _,.i _,.i _,.u _,.u _,.b _,.i h,.b rs,.b _,.b _,.u _,.i i,.i _,.u _,.i _,.u _]]=>match Af (hg H id)with
   |some (n,_)=>some (.t [.c (.i (ajo n cd k h rs i)),.c (.b (fk n cd k h rs i))])|none=>none
 |_=>none
def uM(n:Int)(B:List Row)(a b:Int):Rq:=if gv n a=true/\gv n b=true then fH B b.toNat a.toNat else pO
def GQ(args:List AV)(H:AH):Option AV:=match args with
 |[.c (.p id 0 0),.c (.i a),.c (.i b)]=>match Af (hg H id)with
   |some (n,B)=>if n<=8 then some (.g (fV (uM n B a b)))else none|none=>none
 |_=>none
theorem ayD{id:Nat}{n a b:Int}{B:List Row}{H:AH}(e:hg H id=.own (aH n B))(hB:B.length=8)(hn:n<=8):GQ [.c (.p id 0 0),.c (.i a),.c (.i b)] H=some (.g (fV (uM n B a b))):=by simp only[GQ,e,Ag hB,hn,if_true]
theorem atB:bh Tryz.prog 51 (λargs H=>(GQ args H).map λv=>(v,H)):=by
 refine jo (s:=GQ) (tq atw tn) Tryz.func51 rfl Tryz.results51 Tryz.ntmps51 ?_;intro args H v h b9 hH;unfold GQ at h;split at h
 .rename_i id a b;split at h
  .rename_i n B hm;split at h
   .rename_i hn;simp only[ar]at h;subst h;obtain⟨e,hB⟩:=Vd hm;have aD:id<H.length:=eu (by rw[e];rfl);have q:∀X x,Jq [.c (.p id 0 0),.c (.i x)] (H++X)=some (.c (.b (gv n x))):=λX x=>ayA (by rw[cB aD];exact e) hB;have gx:∀X,hg (H++X) id=.own (aH n B):=λX=>by rw[cB aD];exact e
    refine⟨by simp,rfl,?_⟩;have l0:=kK n hB;have er:fV pO=[.b false,.b false,.b false,.u 0#64,.i 0]:=rfl;cases ha:gv n a
    .have ev:uM n B a b=pO:=by unfold uM;rw[if_neg (by simp[ha])]
     rw[ev];simp only[go_sem,seval,q,ha,er];exact aC _ _
    cases hb:gv n b
    .have ev:uM n B a b=pO:=by unfold uM;rw[if_neg (by simp[hb])]
     rw[ev];simp only[go_sem,seval,q,ha,hb,er];exact aC _ _
    have ev:uM n B a b=fH B b.toNat a.toNat:=by unfold uM;rw[if_pos ⟨ha,hb⟩]
    rw[ev];have FL:=ha;have rJ:=hb;simp only[gv,aQ,decide_eq_true_eq]at FL rJ;obtain⟨f,rfl⟩:=kZ FL.1;obtain⟨t,rfl⟩:=kZ rJ.1;have hf:f<8:=ω
    have ht:t<8:=ω
    have nf:(0:Int)<=(f:Int):=ω
    have CT:(f:Int)<8:=ω
    have nt:(0:Int)<=(t:Int):=ω
    have nt8:(t:Int)<8:=ω
    have CU:1+t*40+f*5+5<=321:=ω
    have g1:=G0 (n:=n) hB ht hf;have g6:∀m,(fV m).all Sc.one=true:=λm=>rfl;have g7:∀m,(fV m).take 5=fV m:=λm=>rfl;simp only[aL];simp only[go_sem,seval,q,gx,l0,ha,hb,nf,CT,nt,nt8,CU,g1,g6,g7,vT];exact aC _ _
   .simp at h
  .simp at h
 .simp at h
def ES(n:Int)(B R:List Row):Prop:=∀i j:Nat,i<8->j<8->fH R i j=uM n B i j
theorem Q5{t t' f':Nat}(hB:B.length=8)(ht:t<8)(hf:f<8)(q:Rq):fH (wN B t f q) t' f'=if t=t'/\f=f' then q else fH B t' f':=by
 obtain⟨r,hr⟩:∃r,B[t]?=some r:=⟨_,cP ω⟩;unfold wN;rw[hr];simp only;unfold fH;rw[rq];by_cases h1:t=t'
 .subst h1;rw[if_pos rfl,if_pos ω,hr];simp only[rq];by_cases h2:f=f'
  .subst h2;rw[if_pos rfl,if_pos (by rw[r.2];exact hf)];simp
  .rw[if_neg h2];simp[h2]
 .rw[if_neg h1,if_neg (λh=>h1 h.1)]
theorem af3{R:List Row}(hR:R.length=8)(hf:f<8)(i:Nat)(hi:i<=8)(a b:Nat):fH (vM R f i) a b=if a<i/\b=f then pO else fH R a b:=by induction i with
 |zero=>rw[vM,if_neg ω]|succ i ih=>
   rw[vM,Q5 (by rw[Oc];exact hR) ω hf,ih ω];by_cases h1:i=a/\f=b
   .rw[if_pos h1,if_pos ω]
   .rw[if_neg h1];by_cases h2:a<i/\b=f
    .rw[if_pos h2,if_pos ω]
    .rw[if_neg h2,if_neg ω]
theorem af4{t g:Nat}(hB:B.length=8)(hf:f<8):fH (B.set f jA) t g=if t=f then pO else fH B t g:=by
 unfold fH;rw[rq];by_cases h:f=t
 .subst h;rw[if_pos rfl,if_pos ω,if_pos rfl];simp only[jA];by_cases hg:g<8
  .rw[Dm,if_pos hg];rfl
  .rw[Dm,if_neg hg];rfl
 .rw[if_neg h,if_neg (λe=>h e.symm)]
theorem akK{R:List Row}(hR:R.length=8)(hf:f<8)(i:Nat)(hi:i<=8)(j:Nat)(hj:j<8):(Ba R f i).1[j]?=some (if j<i then fH R j f else pO):=by induction i with
 |zero=>
 rw[Ba,if_neg ω];simp only[jA];rw[Dm,if_pos hj]|succ i ih=>
   rw[Ba];unfold Qc;simp only;rw[rq];by_cases h:i=j
   .subst h;rw[if_pos rfl,if_pos (by rw[(Ba R f i).2];omega),if_pos ω,af3 hR hf i ω,if_neg ω]
   .rw[if_neg h,ih ω];by_cases h2:j<i
    .rw[if_pos h2,if_pos ω]
    .rw[if_neg h2,if_neg ω]
variable {j:Nat}
theorem WA{t:Nat}(hB:B.length=8)(ht:t<8)(hj:j<8):(rowAt B t).1[j]?=some (fH B t j):=by
 obtain⟨r,hr⟩:∃r,B[t]?=some r:=⟨_,cP ω⟩;unfold rowAt fH;rw[hr];simp only[Option.getD_some];rw[cP (by rw[r.2];exact hj)];rfl
def E7(n:Int)(B:List Row):Prop:=∀t f:Nat,t<8->f<8->((fH B t f).s=false->fH B t f=pO)/\(¬(gv n t=true/\gv n f=true)->fH B t f=pO)
theorem aqF{i:Int}{rs:Bool}(hm:fk n cd 13 h rs i=true):rs=true:=by
 unfold fk at hm;cases rs
 .split at hm
  .rw[if_neg δ,if_pos rfl,if_pos rfl]at hm;exact hm
  .simp at hm
 .rfl
theorem aqI{o q:Rq}(h:q.s=true):(lY o q).s=true:=by
 unfold lY;split
 .exact h
 .rfl
theorem ame{R:List Row}{k:Int}{q:Rq}(hB:B.length=8)(hR:R.length=8)(hn:n<=8)(ht:ES n B R)(hz:E7 n B):ES n (nn n B cd k h q) (oH n R cd k h q)/\E7 n (nn n B cd k h q)/\nj n B cd k h q=qe n R cd k h q:=by
 by_cases hm:fk n cd k h q.s q.i=true;rotate_left
 .unfold nn oH nj qe;rw[if_neg hm,if_neg hm,if_neg hm,if_neg hm];exact⟨ht,hz,rfl⟩
 obtain⟨i1,i2⟩:=Vb hm;have i1':=i1;simp only[gv,aQ,decide_eq_true_eq]at i1';obtain⟨f,rfl⟩:=kZ i1'.1;have hf:f<8:=ω
 unfold nn oH nj qe;rw[if_pos hm,if_pos hm,if_pos hm,if_pos hm];rcases i2 with rfl|⟨rfl|rfl,m3⟩
 .rw[if_neg δ,if_pos rfl,if_neg δ,if_pos rfl,if_neg δ,if_pos rfl,if_neg δ,if_pos rfl,aL];refine⟨λi j hi hj=>?_,λt g Up zX=>?_,?_⟩
  .rw[af3 hR hf 8 ω];have hh:=ht i j hi hj;unfold uM at hh|-;rw[af4 hB hf];simp only[aL]at hh|-;by_cases hc:gv n (i:Int)=true/\gv n (j:Int)=true
   .rw[if_pos hc]at hh|-;by_cases h1:j=f
    .rw[if_pos ⟨hi,h1⟩,if_pos h1]
    .rw[if_neg (λe=>h1 e.2),if_neg h1,hh]
   .rw[if_neg hc]at hh|-;split
    .rfl
    .exact hh
  .rw[af4 hB hf];by_cases h1:t=f
   .rw[if_pos h1];exact⟨λ_=>rfl,λ_=>rfl⟩
   .rw[if_neg h1];exact hz t g Up zX
  .congr 1;apply Subtype.ext;apply wX;intro j;by_cases hj:j<8
   .rw[WA hB hf hj,akK hR hf 8 ω j hj,if_pos hj,ht j f hj hf];unfold uM;simp only[aL];by_cases hc:gv n (j:Int)=true/\gv n (f:Int)=true
    .rw[if_pos hc]
    .rw[if_neg hc,(hz f j hf hj).2 (λe=>hc ⟨e.2,e.1⟩)]
   .rw[kf (by rw[(rowAt B f).2];omega),kf (by rw[(Ba R f 8).2];omega)]
 .have LQ:=m3;simp only[gv,aQ,decide_eq_true_eq]at LQ;obtain⟨g,rfl⟩:=kZ LQ.1;have hg:g<8:=ω
  rw[if_pos rfl,if_pos rfl,if_pos rfl,if_pos rfl,aL,aL];have hs:=aqF hm;have e0:fH R f g=fH B g f:=by
   rw[ht f g hf hg];unfold uM;rw[if_pos ⟨i1,m3⟩,aL,aL]
  rw[e0];generalize hq:lY (fH B g f) q=q';have hq':q'.s=true:=by rw[<-hq];exact aqI hs
  refine⟨λi j hi hj=>?_,λt w Up hw8=>?_,rfl⟩
  .rw[Q5 hR hf hg];have hh:=ht i j hi hj;unfold uM at hh|-;rw[Q5 hB hg hf];simp only[aL]at hh|-;by_cases hc:f=i/\g=j
   .obtain⟨rfl,rfl⟩:=hc;rw[if_pos ⟨rfl,rfl⟩,if_pos ⟨i1,m3⟩,if_pos ⟨rfl,rfl⟩]
   .rw[if_neg hc];by_cases hd:gv n (i:Int)=true/\gv n (j:Int)=true
    .rw[if_pos hd]at hh|-;rw[if_neg (λe=>hc ⟨e.2,e.1⟩)];exact hh
    .rw[if_neg hd]at hh|-;exact hh
  .rw[Q5 hB hg hf];by_cases hc:g=t/\f=w
   .obtain⟨rfl,rfl⟩:=hc;rw[if_pos ⟨rfl,rfl⟩];exact⟨λe=>(by rw[hq']at e;exact absurd e δ),λe=>absurd ⟨m3,i1⟩ e⟩
   .rw[if_neg hc];exact hz t w Up hw8
 .have LQ:=m3;simp only[gv,aQ,decide_eq_true_eq]at LQ;obtain⟨g,rfl⟩:=kZ LQ.1;have hg:g<8:=ω
  rw[if_neg δ,if_neg δ,if_neg δ,if_neg δ,if_neg δ,if_neg δ,if_neg δ,if_neg δ,aL,aL];have e0:fH R f g=fH B g f:=by
   rw[ht f g hf hg];unfold uM;rw[if_pos ⟨i1,m3⟩,aL,aL]
  refine⟨ht,hz,?_⟩;rw[e0];congr 1;have:=(hz g f hg hf).1;cases hs:(fH B g f).s
  .rw[this hs];rfl
  .cases he:vV (fH B g f) pO
   .rfl
   .rw[abb.mp he]at hs;exact absurd hs δ
theorem aCC(n:Int):E7 n Z8:=by
 intro t f ht hf;have:fH Z8 t f=pO:=by
  unfold fH Z8;rw[Dm,if_pos ht];simp only[jA];rw[Dm,if_pos hf];rfl
 exact⟨λ_=>this,λ_=>this⟩
theorem aBf(n:Int):ES n Z8 Z8:=by
 have z:∀t f:Nat,t<8->f<8->fH Z8 t f=pO:=λt f ht hf=>by
  unfold fH Z8;rw[Dm,if_pos ht];simp only[jA];rw[Dm,if_pos hf];rfl
 intro i j hi hj;rw[z i j hi hj];unfold uM;split
 .rw[aL,aL,z j i hj hi]
 .rfl
theorem ama(n:Int)(B:List Row)(cd k h:Int)(q:Rq):∃g r,nj n B cd k h q=fL 0#64 g r:=by
 unfold nj;repeat' split
 all_goals exact⟨_,_,rfl⟩
theorem anT:je Tryz.prog 12 73=some (Tg.n::Tg.q::(bD 8 [Tg.q,.q,.q,.n,.n]).flatten):=κ
def Nd(args:List AV):Option AV:=match args with|[.c (.i k)]=>some (.c (.i (fi k)))|_=>none
theorem afL{k}:Nd [.c (.i k)]=some (.c (.i (fi k))):=rfl
theorem adI:cK Tryz.prog 33 Nd:=by
 refine cR tn Tryz.func33 rfl Tryz.results33 Tryz.ntmps33 ?_;intro args v h;unfold Nd at h;split at h
 .rename_i k;simp only[ar]at h;subst h;refine⟨by simp,rfl,rfl,?_⟩;by_cases h1:k<0
  .have e:fi k=0:=by unfold fi;rw[if_pos ω]
   simp only[go_sem,seval,h1,e]
  by_cases h2:21<=k
  .have e:fi k=0:=by unfold fi;rw[if_neg ω,if_neg ω,if_neg ω,if_neg ω,if_neg ω,if_neg ω]
   simp only[go_sem,seval,h1,h2,e]
  .have:k=0\/k=1\/k=2\/k=3\/k=4\/k=5\/k=6\/k=7\/k=8\/k=9\/k=10\/k=11\/k=12\/k=13\/k=14\/k=15\/k=16\/k=17\/k=18\/k=19\/k=20:=ω
   rcases this with rfl|rfl|rfl|rfl|rfl|rfl|rfl|rfl|rfl|rfl|rfl|rfl|rfl|rfl|rfl|rfl|rfl|rfl|rfl|rfl|rfl;all_goals simp only[go_sem,seval]
   all_goals rfl
 .simp at h
def pQ:List Sc:=Eg++((.i 0::kX)++aH 0 Z8)
theorem wQ:zT Tryz.prog 68=some pQ:=κ
theorem rX:pQ.length=1029:=by
 have l0:(aR (kQ 0 0)).length=18:=rfl;unfold pQ kX;rw[cj,cj,cT,cj,cT,cj,l0,yS,kK 0 zx];rfl
theorem uQ:cQ 1029 pQ=[]:=kN (by rw[rX];exact aB _)
structure Xw where
 id:Nat
 u:Sc
 v:Sc
 R:List Row
def aP(x:Wd)(y:Xw):List Sc:=eZ x.w.h x.w.t x.w.n x.w.b y.id x.w.B.length x.w.R++(bj x.D.b x.D.t y.u y.v++aH x.n y.R)
structure XI(H:AH)(x:Wd)(y:Xw):Prop where
 rd:∃m,vJ H y.id x.w.B.length x.w.B.length (cH x.w.R) x.w.B m x.w.R
 bs:mH x.D.b
 rp:jm H x.D.t y.u y.v
 bu:y.u.aj H.length=true
 bv:y.v.aj H.length=true
 l:y.R.length=8
 n8:x.n<=8
 h8:x.w.h<=8
 hb:x.D.b.n=x.w.h
 iu:aJ y.u≠some y.id
 iv:aJ y.v≠some y.id
def Wd.co(x:Wd):Wd:=⟨⟨0,0,x.w.h,x.w.t,x.w.n,x.w.b,x.w.B,x.w.R,.az,[]⟩,⟨0,0,x.D.b,x.D.t,.az,.az⟩,x.n,[]⟩
structure Kg(S A B C:List Sc)(h:Int):Prop where
 la:A.length=21
 lb:B.length=687
 lc:C.length=321
 l:S.length=1029
 t:bJ 1029 S=S
 d:cQ 1029 S=[]t21:bJ 21 S=A
 uN:bJ 687 (cQ 21 S)=B
 tc:bJ 321 (cQ 708 S)=C
 d21:cQ 21 S=B++C
 JO:bJ 708 S=A++B
 xp:cQ 708 S=C
 ta:bJ 21 A=A
 tb:bJ 687 B=B
 JQ:bJ 321 C=C
 g:S.getD 0 .any=.i h
theorem JZ{A B r:List Sc}(la:A.length=21)(lb:B.length=687)(lc:C.length=321)(e:A=.i h::r):Kg (A++(B++C)) A B C h:=by
 have l:(A++(B++C)).length=1029:=by simp only[cj,la,lb,lc]
 have ab:(A++B).length=708:=by simp only[cj,la,lb]
 have d21:cQ 21 (A++(B++C))=B++C:=vE la;have xp:cQ 708 (A++(B++C))=C:=by rw[<-fv];exact vE ab
 have tc:bJ 321 C=C:=bQ ω;exact⟨la,lb,lc,l,bQ ω,kN ω,nQ la,by rw[d21];exact nQ lb,by rw[xp];exact tc,d21,by rw[<-fv];exact nQ ab,xp,bQ ω,bQ ω,tc,by rw[e];rfl⟩
variable {y y':Xw}{x':Wd}
section
variable {H:AH}
theorem XI.gV(h:XI H x y):Kg (aP x y) (eZ x.w.h x.w.t x.w.n x.w.b y.id x.w.B.length x.w.R) (bj x.D.b x.D.t y.u y.v) (aH x.n y.R) x.w.h:=by
 obtain⟨m,hd⟩:=h.rd;exact JZ (BS hd.R) (P5 h.bs _ _ _) (kK _ h.l) (r:=.i x.w.t::.i x.w.n::.i x.w.b::.sl y.id 0 x.w.B.length x.w.B.length::cH x.w.R) rfl
theorem XI.one(h:XI H x y):(aP x y).all Sc.one=true:=by
 unfold aP;rw[fJ,fJ,C4,IV _ _ (j9 h.rp.hx) (j9 h.rp.hy),BH];rfl
theorem XI.app(h:XI H x y)(X:AH):XI (H++X) x y:=by
 obtain⟨m,hd⟩:=h.rd;exact⟨⟨m,hd.app X⟩,h.bs,C6 h.rp h.bu h.bv,Sc.ic h.bu (by simp),Sc.ic h.bv (by simp),h.l,h.n8,h.h8,h.hb,h.iu,h.iv⟩
theorem XI.aD(h:XI H x y):y.id<H.length:=by
 obtain⟨m,hd⟩:=h.rd;exact eu (by rw[hd.o];rfl)
theorem XI.aj(h:XI H x y):(aP x y).all (Sc.aj H.length)=true:=by
 unfold aP bj;rw[fJ,fJ,Wu h.aD,bK,aeL h.bu h.bv,Gj];rfl
theorem XI.uniq(h:XI H x y)(h':XI H x' y')(e:aP x y=aP x' y'):x.co=x'.co/\y=y':=by
 obtain⟨m,hd⟩:=h.rd;obtain⟨m',FQ⟩:=h'.rd;unfold aP at e;obtain⟨e1,e2⟩:=s5 e (by rw[BS hd.R,BS FQ.R]);obtain⟨e3,e4⟩:=s5 e2 (by rw[P5 h.bs,P5 h'.bs]);simp only[eZ,cL,Sc.i.injEq,Sc.sl.injEq]at e1;obtain⟨a1,a2,a3,a4,⟨a5,_,_,_⟩,a6⟩:=e1;have a7:=P8 hd.R FQ.R a6;have r1:=hd.o;rw[a5,FQ.o]at r1;simp only[ae.vec.injEq,true_and]at r1;have a8:=(Th r1).symm;obtain⟨b1,b2⟩:=IU h.bs h'.bs e3;obtain⟨b3,b4,b5⟩:=Qh h.rp h'.rp b2;have c1:=Ag (n:=x.n) h.l;rw[e4,Ag h'.l]at c1;simp only[ar,bE]at c1;obtain⟨c2,c3⟩:=c1;constructor
 .unfold Wd.co;rw[a1,a2,a3,a4,a7,a8,b1,b3,c2]
 .cases y;cases y';simp only at a5 b4 b5 c3;subst a5 b4 b5 c3;rfl
def aeF(args:List AV)(H:AH)(v:AV):Prop:=∀x y h,args=[.g (aP x y),.c (.i h)]->XI H x y->v=.c (.b (decide (0<=h)&&decide (h<x.w.h)))
def Nf:List AV->AH->Option AV:=lk Tryz.prog [] 34 aeF
theorem auX:bh Tryz.prog 34 (λargs H=>(Nf args H).map λv=>(v,H)):=oL tn Tryz.func34 rfl Tryz.results34 Tryz.ntmps34
theorem azj(hI:XI H x y):Nf [.g (aP x y),.c (.i h)] H=some (.c (.b (decide (0<=h)&&decide (h<x.w.h)))):=by
 have:∃v,Nf [.g (aP x y),.c (.i h)] H=some v/\aeF [.g (aP x y),.c (.i h)] H v:=by
  unfold Nf;apply mM (v:=.c (.b (decide (0<=h)&&decide (h<x.w.h)))) Tryz.func34 rfl Tryz.results34 Tryz.ntmps34 (by simp)
  .exact λ_ _=>rfl
  .intro _ _;have sg:=hI.gV;have l:=sg.l;have t:=sg.t;have d:=sg.d;have g:=sg.g;have o:=hI.one;generalize aP x y=S at*;by_cases h1:0<=h;all_goals simp only[go_sem,seval,l,t,d,g,o,h1]
   all_goals exact aC _ _
  .intro x' y' h' he mE;simp only[cL,AV.g.injEq,AV.c.injEq,Sc.i.injEq,and_true]at he;obtain⟨e1,rfl⟩:=he;have e2:x.co.w.h=x'.co.w.h:=congrArg (λz=>z.w.h) (hI.uniq mE e1).1;have e3:x.w.h=x'.w.h:=e2;rw[e3]
 obtain⟨v,h1,h2⟩:=this;rw[h1,h2 x y h rfl hI]
theorem awB{R:List Sl}(h:R.length=8):Ra (cH R):=⟨ub h,by unfold cH;simp[Sc.pf],BT⟩
def aeG(args:List AV)(H:AH)(v:AV):Prop:=∀x y h q,args=[.g (aP x y),.c (.i h),.g (cG q)]->XI H x y->v=.c (.b (dx x h q))
def JG:List AV->AH->Option AV:=lk Tryz.prog [(33,.pu Nd),(34,.fq Nf),(35,.fq ED),(36,.fq JA),(37,.pu M4)] 10 aeG
theorem auY:bh Tryz.prog 10 (λargs H=>(JG args H).map λv=>(v,H)):=oL (tu adI (tq auX (tq adC (tq adw (tu adD tn))))) Tryz.func10 rfl Tryz.results10 Tryz.ntmps10
theorem afM(hI:XI H x y)(hs:eC q.s):JG [.g (aP x y),.c (.i h),.g (cG q)] H=some (.c (.b (dx x h q))):=by
 have:∃v,JG [.g (aP x y),.c (.i h),.g (cG q)] H=some v/\aeG [.g (aP x y),.c (.i h),.g (cG q)] H v:=by
  unfold JG;apply mM (v:=.c (.b (dx x h q))) Tryz.func10 rfl Tryz.results10 Tryz.ntmps10 (by simp)
  .exact λ_ _=>rfl
  .intro _ _;obtain⟨lr,pr,ro⟩:=q.ok;obtain⟨m,hd⟩:=hI.rd;have sg:=hI.gV;have l:=sg.l;have t:=sg.t;have d:=sg.d;have g:=sg.g;have t21:=sg.t21;have uN:=sg.uN;have tc:=sg.tc;have la:=sg.la;have lb:=sg.lb;have lc:=sg.lc;have o:=hI.one;have ht:=λX=>azj (hI.app X) (h:=h);have wc:cG q=.i q.k::.u q.a::.u q.b::.i q.c::.i q.s::.i q.op::.u q.d::.u q.o::.b q.lv::q.r:=rfl;have rt:q.r.take 10=q.r:=rfl;have ge:=afL (k:=q.k);have bB:x.w.B.length=64*m:=hd.l;have m14:∀X,ED [.g (eZ x.w.h x.w.t x.w.n x.w.b y.id x.w.B.length x.w.R),.g (cG q)] (H++X)=some (.c (.b (oh m q.k q.a q.b q.c q.s q.op))):=λX=>by
    unfold eZ;rw[wc,bB];exact afC (awB hd.R) q.ok hs hd.m
   have U8:=λX=>afA (H:=H++X) hI.bs x.D.t (j9 hI.rp.hx) (j9 hI.rp.hy) (q:=q.Q) q.ok;rw[<-Ri]at U8;have m29:M4 [.g (aH x.n y.R),.c (.i h),.g (cG q)]=some (.c (.b (fk x.n h q.k q.h q.rs q.i))):=by
    have:=ab5 x.n hI.l;unfold cG Wa.r;rw[M5,if_pos this.1,this.2]
   generalize aP x y=S at*;generalize eZ x.w.h x.w.t x.w.n x.w.b y.id x.w.B.length x.w.R=A at*;generalize bj x.D.b x.D.t y.u y.v=B at*;generalize aH x.n y.R=C at*;rw[wc]at m14 U8 m29;by_cases k1:q.k<1
   .have g0:fi q.k=0:=by unfold fi;rw[if_pos k1]
    have e:dx x h q=false:=by unfold dx;rw[if_pos k1]
    rw[g0]at ge;rw[e];simp only[go_sem,seval,wc,lr,ro,rt,ge,l,t,d,o];exact aC _ _
   by_cases k8:q.k<=8
   .have g1:fi q.k=1:=by unfold fi;rw[if_neg k1,if_pos k8]
    rw[g1]at ge;have e:dx x h q=(oh m q.k q.a q.b q.c q.s q.op&&(decide (0<=h)&&decide (h<x.w.h))):=by
     unfold dx;rw[if_neg k1,if_pos k8];unfold iL;rw[U9 hd.m,bB,Bool.and_assoc];rfl
    rw[e];generalize oh m q.k q.a q.b q.c q.s q.op=z at*;obtain⟨y2,hy⟩:∃y2:Bool,y2=(decide (0<=h)&&decide (h<x.w.h)):=⟨_,rfl⟩;rw[<-hy]at ht|-;cases y2<;>cases z;all_goals simp only[go_sem,seval,wc,lr,ro,rt,ge,l,t,d,o,ht,m14,t21,la]
    all_goals exact aC _ _
   by_cases k3:q.k=12\/q.k=13\/q.k=14
   .have g1:fi q.k=3:=by unfold fi;rw[if_neg k1,if_neg k8,if_neg ω,if_pos ω]
    rw[g1]at ge;have e:dx x h q=fk x.n h q.k q.h q.rs q.i:=by unfold dx;rw[if_neg k1,if_neg k8,if_pos k3]
    rw[e];simp only[go_sem,seval,wc,lr,ro,rt,ge,l,t,d,o,m29,tc,lc];exact aC _ _
   by_cases k4:q.k=15\/q.k=16\/q.k=17
   .have g1:fi q.k=4:=by unfold fi;rw[if_neg k1,if_neg k8,if_neg ω,if_neg ω,if_pos ω]
    rw[g1]at ge;have e:dx x h q=true:=by unfold dx;rw[if_neg k1,if_neg k8,if_neg k3,if_pos k4]
    rw[e];simp only[go_sem,seval,wc,lr,ro,rt,ge,l,t,d,o];exact aC _ _
   have e:dx x h q=(kF x.D.b.n q.Q&&(!decide (q.k=11)||(decide (0<=h)&&decide (h<x.w.h)))):=by unfold dx;rw[if_neg k1,if_neg k8,if_neg k3,if_neg k4]
   rw[e];by_cases k20:20<q.k
   .have g0:fi q.k=0:=by unfold fi;rw[if_neg k1,if_neg k8,if_neg ω,if_neg ω,if_neg ω,if_neg ω]
    have e0:kF x.D.b.n q.Q=false:=by
     unfold kF;rw[if_neg (show¬(q.Q.k=9\/q.Q.k=10)from(show¬(q.k=9\/q.k=10)by omega))];exact decide_eq_false (show¬(q.k=11\/q.k=18\/q.k=19\/q.k=20)by omega)
    rw[g0]at ge;rw[e0,ph];simp only[go_sem,seval,wc,lr,ro,rt,ge,l,t,d,o];exact aC _ _
   have gg:fi q.k=2\/fi q.k=5:=by
    unfold fi;rw[if_neg k1,if_neg k8];by_cases c:q.k<=11
    .exact .inl (if_pos c)
    .rw[if_neg c,if_neg ω,if_neg ω,if_pos ω];exact .inr rfl
   generalize kF x.D.b.n q.Q=bb at*;obtain⟨y2,hy⟩:∃y2:Bool,y2=(decide (0<=h)&&decide (h<x.w.h)):=⟨_,rfl⟩;rw[<-hy]at ht|-;rcases Classical.propComplete (q.k=11)with F7|F7;all_goals rcases gg with gg|gg
   all_goals rw[gg]at ge
   all_goals cases bb
   all_goals simp only[go_sem,seval,wc,lr,ro,rt,ge,l,t,d,o,U8,ht,F7,uN,lb]
   all_goals exact aC _ _
  .intro x' y' h' q' he mE;simp only[cL,AV.g.injEq,AV.c.injEq,Sc.i.injEq,and_true]at he;obtain⟨e1,rfl,e3⟩:=he;obtain rfl:=Nq e3;have e2:dx x.co h q=dx x'.co h q:=congrArg (λz=>dx z h q) (hI.uniq mE e1).1;exact congrArg (λb=>AV.c (.b b)) e2
 obtain⟨v,h1,h2⟩:=this;rw[h1,h2 x y h q rfl hI]
end
def jG(x:Wd)(y:Xw)(h:Int)(q:Wa):List Sc:=if dx x h q=true then(if q.k<=8 then bU (wD x.w h q.K) (wG x.w h q.K)else if n9 q.k then qe x.n y.R h q.k q.h q.R else if DY q.k then bU 0#64 false else bU (fD x.D h q.Q) false)else bU 0#64 false
def xR(x:Wd)(y:Xw)(h:Int)(q:Wa):List Row:=if n9 q.k then oH x.n y.R h q.k q.h q.R else y.R
def ek(x:Wd)(h:Int)(q:Wa):Wd:=oJ x h q .az .az
theorem Rt(x:Wd)(y:Xw)(h:Int)(q:Wa):∃d g r,jG x y h q=fL d g r:=by
 have e0:∀d g,bU d g=fL d g jA:=λd g=>by
  unfold bU fL;rw[Qa];rfl
 have e:∀n R k i j s,∃d g r,qe n R k i j s=fL d g r:=λn R k i j s=>by
  unfold qe;repeat' split
  all_goals exact⟨_,_,_,rfl⟩
 unfold jG;repeat' split
 all_goals first|exact⟨_,_,_,e0 _ _⟩|exact e _ _ _ _ _ _
structure w9(H H1:AH)(x:Wd)(y:Xw)(h:Int)(q:Wa)(u v:Sc):Prop where
 xi:XI H1 (ek x h q) ⟨y.id,u,v,xR x y h q⟩len:H.length<=H1.length
 dj:∀k,k<H.length->k≠y.id->hg H1 k=hg H k
 nu:CS H y.u u
 nv:CS H y.v v
 nw:dX H H1
variable {k:Nat}
section
variable {H H1:AH}
theorem XI.Fq(h:XI H x y)(e1:x'.w.h=x.w.h)(e2:x'.w.B=x.w.B)(e3:x'.w.R=x.w.R)(e4:x'.D.b=x.D.b)(e5:x'.D.t=x.D.t)(e6:x'.n=x.n):XI H x' y:=by
 refine⟨?_,?_,?_,h.bu,h.bv,h.l,?_,?_,?_,h.iu,h.iv⟩
 .rw[e2,e3];exact h.rd
 .rw[e4];exact h.bs
 .rw[e5];exact h.rp
 .rw[e6];exact h.n8
 .rw[e1];exact h.h8
 .rw[e4,e1];exact h.hb
theorem HU(x:Wd)(h:Int)(q:Wa):dx x.co h q=dx x h q:=rfl
theorem Tm(x:Wd)(h:Int)(q:Wa):j5 x.co h q=j5 x h q:=rfl
theorem To(x:Wd)(h:Int)(q:Wa):kH x.co h q=kH x h q:=rfl
theorem Tp(x:Wd)(h:Int)(q:Wa):flb x.co h q=flb x h q:=rfl
theorem Tr(x:Wd)(h:Int)(q:Wa):jJ x.co h q=jJ x h q:=rfl
theorem Rs(x:Wd)(y:Xw)(h:Int)(q:Wa):jG x.co y h q=jG x y h q:=rfl
theorem JY(x:Wd)(y:Xw)(h:Int)(q:Wa):xR x.co y h q=xR x y h q:=rfl
theorem agK(e0:x'.w.h=x.w.h)(e1:x'.w.t=x.w.t)(e7:x'.w.n=x.w.n)(e8:x'.w.b=x.w.b)(e2:x'.w.B=x.w.B)(e3:x'.w.R=x.w.R)(e4:x'.D.b=x.D.b)(e5:x'.D.t=x.D.t)(e6:x'.n=x.n):aP x' y=aP x y:=by
 unfold aP;rw[e0,e1,e7,e8,e2,e3,e4,e5,e6]
theorem agJ:aP (ek x.co h q) y=aP (ek x h q) y:=agK rfl rfl rfl rfl (Tm x h q) (To x h q) (Tp x h q) (Tr x h q) rfl
theorem w9.co{v:Sc}(s:w9 H H1 x y h q u v):w9 H H1 x.co y h q u v:=⟨by rw[JY];exact s.xi.Fq rfl (Tm x h q) (To x h q) (Tp x h q) (Tr x h q) rfl,s.len,s.dj,s.nu,s.nv,s.nw⟩
theorem w9.oc{v:Sc}(s:w9 H H1 x.co y h q u v):w9 H H1 x y h q u v:=⟨by rw[<-JY];exact s.xi.Fq rfl (Tm x h q).symm (To x h q).symm (Tp x h q).symm (Tr x h q).symm rfl,s.len,s.dj,s.nu,s.nv,s.nw⟩
def Wm(args:List AV)(H:AH)(v:AV)(H1:AH):Prop:=∀x y h q,args=[.g (aP x y),.c (.i h),.g (cG q)]->XI H x y->∃u w,v=.t [.g (aP (ek x h q) ⟨y.id,u,w,xR x y h q⟩),.g (jG x y h q),.c (.b (dx x h q))]/\w9 H H1 x y h q u w
def wM:List AV->AH->Option (AV×AH):=sd Tryz.prog [(10,.fq JG),(33,.pu Nd),(41,.fp Db),(42,.fp sL),(43,.pu M0)] 12 Wm
theorem auW:bh Tryz.prog 12 wM:=yw (tq auY (tu adI (tp atP (tp at7 (tu at9 tn))))) Tryz.func12 rfl Tryz.results12 Tryz.ntmps12
theorem Nu{v:AV}(hI:XI H x y)(h1:v=.t [.g (aP (ek x h q) ⟨y.id,u,w,xR x y h q⟩),.g (jG x y h q),.c (.b (dx x h q))])(h2:w9 H H1 x y h q u w):Wm [.g (aP x y),.c (.i h),.g (cG q)] H v H1:=by
 intro x' y' h' q' he mE;simp only[cL,AV.g.injEq,AV.c.injEq,Sc.i.injEq,and_true]at he;obtain⟨e1,rfl,e3⟩:=he;obtain rfl:=Nq e3;obtain⟨ec,rfl⟩:=hI.uniq mE e1;refine⟨u,w,?_,?_⟩
 .rw[<-agJ (x:=x'),<-Rs x',<-JY x',<-HU x',<-ec,JY,agJ,Rs,HU];exact h1
 .have:=h2.co;rw[ec]at this;exact this.oc
theorem w9.same(hI:XI H x y)(X:AH)(hX:(X.all λo=>o.live=false||o.owned)=true)(eB:j5 x h q=x.w.B)(eR:kH x h q=x.w.R)(eM:xR x y h q=y.R)(eb:flb x h q=x.D.b)(et:jJ x h q=x.D.t):w9 H (H++X) x y h q y.u y.v/\aP (ek x h q) ⟨y.id,y.u,y.v,xR x y h q⟩=aP x y:=by
 have e:(⟨y.id,y.u,y.v,xR x y h q⟩:Xw)=y:=by rw[eM]
 rw[e];exact⟨⟨by rw[e];exact(hI.app X).Fq rfl eB eR eb et rfl,by simp,λk hk _=>cB hk,BJ,BJ,jb hX⟩,agK rfl rfl rfl rfl eB eR eb et rfl⟩
theorem aB4(hI:XI H x y)(hm:dx x h q=false):j5 x h q=x.w.B/\kH x h q=x.w.R/\xR x y h q=y.R/\flb x h q=x.D.b/\jJ x h q=x.D.t:=by
 unfold dx at hm;by_cases k8:q.k<=8
 .have ok:iL x.w h q.K=false:=by
   by_cases k1:q.k<1
   .unfold iL;cases hf:np q.K.k q.K.a q.K.c q.K.s q.K.op
    .rfl
    .have:=KP hf;unfold fi at this;rw[if_pos (show q.K.k<1 from k1)]at this;omega
   .rw[if_neg k1,if_pos k8]at hm;exact hm
  have eW:iC x.w h q.K=none:=by unfold iC;rw[if_neg (by simp[ok])]
  refine⟨?_,?_,?_,?_,?_⟩
  .unfold j5 wB;rw[if_pos k8,eW]
  .unfold kH wR;rw[if_pos k8,if_neg (by simp[ok])]
  .unfold xR;rw[if_neg (show¬n9 q.k by unfold n9;omega)]
  .unfold flb;rw[if_neg ω]
  .unfold jJ;rw[if_neg ω]
 rw[if_neg ω,if_neg k8]at hm;refine⟨by unfold j5;rw[if_neg k8],by unfold kH;rw[if_neg k8],?_,?_,?_⟩
 .unfold xR;split
  .rename_i hk;rw[if_pos (show q.k=12\/q.k=13\/q.k=14 from hk)]at hm;unfold oH;show(if fk x.n h q.k q.h q.rs q.i=true then _ else _)=_;rw[if_neg (by simp[hm])]
  .rfl
 all_goals first|unfold flb|unfold jJ
 all_goals split
 all_goals first|rfl|skip
 all_goals
  rename_i hk;obtain⟨_,n1,n2⟩:=hk;rw[if_neg (show¬(q.k=12\/q.k=13\/q.k=14)from n1),if_neg (show¬(q.k=15\/q.k=16\/q.k=17)from n2)]at hm;have bo:eY x.D.b.n h q.Q=false:=by
   unfold eY;rw[hI.hb]at hm|-;have:q.Q.k=q.k:=rfl;rw[this];revert hm;cases kF x.w.h q.Q<;>by_cases c1:q.k=11<;>by_cases c2:0<=h<;>by_cases c3:h<x.w.h<;>simp[c1,c2,c3]<;>omega
  first|(unfold dE;rw[if_neg (by simp[bo])])|(unfold dP;rw[if_neg (by simp[bo])])
theorem UO{B b:List Int}(h1:∀x∈B,0<=x/\x<=255)(h2:∀x∈b,0<=x/\x<=255):∀x∈gF B k b,0<=x/\x<=255:=λx hx=>by
 unfold gF at hx;rw[wY,wY]at hx;rcases hx with(hx|hx)|hx
 .exact h1 x (List.mem_of_mem_take hx)
 .exact h2 x hx
 .exact h1 x (List.mem_of_mem_drop hx)
theorem apq{B:List Int}{b:BitVec 64}(h:∀y∈B,0<=y/\y<=255):∀y∈kU B a b c s v,0<=y/\y<=255:=by
 have lb:∀(v:BitVec 64)(n:Nat),∀y∈iV v n,0<=y/\y<=255:=λv n y hy=>by
  unfold iV at hy;rw[List.mem_map]at hy;obtain⟨i,_,rfl⟩:=hy;exact apu
 unfold kU;split
 .exact UO h (lb _ _)
 .exact UO (UO h (lb _ _)) (lb _ _)
theorem agw{z:Fw}{q:Ak}(hb:∀y∈z.B,0<=y/\y<=255):∀y∈wB z h q,0<=y/\y<=255:=by
 unfold wB;split
 .exact apq hb
 .exact hb
theorem ai3{D:Bd}(h:nS D.b)(q:Aq):nS (nU D q):=by
 unfold nU;repeat' split
 all_goals first
 |exact h|exact ZR h _|exact Sq h _ _|exact h.pk (P0 h.k _ _) (PZ _ _ _)|exact h.ck (N6 h.c _) (aam _ _)
theorem ai2{D:Bd}(h:nS D.b)(i:Int)(q:Aq):nS (dE D i q):=by
 unfold dE;split
 .exact ZP (ai3 h q) _
 .exact h
theorem afK (hI:XI H x y) (la':x.D.t.A.length < 1000000) (Py:x.D.t.B.length < 1000000) (hs:eC q.s) :
 ∃u w H1,wM [.g (aP x y),.c (.i h),.g (cG q)] H=some (.t [.g (aP (ek x h q) ⟨y.id,u,w,xR x y h q⟩),.g (jG x y h q),.c (.b (dx x h q))],H1)/\w9 H H1 x y h q u w:=by
 have:∃v H1,wM [.g (aP x y),.c (.i h),.g (cG q)] H=some (v,H1)/\H.length<=H1.length/\Wm [.g (aP x y),.c (.i h),.g (cG q)] H v H1:=by
  obtain ⟨lr,pr,ro⟩:=q.ok
  obtain ⟨m,hd⟩:=hI.rd
  have sg:=hI.gV
  have l:=sg.l
  have t:=sg.t
  have d:=sg.d
  have g:=sg.g
  have o:=hI.one
  have lq:(cG q).length=19:=rfl
  have tq:(cG q).take 19=cG q:=rfl
  have oq:(cG q).all Sc.one=true:=rfl
  have kq:(cG q).getD 0 .any=.i q.k:=rfl
  have ge:=afL (k:=q.k)
  have my:=λX=>afM (hI.app X) (h:=h) (q:=q) hs
  have zA:(.u 0#64::.b false::dC:List Sc)=bU 0#64 false:=rfl
  cases aM:dx x h q
  .obtain ⟨e1,e2,e3,e4,e5⟩:=aB4 hI aM
   have ea:jG x y h q=bU 0#64 false:=by unfold jG;rw [aM];rfl
   rw [aM] at my
   obtain ⟨s1,s2⟩:=w9.same hI [.own (aP x y),.own (cG q),.own (aP x y),.own (bU 0#64 false)] rfl e1 e2 e3 e4 e5
   unfold wM
   apply ie (v:=.t [.g (aP x y),.g (bU 0#64 false),.c (.b false)]) (H1:=H++[.own (aP x y),.own (cG q),.own (aP x y),.own (bU 0#64 false)]) Tryz.func12 rfl Tryz.results12 Tryz.ntmps12 (by simp)
   .intro _ _
    generalize hW:cG q=W at *
    generalize hS:aP x y=S at *
    simp only [go_sem,seval,lq,tq,oq,l,t,d,o,my,wQ,rX,uQ]
    --SHOW
    exact aI
   .simp
   .exact Nu hI (by rw [s2,ea,aM]) s1
  rw [aM] at my
  have lz:=rX
  have dz:=uQ
  have eA2:∀A:List Sc,A.length=42->cQ 42 A=[]:=λA h=>kN ω
  have a0l:(bU 0#64 false).length=42:=Kj _ _
  by_cases k4:DY q.k
  .have LA:q.k=15\/q.k=16\/q.k=17:=k4
   have n8:¬q.k<=8:=ω
   have n3:¬n9 q.k:=by unfold n9;omega
   have g4:fi q.k=4:=by unfold fi;rw [if_neg ω,if_neg n8,if_neg ω,if_neg ω,if_pos ω]
   rw [g4] at ge
   have ea:jG x y h q=bU 0#64 false:=by unfold jG;rw [aM,if_pos rfl,if_neg n8,if_neg n3,if_pos k4]
   obtain ⟨s1,s2⟩:=w9.same hI (h:=h) (q:=q) [.own (aP x y),.own (cG q),.own (aP x y),.own (bU 0#64 false)] rfl (by unfold j5;rw [if_neg n8]) (by unfold kH;rw [if_neg n8]) (by unfold xR;rw [if_neg n3]) (by unfold flb;rw [if_neg (λc=>c.2.2 k4)]) (by unfold jJ;rw [if_neg (λc=>c.2.2 k4)])
   unfold wM
   apply ie (v:=.t [.g (aP x y),.g (bU 0#64 false),.c (.b true)]) (H1:=H++[.own (aP x y),.own (cG q),.own (aP x y),.own (bU 0#64 false)]) Tryz.func12 rfl Tryz.results12 Tryz.ntmps12 (by simp)
   .intro _ _
    generalize hW:cG q=W at *
    generalize hS:aP x y=S at *
    simp only [go_sem,seval,lq,tq,oq,kq,l,t,d,o,my,ge,wQ,rX,uQ]
    exact aI
   .simp
   .exact Nu hI (by rw [s2,ea,aM]) s1
  by_cases k8:q.k<=8
  .have n3:¬n9 q.k:=by unfold n9;omega
   have hw:iL x.w h q.K=true:=by
    have:=aM
    unfold dx at this
    by_cases k1:q.k < 1
    .rw [if_pos k1] at this;simp at this
    .rw [if_neg k1,if_pos k8] at this;exact this
   have g1:fi q.k=1:=by
    have h1:=hw
    unfold iL at h1
    rw [aQ] at h1
    exact KP h1.1
   rw [g1] at ge
   have ea:jG x y h q=bU (wD x.w h q.K) (wG x.w h q.K):=by unfold jG;rw [aM,if_pos rfl,if_pos k8]
   obtain ⟨A1,KT⟩:∃A1,A1=eZ x.w.h x.w.t x.w.n x.w.b y.id x.w.B.length (wR x.w h q.K):=⟨_,rfl⟩
   obtain ⟨Q,hQ⟩:∃Q,Q=bU (wD x.w h q.K) (wG x.w h q.K):=⟨_,rfl⟩
   have al:Q.length=42:=by rw [hQ];exact Kj _ _
   have a1:Q.all Sc.one=true:=by rw [hQ];exact NM _ _
   have cJ:Q.take 42=Q:=bQ ω
   rw [<-hQ] at ea
   have hB:(wB x.w h q.K).length=x.w.B.length:=agx
   have hR:(wR x.w h q.K).length=8:=agy hd.R
   have lA1:A1.length=21:=by rw [KT];exact BS hR
   have oA1:A1.all Sc.one=true:=by rw [KT];exact C4
   have aN:Kg (A1++(bj x.D.b x.D.t y.u y.v++aH x.n y.R)) A1 (bj x.D.b x.D.t y.u y.v) (aH x.n y.R) x.w.h:=JZ lA1 sg.lb sg.lc (r:=.i x.w.t::.i x.w.n::.i x.w.b::.sl y.id 0 x.w.B.length x.w.B.length::cH (wR x.w h q.K)) (by rw [KT];rfl)
   have l2:=aN.l
   have t2:=aN.t
   have d21:=sg.d21
   have t21:=sg.t21
   have la:=sg.la
   have ta2:=aN.ta
   have aD:=hI.aD
   obtain ⟨K,hK⟩:∃K,K=H.set y.id (.vec 1 ((wB x.w h q.K).flatMap bR)):=⟨_,rfl⟩
   have lK:K.length=H.length:=by rw [hK,iR]
   have fd:∀X,Db [.g (eZ x.w.h x.w.t x.w.n x.w.b y.id x.w.B.length x.w.R),.c (.i h),.g (cG q)] (H++X)=some (.t [.g A1,.g Q,.c (.b true)],K++X):=λX=>by
    have e:=ayO (q1:=x.w.h) (q2:=x.w.t) (q3:=x.w.n) (q4:=x.w.b) (h:=h) (k:=q.k) (a:=q.a) (b:=q.b) (c:=q.c) (s:=q.s) (op:=q.op) (d:=q.d) (o:=q.o) (lv:=q.lv) (r:=q.r) (hd.app X) q.ok hs hI.h8
    have e1:wR (uo x.w.h x.w.t x.w.n x.w.b x.w.B x.w.R) h q.K=wR x.w h q.K:=rfl
    have e2:wD (uo x.w.h x.w.t x.w.n x.w.b x.w.B x.w.R) h q.K=wD x.w h q.K:=rfl
    have e3:wG (uo x.w.h x.w.t x.w.n x.w.b x.w.B x.w.R) h q.K=wG x.w h q.K:=rfl
    have e4:wB (uo x.w.h x.w.t x.w.n x.w.b x.w.B x.w.R) h q.K=wB x.w h q.K:=rfl
    have e5:iL (uo x.w.h x.w.t x.w.n x.w.b x.w.B x.w.R) h q.K=iL x.w h q.K:=rfl
    have eK:(⟨q.k,q.a,q.b,q.c,q.s,q.op,q.d,q.o,q.lv⟩:Ak)=q.K:=rfl
    rw [eK,e1,e2,e3,e4,e5,hw,<-hQ,<-KT,mg _ _ aD,<-hK] at e
    exact e
   have gH:∀X,hg (K++X) H.length=hg X 0:=λX=>by rw [<-lK,km]
   have gN:∀X n,hg (K++X) (H.length+n)=hg X n:=λX n=>by rw [<-lK,gM]
   have sH:∀X o,(K++X).set H.length o=K++X.set 0 o:=λX o=>by rw [<-lK,zd]
   have sN:∀X n o,(K++X).set (H.length+n) o=K++X.set n o:=λX n o=>by rw [<-lK,xS]
   obtain ⟨S',qf⟩:∃S',S'=A1++(bj x.D.b x.D.t y.u y.v++aH x.n y.R):=⟨_,rfl⟩
   rw [<-qf] at l2 t2
   have o2:S'.all Sc.one=true:=by
    rw [qf,fJ,fJ,oA1,IV _ _ (j9 hI.rp.hx) (j9 hI.rp.hy),BH];rfl
   have aCI:∀P:List Sc,P++cQ 21 (aP x y)=P++(bj x.D.b x.D.t y.u y.v++aH x.n y.R):=λP=>by rw [d21]
   have eS:A1++cQ 21 (aP x y)=S':=by rw [d21,qf]
   have es:aP (ek x h q) ⟨y.id,y.u,y.v,xR x y h q⟩=S':=by
    rw [qf,KT]
    have r1:xR x y h q=y.R:=if_neg n3
    have r2:j5 x h q=wB x.w h q.K:=if_pos k8
    have r3:kH x h q=wR x.w h q.K:=if_pos k8
    have r4:flb x h q=x.D.b:=if_neg (λc=>ω)
    have r5:jJ x h q=x.D.t:=if_neg (λc=>ω)
    show eZ x.w.h x.w.t x.w.n x.w.b y.id (j5 x h q).length (kH x h q)++(bj (flb x h q) (jJ x h q) y.u y.v++aH x.n (xR x y h q))=_
    rw [r1,r2,r3,r4,r5,hB]
   have zS:cQ 21 Eg=[]:=rfl
   have zS':Eg.length=21:=rfl
   unfold wM
   apply ie (v:=.t [.g S',.g Q,.c (.b true)]) (H1:=K++[.own S',.own (cG q),.own S',.own Q,.own A1,.own Q]) Tryz.func12 rfl Tryz.results12 Tryz.ntmps12 (by simp)
   .intro _ _
    generalize hW:cG q=W at *
    generalize hS:aP x y=S at *
    generalize eZ x.w.h x.w.t x.w.n x.w.b y.id x.w.B.length x.w.R=A0 at *
    simp only [go_sem,seval,lq,tq,oq,kq,l,t,d,o,my,ge,wQ,rX,uQ,t21,la,fd,gH,gN,sH,sN,lA1,oA1,ta2,al,a1,cJ,eS,l2,t2,o2]
    (repeat' first | apply cf | (intro c;exact absurd c ω) | (intro _;kernel_rfl) | kernel_rfl)
    exact aI
   .rw [cj,lK];omega
   .refine Nu hI (u:=y.u) (w:=y.v) (by rw [es,ea,aM]) ?_
    have r1:xR x y h q=y.R:=if_neg n3
    have r2:j5 x h q=wB x.w h q.K:=if_pos k8
    have r3:kH x h q=wR x.w h q.K:=if_pos k8
    have r4:flb x h q=x.D.b:=if_neg (λc=>ω)
    have r5:jJ x h q=x.D.t:=if_neg (λc=>ω)
    have kk:∀k,k < H.length->k≠y.id->∀X,hg (K++X) k=hg H k:=λk h1 h2 X=>by rw [cB ω,hK,ej (λc=>h2 c.symm)]
    have bm:∀(s:Sc) X,s.aj H.length=true->s.aj (K++X).length=true:=λs X hs=>Sc.ic hs (by rw [cj,lK];omega)
    refine ⟨?_,by rw [cj,lK];omega,λk h1 h2=>kk k h1 h2 _,BJ,BJ,fX (by rw [hK];exact jS λ_=>rfl) (jb rfl)⟩
    rw [r1]
    refine ⟨⟨m,?_,?_,?_,?_,hd.m,?_,?_,?_⟩,?_,?_,bm _ _ hI.bu,bm _ _ hI.bv,hI.l,hI.n8,hI.h8,?_,hI.iu,hI.iv⟩
    .show hg _ y.id=.vec 1 ((j5 x h q).flatMap bR)
     rw [cB ω,hK,iN aD,r2]
    .rfl
    .rfl
    .show (j5 x h q).length=_
     rw [r2,hB];exact hd.l
    .show ∀y∈j5 x h q,0<=y/\y<=255
     rw [r2];exact agw hd.nV
    .rfl
    .show (kH x h q).length=8
     rw [r3];exact hR
    .show mH (flb x h q)
     rw [r4];exact hI.bs
    .show jm _ (jJ x h q) y.u y.v
     rw [r5]
     exact WH hI.rp (λi hi=>kk i (rj hI.rp.hx hI.bu hi) (λc=>hI.iu (c ▸ hi)) _) (λi hi=>kk i (rj hI.rp.hy hI.bv hi) (λc=>hI.iv (c ▸ hi)) _)
    .show (flb x h q).n=x.w.h
     rw [r4];exact hI.hb
  by_cases k3:n9 q.k
  .have Ga:q.k=12\/q.k=13\/q.k=14:=k3
   have g3:fi q.k=3:=by unfold fi;rw [if_neg ω,if_neg k8,if_neg ω,if_pos ω]
   rw [g3] at ge
   have hm:fk x.n h q.k q.h q.rs q.i=true:=by
    have:=aM
    unfold dx at this
    rw [if_neg ω,if_neg k8,if_pos Ga] at this;exact this
   have ea:jG x y h q=qe x.n y.R h q.k q.h q.R:=by unfold jG;rw [aM,if_pos rfl,if_neg k8,if_pos k3]
   obtain ⟨C1,OR⟩:∃C1,C1=aH x.n (oH x.n y.R h q.k q.h q.R):=⟨_,rfl⟩
   obtain ⟨Q,hQ⟩:∃Q,Q=qe x.n y.R h q.k q.h q.R:=⟨_,rfl⟩
   obtain ⟨qd,qg,qr,Pg⟩:=Rt x y h q
   have al:Q.length=42:=by rw [hQ,<-ea,Pg];exact NO _ _ _
   have a1:Q.all Sc.one=true:=by rw [hQ,<-ea,Pg];exact NP _ _ _
   have cJ:Q.take 42=Q:=bQ ω
   rw [<-hQ] at ea
   have lC:(oH x.n y.R h q.k q.h q.R).length=8:=by rw [aa1];exact hI.l
   have lC1:C1.length=321:=by rw [OR];exact kK _ lC
   have oC1:C1.all Sc.one=true:=by rw [OR];exact BH _ _
   have tC1:bJ 321 C1=C1:=bQ ω
   have eQ:(⟨q.rs,q.rv,q.rd,q.va,q.i⟩:Rq)=q.R:=rfl
   have fd:M0 [.g (aH x.n y.R),.c (.i h),.g (cG q)]=some (.t [.g C1,.g Q,.c (.b true)]):=by
    have ii:Pr (aH x.n y.R):=⟨x.n,y.R,rfl,hI.l,hI.n8⟩
    unfold cG Wa.r
    rw [ay0,if_pos ii,eQ]
    unfold Me
    rw [Ag hI.l]
    show some (AV.t [.g (aH x.n (oH x.n y.R h q.k q.h q.R)),.g (qe x.n y.R h q.k q.h q.R),.c (.b (fk x.n h q.k q.h q.rs q.i))])=_
    rw [hm,<-OR,<-hQ]
   have JO:=sg.JO
   have tc:=sg.tc
   have xp:=sg.xp
   have lc:=sg.lc
   have JQ:=sg.JQ
   obtain ⟨S',qf⟩:∃S',S'=eZ x.w.h x.w.t x.w.n x.w.b y.id x.w.B.length x.w.R++(bj x.D.b x.D.t y.u y.v++C1):=⟨_,rfl⟩
   have aN:Kg S' (eZ x.w.h x.w.t x.w.n x.w.b y.id x.w.B.length x.w.R) (bj x.D.b x.D.t y.u y.v) C1 x.w.h:=by
    rw [qf]
    exact JZ sg.la sg.lb lC1 (r:=.i x.w.t::.i x.w.n::.i x.w.b::.sl y.id 0 x.w.B.length x.w.B.length::cH x.w.R) rfl
   have l2:=aN.l
   have t2:=aN.t
   have o2:S'.all Sc.one=true:=by
    rw [qf,fJ,fJ,C4,IV _ _ (j9 hI.rp.hx) (j9 hI.rp.hy),oC1];rfl
   have eS:bJ 708 (aP x y)++C1=S':=by rw [JO,qf,fv]
   have es:aP (ek x h q) ⟨y.id,y.u,y.v,xR x y h q⟩=S':=by
    have r1:xR x y h q=oH x.n y.R h q.k q.h q.R:=if_pos k3
    have r2:j5 x h q=x.w.B:=if_neg k8
    have r3:kH x h q=x.w.R:=if_neg k8
    have r4:flb x h q=x.D.b:=if_neg (λc=>c.2.1 k3)
    have r5:jJ x h q=x.D.t:=if_neg (λc=>c.2.1 k3)
    show eZ x.w.h x.w.t x.w.n x.w.b y.id (j5 x h q).length (kH x h q)++(bj (flb x h q) (jJ x h q) y.u y.v++aH x.n (xR x y h q))=_
    rw [r1,r2,r3,r4,r5,qf,OR]
   have z3:=kK 0 zx
   have dz3:cQ 321 (aH 0 Z8)=[]:=kN ω
   unfold wM
   apply ie (v:=.t [.g S',.g Q,.c (.b true)]) (H1:=H++[.own S',.own (cG q),.own S',.own Q,.own C1,.own Q]) Tryz.func12 rfl Tryz.results12 Tryz.ntmps12 (by simp)
   .intro _ _
    generalize hW:cG q=W at *
    generalize hS:aP x y=S at *
    generalize aH x.n y.R=C0 at *
    simp only [go_sem,seval,lq,tq,oq,kq,l,t,d,o,my,ge,wQ,rX,uQ,tc,lc,fd,lC1,oC1,tC1,EZ,z3,dz3,al,a1,cJ,eS,l2,t2,o2]
    (repeat' first | apply cf | (intro c;exact absurd c ω) | (intro _;kernel_rfl) | kernel_rfl)
    exact aI
   .simp
   .refine Nu hI (u:=y.u) (w:=y.v) (by rw [es,ea,aM]) ?_
    have r1:xR x y h q=oH x.n y.R h q.k q.h q.R:=if_pos k3
    refine ⟨?_,by simp,λk h1 _=>cB h1,BJ,BJ,jb rfl⟩
    rw [r1]
    have hX:=(hI.app [.own S',.own (cG q),.own S',.own Q,.own C1,.own Q]).Fq (x':=ek x h q) rfl (if_neg k8) (if_neg k8) (if_neg (λc=>c.2.1 k3)) (if_neg (λc=>c.2.1 k3)) rfl
    exact ⟨hX.rd,hX.bs,hX.rp,hX.bu,hX.bv,lC,hX.n8,hX.h8,hX.hb,hX.iu,hX.iv⟩
  have LA:¬(q.k=15\/q.k=16\/q.k=17):=k4
  have Ga:¬(q.k=12\/q.k=13\/q.k=14):=k3
  have hb:=aM
  unfold dx at hb
  rw [if_neg ω,if_neg k8,if_neg Ga,if_neg LA] at hb
  have bo:eY x.D.b.n h q.Q=true:=by
   unfold eY
   rw [hI.hb] at hb |-
   have:q.Q.k=q.k:=rfl
   rw [this]
   revert hb
   cases kF x.w.h q.Q <;> by_cases c1:q.k=11 <;> by_cases c2:0<=h <;> by_cases c3:h < x.w.h <;> simp [c1,c2,c3] <;> omega
  have gg:fi q.k=2\/fi q.k=5:=by
   have Bm:=hb
   rw [aQ] at Bm
   have vd:=Bm.1
   unfold kF at vd
   have eK:q.Q.k=q.k:=rfl
   rw [eK] at vd
   unfold fi
   by_cases c:q.k=9\/q.k=10
   .rw [if_neg ω,if_neg k8,if_pos ω];exact .inl rfl
   .rw [if_neg c] at vd
    have hb3:=of_decide_eq_true vd
    by_cases c2:q.k<=11
    .rw [if_neg ω,if_neg k8,if_pos c2];exact .inl rfl
    .rw [if_neg ω,if_neg k8,if_neg c2,if_neg ω,if_neg ω,if_pos ω];exact .inr rfl
  have ea:jG x y h q=bU (fD x.D h q.Q) false:=by unfold jG;rw [aM,if_pos rfl,if_neg k8,if_neg k3,if_neg k4]
  obtain ⟨S,hS⟩:∃S,S=aP x y:=⟨_,rfl⟩
  obtain ⟨W,hW⟩:∃W,W=cG q:=⟨_,rfl⟩
  have OU:=hI.app [.own S,.own W,.own pQ,.own (bU 0#64 false)]
  obtain ⟨u,w,K1,e1,st⟩:=ay3 OU.bs OU.rp OU.bu OU.bv la' Py h (q:=q.Q) q.ok
  have lO:(H++[ae.own S,.own W,.own pQ,.own (bU 0#64 false)]).length=H.length+4:=by simp
  have l1:H.length+4<=K1.length:=by
   obtain ⟨X,hX⟩:=st.ex
   rw [hX,cj,lO];omega
  have k1:∀j,j < H.length+4->hg K1 j=hg (H++[ae.own S,.own W,.own pQ,.own (bU 0#64 false)]) j:=λj hj=>by
   obtain ⟨X,hX⟩:=st.ex
   rw [hX,cB ω]
  obtain ⟨B1,DK⟩:∃B1,B1=bj (dE x.D h q.Q) (dP x.D h q.Q) u w:=⟨_,rfl⟩
  obtain ⟨Q,hQ⟩:∃Q,Q=bU (fD x.D h q.Q) false:=⟨_,rfl⟩
  have fd:sL [.g (bj x.D.b x.D.t y.u y.v),.c (.i h),.g W] (H++[.own S,.own W,.own pQ,.own (bU 0#64 false)])=some (.t [.g B1,.g Q,.c (.b true)],K1):=by
   rw [<-Ri,<-hW] at e1;rw [<-bo,DK,hQ];exact e1
  have Z4:mH (dE x.D h q.Q):=⟨ai2 hI.bs.ok h q.Q,av5 hI.bs.kI h q.Q⟩
  have al:Q.length=42:=by rw [hQ];exact Kj _ _
  have a1:Q.all Sc.one=true:=by rw [hQ];exact NM _ _
  have cJ:Q.take 42=Q:=bQ ω
  rw [<-hQ] at ea
  have Iy:B1.length=687:=by rw [DK];exact P5 Z4 _ _ _
  have oB1:B1.all Sc.one=true:=by rw [DK];exact IV _ _ (j9 st.rp.hx) (j9 st.rp.hy)
  have tB1:bJ 687 B1=B1:=bQ ω
  have uD:kX.length=686:=by unfold kX;rw [cj,cT,cj,yS];rfl
  have um:cQ 686 kX=[]:=kN ω
  have t21:=sg.t21
  have uN:=sg.uN
  have lb:=sg.lb
  have xp:=sg.xp
  obtain ⟨S',qf⟩:∃S',S'=eZ x.w.h x.w.t x.w.n x.w.b y.id x.w.B.length x.w.R++(B1++aH x.n y.R):=⟨_,rfl⟩
  have aN:Kg S' (eZ x.w.h x.w.t x.w.n x.w.b y.id x.w.B.length x.w.R) B1 (aH x.n y.R) x.w.h:=by
   rw [qf]
   exact JZ sg.la Iy sg.lc (r:=.i x.w.t::.i x.w.n::.i x.w.b::.sl y.id 0 x.w.B.length x.w.B.length::cH x.w.R) rfl
  have l2:=aN.l
  have t2:=aN.t
  have o2:S'.all Sc.one=true:=by
   rw [qf,fJ,fJ,C4,oB1,BH];rfl
  rw [<-hS] at l t d o g t21 uN xp my
  rw [<-hW] at lq tq oq kq my
  have eS:bJ 21 S++(B1++cQ 708 S)=S':=by rw [t21,xp,qf]
  have es:aP (ek x h q) ⟨y.id,u,w,xR x y h q⟩=S':=by
   have r1:xR x y h q=y.R:=if_neg k3
   have r2:j5 x h q=x.w.B:=if_neg k8
   have r3:kH x h q=x.w.R:=if_neg k8
   have r4:flb x h q=dE x.D h q.Q:=if_pos ⟨ω,k3,k4⟩
   have r5:jJ x h q=dP x.D h q.Q:=if_pos ⟨ω,k3,k4⟩
   show eZ x.w.h x.w.t x.w.n x.w.b y.id (j5 x h q).length (kH x h q)++(bj (flb x h q) (jJ x h q) u w++aH x.n (xR x y h q))=_
   rw [r1,r2,r3,r4,r5,qf,DK]
  obtain ⟨N,hN⟩:∃N,N=K1.length:=⟨_,rfl⟩
  have cg:∀{K:AH} {j:Nat} {o':ae},K.length=N->j < H.length+4->hg K j=o'->∀X,hg (K++X) j=o':=λh1 h2 h3 X=>by rw [cB ω];exact h3
  have gS:hg K1 H.length=.own S:=by rw [k1 _ ω,km];rfl
  have gA:hg K1 (H.length+1)=.own W:=by rw [k1 _ ω,gM];rfl
  have gZ:hg K1 (H.length+2)=.own pQ:=by rw [k1 _ ω,gM];rfl
  have g0:hg K1 (H.length+3)=.own (bU 0#64 false):=by rw [k1 _ ω,gM];rfl
  obtain ⟨K2,nr⟩:∃K2,K2=K1.set H.length (.own S'):=⟨_,rfl⟩
  have LC:K2.length=N:=by rw [nr,iR,hN]
  obtain ⟨K3,sj⟩:∃K3,K3=K2.set (H.length+2) (.own S'):=⟨_,rfl⟩
  have Px:K3.length=N:=by rw [sj,iR,LC]
  obtain ⟨K4,zN⟩:∃K4,K4=K3.set (H.length+3) (.own Q):=⟨_,rfl⟩
  have Gc:K4.length=N:=by rw [zN,iR,Px]
  have c1:=cg (K:=K1) hN.symm ω gS
  have c2:=cg (o':=.own S') LC (j:=H.length) ω (by rw [nr,iN ω])
  have c3:=cg (o':=.own pQ) LC (j:=H.length+2) ω (by rw [nr,ej ω];exact gZ)
  have c4:=cg (o':=.own (bU 0#64 false)) Px (j:=H.length+3) ω (by rw [sj,ej ω,nr,ej ω];exact g0)
  have c5:=cg (o':=.own S') Gc (j:=H.length+2) ω (by rw [zN,ej ω,sj,iN ω])
  have c6:=cg (o':=.own Q) Gc (j:=H.length+3) ω (by rw [zN,iN ω])
  have s1:∀X,(K1++X).set H.length (.own S')=K2++X:=λX=>by rw [mg _ _ ω,nr]
  have s2:∀X,(K2++X).set (H.length+2) (.own S')=K3++X:=λX=>by rw [mg _ _ ω,sj]
  have s3:∀X,(K3++X).set (H.length+3) (.own Q)=K4++X:=λX=>by rw [mg _ _ ω,zN]
  have nL:∀{K:AH},K.length=N->(∀X,hg (K++X) N=hg X 0)/\(∀X j,hg (K++X) (N+j)=hg X j)/\(∀X o,(K++X).set N o=K++X.set 0 o)/\(∀X j o,(K++X).set (N+j) o=K++X.set j o):=λh=>⟨λX=>by rw [<-h,km],λX j=>by rw [<-h,gM],λX o=>by rw [<-h,zd],λX j o=>by rw [<-h,xS]⟩
  obtain ⟨n1,n2,n3,n4⟩:=nL hN.symm
  obtain ⟨m1,m2,_,_⟩:=nL LC
  obtain ⟨m5,m6,_,_⟩:=nL Px
  have e1n:K1.length=N:=hN.symm
  rw [<-hS,<-hW]
  unfold wM
  apply ie (v:=.t [.g S',.g Q,.c (.b true)]) (H1:=K4++[.own B1,.own Q]) Tryz.func12 rfl Tryz.results12 Tryz.ntmps12 (by simp)
  .intro _ _
   generalize bj x.D.b x.D.t y.u y.v=B0 at *
   have zA2:bU 0#64 false=.u 0#64::.b false::dC:=rfl
   rw [zA2] at fd c4
   rcases gg with gg | gg
   all_goals rw [gg] at ge
   all_goals simp only [go_sem,seval,lq,tq,oq,kq,l,t,d,o,my,ge,wQ,rX,uQ,uN,lb,fd,e1n,n1,n2,n3,n4,m1,m2,m5,m6,LC,Px,Gc,c1,c2,c3,c4,c5,c6,s1,s2,s3,Iy,oB1,tB1,uD,um,al,a1,cJ,eS,l2,t2,o2]
   --SHOW
   all_goals (repeat' first | apply cf | (intro c;exact absurd c ω) | (intro _;kernel_rfl) | kernel_rfl | exact ot st.nw κ)
   all_goals exact aI
  .rw [cj,Gc];omega
  .rw [hS,hW]
   refine Nu hI (u:=u) (w:=w) (by rw [es,ea,aM]) ?_
   have r1:xR x y h q=y.R:=if_neg k3
   have r2:j5 x h q=x.w.B:=if_neg k8
   have r3:kH x h q=x.w.R:=if_neg k8
   have r4:flb x h q=dE x.D h q.Q:=if_pos ⟨ω,k3,k4⟩
   have r5:jJ x h q=dP x.D h q.Q:=if_pos ⟨ω,k3,k4⟩
   have UF:∀j,j≠H.length->j≠H.length+2->j≠H.length+3->j < N->∀X,hg (K4++X) j=hg K1 j:=λj h1 h2 h3 h4 X=>by
    rw [cB ω,zN,ej (λc=>h3 c.symm),sj,ej (λc=>h2 c.symm),nr,ej (λc=>h1 c.symm)]
   have dj:∀j,j < H.length->∀X,hg (K4++X) j=hg H j:=λj hj X=>by
    rw [UF j ω ω ω ω,k1 j ω,cB hj]
   have nu:∀i,aJ u=some i->aJ y.u=some i\/H.length+4<=i:=λi hi=>(st.nu i hi).imp id (by rw [lO];exact id)
   have nv:∀i,aJ w=some i->aJ y.v=some i\/H.length+4<=i:=λi hi=>(st.nv i hi).imp id (by rw [lO];exact id)
   have aD:=hI.aD
   have lu:∀i,aJ u=some i->i < H.length\/H.length+4<=i:=λi hi=>(nu i hi).imp (λe=>rj hI.rp.hx hI.bu e) id
   have lv:∀i,aJ w=some i->i < H.length\/H.length+4<=i:=λi hi=>(nv i hi).imp (λe=>rj hI.rp.hy hI.bv e) id
   have xu:∀i,aJ u=some i->i < N:=λi hi=>by rw [hN];exact rj st.rp.hx st.bu hi
   have xv:∀i,aJ w=some i->i < N:=λi hi=>by rw [hN];exact rj st.rp.hy st.bv hi
   refine ⟨?_,by rw [cj,Gc];omega,λj hj _=>dj j hj _,λi hi=>(nu i hi).imp id ω,λi hi=>(nv i hi).imp id ω,fX (jb rfl) (fX st.nw (fX (by rw [zN,sj,nr];exact fX (jS λ_=>rfl) (fX (jS λ_=>rfl) (jS λ_=>rfl))) (jb rfl)))⟩
   rw [r1]
   refine ⟨⟨m,?_,?_,?_,?_,hd.m,?_,?_,?_⟩,?_,?_,Sc.ic st.bu (by rw [cj,Gc,hN];omega),Sc.ic st.bv (by rw [cj,Gc,hN];omega),hI.l,hI.n8,hI.h8,?_,λe=>?_,λe=>?_⟩
   .show hg _ y.id=.vec 1 ((j5 x h q).flatMap bR)
    rw [dj _ aD,r2];exact hd.o
   .rfl
   .rfl
   .show (j5 x h q).length=_
    rw [r2];exact hd.l
   .show ∀y∈j5 x h q,0<=y/\y<=255
    rw [r2];exact hd.nV
   .rfl
   .show (kH x h q).length=8
    rw [r3];exact hd.R
   .show mH (flb x h q)
    rw [r4];exact Z4
   .show jm _ (jJ x h q) u w
    rw [r5]
    exact WH st.rp (λi hi=>by have:=lu i hi;have:=xu i hi;exact UF i ω ω ω ω _) (λi hi=>by have:=lv i hi;have:=xv i hi;exact UF i ω ω ω ω _)
   .show (flb x h q).n=x.w.h
    rw [r4,ZO];exact hI.hb
   .rcases nu _ e with c | c
    .exact hI.iu c
    .have c:H.length+4<=y.id:=c
     omega
   .rcases nv _ e with c | c
    .exact hI.iv c
    .have c:H.length+4<=y.id:=c
     omega
 obtain ⟨v,H1,h1,_,h2⟩:=this
 obtain ⟨u,w,rfl,h3⟩:=h2 x y h q rfl hI
 exact ⟨u,w,H1,h1,h3⟩
end
structure uV(x:Wd)(y:Xw):Prop where
 xl:x.M.length=8
 yl:y.R.length=8
 n8:x.n<=8
 tr:ES x.n x.M y.R
 ze:E7 x.n x.M
theorem uV.step(m:uV x y)(h:Int)(q:Wa)(u v a b:Sc):uV (oJ x h q a b) ⟨y.id,u,v,xR x y h q⟩/\jD x h q=jG x y h q:=by
 by_cases hk:n9 q.k
 .obtain⟨k1,k2,k3⟩:=ame (cd:=h) (k:=q.k) (h:=q.h) (q:=q.R) m.xl m.yl m.n8 m.tr m.ze;have e1:rG x h q=nn x.n x.M h q.k q.h q.R:=if_pos hk;have e2:xR x y h q=oH x.n y.R h q.k q.h q.R:=if_pos hk;refine⟨⟨?_,?_,m.n8,?_,?_⟩,?_⟩
  .show(rG x h q).length=8;rw[e1,aa0];exact m.xl
  .show(xR x y h q).length=8;rw[e2,aa1];exact m.yl
  .show ES x.n (rG x h q) (xR x y h q);rw[e1,e2];exact k1
  .show E7 x.n (rG x h q);rw[e1];exact k2
  .unfold jD jG;have n8:¬q.k<=8:=by unfold n9 at hk;omega
   simp only[n8,hk,if_true,if_false,k3]
 .have e1:rG x h q=x.M:=if_neg hk;have e2:xR x y h q=y.R:=if_neg hk;refine⟨⟨?_,?_,m.n8,?_,?_⟩,?_⟩
  .show(rG x h q).length=8;rw[e1];exact m.xl
  .show(xR x y h q).length=8;rw[e2];exact m.yl
  .show ES x.n (rG x h q) (xR x y h q);rw[e1,e2];exact m.tr
  .show E7 x.n (rG x h q);rw[e1];exact m.ze
  .unfold jD jG;simp only[hk,if_false]
structure nR(x:Wd)(z:Nat):Prop where
 p:z≠x.w.p
 i:z≠x.w.id
 d:z≠x.D.id
 e:z≠x.D.pid
 sx:aJ x.D.x≠some z
 sy:aJ x.D.y≠some z
structure RN(y:Xw)(z:Nat):Prop where
 i:z≠y.id
 u:aJ y.u≠some z
 v:aJ y.v≠some z
variable {z:Nat}
section
variable {H K:AH}
theorem WI.lt(h:WI H x)(hz:H.length<=z):nR x z:=by
 have a:=h.w.lp;have b:=h.w.li;obtain⟨c1,c2,c3,c4⟩:=h.d.pE hz;exact⟨ω,ω,c1,c2,c3,c4⟩
theorem XI.lt(h:XI H x y)(hz:H.length<=z):RN y z:=by
 have a:=h.aD;refine⟨ω,λe=>?_,λe=>?_⟩
 .have:=rj h.rp.hx h.bu e;omega
 .have:=rj h.rp.hy h.bv e;omega
theorem WI.stay(h:WI H x)(hk:∀j,j<H.length->¬nR x j->hg K j=hg H j):WI K x:=by
 have lp:=h.w.lp;have li:=h.w.li;have ld:=h.d.aD;have le:=h.d.LO;refine⟨⟨?_,?_,h.w.l,h.w.b0,h.w.b1,h.w.lm,h.w.hh⟩,⟨?_,h.d.ok,PX h.d.pi ?_ ?_ ?_⟩,h.mK,h.m,h.l,h.n8,h.hb,h.p,h.i⟩
 .rw[hk _ lp (λa=>a.p rfl)];exact h.w.o
 .rw[hk _ li (λa=>a.i rfl)];exact h.w.v
 .rw[hk _ ld (λa=>a.d rfl)];exact h.d.ho
 .exact hk _ le (λa=>a.e rfl)
 .exact λi hi=>hk i (pC h.d.pi.hx hi).1 (λa=>a.sx hi)
 .exact λi hi=>hk i (pC h.d.pi.hy hi).1 (λa=>a.sy hi)
theorem XI.stay(h:XI H x y)(hl:H.length<=K.length)(hk:∀j,j<H.length->¬RN y j->hg K j=hg H j):XI K x y:=by
 obtain⟨m,hd⟩:=h.rd;refine⟨⟨m,?_,hd.v,hd.N,hd.l,hd.m,hd.nV,hd.rf,hd.R⟩,h.bs,?_,Sc.ic h.bu hl,Sc.ic h.bv hl,h.l,h.n8,h.h8,h.hb,h.iu,h.iv⟩
 .rw[hk _ h.aD (λa=>a.i rfl)];exact hd.o
 .exact WH h.rp (λi hi=>hk i (rj h.rp.hx h.bu hi) (λa=>a.u hi)) (λi hi=>hk i (rj h.rp.hy h.bv hi) (λa=>a.v hi))
structure w4(P Q:Nat->Prop)(K:AH)(x:Wd)(y:Xw)(n:Nat):Prop where
 wi:WI K x
 xi:XI K x y
 ml:uV x y
 di:nR x y.id
 du:∀i,aJ y.u=some i->nR x i
 dv:∀i,aJ y.v=some i->nR x i
 z:∀z,P z->z<K.length/\nR x z/\z≠y.id
 s:∀z,Q z->P z/\aJ y.u≠some z/\aJ y.v≠some z
 a8:fK x.D.t.A=true
 b8:fK x.D.t.B=true
 la:x.D.t.A.length<=n
 lb:x.D.t.B.length<=n
variable {P Q:Nat->Prop}{x:Wd}{y:Xw}{n:Nat}
theorem w4.app(I:w4 P Q K x y n)(X:AH):w4 P Q (K++X) x y n:=⟨I.wi.app X,I.xi.app X,I.ml,I.di,I.du,I.dv,λz hz=>by obtain⟨a,b,c⟩:=I.z z hz;exact⟨by rw[cj];omega,b,c⟩,I.s,I.a8,I.b8,I.la,I.lb⟩
theorem w4.set(I:w4 P Q K x y n){z:Nat}(hz:Q z)(o:ae):w4 P Q (K.set z o) x y n:=by
 obtain⟨hp,c2,c3⟩:=I.s z hz;obtain⟨_,b,c1⟩:=I.z z hp;refine⟨I.wi.stay λj _ hj=>?_,I.xi.stay (by simp) λj _ hj=>?_,I.ml,I.di,I.du,I.dv,λz hz=>by rw[iR];exact I.z z hz,I.s,I.a8,I.b8,I.la,I.lb⟩
 .exact ej λe=>hj (e▸b)
 .exact ej λe=>hj (e▸⟨c1,c2,c3⟩)
theorem w4.few(I:w4 P Q K x y n)(hn:n<100000):AT x.D.t:=⟨by have:=I.la;omega,by have:=I.lb;omega⟩
theorem Ts(x:Wd)(h:Int)(q:Wa):xr x.D.t (jJ x h q):=by
 unfold jJ;split
 .exact al8 x.D h q.Q
 .exact Oo _
theorem w4.step(I:w4 P Q K x y n)(hn:n<100000)(h:Int)(hs:eC q.s):∃K1 u w,vq [.c (.p x.w.p 0 0),.c (.i h),.g (cG q)] K=some (.t [.g (jG x y h q),.c (.b (dx x h q))],K1)/\dX K K1/\K.length<=K1.length/\(∀z,z<K.length->nR x z->hg K1 z=hg K z)/\∀O:AH,∃K2 u' w',wM [.g (aP x y),.c (.i h),.g (cG q)] (K1++O)=some (.t [.g (aP (ek x h q) ⟨y.id,u',w',xR x y h q⟩),.g (jG x y h q),.c (.b (dx x h q))],K2)/\dX (K1++O) K2/\(K1++O).length<=K2.length/\(∀z,z<(K1++O).length->z≠y.id->hg K2 z=hg (K1++O) z)/\w4 P Q K2 (oJ x h q u w) ⟨y.id,u',w',xR x y h q⟩ (n+1):=by
 obtain⟨K1,u,w,e1,s1⟩:=afm I.wi (I.few hn) (h:=h) (q:=q);have dj:∀z,z<K.length->nR x z->hg K1 z=hg K z:=λz hz a=>s1.dj z hz a.p a.i a.d a.e a.sx a.sy;refine⟨K1,u,w,by rw[<-(I.ml.step h q u w u w).2];exact e1,s1.nw,s1.len,dj,λO=>?_⟩;have xi1:XI K1 x y:=I.xi.stay s1.len λj hj ha=>by
  refine dj j hj ?_;by_cases c:j=y.id
  .rw[c];exact I.di
  by_cases c2:aJ y.u=some j
  .exact I.du j c2
  by_cases c3:aJ y.v=some j
  .exact I.dv j c3
  .exact absurd ⟨c,c2,c3⟩ ha
 have la:=I.la;have lb:=I.lb;obtain⟨u',w',K2,e2,s2⟩:=afK (xi1.app O) ω ω (h:=h) hs;refine⟨K2,u',w',e2,s2.nw,s2.len,s2.dj,?_⟩;have lK1:K1.length<=(K1++O).length:=by simp
 have ap:∀z,z<K.length->nR x z->nR (oJ x h q u w) z:=λz hz a=>⟨a.p,a.i,a.d,a.e,λe=>(s1.fx z e).elim a.sx ω,λe=>(s1.fy z e).elim a.sy ω⟩;have Di:=s1.wi.app O;have wi2:WI K2 (oJ x h q u w):=Di.stay λj hj ha=>s2.dj j hj λe=>ha (e▸ap y.id I.xi.aD I.di);have pE:∀z,(K1++O).length<=z->nR (oJ x h q u w) z:=λz hz=>Di.lt hz;obtain⟨d1,d2,d3⟩:=Ts x h q;obtain⟨a8,b8⟩:=d3 I.a8 I.b8;refine⟨wi2,s2.xi.Fq rfl rfl rfl rfl rfl rfl,(I.ml.step h q u' w' u w).1,ap _ I.xi.aD I.di,λi hi=>?_,λi hi=>?_,λz hz=>?_,λz hz=>?_,a8,b8,?_,?_⟩
 .rcases s2.nu i hi with e|e
  .exact ap i (rj I.xi.rp.hx I.xi.bu e) (I.du i e)
  .exact pE i e
 .rcases s2.nv i hi with e|e
  .exact ap i (rj I.xi.rp.hy I.xi.bv e) (I.dv i e)
  .exact pE i e
 .obtain⟨z1,z2,z3⟩:=I.z z hz;have l1:=s1.len;have l2:=s2.len;exact⟨ω,ap z z1 z2,z3⟩
 .obtain⟨hp,z3,z4⟩:=I.s z hz;obtain⟨z1,_,_⟩:=I.z z hp;have l1:=s1.len;have l2:=s2.len;refine⟨hp,λe=>?_,λe=>?_⟩
  .rcases s2.nu z e with e|e
   .exact z3 e
   .omega
  .rcases s2.nv z e with e|e
   .exact z4 e
   .omega
 .show(jJ x h q).A.length<=n+1;omega
 .show(jJ x h q).B.length<=n+1;omega
end
def jn(n:Nat)(x:Wd):Wd:=⟨{x.w with p:=n+5,id:=n,mK:=.p (n+4) 0 0},xm (n+1) x.D,x.n,x.M⟩
def qN(n:Nat)(x:Wd):AH:=.vec 1 (x.w.B.flatMap bR)::(Fm (n+1) x.D.t++[.own (fP (n+1) x.D.b),.own (fg (jn n x).w x.w.R)])
section
variable {H:AH}
theorem SS(n:Nat)(x:Wd):(qN n x).length=6:=rfl
theorem SU(h:WI H x):WI (H++qN H.length x) (jn H.length x):=by
 have e:H++qN H.length x=((H++[.vec 1 (x.w.B.flatMap bR)])++(Fm (H++[ae.vec 1 (x.w.B.flatMap bR)]).length x.D.t++[.own (fP (H++[ae.vec 1 (x.w.B.flatMap bR)]).length x.D.b)]))++[.own (fg (jn H.length x).w x.w.R)]:=by simp only[qN,cj,cT,fa,fv,lf,jW]
 have b0:=(ako (H++[ae.vec 1 (x.w.B.flatMap bR)]) h.d.ok).app [.own (fg (jn H.length x).w x.w.R)];rw[<-e]at b0;have ed:xm (H++[ae.vec 1 (x.w.B.flatMap bR)]).length x.D=xm (H.length+1) x.D:=by simp
 rw[ed]at b0;refine⟨⟨?_,?_,h.w.l,h.w.b0,h.w.b1,h.w.lm,h.w.hh⟩,b0,rfl,h.m,h.l,h.n8,h.hb,?_,?_⟩
 .show hg _ (H.length+5)=_;rw[gM];rfl
 .show hg _ H.length=_;rw[km];rfl
 .refine⟨?_,?_,?_,?_⟩
  .show H.length+5≠H.length+1+3;omega
  .show H.length+5≠H.length+1;omega
  .simp only[jn,xm,aJ,ne_eq,ar];omega
  .simp only[jn,xm,aJ,ne_eq,ar];omega
 .refine⟨?_,?_,?_,?_⟩
  .show H.length≠H.length+1+3;omega
  .show H.length≠H.length+1;omega
  .simp only[jn,xm,aJ,ne_eq,ar];omega
  .simp only[jn,xm,aJ,ne_eq,ar];omega
def aej(args:List AV)(H:AH)(v:AV)(H1:AH):Prop:=∀x,args=[.c (.p x.w.p 0 0)]->WI H x->v=.c (.p (H.length+5) 0 0)/\H1=H++qN H.length x
def Jg:List AV->AH->Option (AV×AH):=sd Tryz.prog [(52,.fp Es),(53,.fp Mq)] 14 aej
theorem asS:bh Tryz.prog 14 Jg:=yw (tp adi (tp ass tn)) Tryz.func14 rfl Tryz.results14 Tryz.ntmps14
theorem OH(h:WI H x):bJ 16 (cQ 5 (fg x.w x.w.R))=iA x.w.R/\(cQ 22 (fg x.w x.w.R))=x.w.m:=by
 have l:=AK h.w.l;constructor
 .exact aby h.w.l
 .unfold fg pP;show cQ 17 (iA x.w.R++x.w.mK::x.w.m)=_;rw[show 17=(iA x.w.R).length+1 by rw[l],<-uR,J4];rfl
theorem W7(hI:WI H x)(hf:AT x.D.t):Jg [.c (.p x.w.p 0 0)] H=some (.c (.p (H.length+5) 0 0),H++qN H.length x):=by
 have:∃v H1,Jg [.c (.p x.w.p 0 0)] H=some (v,H1)/\H.length<=H1.length/\aej [.c (.p x.w.p 0 0)] H v H1:=by
  unfold Jg;apply ie (v:=.c (.p (H.length+5) 0 0)) (H1:=H++qN H.length x) Tryz.func14 rfl Tryz.results14 Tryz.ntmps14 (by simp)
  .intro _ _;have gw:=hI.w.o;have gX:=λX=>(hI.w.app X).o;have lw:=zK (R:=x.w.R) hI.w.l hI.w.lm;have b0:=hI.w.b0;have b1:=hI.w.b1;have fc:=afl (zH hI.w.v) b0 b1;have bc:=axT (hI.app [.vec 1 (x.w.B.flatMap bR)]).d hf;have gb:=λX=>FF (hI.app X);obtain⟨s1,s2⟩:=OH hI;have v4:(fg x.w x.w.R).getD 4 .any=.sl x.w.id 0 x.w.B.length x.w.B.length:=rfl;have t4:bJ 4 (fg x.w x.w.R)=[.i x.w.h,.i x.w.t,.i x.w.n,.i x.w.b]:=rfl;have gb0:=FF hI;have l3:x.w.m.length=321:=hI.w.lm;have t3:bJ 321 x.w.m=x.w.m:=bQ ω;have Iw:=AK hI.w.l;have o16:(iA x.w.R).all Sc.one=true:=by unfold iA;rw[sZ];exact cE.2 λ_ _=>rfl
   have o3:x.w.m.all Sc.one=true:=by rw[hI.m];exact BH _ _
   have l0:(aH 0 Z8).length=321:=kK 0 zx;obtain⟨T,hT⟩:∃T:List Sc,T=uJ++.dk::aH 0 Z8:=⟨_,rfl⟩;have zW:=agO;unfold pP at zW;rw[<-hT]at zW;have Ed:uJ.length=16:=rfl;have d16:cQ 16 T=.dk::aH 0 Z8:=by rw[hT];exact vE Ed
   have lT:T.length=338:=by rw[hT,cj,cT,l0];rfl
   have gw':fg (jn H.length x).w x.w.R=.i x.w.h::.i x.w.t::.i x.w.n::.i x.w.b::.sl H.length 0 x.w.B.length x.w.B.length::(iA x.w.R++.p (H.length+1+3) 0 0::x.w.m):=rfl;have lC:∀k t,(Fm k t).length=3:=λ_ _=>rfl;unfold qN;rw[gw'];generalize hm:x.w.m=m at*;generalize iA x.w.R=aa at*;have u1:∀X,bJ 16 (aa++X)=aa:=λX=>nQ Iw;have u2:∀p X,cQ 17 (aa++p::X)=X:=λp X=>by rw[show 17=aa.length+1 by rw[Iw],<-uR,J4];rfl
   have u3:∀p X,bJ 17 (aa++p::X)=aa++[p]:=λp X=>by rw[List.take_append,bQ ω,Iw];rfl
   have u4:∀p,cQ 338 (aa++p::aH 0 Z8)=[]:=λp=>kN (by rw[cj,cT,l0,Iw];exact aB _);generalize fg x.w x.w.R=X0 at*;simp only[go_sem,seval,gw,gX,lw,fc,bc,gb0,s1,s2,v4,t4,t3,l3,Iw,o16,o3,zW,lT,d16,l0,u1,u2,u3,u4,lC];(repeat' first|apply cf|(intro c;exact absurd c ω)|(intro _;kernel_rfl)|kernel_rfl);exact aI
  .simp
  .intro y he mE;simp only[cL,AV.c.injEq,Sc.p.injEq,and_true]at he;rw[hI.uniq mE he];exact⟨rfl,rfl⟩
 obtain⟨v,H1,h1,_,h2⟩:=this;obtain⟨rfl,rfl⟩:=h2 x rfl hI;exact h1
end
section
variable {H:AH}
theorem aad:(cQ 21 pQ).length=1008:=by rw[uS,rX]
theorem SF:(cQ 708 pQ).length=321:=by rw[uS,rX]
theorem aae:cQ 687 (cQ 21 pQ)=cQ 708 pQ:=by rw[uR]
structure Bld(A B:List Sc):Prop where
 t21:∀X,bJ 21 (A++X)=A
 xp:∀X,cQ 708 (A++X)=cQ 687 X
 JO:∀X,bJ 708 (A++(B++X))=A++B
 aaH:cQ 1029 (A++(B++cQ 708 pQ))=[]
theorem DB{A B:List Sc}(la:A.length=21)(lb:B.length=687):Bld A B:=by
 have ab:(A++B).length=708:=by simp only[cj,la,lb]
 refine⟨λX=>nQ la,λX=>?_,λX=>?_,?_⟩
 .rw[zt,la,kN ω,jW]
 .rw[<-fv];exact nQ ab
 .exact kN (by simp only[cj,la,lb,SF];omega)
def EU(h t n b:Int):Wd:=⟨⟨0,0,h,t,n,b,bD (64*n.toNat) 0,bD 8 z0,.dk,[]⟩,⟨0,0,bN h,fR,.az,.az⟩,h,Z8⟩
def mG(id:Nat):Xw:=⟨id,.az,.az,Z8⟩
theorem aCB:J0=cH (bD 8 z0):=rfl
theorem aeM:bj (bN h) fR .az .az=.i h::(aR (iS h)++(.i (iP h).n::(pN++aY fR .az .az))):=by
 unfold bj;rw[show(bN h).k=iP h from rfl,awV];rfl
def EK(args:List AV)(H:AH):Option (AV×AH):=match args with|[.g [.i h,.i t,.i n,.i b]]=>if 1<=n/\n<=4096/\1<=h/\h<=8 then some (.g (aP (EU h t n b) (mG (H.length+5))),H++[.own [.i h,.i t,.i n,.i b],.own (aP (EU h t n b) (mG (H.length+5))),.dead,.dead,.dead,.vec 1 (bD (64*n.toNat) (.k .u8 0))])else none|_=>none
theorem azk{t b:Int}(hn:1<=n/\n<=4096)(hh:1<=h/\h<=8):EK [.g [.i h,.i t,.i n,.i b]] H=some (.g (aP (EU h t n b) (mG (H.length+5))),H++[.own [.i h,.i t,.i n,.i b],.own (aP (EU h t n b) (mG (H.length+5))),.dead,.dead,.dead,.vec 1 (bD (64*n.toNat) (.k .u8 0))]):=by simp only[EK];rw[if_pos ⟨hn.1,hn.2,hh.1,hh.2⟩]
theorem aqd(args:List AV)(H:AH)(v:AV)(H1:AH)(h:EK args H=some (v,H1)):H.length<=H1.length:=by
 unfold EK at h;repeat' split at h
 all_goals simp at h
 rw[<-h.2];simp
theorem auZ:bh Tryz.prog 8 EK:=by
 refine gJ (s:=EK) (tp atT (tu aui (tu auj tn))) Tryz.func8 rfl Tryz.results8 Tryz.ntmps8 aqd ?_;intro args H v H1 h b9 hH;unfold EK at h;split at h<;>try(simp at h;done)
 rename_i h0 t n b;split at h<;>try(simp at h;done)
 rename_i hc;obtain⟨n1,n2,h1,h2⟩:=hc;simp only[ar,bE]at h;obtain⟨rfl,rfl⟩:=h;refine⟨by simp,?_⟩;have q1:=λH=>ayQ (H:=H) (h:=h0) (t:=t) (b:=b) ⟨n1,n2⟩;have q2:QC [.c (.i h0)]=some (.g (bj (bN h0) fR .az .az)):=by rw[ay6,aeM]
 have q3:QD [.c (.i h0)]=some (.g (aH h0 Z8)):=by rw[ay7,if_pos ⟨h1,h2⟩]
 have eA:∀k:Nat,(Sc.i h0::.i t::.i n::.i b::.sl k 0 (64*n.toNat) (64*n.toNat)::J0)=eZ h0 t n b k (64*n.toNat) (bD 8 z0):=λk=>by unfold eZ;rw[aCB]
 simp only[eA]at q1;have lr:(bD (64*n.toNat) (0:Int)).length=64*n.toNat:=NA ..;have ex:aP (EU h0 t n b) (mG (H.length+5))=eZ h0 t n b (H.length+5) (64*n.toNat) (bD 8 z0)++(bj (bN h0) fR .az .az++aH h0 Z8):=by unfold aP EU mG;simp only[lr]
 rw[ex];have l1:∀k,(eZ h0 t n b k (64*n.toNat) (bD 8 z0)).length=21:=λk=>BS rfl;have l2:(bj (bN h0) fR .az .az).length=687:=by
  rw[aeM];have:=yS;have:=gp (Kv h0);simp only[cT,cj,nK,yS,this]
 have l3:(aH h0 Z8).length=321:=kK _ zx;have sg:=λk=>JZ (l1 k) l2 l3 (h:=h0) (r:=.i t::.i n::.i b::.sl k 0 (64*n.toNat) (64*n.toNat)::cH (bD 8 z0)) rfl;have t1:=λk=>(sg k).ta;have t2:=(sg 0).tb;have t3:=(sg 0).JQ;have tS:=λk=>(sg k).t;have lS:=λk=>(sg k).l;have oS:∀k,(eZ h0 t n b k (64*n.toNat) (bD 8 z0)++(bj (bN h0) fR .az .az++aH h0 Z8)).all Sc.one=true:=λk=>by rw[fJ,fJ,C4,IV _ _ rfl rfl,BH];rfl
 have b1:=λk=>(DB (l1 k) l2).t21;have b2:=λk=>(DB (l1 k) l2).xp;have b3:=λk=>(DB (l1 k) l2).JO;have b4:=λk=>(DB (l1 k) l2).aaH;generalize bj (bN h0) fR .az .az=B at*;generalize aH h0 Z8=C at*;clear sg ex eA;generalize bD 8 z0=R0 at*;simp only[go_sem,seval,q1,q2,q3,l1,l2,l3,t1,t2,t3,tS,lS,oS,wQ,rX,uQ,aad,SF,aae,b1,b2,b3,b4];(repeat' first|apply cf|(intro c;exact absurd c ω)|(intro _;kernel_rfl)|kernel_rfl);exact xw
def aDz(args:List AV)(H:AH):Option (AV×AH):=match args with
 |[.g [.sl i 0 v n]]=>match iT H (.sl i 0 v n)with
   |some B=>if 0<n/\n<=262144 then some (.g [.sl (H.length+2) 0 n n],H++[.own [.sl i 0 v n],.own [.sl (H.length+2) 0 n n],.vec 1 (B.flatMap bR)])else none|none=>none
 |_=>none
end
section
variable {H:AH}
def aek(args:List AV)(H:AH)(v:AV):Prop:=∀x,args=[.c (.p x.w.p 0 0)]->WI H x->v=.g [.i x.w.h,.i x.w.t,.i x.w.n,.i x.w.b]
def Mx:List AV->AH->Option AV:=lk Tryz.prog [] 44 aek
theorem asU:bh Tryz.prog 44 (λargs H=>(Mx args H).map λv=>(v,H)):=oL tn Tryz.func44 rfl Tryz.results44 Tryz.ntmps44
theorem ayf(hI:WI H x):Mx [.c (.p x.w.p 0 0)] H=some (.g [.i x.w.h,.i x.w.t,.i x.w.n,.i x.w.b]):=by
 have:∃v,Mx [.c (.p x.w.p 0 0)] H=some v/\aek [.c (.p x.w.p 0 0)] H v:=by
  unfold Mx;apply mM (v:=.g [.i x.w.h,.i x.w.t,.i x.w.n,.i x.w.b]) Tryz.func44 rfl Tryz.results44 Tryz.ntmps44 (by simp)
  .exact λ_ _=>rfl
  .intro _ _;have gw:=hI.w.o;have gX:=λX=>(hI.w.app X).o;have lw:=zK (R:=x.w.R) hI.w.l hI.w.lm;have t4:bJ 4 (fg x.w x.w.R)=[.i x.w.h,.i x.w.t,.i x.w.n,.i x.w.b]:=rfl;simp only[go_sem,seval,gw,gX,lw,t4];first|exact aE _|exact aC _ _
  .intro y he mE;simp only[cL,AV.c.injEq,Sc.p.injEq,and_true]at he;rw[hI.uniq mE he]
 obtain⟨v,h1,h2⟩:=this;rw[h1,h2 x rfl hI]
def aei(args:List AV)(H:AH)(v:AV):Prop:=∀x,args=[.c (.p x.w.p 0 0)]->WI H x->v=.c (.p x.D.id 0 0)
def Mw:List AV->AH->Option AV:=lk Tryz.prog [] 48 aei
theorem asQ:bh Tryz.prog 48 (λargs H=>(Mw args H).map λv=>(v,H)):=oL tn Tryz.func48 rfl Tryz.results48 Tryz.ntmps48
theorem ayc(hI:WI H x):Mw [.c (.p x.w.p 0 0)] H=some (.c (.p x.D.id 0 0)):=by
 have:∃v,Mw [.c (.p x.w.p 0 0)] H=some v/\aei [.c (.p x.w.p 0 0)] H v:=by
  unfold Mw;apply mM (v:=.c (.p x.D.id 0 0)) Tryz.func48 rfl Tryz.results48 Tryz.ntmps48 (by simp)
  .exact λ_ _=>by have:=hI.d.aD;simpa[AV.aj,Sc.aj]using this
  .intro _ _;have gw:=hI.w.o;have gX:=λX=>(hI.w.app X).o;have lw:=zK (R:=x.w.R) hI.w.l hI.w.lm;have gb:=FF hI;simp only[go_sem,seval,gw,gX,lw,gb];first|exact aE _|exact aC _ _
  .intro y he mE;simp only[cL,AV.c.injEq,Sc.p.injEq,and_true]at he;rw[hI.uniq mE he]
 obtain⟨v,h1,h2⟩:=this;rw[h1,h2 x rfl hI]
def ael(args:List AV)(H:AH)(v:AV):Prop:=∀x,args=[.c (.p x.w.p 0 0)]->WI H x->v=.g (aH x.n x.M)
def MA:List AV->AH->Option AV:=lk Tryz.prog [] 49 ael
theorem as4:bh Tryz.prog 49 (λargs H=>(MA args H).map λv=>(v,H)):=oL tn Tryz.func49 rfl Tryz.results49 Tryz.ntmps49
theorem ayl(hI:WI H x):MA [.c (.p x.w.p 0 0)] H=some (.g (aH x.n x.M)):=by
 have:∃v,MA [.c (.p x.w.p 0 0)] H=some v/\ael [.c (.p x.w.p 0 0)] H v:=by
  unfold MA;apply mM (v:=.g (aH x.n x.M)) Tryz.func49 rfl Tryz.results49 Tryz.ntmps49 (by simp)
  .exact λ_ _=>Gj _ _ _
  .intro _ _;have gw:=hI.w.o;have gX:=λX=>(hI.w.app X).o;have lw:=zK (R:=x.w.R) hI.w.l hI.w.lm;obtain⟨_,s2⟩:=OH hI;rw[hI.m]at s2;have l3:=kK x.n hI.l;have t3:bJ 321 (aH x.n x.M)=aH x.n x.M:=bQ ω;have o3:=BH x.n x.M;have z3:=kK 0 zx;have dz:cQ 321 (aH 0 Z8)=[]:=kN ω;simp only[go_sem,seval,gw,gX,lw,s2,t3,l3,o3,z3,dz,Nv];first|exact aE _|exact aC _ _
  .intro y he mE;simp only[cL,AV.c.injEq,Sc.p.injEq,and_true]at he;rw[hI.uniq mE he]
 obtain⟨v,h1,h2⟩:=this;rw[h1,h2 x rfl hI]
def B9(s:Sl):Prop:=s.is=false->s=z0
def yR(w:Fw):Prop:=(∀j:Nat,w.h<=(j:Int)->w.R.getD j z0=z0)/\∀j:Nat,B9 (w.R.getD j z0)
theorem getD_set_ne{R:List Sl}{i j:Nat}{x:Sl}(h:i≠j):(R.set i x).getD j z0=R.getD j z0:=by rw[bX,bX,List.getElem?_set_ne h]
theorem Yk{R:List Sl}{i:Nat}{x:Sl}(h:∀j:Nat,B9 (R.getD j z0))(hx:B9 x)(j:Nat):B9 ((R.set i x).getD j z0):=by
 by_cases e:i=j
 .subst e;rw[bX,rq];split
  .split
   .exact hx
   .exact λ_=>rfl
  .rename_i c;exact absurd rfl c
 .rw[getD_set_ne e];exact h j
theorem ace{R:List Sl}{L:List (BitVec 64)}{bG:Int}{j:Nat}(h:R.getD j z0=z0):∀k,(fI R L bG k).getD j z0=z0
 |0=>h|k+1=>by
   have ih:=ace (L:=L) (bG:=bG) h k;simp only[fI];split
   .by_cases e:k=j
    .subst e;rw[bX,rq];split
     .split<;>rfl
     .rename_i c;exact absurd rfl c
    .rw[getD_set_ne e];exact ih
   .exact ih
theorem acf{R:List Sl}{L:List (BitVec 64)}{bG:Int}(h:∀j:Nat,B9 (R.getD j z0)):∀k j:Nat,B9 ((fI R L bG k).getD j z0)
 |0,j=>h j|k+1,j=>by
   have ih:=acf (L:=L) (bG:=bG) h k;simp only[fI];split
   .exact Yk ih (λ_=>rfl) j
   .exact ih j
theorem awL{w:Fw}(hr:yR w)(h:Int)(q:Ak):(∀j:Nat,w.h<=(j:Int)->(wR w h q).getD j z0=z0)/\∀j:Nat,B9 ((wR w h q).getD j z0):=by
 have h1:∀j:Nat,w.h<=(j:Int)->(oE w h q).getD j z0=z0:=λj hj=>by
  unfold oE;split
  .exact ace (hr.1 j hj) 8
  .exact hr.1 j hj
 have h2:∀j:Nat,B9 ((oE w h q).getD j z0):=λj=>by
  unfold oE;split
  .exact acf hr.2 8 j
  .exact hr.2 j
 constructor
 .intro j hj;unfold wR;split
  .rename_i ok;have:0<=h/\h<w.h:=by
    unfold iL at ok;simp only[aQ,decide_eq_true_eq]at ok;exact ok.2.2
   have ne:h.toNat≠j:=ω
   split
   .rw[getD_set_ne ne];exact hr.1 j hj
   .split
    .rw[getD_set_ne ne];exact h1 j hj
    .exact h1 j hj
  .exact hr.1 j hj
 .intro j;unfold wR;split
  .split
   .exact Yk hr.2 (λc=>absurd c (by simp)) j
   .split
    .exact Yk h2 (λ_=>rfl) j
    .exact h2 j
  .exact hr.2 j
theorem Wz(hr:yR x.w)(h:Int)(q:Wa)(u v:Sc):yR (oJ x h q u v).w:=by
 show(∀j:Nat,x.w.h<=(j:Int)->(kH x h q).getD j z0=z0)/\∀j:Nat,B9 ((kH x h q).getD j z0);unfold kH;split
 .exact awL hr h q.K
 .exact hr
theorem aB6{r:Sl}(hR:x.w.R.length=8)(h:x.w.R[k]?=some r):(aP x y).getD (5+k) .any=.b r.is/\(aP x y).getD (13+k) .any=.u r.ln:=by
 obtain⟨a,b⟩:=IZ hR h;have k8:k<8:=by
  rcases cX k x.w.R.length with c|c
  .omega
  .rw[kf c]at h;simp at h
 have l:=ub hR;have e:∀i,i<16->(aP x y).getD (5+i) .any=(cH x.w.R).getD i .any:=λi hi=>by
  unfold aP eZ;show(([.i x.w.h,.i x.w.t,.i x.w.n,.i x.w.b,.sl y.id 0 x.w.B.length x.w.B.length]:List Sc)++(cH x.w.R++(bj x.D.b x.D.t y.u y.v++aH x.n y.R))).getD (5+i) .any=_;exact acJ (A:=[Sc.i x.w.h,.i x.w.t,.i x.w.n,.i x.w.b,.sl y.id 0 x.w.B.length x.w.B.length]) ω
 exact⟨by rw[e k ω];exact a,by rw[show 13+k=5+(8+k)by omega,e (8+k) ω];exact b⟩
theorem aB5(hI:XI H x y)(hi:i<8)(hk:k<8):((aP x y).drop (708+(1+i*40+k*5))).take 5=fV (fH y.R i k):=by
 have d:=hI.gV.xp;rw[<-uR,d];exact G0 hI.l hi hk
end
noncomputable def pB(p:Prop):Bool:=@decide p (Classical.propDecidable p)
variable {p:Prop}
theorem wx(h:p):pB p=true:=@decide_eq_true p (Classical.propDecidable p) h
theorem BN(h:¬p):pB p=false:=@decide_eq_false p (Classical.propDecidable p) h
theorem VW(p:Prop)[Decidable p]:pB p=decide p:=by
 by_cases h:p
 .rw[wx h,decide_eq_true h]
 .rw[BN h,decide_eq_false h]
theorem avQ(p:Prop)(i:Decidable p):pB p=@decide p i:=by
 by_cases h:p
 .rw[wx h,@decide_eq_true p i h]
 .rw[BN h,@decide_eq_false p i h]
theorem PW{q:Prop}(h:p↔q):pB p=pB q:=by rw[propext h]
theorem Cm.HP{g:List Tg}{a b:List Sc}(h:Cm g a b):jO g a b=some (pB (a=b)):=by rw[h.eq];exact congrArg some (avQ (a=b) _).symm
theorem Cm.fm{α:Type}{f:α->List Sc}{g:List Tg}(hf:∀x y,Cm g (f x) (f y)):∀{l m:List α}{n:Nat},l.length=n->m.length=n->Cm (bD n g).flatten (l.flatMap f) (m.flatMap f)
 |[],[],n,h,_=>by subst h;exact .nil|[],_::_,n,h,h2=>by simp at h h2;omega|_::_,[],n,h,h2=>by simp at h h2;omega|x::l,y::m,n,h,h2=>by
   obtain⟨k,rfl⟩:∃k,n=k+1:=⟨n-1,by simp at h;omega⟩;rw[List.replicate_succ,List.flatten_cons,rZ,rZ];exact(hf x y).app (Cm.fm hf (l:=l) (m:=m) (n:=k) (by simpa using h) (by simpa using h2))
theorem akA(x y:Sl):Cm [.q,.n] (zf x) (zf y):=(DD _ _).one (HB _ _)
theorem akz(x y:Rq):Cm [.q,.q,.q,.n,.n] (fV x) (fV y):=(DD _ _).one ((DD _ _).one ((DD _ _).one ((HB _ _).one (zF _ _))))
def Rb:List Tg:=(bD 8 [Tg.q,.q,.q,.n,.n]).flatten
theorem aau(x y:Row):Cm Rb (jU x) (jU y):=Cm.fm akz x.2 y.2
variable {A:List Row}
theorem aat{m:Int}(hA:A.length=8)(hB:B.length=8):Cm (.n::(bD 8 Rb).flatten) (aH n A) (aH m B):=(zF _ _).one (Cm.fm aau hA hB)
variable {S:List Sl}
theorem akB{R:List Sl}(hR:R.length=8)(hS:S.length=8):Cm (bD 8 [Tg.q,.n]).flatten (iA R) (iA S):=Cm.fm akA hR hS
theorem akx{R:List Sl}(hR:R.length=8)(hS:S.length=8):Cm (bD 8 .q++bD 8 .n) (cH R) (cH S):=(Cm.rep (f:=λx:Sl=>Sc.b x.is) (λx y=>DD _ _) hR hS).app (Cm.rep (f:=λx:Sl=>Sc.u x.ln) (λx y=>HB _ _) hR hS)
theorem anO:je Tryz.prog 12 96=some (.n::(bD 8 Rb).flatten):=κ
theorem anN:je Tryz.prog 12 66=some (.n::(bD 8 Rb).flatten):=κ
theorem anM:je Tryz.prog 12 100=some (bD 8 [Tg.q,.n]).flatten:=κ
theorem anS:je Tryz.prog 12 48=some (bD 8 .q++bD 8 .n):=κ
theorem acO{m:Int}(hA:A.length=8)(hB:B.length=8)(h:aH n A=aH m B):n=m/\A=B:=by
 have c:=Ag (n:=n) hA;rw[h,Ag hB]at c;simp only[ar,bE]at c;exact⟨c.1.symm,c.2.symm⟩
theorem amB{m:Int}(hA:A.length=8)(hB:B.length=8):cA Tryz.prog .eql 96 (.g (aH n A)) (.g (aH m B))=some (.c (.b (pB (n=m/\A=B)))):=by
 rw[yg _ (by simp only[go_sem,D.agg]) anO,(aat hA hB).HP];by_cases e:n=m/\A=B
 .rw[wx e,wx (show aH n A=aH m B by rw[e.1,e.2])];rfl
 .rw[BN e,BN λh=>e (acO hA hB h)];rfl
theorem amA{m:Int}(hA:A.length=8)(hB:B.length=8):cA Tryz.prog .eql 66 (.g (aH n A)) (.g (aH m B))=some (.c (.b (pB (n=m/\A=B)))):=by
 rw[yg _ (by simp only[go_sem,D.agg]) anN,(aat hA hB).HP];by_cases e:n=m/\A=B
 .rw[wx e,wx (show aH n A=aH m B by rw[e.1,e.2])];rfl
 .rw[BN e,BN λh=>e (acO hA hB h)];rfl
theorem amH{R:List Sl}(hR:R.length=8)(hS:S.length=8):cA Tryz.prog .eql 100 (.g (iA R)) (.g (iA S))=some (.c (.b (pB (R=S)))):=by
 rw[yg _ (by simp only[go_sem,D.agg]) anM,(akB hR hS).HP];by_cases e:R=S
 .rw[wx e,wx (show iA R=iA S by rw[e])];rfl
 .rw[BN e,BN λh=>e (YD hR hS h)];rfl
theorem amE{R:List Sl}(hR:R.length=8)(hS:S.length=8):cA Tryz.prog .eql 48 (.g (cH R)) (.g (cH S))=some (.c (.b (pB (R=S)))):=by
 rw[yg _ (by simp only[go_sem,D.agg]) anS,(akx hR hS).HP];by_cases e:R=S
 .rw[wx e,wx (show cH R=cH S by rw[e])];rfl
 .rw[BN e,BN λh=>e (P8 hR hS h)];rfl
def yn(x y:Wd):Bool:=decide (x.w.h=y.w.h)&&(decide (x.w.t=y.w.t)&&(decide (x.w.n=y.w.n)&&decide (x.w.b=y.w.b)))
noncomputable def Dh(x y:Wd):Bool:=yn x y&&pB (x.w.R=y.w.R)&&pB (x.n=y.n/\x.M=y.M)&&pB (x.w.B=y.w.B)&&zz x.D y.D
noncomputable def EY(x y:Wd)(a b:Xw):Bool:=yn x y&&pB (x.w.R=y.w.R)&&pB (x.w.B=y.w.B)&&C3 x.D.b x.D.t y.D.b y.D.t&&pB (x.n=y.n/\a.R=b.R)
theorem agi{R S:List Row}(hA:A.length=8)(hB:B.length=8)(hR:R.length=8)(hS:S.length=8)(t1:ES n A R)(t2:ES n B S)(z1:E7 n A)(z2:E7 n B):A=B↔R=S:=by
 have ext:∀{P Q:List Row},P.length=8->Q.length=8->(∀i j,i<8->j<8->fH P i j=fH Q i j)->P=Q:=λ{P Q}hP hQ h=>by
  apply wX;intro i;rcases cX i 8 with hi|hi
  .rw[cP ω,cP ω];congr 1;apply Subtype.ext;apply wX;intro j;have lp:=(P[i]'ω).2;have lq:=(Q[i]'ω).2;rcases cX j 8 with hj|hj
   .have a:=WA hP hi hj;have b:=WA hQ hi hj;have rP:rowAt P i=P[i]'ω:=by unfold rowAt;rw[cP ω];rfl
    have rQ:rowAt Q i=Q[i]'ω:=by unfold rowAt;rw[cP ω];rfl
    rw[rP]at a;rw[rQ]at b;rw[a,b,h i j hi hj]
   .rw[kf ω,kf ω]
  .rw[kf ω,kf ω]
 constructor
 .intro e;subst e;exact ext hR hS λi j hi hj=>by rw[t1 i j hi hj,t2 i j hi hj]
 .intro e;subst e;refine ext hA hB λt f ht hf=>?_;by_cases c:gv n (t:Int)=true/\gv n (f:Int)=true
  .have a:=t1 f t hf ht;have b:=t2 f t hf ht;unfold uM at a b;rw[if_pos ⟨c.2,c.1⟩,aL,aL]at a b;rw[<-a,b]
  .rw[(z1 t f ht hf).2 c,(z2 t f ht hf).2 c]
theorem azq{y:Wd}{a b:Xw}(h1:uV x a)(h2:uV y b):Dh x y=EY y x b a:=by
 have e1:yn x y=yn y x:=by unfold yn;simp only[eq_comm]
 unfold Dh EY;rw[azo,e1];have em:(x.n=y.n/\x.M=y.M)↔(y.n=x.n/\b.R=a.R):=by
  constructor
  .rintro⟨n,m⟩;refine⟨n.symm,?_⟩;exact(agi h2.xl h1.xl h2.yl h1.yl (n▸h2.tr) h1.tr (n▸h2.ze) h1.ze).1 m.symm
  .rintro⟨n,m⟩;refine⟨n.symm,?_⟩;exact((agi h2.xl h1.xl h2.yl h1.yl (n▸h2.tr) h1.tr (n▸h2.ze) h1.ze).2 m).symm
 rw[PW em,PW (show x.w.R=y.w.R↔y.w.R=x.w.R from eq_comm),PW (show x.w.B=y.w.B↔y.w.B=x.w.B from eq_comm)];cases yn y x<;>cases pB (y.w.R=x.w.R)<;>cases pB (y.w.B=x.w.B)<;>cases pB (y.n=x.n/\b.R=a.R)<;>simp
theorem agz{y:Wd}(e1:x.w.h=y.w.h)(e2:x.w.t=y.w.t)(e3:x.w.n=y.w.n)(e4:x.w.b=y.w.b)(e5:x.w.R=y.w.R)(e6:x.w.B=y.w.B)(e7:x.n=y.n)(e8:x.M=y.M)(e9:x.D.b=y.D.b)(e0:x.D.t=y.D.t):Dh x y=true:=by
 unfold Dh yn;rw[ai4 e9 e0];rw[wx e5,wx e6,wx ⟨e7,e8⟩];simp[e1,e2,e3,e4]
theorem anL:je Tryz.prog 12 23=some [.n,.n,.n,.n]:=κ
theorem abc{y:Wd}:cA Tryz.prog .eql 23 (.g [.i x.w.h,.i x.w.t,.i x.w.n,.i x.w.b]) (.g [.i y.w.h,.i y.w.t,.i y.w.n,.i y.w.b])=some (.c (.b (yn x y))):=by
 rw[yg _ (by simp only[go_sem,D.agg]) anL,((zF _ _).one ((zF _ _).one ((zF _ _).one (zF _ _)))).HP];have e:pB ([Sc.i x.w.h,.i x.w.t,.i x.w.n,.i x.w.b]=[Sc.i y.w.h,.i y.w.t,.i y.w.n,.i y.w.b])=yn x y:=by
  unfold yn;rw[PW (q:=x.w.h=y.w.h/\x.w.t=y.w.t/\x.w.n=y.w.n/\x.w.b=y.w.b) (by simp),VW];by_cases h1:x.w.h=y.w.h<;>by_cases h2:x.w.t=y.w.t<;>by_cases h3:x.w.n=y.w.n<;>by_cases h4:x.w.b=y.w.b<;>simp[h1,h2,h3,h4]
 rw[e];rfl
section
variable {H:AH}
theorem aeK(h:WI H x):dh 1 iU H (.sl x.w.id 0 x.w.B.length x.w.B.length)=some x.w.B:=B4 Be Fy (by rw[h.w.v];simp only[ae.row];exact(yq _).symm) rfl (by rw[h.w.v];rfl)
def aeo(args:List AV)(H:AH)(v:AV):Prop:=∀x y,args=[.c (.p x.w.p 0 0),.c (.p y.w.p 0 0)]->WI H x->WI H y->v=.c (.b (Dh x y))
def GN:List AV->AH->Option AV:=lk Tryz.prog [(55,.fq I8),(56,.fq Ms)] 16 aeo
theorem ate:bh Tryz.prog 16 (λargs H=>(GN args H).map λv=>(v,H)):=oL (tq ada (tq asz tn)) Tryz.func16 rfl Tryz.results16 Tryz.ntmps16
theorem Xe{y:Wd}(hX:WI H x)(hY:WI H y)(bx:fK x.w.B=true)(bY:fK y.w.B=true)(h8:fK x.D.t.A=true/\fK x.D.t.B=true/\fK y.D.t.A=true/\fK y.D.t.B=true):GN [.c (.p x.w.p 0 0),.c (.p y.w.p 0 0)] H=some (.c (.b (Dh x y))):=by
 have:∃v,GN [.c (.p x.w.p 0 0),.c (.p y.w.p 0 0)] H=some v/\aeo [.c (.p x.w.p 0 0),.c (.p y.w.p 0 0)] H v:=by
  unfold GN;apply mM (v:=.c (.b (Dh x y))) Tryz.func16 rfl Tryz.results16 Tryz.ntmps16 (by simp)
  .exact λ_ _=>rfl
  .intro _ _;have gx:=hX.w.o;have gy:=hY.w.o;have lx:=zK (R:=x.w.R) hX.w.l hX.w.lm;have ly:=zK (R:=y.w.R) hY.w.l hY.w.lm;have tx:bJ 4 (fg x.w x.w.R)=[.i x.w.h,.i x.w.t,.i x.w.n,.i x.w.b]:=rfl;have ty:bJ 4 (fg y.w y.w.R)=[.i y.w.h,.i y.w.t,.i y.w.n,.i y.w.b]:=rfl;have vx:(fg x.w x.w.R).getD 4 .any=.sl x.w.id 0 x.w.B.length x.w.B.length:=rfl;have vy:(fg y.w y.w.R).getD 4 .any=.sl y.w.id 0 y.w.B.length y.w.B.length:=rfl;have ux:=FF hX;have uy:=FF hY;obtain⟨a1,a2⟩:=OH hX;obtain⟨b1,b2⟩:=OH hY;rw[hX.m]at a2;rw[hY.m]at b2;have l1:=kK x.n hX.l;have l2:=kK y.n hY.l;have t1:bJ 321 (aH x.n x.M)=aH x.n x.M:=bQ ω;have t2:bJ 321 (aH y.n y.M)=aH y.n y.M:=bQ ω;have ec:=abc (x:=x) (y:=y);have et:=amH hX.w.l hY.w.l;have em:=amB (n:=x.n) (m:=y.n) hX.l hY.l;have eb:=WT (aeK hX) (aeK hY) bx bY;have es:=axZ hX.d hY.d h8;unfold Dh;rw[VW (x.w.B=y.w.B)];generalize pB (x.w.R=y.w.R)=z2 at*;generalize pB (x.n=y.n/\x.M=y.M)=z3 at*;generalize decide (x.w.B=y.w.B)=z4 at*;generalize zz x.D y.D=z5 at*;generalize yn x y=z1 at*;generalize fg x.w x.w.R=X at*;generalize fg y.w y.w.R=Y at*;cases z1
   .simp only[go_sem,seval,ph,gG,c8,rY,gx,gy,lx,ly,tx,ty,vx,vy,ux,uy,a1,a2,b1,b2,t1,t2,ec,et,em,eb,es];(repeat' first|apply cf|(intro c;exact absurd c ω)|(intro _;kernel_rfl)|kernel_rfl);exact aE _
   cases z2
   .simp only[go_sem,seval,ph,gG,c8,rY,gx,gy,lx,ly,tx,ty,vx,vy,ux,uy,a1,a2,b1,b2,t1,t2,ec,et,em,eb,es];(repeat' first|apply cf|(intro c;exact absurd c ω)|(intro _;kernel_rfl)|kernel_rfl);exact aE _
   cases z3
   .simp only[go_sem,seval,ph,gG,c8,rY,gx,gy,lx,ly,tx,ty,vx,vy,ux,uy,a1,a2,b1,b2,t1,t2,ec,et,em,eb,es];(repeat' first|apply cf|(intro c;exact absurd c ω)|(intro _;kernel_rfl)|kernel_rfl);exact aE _
   cases z4
   .simp only[go_sem,seval,ph,gG,c8,rY,gx,gy,lx,ly,tx,ty,vx,vy,ux,uy,a1,a2,b1,b2,t1,t2,ec,et,em,eb,es];(repeat' first|apply cf|(intro c;exact absurd c ω)|(intro _;kernel_rfl)|kernel_rfl);exact aE _
   cases z5;all_goals simp only[go_sem,seval,ph,gG,c8,rY,gx,gy,lx,ly,tx,ty,vx,vy,ux,uy,a1,a2,b1,b2,t1,t2,ec,et,em,eb,es]
   all_goals(repeat' first|apply cf|(intro c;exact absurd c ω)|(intro _;kernel_rfl)|kernel_rfl)
   all_goals exact aE _
  .intro x' y' he h1 h2;simp only[cL,AV.c.injEq,Sc.p.injEq,and_true]at he;rw[hX.uniq h1 he.1,hY.uniq h2 he.2]
 obtain⟨v,h1,h2⟩:=this;rw[h1,h2 x y rfl hX hY]
def Qw(args:List AV)(H:AH):Option AV:=match args with
 |[.g [.sl i o v n],.g [.sl j p w m]]=>match iT H (.sl i o v n),iT H (.sl j p w m)with
   |some A,some B=>if A.length<=262144/\B.length<=262144 then some (.c (.b (decide (A=B))))else none|_,_=>none
 |_=>none
theorem ayM{o v n p w:Nat}{A B:List Int}(h1:iT H (.sl i o v n)=some A)(h2:iT H (.sl j p w m)=some B)(hA:A.length<=262144)(hB:B.length<=262144):Qw [.g [.sl i o v n],.g [.sl j p w m]] H=some (.c (.b (decide (A=B)))):=by simp only[Qw,h1,h2];rw[if_pos ⟨hA,hB⟩]
end
section
variable {H:AH}
def aeI(args:List AV)(H:AH)(v:AV):Prop:=∀x y a b,args=[.g (aP x a),.g (aP y b)]->XI H x a->XI H y b->v=.c (.b (EY x y a b))
def QO:List AV->AH->Option AV:=lk Tryz.prog [(57,.fq Qw),(58,.fq Qz)] 17 aeI
theorem azm{y:Wd}{a b:Xw}(hX:XI H x a)(hY:XI H y b):QO [.g (aP x a),.g (aP y b)] H=some (.c (.b (EY x y a b))):=by
 have:∃v,QO [.g (aP x a),.g (aP y b)] H=some v/\aeI [.g (aP x a),.g (aP y b)] H v:=by
  unfold QO;apply mM (v:=.c (.b (EY x y a b))) Tryz.func17 rfl Tryz.results17 Tryz.ntmps17 (by simp)
  .exact λ_ _=>rfl
  .intro _ _;obtain⟨m1,d1⟩:=hX.rd;obtain⟨m2,d2⟩:=hY.rd;have s1:=hX.gV;have s2:=hY.gV;have l1:=s1.l;have l2:=s2.l;have t1:=s1.t;have t2:=s2.t;have a1:=s1.t21;have a2:=s2.t21;have b1:=s1.uN;have b2:=s2.uN;have c1:=s1.tc;have c2:=s2.tc;have o1:=hX.one;have o2:=hY.one;have e1:∀X,Qw [.g [.sl a.id 0 x.w.B.length x.w.B.length],.g [.sl b.id 0 y.w.B.length y.w.B.length]] (H++X)=some (.c (.b (decide (x.w.B=y.w.B)))):=λX=>ayM (zH (d1.app X).o) (zH (d2.app X).o) (by have:=d1.l;have:=d1.m;omega) (by have:=d2.l;have:=d2.m;omega);have e2:=λX=>ayZ hX.bs hY.bs (C6 (X:=X) hX.rp hX.bu hX.bv) (C6 (X:=X) hY.rp hY.bu hY.bv) (Sc.ic hX.bu (by simp)) (Sc.ic hX.bv (by simp)) (Sc.ic hY.bu (by simp)) (Sc.ic hY.bv (by simp));have ec:=abc (x:=x) (y:=y);have et:=amE d1.R d2.R;have em:=amA (n:=x.n) (m:=y.n) hX.l hY.l;have f1:∀(z:Wd)(c:Xw),bJ 4 (aP z c)=[.i z.w.h,.i z.w.t,.i z.w.n,.i z.w.b]:=λ_ _=>rfl;have f2:∀(z:Wd)(c:Xw),z.w.R.length=8->bJ 16 (cQ 5 (aP z c))=cH z.w.R:=λz c h=>by
    unfold aP eZ;show bJ 16 (cH z.w.R++_)=_;exact nQ (ub h)
   have f3:∀(z:Wd)(c:Xw),bJ 1 (cQ 4 (aP z c))=[.sl c.id 0 z.w.B.length z.w.B.length]:=λ_ _=>rfl;have f21:=f2 x a d1.R;have f22:=f2 y b d2.R;have f11:=f1 x a;have f12:=f1 y b;have f31:=f3 x a;have f32:=f3 y b;have g1:=s1.la;have g2:=s2.la;unfold EY;rw[VW (x.w.B=y.w.B)];generalize pB (x.w.R=y.w.R)=z2 at*;generalize pB (x.n=y.n/\a.R=b.R)=z3 at*;generalize decide (x.w.B=y.w.B)=z4 at*;generalize C3 x.D.b x.D.t y.D.b y.D.t=z5 at*;generalize yn x y=z1 at*;generalize aP x a=S1 at*;generalize aP y b=S2 at*;generalize eZ x.w.h x.w.t x.w.n x.w.b a.id x.w.B.length x.w.R=A1 at*;generalize eZ y.w.h y.w.t y.w.n y.w.b b.id y.w.B.length y.w.R=A2 at*;cases z1
   .simp only[go_sem,seval,ph,gG,c8,rY,l1,l2,t1,t2,a1,a2,b1,b2,c1,c2,o1,o2,e1,e2,ec,et,em,f11,f12,f21,f22,f31,f32,g1,g2];(repeat' first|apply cf|(intro c;exact absurd c ω)|(intro _;kernel_rfl)|kernel_rfl);exact aC _ _
   cases z2
   .simp only[go_sem,seval,ph,gG,c8,rY,l1,l2,t1,t2,a1,a2,b1,b2,c1,c2,o1,o2,e1,e2,ec,et,em,f11,f12,f21,f22,f31,f32,g1,g2];(repeat' first|apply cf|(intro c;exact absurd c ω)|(intro _;kernel_rfl)|kernel_rfl);exact aC _ _
   cases z4
   .simp only[go_sem,seval,ph,gG,c8,rY,l1,l2,t1,t2,a1,a2,b1,b2,c1,c2,o1,o2,e1,e2,ec,et,em,f11,f12,f21,f22,f31,f32,g1,g2];(repeat' first|apply cf|(intro c;exact absurd c ω)|(intro _;kernel_rfl)|kernel_rfl);exact aC _ _
   cases z5
   .simp only[go_sem,seval,ph,gG,c8,rY,l1,l2,t1,t2,a1,a2,b1,b2,c1,c2,o1,o2,e1,e2,ec,et,em,f11,f12,f21,f22,f31,f32,g1,g2];(repeat' first|apply cf|(intro c;exact absurd c ω)|(intro _;kernel_rfl)|kernel_rfl);exact aC _ _
   cases z3;all_goals simp only[go_sem,seval,ph,gG,c8,rY,l1,l2,t1,t2,a1,a2,b1,b2,c1,c2,o1,o2,e1,e2,ec,et,em,f11,f12,f21,f22,f31,f32,g1,g2]
   all_goals(repeat' first|apply cf|(intro c;exact absurd c ω)|(intro _;kernel_rfl)|kernel_rfl)
   all_goals exact aC _ _
  .intro x' y' a' b' he h1 h2;simp only[cL,AV.g.injEq,and_true]at he;obtain⟨c1,e1⟩:=hX.uniq h1 he.1;obtain⟨c2,e2⟩:=hY.uniq h2 he.2;subst e1 e2;have e3:EY x.co y.co a b=EY x'.co y'.co a b:=by rw[c1,c2]
   exact congrArg (λb=>AV.c (.b b)) e3
 obtain⟨v,h1,h2⟩:=this;rw[h1,h2 x y a b rfl hX hY]
def SY(k:Nat)(h t n b:Int)(id:Nat)(B:List Int)(R:List Sl):AH:=[.own (eZ h t n b id B.length R),.own (eZ h t n b (k+4) B.length R),.own [.sl id 0 B.length B.length],.own [.sl (k+4) 0 B.length B.length],.vec 1 (B.flatMap bR)]
def XE(args:List AV)(H:AH):Option (AV×AH):=match args with
 |[.g (.i h::.i t::.i n::.i b::.sl id 0 v N::rf)]=>match Ef H id v N rf with
   |some (B,R)=>if 0<B.length then some (.g (eZ h t n b (H.length+4) B.length R),H++SY H.length h t n b id B R)else none|none=>none
 |_=>none
theorem ayN{h t n b:Int}{id:Nat}{B:List Int}{m:Nat}{R:List Sl}(hd:vJ H id B.length B.length (cH R) B m R)(h0:0<B.length):XE [.g (eZ h t n b id B.length R)] H=some (.g (eZ h t n b (H.length+4) B.length R),H++SY H.length h t n b id B R):=by
 unfold eZ;simp only[XE,P7 hd];rw[if_pos h0];rfl
def xn(k:Nat)(x:Wd)(y:Xw):AH:=.own (aP x y)::.own (aP x {y with id:=k+6})::SY (k+2) x.w.h x.w.t x.w.n x.w.b y.id x.w.B x.w.R
def aeE(args:List AV)(H:AH)(v:AV)(H1:AH):Prop:=∀x y,args=[.g (aP x y)]->XI H x y->v=.g (aP x {y with id:=H.length+6})/\H1=H++xn H.length x y
def QM:List AV->AH->Option (AV×AH):=sd Tryz.prog [(54,.fp XE)] 15 aeE
theorem azi(hI:XI H x y)(h0:0<x.w.B.length):QM [.g (aP x y)] H=some (.g (aP x {y with id:=H.length+6}),H++xn H.length x y):=by
 have:∃v H1,QM [.g (aP x y)] H=some (v,H1)/\H.length<=H1.length/\aeE [.g (aP x y)] H v H1:=by
  obtain⟨m,hd⟩:=hI.rd;unfold QM;apply ie (v:=.g (aP x {y with id:=H.length+6})) (H1:=H++xn H.length x y) Tryz.func15 rfl Tryz.results15 Tryz.ntmps15 (by simp)
  .intro _ _;have sg:=hI.gV;have l:=sg.l;have t:=sg.t;have g:=sg.g;have t21:=sg.t21;have uN:=sg.uN;have tc:=sg.tc;have la:=sg.la;have lb:=sg.lb;have lc:=sg.lc;have ta:=sg.ta;have tb:=sg.tb;have JQ:=sg.JQ;have o:=hI.one;have q1:=λX=>ayN (h:=x.w.h) (t:=x.w.t) (n:=x.w.n) (b:=x.w.b) (hd.app X) h0;have l2:∀k,(eZ x.w.h x.w.t x.w.n x.w.b k x.w.B.length x.w.R).length=21:=λk=>BS hd.R;have t2:∀k,(eZ x.w.h x.w.t x.w.n x.w.b k x.w.B.length x.w.R).take 21=eZ x.w.h x.w.t x.w.n x.w.b k x.w.B.length x.w.R:=λk=>awy hd.R;have eo:∀k,eZ x.w.h x.w.t x.w.n x.w.b k x.w.B.length x.w.R++(bj x.D.b x.D.t y.u y.v++aH x.n y.R)=aP x {y with id:=k}:=λk=>rfl;have aN:=λk=>JZ (h:=x.w.h) (l2 k) lb lc (r:=.i x.w.t::.i x.w.n::.i x.w.b::.sl k 0 x.w.B.length x.w.B.length::cH x.w.R) rfl;have l3:=λk=>(aN k).l;have t3:=λk=>(aN k).t;have oS:∀k,(eZ x.w.h x.w.t x.w.n x.w.b k x.w.B.length x.w.R++(bj x.D.b x.D.t y.u y.v++aH x.n y.R)).all Sc.one=true:=λk=>by rw[fJ,fJ,C4,IV _ _ (j9 hI.rp.hx) (j9 hI.rp.hy),BH];rfl
   unfold xn;generalize aP x y=S at*;simp only[<-eo];generalize bj x.D.b x.D.t y.u y.v=B at*;generalize aH x.n y.R=C at*;have b1:=λk=>(DB (l2 k) lb).t21;have b2:=λk=>(DB (l2 k) lb).xp;have b3:=λk=>(DB (l2 k) lb).JO;have b4:=λk=>(DB (l2 k) lb).aaH;simp only[go_sem,seval,l,t,t21,uN,tc,la,lb,lc,ta,tb,JQ,o,q1,l2,t2,l3,t3,wQ,rX,uQ,aad,SF,aae,b1,b2,b3,b4,oS];(repeat' first|apply cf|(intro c;exact absurd c ω)|(intro _;kernel_rfl)|kernel_rfl);exact aI
  .simp
  .intro x' y' he mE;simp only[cL,AV.g.injEq,and_true]at he;obtain⟨ec,rfl⟩:=hI.uniq mE he;have e1:∀z:Xw,aP x z=aP x' z:=λz=>by
    have:aP x.co z=aP x'.co z:=by rw[ec]
    exact this
   have e2:xn H.length x.co y=xn H.length x'.co y:=by rw[ec]
   have e3:xn H.length x y=xn H.length x' y:=e2;exact⟨by rw[e1],by rw[e3]⟩
 obtain⟨v,H1,h1,_,h2⟩:=this;obtain⟨rfl,rfl⟩:=h2 x y rfl hI;exact h1
end
section
variable {H:AH}
def aep(args:List AV)(H:AH)(v:AV)(H1:AH):Prop:=∀x y,args=[.c (.p x.w.p 0 0),.g (aP x y)]->WI H x->XI H x y->uV x y->yR x.w->v=.c (.b true)/\∃X,H1=H++X
def GO:List AV->AH->Option (AV×AH):=sd Tryz.prog [(44,.fq Mx),(46,.fp Er),(45,.fq Ep),(48,.fq Mw),(47,.fp MH),(49,.fq MA),(50,.fq GM),(51,.fq GQ)] 13 aep
theorem atn:bh Tryz.prog 13 GO:=yw (tq asU (tp asR (tq asO (tq asQ (tp atm (tq as4 (tq atc (tq atB tn)))))))) Tryz.func13 rfl Tryz.results13 Tryz.ntmps13
theorem aBp{K:AH}{i j:Nat}{B:List Int}(h1:hg K i=.vec 1 (B.flatMap bR))(h2:hg K j=.vec 1 (B.flatMap bR))(hl:B.length<=262144):Ep [.c (.sl i 0 B.length B.length),.c (.sl j 0 B.length B.length)] K=some (.c (.b true)):=ayb (zH h1) (zH h2) hl
theorem Xk(hW:WI H x)(hX:XI H x y)(hm:uV x y)(hr:yR x.w):∃X,GO [.c (.p x.w.p 0 0),.g (aP x y)] H=some (.c (.b true),H++X):=by
 have:∃v H1,GO [.c (.p x.w.p 0 0),.g (aP x y)] H=some (v,H1)/\H.length<=H1.length/\aep [.c (.p x.w.p 0 0),.g (aP x y)] H v H1:=by
  obtain⟨m,hd⟩:=hX.rd;have sg:=hX.gV;have l:=sg.l;have t:=sg.t;have d:=sg.d;have uN:=sg.uN;have lb:=sg.lb;have o:=hX.one;have t4:bJ 4 (aP x y)=[.i x.w.h,.i x.w.t,.i x.w.n,.i x.w.b]:=rfl;have g4:(aP x y).getD 4 .any=.sl y.id 0 x.w.B.length x.w.B.length:=rfl;obtain⟨S,hS⟩:∃S,S=aP x y:=⟨_,rfl⟩;have fc:=λX=>ayf (hW.app X);have fb:=λX=>ayd (Rj (hW.app X).w.o (hW.app X).w.v) hW.w.b0 hW.w.b1;have fu:=λX=>ayc (hW.app X);have fm:=λX=>ayl (hW.app X);have e1:Ep [.c (.sl (H.length+1) 0 x.w.B.length x.w.B.length),.c (.sl y.id 0 x.w.B.length x.w.B.length)] (H++[.own S,.vec 1 (x.w.B.flatMap bR)])=some (.c (.b true)):=aBp (by rw[gM];rfl) (by rw[cB hX.aD];exact hd.o) hW.w.b1;obtain⟨X,h18⟩:=ayx (hW.app [.own S,.vec 1 (x.w.B.flatMap bR)]).d hX.bs (hX.app [.own S,.vec 1 (x.w.B.flatMap bR)]).rp (hX.app [.own S,.vec 1 (x.w.B.flatMap bR)]).bu (hX.app [.own S,.vec 1 (x.w.B.flatMap bR)]).bv;simp only[fv,lf,jW]at h18;have l3:=kK x.n hm.xl;have o3:=BH x.n x.M;have t3:bJ 321 (aH x.n x.M)=aH x.n x.M:=bQ ω;have z3:=kK 0 zx;have dz:cQ 321 (aH 0 Z8)=[]:=kN ω;obtain⟨N,hN⟩:∃N,N=X.length+2:=⟨_,rfl⟩;unfold GO;apply ie (v:=.c (.b true)) (H1:=H++(.own S::.vec 1 (x.w.B.flatMap bR)::(X++[.own (aH x.n x.M)]))) Tryz.func13 rfl Tryz.results13 Tryz.ntmps13 (by simp)
  .intro _ hH;rw[<-hS]at l t d o t4 g4 uN|-;have gK:∀Y,hg (H++(.own S::.vec 1 (x.w.B.flatMap bR)::(X++(ae.own (aH x.n x.M)::Y)))) (H.length+(X.length+2))=.own (aH x.n x.M):=λY=>by
    rw[gM];show hg (X++(ae.own (aH x.n x.M)::Y)) X.length=_;rw[km];rfl
   simp only[go_sem,seval,l,t,d,o,t4,g4,uN,lb,fc,fb,fu,fm,e1,h18,l3,o3,t3,z3,dz,Nv];(repeat' first|apply cf|(intro c;exact absurd c ω)|(intro _;kernel_rfl)|kernel_rfl);obtain⟨G,hG⟩:∃G:AH,H++(.own S::.vec 1 (x.w.B.flatMap bR)::(X++[.own (aH x.n x.M)]))=G:=⟨_,rfl⟩;rw[hG];have lG:H.length<G.length:=by rw[<-hG];simp
   have g1:hg G H.length=.own S:=by rw[<-hG,km];rfl
   have g2:hg G (H.length+(X.length+2))=.own (aH x.n x.M):=by rw[<-hG];exact gK []
   have wG:WI G x:=by rw[<-hG];exact hW.app _
   have sub:qz H G:=by rw[<-hG];exact aC _ _
   have f1:∀j:Nat,j<8->GM [.c (.p x.w.p 0 0),.c (.i (j:Int))] G=some (.t [.c (.u (x.w.R.getD j z0).ln),.c (.b (x.w.R.getD j z0).is)]):=λj hj=>by
    rw[ayr wG.w,aL];by_cases c:(j:Int)<x.w.h
    .rw[if_pos ⟨ω,c⟩]
    .rw[if_neg (λh=>c h.2),hr.1 j ω];rfl
   have f2:∀j k:Nat,j<8->k<8->GQ [.c (.p (H.length+(X.length+2)) 0 0),.c (.i (j:Int)),.c (.i (k:Int))] G=some (.g (fV (fH y.R j k))):=λj k hj hk=>by rw[ayD g2 hm.xl hm.n8,<-hm.tr j k hj hk]
   have f3:∀j:Nat,j<8->S.getD (5+j) .any=.b (x.w.R.getD j z0).is/\S.getD (13+j) .any=.u (x.w.R.getD j z0).ln:=λj hj=>by
    obtain⟨r,ve⟩:∃r,x.w.R[j]?=some r:=⟨_,cP (by rw[hd.R];exact hj)⟩;have:=aB6 (y:=y) hd.R ve;rw[<-hS]at this;rw[bX (l:=x.w.R),ve];exact this
   have f4:∀j k:Nat,j<8->k<8->(S.drop (708+(1+j*40+k*5))).take 5=fV (fH y.R j k):=λj k hj hk=>by rw[hS];exact aB5 hX hj hk
   refine fB 8 (λi=>([(0,.c (.p x.w.p 0 0)),(3,.c (.p H.length 0 0)),(4,.c (.b false)),(5,.c (.p (H.length+(X.length+2)) 0 0)),(6,.c (.i i))],G)) (mF (by simp[Am.get])) λi hi=>?_;by_cases aG:i<8
   .have iI:(i:Int)<8:=ω
    have i0:(0:Int)<=(i:Int):=ω
    have E1:aA ((i:Int)+1)=((i+1:Nat):Int):=by rw[aq ω ω];omega
    have h1:=f1 i aG;obtain⟨h3,h4⟩:=f3 i aG;have hz:B9 (x.w.R.getD i z0):=hr.2 i;generalize x.w.R.getD i z0=zr at*;obtain⟨zi,zl⟩:=zr;simp only at h1 h3 h4;have Ut:(zi=false/\zl=0#64)\/zi=true:=by
     cases zi
     .exact .inl ⟨rfl,congrArg Sl.ln (hz rfl)⟩
     .exact .inr rfl
    rcases Ut with⟨rfl,rfl⟩|rfl;all_goals(repeat(first|simp only[go_sem,seval,iI,i0,h1,g1,l,h3,h4,aL]|simp(disch:=omega)only[w0]))
    all_goals(refine fB 8 (λk=>([(0,.c (.p x.w.p 0 0)),(3,.c (.p H.length 0 0)),(4,.c (.b false)),(5,.c (.p (H.length+(X.length+2)) 0 0)),(6,.c (.i i)),(9,.c (.i k))],G)) ?_ λk hk=>?_;·exact mF (by simp[Am.get]))
    all_goals
     by_cases hlk:k<8
     .have kI:(k:Int)<8:=ω
      have k0:(0:Int)<=(k:Int):=ω
      have E2:aA ((k:Int)+1)=((k+1:Nat):Int):=by rw[aq ω ω];omega
      have h5:=f2 i k aG hlk;have h6:=f4 i k aG hlk;rw[show 708+(1+i*40+k*5)=709+i*40+k*5 by omega]at h6;have b1:709+i*40+k*5+5<=1029:=ω
      generalize fH y.R i k=sl at*;obtain⟨os,ov,od,oa,oi⟩:=sl;have es:fV ⟨os,ov,od,oa,oi⟩=[.b os,.b ov,.b od,.u oa,.i oi]:=rfl;rw[es]at h5 h6;simp only[go_sem,seval,iI,i0,kI,k0,h5,h6,g1,l,b1,E2,aL];exact⟨k+1,ω,ω,mF (by simp[Am.get])⟩
     .obtain rfl:k=8:=ω
      simp only[go_sem,seval,E1];exact⟨i+1,ω,ω,mF (by simp[Am.get])⟩
   obtain rfl:i=8:=ω
   simp only[go_sem,seval];exact aI
  .simp
  .intro x' y' he _ _ _ _;exact⟨rfl,_,rfl⟩
 obtain⟨v,H1,h1,_,h2⟩:=this;obtain⟨rfl,X,rfl⟩:=h2 x y rfl hW hX hm hr;exact⟨X,h1⟩
end
structure Da where
 h:Int
 q:Wa
def KG(e:Da):List Sc:=.i e.h::cG e.q
def Fz:List Sc->Option Da|[.i h,.i k,.u a,.u b,.i c,.i s,.i op,.u d,.u o,.b lv,.i ht,.b rs,.b rv,.b rd,.u va,.i i,.i e1,.u e2,.i e3,.u e4]=>some ⟨h,⟨k,a,b,c,s,op,d,o,lv,ht,rs,rv,rd,va,i,e1,e2,e3,e4⟩⟩|_=>none
theorem alW(e:Da):Fz (KG e)=some e:=rfl
theorem aaR(cs:List Sc)(e:Da)(h:Fz cs=some e):cs=KG e:=by
 unfold Fz at h;split at h
 .simp only[ar]at h;subst h;rfl
 .simp at h
theorem Ow(e:Da):(KG e).length=20:=rfl
def zk(k:Nat)(h t n b:Int):Wd:=⟨⟨k+4,k+3,h,t,n,b,bD (64*n.toNat) 0,bD 8 z0,.p (k+2) 0 0,aH h Z8⟩,⟨k+2,k+1,bN h,fR,.az,.az⟩,h,Z8⟩
theorem anq:HW=iy BR:=rfl
theorem ana(hh:1<=h/\h<=8):oI h h.toNat=aR (iS h):=by
 have:h=1\/h=2\/h=3\/h=4\/h=5\/h=6\/h=7\/h=8:=ω
 rcases this with rfl|rfl|rfl|rfl|rfl|rfl|rfl|rfl<;>rfl
theorem anw(hh:1<=h/\h<=8):Bg h=eJ (iP h):=by
 have:h=1\/h=2\/h=3\/h=4\/h=5\/h=6\/h=7\/h=8:=ω
 rcases this with rfl|rfl|rfl|rfl|rfl|rfl|rfl|rfl<;>rfl
theorem am9(hh:1<=h/\h<=8)(m:Nat):KJ m h=fP m (bN h):=by
 unfold KJ fP bN;rw[ana hh,anw hh]
section
variable {H:AH}
theorem aBK{t b:Int}(hh:1<=h/\h<=8)(hn:1<=n/\n<=4096):WI (H++Ah H.length h t n b) (zk H.length h t n b):=by
 obtain⟨g1,g2⟩:=Vq (H:=H) h t n b [];rw[m7]at g1 g2;have lr:(bD (64*n.toNat) (0:Int)).length=64*n.toNat:=NA ..;have b0:=(S5 (H++[ae.own [.i h,.i t,.i n,.i b]]) hh).app [ae.vec 1 (bD (64*n.toNat) (.k .u8 0)),ae.own (pP h t n b (.sl (H.length+3) 0 (64*n.toNat) (64*n.toNat)) uJ (.p (H.length+2) 0 0) (aH h Z8))];have e:(H++[ae.own [.i h,.i t,.i n,.i b]])++[ae.own (iy BR),ae.own (fP (H++[ae.own [.i h,.i t,.i n,.i b]]).length (bN h))]++[ae.vec 1 (bD (64*n.toNat) (.k .u8 0)),ae.own (pP h t n b (.sl (H.length+3) 0 (64*n.toNat) (64*n.toNat)) uJ (.p (H.length+2) 0 0) (aH h Z8))]=H++Ah H.length h t n b:=by
  unfold Ah;rw[anq,am9 hh];simp
 rw[e]at b0;have ed:dN (H++[ae.own [.i h,.i t,.i n,.i b]]) h=⟨H.length+2,H.length+1,bN h,fR,.az,.az⟩:=by simp[dN]
 rw[ed]at b0;refine⟨⟨?_,g2,rfl,?_,?_,kK h zx,hh.2⟩,b0,rfl,rfl,rfl,hh.2,rfl,?_,?_⟩
 .show hg _ (H.length+4)=.own (pP h t n b (.sl (H.length+3) 0 (bD (64*n.toNat) (0:Int)).length (bD (64*n.toNat) (0:Int)).length) (iA (bD 8 z0)) (.p (H.length+2) 0 0) (aH h Z8));rw[lr];exact g1
 .show 0<(bD (64*n.toNat) (0:Int)).length;rw[lr];omega
 .show(bD (64*n.toNat) (0:Int)).length<=262144;rw[lr];omega
 .exact⟨by show H.length+4≠H.length+2;omega,by show H.length+4≠H.length+1;omega,by simp[zk,aJ],by simp[zk,aJ]⟩
 .exact⟨by show H.length+3≠H.length+2;omega,by show H.length+3≠H.length+1;omega,by simp[zk,aJ],by simp[zk,aJ]⟩
theorem aBH(hh:1<=h/\h<=8):mH (bN h):=(aqw [] [] hh).bs
theorem aBL{k id:Nat}{h t n b:Int}(hh:1<=h/\h<=8)(hn:1<=n/\n<=4096)(zV:hg H id=.vec 1 (bD (64*n.toNat) (.k .u8 0))):XI H (zk k h t n b) (mG id):=by
 have lr:(bD (64*n.toNat) (0:Int)).length=64*n.toNat:=NA ..;refine⟨⟨n.toNat,?_,rfl,rfl,lr,ω,?_,rfl,rfl⟩,aBH hh,(show jm H fR .az .az from⟨rfl,rfl,δ,δ,δ,δ,δ,δ,δ,δ⟩),rfl,rfl,rfl,hh.2,hh.2,rfl,by simp[mG,aJ],by simp[mG,aJ]⟩
 .show hg H id=.vec 1 ((bD (64*n.toNat) (0:Int)).flatMap bR);rw[zV,aeT]
 .intro y hy;have hy:y∈bD (64*n.toNat) (0:Int):=hy;rw[List.eq_of_mem_replicate hy];omega
theorem aBI{k id:Nat}{h t n b:Int}(hh:1<=h/\h<=8):uV (zk k h t n b) (mG id):=⟨rfl,rfl,hh.2,aBf h,aCC h⟩
theorem aBJ{t b:Int}:yR (zk k h t n b).w:=by
 have e:∀j:Nat,(bD 8 z0).getD j z0=z0:=λj=>by
  rw[bX,Dm];split<;>rfl
 exact⟨λj _=>e j,λj _=>e j⟩
end
section
variable {H K:AH}{c o:List Sc}{x:Wd}{y:Xw}{n:Nat}
def OE(m z:Nat):Prop:=z<m+2\/z=m+13
structure AW(H:AH)(c o:List Sc)(K:AH)(x:Wd)(y:Xw)(n:Nat):Prop where
 lp:w4 (OE H.length) (λz=>z=H.length+13) K x y n
 ro:yR x.w
 p:x.w.p=H.length+6
 dj:∀j,j<H.length->hg K j=hg H j
 oc:hg K H.length=.own c
 oo:hg K (H.length+1)=.own o
 ox:hg K (H.length+13)=.own (aP x y)
theorem AW.len(I:AW H c o K x y n):H.length+14<=K.length:=(I.lp.z _ (.inr rfl)).1
theorem AW.app(I:AW H c o K x y n)(X:AH):AW H c o (K++X) x y n:=by
 have l:=I.len;exact⟨I.lp.app X,I.ro,I.p,λj hj=>by rw[cB ω];exact I.dj j hj,by rw[cB ω];exact I.oc,by rw[cB ω];exact I.oo,by rw[cB ω];exact I.ox⟩
theorem AW.step(I:AW H c o K x y n)(hn:n<100000)(e:Da)(hs:eC e.q.s):∃K1 K2 x' y' A q,Jk [.c (.p (H.length+6) 0 0),.c (.i e.h),.g (cG e.q)] K=some (.c (.b q))/\JG [.g (aP x y),.c (.i e.h),.g (cG e.q)] K=some (.c (.b q))/\vq [.c (.p (H.length+6) 0 0),.c (.i e.h),.g (cG e.q)] K=some (.t [.g A,.c (.b q)],K1)/\dX K K1/\H.length+14<=K1.length/\(∀j,j<H.length->∀Y,hg (K1++Y) j=hg H j)/\(∀Y,hg (K1++Y) (H.length+13)=.own (aP x y))/\wM [.g (aP x y),.c (.i e.h),.g (cG e.q)] (K1++[ae.own A])=some (.t [.g (aP x' y'),.g A,.c (.b q)],K2)/\dX (K1++[ae.own A]) K2/\K1.length<K2.length/\(∀Y,hg (K2++Y) K1.length=.own A)/\(∀Y,hg (K2++Y) (H.length+13)=.own (aP x y))/\(∃d g r,A=fL d g r)/\(aP x' y').length=1029/\(aP x' y').all Sc.one=true/\bJ 1029 (aP x' y')=aP x' y'/\AW H c o ((K2++[ae.own (aP x' y'),ae.own A]).set (H.length+13) (ae.own (aP x' y'))) x' y' (n+1):=by
 have ll:=I.len;obtain⟨K1,u,w,e1,tX,l1,k1,rest⟩:=I.lp.step hn e.h hs;obtain⟨K2,u',w',e2,nv2,l2,k2,I2⟩:=rest [.own (jG x y e.h e.q)];have my:=afn I.lp.wi (h:=e.h) (q:=e.q);have mx:=afM I.lp.xi (h:=e.h) (q:=e.q) hs;rw[I.p]at my e1;have lp1:(K1++[ae.own (jG x y e.h e.q)]).length=K1.length+1:=by simp
 have UK:∀j,OE H.length j->hg K1 j=hg K j:=λj hj=>by obtain⟨a,b,_⟩:=I.lp.z j hj;exact k1 j a b
 have kp2:∀j,OE H.length j->hg K2 j=hg K j:=λj hj=>by
  obtain⟨a,b,d⟩:=I.lp.z j hj;rw[k2 j ω d,cB ω];exact UK j hj
 have aD:=I.lp.xi.aD;have ex:aP (ek x e.h e.q) ⟨y.id,u',w',xR x y e.h e.q⟩=aP (oJ x e.h e.q u w) ⟨y.id,u',w',xR x y e.h e.q⟩:=rfl;rw[ex]at e2;have sg:=I2.xi.gV;refine⟨K1,K2,oJ x e.h e.q u w,⟨y.id,u',w',xR x y e.h e.q⟩,jG x y e.h e.q,dx x e.h e.q,my,mx,e1,tX,ω,λj hj Y=>?_,λY=>?_,e2,nv2,ω,λY=>?_,λY=>?_,Rt x y e.h e.q,sg.l,I2.xi.one,sg.t,?_⟩
 .rw[cB ω,UK j (.inl ω)];exact I.dj j hj
 .rw[cB ω,UK _ (.inr rfl)];exact I.ox
 .rw[cB ω,k2 _ ω ω,km];rfl
 .rw[cB ω,kp2 _ (.inr rfl)];exact I.ox
 have I3:=I2.app [.own (aP (oJ x e.h e.q u w) ⟨y.id,u',w',xR x y e.h e.q⟩),.own (jG x y e.h e.q)];have g:∀j,j<H.length+13->OE H.length j->∀S,hg ((K2++[ae.own (aP (oJ x e.h e.q u w) ⟨y.id,u',w',xR x y e.h e.q⟩),.own (jG x y e.h e.q)]).set (H.length+13) S) j=hg K j:=λj hj hP S=>by rw[ej ω,cB ω];exact kp2 j hP
 refine⟨I3.set rfl _,Wz I.ro e.h e.q u w,I.p,λj hj=>?_,?_,?_,iN (by simp;omega)⟩
 .rw[g j ω (.inl ω)];exact I.dj j hj
 .rw[g H.length ω (.inl ω)];exact I.oc
 .rw[g (H.length+1) ω (.inl ω)];exact I.oo
end
section
variable {H K:AH}{c o:List Sc}{x:Wd}{y:Xw}{n:Nat}
theorem XI.a8(h:XI H x y):fK x.w.B=true:=by
 obtain⟨m,hd⟩:=h.rd;unfold fK;rw[cE];exact λz hz=>decide_eq_true (hd.nV z hz)
theorem akP(k:Nat)(x:Wd)(y:Xw):(xn k x y).length=7:=rfl
theorem akQ(h:XI H x y)(h0:0<x.w.B.length)(X:AH):XI (H++(xn H.length x y++X)) x {y with id:=H.length+6}:=by
 have h':=h.app (xn H.length x y++X);obtain⟨m,hd⟩:=h'.rd;refine⟨⟨m,?_,hd.v,hd.N,hd.l,hd.m,hd.nV,hd.rf,hd.R⟩,h'.bs,h'.rp,h'.bu,h'.bv,h'.l,h'.n8,h'.h8,h'.hb,λe=>?_,λe=>?_⟩
 .show hg _ (H.length+6)=_;rw[gM];rfl
 .have:H.length+6<H.length:=rj h.rp.hx h.bu e;omega
 .have:H.length+6<H.length:=rj h.rp.hy h.bv e;omega
theorem AW.fin(I:AW H c o K x y n)(hn:n<100000)(e:Da)(hs:eC e.q.s):∃K4 K5 X1 X2 Z S' A q z,Jg [.c (.p (H.length+6) 0 0)] K=some (.c (.p (K.length+5) 0 0),K++qN K.length x)/\(∃S,QM [.g (aP x y)] (K++qN K.length x)=some (.g S,K++Z)/\S.length=1029/\S.all Sc.one=true/\bJ 1029 S=S/\Z.length=13/\GN [.c (.p (K.length+5) 0 0),.c (.p (H.length+6) 0 0)] (K++(Z++[ae.own S]))=some (.c (.b true))/\vq [.c (.p (K.length+5) 0 0),.c (.i e.h),.g (cG e.q)] (K++(Z++[ae.own S]))=some (.t [.g A,.c (.b q)],K4)/\dX (K++(Z++[ae.own S])) K4/\K.length+14<=K4.length/\(∀j,j<K.length->∀Y,hg (K4++Y) j=hg K j)/\(∀Y,hg (K4++Y) (K.length+13)=ae.own S)/\wM [.g S,.c (.i e.h),.g (cG e.q)] K4=some (.t [.g S',.g A,.c (.b q)],K5)/\hg K5 (K.length+13)=ae.own S)/\dX K4 K5/\K.length+14<=K5.length/\(∀j,j<K.length->∀Y,hg (K5.set (K.length+13) (ae.own S')++Y) j=hg K j)/\A.length=42/\A.all Sc.one=true/\S'.length=1029/\S'.all Sc.one=true/\bJ 1029 S'=S'/\GO [.c (.p (K.length+5) 0 0),.g S'] (K5.set (K.length+13) (ae.own S'))=some (.c (.b true),K5.set (K.length+13) (ae.own S')++X1)/\GO [.c (.p (H.length+6) 0 0),.g (aP x y)] (K5.set (K.length+13) (ae.own S')++X1)=some (.c (.b true),K5.set (K.length+13) (ae.own S')++(X1++X2))/\GN [.c (.p (K.length+5) 0 0),.c (.p (H.length+6) 0 0)] (K5.set (K.length+13) (ae.own S')++(X1++X2))=some (.c (.b z))/\QO [.g (aP x y),.g S'] (K5.set (K.length+13) (ae.own S')++(X1++X2))=some (.c (.b z)):=by
 have fw:=I.lp.few hn;have wi:=I.lp.wi;have xi:=I.lp.xi;have b0:=wi.w.b0;have q1:=W7 wi fw;rw[I.p]at q1;have cl:(K++qN K.length x).length=K.length+6:=by rw[cj,SS]
 have q2:=azi (xi.app (qN K.length x)) b0;rw[cl]at q2;have e1:K.length+6+6=K.length+12:=ω
 rw[e1]at q2;obtain⟨S,hS⟩:∃S,S=aP x {y with id:=K.length+12}:=⟨_,rfl⟩;obtain⟨Z,hZ⟩:∃Z,Z=qN K.length x++xn (K.length+6) x y:=⟨_,rfl⟩;have lZ:Z.length=13:=by rw[hZ,cj,SS,akP]
 rw[fv,<-hZ,<-hS]at q2;obtain⟨K3,sj⟩:∃K3,K3=K++(Z++[.own S]):=⟨_,rfl⟩;have l3:K3.length=K.length+14:=by rw[sj,cj,cj,lZ];rfl
 have wd:WI K3 (jn K.length x):=by
  have:=(SU wi).app (xn (K.length+6) x y++[.own S]);rw[sj,hZ];simpa only[fv]using this
 have xc:XI K3 x {y with id:=K.length+12}:=by
  have:=akQ (xi.app (qN K.length x)) b0 [.own S];rw[cl]at this;rw[sj,hZ];simpa only[fv,e1]using this
 have w3:WI K3 x:=by rw[sj];exact wi.app _
 have x3:XI K3 x y:=by rw[sj];exact xi.app _
 have sy:∀i,aJ y.u=some i->i<K.length:=λi hi=>rj xi.rp.hx xi.bu hi;have sv:∀i,aJ y.v=some i->i<K.length:=λi hi=>rj xi.rp.hy xi.bv hi;have aF:∀z,z<K.length\/K.length+6<=z->nR (jn K.length x) z:=λz hz=>by
  refine⟨?_,?_,?_,?_,?_,?_⟩
  .show z≠K.length+5;omega
  .show z≠K.length;omega
  .show z≠K.length+1+3;omega
  .show z≠K.length+1;omega
  .simp only[jn,xm,aJ,ne_eq,ar];omega
  .simp only[jn,xm,aJ,ne_eq,ar];omega
 have ml2:uV (jn K.length x) {y with id:=K.length+12}:=⟨I.lp.ml.xl,I.lp.ml.yl,I.lp.ml.n8,I.lp.ml.tr,I.lp.ml.ze⟩;have J:w4 (λz=>z<K.length\/z=K.length+13) (λz=>z=K.length+13) K3 (jn K.length x) {y with id:=K.length+12} n:=by
  refine⟨wd,xc.Fq rfl rfl rfl rfl rfl rfl,ml2,aF _ (.inr (by show K.length+6<=K.length+12;omega)),λi hi=>aF i (.inl (sy i hi)),λi hi=>aF i (.inl (sv i hi)),λz hz=>?_,λz hz=>?_,I.lp.a8,I.lp.b8,I.lp.la,I.lp.lb⟩
  .exact⟨ω,aF z ω,by show z≠K.length+12;omega⟩
  .exact⟨.inr hz,λh=>by have:=sy z h;omega,λh=>by have:=sv z h;omega⟩
 have q3:=Xe wd w3 xi.a8 xi.a8 ⟨I.lp.a8,I.lp.b8,I.lp.a8,I.lp.b8⟩;rw[agz (x:=jn K.length x) (y:=x) rfl rfl rfl rfl rfl rfl rfl rfl rfl rfl,I.p]at q3;obtain⟨K4,u,w,q4,nv4,l4,k4,rest⟩:=J.step hn e.h hs;obtain⟨K5,u',w',q5,LW,l5,k5,J5⟩:=rest [];rw[m7]at q5 LW l5 k5;have ec:aP (jn K.length x) {y with id:=K.length+12}=S:=by rw[hS];rfl
 rw[ec]at q5;obtain⟨S',qf⟩:∃S',S'=aP (ek (jn K.length x) e.h e.q) ⟨K.length+12,u',w',xR (jn K.length x) {y with id:=K.length+12} e.h e.q⟩:=⟨_,rfl⟩;obtain⟨A,hA⟩:∃A,A=jG (jn K.length x) {y with id:=K.length+12} e.h e.q:=⟨_,rfl⟩;rw[<-hA]at q4 q5;obtain⟨d1,d2,d3,hd⟩:=Rt (jn K.length x) {y with id:=K.length+12} e.h e.q;rw[<-hA]at hd;have Pw:∀j,j<K.length\/j=K.length+13->hg K4 j=hg K3 j:=λj hj=>by
  obtain⟨a,b,_⟩:=J.z j hj;exact k4 j a b
 have kp5:∀j,j<K.length->hg K5 j=hg K j:=λj hj=>by rw[k5 j ω (by show j≠K.length+12;omega),Pw j (.inl hj),sj,cB hj]
 have g3:hg K3 (K.length+13)=.own S:=by rw[sj,gM,<-lZ,km];rfl
 have J6:=J5.set (z:=K.length+13) rfl (.own S');obtain⟨K6,OV⟩:∃K6,K6=K5.set (K.length+13) (.own S'):=⟨_,rfl⟩;rw[<-OV]at J6;have l6:K6.length=K5.length:=by rw[OV,iR]
 have UL:∀j,j<K.length->hg K6 j=hg K j:=λj hj=>by rw[OV,ej ω];exact kp5 j hj
 have w6:WI K6 x:=wi.stay λj hj _=>UL j hj;have x6:XI K6 x y:=xi.stay ω λj hj _=>UL j hj;have ro6:yR (oJ (jn K.length x) e.h e.q u w).w:=Wz (x:=jn K.length x) I.ro e.h e.q u w;obtain⟨X1,q6⟩:=Xk J6.wi J6.xi J6.ml ro6;obtain⟨X2,q7⟩:=Xk (w6.app X1) (x6.app X1) I.lp.ml I.ro;rw[I.p,fv]at q7;have q8:=Xe (J6.wi.app (X1++X2)) (w6.app (X1++X2)) J6.xi.a8 xi.a8 ⟨J6.a8,J6.b8,I.lp.a8,I.lp.b8⟩;have q9:=azm (x6.app (X1++X2)) (J6.xi.app (X1++X2));rw[azq J6.ml I.lp.ml,I.p]at q8;have es:aP (oJ (jn K.length x) e.h e.q u w) ⟨K.length+12,u',w',xR (jn K.length x) {y with id:=K.length+12} e.h e.q⟩=S':=by rw[qf];rfl
 rw[es]at q6 q9;have sg:=xc.gV;have so:=xc.one;rw[<-hS]at sg so;have Yo:=J5.xi.gV;have so5:=J5.xi.one;rw[es]at Yo so5;subst OV;refine⟨K4,K5,X1,X2,Z,S',A,dx (jn K.length x) e.h e.q,_,q1,⟨S,q2,sg.l,so,sg.t,lZ,sj▸q3,sj▸q4,sj▸nv4,ω,λj hj Y=>?_,λY=>?_,by rw[qf];exact q5,by rw[k5 _ ω (by show K.length+13≠K.length+12;omega),Pw _ (.inr rfl),g3]⟩,LW,ω,λj hj Y=>?_,?_,?_,Yo.l,so5,Yo.t,q6,q7,q8,q9⟩
 .rw[cB ω,Pw j (.inl hj),sj,cB hj]
 .rw[cB ω,Pw _ (.inr rfl),g3]
 .rw[cB ω];exact UL j hj
 .rw[hd,NO]
 .rw[hd];exact NP _ _ _
end
def Yf(args:List AV):Option AV:=match args with|[.g [.i h,.i t,.i n,.i b]]=>some (.c (.b (Eh h t n b)))|_=>none
theorem QN{h t n b}:Yf [.g [.i h,.i t,.i n,.i b]]=some (.c (.b (Eh h t n b))):=rfl
theorem au1:cK Tryz.prog 6 Yf:=by
 refine cR tn Tryz.func6 rfl Tryz.results6 Tryz.ntmps6 ?_;intro args v h;unfold Yf at h;split at h
 .rename_i h t n b;simp only[ar]at h;subst h;refine⟨by simp,rfl,rfl,?_⟩;simp only[go_sem,seval,Eh,G9];repeat'(first
 |(refine vN (λh=>?_) (λh=>?_)<;>(try simp only[decide_eq_true_eq,decide_eq_false_iff_not,gY,jj,iM,jk,aQ,beq_iff_eq,beq_eq_false_iff_ne,ne_eq,gj]at h)<;>(simp only[go_sem,seval,h]))|(refine vY (λh=>?_) (λh=>?_)<;>(try simp only[decide_eq_true_eq,decide_eq_false_iff_not,gY,jj,iM,jk,aQ,beq_iff_eq,beq_eq_false_iff_ne,ne_eq,gj]at h)<;>((repeat(first|simp only[go_sem,seval,h]|simp(disch:=omega)only[w0]))))|(refine vZ (λh=>?_) (λh=>?_)<;>(try simp only[decide_eq_true_eq,decide_eq_false_iff_not,gY,jj,iM,jk,aQ,beq_iff_eq,beq_eq_false_iff_ne,ne_eq,gj]at h)<;>((repeat(first|simp(maxSteps:=9^9)only[go_sem,seval,h]|simp(disch:=omega)only[aq,aV,aU,aT,aS])))))
  all_goals(simp_all<;>omega)
 .simp at h
theorem awH{t b:Int}:Gy h t n b=Eh h t n b:=rfl
section
variable {H:AH}
def aDm(args:List AV)(H:AH):Option AV:=match args with
 |[.g [.i _,.i _,.i _,.i _],.c x,.g g]=>match dh 20 Fz H x,Fz g with
   |some L,some d=>open Classical in if L.length<=9223372036854775807/\(∀e∈L,eC e.q.s)/\eC d.q.s then some (.c (.b true))else none|_,_=>none
 |_=>none
theorem alU(cs:List Sc)(gg:L2 jY cs [.n .i64,.n .i64,.n .u64,.n .u64,.n .i64,.n .i64,.n .i64,.n .u64,.n .u64,.q,.n .i64,.q,.q,.q,.n .u64,.n .i64,.n .i64,.n .u64,.n .i64,.n .u64]):∃x:Da,cs=KG x/\eC x.q.s:=by
 obtain⟨z0,l0,rfl,k0,g0⟩:=ku gg;obtain⟨z1,l1,rfl,k1,g1⟩:=ku g0;obtain⟨z2,l2,rfl,k2,g2⟩:=ku g1;obtain⟨z3,l3,rfl,k3,g3⟩:=ku g2;obtain⟨z4,l4,rfl,k4,g4⟩:=ku g3;obtain⟨z5,l5,rfl,k5,g5⟩:=ku g4;obtain⟨z6,l6,rfl,k6,g6⟩:=ku g5;obtain⟨z7,l7,rfl,k7,g7⟩:=ku g6;obtain⟨z8,l8,rfl,k8,g8⟩:=ku g7;obtain⟨z9,l9,rfl,k9,g9⟩:=ku g8;obtain⟨z10,l10,rfl,k10,HX⟩:=ku g9;obtain⟨z11,l11,rfl,F7,OI⟩:=ku HX;obtain⟨z12,l12,rfl,F8,OJ⟩:=ku OI;obtain⟨z13,l13,rfl,F9,g13⟩:=ku OJ;obtain⟨z14,DZ,rfl,Lz,g14⟩:=ku g13;obtain⟨z15,l15,rfl,k15,g15⟩:=ku g14;obtain⟨z16,Iw,rfl,k16,g16⟩:=ku g15;obtain⟨z17,l17,rfl,k17,g17⟩:=ku g16;obtain⟨z18,l18,rfl,k18,g18⟩:=ku g17;obtain⟨z19,l19,rfl,k19,g19⟩:=ku g18;obtain rfl:=OA g19;obtain⟨y0,rfl,_,_⟩:=u5 k0;obtain⟨y1,rfl,_,_⟩:=u5 k1;obtain⟨y2,rfl⟩:=Cw k2;obtain⟨y3,rfl⟩:=Cw k3;obtain⟨y4,rfl,_,_⟩:=u5 k4;obtain⟨y5,rfl,r5a,r5b⟩:=u5 k5;obtain⟨y6,rfl,_,_⟩:=u5 k6;obtain⟨y7,rfl⟩:=Cw k7;obtain⟨y8,rfl⟩:=Cw k8;obtain⟨y9,rfl⟩:=DI k9;obtain⟨y10,rfl,_,_⟩:=u5 k10;obtain⟨y11,rfl⟩:=DI F7;obtain⟨y12,rfl⟩:=DI F8;obtain⟨y13,rfl⟩:=DI F9;obtain⟨y14,rfl⟩:=Cw Lz;obtain⟨y15,rfl,_,_⟩:=u5 k15;obtain⟨y16,rfl,_,_⟩:=u5 k16;obtain⟨y17,rfl⟩:=Cw k17;obtain⟨y18,rfl,_,_⟩:=u5 k18;obtain⟨y19,rfl⟩:=Cw k19;exact⟨⟨y0,⟨y1,y2,y3,y4,y5,y6,y7,y8,y9,y10,y11,y12,y13,y14,y15,y16,y17,y18,y19⟩⟩,rfl,⟨r5a,r5b⟩⟩
end
def vg(a:List Sc):Prop:=∃d g r,a=fL d g r
theorem vg.l{a:List Sc}(h:vg a):a.length=42:=by obtain⟨d,g,r,rfl⟩:=h;exact NO _ _ _
theorem vg.o{a:List Sc}(h:vg a):a.all Sc.one=true:=by obtain⟨d,g,r,rfl⟩:=h;exact NP _ _ _
theorem vg.b{a:List Sc}(h:vg a)(n:Nat):a.all (Sc.aj n)=true:=by obtain⟨d,g,r,rfl⟩:=h;exact Kk _ _ _ _
theorem vg.t{a:List Sc}(h:vg a):bJ 42 a=a:=bQ (by rw[h.l];exact aB _)
structure jX where
 h:Int
 q:Wa
 a:List Sc
 f:Int
 t:Int
 o:Int
 ha:vg a
def fU(e:jX):List Sc:=.i e.h::(cG e.q++(e.a++[.i e.f,.i e.t,.i e.o]))
theorem JS(q:Wa):(cG q).length=19:=rfl
theorem vS(e:jX):(fU e).length=65:=by unfold fU;rw[cT,cj,cj,JS,e.ha.l];rfl
theorem aba(e:jX):(fU e).all Sc.one=true:=by
 unfold fU;rw[bK,fJ,fJ,e.ha.o];rfl
variable {e:jX}
theorem amp{e':jX}(h:fU e=fU e'):e=e':=by
 unfold fU at h;simp only[cL,Sc.i.injEq]at h;obtain⟨h1,h2⟩:=h;obtain⟨h3,h4⟩:=s5 h2 (by rw[JS,JS]);obtain⟨h5,h6⟩:=s5 h4 (by rw[e.ha.l,e'.ha.l]);simp only[cL,Sc.i.injEq,and_true]at h6;obtain⟨h7,h8,h9⟩:=h6;have H7:=Nq h3;clear h2 h3 h4;cases e;cases e';simp only at h1 H7 h5 h7 h8 h9;subst h1 H7 h5 h7 h8 h9;rfl
noncomputable def xq(cs:List Sc):Option jX:=by classical exact if h:∃e,cs=fU e then some h.choose else none
theorem aaS(e:jX):xq (fU e)=some e:=by
 unfold xq;have h:∃e',fU e=fU e':=⟨e,rfl⟩;rw[dif_pos h];exact congrArg some (amp h.choose_spec).symm
theorem Ol(cs:List Sc)(e:jX)(h:xq cs=some e):cs=fU e:=by
 unfold xq at h;split at h
 .rename_i h1;simp only[ar]at h;rw[<-h];exact h1.choose_spec
 .simp at h
theorem Zx{a b:List Sc}(ha:vg a)(hb:vg b):cA Tryz.prog .neq 73 (.g a) (.g b)=some (.c (.b (!pB (a=b)))):=by
 obtain⟨d,g,r,rfl⟩:=ha;obtain⟨d',g',r',rfl⟩:=hb;have c:Cm (.n::.q::(bD 8 [Tg.q,.q,.q,.n,.n]).flatten) (fL d g r) (fL d' g' r'):=(HB _ _).one ((DD _ _).one (aau r r'));rw[Ki _ κ anT,c.HP];rfl
def Wd.sl(x:Wd)(u v:Sc):Wd:={x with D:={x.D with x:=u,y:=v}}
theorem anm(x:Wd)(u v a b:Sc)(h:Int)(q:Wa):oJ (x.sl u v) h q a b=(ek x h q).sl a b:=rfl
theorem anj(x:Wd)(u v:Sc)(h:Int)(q:Wa):jD (x.sl u v) h q=jD x h q:=rfl
theorem anl(x:Wd)(u v:Sc)(h:Int)(q:Wa):dx (x.sl u v) h q=dx x h q:=rfl
noncomputable def pD(x:Wd)(e:jX):Bool:=dx x e.h e.q&&pB (jD x e.h e.q=e.a)
noncomputable def jw(x:Wd):List jX->Nat->Nat×Bool×Wd|[],_=>(0,true,x)|e::L,i=>if pD x e=true then jw (ek x e.h e.q) L (i+1)else(i,false,ek x e.h e.q)
theorem Tl(x:Wd)(h:Int)(q:Wa):vg (jD x h q):=by
 have e0:∀d g,bU d g=fL d g jA:=λd g=>by
  unfold bU fL;rw[Qa];rfl
 unfold jD;split
 .split
  .exact⟨_,_,_,e0 _ _⟩
  .split
   .obtain⟨g,r,h⟩:=ama x.n x.M h q.k q.h q.R;exact⟨_,_,_,h⟩
   .split
    .exact⟨_,_,_,e0 _ _⟩
    .exact⟨_,_,_,e0 _ _⟩
 .exact⟨_,_,_,e0 _ _⟩
theorem ank(hb:fK x.w.B=true)(h:Int)(q:Wa):fK (j5 x h q)=true:=by
 have e:∀B:List Int,fK B=true↔∀y∈B,0<=y/\y<=255:=λB=>by
  unfold fK;rw[cE];exact⟨λh y hy=>of_decide_eq_true (h y hy),λh y hy=>decide_eq_true (h y hy)⟩
 rw[e]at hb|-;unfold j5;split
 .exact agw hb
 .exact hb
structure WS(H H1:AH)(x z:Wd)(u v:Sc)(n:Nat):Prop where
 wi:WI H1 (z.sl u v)len:H.length<=H1.length
 dj:∀k,k<H.length->nR x k->hg H1 k=hg H k
 fx:∀i,aJ u=some i->aJ x.D.x=some i\/H.length<=i
 fy:∀i,aJ v=some i->aJ x.D.y=some i\/H.length<=i
 nw:dX H H1
 same:z.w.p=x.w.p/\z.w.id=x.w.id/\z.D.id=x.D.id/\z.D.pid=x.D.pid
 a8:fK x.D.t.A=true->fK x.D.t.B=true->fK z.D.t.A=true/\fK z.D.t.B=true
 la:z.D.t.A.length<=x.D.t.A.length+n
 lb:z.D.t.B.length<=x.D.t.B.length+n
 ro:yR x.w->yR z.w
 bb:fK x.w.B=true->fK z.w.B=true
variable {L:List jX}
section
variable {H K:AH}{x z:Wd}{u v:Sc}{n:Nat}
theorem WS.refl(h:WI H x):WS H H x x x.D.x x.D.y 0:=⟨h,aB _,λ_ _ _=>rfl,λ_ h=>.inl h,λ_ h=>.inl h,nI _,⟨rfl,rfl,rfl,rfl⟩,λa b=>⟨a,b⟩,aB _,aB _,id,id⟩
theorem WS.app(s:WS H K x z u v n)(X:AH)(hX:(X.all λo=>o.live=false||o.owned)=true):WS H (K++X) x z u v n:=⟨s.wi.app X,by rw[cj];have:=s.len;omega,λk h1 h2=>by rw[cB (by have:=s.len;omega)];exact s.dj k h1 h2,s.fx,s.fy,fX s.nw (jb hX),s.same,s.a8,s.la,s.lb,s.ro,s.bb⟩
theorem WS.ap(s:WS H K x z u v n)(hk:k<H.length)(a:nR x k):nR (z.sl u v) k:=by
 obtain⟨e1,e2,e3,e4⟩:=s.same;refine⟨by show k≠z.w.p;rw[e1];exact a.p,by show k≠z.w.id;rw[e2];exact a.i,by show k≠z.D.id;rw[e3];exact a.d,by show k≠z.D.pid;rw[e4];exact a.e,λe=>?_,λe=>?_⟩
 .rcases s.fx k e with c|c
  .exact a.sx c
  .omega
 .rcases s.fy k e with c|c
  .exact a.sy c
  .omega
theorem WS.step(s:WS H K x z u v n)(h1:x.D.t.A.length+n<100000)(h2:x.D.t.B.length+n<100000)(h:Int)(q:Wa):∃K1 a b,vq [.c (.p x.w.p 0 0),.c (.i h),.g (cG q)] K=some (.t [.g (jD z h q),.c (.b (dx z h q))],K1)/\dX K K1/\K.length<=K1.length/\(∀k,k<K.length->nR (z.sl u v) k->hg K1 k=hg K k)/\WS H K1 x (ek z h q) a b (n+1):=by
 have la:=s.la;have lb:=s.lb;have fw:AT (z.sl u v).D.t:=⟨by show z.D.t.A.length<=_;omega,by show z.D.t.B.length<=_;omega⟩;obtain⟨K1,a,b,e1,s1⟩:=afm s.wi fw (h:=h) (q:=q);obtain⟨p1,p2,p3,p4⟩:=s.same;have ep:(z.sl u v).w.p=x.w.p:=p1;rw[ep,anj,anl]at e1;obtain⟨d1,d2,d3⟩:=Ts z h q;have kp:∀k,k<K.length->nR (z.sl u v) k->hg K1 k=hg K k:=λk hk a=>s1.dj k hk a.p a.i a.d a.e a.sx a.sy;have len:=s.len;refine⟨K1,a,b,e1,s1.nw,s1.len,kp,⟨by rw[<-anm];exact s1.wi,Du s.len s1.len,λk hk hp=>by rw[kp k ω (s.ap hk hp)];exact s.dj k hk hp,λi hi=>?_,λi hi=>?_,fX s.nw s1.nw,s.same,λa b=>?_,?_,?_,λr=>Wz (x:=z) (s.ro r) h q _ _,λr=>ank (s.bb r) h q⟩⟩
 .rcases s1.fx i hi with c|c
  .exact s.fx i c
  .right;omega
 .rcases s1.fy i hi with c|c
  .exact s.fy i c
  .right;omega
 .obtain⟨a',b'⟩:=s.a8 a b;exact d3 a' b'
 .show(jJ z h q).A.length<=_;omega
 .show(jJ z h q).B.length<=_;omega
def aen(args:List AV)(H:AH)(w:AV)(H1:AH):Prop:=∀x sl L,args=[.c (.p x.w.p 0 0),.c sl]->WI H x->dh 65 xq H sl=some L->w=.t [.c (.i (jw x L 0).1),.c (.b (jw x L 0).2.1)]/\∃u v,WS H H1 x (jw x L 0).2.2 u v L.length
def GK:List AV->AH->Option (AV×AH):=sd Tryz.prog [(11,.fp vq)] 18 aen
theorem ata:bh Tryz.prog 18 GK:=yw (tp adj tn) Tryz.func18 rfl Tryz.results18 Tryz.ntmps18
theorem GB(h:pD x e=true):jw x (e::L) i=jw (ek x e.h e.q) L (i+1):=by simp only[jw];rw[if_pos h]
theorem GA(h:¬pD x e=true):jw x (e::L) i=(i,false,ek x e.h e.q):=by simp only[jw];rw[if_neg h]
theorem abh{L:List jX}{k:Nat}{e:jX}(he:L[k]?=some e):bJ 65 (cQ (k*65) (L.flatMap fU))=fU e:=by
 obtain⟨P,Q,s1,s2,_⟩:=Bf vS he;rw[s1,<-s2,fv,J4];exact nQ (vS e)
theorem abi(e:jX):(fU e).getD 0 .any=.i e.h/\bJ 19 (cQ 1 (fU e))=cG e.q/\bJ 42 (cQ 20 (fU e))=e.a:=by
 refine⟨rfl,?_,?_⟩
 .unfold fU;exact nQ (JS e.q)
 .unfold fU;show bJ 42 (cQ 19 (cG e.q++(e.a++[.i e.f,.i e.t,.i e.o])))=_;rw[vE (JS e.q)];exact nQ e.ha.l
def RP(H:AH)(x:Wd)(sl:Sc):List jX->AH->Wd->AH->Prop|[],K,_,Kf=>K=Kf|e::L,K,z,Kf=>∃K1,vq [.c (.p x.w.p 0 0),.c (.i e.h),.g (cG e.q)] (K++[.own (fU e)])=some (.t [.g (jD z e.h e.q),.c (.b (dx z e.h e.q))],K1)/\dX (K++[.own (fU e)]) K1/\K.length<K1.length/\hg K1 K.length=.own (fU e)/\(∀i,aJ sl=some i->hg K1 i=hg H i/\i<K1.length)/\(pD z e=true->RP H x sl L (K1++[.own (jD z e.h e.q)]) (ek z e.h e.q) Kf)/\(¬pD z e=true->K1++[.own (jD z e.h e.q)]=Kf)
theorem Zi{sl:Sc}(ha:∀i,aJ sl=some i->nR x i/\i<H.length):∀(L:List jX){K:AH}{z:Wd}{u v:Sc}{n:Nat},WS H K x z u v n->x.D.t.A.length+(n+L.length)<100000->x.D.t.B.length+(n+L.length)<100000->∀k,∃Kf u' v',RP H x sl L K z Kf/\WS H Kf x (jw z L k).2.2 u' v' (n+L.length)
 |[],K,z,u,v,n,s,_,_,k=>⟨K,u,v,rfl,s⟩|e::L,K,z,u,v,n,s,h1,h2,k=>by
   simp only[cT]at h1 h2;have s0:=s.app [.own (fU e)] rfl;obtain⟨K1,a,b,e1,nv,l1,k1,s1⟩:=s0.step ω ω e.h e.q;have lK:(K++[ae.own (fU e)]).length=K.length+1:=by simp
   have o1:hg K1 K.length=.own (fU e):=by rw[k1 _ ω (s.wi.lt (aB _)),km];rfl
   have len:=s.len;have o2:∀i,aJ sl=some i->hg K1 i=hg H i/\i<K1.length:=λi hi=>by
    obtain⟨a1,a2⟩:=ha i hi;exact⟨s1.dj i a2 a1,ω⟩
   have s2:=s1.app [.own (jD z e.h e.q)] rfl;by_cases c:pD z e=true
   .obtain⟨Kf,u',v',r1,r2⟩:=Zi ha L s2 ω ω (k+1);refine⟨Kf,u',v',⟨K1,e1,nv,ω,o1,o2,λ_=>r1,λh=>absurd c h⟩,?_⟩;rw[GB c,cT,show n+(L.length+1)=n+1+L.length by omega];exact r2
   .refine⟨K1++[.own (jD z e.h e.q)],a,b,⟨K1,e1,nv,ω,o1,o2,λh=>absurd h c,λ_=>rfl⟩,?_⟩;rw[GA c];have la:=s2.la;have lb:=s2.lb;exact⟨s2.wi,s2.len,s2.dj,s2.fx,s2.fy,s2.nw,s2.same,s2.a8,by rw[cT];show(ek z e.h e.q).D.t.A.length<=_;omega,by rw[cT];show(ek z e.h e.q).D.t.B.length<=_;omega,s2.ro,s2.bb⟩
theorem afp{sl:Sc} (hI:WI H x) (hL:dh 65 xq H sl=some L) (ha:∀i,aJ sl=some i->nR x i/\i < H.length) (hn:L.length<=1000000) (h1:x.D.t.A.length+L.length < 100000) (h2:x.D.t.B.length+L.length < 100000) :
 ∃H1 u v,GK [.c (.p x.w.p 0 0),.c sl] H=some (.t [.c (.i (jw x L 0).1),.c (.b (jw x L 0).2.1)],H1)/\WS H H1 x (jw x L 0).2.2 u v L.length:=by
 have:∃w H1,GK [.c (.p x.w.p 0 0),.c sl] H=some (w,H1)/\H.length<=H1.length/\aen [.c (.p x.w.p 0 0),.c sl] H w H1:=by
  obtain ⟨Kf,u',v',r1,r2⟩:=Zi ha L (WS.refl hI) ω ω 0
  rw [oF] at r2
  have xl:∀e,nH (.sl e) (.c sl)=some (.c (.i L.length)):=by rcases xT Ol hL with ⟨rfl,rfl⟩ | ⟨id,v,rfl,_,_⟩ <;> intro e <;> rfl
  unfold GK
  apply ie (v:=.t [.c (.i (jw x L 0).1),.c (.b (jw x L 0).2.1)]) (H1:=Kf) Tryz.func18 rfl Tryz.results18 Tryz.ntmps18 (by simp)
  .intro _ _
   simp only [go_sem,seval,xl]
   --SHOW
   rw [rz]
   refine ⟨{s:Nat × AH × Wd // s.1<=L.length/\RP H x sl (L.drop s.1) s.2.1 s.2.2 Kf/\jw x L 0=jw s.2.2 (L.drop s.1) s.1/\∀i,aJ sl=some i->hg s.2.1 i=hg H i/\i < s.2.1.length},
    λs=>([(0,.c (.p x.w.p 0 0)),(12,.c sl),(13,.c (.i L.length)),(14,.c (.i s.1.1))],s.1.2.1),λs=>L.length - s.1.1,
    ⟨(0,H,x),by simp,r1,rfl,λi hi=>⟨rfl,(ha i hi).2⟩⟩,Wk.fr (by simp [Am.get]),?_⟩
   rintro ⟨⟨k,K,z⟩,hk,hr,hw,hs⟩
   simp only at hk hr hw hs |-
   by_cases aG:k < L.length
   .obtain ⟨e,he⟩:∃a,L[k]?=some a:=⟨_,cP aG⟩
    have FR:L.drop k=e::L.drop (k+1):=by
     rw [Dk aG]
     congr 1
     rw [cP aG] at he
     exact Kd he
    rw [FR] at hr hw
    obtain ⟨K1,q1,tX,l1,o1,o2,y1,y2⟩:=hr
    rcases xT Ol hL with ⟨rfl,rfl⟩ | ⟨id,aX,rfl,hv,cu⟩
    .simp at aG
    obtain ⟨nB,hg2⟩:=hs id rfl
    obtain ⟨hg3,hg4⟩:=o2 id rfl
    have T1:∀X,hg (K++X) id=hg H id:=λX=>by rw [cB hg2];exact nB
    have g1:=FD vS (L:=L) (k:=k) aG
    have c1:bJ 65 (cQ (k * 65) (hg H id).cells)=fU e:=by rw [cu];exact abh he
    rw [<-cu] at g1
    obtain ⟨p1,p2,p3⟩:=abi e
    have le:=vS e
    have oe:=aba e
    have te:bJ 65 (fU e)=fU e:=bQ ω
    have oP:(k:Int) < (L.length:Int):=ω
    have k0:(0:Int)<=(k:Int):=ω
    have E1:aA ((k:Int)+1)=((k+1:Nat):Int):=by rw [aq ω ω];omega
    have hA:=Tl z e.h e.q
    obtain ⟨A,Bh⟩:∃A,A=jD z e.h e.q:=⟨_,rfl⟩
    rw [<-Bh] at hA
    have al:=hA.l
    have a1:=hA.o
    have cJ:=hA.t
    have an:=Zx hA e.ha
    have lK1:(K1++[ae.own A]).length=K1.length+1:=by simp
    have n0:∀X,hg (K++X) K.length=hg X 0:=λX=>km
    have s0:∀X o,(K++X).set K.length o=K++X.set 0 o:=λX o=>zd
    have n1:∀X,hg (K1++X) K1.length=hg X 0:=λX=>km
    have s1:∀X o,(K1++X).set K1.length o=K1++X.set 0 o:=λX o=>zd
    have Vr:∀X,hg (K1++X) K.length=.own (fU e):=λX=>by rw [cB l1];exact o1
    have rN:∀i,aJ (.sl id 0 aX L.length)=some i->hg (K1++[ae.own A]) i=hg H i/\i < (K1++[ae.own A]).length:=λi hi=>by
     obtain ⟨a,b⟩:=o2 i hi
     exact ⟨by rw [cB b];exact a,ω⟩
    have mR:=hv.symm
    have ez:pD z e=(dx z e.h e.q && pB (A=e.a)):=by unfold pD;rw [Bh]
    rw [<-Bh] at q1 y1 y2
    have fin:=λ(X:AH)=>(⟨_,rfl⟩:∃v,some v=some (AV.t [AV.c (Sc.i (jw x L 0).1),AV.c (Sc.b (jw x L 0).2.1)]))
    cases hm:dx z e.h e.q
    all_goals rw [hm] at q1 ez
    .have rM:¬pD z e=true:=by rw [ez];simp
     rw [GA rM] at hw
     have zO:=y2 rM
     rw [hw,<-zO]
     simp only [go_sem,seval,oP,k0,g1,c1,nB,T1,mR,n0,s0,p1,p2,p3,le,oe,te,q1,n1,s1,o1,Vr,al,a1,cJ,aL]
     (repeat' first | apply cf | exact ot tX κ | (intro c;exact absurd c ω) | (intro _;kernel_rfl) | kernel_rfl)
     exact aI
    cases hb:pB (A=e.a)
    all_goals rw [hb] at an ez
    .have rM:¬pD z e=true:=by rw [ez];simp
     rw [GA rM] at hw
     have zO:=y2 rM
     rw [hw,<-zO]
     simp only [go_sem,seval,oP,k0,g1,c1,nB,T1,mR,n0,s0,p1,p2,p3,le,oe,te,q1,n1,s1,o1,Vr,al,a1,cJ,an,aL]
     (repeat' first | apply cf | exact ot tX κ | (intro c;exact absurd c ω) | (intro _;kernel_rfl) | kernel_rfl)
     exact aI
    .have Lw:pD z e=true:=by rw [ez];simp
     rw [GB Lw] at hw
     have hR:=y1 Lw
     simp only [go_sem,seval,oP,k0,g1,c1,nB,T1,mR,n0,s0,p1,p2,p3,le,oe,te,q1,n1,s1,o1,Vr,al,a1,cJ,an,E1,aL]
     (repeat' first | apply cf | exact ot tX κ | (intro c;exact absurd c ω) | (intro _;kernel_rfl) | kernel_rfl)
     exact ⟨⟨(k+1,_,ek z e.h e.q),by simp only;omega,hR,hw,rN⟩,by simp only;omega,Wk.fr (by simp [Am.get])⟩
   .obtain rfl:k=L.length:=ω
    rw [List.drop_length] at hr hw
    have zO:K=Kf:=hr
    subst zO
    have oP:¬((L.length:Int) < (L.length:Int)):=ω
    rw [hw]
    simp only [go_sem,seval,oP,jw]
    exact aI
  .exact r2.len
  .intro x' sl' L' he mE tK
   simp only [cL,AV.c.injEq,Sc.p.injEq,and_true] at he
   obtain ⟨e1,rfl⟩:=he
   obtain rfl:=hI.uniq mE e1
   rw [hL] at tK
   obtain rfl:=Kd tK
   exact ⟨rfl,u',v',r2⟩
 obtain ⟨w,H1,g1,_,g2⟩:=this
 obtain ⟨rfl,u,v,s⟩:=g2 x sl L rfl hI hL
 exact ⟨H1,u,v,g1,s⟩
end
def Rw(R:List Row):Xw:=⟨0,.az,.az,R⟩
noncomputable def tG(z:Wd)(R:List Row)(e:jX):Bool:=dx z e.h e.q&&pB (jG z (Rw R) e.h e.q=e.a)
noncomputable def iz(z:Wd)(R:List Row):List jX->Nat->Nat×Bool×Wd×List Row|[],_=>(0,true,z,R)|e::L,i=>if tG z R e=true then iz (ek z e.h e.q) (xR z (Rw R) e.h e.q) L (i+1)else(i,false,ek z e.h e.q,xR z (Rw R) e.h e.q)
theorem I7{R:List Row}(h:tG x R e=true):iz x R (e::L) i=iz (ek x e.h e.q) (xR x (Rw R) e.h e.q) L (i+1):=by simp only[iz];rw[if_pos h]
theorem GC{R:List Row}(h:¬tG x R e=true):iz x R (e::L) i=(i,false,ek x e.h e.q,xR x (Rw R) e.h e.q):=by simp only[iz];rw[if_neg h]
structure XS(H K:AH)(x:Wd)(y:Xw)(z:Wd)(R:List Row)(u v:Sc)(n:Nat):Prop where
 xi:XI K z ⟨y.id,u,v,R⟩len:H.length+2<=K.length
 dj:∀k,k<H.length->k≠y.id->hg K k=hg H k
 nu:∀i,aJ u=some i->aJ y.u=some i\/H.length+2<=i
 nv:∀i,aJ v=some i->aJ y.v=some i\/H.length+2<=i
 nw:dX H K
 la:z.D.t.A.length<=x.D.t.A.length+n
 lb:z.D.t.B.length<=x.D.t.B.length+n
structure XG(H K:AH)(S:List Sc):Prop where
 g0:hg K H.length=.own S
 g1:hg K (H.length+1)=.own pQ
section
variable {H K:AH}{x z:Wd}{y:Xw}{R:List Row}{u v:Sc}{n:Nat}
theorem XS.ap(s:XS H K x y z R u v n)(hI:XI H x y)(h1:H.length<=k)(h2:k<H.length+2):RN ⟨y.id,u,v,R⟩ k:=by
 have aD:=hI.aD;refine⟨by show k≠y.id;omega,λe=>?_,λe=>?_⟩
 .rcases s.nu k e with c|c
  .have:=rj hI.rp.hx hI.bu c;omega
  .omega
 .rcases s.nv k e with c|c
  .have:=rj hI.rp.hy hI.bv c;omega
  .omega
theorem XS.set(s:XS H K x y z R u v n)(hI:XI H x y)(h1:H.length<=k)(h2:k<H.length+2)(S:List Sc):XS H (K.set k (.own S)) x y z R u v n:=by
 have a:=s.ap hI h1 h2;refine⟨s.xi.stay (by simp) λj _ hj=>ej λe=>hj (e▸a),by rw[iR];exact s.len,λj hj hn=>by rw[ej ω];exact s.dj j hj hn,s.nu,s.nv,fX s.nw (jS λ_=>rfl),s.la,s.lb⟩
theorem XS.app(s:XS H K x y z R u v n)(X:AH)(hX:(X.all λo=>o.live=false||o.owned)=true):XS H (K++X) x y z R u v n:=by
 have l:=s.len;exact⟨s.xi.app X,by rw[cj];omega,λj hj hn=>by rw[cB ω];exact s.dj j hj hn,s.nu,s.nv,fX s.nw (jb hX),s.la,s.lb⟩
theorem XS.step(s:XS H K x y z R u v n)(hI:XI H x y)(h1:x.D.t.A.length+n<100000)(h2:x.D.t.B.length+n<100000)(h:Int)(hs:eC q.s):∃K1 a b,wM [.g (aP z ⟨y.id,u,v,R⟩),.c (.i h),.g (cG q)] K=some (.t [.g (aP (ek z h q) ⟨y.id,a,b,xR z (Rw R) h q⟩),.g (jG z (Rw R) h q),.c (.b (dx z h q))],K1)/\dX K K1/\K.length<=K1.length/\(∀k,k<K.length->k≠y.id->hg K1 k=hg K k)/\XS H K1 x y (ek z h q) (xR z (Rw R) h q) a b (n+1):=by
 have la:=s.la;have lb:=s.lb;have len:=s.len;obtain⟨a,b,K1,e1,s1⟩:=afK s.xi ω ω (h:=h) hs;obtain⟨d1,d2,d3⟩:=Ts z h q;refine⟨K1,a,b,e1,s1.nw,s1.len,s1.dj,⟨s1.xi,Du s.len s1.len,λk hk hn=>by rw[s1.dj k ω hn];exact s.dj k hk hn,λi hi=>?_,λi hi=>?_,fX s.nw s1.nw,?_,?_⟩⟩
 .rcases s1.nu i hi with c|c
  .exact s.nu i c
  .right;omega
 .rcases s1.nv i hi with c|c
  .exact s.nv i c
  .right;omega
 .show(jJ z h q).A.length<=_;omega
 .show(jJ z h q).B.length<=_;omega
def XP(H:AH)(y:Xw)(sl:Sc):List jX->AH->Wd->List Sc->List Row->AH->List Sc->Prop|[],K,_,S,_,Kf,Sf=>K.set (H.length+1) (.own S)=Kf/\S=Sf|e::L,K,z,S,R,Kf,Sf=>∃K1 S',wM [.g S,.c (.i e.h),.g (cG e.q)] K=some (.t [.g S',.g (jG z (Rw R) e.h e.q),.c (.b (dx z e.h e.q))],K1)/\dX K K1/\H.length+2<=K1.length/\XG H K1 S/\(∀i,aJ sl=some i->hg K1 i=hg H i/\i<H.length)/\S'.length=1029/\S'.all Sc.one=true/\(tG z R e=true->XP H y sl L ((K1++[ae.own S',ae.own (jG z (Rw R) e.h e.q)]).set H.length (ae.own S')) (ek z e.h e.q) S' (xR z (Rw R) e.h e.q) Kf Sf)/\(¬tG z R e=true->((K1++[ae.own S',ae.own (jG z (Rw R) e.h e.q)]).set H.length (ae.own S')).set (H.length+1) (ae.own S')=Kf/\S'=Sf)
theorem aB3(z:Wd)(y:Xw)(h:Int)(q:Wa):vg (jG z y h q):=Rt z y h q
theorem Zn{sl:Sc}(hI:XI H x y)(ha:∀i,aJ sl=some i->i≠y.id/\i<H.length):∀(L:List jX){K:AH}{z:Wd}{R:List Row}{u v:Sc}{n:Nat},(∀e∈L,eC e.q.s)->XS H K x y z R u v n->XG H K (aP z ⟨y.id,u,v,R⟩)->x.D.t.A.length+(n+L.length)<100000->x.D.t.B.length+(n+L.length)<100000->∀k,∃Kf Sf u' v',XP H y sl L K z (aP z ⟨y.id,u,v,R⟩) R Kf Sf/\XS H Kf x y (iz z R L k).2.2.1 (iz z R L k).2.2.2 u' v' (n+L.length)/\Sf=aP (iz z R L k).2.2.1 ⟨y.id,u',v',(iz z R L k).2.2.2⟩
 |[],K,z,R,u,v,n,_,s,_,_,_,k=>⟨_,_,u,v,⟨rfl,rfl⟩,s.set hI ω ω _,rfl⟩|e::L,K,z,R,u,v,n,hs,s,g,h1,h2,k=>by
   simp only[cT]at h1 h2;have len:=s.len;obtain⟨K1,a,b,e1,nv,l1,k1,s1⟩:=s.step hI ω ω e.h (hs e (List.mem_cons_self ..));have aD:=hI.aD;have g':XG H K1 (aP z ⟨y.id,u,v,R⟩):=⟨by rw[k1 _ ω ω];exact g.g0,by rw[k1 _ ω ω];exact g.g1⟩;have o2:∀i,aJ sl=some i->hg K1 i=hg H i/\i<H.length:=λi hi=>by
    obtain⟨a1,a2⟩:=ha i hi;exact⟨s1.dj i a2 a1,a2⟩
   have sg:=s1.xi.gV;have so:=s1.xi.one;have s2:=(s1.app [.own (aP (ek z e.h e.q) ⟨y.id,a,b,xR z (Rw R) e.h e.q⟩),.own (jG z (Rw R) e.h e.q)] rfl).set hI (k:=H.length) ω ω (aP (ek z e.h e.q) ⟨y.id,a,b,xR z (Rw R) e.h e.q⟩);have g2:XG H ((K1++[ae.own (aP (ek z e.h e.q) ⟨y.id,a,b,xR z (Rw R) e.h e.q⟩),ae.own (jG z (Rw R) e.h e.q)]).set H.length (ae.own (aP (ek z e.h e.q) ⟨y.id,a,b,xR z (Rw R) e.h e.q⟩))) (aP (ek z e.h e.q) ⟨y.id,a,b,xR z (Rw R) e.h e.q⟩):=by
    refine⟨iN (by simp;omega),?_⟩;rw[ej ω,cB ω];exact g'.g1
   by_cases c:tG z R e=true
   .obtain⟨Kf,Sf,u',v',r1,r2,r3⟩:=Zn hI ha L (λe he=>hs e (List.mem_cons_of_mem _ he)) s2 g2 ω ω (k+1);refine⟨Kf,Sf,u',v',⟨K1,_,e1,nv,ω,g',o2,sg.l,so,λ_=>r1,λh=>absurd c h⟩,?_,?_⟩
    .rw[I7 c,cT,show n+(L.length+1)=n+1+L.length by omega];exact r2
    .rw[I7 c];exact r3
   .have s3:=s2.set hI (k:=H.length+1) ω ω (aP (ek z e.h e.q) ⟨y.id,a,b,xR z (Rw R) e.h e.q⟩);refine⟨_,_,a,b,⟨K1,_,e1,nv,ω,g',o2,sg.l,so,λh=>absurd h c,λ_=>⟨rfl,rfl⟩⟩,?_,?_⟩
    .rw[GC c];have la:=s3.la;have lb:=s3.lb;exact⟨s3.xi,s3.len,s3.dj,s3.nu,s3.nv,s3.nw,by rw[cT];show(ek z e.h e.q).D.t.A.length<=_;omega,by rw[cT];show(ek z e.h e.q).D.t.B.length<=_;omega⟩
    .rw[GC c]
theorem Tn(h:x.co=x'.co)(i:Int)(q:Wa):(ek x i q).co=(ek x' i q).co:=by
 have e1:(ek x i q).co=(ek x.co i q).co:=rfl;have e2:(ek x' i q).co=(ek x'.co i q).co:=rfl;rw[e1,e2,h]
theorem agH(h:x.co=x'.co)(y:Xw)(i:Int)(q:Wa):xR x y i q=xR x' y i q:=by rw[<-JY x,<-JY x',h]
theorem amU(h:x.co=x'.co)(R:List Row)(e:jX):tG x R e=tG x' R e:=by
 unfold tG;rw[<-HU x,<-HU x',<-Rs x,<-Rs x',h]
theorem awS(h:x.co=x'.co)(R:List Row)(L:List jX)(i:Nat):(iz x R L i).1=(iz x' R L i).1/\(iz x R L i).2.1=(iz x' R L i).2.1/\(iz x R L i).2.2.2=(iz x' R L i).2.2.2/\(iz x R L i).2.2.1.co=(iz x' R L i).2.2.1.co:=by induction L generalizing x x' R i with
 |nil=>exact⟨rfl,rfl,rfl,h⟩|cons e L ih=>
   have e0:=amU h R e;by_cases c:tG x R e=true
   .rw[I7 c,I7 (e0▸c),agH h];exact ih (Tn h e.h e.q) _ _
   .rw[GC c,GC (e0▸c),agH h];exact⟨rfl,rfl,rfl,Tn h e.h e.q⟩
theorem agI(h:x.co=x'.co):aP x y=aP x' y:=by
 have e1:aP x y=aP x.co y:=rfl;have e2:aP x' y=aP x'.co y:=rfl;rw[e1,e2,h]
theorem Zc{x x':Wd}(h:x.co=x'.co):x.D.t=x'.D.t:=congrArg (λz=>z.D.t) h
theorem XI.cc(hI:XI H x y)(h:x.co=x'.co):XI H x' y:=hI.Fq (congrArg (λz=>z.w.h) h.symm) (congrArg (λz=>z.w.B) h.symm) (congrArg (λz=>z.w.R) h.symm) (congrArg (λz=>z.D.b) h.symm) (congrArg (λz=>z.D.t) h.symm) (congrArg (λz=>z.n) h.symm)
def aeH(args:List AV)(H:AH)(w:AV)(H1:AH):Prop:=∀x y sl L,args=[.g (aP x y),.c sl]->XI H x y->dh 65 xq H sl=some L->∃u v,w=.t [.g (aP (iz x y.R L 0).2.2.1 ⟨y.id,u,v,(iz x y.R L 0).2.2.2⟩),.c (.i (iz x y.R L 0).1),.c (.b (iz x y.R L 0).2.1)]/\XS H H1 x y (iz x y.R L 0).2.2.1 (iz x y.R L 0).2.2.2 u v L.length
def Ng:List AV->AH->Option (AV×AH):=sd Tryz.prog [(12,.fp wM)] 19 aeH
theorem au0:bh Tryz.prog 19 Ng:=yw (tp auW tn) Tryz.func19 rfl Tryz.results19 Tryz.ntmps19
theorem azl{sl:Sc}(hI:XI H x y)(hL:dh 65 xq H sl=some L)(ha:∀i,aJ sl=some i->i≠y.id/\i<H.length)(hs:∀e∈L,eC e.q.s)(hn:L.length<=1000000)(h1:x.D.t.A.length+L.length<100000)(h2:x.D.t.B.length+L.length<100000):∃H1 u v,Ng [.g (aP x y),.c sl] H=some (.t [.g (aP (iz x y.R L 0).2.2.1 ⟨y.id,u,v,(iz x y.R L 0).2.2.2⟩),.c (.i (iz x y.R L 0).1),.c (.b (iz x y.R L 0).2.1)],H1)/\XS H H1 x y (iz x y.R L 0).2.2.1 (iz x y.R L 0).2.2.2 u v L.length:=by
 have:∃w H1,Ng [.g (aP x y),.c sl] H=some (w,H1)/\H.length<=H1.length/\aeH [.g (aP x y),.c sl] H w H1:=by
  have hX:=hI.app [.own (aP x y),.own pQ];have s0:XS H (H++[.own (aP x y),.own pQ]) x y x y.R y.u y.v 0:=⟨hX,by simp,λk hk _=>cB hk,λ_ h=>.inl h,λ_ h=>.inl h,jb rfl,aB _,aB _⟩;have g0:XG H (H++[.own (aP x y),.own pQ]) (aP x y):=⟨by rw[km];rfl,by rw[gM];rfl⟩;obtain⟨Kf,Sf,u',v',r1,r2,r3⟩:=Zn hI ha L hs s0 g0 ω ω 0;rw[oF]at r2;have sg:=hI.gV;have so:=hI.one;have sf:Sf.length=1029/\Sf.all Sc.one=true:=by
   rw[r3];exact⟨r2.xi.gV.l,r2.xi.one⟩
  have xl:∀e,nH (.sl e) (.c sl)=some (.c (.i L.length)):=by rcases xT Ol hL with⟨rfl,rfl⟩|⟨id,v,rfl,_,_⟩<;>intro e<;>rfl
  obtain⟨S,hS⟩:∃S,S=aP x y:=⟨_,rfl⟩;have r1:XP H y sl L (H++[.own (aP x y),.own pQ]) x (aP x y) y.R Kf Sf:=r1;rw[<-hS]at r1 g0 sg so|-;have lS:=sg.l;have tS:=sg.t;unfold Ng;apply ie (v:=.t [.g Sf,.c (.i (iz x y.R L 0).1),.c (.b (iz x y.R L 0).2.1)]) (H1:=Kf) Tryz.func19 rfl Tryz.results19 Tryz.ntmps19 (by simp)
  .intro _ _;simp only[go_sem,seval,lS,tS,so,wQ,rX,uQ];rw[rz];refine⟨{s:Nat×AH×Wd×List Sc×List Row//s.1<=L.length/\XP H y sl (L.drop s.1) s.2.1 s.2.2.1 s.2.2.2.1 s.2.2.2.2 Kf Sf/\iz x y.R L 0=iz s.2.2.1 s.2.2.2.2 (L.drop s.1) s.1/\XG H s.2.1 s.2.2.2.1/\s.2.2.2.1.length=1029/\s.2.2.2.1.all Sc.one=true/\(H.length+2<=s.2.1.length)/\∀i,aJ sl=some i->hg s.2.1 i=hg H i/\i<H.length},λs=>([(1,.c sl),(2,.c (.p H.length 0 0)),(4,.c (.p (H.length+1) 0 0)),(7,.c (.i s.1.1))],s.1.2.1),λs=>L.length-s.1.1,⟨(0,(H++[ae.own S,ae.own pQ]:AH),x,S,y.R),by simp,r1,rfl,g0,lS,so,by simp,λi hi=>⟨cB (ha i hi).2,(ha i hi).2⟩⟩,Wk.fr (by simp[Am.get]),?_⟩;rintro⟨⟨k,K,z,S,R⟩,hk,hr,hw,hg0,lS,so,lK,hs⟩;simp only at hk hr hw hg0 lS so lK hs|-;obtain⟨h0,H6⟩:=hg0;have tS:bJ 1029 S=S:=bQ ω;have dS:cQ 1029 S=[]:=kN ω;by_cases aG:k<L.length
   .obtain⟨e,he⟩:∃a,L[k]?=some a:=⟨_,cP aG⟩;have FR:L.drop k=e::L.drop (k+1):=by
     rw[Dk aG];congr 1;rw[cP aG]at he;exact Kd he
    rw[FR]at hr hw;obtain⟨K1,S',q1,tX,l1,⟨o0,o1⟩,o2,PD,PU,y1,y2⟩:=hr;rcases xT Ol hL with⟨rfl,rfl⟩|⟨id,aX,rfl,hv,cu⟩
    .simp at aG
    obtain⟨nB,hg2⟩:=hs id rfl;obtain⟨hg3,_⟩:=o2 id rfl;have g1:=FD vS (L:=L) (k:=k) aG;have SH:bJ 65 (cQ (k*65) (hg H id).cells)=fU e:=by rw[cu];exact abh he
    rw[<-cu]at g1;obtain⟨p1,p2,p3⟩:=abi e;have c0:(hg H id).cells.getD (k*65) .any=.i e.h:=by
     have:=congrArg (λl=>l.getD 0 .any) SH;simp only[p1]at this;rw[<-this,bX,bX,yb δ,td,ru]
    have cD:∀i m,i+m<=65->bJ m (cQ (k*65+i) (hg H id).cells)=bJ m (cQ i (fU e)):=λi m hm=>by rw[<-SH,List.drop_take,uR,List.take_take,Nat.min_eq_left ω]
    have c1:=cD 1 19 δ;have c2:=cD 20 42 δ;rw[p2]at c1;rw[p3]at c2;have oP:(k:Int)<(L.length:Int):=ω
    have k0:(0:Int)<=(k:Int):=ω
    have E1:aA ((k:Int)+1)=((k+1:Nat):Int):=by rw[aq ω ω];omega
    have hA:=aB3 z (Rw R) e.h e.q;obtain⟨A,Bh⟩:∃A,A=jG z (Rw R) e.h e.q:=⟨_,rfl⟩;rw[<-Bh]at hA;have al:=hA.l;have a1:=hA.o;have cJ:=hA.t;have an:=Zx hA e.ha;have YJ:bJ 1029 S'=S':=bQ ω;have mR:=hv.symm;have ez:tG z R e=(dx z e.h e.q&&pB (A=e.a)):=by unfold tG;rw[Bh]
    rw[<-Bh]at q1 y1 y2;obtain⟨K2,nr⟩:∃K2,(K1++[ae.own S',ae.own A]).set H.length (ae.own S')=K2:=⟨_,rfl⟩;rw[nr]at y1 y2;have oX:∀X,hg (K1++X) H.length=.own S:=λX=>by rw[cB ω];exact o0
    have f0:hg K2 H.length=.own S':=by rw[<-nr,iN (by simp;omega)]
    have f1:hg K2 (H.length+1)=.own pQ:=by rw[<-nr,ej ω,cB ω];exact o1
    have f2:hg K2 K1.length=.own S':=by rw[<-nr,ej ω,km];rfl
    have f3:hg K2 (K1.length+1)=.own A:=by rw[<-nr,ej ω,gM];rfl
    have f4:hg K2 id=hg H id:=by rw[<-nr,ej ω,cB ω];exact hg3
    have l2:H.length+2<=K2.length:=by rw[<-nr,iR,cj];omega
    have rN:∀i,aJ (.sl id 0 aX L.length)=some i->hg K2 i=hg H i/\i<H.length:=λi hi=>by
     obtain⟨a,b⟩:=o2 i hi;exact⟨by rw[<-nr,ej ω,cB ω];exact a,b⟩
    cases hm:dx z e.h e.q;all_goals rw[hm]at q1 ez
    .have rM:¬tG z R e=true:=by rw[ez];simp
     rw[GC rM]at hw;obtain⟨zO,KW⟩:=y2 rM;rw[hw,<-zO,<-KW];have w1:hg (K2.set (H.length+1) (.own S')) (H.length+1)=.own S':=iN ω;(repeat(first|simp only[go_sem,seval,oP,k0,g1,c0,c1,c2,nB,h0,mR,lS,tS,so,q1,oX,f0,f1,f2,f3,f4,al,a1,cJ,PD,PU,YJ,dS,wQ,rX,uQ,nr,w1,aL]|simp(disch:=omega)only[w0]));(repeat' first|apply cf|exact ot tX κ|(intro c;exact absurd c ω)|(intro _;kernel_rfl)|kernel_rfl);exact aI
    cases hb:pB (A=e.a);all_goals rw[hb]at an ez
    .have rM:¬tG z R e=true:=by rw[ez];simp
     rw[GC rM]at hw;obtain⟨zO,KW⟩:=y2 rM;rw[hw,<-zO,<-KW];have w1:hg (K2.set (H.length+1) (.own S')) (H.length+1)=.own S':=iN ω;(repeat(first|simp only[go_sem,seval,oP,k0,g1,c0,c1,c2,nB,h0,mR,lS,tS,so,q1,oX,f0,f1,f2,f3,f4,al,a1,cJ,an,PD,PU,YJ,dS,wQ,rX,uQ,nr,w1,aL]|simp(disch:=omega)only[w0]));(repeat' first|apply cf|exact ot tX κ|(intro c;exact absurd c ω)|(intro _;kernel_rfl)|kernel_rfl);exact aI
    .have Lw:tG z R e=true:=by rw[ez];simp
     rw[I7 Lw]at hw;have hR:=y1 Lw;(repeat(first|simp only[go_sem,seval,oP,k0,g1,c0,c1,c2,nB,h0,mR,lS,tS,so,q1,oX,f0,f1,f2,f3,f4,al,a1,cJ,an,PD,PU,YJ,dS,wQ,rX,uQ,nr,E1,aL]|simp(disch:=omega)only[w0]));(repeat' first|apply cf|exact ot tX κ|(intro c;exact absurd c ω)|(intro _;kernel_rfl)|kernel_rfl);exact⟨⟨(k+1,K2,ek z e.h e.q,S',xR z (Rw R) e.h e.q),by simp only;omega,hR,hw,⟨f0,f1⟩,PD,PU,l2,rN⟩,by simp only;omega,Wk.fr (by simp[Am.get])⟩
   .obtain rfl:k=L.length:=ω
    rw[List.drop_length]at hr hw;obtain⟨zO,KW⟩:=hr;have oP:¬((L.length:Int)<(L.length:Int)):=ω
    rw[hw,<-zO,<-KW];have w1:hg (K.set (H.length+1) (.own S)) (H.length+1)=.own S:=iN ω;simp only[go_sem,seval,xl,oP,iz,h0,H6,lS,tS,so,rX,uQ,w1];(repeat' first|apply cf|(intro c;exact absurd c ω)|(intro _;kernel_rfl)|kernel_rfl);exact aI
  .have:=r2.len;omega
  .rw[hS];intro x' y' sl' L' he mE tK;simp only[cL,AV.c.injEq,AV.g.injEq,and_true]at he;obtain⟨e1,rfl⟩:=he;rw[hL]at tK;obtain rfl:=Kd tK;obtain⟨ec,rfl⟩:=hI.uniq mE e1;obtain⟨c1,c2,c3,c4⟩:=awS ec y.R L 0;refine⟨u',v',?_,?_⟩
   .rw[<-c1,<-c2,<-c3,<-agI c4,<-r3]
   .rw[<-c3];have et:x'.D.t=x.D.t:=congrArg (λz=>z.D.t) ec.symm;exact⟨r2.xi.cc c4,r2.len,r2.dj,r2.nu,r2.nv,r2.nw,by rw[et,<-Zc c4];exact r2.la,by rw[et,<-Zc c4];exact r2.lb⟩
 obtain⟨w,H1,g1,_,g2⟩:=this;obtain⟨u,v,rfl,s⟩:=g2 x y sl L rfl hI hL;exact⟨H1,u,v,g1,s⟩
end
def jr(x y:Wd):Prop:=x.co=y.co/\x.M=y.M
theorem jr.refl(x:Wd):jr x x:=⟨rfl,rfl⟩
theorem jr.symm{y:Wd}(h:jr x y):jr y x:=⟨h.1.symm,h.2.symm⟩
theorem jr.trans{y z:Wd}(h:jr x y)(g:jr y z):jr x z:=⟨h.1.trans g.1,h.2.trans g.2⟩
def Wd.cm(x:Wd):Wd:={x.co with M:=x.M}
theorem jr.cm{y:Wd}(h:jr x y):x.cm=y.cm:=by unfold Wd.cm;rw[h.1,h.2]
theorem jr.my{y:Wd}(h:jr x y)(i:Int)(q:Wa):dx x i q=dx y i q:=by rw[<-HU x,<-HU y,h.1]
theorem jr.an{y:Wd}(h:jr x y)(i:Int)(q:Wa):jD x i q=jD y i q:=by
 have e1:jD x i q=jD x.cm i q:=rfl;have e2:jD y i q=jD y.cm i q:=rfl;rw[e1,e2,h.cm]
theorem jr.go{y:Wd}(h:jr x y)(i:Int)(q:Wa):jr (ek x i q) (ek y i q):=by
 refine⟨Tn h.1 i q,?_⟩;have e1:(ek x i q).M=(ek x.cm i q).M:=rfl;have e2:(ek y i q).M=(ek y.cm i q).M:=rfl;rw[e1,e2,h.cm]
theorem jr.sl(x:Wd)(u v:Sc):jr (x.sl u v) x:=⟨rfl,rfl⟩
theorem jr.ev{y:Wd}(h:jr x y)(e:jX):pD x e=pD y e:=by
 unfold pD;rw[h.my,h.an]
theorem jr.rp{y:Wd}(h:jr x y)(L:List jX)(i:Nat):(jw x L i).1=(jw y L i).1/\(jw x L i).2.1=(jw y L i).2.1/\jr (jw x L i).2.2 (jw y L i).2.2:=by induction L generalizing x y i with
 |nil=>exact⟨rfl,rfl,h⟩|cons e L ih=>
   have e0:=h.ev e;by_cases c:pD x e=true
   .rw[GB c,GB (e0▸c)];exact ih (h.go e.h e.q) _
   .rw[GA c,GA (e0▸c)];exact⟨rfl,rfl,h.go e.h e.q⟩
theorem jr.same{y:Wd}(h:jr x y):Dh x y=true:=agz (congrArg (λz=>z.w.h) h.1) (congrArg (λz=>z.w.t) h.1) (congrArg (λz=>z.w.n) h.1) (congrArg (λz=>z.w.b) h.1) (congrArg (λz=>z.w.R) h.1) (congrArg (λz=>z.w.B) h.1) (congrArg (λz=>z.n) h.1) h.2 (congrArg (λz=>z.D.b) h.1) (congrArg (λz=>z.D.t) h.1)
theorem ae4{g:Wd}{e:jX}:∀{L:List jX}{x:Wd}{i:Nat},jw x L i=(0,true,g)->pD g e=true->jw x (L++[e]) i=(0,true,ek g e.h e.q)
 |[],x,i,h,he=>by
   simp only[jw,bE,true_and]at h;subst h;rw[jW,GB he];rfl|d::L,x,i,h,he=>by
   rw[lf];by_cases c:pD x d=true
   .rw[GB c]at h|-;exact ae4 h he
   .rw[GA c]at h;simp at h
def Cv(z:Wd)(d:Da):jX:=⟨d.h,d.q,jD z d.h d.q,0,0,0,Tl z d.h d.q⟩
theorem awR{R:List Row}(m:uV x (Rw R))(L:List jX)(i:Nat):(iz x R L i).1=(jw x L i).1/\(iz x R L i).2.1=(jw x L i).2.1/\(iz x R L i).2.2.1=(jw x L i).2.2/\uV (iz x R L i).2.2.1 (Rw (iz x R L i).2.2.2):=by induction L generalizing x R i with
 |nil=>exact⟨rfl,rfl,rfl,m⟩|cons e L ih=>
   obtain⟨m',e1⟩:=m.step e.h e.q .az .az .az .az;have e0:tG x R e=pD x e:=by unfold tG pD;rw[e1]
   by_cases c:pD x e=true
   .rw[GB c,I7 (by rw[e0];exact c)];exact ih m' _
   .rw[GA c,GC (by rw[e0];exact c)];exact⟨rfl,rfl,rfl,m'⟩
variable {ls:Sc}{E:List jX}
section
variable {H K:AH}{x z f g:Wd}{u v:Sc}{n:Nat}
theorem WS.set(s:WS H K x z u v n)(h1:H.length<=k)(a:nR (z.sl u v) k)(cs:List Sc):WS H (K.set k (.vec 65 cs)) x z u v n:=⟨s.wi.stay λj _ hj=>ej λe=>hj (e▸a),by rw[iR];exact s.len,λj hj ha=>by rw[ej ω];exact s.dj j hj ha,s.fx,s.fy,fX s.nw (jS λ_=>rfl),s.same,s.a8,s.la,s.lb,s.ro,s.bb⟩
theorem arp(hI:WI K (z.sl u v))(hm:dx z h q=false):jr (ek z h q) z:=by
 obtain⟨e1,e2,e3,e4,e5⟩:=abo hI (h:=h) (q:=q) hm;have e1:j5 z h q=z.w.B:=e1;have e2:kH z h q=z.w.R:=e2;have e3:rG z h q=z.M:=e3;have e4:flb z h q=z.D.b:=e4;have e5:jJ z h q=z.D.t:=e5;refine⟨?_,e3⟩;show(⟨⟨0,0,z.w.h,z.w.t,z.w.n,z.w.b,j5 z h q,kH z h q,.az,[]⟩,⟨0,0,flb z h q,jJ z h q,.az,.az⟩,z.n,[]⟩:Wd)=z.co;rw[e1,e2,e4,e5];rfl
def Lg(m:Nat)(K:AH)(z:Wd)(ls:Sc)(E:List jX):Prop:=(ls=.az/\E=[])\/∃id,ls=.sl id 0 (E.flatMap fU).length E.length/\hg K id=.vec 65 (E.flatMap fU)/\m<=id/\id<K.length/\nR z id
theorem Lg.dh{m:Nat}{ls:Sc}{E:List jX}(h:Lg m K z ls E):dh 65 xq K ls=some E:=by
 rcases h with⟨rfl,rfl⟩|⟨id,rfl,h1,_⟩
 .rfl
 .exact B4 vS aaS (by rw[h1];rfl) rfl (by rw[h1];rfl)
theorem Lg.app(h:Lg m K z ls E)(X:AH):Lg m (K++X) z ls E:=by
 rcases h with h|⟨id,h0,h1,h2,h3,h4⟩
 .exact .inl h
 .exact .inr ⟨id,h0,by rw[cB h3];exact h1,h2,by rw[cj];omega,h4⟩
structure Hu(H:AH)(c o:List Sc)(Kb K:AH)(x f z:Wd)(u v:Sc)(g:Wd)(ls:Sc)(E:List jX)(n:Nat):Prop where
 ws:WS Kb K x z u v n
 lg:Lg Kb.length K (z.sl u v) ls E
 rp:jw f E 0=(0,true,g)eq:jr g z
 hs:∀e∈E,eC e.q.s
 le:E.length<=n
theorem Hu.step{c o:List Sc}{Kb:AH}(I:Hu H c o Kb K x f z u v g ls E n)(hx:x.D.t.A=[]/\x.D.t.B=[])(hn:n<10000)(e:Da)(hs:eC e.q.s):∃K1 a b,vq [.c (.p x.w.p 0 0),.c (.i e.h),.g (cG e.q)] K=some (.t [.g (jD z e.h e.q),.c (.b (dx z e.h e.q))],K1)/\dX K K1/\K.length<=K1.length/\WS Kb K1 x (ek z e.h e.q) a b (n+1)/\Lg Kb.length K1 ((ek z e.h e.q).sl a b) ls E/\(dx z e.h e.q=false->Hu H c o Kb K1 x f (ek z e.h e.q) a b g ls E (n+1))/\(dx z e.h e.q=true->jw f (E++[Cv z e]) 0=(0,true,ek g e.h e.q)/\jr (ek g e.h e.q) (ek z e.h e.q)/\(∀e'∈E++[Cv z e],eC e'.q.s)/\(E++[Cv z e]).length<=n+1):=by
 obtain⟨K1,a,b,e1,nv,l1,k1,s1⟩:=I.ws.step (by rw[hx.1];show 0+n<_;omega) (by rw[hx.2];show 0+n<_;omega) e.h e.q;have lg:Lg Kb.length K1 ((ek z e.h e.q).sl a b) ls E:=by
  rcases I.lg with h|⟨id,h0,h1,h2,h3,h4⟩
  .exact .inl h
  .obtain⟨p1,p2,p3,p4⟩:=s1.same;obtain⟨q1,q2,q3,q4⟩:=I.ws.same;refine .inr ⟨id,h0,by rw[k1 id h3 h4];exact h1,h2,ω,?_⟩;have Di:=s1.wi;have hv:hg K1 id=.vec 65 (E.flatMap fU):=by rw[k1 id h3 h4];exact h1
   refine⟨λc=>?_,λc=>?_,λc=>?_,λc=>?_,λc=>?_,λc=>?_⟩
   .have:=Di.w.o;rw[<-c,hv]at this;exact ae.noConfusion this
   .have:=Di.w.v;rw[<-c,hv]at this;simp at this
   .have:=Di.d.ho;rw[<-c,hv]at this;exact ae.noConfusion this
   .have:=Di.d.pi.hp;rw[<-c,hv]at this;exact ae.noConfusion this
   .have:=(pC Di.d.pi.hx c).2;rw[hv]at this;simp at this
   .have:=(pC Di.d.pi.hy c).2;rw[hv]at this;simp at this
 refine⟨K1,a,b,e1,nv,l1,s1,lg,λhm=>⟨s1,lg,I.rp,I.eq.trans (arp I.ws.wi hm).symm,I.hs,by have:=I.le;omega⟩,λhm=>?_⟩;have ok:pD g (Cv z e)=true:=by
  unfold pD Cv;rw[I.eq.my,hm,I.eq.an,wx rfl];rfl
 refine⟨ae4 I.rp ok,I.eq.go e.h e.q,λe' he=>?_,by rw[cj];have:=I.le;simp;omega⟩;rw[wY,List.mem_singleton]at he;rcases he with he|rfl
 .exact I.hs e' he
 .exact hs
end
theorem Kx{n:Nat}(h:j<n\/n+6<=j):nR (jn n x) j:=by
 refine⟨?_,?_,?_,?_,?_,?_⟩
 .show j≠n+5;omega
 .show j≠n;omega
 .show j≠n+1+3;omega
 .show j≠n+1;omega
 .simp only[jn,xm,aJ,ne_eq,ar];omega
 .simp only[jn,xm,aJ,ne_eq,ar];omega
theorem ahd(n:Nat):fK (bD n 0)=true:=by
 unfold fK;rw[cE];intro y hy;rw[List.eq_of_mem_replicate hy];rfl
theorem uV.cc(m:uV x y)(e:jr x' x)(h:y'.R=y.R):uV x' y':=by
 have en:x'.n=x.n:=congrArg (λz=>z.n) e.1;exact⟨by rw[e.2];exact m.xl,by rw[h];exact m.yl,by rw[en];exact m.n8,by rw[en,e.2,h];exact m.tr,by rw[en,e.2];exact m.ze⟩
section
variable {H Kb K K1:AH}{x f z g:Wd}{u v ls:Sc}{E:List jX}{k:Nat}{h0 t n b:Int}
theorem Hu.cl(I:Hu H [] [] Kb K x f z u v g ls E k)(hx:x=zk (H.length+2) h0 t n b)(l1:K1.length=H.length+7)(w1:WI K1 x)(hf:f=jn K1.length x)(wf:WI Kb f)(lb:Kb.length=H.length+13)(hk:k<=60):∃K3,Jg [.c (.p (H.length+12) 0 0)] K=some (.c (.p (K.length+5) 0 0),K++qN K.length f)/\GK [.c (.p (K.length+5) 0 0),.c ls] (K++qN K.length f)=some (.t [.c (.i 0),.c (.b true)],K3)/\dX (K++qN K.length f) K3/\K.length+6<=K3.length/\(∀j,j<K.length->hg K3 j=hg K j)/\WI K f/\GN [.c (.p (K.length+5) 0 0),.c (.p (H.length+6) 0 0)] K3=some (.c (.b true)):=by
 have kl:=I.ws.len;have Ns:WI K f:=wf.stay λj hj na=>I.ws.dj j hj (w1.lt (by
 rw[hf]at na;exact Nat.le_of_not_lt λc=>na (Kx (.inl c))));have xt:x.D.t.A=[]/\x.D.t.B=[]:=by rw[hx];exact⟨rfl,rfl⟩
 have ft:f.D.t.A=[]/\f.D.t.B=[]:=by rw[hf];exact xt
 have fp:f.w.p=H.length+12:=by rw[hf];show K1.length+5=_;omega
 have p1:=W7 Ns ⟨by rw[ft.1];decide,by rw[ft.2];decide⟩;rw[fp]at p1;have cl:(qN K.length f).length=6:=rfl;obtain⟨K2,nr⟩:∃K2,K2=K++qN K.length f:=⟨_,rfl⟩;have l2:K2.length=K.length+6:=by rw[nr,cj,cl]
 have wa:WI K2 (jn K.length f):=by rw[nr];exact SU Ns
 have ea:jr (jn K.length f) f:=⟨rfl,rfl⟩;have la:(jn K.length f).D.t.A=[]/\(jn K.length f).D.t.B=[]:=ft;have el:=I.le;have hs:dh 65 xq K2 ls=some E:=by rw[nr];exact(I.lg.app _).dh
 have ha:∀i,aJ ls=some i->nR (jn K.length f) i/\i<K2.length:=λi hi=>by
  rcases I.lg with⟨rfl,_⟩|⟨id,rfl,_,_,h3,_⟩
  .simp[aJ]at hi
  .simp only[aJ,ar]at hi;subst hi;exact⟨Kx (.inl h3),ω⟩
 obtain⟨K3,u3,v3,p2,s3⟩:=afp wa hs ha ω (by rw[la.1];show 0+_<_;omega) (by rw[la.2];show 0+_<_;omega);obtain⟨r1,r2,r3⟩:=ea.rp E 0;have ir:=I.rp;rw[r1,r2,ir]at p2;have r3:jr (jw (jn K.length f) E 0).2.2 g:=by rw[ir]at r3;exact r3
 have kp:∀j,j<K.length->hg K3 j=hg K j:=λj hj=>by rw[s3.dj j ω (Kx (.inl hj)),nr,cB hj]
 have wz:WI K3 (z.sl u v):=I.ws.wi.stay λj hj _=>kp j hj;have xb:fK x.w.B=true:=by rw[hx];exact ahd _
 have fb:fK (jn K.length f).w.B=true:=by show fK f.w.B=true;rw[hf];exact xb
 have t8:∀L:List Int,L=[]->fK L=true:=λL h=>by rw[h];rfl
 obtain⟨b1,b2⟩:=s3.a8 (t8 _ la.1) (t8 _ la.2);obtain⟨b3,b4⟩:=I.ws.a8 (t8 _ xt.1) (t8 _ xt.2);have p3:=Xe s3.wi wz (s3.bb fb) (I.ws.bb xb) ⟨b1,b2,b3,b4⟩;rw[(((jr.sl _ u3 v3).trans (r3.trans I.eq)).trans (jr.sl z u v).symm).same]at p3;have q1:((jw (jn K.length f) E 0).2.2.sl u3 v3).w.p=K.length+5:=s3.same.1;have q2:(z.sl u v).w.p=H.length+6:=by show z.w.p=_;rw[I.ws.same.1,hx];rfl
 rw[q1,q2]at p3;have p2':GK [.c (.p (K.length+5) 0 0),.c ls] K2=some (.t [.c (.i 0),.c (.b true)],K3):=p2;have nw:=s3.nw;have ln:=s3.len;rw[nr]at p2' nw;exact⟨K3,p1,p2',nw,ω,kp,Ns,p3⟩
theorem Tq(hx:x=zk (H.length+2) h0 t n b)(hh:1<=h0/\h0<=8)(hn:1<=n/\n<=4096)(l1:K1.length=H.length+7)(hf:f=jn K1.length x)(wf:WI K f)(lb:H.length+13<=K.length)(hL:dh 65 xq K ls=some E)(ha:∀i,aJ ls=some i->H.length+13<=i/\i<K.length)(hE:E.length<=60)(hs:∀e∈E,eC e.q.s):∃SX K5,EK [.g [.i h0,.i t,.i n,.i b]] K=some (.g SX,K5)/\SX.length=1029/\SX.all Sc.one=true/\bJ 1029 SX=SX/\dX K K5/\(∀j,j<K.length->hg K5 j=hg K j)/\K.length<=K5.length/\∃S' i q K6,Ng [.g SX,.c ls] K5=some (.t [.g S',.c (.i i),.c (.b q)],K6)/\S'.length=1029/\S'.all Sc.one=true/\bJ 1029 S'=S'/\dX K5 K6/\(∀j,j<K.length->hg K6 j=hg K j)/\K5.length<=K6.length/\∃K7,GK [.c (.p (H.length+12) 0 0),.c ls] (K6++[.own S'])=some (.t [.c (.i i),.c (.b q)],K7)/\dX (K6++[.own S']) K7/\(∀j,j<H.length+7->hg K7 j=hg K j)/\K6.length<K7.length/\hg K7 K6.length=.own S'/\∃X,GO [.c (.p (H.length+12) 0 0),.g S'] K7=some (.c (.b true),K7++X):=by
 have xt:x.D.t.A=[]/\x.D.t.B=[]:=by rw[hx];exact⟨rfl,rfl⟩
 have ft:f.D.t.A=[]/\f.D.t.B=[]:=by rw[hf];exact xt
 have fp:f.w.p=H.length+12:=by rw[hf];show K1.length+5=_;omega
 have fap:∀j,j<H.length+7\/H.length+13<=j->nR f j:=λj hj=>by rw[hf];exact Kx ω
 have ef:jr f x:=by rw[hf];exact⟨rfl,rfl⟩
 have p1:=azk (H:=K) (t:=t) (b:=b) hn hh;obtain⟨K5,Bi⟩:∃K5:AH,K5=K++[.own [.i h0,.i t,.i n,.i b],.own (aP (EU h0 t n b) (mG (K.length+5))),.dead,.dead,.dead,.vec 1 (bD (64*n.toNat) (.k .u8 0))]:=⟨_,rfl⟩;rw[<-Bi]at p1;have l5:K5.length=K.length+6:=by rw[Bi,cj];rfl
 have xi:XI K5 x (mG (K.length+5)):=by
  rw[hx];refine aBL hh hn ?_;rw[Bi,gM];rfl
 have ex:aP (EU h0 t n b) (mG (K.length+5))=aP x (mG (K.length+5)):=by rw[hx];rfl
 rw[ex]at p1;have k5:∀j,j<K.length->hg K5 j=hg K j:=λj hj=>by rw[Bi,cB hj]
 have af1:∀{K':AH},(∀i,aJ ls=some i->hg K' i=hg K i)->dh 65 xq K' ls=some E:=λ{K'}h=>by
  cases ls;case sl i o w m=>have:=h i rfl;cases o with
 |zero=>
 simp only[dh]at hL|-;rw[this];exact hL|succ o=>exact hL
  all_goals first|exact hL|(simp[dh]at hL;done)
 have hL5:=af1 (K':=K5) λi hi=>k5 i (ha i hi).2;obtain⟨K6,u6,v6,p2,s6⟩:=azl xi hL5 (λi hi=>⟨by have:=(ha i hi).2;show i≠K.length+5;omega,by have:=(ha i hi).2;omega⟩) hs ω (by rw[xt.1];show 0+_<_;omega) (by rw[xt.2];show 0+_<_;omega);have k6:∀j,j<K.length->hg K6 j=hg K j:=λj hj=>by rw[s6.dj j ω (by show j≠K.length+5;omega),k5 j hj]
 have wf6:WI K6 f:=wf.stay λj hj _=>k6 j hj;have s6l:=s6.len;obtain⟨S',qf⟩:∃S',S'=aP (iz x (mG (K.length+5)).R E 0).2.2.1 ⟨(mG (K.length+5)).id,u6,v6,(iz x (mG (K.length+5)).R E 0).2.2.2⟩:=⟨_,rfl⟩;have jT:∀j,j<K6.length->hg (K6++[ae.own S']) j=hg K6 j:=λj hj=>cB hj;have l6:(K6++[ae.own S']).length=K6.length+1:=by rw[cj];rfl
 obtain⟨K7,u7,v7,p3,s7⟩:=afp (wf6.app [ae.own S']) (af1 λi hi=>by have:=(ha i hi).2;rw[jT i ω];exact k6 i this) (λi hi=>⟨fap i (.inr (ha i hi).1),by have:=(ha i hi).2;omega⟩) ω (by rw[ft.1];show 0+_<_;omega) (by rw[ft.2];show 0+_<_;omega);rw[fp]at p3;obtain⟨e1,e2,e3,m4⟩:=awR (x:=x) (R:=(mG (K.length+5)).R) (by rw[hx];exact(aBI (k:=H.length+2) (id:=0) hh).cc (jr.refl _) rfl) E 0;obtain⟨r1,r2,r3⟩:=ef.rp E 0;rw[r1,r2,<-e1,<-e2]at p3;rw[<-e3]at r3;rw[<-qf]at p2;have xi7:XI K7 ((jw f E 0).2.2.sl u7 v7) ⟨(mG (K.length+5)).id,u6,v6,(iz x (mG (K.length+5)).R E 0).2.2.2⟩:=by
  have a:XI K7 (iz x (mG (K.length+5)).R E 0).2.2.1 ⟨(mG (K.length+5)).id,u6,v6,(iz x (mG (K.length+5)).R E 0).2.2.2⟩:=by
   refine s6.xi.stay (by have:=s7.len;omega) λj hj na=>(s7.dj j ω (fap j (.inr ?_))).trans (jT j hj);refine Nat.le_of_not_lt λc=>na ⟨by show j≠K.length+5;omega,λe=>?_,λe=>?_⟩
   .rcases s6.nu j e with c'|c'
    .simp[mG,aJ]at c'
    .omega
   .rcases s6.nv j e with c'|c'
    .simp[mG,aJ]at c'
    .omega
  exact a.cc r3.1.symm
 have eS:S'=aP ((jw f E 0).2.2.sl u7 v7) ⟨(mG (K.length+5)).id,u6,v6,(iz x (mG (K.length+5)).R E 0).2.2.2⟩:=by rw[qf];exact agI r3.1.symm
 have ro:yR f.w:=by rw[hf,hx];exact(aBJ:yR (zk (H.length+2) h0 t n b).w)
 obtain⟨X,p4⟩:=Xk s7.wi xi7 (m4.cc ((jr.sl _ u7 v7).trans r3) rfl) (s7.ro ro);rw[<-eS]at p4;have q7:((jw f E 0).2.2.sl u7 v7).w.p=H.length+12:=by rw[<-fp];exact s7.same.1
 rw[q7]at p4;have sg:=xi.gV;have Yn:=s6.xi.gV;have so':=s6.xi.one;rw[<-qf]at Yn so';exact⟨_,K5,p1,sg.l,xi.one,sg.t,by rw[Bi];exact jb rfl,k5,ω,S',_,_,K6,p2,Yn.l,so',Yn.t,s6.nw,k6,ω,K7,p3,s7.nw,λj hj=>by rw[s7.dj j ω (fap j (.inl hj)),jT j ω,k6 j ω],by have:=s7.len;omega,by rw[s7.dj _ ω (fap _ (.inr ω)),km];rfl,X,p4⟩
end
end
end Go.Proofs.YtghlfboliomhcaaGreat
