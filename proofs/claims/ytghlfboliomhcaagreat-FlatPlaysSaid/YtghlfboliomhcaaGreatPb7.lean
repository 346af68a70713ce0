/- The document's memory: bytes read and laid one by one: contracts. -/
import Derived.Test.YtghlfboliomhcaaGreatPb5
import Derived.Test.YtghlfboliomhcaaGreatPb6
import Derived.Test.YtghlfboliomhcaaGreatPb3
import Derived.Test.YtghlfboliomhcaaGreatPb4
set_option maxRecDepth 100000
set_option maxHeartbeats 8000000
open And renaming intro->cn
open BitVec renaming shiftRight_add->My,ofInt->aw
open Bool renaming and_eq_true->aQ,not_eq_true'->gD,and_true->cX,true_and->gv,false_and->nZ,and_false->rh,not_eq_false'->ja,not_eq_true->iB,not_eq_false->jb,or_eq_true->fR
open Int renaming le_refl->zO,zero_add->Bz,toNat_natCast->aO,eq_ofNat_of_zero_le->kV
open List renaming length_take->rW,length_drop->ui,length_append->cF,getElem?_take_of_lt->yu,getElem?_drop->sZ,getElem?_append_left->sY,getElem?_append_right->rV,ext_getElem?->vL,getElem?_eq_getElem->cM,getD_eq_getElem?_getD->b9,mem_cons->uj,append_assoc->fo,append_nil->kD,not_mem_nil->Ji,drop_zero->xg,take->bV,drop->cY,set_append_left->lN,length_set->js,take_of_length_le->bR,drop_of_length_le->kE,getElem?_eq_none->jQ,mem_of_getElem?->Eo,all_cons->bG,all_nil->dO,drop_append->BA,drop_eq_nil_of_le->MA,nil_append->jV,drop_append_of_le_length->Jf,take_append_of_le_length->CF,drop_drop->uX,take_append_drop->GA,take_left'->qe,drop_left'->xf,all_append->fH,cons_append->kX,length_cons->cZ,length_nil->dY,all_flatMap->rU,all_eq_true->cD,take_succ_cons->GB,drop_succ_cons->Gs,getElem?_set->qD,getElem?_replicate->CD,replicate->bE,replicate_succ->xn,flatten_cons->BB,flatMap_cons->qC,append_inj->uh,mem_append->xj,drop_left->MB,length_replicate->MD,take_length->s7
open List.cons renaming injEq->cK
open Nat renaming le_refl->aC,lt_or_ge->cU,add_zero->rj,add_sub_cancel_left->s9,add_assoc->mH
open Option.some renaming injEq->ar,inj->XL
open Prod.mk renaming injEq->bD
namespace Go.Proofs.YtghlfboliomhcaaGreat
open Go.Am
set_option linter.all false
noncomputable section
variable {m:Nat}{a:BitVec 64}{c s:Int}
theorem RA{b:BitVec 64}{i:Int}(hn:m<=4096)(hm:dL c s=true)(hp:jF (64*m) a b c s=true)(h0:0<=i)(h1:i<s):hasB m (ek a b c i) 1=true:=by
 rw[J2 hn hm]at hp;have e:=X6 hn (zO 0) (Hd (a:=a) (b:=b) hm);rw[(Hf (a:=a) (b:=b) hm).2.1,Bz]at e;exact e.1 hp i h0 h1
theorem YM{m:Nat}(hn:m<=4096){a b:BitVec 64}{c s:Int}(hm:dL c s=true)(hp:jF (64*m) a b c s=true){i:Nat}(h1:(i:Int)<s):bp (ek a b c i)=if c=0\/(i:Int)<c then bp a+i else bp b+(i-c.toNat):=by
 have jG:1<=s/\s<=8/\0<=c/\c<s:=by simpa[dL]using hm
 unfold jF at hp;unfold ek;rw[xT,xT,xT];by_cases c0:c=0
 .subst c0;rw[if_pos rfl,uz]at hp;rw[if_neg ω,if_pos (.inl rfl),xS hn hp ω ω,aO]
 .rw[if_neg c0,aQ,uz,uz]at hp;by_cases ci:(i:Int)<c
  .rw[if_neg ω,if_pos (.inr ci),xS hn hp.1 ω ci,aO]
  .rw[if_pos ω,if_neg ω,xS hn hp.2 ω ω];omega
theorem Sz{N:Nat}{b:BitVec 64}(hm:dL c s=true)(hp:jF N a b c s=true):if c=0 then bp a+s.toNat<=N else bp a+c.toNat<=N/\bp b+(s-c).toNat<=N:=by
 have jG:1<=s/\s<=8/\0<=c/\c<s:=by simpa[dL]using hm
 unfold jF at hp;by_cases c0:c=0
 .rw[if_pos c0,kJ]at hp;rw[if_pos c0];omega
 .rw[if_neg c0,aQ,kJ,kJ]at hp;rw[if_neg c0];omega
theorem ah0{B:List Int}{b:BitVec 64}(hm:dL c s=true)(hp:jF B.length a b c s=true):(u6 B a b c s).length=s.toNat:=by
 have jG:1<=s/\s<=8/\0<=c/\c<s:=by simpa[dL]using hm
 have he:=Sz hm hp;unfold u6;by_cases c0:c=0
 .rw[if_pos c0]at he|-;rw[rW,ui];omega
 .rw[if_neg c0]at he|-;rw[cF,rW,ui,rW,ui];omega
theorem ahZ{B:List Int}(hl:B.length=64*m)(hn:m<=4096){a b:BitVec 64}{c s:Int}(hm:dL c s=true)(hp:jF B.length a b c s=true){i:Nat}(hi:(i:Int)<s):(u6 B a b c s)[i]?=B[bp (ek a b c i)]?:=by
 have jG:1<=s/\s<=8/\0<=c/\c<s:=by simpa[dL]using hm
 have he:=Sz hm hp;rw[YM hn hm (by rw[<-hl];exact hp) hi];unfold u6;by_cases c0:c=0
 .rw[if_pos c0]at he|-;rw[yu ω,sZ,if_pos (.inl c0)]
 .rw[if_neg c0]at he|-;have l1:((B.drop (bp a)).take c.toNat).length=c.toNat:=by rw[rW,ui];omega
  by_cases ci:(i:Int)<c
  .rw[sY ω,yu ω,sZ,if_pos (.inr ci)]
  .rw[rV ω,l1,yu ω,sZ,if_neg ω]
def bW(B:List Int)(a b:BitVec 64)(c:Int)(v:BitVec 64):Nat->List Int|0=>B|i+1=>gp (bW B a b c v i) (bp (ek a b c i)) [mA v i]
theorem Yu{B:List Int}{m:Nat}{a b v:BitVec 64}{c s:Int}(hl:B.length=64*m)(hn:m<=4096)(hm:dL c s=true)(hp:jF B.length a b c s=true):∀{i:Nat},(i:Int)<=s->bW B a b c v i=if c=0\/(i:Int)<=c then gp B (bp a) (iK v i)else gp (gp B (bp a) (iK v c.toNat)) (bp b) (iK (v>>>(8*c.toNat)) (i-c.toNat))
 |0,_=>by
   have jG:1<=s/\s<=8/\0<=c/\c<s:=by simpa[dL]using hm
   rw[if_pos ω,KA,Ky];rfl|i+1,h=>by
   have jG:1<=s/\s<=8/\0<=c/\c<s:=by simpa[dL]using hm
   have he:=Sz hm hp;show gp (bW B a b c v i) (bp (ek a b c i)) [mA v i]=_;rw[Yu hl hn hm hp ω,YM hn hm (by rw[<-hl];exact hp) ω];by_cases c0:c=0
   .rw[if_pos c0]at he;rw[if_pos (.inl c0),if_pos (.inl c0),if_pos (.inl c0)];have:=Kz (B:=B) (c:=iK v i) (k:=bp a) (q:=mA v i) (by rw[nS];omega);rw[nS,<-KB]at this;exact this
   rw[if_neg c0]at he;by_cases ci:(i:Int)<c
   .rw[if_pos (.inr ω),if_pos (.inr ci),if_pos (.inr ω)];have:=Kz (B:=B) (c:=iK v i) (k:=bp a) (q:=mA v i) (by rw[nS];omega);rw[nS,<-KB]at this;exact this
   .rw[if_neg (show¬(c=0\/(i:Int)<c)by omega),if_neg (show¬(c=0\/((i+1:Nat):Int)<=c)by omega)];have lq:(gp B (bp a) (iK v c.toNat)).length=B.length:=AQ (by rw[nS];omega);have e0:(if c=0\/(i:Int)<=c then gp B (bp a) (iK v i)else gp (gp B (bp a) (iK v c.toNat)) (bp b) (iK (v>>>(8*c.toNat)) (i-c.toNat)))=gp (gp B (bp a) (iK v c.toNat)) (bp b) (iK (v>>>(8*c.toNat)) (i-c.toNat)):=by
     by_cases ce:(i:Int)<=c
     .rw[if_pos (.inr ce),show i-c.toNat=0 by omega,KA,Ky,show i=c.toNat by omega]
     .rw[if_neg ω]
    rw[e0];have:=Kz (B:=gp B (bp a) (iK v c.toNat)) (c:=iK (v>>>(8*c.toNat)) (i-c.toNat)) (k:=bp b) (q:=mA v i) (by rw[nS,lq];omega);rw[nS]at this;rw[this,show i+1-c.toNat=(i-c.toNat)+1 by omega,KB];congr 2;unfold mA;rw[<-My,show 8*c.toNat+8*(i-c.toNat)=8*i by omega]
variable {v:BitVec 64}
theorem ahJ{B:List Int}{b:BitVec 64}(hl:B.length=64*m)(hn:m<=4096)(hm:dL c s=true)(hp:jF B.length a b c s=true):bW B a b c v s.toNat=kv B a b c s v:=by
 have jG:1<=s/\s<=8/\0<=c/\c<s:=by simpa[dL]using hm
 rw[Yu hl hn hm hp ω];unfold kv;by_cases c0:c=0
 .rw[if_pos (.inl c0),if_pos c0]
 .rw[if_neg ω,if_neg c0,show s.toNat-c.toNat=(s-c).toNat by omega]
theorem Yv{B:List Int}{m:Nat}{a b v:BitVec 64}{c s:Int}(hl:B.length=64*m)(hn:m<=4096)(hm:dL c s=true)(hp:jF B.length a b c s=true):∀{i:Nat},(i:Int)<=s->(bW B a b c v i).length=B.length
 |0,_=>rfl|i+1,h=>by
   show(gp (bW B a b c v i) _ _).length=_;have ih:=Yv (v:=v) hl hn hm hp (i:=i) ω;have hb:=RA hn hm (by rw[<-hl];exact hp) (i:=(i:Int)) ω ω;rw[qM,<-xT]at hb;rw[AQ (by rw[ih,hl];show bp _+1<=_;omega),ih]
def kW(R:List Sl)(a b:BitVec 64)(c:Int)(h:Int):Nat->List Sl|0=>R|i+1=>jB (kW R a b c h i) (ek a b c i/64#64) h 8
theorem Ty{R:List Sl}{a b:BitVec 64}{c h:Int}:∀{i:Nat},(kW R a b c h i).length=R.length|0=>rfl|i+1=>by show(jB (kW R a b c h i) _ h 8).length=_;rw[Cd,Ty]
variable {L:List (BitVec 64)}{bK:Int}
theorem anJ{R:List Sl}{l:BitVec 64}(hR:R.length=8):fv (jB R l bK 8) L bK 8=fv R (l::L) bK 8:=by
 apply vL;intro j;rw[AP,AP,Fo,Cd];by_cases hj:j<8;rotate_left
 .rw[if_neg (λc=>hj c.1),if_neg (λc=>hj c.1),if_neg (λc=>hj c.1)]
 obtain⟨x,hx⟩:∃x,R[j]?=some x:=⟨_,cM ω⟩;have gx:R.getD j z0=x:=by rw[b9,hx];rfl
 have gk:(jB R l bK 8).getD j z0=if nA R l bK j=true then z0 else x:=by
  rw[b9,Fo,hx];by_cases c:nA R l bK j=true
  .rw[if_pos ⟨hj,c,ω⟩,if_pos c];rfl
  .rw[if_neg (λh=>c h.2.1),if_neg c];rfl
 have kb:=aaS (R:=R) (l:=l) (bK:=bK) hj;unfold rE;rw[gx,gk,hx];rw[gx]at kb;simp only[hj,hR,true_and,and_true,uj];cases c:nA R l bK j
 .rw[c]at kb;have kb:=kb.symm;simp only[Bool.false_eq_true,if_false];have e:(!decide ((j:Int)=bK)&&(x.is&&decide (x.ln=l\/x.ln∈L)))=(!decide ((j:Int)=bK)&&(x.is&&decide (x.ln∈L))):=by
   by_cases e1:(j:Int)=bK
   .simp[e1]
   .by_cases e2:x.ln=l
    .have:x.is=false:=by simpa[e1,e2]using kb
     simp[this]
    .simp[e2]
  rw[e]
 .rw[c]at kb;have kb:=kb.symm;simp only[aQ,gD,decide_eq_false_iff_not,decide_eq_true_eq]at kb;obtain⟨e1,e2,e3⟩:=kb;simp[e1,e2,e3,z0]
theorem anK{R:List Sl}{M:List (BitVec 64)}(h:∀x,x∈L↔x∈M):fv R L bK 8=fv R M bK 8:=by
 apply vL;intro j;rw[AP,AP];unfold rE;simp only[h]
theorem aaO{a b:BitVec 64}{c h:Int}:∀{i:Nat}{R:List Sl}{L:List (BitVec 64)},R.length=8->fv (kW R a b c h i) L h 8=fv R ((List.range i).map (λ(k:Nat)=>ek a b c k/64#64)++L) h 8
 |0,R,L,_=>rfl|i+1,R,L,hR=>by
   show fv (jB (kW R a b c h i) _ h 8) L h 8=_;rw[anJ (by rw[Ty,hR]),aaO hR,List.range_succ,List.map_append,fo];rfl
theorem anI{R:List Sl}:fv R [] bK 8=R:=by
 apply vL;intro j;rw[AP,if_neg (by simp[rE])]
variable {h:Int}
theorem anE{R:List Sl}{b:BitVec 64}(hR:R.length=8)(hm:dL c s=true):kW R a b c h s.toNat=fv R (fI a b c s) h 8:=by
 have e:=aaO (a:=a) (b:=b) (c:=c) (h:=h) (i:=s.toNat) (L:=[]) hR;rw[anI,kD]at e;rw[e];refine anK λx=>?_;have jG:1<=s/\s<=8/\0<=c/\c<s:=by simpa[dL]using hm
 have g:=Hd (a:=a) (b:=b) hm;have t:=(Hf (a:=a) (b:=b) hm).2.1;have key:∀{l:List Pc}{m:Int},0<=m->xH (ek a b c) l m->(x∈l.map (λp=>p.a/64#64)↔∃i:Int,m<=i/\i<m+jf l/\ek a b c i/64#64=x):=by
  intro l;induction l with|nil=>intro m _ _;simp only[List.map_nil,Ji,jf,false_iff];rintro⟨i,h1,h2,_⟩;omega|cons p l ih=>
    intro m h0 hg;obtain⟨a1,a2,a3,a4,a6⟩:=hg;have t0:=Qd a6 0;rw[xg]at t0;rw[List.map_cons,uj,ih ω a6];simp only[jf];constructor
    .rintro(rfl|⟨i,h1,h2,h3⟩)
     .have:=a4 0 ω ω;refine⟨m,ω,ω,?_⟩;rw[show m+0=m by omega]at this;rw[this.1,this.2]
     .exact⟨i,ω,ω,h3⟩
    .rintro⟨i,h1,h2,h3⟩;by_cases c1:i<m+p.n
     .have:=a4 (i-m) ω ω;rw[show m+(i-m)=i by omega]at this;left;rw[<-h3,this.1,this.2]
     .exact .inr ⟨i,ω,ω,h3⟩
 have k:=key (zO 0) g;rw[t,Bz]at k;show x∈_↔x∈(mh a b c s).map _;rw[k,List.mem_map];constructor
 .rintro⟨i,hi,rfl⟩;rw[List.mem_range]at hi;exact⟨i,ω,ω,rfl⟩
 .rintro⟨i,h0,h1,h2⟩;exact⟨i.toNat,by rw[List.mem_range];omega,by rw[Int.toNat_of_nonneg h0];exact h2⟩
theorem akE(v:BitVec 64):v/256#64=v>>>8:=by
 apply BitVec.eq_of_toNat_eq;rw[BitVec.toNat_udiv,BitVec.toNat_ushiftRight,Nat.shiftRight_eq_div_pow];rfl
theorem abr(v:BitVec 64):(v%256#64).toNat=v.toNat%256:=by rw[BitVec.toNat_umod];rfl
theorem aAr(v:BitVec 64)(i:Nat):IntKind.u8.wrap (((v>>>(8*i))%256#64%256#64).toNat:Int)=mA v i:=by
 have e:=ae2 (v:=(v>>>(8*i))%256#64%256#64);simp only[Eu,Sc.k.injEq,true_and]at e;rw[e];unfold mA;congr 1;rw[BitVec.toNat_setWidth,BitVec.toNat_setWidth,abr,abr];omega
theorem apP(b:Int):mB [b]=aw 64 b:=by
 show(0#64<<<8)|||aw 64 b=_;rw[BitVec.zero_shiftLeft,BitVec.zero_or]
section
variable {H:AH}
def DV(args:List AV)(H:AH):Option (AV×AH):=match args with
 |[.g [.sl id 0 v N],.c (.u a),.c (.i 1),.c (.u x)]=>match Ib H id v N with
   |some B=>if B.length<=262144/\fY B.length a 1=true then some (.c (.b true),H.set id (.vec 1 ((gp B (bp a) [IntKind.u8.wrap ((x%256#64).toNat:Int)]).flatMap bQ)))else none|none=>none
 |_=>none
theorem axA{id:Nat}{B:List Int}{a x:BitVec 64}(h:hg H id=.vec 1 (B.flatMap bQ))(hl:B.length<=262144)(hh:fY B.length a 1=true):DV [.g [.sl id 0 B.length B.length],.c (.u a),.c (.i 1),.c (.u x)] H=some (.c (.b true),H.set id (.vec 1 ((gp B (bp a) [IntKind.u8.wrap ((x%256#64).toNat:Int)]).flatMap bQ))):=by simp only[DV,au9 h];rw[if_pos ⟨hl,hh⟩]
theorem aoy(args:List AV)(H:AH)(v:AV)(H1:AH)(h:DV args H=some (v,H1)):H.length<=H1.length:=by
 unfold DV at h;repeat' split at h
 all_goals simp at h
 rw[<-h.2];simp
theorem asQ:aZ Tryz.prog 147 DV:=by
 refine fU (s:=DV) (tq abY tn) Tryz.func147 rfl Tryz.results147 Tryz.ntmps147 aoy ?_;intro args H v H1 h bM hH;unfold DV at h;split at h<;>try(simp at h;done)
 rename_i id v N a x;split at h<;>try(simp at h;done)
 rename_i B hv;split at h<;>try(simp at h;done)
 rename_i hc;obtain⟨hB,hh⟩:=hc;simp only[ar,bD]at h;obtain⟨rfl,rfl⟩:=h;obtain⟨ho,rfl,rfl⟩:=au8 hv;refine⟨by simp,?_⟩;have aD:id<H.length:=dU (by rw[ho];rfl);have oX:∀X,hg (H++X) id=.vec 1 (B.flatMap bQ):=λX=>by rw[cL aD,ho]
 have sp:=λX=>ad4 (xA (oX X)) hB (show(1:Int)<=9223372036854775807 by decide) (a:=a);simp only[hh]at sp;rw[kJ]at hh;have h3:=MZ (a:=a) ω;have e3:(a-2147483648#64).toInt=(bp a:Int):=by rw[BitVec.toInt_eq_toNat_cond,h3,if_pos ω]
 obtain⟨q,hq⟩:∃q,q=IntKind.u8.wrap ((x%256#64).toNat:Int):=⟨_,rfl⟩;rw[<-hq];obtain⟨C,hC⟩:∃C,C=gp B (bp a) [q]:=⟨_,rfl⟩;rw[<-hC];have w1:wr (B.flatMap bQ) (bp a) [.k .u8 q]=C.flatMap bQ:=by rw[hC];exact Qn B [q] (bp a)
 have w2:bV (bp a) (B.flatMap bQ)++Sc.k .u8 q::cY (bp a+1) (B.flatMap bQ)=C.flatMap bQ:=by rw[<-w1,Gm];simp
 have lB:(B.flatMap bQ).length=B.length:=wa B;have k0:(0:Int)<=(bp a:Int):=ω
 have k1:(bp a:Int)<(B.length:Int):=ω
 have k2:bp a+1<=B.length:=ω
 have w0:az ((bp a:Int)+0)=(bp a:Int):=by rw[aq ω ω];omega
 have bC:dk (H.set id (.vec 1 (C.flatMap bQ)))=true:=oh hH (Nw C _);have sX:∀o X,(H++X).set id o=H.set id o++X:=λo X=>lN _ _ aD;have gN:∀o X n,hg (H.set id o++X) (H.length+n)=hg X n:=λo X n=>by
  have:=gY (H:=H.set id o) (X:=X) (n:=n);rwa[js]at this
 have g0:∀o X,hg (H.set id o++X) H.length=hg X 0:=λo X=>gN o X 0;simp only[go_sem,seval,sp];refine eY 1 (λj=>([(2,.c (.i 1)),(9,.c (.i j))]++(if j=0 then[(1,.c (.u a)),(3,.c (.u x)),(4,.c (.p H.length 0 0))]else[]),if j=0 then H++[.own [.sl id 0 B.length B.length]]else H.set id (.vec 1 (C.flatMap bQ)))) ?_ λj hj=>?_
 .simp only[if_true];exact kT (by simp[Am.get])
 .rcases(show j=0\/j=1 by omega)with rfl|rfl
  .simp only[if_true];(repeat(first|simp(maxSteps:=9^9)only[go_sem,seval,oX,e3,w0,k0,k1,k2,lB,w1,w2,sX,<-hq,aO]|simp(disch:=omega)only[aq,aK,aJ,aI,aH]));refine⟨1,ω,ω,?_⟩;exact Wk.wk (by simp[lo]) (by simp[Am.get]) (by simp[AV.aj,Sc.aj]) (aB _ _) bC
  .simp only[if_neg (show¬(1:Nat)=0 by decide)];simp only[go_sem,seval];exact uv
end
def ew(h t n b:Int)(id N:Nat)(R:List Sl):List Sc:=.i h::.i t::.i n::.i b::.sl id 0 N N::cC R
variable {t n b:Int}
theorem A7{id N:Nat}{R:List Sl}(hR:R.length=8):(ew h t n b id N R).length=21:=by unfold ew;simp[rF hR]
theorem Cs{id N:Nat}{R:List Sl}:(ew h t n b id N R).all Sc.one=true:=by unfold ew;simp[Sc.one,zh]
theorem Vg{h t n b:Int}{id N:Nat}{R:List Sl}{k:Nat}(hk:id<k):(ew h t n b id N R).all (Sc.aj k)=true:=by unfold ew;simp[Sc.aj,H6,hk]
theorem auY{id N:Nat}{R:List Sl}(hR:R.length=8):(ew h t n b id N R).take 21=ew h t n b id N R:=bR (by rw[A7 hR];exact aC _)
theorem ads{id N:Nat}{R:List Sl}(hR:R.length=8):((ew h t n b id N R).drop 5).take 16=cC R:=by
 unfold ew;show(cC R).take 16=_;exact bR (by rw[rF hR];exact aC _)
theorem auX{id N:Nat}{R:List Sl}:((ew h t n b id N R).drop 4).take 1=[.sl id 0 N N]:=rfl
theorem adt{h t n b:Int}{id N:Nat}{R S:List Sl}(hR:R.length=8)(hS:S.length=8):wr (ew h t n b id N R) 5 (cC S)=ew h t n b id N S:=by
 unfold ew wr;rw[rF hS];show[Sc.i h,.i t,.i n,.i b,.sl id 0 N N]++cC S++((cC R).drop 16)=_;rw[kE (by rw[rF hR];exact aC _),kD];rfl
structure u0(H:AH)(id v N:Nat)(rf:List Sc)(B:List Int)(m:Nat)(R:List Sl):Prop where
 o:hg H id=.vec 1 (B.flatMap bQ)v:v=B.length
 N:N=B.length
 l:B.length=64*m
 m:m<=4096
 ot:∀y∈B,0<=y/\y<=255
 rf:rf=cC R
 R:R.length=8
section
variable {H:AH}
open Classical in def Dv(H:AH)(id v N:Nat)(rf:List Sc):Option (List Int×List Sl):=if h:∃x:List Int×Nat×List Sl,u0 H id v N rf x.1 x.2.1 x.2.2 then some (h.choose.1,h.choose.2.2)else none
theorem O8{id v N:Nat}{rf:List Sc}{B:List Int}{m:Nat}{R:List Sl}(h:u0 H id v N rf B m R):Dv H id v N rf=some (B,R):=by
 unfold Dv;have e:∃x:List Int×Nat×List Sl,u0 H id v N rf x.1 x.2.1 x.2.2:=⟨(B,m,R),h⟩;rw[dif_pos e];have g:=e.choose_spec;have h1:=g.o;rw[h.o]at h1;simp only[ae.vec.injEq,true_and]at h1;have e1:=RZ h1.symm;have e2:=O9 g.R h.R (g.rf.symm.trans h.rf);rw[e1,e2]
theorem O7{id v N:Nat}{rf:List Sc}{B:List Int}{R:List Sl}(h:Dv H id v N rf=some (B,R)):∃m,u0 H id v N rf B m R:=by
 unfold Dv at h;split at h
 .rename_i e;simp only[ar,bD]at h;obtain⟨rfl,rfl⟩:=h;exact⟨_,e.choose_spec⟩
 .simp at h
theorem u0.lt{id v N:Nat}{rf:List Sc}{B:List Int}{m:Nat}{R:List Sl}(h:u0 H id v N rf B m R):id<H.length:=dU (by rw[h.o];rfl)
theorem u0.app{id v N:Nat}{rf:List Sc}{B:List Int}{m:Nat}{R:List Sl}(h:u0 H id v N rf B m R)(X:AH):u0 (H++X) id v N rf B m R:=⟨by rw[cL h.lt];exact h.o,h.v,h.N,h.l,h.m,h.ot,h.rf,h.R⟩
def IH(args:List AV)(H:AH):Option AV:=match args with
 |[.g (.i _::.i _::.i _::.i _::.sl id 0 v N::rf),.g (.i k::.u a::.u b::.i c::.i s::r)]=>match Dv H id v N rf with
   |some (B,_)=>if r.length=14/\r.all Sc.pf=true/\r.all Sc.one=true/\dL c s=true/\jF B.length a b c s=true then some (.c (.u (mB (u6 B a b c s))))else none|none=>none
 |_=>none
theorem axg{h t n b':Int}{id v N:Nat}{rf:List Sc}{B:List Int}{m:Nat}{R:List Sl}(hd:u0 H id v N rf B m R){k:Int}{a b:BitVec 64}{c s:Int}{r:List Sc}(l1:r.length=14)(l2:r.all Sc.pf=true)(l3:r.all Sc.one=true)(hm:dL c s=true)(hp:jF B.length a b c s=true):IH [.g (.i h::.i t::.i n::.i b'::.sl id 0 v N::rf),.g (.i k::.u a::.u b::.i c::.i s::r)] H=some (.c (.u (mB (u6 B a b c s)))):=by simp only[IH,O8 hd];rw[if_pos ⟨l1,l2,l3,hm,hp⟩]
theorem asg:aZ Tryz.prog 92 (λargs H=>(IH args H).map λv=>(v,H)):=by
 refine iR (s:=IH) (tu UC (tu UF (tq arA tn))) Tryz.func92 rfl Tryz.results92 Tryz.ntmps92 ?_;intro args H v h bM hH;unfold IH at h;split at h<;>try(simp at h;done)
 rename_i q1 q2 q3 q4 id v N rf k a b c s r;split at h<;>try(simp at h;done)
 rename_i B R hd;split at h<;>try(simp at h;done)
 rename_i hc;obtain⟨lr,pr,ro,hm,hp⟩:=hc;simp only[ar]at h;subst h;obtain⟨m,hd⟩:=O7 hd;obtain⟨ho,rfl,rfl,hl,sD,wu,rfl,hR⟩:=hd;refine⟨by simp,rfl,?_⟩;have jG:1<=s/\s<=8/\0<=c/\c<s:=by simpa[dL]using hm
 have rt:r.take 14=r:=bR ω;have aD:id<H.length:=dU (by rw[ho];rfl);have oX:∀X,hg (H++X) id=.vec 1 (B.flatMap bQ):=λX=>by rw[cL aD,ho]
 obtain⟨j,rfl⟩:∃j:Nat,s=(j:Int):=⟨s.toNat,ω⟩;obtain⟨L,hL⟩:∃L,L=u6 B a b c (j:Int):=⟨_,rfl⟩;have lL:L.length=j:=by rw[hL,ah0 hm hp,aO]
 have cQ:∀i:Nat,i<j->L[i]?=B[bp (ek a b c i)]?:=λi hi=>by rw[hL];exact ahZ hl sD hm hp ω
 have hs:∀i:Nat,i<j->fY B.length (ek a b c i) 1=true:=λi hi=>by
  rw[hl,uz];exact RA sD hm (by rw[<-hl];exact hp) ω ω
 have bL:∀x∈L,0<=x/\x<=255:=λx hx=>by
  obtain⟨i,hi⟩:=List.mem_iff_getElem?.1 hx;have il:i<j:=by
   rcases cU i j with c1|c1
   .exact c1
   .rw[jQ ω]at hi;simp at hi
  rw[cQ i il]at hi;exact wu x (Eo hi)
 rw[<-hL,<-abv bL];have lds:∀(i:Nat)(q:Int)X,i<j->L[i]?=some q->Iv [.g [.sl id 0 B.length B.length],.c (.u (ek a b c i)),.c (.i 1)] (H++X)=some (.t [.c (.u (aw 64 q)),.c (.b true)]):=λi q X hi hq=>by
  rw[awS (xA (oX X)) ω δ wu];unfold AR;have h1:=hs i hi;rw[if_pos ⟨h1,δ⟩];rw[kJ]at h1;have:(B.drop (bp (ek a b c i))).take (1:Int).toNat=[q]:=by
   rw[cQ i hi]at hq;apply vL;intro k;rcases k with _|k
   .rw[yu δ,sZ,rj,hq];rfl
   .rw[jQ (by rw[rW];simp;omega),jQ (by simp)]
  rw[this,apP]
 have w1:az ((j:Int)-1)=(j:Int)-1:=aq ω ω;have ra:=uK (k:=k) (a:=a) (b:=b) (c:=c) (s:=(j:Int)) (r:=r);rw[if_pos ⟨lr,pr⟩]at ra;obtain⟨S,hS⟩:∃S:List Sc,S=.i q1::.i q2::.i q3::.i q4::.sl id 0 B.length B.length::cC R:=⟨_,rfl⟩;have lS:S.length=21:=by rw[hS];exact A7 (h:=q1) (t:=q2) (n:=q3) (b:=q4) hR
 have tS:S.take 21=S:=bR ω;have oS:S.all Sc.one=true:=by rw[hS];exact Cs (h:=q1) (t:=q2) (n:=q3) (b:=q4)
 have dS:(S.drop 4).take 1=[.sl id 0 B.length B.length]:=by rw[hS];rfl
 rw[<-hS];simp only[go_sem,seval,lr,ro,rt,lS,tS,oS,w1];refine eY j (λr'=>([(2,.c (.p H.length 0 0)),(3,.c (.p (H.length+1) 0 0)),(5,.c (.u ((L.drop (j-r')).foldr Gf 0#64))),(6,.c (.i ((j:Int)-1-r')))],H++[.own S,.own (.i k::.u a::.u b::.i c::.i j::r)])) ?_ λr' hr=>?_
 .exact kT (by simp[Am.get,<-lL])
 by_cases aL:r'<j;rotate_left
 .obtain rfl:r'=j:=ω
  have e0:((r':Int)-1-(r':Int))=-1:=ω
  have d0:L.drop (r'-r')=L:=by rw[Nat.sub_self];rfl
  simp only[go_sem,seval,e0,d0];exact aB _ _
 obtain⟨i,hi⟩:∃i,i=j-1-r':=⟨_,rfl⟩;have e0:((j:Int)-1-(r':Int))=(i:Int):=ω
 have e1:az ((i:Int)-1)=(i:Int)-1:=aq ω ω;have k0:(0:Int)<=(i:Int):=ω
 obtain⟨q,hq⟩:∃q,L[i]?=some q:=⟨_,cM ω⟩;have ld:=λX=>lds i q X ω hq;have rb:=uL (a:=a) (b:=b) (c:=c) (s:=(j:Int)) (i:=(i:Int));rw[if_pos ⟨ω,ω,ω,ω⟩]at rb;have st:=aeM 0#64 (M:=L) ω ω hq (r:=r');rw[lL]at st;have e4:(i:Int)-1=(j:Int)-1-((r'+1:Nat):Int):=ω
 have cm:∀x:BitVec 64,256#64*x=x*256#64:=λx=>BitVec.mul_comm _ _;(repeat(first|simp only[go_sem,seval,lr,ro,rt,lS,dS,e0,e1,k0,ra,rb,ld,cm,<-st,e4]|simp(disch:=omega)only[w0]));exact⟨r'+1,ω,ω,kT (by simp[Am.get])⟩
def Dx:List Sc:=[.i 0,.i 0,.i 0,.i 0,.aA,.b false,.b false,.b false,.b false,.b false,.b false,.b false,.b false,.u 0#64,.u 0#64,.u 0#64,.u 0#64,.u 0#64,.u 0#64,.u 0#64,.u 0#64]
def DR(args:List AV)(H:AH):Option (AV×AH):=match args with
 |[.g (.i q1::.i q2::.i q3::.i q4::.sl id 0 v N::rf),.c (.i h),.g (.i k::.u a::.u b::.i c::.i s::r),.c (.u x)]=>match Dv H id v N rf with
   |some (B,R)=>if r.length=14/\r.all Sc.pf=true/\r.all Sc.one=true/\dL c s=true/\jF B.length a b c s=true then some (.g (ew q1 q2 q3 q4 id B.length (fv R (fI a b c s) h 8)),H.set id (.vec 1 ((kv B a b c s x).flatMap bQ)))else none|none=>none
 |_=>none
theorem axi{q1 q2 q3 q4 h:Int}{id v N:Nat}{rf:List Sc}{B:List Int}{m:Nat}{R:List Sl}(hd:u0 H id v N rf B m R){k:Int}{a b:BitVec 64}{c s:Int}{r:List Sc}{x:BitVec 64}(l1:r.length=14)(l2:r.all Sc.pf=true)(l3:r.all Sc.one=true)(hm:dL c s=true)(hp:jF B.length a b c s=true):DR [.g (.i q1::.i q2::.i q3::.i q4::.sl id 0 v N::rf),.c (.i h),.g (.i k::.u a::.u b::.i c::.i s::r),.c (.u x)] H=some (.g (ew q1 q2 q3 q4 id B.length (fv R (fI a b c s) h 8)),H.set id (.vec 1 ((kv B a b c s x).flatMap bQ))):=by simp only[DR,O8 hd];rw[if_pos ⟨l1,l2,l3,hm,hp⟩]
theorem aov(args:List AV)(H:AH)(v:AV)(H1:AH)(h:DR args H=some (v,H1)):H.length<=H1.length:=by
 unfold DR at h;repeat' split at h
 all_goals simp at h
 rw[<-h.2];simp
theorem asi:aZ Tryz.prog 93 DR:=by
 refine fU (s:=DR) (tu UC (tu UF (tp asQ (tu ath tn)))) Tryz.func93 rfl Tryz.results93 Tryz.ntmps93 aov ?_;intro args H v H1 h bM hH;unfold DR at h;split at h<;>try(simp at h;done)
 rename_i q1 q2 q3 q4 id v N rf h0 k a b c s r x;split at h<;>try(simp at h;done)
 rename_i B R hd;split at h<;>try(simp at h;done)
 rename_i hc;obtain⟨lr,pr,ro,hm,hp⟩:=hc;simp only[ar,bD]at h;obtain⟨rfl,rfl⟩:=h;obtain⟨m,hd⟩:=O7 hd;obtain⟨ho,rfl,rfl,hl,sD,wu,rfl,hR⟩:=hd;refine⟨by simp,?_⟩;have jG:1<=s/\s<=8/\0<=c/\c<s:=by simpa[dL]using hm
 have rt:r.take 14=r:=bR ω;have aD:id<H.length:=dU (by rw[ho];rfl);rw[<-ahJ hl sD hm hp,<-anE hR hm];obtain⟨j,rfl⟩:∃j:Nat,s=(j:Int):=⟨s.toNat,ω⟩;rw[aO];let O:Nat->AH:=λi=>H.set id (.vec 1 ((bW B a b c x i).flatMap bQ));have lO:∀i,(O i).length=H.length:=λi=>js;have bO:∀i,dk (O i)=true:=λi=>oh hH (Nw _ _);have lb:∀i,i<=j->(bW B a b c x i).length=B.length:=λi hi=>Yv hl sD hm hp ω;have gO:∀i X,hg (O i++X) id=.vec 1 ((bW B a b c x i).flatMap bQ):=λi X=>by rw[cL (by rw[lO];exact aD)];exact jj aD
 have sO:∀i X(C:List Int),(O i++X).set id (.vec 1 (C.flatMap bQ))=H.set id (.vec 1 (C.flatMap bQ))++X:=λi X C=>by rw[lN _ _ (by rw[lO];exact aD)];show(H.set id _).set id _++X=_;rw[List.set_set]
 have eO:∀i,H.set id (.vec 1 ((bW B a b c x (i+1)).flatMap bQ))=O (i+1):=λi=>rfl;have e0:O 0=H:=PW ho aD;have eF:H.set id (.vec 1 ((bW B a b c x j).flatMap bQ))=O j:=rfl;have st:∀i X,i<j->DV [.g [.sl id 0 B.length B.length],.c (.u (ek a b c i)),.c (.i 1),.c (.u ((x>>>(8*i))%256#64))] (O i++X)=some (.c (.b true),O (i+1)++X):=λi X hi=>by
  have hb:=RA sD hm (by rw[<-hl];exact hp) (i:=(i:Int)) ω ω;rw[<-uz,<-hl]at hb;have l1:=lb i ω;have e:=axA (x:=(x>>>(8*i))%256#64) (gO i X) (by rw[l1];omega) (by rw[l1];exact hb);rw[l1,aAr,sO]at e;exact e
 have kR:∀i,(kW R a b c h0 i).length=8:=λi=>by rw[Ty,hR]
 have vk:∀i:Nat,∃n:Nat,PR [.g (cC (kW R a b c h0 i)),.c (.u (ek a b c i/64#64)),.c (.i h0)]=some (.t [.g (cC (kW R a b c h0 (i+1))),.c (.i n)]):=λi=>⟨_,by rw[axH,if_pos (Tt (kR i)),Ia (kR i)];rfl⟩;rw[eF];clear_value O;obtain⟨ask,mw⟩:∃ask:List Sc,ask=.i k::.u a::.u b::.i c::.i j::r:=⟨_,rfl⟩;obtain⟨S,hS⟩:∃S:Nat->List Sc,S=λi=>ew q1 q2 q3 q4 id B.length (kW R a b c h0 i):=⟨_,rfl⟩;have tE:(Sc.i q1::.i q2::.i q3::.i q4::.sl id 0 B.length B.length::cC R)=S 0:=by rw[hS];rfl
 have lS:∀i,(S i).length=21:=λi=>by rw[hS];exact A7 (kR i)
 have oS:∀i,(S i).all Sc.one=true:=λi=>by rw[hS];exact Cs
 have bS:∀i k,id<k->(S i).all (Sc.aj k)=true:=λi k hk=>by rw[hS];exact Vg hk
 have tS:∀i,(S i).take 21=S i:=λi=>bR (by rw[lS];exact aC _);have dT:∀i,((S i).drop 5).take 16=cC (kW R a b c h0 i):=λi=>by rw[hS];exact ads (kR i)
 have dM:∀i,((S i).drop 4).take 1=[.sl id 0 B.length B.length]:=λi=>by rw[hS];exact auX
 have wS:∀i,wr (S i) 5 (cC (kW R a b c h0 (i+1)))=S (i+1):=λi=>by rw[hS];exact adt (kR i) (kR (i+1))
 have fS:ew q1 q2 q3 q4 id B.length (kW R a b c h0 j)=S j:=by rw[hS]
 have lT:∀i,(cC (kW R a b c h0 i)).length=16:=λi=>rF (kR i);have tT:∀i,(cC (kW R a b c h0 i)).take 16=cC (kW R a b c h0 i):=λi=>bR (by rw[lT];exact aC _);have oT:∀i,(cC (kW R a b c h0 i)).all Sc.one=true:=λi=>zh;have lZ:Dx.length=21:=rfl;have Rl:∀k,ask.all (Sc.aj k)=true:=λk=>by rw[mw];simp[Sc.aj,Co k pr]
 have qt:ask.length=19:=by rw[mw];simp[lr]
 have task:ask.take 19=ask:=bR ω;have qU:ask.all Sc.one=true:=by rw[mw];simp[Sc.one,ro]
 have aaj:ask.getD 4 .any=.i j:=by rw[mw];rfl
 have ra:PD [.g ask]=some (.g [.u a,.u b,.i c,.i j]):=by rw[mw,uK,if_pos ⟨lr,pr⟩]
 have g0:∀i X,hg (O i++X) H.length=hg X 0:=λi X=>by rw[<-lO i,me]
 have gN:∀i X n,hg (O i++X) (H.length+n)=hg X n:=λi X n=>by rw[<-lO i,gY]
 have s0:∀i X o,(O i++X).set H.length o=O i++X.set 0 o:=λi X o=>by rw[<-lO i,D4]
 have sN:∀i X n o,(O i++X).set (H.length+n) o=O i++X.set n o:=λi X n o=>by rw[<-lO i,vF]
 rw[tE,fS,<-mw];clear hS;simp only[go_sem,seval,lS,tS,oS,qt,task,qU];refine eY j (λi=>([(1,.c (.i h0)),(3,.c (.u (x>>>(8*i)))),(4,.c (.p H.length 0 0)),(6,.c (.p (H.length+1) 0 0)),(8,.c (.p (H.length+2) 0 0)),(9,.c (.i i))],O i++[.own (S i),.own ask,.own Dx])) ?_ λi hi=>?_
 .refine Gl ?_ (by simp[Am.get]);rw[e0];rfl
 by_cases aL:i<j;rotate_left
 .obtain rfl:i=j:=ω
  have iI:¬((i:Int)<i):=ω
  have dZ:Dx.drop 21=[]:=rfl;simp only[go_sem,seval,g0,gN,sN,s0,lO,qt,aaj,iI,lS,tS,oS,lZ,dZ];exact cV (bS _ _ (by rw[lO];exact aD)) (aB _ _) (bO _) (by rw[lO];exact aC _)
 have iI:(i:Int)<j:=ω
 have F1:az ((i:Int)+1)=((i+1:Nat):Int):=by rw[aq ω ω];omega
 have rb:=uL (a:=a) (b:=b) (c:=c) (s:=(j:Int)) (i:=(i:Int));rw[if_pos ⟨ω,ω,ω,ω⟩]at rb;have st:=λX=>st i X aL;obtain⟨n,vk⟩:=vk i;have sh:(x>>>(8*i))/256#64=x>>>(8*(i+1)):=by rw[akE,<-My];rfl
 have bb:dk (O (i+1)++[.own (S (i+1)),.own ask,.own Dx])=true:=td (bO _) (by simp only[uj,Ji,or_false,forall_eq_or_imp,forall_eq];exact⟨bS _ _ (by rw[cF,lO];omega),Rl _,rfl⟩);simp only[go_sem,seval,g0,gN,sN,s0,lO,qt,task,qU,aaj,iI,F1,lS,tS,oS,dM,dT,wS,lT,tT,oT,ra,rb,st,sh,vk];exact⟨i+1,ω,ω,Wk.wk (by simp[lo,lO]) (by simp[Am.get]) (by simp[AV.aj,Sc.aj,lO]) (D8 _ ⟨.inr rfl,.inr rfl,.inr rfl,trivial⟩) bb⟩
end
def tv (h t n b:Int) (B:List Int) (R:List Sl):Fw:=⟨0,0,h,t,n,b,B,R,.dt,[]⟩
theorem T4{k op:Int}{b:BitVec 64} (hm:m<=4096) :pL m k a b c s op=(mL k a c s op && jF (64 * m) a b c s):=by
 unfold pL
 cases hf:mL k a c s op
 .rfl
 .rw [J2 hm (Dm (b:=b) hf)]
section
variable {H:AH}
def Cx (args:List AV) (H:AH):Option (AV × AH) :=
 match args with
 | [.g (.i q1::.i q2::.i q3::.i q4::.sl id 0 v N::rf),.c (.i h),.g (.i k::.u a::.u b::.i c::.i s::.i op::.u d::.u o::.b lv::r)] =>
   match Dv H id v N rf with
   | some (B,R)=>open Classical in if rY r/\ga s/\q1<=8 then
      some (.t [.g (ew q1 q2 q3 q4 id B.length (wR (tv q1 q2 q3 q4 B R) h ⟨k,a,b,c,s,op,d,o,lv⟩)),.g (bX (wD (tv q1 q2 q3 q4 B R) h ⟨k,a,b,c,s,op,d,o,lv⟩) (wG (tv q1 q2 q3 q4 B R) h ⟨k,a,b,c,s,op,d,o,lv⟩)),.c (.b (iQ (tv q1 q2 q3 q4 B R) h ⟨k,a,b,c,s,op,d,o,lv⟩))],
       H.set id (.vec 1 ((wB (tv q1 q2 q3 q4 B R) h ⟨k,a,b,c,s,op,d,o,lv⟩).flatMap bQ))) else none
   | none=>none
 | _=>none
theorem axf {q1 q2 q3 q4 h:Int} {id v N:Nat} {rf:List Sc} {B:List Int} {m:Nat} {R:List Sl} (hd:u0 H id v N rf B m R) {k:Int} {a b:BitVec 64} {c s op:Int} {d o:BitVec 64} {lv:Bool} {r:List Sc} (hr:rY r) (hs:ga s) (hq:q1<=8) :
 Cx [.g (.i q1::.i q2::.i q3::.i q4::.sl id 0 v N::rf),.c (.i h),.g (.i k::.u a::.u b::.i c::.i s::.i op::.u d::.u o::.b lv::r)] H=some (.t [.g (ew q1 q2 q3 q4 id B.length (wR (tv q1 q2 q3 q4 B R) h ⟨k,a,b,c,s,op,d,o,lv⟩)),.g (bX (wD (tv q1 q2 q3 q4 B R) h ⟨k,a,b,c,s,op,d,o,lv⟩) (wG (tv q1 q2 q3 q4 B R) h ⟨k,a,b,c,s,op,d,o,lv⟩)),.c (.b (iQ (tv q1 q2 q3 q4 B R) h ⟨k,a,b,c,s,op,d,o,lv⟩))],
  H.set id (.vec 1 ((wB (tv q1 q2 q3 q4 B R) h ⟨k,a,b,c,s,op,d,o,lv⟩).flatMap bQ))):=by
 simp only [Cx,O8 hd];rw [if_pos ⟨hr,hs,hq⟩]
theorem aot (args:List AV) (H:AH) (v:AV) (H1:AH) (h:Cx args H=some (v,H1)):H.length<=H1.length:=by
 unfold Cx at h
 repeat' split at h
 all_goals simp at h
 rw [<-h.2];simp
theorem aoU{B:List Int}{b:BitVec 64} (hm:dL c s=true):kv B a b c s (dX v (8 * s))=kv B a b c s v:=aaZ hm
theorem asf:aZ Tryz.prog 41 Cx:=by
 refine fU (s:=Cx) (tq acd (tq asg (tp asi (tu asB (tu ati (tu atg tn)))))) Tryz.func41 rfl Tryz.results41 Tryz.ntmps41 aot ?_
 intro args H v H1 h bM hH
 unfold Cx at h
 split at h <;> try (simp at h;done)
 rename_i q1 q2 q3 q4 id v N rf h0 k a b c s op d o lv r
 split at h <;> try (simp at h;done)
 rename_i B R hd
 split at h <;> try (simp at h;done)
 rename_i hc
 obtain ⟨hr,hs,hq⟩:=hc
 simp only [ar,bD] at h
 obtain ⟨rfl,rfl⟩:=h
 obtain ⟨m,hd⟩:=O7 hd
 have EZ:=hd
 obtain ⟨ho,rfl,rfl,hl,sD,wu,rfl,hR⟩:=EZ
 have Tf:=hr
 obtain ⟨lr,pr,ro⟩:=Tf
 refine ⟨by simp,?_⟩
 have rt:r.take 10=r:=bR ω
 have aD:id < H.length:=dU (by rw [ho];rfl)
 obtain ⟨w,hw⟩:∃w,w=tv q1 q2 q3 q4 B R:=⟨_,rfl⟩
 have ym:w.B=B:=by rw [hw];rfl
 have Bt:w.R=R:=by rw [hw];rfl
 have wh:w.h=q1:=by rw [hw];rfl
 rw [<-hw]
 obtain ⟨ask,mw⟩:∃ask:List Sc,ask=.i k::.u a::.u b::.i c::.i s::.i op::.u d::.u o::.b lv::r:=⟨_,rfl⟩
 obtain ⟨S,hS⟩:∃S:List Sl->List Sc,S=λT=>ew q1 q2 q3 q4 id B.length T:=⟨_,rfl⟩
 have tE:(Sc.i q1::.i q2::.i q3::.i q4::.sl id 0 B.length B.length::cC R)=S R:=by rw [hS];rfl
 have lS:∀T,T.length=8->(S T).length=21:=λT hT=>by rw [hS];exact A7 hT
 have oS:∀T,(S T).all Sc.one=true:=λT=>by rw [hS];exact Cs
 have bS:∀T n,id < n->(S T).all (Sc.aj n)=true:=λT n hn=>by rw [hS];exact Vg hn
 have tS:∀T,T.length=8->(S T).take 21=S T:=λT hT=>bR (by rw [lS T hT];exact aC _)
 have dT:∀T,T.length=8->((S T).drop 5).take 16=cC T:=λT hT=>by rw [hS];exact ads hT
 have wS:∀T U,T.length=8->U.length=8->wr (S T) 5 (cC U)=S U:=λT U hT hU=>by rw [hS];exact adt hT hU
 have yL:∀T,(S T).getD 0 .any=.i q1:=λT=>by rw [hS];rfl
 have lT:∀T:List Sl,T.length=8->(cC T).length=16:=λT hT=>rF hT
 have tT:∀T:List Sl,T.length=8->(cC T).take 16=cC T:=λT hT=>bR (by rw [lT T hT];exact aC _)
 have oT:∀T:List Sl,(cC T).all Sc.one=true:=λT=>zh
 have pT:Qb (cC R):=⟨rF hR,FL,zh⟩
 have zS:(Dx.drop 21:List Sc)=[]:=rfl
 have qt:ask.length=19:=by rw [mw];simp [lr]
 have task:ask.take 19=ask:=bR ω
 have qU:ask.all Sc.one=true:=by rw [mw];simp [Sc.one,ro]
 have a0:ask.getD 0 .any=.i k:=by rw [mw];rfl
 have a1:ask.getD 1 .any=.u a:=by rw [mw];rfl
 have a5:ask.getD 5 .any=.i op:=by rw [mw];rfl
 have a6:ask.getD 6 .any=.u d:=by rw [mw];rfl
 have a7:ask.getD 7 .any=.u o:=by rw [mw];rfl
 have a8:ask.getD 8 .any=.b lv:=by rw [mw];rfl
 have my:∀X,DU [.g (S R),.g ask] (H++X)=some (.c (.b (pL m k a b c s op))):=λX=>by
  rw [<-tE,mw,hl];exact aeg pT hr hs sD
 have yz:∀(T:List Sl) (d:BitVec 64) (g q:Bool) (K:AH),id < K.length->(AV.t [.g (S T),.g (bX d g),.c (.b q)]).aj K.length=true:=λT d g q K hK=>by
  simp only [AV.aj,bG,dO,bS T _ hK,X8,Sc.aj,cX]
 have ahY:∀C:List Int,dk (H.set id (.vec 1 (C.flatMap bQ)))=true:=λC=>oh hH (Nw C _)
 have zA:(Sc.u 0#64::.b false::dA).drop 42=[]:=kE (by simp [Mx])
 have zz:H.set id (.vec 1 (B.flatMap bQ))=H:=PW ho aD
 have gX:∀(C:List Int) X n,hg (H.set id (.vec 1 (C.flatMap bQ))++X) (H.length+n)=hg X n:=λC X n=>by
  have:=gY (H:=H.set id (.vec 1 (List.flatMap bQ C))) (X:=X) (n:=n)
  rwa [js] at this
 have NN:∀(C:List Int) X,hg (H.set id (.vec 1 (C.flatMap bQ))++X) H.length=hg X 0:=λC X=>gX C X 0
 have sX:∀(C:List Int) X n o,(H.set id (.vec 1 (C.flatMap bQ))++X).set (H.length+n) o=H.set id (.vec 1 (C.flatMap bQ))++X.set n o:=λC X n o=>by
  have:=vF (H:=H.set id (.vec 1 (List.flatMap bQ C))) (X:=X) (n:=n) (o:=o)
  rwa [js] at this
 have Pr:∀(C:List Int) X o,(H.set id (.vec 1 (C.flatMap bQ))++X).set H.length o=H.set id (.vec 1 (C.flatMap bQ))++X.set 0 o:=λC X o=>sX C X 0 o
 have eS:∀T,ew q1 q2 q3 q4 id B.length T=S T:=λT=>by rw [hS]
 rw [tE,<-mw,eS]
 have no:∀q:Ak,iQ w h0 q=false->wD w h0 q=0#64/\wG w h0 q=false/\wB w h0 q=B/\wR w h0 q=R:=λq e=>by
  have eW:ie w h0 q=none:=by unfold ie;rw [if_neg (by simp [e])]
  exact ⟨by unfold wD;rw [if_neg (by simp [e])],by unfold wG;rw [if_neg (by simp [e])],by unfold wB;rw [eW];exact ym,by unfold wR;rw [if_neg (by simp [e])];exact Bt⟩
 have aBg:∀(n:Nat) (X:AH),n=H.length->∃v',some (AV.t [.g (S R),.g (.u 0#64::.b false::dA),.c (.b false)])=some v'/\Wk n [(0,v')] (H++X) ([(0,.t [.g (S R),.g (bX 0#64 false),.c (.b false)])],H):=λn X hn=>by
  subst hn
  exact cV (yz R 0#64 false false H aD) (aB _ _) hH (aC _)
 cases sE:pL m k a b c s op
 .have e:iQ w h0 ⟨k,a,b,c,s,op,d,o,lv⟩=false:=by
   rw [T4 sD] at sE
   unfold iQ
   rw [ym,hl]
   cases hf:mL k a c s op
   .rfl
   .rw [hf,gv] at sE;rw [sE];simp
  obtain ⟨e1,e2,e3,e4⟩:=no _ e
  rw [e,e1,e2,e3,e4,zz]
  simp only [go_sem,seval,lS R hR,oS,tS R hR,qt,task,qU,my,sE,zS,zA]
  exact cV (yz R 0#64 false false H aD) (aB _ _) hH (aC _)
 by_cases h1:h0 < 0
 .have e:iQ w h0 ⟨k,a,b,c,s,op,d,o,lv⟩=false:=by unfold iQ;rw [decide_eq_false (show ¬0<=h0 by omega)];simp
  obtain ⟨e1,e2,e3,e4⟩:=no _ e
  rw [e,e1,e2,e3,e4,zz]
  simp only [go_sem,seval,lS R hR,oS,tS R hR,qt,task,qU,my,sE,h1,zS,zA]
  exact cV (yz R 0#64 false false H aD) (aB _ _) hH (aC _)
 by_cases h2:q1<=h0
 .have e:iQ w h0 ⟨k,a,b,c,s,op,d,o,lv⟩=false:=by unfold iQ;rw [wh,decide_eq_false (show ¬h0 < q1 by omega)];simp
  obtain ⟨e1,e2,e3,e4⟩:=no _ e
  rw [e,e1,e2,e3,e4,zz]
  simp only [go_sem,seval,lS R hR,oS,tS R hR,yL,qt,task,qU,my,sE,h1,h2,zS,zA]
  exact cV (yz R 0#64 false false H aD) (aB _ _) hH (aC _)
 obtain ⟨x0,wC⟩:∃x0:Nat,h0=(x0:Int):=⟨h0.toNat,ω⟩
 subst wC
 have x8:x0 < 8:=ω
 have xI:(x0:Int) < 8:=ω
 have Qp:(0:Int)<=(x0:Int):=ω
 have hmp:=sE
 rw [T4 sD,aQ,<-hl] at hmp
 obtain ⟨hf,hp⟩:=hmp
 have hm:=Dm (b:=b) hf
 have aR:iQ w x0 ⟨k,a,b,c,s,op,d,o,lv⟩=true:=by
  unfold iQ
  rw [ym,hf,hp,wh,decide_eq_true Qp,decide_eq_true (show (x0:Int) < q1 by omega)];rfl
 rw [aR]
 have Dd:(Sc.i op::.u d::.u o::.b lv::r).length=14:=by simp [lr]
 have OS:(Sc.i op::.u d::.u o::.b lv::r).all Sc.pf=true:=by simp [Sc.pf,pr]
 have FF:(Sc.i op::.u d::.u o::.b lv::r).all Sc.one=true:=by simp [Sc.one,ro]
 have gt:∀X,IH [.g (S R),.g ask] (H++X)=some (.c (.u (wV w ⟨k,a,b,c,s,op,d,o,lv⟩))):=λX=>by
  have:=axg (h:=q1) (t:=q2) (n:=q3) (b':=q4) (k:=k) (hd.app X) Dd OS FF hm hp
  rw [<-tE,mw,this]
  unfold wV
  rw [ym]
 have pu:∀X y,DR [.g (S R),.c (.i x0),.g ask,.c (.u y)] (H++X)=some (.g (S (fv R (fI a b c s) x0 8)),H.set id (.vec 1 ((kv B a b c s y).flatMap bQ))++X):=λX y=>by
  have:=axi (q1:=q1) (q2:=q2) (q3:=q3) (q4:=q4) (h:=(x0:Int)) (k:=k) (x:=y) (hd.app X) Dd OS FF hm hp
  rw [<-tE,mw,this,eS,lN _ _ aD]
 have kl:(fv R (fI a b c s) x0 8).length=8:=by rw [Cc,hR]
 obtain ⟨y,hy⟩:∃y,R[x0]?=some y:=⟨_,cM ω⟩
 have gy:R.getD x0 z0=y:=by rw [b9,hy];rfl
 obtain ⟨c0,c1⟩:=H7 hR hy
 have d0:(S R).getD (5+x0) .any=.b y.is:=by
  rw [hS,<-c0]
  show (ew q1 q2 q3 q4 id B.length R).getD (5+x0) .any=_
  unfold ew
  rw [Nat.add_comm];rfl
 have d1:(S R).getD (13+x0) .any=.u y.ln:=by
  rw [hS,<-c1]
  show (ew q1 q2 q3 q4 id B.length R).getD (13+x0) .any=_
  unfold ew
  rw [show 13+x0=(8+x0)+5 by omega];rfl
 have d2:5+x0+1<=21:=ω
 have d3:13+x0+1<=21:=ω
 have sT:∀(T:List Sl) (u:Sl),mV T (x0:Int) u=T.set x0 u:=λT u=>by unfold mV;rw [if_pos (AK x8),aO]
 have vs:∀u,PS [.g (cC R),.c (.i x0),.c (.u u)]=some (.t [.g (cC (R.set x0 ⟨true,u⟩)),.c (.b true)]):=λu=>by
  rw [axI,if_pos (Tt hR),Ia hR,sT,AK x8]
 have vc:∀T:List Sl,T.length=8->∃q,PQ [.g (cC T),.c (.i x0)]=some (.t [.g (cC (T.set x0 z0)),.c (.b q)]):=λT hT=>⟨_,by
  rw [axG,if_pos (Tt hT),Ia hT,sT]⟩
 have ls:∀(T:List Sl) u,T.length=8->(T.set x0 u).length=8:=λT u hT=>by rw [js,hT]
 have fin:=λ(T:List Sl) (dd:BitVec 64) (g:Bool) (C:List Int) (X:AH)=>cV (n:=H.length) (yz T dd g true (H.set id (.vec 1 (C.flatMap bQ))) (by rw [js];exact aD)) (aB _ X) (ahY C) (by rw [js];exact aC _)
 by_cases k3:k=3
 .subst k3
  have eW:ie w x0 ⟨3,a,b,c,s,op,d,o,lv⟩=some d:=by unfold ie;rw [if_pos aR,if_pos rfl]
  have eD:wD w x0 ⟨3,a,b,c,s,op,d,o,lv⟩=0#64:=by unfold wD;rw [if_pos aR,if_pos rfl]
  have eG:wG w x0 ⟨3,a,b,c,s,op,d,o,lv⟩=false:=by unfold wG;rw [if_pos aR,if_neg (show ¬(3:Int)=6 by decide),if_neg (show ¬(3:Int)=8 by decide)]
  have eB:wB w x0 ⟨3,a,b,c,s,op,d,o,lv⟩=kv B a b c s d:=by unfold wB;rw [eW,ym]
  have eR:wR w x0 ⟨3,a,b,c,s,op,d,o,lv⟩=fv R (fI a b c s) x0 8:=by unfold wR nI;rw [if_pos aR,if_neg (show ¬(3:Int)=5 by decide),if_neg (show ¬(3:Int)=6 by decide),eW,Bt]
  rw [eD,eG,eB,eR]
  simp only [go_sem,seval,lS R hR,oS,tS R hR,dT R hR,yL,qt,task,qU,a0,a1,a5,a6,a7,a8,my,sE,h1,h2,zS,zA,gt,pu,gX,NN,sX,Pr,lS _ kl,tS _ kl]
  exact fin _ _ _ _ _
 by_cases k4:k=4
 .subst k4
  have eW:ie w x0 ⟨4,a,b,c,s,op,d,o,lv⟩=some (uk op (wV w ⟨4,a,b,c,s,op,d,o,lv⟩) d):=by unfold ie;rw [if_pos aR,if_neg (show ¬(4:Int)=3 by decide),if_pos rfl]
  have eD:wD w x0 ⟨4,a,b,c,s,op,d,o,lv⟩=wV w ⟨4,a,b,c,s,op,d,o,lv⟩:=by unfold wD;rw [if_pos aR,if_neg (show ¬(4:Int)=3 by decide),if_neg (show ¬(4:Int)=6 by decide)]
  have eG:wG w x0 ⟨4,a,b,c,s,op,d,o,lv⟩=false:=by unfold wG;rw [if_pos aR,if_neg (show ¬(4:Int)=6 by decide),if_neg (show ¬(4:Int)=8 by decide)]
  have eB:wB w x0 ⟨4,a,b,c,s,op,d,o,lv⟩=kv B a b c s (uk op (wV w ⟨4,a,b,c,s,op,d,o,lv⟩) d):=by unfold wB;rw [eW,ym]
  have eR:wR w x0 ⟨4,a,b,c,s,op,d,o,lv⟩=fv R (fI a b c s) x0 8:=by unfold wR nI;rw [if_pos aR,if_neg (show ¬(4:Int)=5 by decide),if_neg (show ¬(4:Int)=6 by decide),eW,Bt]
  rw [eD,eG,eB,eR]
  generalize wV w ⟨4,a,b,c,s,op,d,o,lv⟩=V at *
  simp only [go_sem,seval,axt,lS R hR,oS,tS R hR,dT R hR,yL,qt,task,qU,a0,a1,a5,a6,a7,a8,my,sE,h1,h2,zS,zA,gt,pu,gX,NN,sX,Pr,lS _ kl,tS _ kl]
  exact fin _ _ _ _ _
 by_cases k5:k=5
 .subst k5
  have eW:ie w x0 ⟨5,a,b,c,s,op,d,o,lv⟩=none:=by unfold ie;rw [if_pos aR];rfl
  have eD:wD w x0 ⟨5,a,b,c,s,op,d,o,lv⟩=wV w ⟨5,a,b,c,s,op,d,o,lv⟩:=by unfold wD;rw [if_pos aR,if_neg (show ¬(5:Int)=3 by decide),if_neg (show ¬(5:Int)=6 by decide)]
  have eG:wG w x0 ⟨5,a,b,c,s,op,d,o,lv⟩=false:=by unfold wG;rw [if_pos aR,if_neg (show ¬(5:Int)=6 by decide),if_neg (show ¬(5:Int)=8 by decide)]
  have eB:wB w x0 ⟨5,a,b,c,s,op,d,o,lv⟩=B:=by unfold wB;rw [eW];exact ym
  have eR:wR w x0 ⟨5,a,b,c,s,op,d,o,lv⟩=R.set x0 ⟨true,a / 64#64⟩:=by unfold wR;rw [if_pos aR,if_pos rfl,Bt,aO]
  rw [eD,eG,eB,eR,zz]
  generalize wV w ⟨5,a,b,c,s,op,d,o,lv⟩=V at *
  have l8:=ls R ⟨true,a / 64#64⟩ hR
  simp only [go_sem,seval,lS R hR,oS,tS R hR,dT R hR,yL,qt,task,qU,a0,a1,a5,a6,a7,a8,my,sE,h1,h2,zS,zA,gt,vs,lT R hR,lT _ l8,tT _ l8,oT,wS R _ hR l8,lS _ l8,tS _ l8]
  exact cV (yz _ V false true H aD) (aB _ _) hH (aC _)
 by_cases k6:k=6
 .subst k6
  have eD:wD w x0 ⟨6,a,b,c,s,op,d,o,lv⟩=0#64:=by unfold wD;rw [if_pos aR,if_neg (show ¬(6:Int)=3 by decide),if_pos rfl]
  have eG:wG w x0 ⟨6,a,b,c,s,op,d,o,lv⟩=yn w x0 ⟨6,a,b,c,s,op,d,o,lv⟩:=by unfold wG;rw [if_pos aR,if_pos rfl]
  have xD:yn w x0 ⟨6,a,b,c,s,op,d,o,lv⟩=(lv && (y.is && decide (y.ln=a / 64#64))):=by unfold yn;simp only [aO,Bt,gy]
  rw [eD,eG]
  cases Oc:yn w x0 ⟨6,a,b,c,s,op,d,o,lv⟩
  .have eW:ie w x0 ⟨6,a,b,c,s,op,d,o,lv⟩=none:=by unfold ie;rw [if_pos aR,if_neg (show ¬(6:Int)=3 by decide),if_neg (show ¬(6:Int)=4 by decide),if_pos rfl,Oc];rfl
   have eB:wB w x0 ⟨6,a,b,c,s,op,d,o,lv⟩=B:=by unfold wB;rw [eW];exact ym
   have eR:wR w x0 ⟨6,a,b,c,s,op,d,o,lv⟩=R.set x0 z0:=by unfold wR nI;rw [if_pos aR,if_neg (show ¬(6:Int)=5 by decide),if_pos rfl,eW,Bt,aO]
   rw [eB,eR,zz]
   rw [Oc] at xD
   obtain ⟨qq,vc⟩:=vc R hR
   have l8:=ls R z0 hR
   cases lv
   .simp only [go_sem,seval,lS R hR,oS,tS R hR,dT R hR,yL,qt,task,qU,a0,a1,a5,a6,a7,a8,my,sE,h1,h2,zS,zA,gt,vc,lT R hR,lT _ l8,tT _ l8,oT,wS R _ hR l8,lS _ l8,tS _ l8]
    exact cV (yz _ 0#64 false true H aD) (aB _ _) hH (aC _)
   .rw [gv] at xD
    cases hyi:y.is
    .rw [hyi] at d0
     simp only [go_sem,seval,lS R hR,oS,tS R hR,dT R hR,yL,qt,task,qU,a0,a1,a5,a6,a7,a8,my,sE,h1,h2,zS,zA,gt,vc,lT R hR,lT _ l8,tT _ l8,oT,wS R _ hR l8,lS _ l8,tS _ l8,xI,Qp,d0,d2,d3,aO]
     exact cV (yz _ 0#64 false true H aD) (aB _ _) hH (aC _)
    .rw [hyi] at d0 xD
     rw [gv] at xD
     have xD:=of_decide_eq_false xD.symm
     simp only [go_sem,seval,lS R hR,oS,tS R hR,dT R hR,yL,qt,task,qU,a0,a1,a5,a6,a7,a8,my,sE,h1,h2,zS,zA,gt,vc,lT R hR,lT _ l8,tT _ l8,oT,wS R _ hR l8,lS _ l8,tS _ l8,xI,Qp,d0,d1,d2,d3,xD,aO]
     exact cV (yz _ 0#64 false true H aD) (aB _ _) hH (aC _)
  .have eW:ie w x0 ⟨6,a,b,c,s,op,d,o,lv⟩=some (dX d (8 * s)):=by unfold ie;rw [if_pos aR,if_neg (show ¬(6:Int)=3 by decide),if_neg (show ¬(6:Int)=4 by decide),if_pos rfl,Oc];rfl
   have eB:wB w x0 ⟨6,a,b,c,s,op,d,o,lv⟩=kv B a b c s d:=by unfold wB;rw [eW,ym];exact aoU hm
   have eR:wR w x0 ⟨6,a,b,c,s,op,d,o,lv⟩=(fv R (fI a b c s) x0 8).set x0 z0:=by unfold wR nI;rw [if_pos aR,if_neg (show ¬(6:Int)=5 by decide),if_pos rfl,eW,Bt,aO]
   rw [eB,eR]
   rw [Oc] at xD
   have xD:=xD.symm
   simp only [aQ,decide_eq_true_eq] at xD
   obtain ⟨rfl,e1,e2⟩:=xD
   rw [e1] at d0
   have e2:=eq_true e2
   obtain ⟨qq,vc⟩:=vc _ kl
   have l8:=ls _ z0 kl
   have dZ:(S R).drop 21=[]:=kE (by rw [lS R hR];exact aC _)
   simp only [go_sem,seval,lS R hR,oS,tS R hR,dT R hR,yL,qt,task,qU,a0,a1,a5,a6,a7,a8,my,sE,h1,h2,zS,zA,gt,dZ,kD,pu,gX,NN,sX,Pr,vc,lT _ kl,lT _ l8,tT _ l8,oT,dT _ kl,wS _ _ kl l8,lS _ kl,tS _ kl,lS _ l8,tS _ l8,xI,Qp,d0,d1,d2,d3,e2,aO]
   exact fin _ _ _ _ _
 by_cases k8:k=8
 .subst k8
  have eD:wD w x0 ⟨8,a,b,c,s,op,d,o,lv⟩=wV w ⟨8,a,b,c,s,op,d,o,lv⟩:=by unfold wD;rw [if_pos aR,if_neg (show ¬(8:Int)=3 by decide),if_neg (show ¬(8:Int)=6 by decide)]
  have eG:wG w x0 ⟨8,a,b,c,s,op,d,o,lv⟩=decide (wV w ⟨8,a,b,c,s,op,d,o,lv⟩=o):=by unfold wG;rw [if_pos aR,if_neg (show ¬(8:Int)=6 by decide),if_pos rfl]
  rw [eD,eG]
  by_cases hv:wV w ⟨8,a,b,c,s,op,d,o,lv⟩=o
  .have eW:ie w x0 ⟨8,a,b,c,s,op,d,o,lv⟩=some d:=by unfold ie;rw [if_pos aR,if_neg (show ¬(8:Int)=3 by decide),if_neg (show ¬(8:Int)=4 by decide),if_neg (show ¬(8:Int)=6 by decide),if_pos rfl,if_pos hv]
   have eB:wB w x0 ⟨8,a,b,c,s,op,d,o,lv⟩=kv B a b c s d:=by unfold wB;rw [eW,ym]
   have eR:wR w x0 ⟨8,a,b,c,s,op,d,o,lv⟩=fv R (fI a b c s) x0 8:=by unfold wR nI;rw [if_pos aR,if_neg (show ¬(8:Int)=5 by decide),if_neg (show ¬(8:Int)=6 by decide),eW,Bt]
   rw [eB,eR]
   generalize wV w ⟨8,a,b,c,s,op,d,o,lv⟩=V at *
   have vu:=eq_true hv
   simp only [go_sem,seval,lS R hR,oS,tS R hR,dT R hR,yL,qt,task,qU,a0,a1,a5,a6,a7,a8,my,sE,h1,h2,zS,zA,gt,vu,pu,gX,NN,sX,Pr,lS _ kl,tS _ kl]
   exact fin _ _ _ _ _
  .have eW:ie w x0 ⟨8,a,b,c,s,op,d,o,lv⟩=none:=by unfold ie;rw [if_pos aR,if_neg (show ¬(8:Int)=3 by decide),if_neg (show ¬(8:Int)=4 by decide),if_neg (show ¬(8:Int)=6 by decide),if_pos rfl,if_neg hv]
   have eB:wB w x0 ⟨8,a,b,c,s,op,d,o,lv⟩=B:=by unfold wB;rw [eW];exact ym
   have eR:wR w x0 ⟨8,a,b,c,s,op,d,o,lv⟩=R:=by unfold wR nI;rw [if_pos aR,if_neg (show ¬(8:Int)=5 by decide),if_neg (show ¬(8:Int)=6 by decide),eW];exact Bt
   rw [eB,eR,zz]
   generalize wV w ⟨8,a,b,c,s,op,d,o,lv⟩=V at *
   have vu:=eq_false hv
   simp only [go_sem,seval,lS R hR,oS,tS R hR,dT R hR,yL,qt,task,qU,a0,a1,a5,a6,a7,a8,my,sE,h1,h2,zS,zA,gt,vu]
   exact cV (yz _ V false true H aD) (aB _ _) hH (aC _)
 have eW:ie w x0 ⟨k,a,b,c,s,op,d,o,lv⟩=none:=by unfold ie;rw [if_pos aR,if_neg k3,if_neg k4,if_neg k6,if_neg k8]
 have eD:wD w x0 ⟨k,a,b,c,s,op,d,o,lv⟩=wV w ⟨k,a,b,c,s,op,d,o,lv⟩:=by unfold wD;rw [if_pos aR,if_neg k3,if_neg k6]
 have eG:wG w x0 ⟨k,a,b,c,s,op,d,o,lv⟩=false:=by unfold wG;rw [if_pos aR,if_neg k6,if_neg k8]
 have eB:wB w x0 ⟨k,a,b,c,s,op,d,o,lv⟩=B:=by unfold wB;rw [eW];exact ym
 have eR:wR w x0 ⟨k,a,b,c,s,op,d,o,lv⟩=R:=by unfold wR nI;rw [if_pos aR,if_neg k5,if_neg k6,eW];exact Bt
 rw [eD,eG,eB,eR,zz]
 generalize wV w ⟨k,a,b,c,s,op,d,o,lv⟩=V at *
 simp only [go_sem,seval,lS R hR,oS,tS R hR,dT R hR,yL,qt,task,qU,a0,a1,a5,a6,a7,a8,my,sE,h1,h2,zS,zA,gt,k3,k4,k5,k6,k8]
 exact cV (yz _ V false true H aD) (aB _ _) hH (aC _)
end
theorem OE{A M C:List Sc}{i n:Nat}(h:i+n<=M.length):((A++(M++C)).drop (A.length+i)).take n=(M.drop i).take n:=by rw[BA,MA ω,jV,s9,Jf ω,CF (by rw[ui];omega)]
theorem abk{A M C:List Sc}{i:Nat}(h:i<M.length):(A++(M++C)).getD (A.length+i) .any=M.getD i .any:=by rw[b9,rV ω,s9,sY h,<-b9]
theorem abl{A M C q:List Sc}{i n:Nat}(h:i+n<=M.length):(A++(M++C)).take (A.length+i)++(q++(A++(M++C)).drop (A.length+i+n))=A++((M.take i++q++M.drop (i+n))++C):=by
 have e1:(A++(M++C)).take (A.length+i)=A++M.take i:=by rw[List.take_append,bR ω,s9,CF ω]
 have e2:(A++(M++C)).drop (A.length+i+n)=M.drop (i+n)++C:=by rw[mH,BA,MA ω,jV,s9,Jf ω]
 rw[e1,e2];simp only[fo]
def FA(o:ae)(off:Nat):Option (Int×List Row):=match o with|.own cs=>Ce (.own ((cs.drop off).take 321))|_=>none
variable {B:List Row}{C:List Sc}
theorem Ua{A:List Sc}(h:B.length=8):FA (.own (A++(aG n B++C))) A.length=some (n,B):=by
 unfold FA;have:=OE (A:=A) (M:=aG n B) (C:=C) (i:=0) (n:=321) (by rw[kh n h];exact aC _);rw[rj]at this;simp only[this,xg];rw[bR (by rw[kh n h];exact aC _)];exact za h
theorem T9{o:ae}{off:Nat}(h:FA o off=some (n,B)):∃A C,o=.own (A++(aG n B++C))/\off=A.length/\B.length=8:=by
 unfold FA at h;split at h
 .rename_i cs;obtain⟨e,hB⟩:=T8 h;simp only[ae.own.injEq]at e;have l:=kh n hB;rw[<-e,rW,ui]at l;refine⟨cs.take off,cs.drop (off+321),?_,by rw[rW];omega,hB⟩;rw[<-e,<-uX,GA,GA]
 .simp at h
section
def IC(args:List AV)(H:AH):Option AV:=match args with
 |[.c (.p id off 0),.c (.i h)]=>match FA (hg H id) off with
   |some (n,_)=>some (.c (.b (fV n h)))|none=>none
 |_=>none
theorem aw1{id:Nat}{h n:Int}{B:List Row}{A C:List Sc}{H:AH}(e:hg H id=.own (A++(aG n B++C)))(hB:B.length=8):IC [.c (.p id A.length 0),.c (.i h)] H=some (.c (.b (fV n h))):=by simp only[IC,e,Ua hB]
theorem arU:aZ Tryz.prog 73 (λargs H=>(IC args H).map λv=>(v,H)):=by
 refine iR (s:=IC) tn Tryz.func73 rfl Tryz.results73 Tryz.ntmps73 ?_;intro args H v h bM hH;unfold IC at h;split at h
 .rename_i id off h';split at h
  .rename_i n B hm;simp only[ar]at h;subst h;obtain⟨A,C,e,rfl,hB⟩:=T9 hm;refine⟨by simp,rfl,?_⟩;have l:=kh n hB;have b0:A.length+1<=(A++(aG n B++C)).length:=by simp only[cF,l];omega
   have g0:(A++(aG n B++C)).getD A.length .any=.i n:=by
    have:=abk (A:=A) (M:=aG n B) (C:=C) (i:=0) (by rw[l];decide);rw[rj]at this;rw[this];rfl
   generalize A++(aG n B++C)=cs at*;by_cases h1:0<=h';all_goals simp only[go_sem,seval,e,b0,g0,fV,h1]
   all_goals exact aE _
  .simp at h
 .simp at h
def F2(args:List AV)(H:AH):Option AV:=match args with
 |[.c (.p id off 0),.c (.i cf),.g [.i k,.u _,.u _,.i _,.i _,.i _,.u _,.u _,.b _,.i h,.b rs,.b _,.b _,.u _,.i i,.i _,.u _,.i _,.u _]]=>match FA (hg H id) off with
   |some (n,_)=>some (.c (.b (fh n cf k h rs i)))|none=>none
 |_=>none
theorem ad7{id:Nat}{n cf k h i c z o e1 e3:Int}{ad nx da ol va e2 e4:BitVec 64}{li rs rv ra:Bool}{B:List Row}{A C:List Sc}{H:AH}(e:hg H id=.own (A++(aG n B++C)))(hB:B.length=8):F2 [.c (.p id A.length 0),.c (.i cf),.g [.i k,.u ad,.u nx,.i c,.i z,.i o,.u da,.u ol,.b li,.i h,.b rs,.b rv,.b ra,.u va,.i i,.i e1,.u e2,.i e3,.u e4]] H=some (.c (.b (fh n cf k h rs i))):=by simp only[F2,e,Ua hB]
theorem ab0:aZ Tryz.prog 32 (λargs H=>(F2 args H).map λv=>(v,H)):=by
 refine iR (s:=F2) (tq arU tn) Tryz.func32 rfl Tryz.results32 Tryz.ntmps32 ?_;intro args H v h bM hH;unfold F2 at h;split at h
 .rename_i id off cf k ad nx c z o da ol li h' rs rv ra va i e1 e2 e3 e4;split at h
  .rename_i n B hm;simp only[ar]at h;subst h;obtain⟨A,C,e,rfl,hB⟩:=T9 hm;have aD:id<H.length:=dU (by rw[e];rfl);have q:∀X x,IC [.c (.p id A.length 0),.c (.i x)] (H++X)=some (.c (.b (fV n x))):=λX x=>aw1 (by rw[cL aD];exact e) hB;refine⟨by simp,rfl,?_⟩;cases h0:fV n cf
   .simp only[go_sem,seval,q,h0,fh];exact aB _ _
   by_cases k1:k=12
   .simp only[go_sem,seval,q,h0,fh,k1];exact aB _ _
   by_cases k2:k=13
   .cases rs
    .simp only[go_sem,seval,q,h0,fh,k1,k2];exact aB _ _
    by_cases i1:i<0
    .simp only[go_sem,seval,q,h0,fh,k1,k2,i1];exact aB _ _
    by_cases i2:65535<i
    .simp only[go_sem,seval,q,h0,fh,k1,k2,i1,i2];exact aB _ _
    cases h1:fV n h';all_goals simp only[go_sem,seval,q,h0,fh,k1,k2,i1,i2,h1]
    all_goals exact aB _ _
   by_cases k3:k=14
   .cases h1:fV n h';all_goals simp only[go_sem,seval,q,h0,fh,k1,k2,k3,h1]
    all_goals exact aB _ _
   .simp only[go_sem,seval,q,h0,fh,k1,k2,k3];exact aB _ _
  .simp at h
 .simp at h
def DM(args:List AV)(H:AH):Option (AV×AH):=match args with
 |[.c (.p id off 0),.c (.i cf),.g [.i k,.u _,.u _,.i _,.i _,.i _,.u _,.u _,.b _,.i h,.b rs,.b rv,.b ra,.u va,.i i,.i _,.u _,.i _,.u _]]=>match FA (hg H id) off with
   |some (n,B)=>if n<=8 then some (.t [.g (ou n B cf k h ⟨rs,rv,ra,va,i⟩),.c (.b (fh n cf k h rs i))],H.set id (.own ((hg H id).cells.take off++(aG n (nh n B cf k h ⟨rs,rv,ra,va,i⟩)++(hg H id).cells.drop (off+321)))))else none|none=>none
 |_=>none
theorem abm{A:List Sc}(hB:B.length=8):(A++(aG n B++C)).take A.length=A/\(A++(aG n B++C)).drop (A.length+321)=C:=by
 refine⟨qe rfl,?_⟩;rw[<-fo];exact xf (by rw[cF,kh n hB])
theorem awZ{id:Nat}{n cf k h i c z o e1 e3:Int}{ad nx da ol va e2 e4:BitVec 64}{li rs rv ra:Bool}{B:List Row}{A C:List Sc}{H:AH}(e:hg H id=.own (A++(aG n B++C)))(hB:B.length=8)(hn:n<=8):DM [.c (.p id A.length 0),.c (.i cf),.g [.i k,.u ad,.u nx,.i c,.i z,.i o,.u da,.u ol,.b li,.i h,.b rs,.b rv,.b ra,.u va,.i i,.i e1,.u e2,.i e3,.u e4]] H=some (.t [.g (ou n B cf k h ⟨rs,rv,ra,va,i⟩),.c (.b (fh n cf k h rs i))],H.set id (.own (A++(aG n (nh n B cf k h ⟨rs,rv,ra,va,i⟩)++C)))):=by
 obtain⟨q1,q2⟩:=abm (n:=n) (A:=A) (C:=C) hB;simp only[DM,e,Ua hB,hn,if_true,ae.cells,q1,q2]
theorem aoi(args:List AV)(H:AH)(v:AV)(H1:AH)(h:DM args H=some (v,H1)):H.length<=H1.length:=by
 unfold DM at h;repeat' split at h
 all_goals simp at h
 rw[<-h.2];simp
theorem arS:aZ Tryz.prog 40 DM:=by
 refine fU (s:=DM) (tq ab0 (tu arV tn)) Tryz.func40 rfl Tryz.results40 Tryz.ntmps40 aoi ?_;intro args H v H1 h bM hH;unfold DM at h;split at h
 .rename_i id off cf k ad nx c z o da ol li h' rs rv ra va i e1 e2 e3 e4;split at h
  .rename_i n B hm;split at h
   .rename_i hn;simp only[ar,bD]at h;obtain⟨rfl,rfl⟩:=h;obtain⟨A,C,e,rfl,hB⟩:=T9 hm;obtain⟨q1,q2⟩:=abm (n:=n) (A:=A) (C:=C) hB;rw[e];simp only[ae.cells,q1,q2];clear q1 q2;have aD:id<H.length:=dU (by rw[e];rfl);have q:∀X,F2 [.c (.p id A.length 0),.c (.i cf),.g [.i k,.u ad,.u nx,.i c,.i z,.i o,.u da,.u ol,.b li,.i h',.b rs,.b rv,.b ra,.u va,.i i,.i e1,.u e2,.i e3,.u e4]] (H++X)=some (.c (.b (fh n cf k h' rs i))):=λX=>ad7 (by rw[cL aD];exact e) hB;have gx:∀X,hg (H++X) id=.own (A++(aG n B++C)):=λX=>by rw[cL aD];exact e
    have sx:∀X o,(H++X).set id o=H.set id o++X:=λX o=>lN _ _ aD;have bx:∀B',dk (H.set id (.own (A++(aG n B'++C))))=true:=λB'=>by
     have ba:=BM hH id;rw[e]at ba;simp only[ae.cT,ae.cells,fH,aQ]at ba;refine Rn hH ?_;show(A++(aG n B'++C)).all (Sc.aj H.length)=true;rw[fH,fH,ba.1,ba.2.2,Fz];rfl
    have l0:=kh n hB;have lx:(A++(aG n B++C)).length=A.length+321+C.length:=by simp only[cF,l0];omega
    refine⟨by simp,?_⟩;have fin:∀(v:AV)(B':List Row)(X:AH),v.aj H.length=true->Wk H.length [(0,v)] (H.set id (.own (A++(aG n B'++C)))++X) ([(0,v)],H.set id (.own (A++(aG n B'++C)))):=λv B' X hv=>Wk.wk (by simp) (by simp[Am.get]) (by simp only[bG,dO,cX,js];exact hv) (aB _ _) (bx B');have vb:(AV.t [.g (ou n B cf k h' ⟨rs,rv,ra,va,i⟩),.c (.b (fh n cf k h' rs i))]).aj H.length=true:=by simp only[AV.aj,bG,dO,cX,akI,Sc.aj]
    cases kK:fh n cf k h' rs i
    .have r1:ou n B cf k h' ⟨rs,rv,ra,va,i⟩=fD 0#64 false ju:=by unfold ou;rw[if_neg (by simp[kK])]
     have r2:nh n B cf k h' ⟨rs,rv,ra,va,i⟩=B:=by unfold nh;rw[if_neg (by simp[kK])]
     rw[kK]at vb;have hs:H.set id (.own (A++(aG n B++C)))=H:=ua e aD;rw[r1]at vb|-;rw[r2];simp only[go_sem,seval,q,kK];refine⟨_,rfl,?_⟩;have:=fin _ B [.own [.i k,.u ad,.u nx,.i c,.i z,.i o,.u da,.u ol,.b li,.i h',.b rs,.b rv,.b ra,.u va,.i i,.i e1,.u e2,.i e3,.u e4],.own (fD 0#64 false ju)] vb;rw[hs]at this|-;exact this
    .obtain⟨m1,m2⟩:=T6 kK;simp only[fV,aQ,decide_eq_true_eq]at m1;obtain⟨f,rfl⟩:=kV m1.1;have hf:f<8:=ω
     have sn:∀X,hg (H.set id (.own (A++(aG n B++C)))++X) id=.own (A++(aG n B++C)):=λX=>by rw[ua e aD];exact gx X
     rw[kK]at vb;have nf:(0:Int)<=(f:Int):=ω
     have Ch:(f:Int)<8:=ω
     have Ue:A.length+1+f*40+40<=A.length+321+C.length:=ω
     rcases m2 with Fk|⟨Fl|Kt,m3⟩
     .obtain⟨r,hr⟩:∃r,B[f]?=some r:=⟨_,cM ω⟩;have r1:ou n B f k h' ⟨rs,rv,ra,va,i⟩=fD 0#64 false r:=by unfold ou rowAt;rw[if_pos (by simp only[kK]),if_neg ω,if_pos Fk,aO,hr];rfl
      have r2:nh n B f k h' ⟨rs,rv,ra,va,i⟩=B.set f ju:=by unfold nh;rw[if_pos (by simp only[kK]),if_neg ω,if_pos Fk,aO]
      rw[r1]at vb|-;rw[r2];have g1:=avb (n:=n) hB hf hr;rw[<-OE (A:=A) (C:=C) (by rw[l0];omega)]at g1;have g2:(A++(aG n B++C)).take (A.length+(1+f*40))++(jC ju++(A++(aG n B++C)).drop (A.length+(1+f*40)+40))=A++(aG n (B.set f ju)++C):=by rw[abl (by rw[l0];omega),avc (n:=n) hB hf ju]
      simp only[<-mH]at g1 g2;rw[Vj]at g2;simp only[fo,kX,jV]at g2;have g3:=tY r;have g4:=Pe r;have g5:(jC r).take 40=jC r:=bR ω;subst Fk;simp only[go_sem,seval,q,kK,gx,sx,lx,nf,Ch,Ue,g1,g2,g3,g4,g5,hgS,stS];refine⟨_,rfl,?_⟩;exact fin _ (B.set f ju) _ vb
     .simp only[fV,aQ,decide_eq_true_eq]at m3;obtain⟨g,rfl⟩:=kV m3.1;have yT:g<8:=ω
      have r1:ou n B f k g ⟨rs,rv,ra,va,i⟩=fD 0#64 false ju:=by unfold ou;rw[if_pos (by simp only[kK]),if_pos Fl]
      have r2:nh n B f k g ⟨rs,rv,ra,va,i⟩=vE B g f (kO (fk B g f) ⟨rs,rv,ra,va,i⟩):=by unfold nh;rw[if_pos (by simp only[kK]),if_pos Fl,aO,aO]
      rw[r1]at vb|-;rw[r2];have g1:=Gc (n:=n) hB yT hf;rw[<-OE (A:=A) (C:=C) (by rw[l0];omega)]at g1;have g2:(A++(aG n B++C)).take (A.length+(1+g*40+f*5))++(fA (kO (fk B g f) ⟨rs,rv,ra,va,i⟩)++(A++(aG n B++C)).drop (A.length+(1+g*40+f*5)+5))=A++(aG n (vE B g f (kO (fk B g f) ⟨rs,rv,ra,va,i⟩))++C):=by rw[abl (by rw[l0];omega),WY (n:=n) hB yT hf (kO (fk B g f) ⟨rs,rv,ra,va,i⟩)]
      simp only[<-mH]at g1 g2;have ng:(0:Int)<=(g:Int):=ω
      have FC:(g:Int)<8:=ω
      have Ci:A.length+1+g*40+f*5+5<=A.length+321+C.length:=ω
      generalize Hx:fk B g f=sl at g1 g2;obtain⟨os,ov,od,oa,oi⟩:=sl;have es:fA ⟨os,ov,od,oa,oi⟩=[.b os,.b ov,.b od,.u oa,.i oi]:=rfl;rw[es]at g1;have g6:∀m,(fA m).all Sc.one=true:=λm=>rfl;subst Fl;simp only[go_sem,seval,q,kK,gx,sx,lx,nf,Ch,Ue,ng,FC,Ci,g1,g2,g6,vf,hgS,stS,aw2];refine⟨?_,?_⟩
      .repeat' apply cn
       all_goals first|decide|(exact λ_=>δ)|(intro hx;exfalso;omega)|exact λhx=>hx.2.elim
      refine⟨_,rfl,?_⟩;exact fin _ _ _ vb
     .simp only[fV,aQ,decide_eq_true_eq]at m3;obtain⟨g,rfl⟩:=kV m3.1;have yT:g<8:=ω
      have r1:ou n B f k g ⟨rs,rv,ra,va,i⟩=fD 0#64 (vh (fk B g f) oP) ju:=by unfold ou;rw[if_pos (by simp only[kK]),if_neg ω,if_neg ω,aO,aO]
      have r2:nh n B f k g ⟨rs,rv,ra,va,i⟩=B:=by unfold nh;rw[if_pos (by simp only[kK]),if_neg ω,if_neg ω]
      have hs:H.set id (.own (A++(aG n B++C)))=H:=ua e aD;rw[r1]at vb|-;rw[r2,hs];have g1:=Gc (n:=n) hB yT hf;rw[<-OE (A:=A) (C:=C) (by rw[l0];omega)]at g1;simp only[<-mH]at g1;have ng:(0:Int)<=(g:Int):=ω
      have FC:(g:Int)<8:=ω
      have Ci:A.length+1+g*40+f*5+5<=A.length+321+C.length:=ω
      generalize Hx:fk B g f=sl at g1 vb|-;obtain⟨os,ov,od,oa,oi⟩:=sl;have es:fA ⟨os,ov,od,oa,oi⟩=[.b os,.b ov,.b od,.u oa,.i oi]:=rfl;rw[es]at g1;subst Kt;simp only[go_sem,seval,q,kK,gx,sx,lx,nf,Ch,Ue,ng,FC,Ci,g1];refine⟨?_,?_⟩
      .repeat' apply cn
       all_goals first|decide|(exact λ_=>δ)|(intro hx;exfalso;omega)|exact λhx=>hx.2.elim
      have:=fin _ B [.own [.i 14,.u ad,.u nx,.i c,.i z,.i o,.u da,.u ol,.b li,.i g,.b rs,.b rv,.b ra,.u va,.i i,.i e1,.u e2,.i e3,.u e4],.own (fD 0#64 (vh ⟨os,ov,od,oa,oi⟩ oP) ju),.own (fD 0#64 (vh ⟨os,ov,od,oa,oi⟩ oP) ju)] vb;rw[hs]at this;exact⟨_,rfl,this⟩
   .simp at h
  .simp at h
 .simp at h
end
structure Wa where
 k:Int
 a:BitVec 64
 b:BitVec 64
 c:Int
 s:Int
 op:Int
 d:BitVec 64
 o:BitVec 64
 lv:Bool
 h:Int
 rs:Bool
 rv:Bool
 rd:Bool
 va:BitVec 64
 i:Int
 e1:Int
 e2:BitVec 64
 e3:Int
 e4:BitVec 64
def Wa.r(q:Wa):List Sc:=[.i q.h,.b q.rs,.b q.rv,.b q.rd,.u q.va,.i q.i,.i q.e1,.u q.e2,.i q.e3,.u q.e4]
def Wa.K(q:Wa):Ak:=⟨q.k,q.a,q.b,q.c,q.s,q.op,q.d,q.o,q.lv⟩
def Wa.Q(q:Wa):Aq:=⟨q.k,q.a,q.b,q.c,q.s,q.op,q.d,q.o,q.lv,q.r⟩
def Wa.R(q:Wa):Rq:=⟨q.rs,q.rv,q.rd,q.va,q.i⟩
def cP(q:Wa):List Sc:=.i q.k::.u q.a::.u q.b::.i q.c::.i q.s::.i q.op::.u q.d::.u q.o::.b q.lv::q.r
variable {q:Wa}
theorem Qj:cP q=bU q.Q:=rfl
theorem Wa.ok(q:Wa):rY q.r:=⟨rfl,rfl,rfl⟩
theorem Qi{p:Wa}(h:cP p=cP q):p=q:=by
 simp only[cP,Wa.r,cK,Sc.i.injEq,Sc.u.injEq,Sc.b.injEq,and_true]at h;obtain⟨h1,h2,h3,h4,h5,h6,h7,h8,h9,g1,g2,g3,g4,g5,g6,g7,g8,g9,Hb⟩:=h;cases p;cases q;simp only at*;subst h1 h2 h3 h4 h5 h6 h7 h8 h9 g1 g2 g3 g4 g5 g6 g7 g8 g9 Hb;rfl
structure Wd where
 w:Fw
 D:Bd
 n:Int
 M:List Row
structure WI(H:AH)(x:Wd):Prop where
 w:jW H x.w
 d:BI H x.D
 mj:x.w.mj=.p x.D.id 0 0
 m:x.w.m=aG x.n x.M
 l:x.M.length=8
 n8:x.n<=8
 hb:x.D.b.n=x.w.h
 p:x.w.p≠x.D.id/\x.w.p≠x.D.pid/\aW x.D.x≠some x.w.p/\aW x.D.y≠some x.w.p
 i:x.w.id≠x.D.id/\x.w.id≠x.D.pid/\aW x.D.x≠some x.w.id/\aW x.D.y≠some x.w.id
variable {x:Wd}
section
variable {H:AH}
theorem WI.app(h:WI H x)(X:AH):WI (H++X) x:=⟨h.w.app X,h.d.app X,h.mj,h.m,h.l,h.n8,h.hb,h.p,h.i⟩
def EM(x:Wd):List Sc:=.i x.w.h::.i x.w.t::.i x.w.n::.i x.w.b::.sl x.w.id 0 x.w.B.length x.w.B.length::(iG x.w.R++[.p x.D.id 0 0])
theorem aag(h:WI H x):eE x.w x.w.R=EM x++(aG x.n x.M++[]):=by
 unfold eE oQ EM;rw[h.mj,h.m];simp
theorem aaf(h:WI H x):(EM x).length=22:=by
 unfold EM;simp only[cF,cZ,dY,zF h.w.l]
theorem EO(h:WI H x):(eE x.w x.w.R).getD 21 .any=.p x.D.id 0 0:=by
 unfold eE oQ;rw[h.mj,b9];show((iG x.w.R++Sc.p x.D.id 0 0::x.w.m)[16]?).getD .any=_;rw[rV (by rw[zF h.w.l];exact aC _),zF h.w.l];rfl
theorem WI.uniq{y:Wd}(h:WI H x)(g:WI H y)(hp:x.w.p=y.w.p):x=y:=by
 have hw:=h.w.uniq g.w hp;have hb:=h.mj;rw[hw,g.mj]at hb;simp only[Sc.p.injEq,and_true]at hb;have hD:=h.d.uniq g.d hb.symm;have hm:=h.m;rw[hw,g.m]at hm;have e1:=za (n:=x.n) h.l;rw[<-hm,za g.l]at e1;simp only[ar,bD]at e1;cases x;cases y;simp only at*;obtain⟨e1,e2⟩:=e1;subst hw hD e1 e2;rfl
def fB(x:Wd)(h:Int)(q:Wa):Bool:=if q.k<1 then false else if q.k<=8 then iQ x.w h q.K else if q.k=12\/q.k=13\/q.k=14 then fh x.n h q.k q.h q.rs q.i else if q.k=15\/q.k=16\/q.k=17 then true else j9 x.D.b.n q.Q&&(!decide (q.k=11)||(decide (0<=h)&&decide (h<x.w.h)))
def ac1(args:List AV)(H:AH)(v:AV):Prop:=∀x h q,args=[.c (.p x.w.p 0 0),.c (.i h),.g (cP q)]->WI H x->v=.c (.b (fB x h q))
def Ir:List AV->AH->Option AV:=lg Tryz.prog [(27,.pu Lq),(28,.fq DJ),(29,.pu LA),(30,.fq Iu),(31,.fq Cv),(32,.fq F2)] 9 ac1
theorem abU:aZ Tryz.prog 9 (λargs H=>(Ir args H).map λv=>(v,H)):=nn (tu Uw (tq Ux (tu arC (tq Uy (tq abP (tq ab0 tn)))))) Tryz.func9 rfl Tryz.results9 Tryz.ntmps9
theorem ad1(hI:WI H x):Ir [.c (.p x.w.p 0 0),.c (.i h),.g (cP q)] H=some (.c (.b (fB x h q))):=by
 have:∃v,Ir [.c (.p x.w.p 0 0),.c (.i h),.g (cP q)] H=some v/\ac1 [.c (.p x.w.p 0 0),.c (.i h),.g (cP q)] H v:=by
  unfold Ir;apply mu (v:=.c (.b (fB x h q))) Tryz.func9 rfl Tryz.results9 Tryz.ntmps9 (by simp)
  .exact λ_ _=>rfl
  .intro _ _;obtain⟨lr,pr,ro⟩:=q.ok;have ht:=λX=>VK (hI.w.app X) (h:=h);have wc:cP q=.i q.k::.u q.a::.u q.b::.i q.c::.i q.s::.i q.op::.u q.d::.u q.o::.b q.lv::q.r:=rfl;have rt:q.r.take 10=q.r:=rfl;have ge:=Im (k:=q.k);by_cases k1:q.k<1
   .have g0:fa q.k=0:=by unfold fa;rw[if_pos k1]
    have e:fB x h q=false:=by unfold fB;rw[if_pos k1]
    rw[g0]at ge;rw[e];simp only[go_sem,seval,wc,lr,ro,rt,ge];exact aB _ _
   by_cases k8:q.k<=8
   .have g1:fa q.k=1:=by unfold fa;rw[if_neg k1,if_pos k8]
    rw[g1]at ge;have e:fB x h q=iQ x.w h q.K:=by unfold fB;rw[if_neg k1,if_pos k8]
    rw[e];have sh:LA [.g (cP q)]=some (.c (.b (mL q.k q.a q.c q.s q.op))):=by rw[wc,awT,if_pos ⟨lr,pr,ro⟩]
    rw[wc]at sh;obtain⟨y,hy⟩:∃y:Bool,y=(decide (0<=h)&&decide (h<x.w.h)):=⟨_,rfl⟩;rw[<-hy]at ht;cases y with
 |false=>
 have e:iQ x.w h q.K=false:=by unfold iQ;rw[<-hy];simp
 rw[e];simp only[go_sem,seval,wc,lr,ro,rt,ge,ht];exact aB _ _|true=>cases hf:mL q.k q.a q.c q.s q.op with
 |false=>
        have e:iQ x.w h q.K=false:=by unfold iQ;show(mL q.k q.a q.c q.s q.op&&_)=false;rw[hf];rfl
        rw[e];rw[hf]at sh;simp only[go_sem,seval,wc,lr,ro,rt,ge,ht,sh];exact aB _ _|true=>
        have e:iQ x.w h q.K=jF x.w.B.length q.a q.b q.c q.s:=by
         unfold iQ;show(mL q.k q.a q.c q.s q.op&&(jF x.w.B.length q.a q.b q.c q.s&&(decide (0<=h)&&decide (h<x.w.h))))=_;rw[hf,<-hy];simp
        rw[e];rw[hf]at sh;have hm:=Dm (b:=q.b) hf;simp only[dL,decide_eq_true_eq]at hm;have Dd:(Sc.i q.op::.u q.d::.u q.o::.b q.lv::q.r).length=14:=rfl;have FF:(Sc.i q.op::.u q.d::.u q.o::.b q.lv::q.r).all Sc.one=true:=rfl;have pt:=λX=>VP (k:=q.k) (a:=q.a) (b:=q.b) (c:=q.c) (s:=q.s) (r:=.i q.op::.u q.d::.u q.o::.b q.lv::q.r) (hI.w.app X).R hI.w.b0 hI.w.b1 hm.2.2.1 hm.2.2.2 hm.2.1 Dd FF;obtain⟨x',y',JK,x1,y1⟩:=auL (B:=x.w.B) (id:=x.w.id) (a:=q.a) (b:=q.b) (c:=q.c) (s:=q.s);simp only[JK]at pt;simp only[AV.cells]at x1 y1;simp only[go_sem,seval,wc,lr,ro,rt,ge,ht,sh,pt,x1,y1];exact aB _ _
   by_cases k3:q.k=12\/q.k=13\/q.k=14
   .have g1:fa q.k=3:=by unfold fa;rw[if_neg k1,if_neg k8,if_neg ω,if_pos ω]
    rw[g1]at ge;have e:fB x h q=fh x.n h q.k q.h q.rs q.i:=by unfold fB;rw[if_neg k1,if_neg k8,if_pos k3]
    rw[e];have mm:=λX=>ad7 (cf:=h) (k:=q.k) (h:=q.h) (i:=q.i) (c:=q.c) (z:=q.s) (o:=q.op) (e1:=q.e1) (e3:=q.e3) (ad:=q.a) (nx:=q.b) (da:=q.d) (ol:=q.o) (va:=q.va) (e2:=q.e2) (e4:=q.e4) (li:=q.lv) (rs:=q.rs) (rv:=q.rv) (ra:=q.rd) (((hI.app X).w.o).trans (by rw[aag hI])) hI.l;rw[aaf hI]at mm;have Xr:cP q=[.i q.k,.u q.a,.u q.b,.i q.c,.i q.s,.i q.op,.u q.d,.u q.o,.b q.lv,.i q.h,.b q.rs,.b q.rv,.b q.rd,.u q.va,.i q.i,.i q.e1,.u q.e2,.i q.e3,.u q.e4]:=rfl;simp only[go_sem,seval,Xr,lr,ro,rt,ge,mm];exact aB _ _
   by_cases k4:q.k=15\/q.k=16\/q.k=17
   .have g1:fa q.k=4:=by unfold fa;rw[if_neg k1,if_neg k8,if_neg ω,if_neg ω,if_pos ω]
    rw[g1]at ge;have e:fB x h q=true:=by unfold fB;rw[if_neg k1,if_neg k8,if_neg k3,if_pos k4]
    rw[e];simp only[go_sem,seval,wc,lr,ro,rt,ge];exact aB _ _
   have e:fB x h q=(j9 x.D.b.n q.Q&&(!decide (q.k=11)||(decide (0<=h)&&decide (h<x.w.h)))):=by unfold fB;rw[if_neg k1,if_neg k8,if_neg k3,if_neg k4]
   rw[e];have bm:=λX=>adZ (hI.app X).d (q:=q.Q) q.ok;simp only[<-Qj]at bm;rw[wc]at bm;have gw:=λX=>(hI.w.app X).o;have lw:=yK (R:=x.w.R) hI.w.l hI.w.lm;have Sh:=EO hI;by_cases k20:20<q.k
   .have g0:fa q.k=0:=by unfold fa;rw[if_neg k1,if_neg k8,if_neg ω,if_neg ω,if_neg ω,if_neg ω]
    have e0:j9 x.D.b.n q.Q=false:=by
     unfold j9;rw[if_neg (show¬(q.Q.k=9\/q.Q.k=10)from(show¬(q.k=9\/q.k=10)by omega))];exact decide_eq_false (show¬(q.k=11\/q.k=18\/q.k=19\/q.k=20)by omega)
    rw[g0]at ge;rw[e0,nZ];simp only[go_sem,seval,wc,lr,ro,rt,ge];exact aB _ _
   have gg:fa q.k=2\/fa q.k=5:=by
    unfold fa;rw[if_neg k1,if_neg k8];by_cases c:q.k<=11
    .exact .inl (if_pos c)
    .rw[if_neg c,if_neg ω,if_neg ω,if_pos ω];exact .inr rfl
   obtain⟨bb,hbb⟩:∃bb,bb=j9 x.D.b.n q.Q:=⟨_,rfl⟩;rw[<-hbb]at bm|-;obtain⟨y,hy⟩:∃y:Bool,y=(decide (0<=h)&&decide (h<x.w.h)):=⟨_,rfl⟩;rw[<-hy]at ht|-;rcases Classical.propComplete (q.k=11)with Fj|Fj;all_goals rcases gg with gg|gg
   all_goals rw[gg]at ge
   all_goals cases bb
   all_goals simp only[go_sem,seval,wc,lr,ro,rt,ge,gw,lw,Sh,bm,ht,Fj]
   all_goals exact aB _ _
  .intro y h' q' he nN;simp only[cK,AV.c.injEq,AV.g.injEq,Sc.p.injEq,Sc.i.injEq,and_true]at he;obtain⟨e1,e2,e3⟩:=he;have hx:=hI.uniq nN e1;have hq:=Qi e3;subst hx hq e2;rfl
 obtain⟨v,h1,h2⟩:=this;rw[h1,h2 x h q rfl hI]
end
theorem Yp {D:Bd} {h:Int} {q:Aq}:(dj D h q).n=D.b.n:=by
 unfold dj m9 j8 og o0
 repeat' split
 all_goals rfl
def nr (k:Int):Prop:=k=12\/k=13\/k=14
def Dc (k:Int):Prop:=k=15\/k=16\/k=17
instance (k:Int):Decidable (nr k):=by unfold nr;infer_instance
instance (k:Int):Decidable (Dc k):=by unfold Dc;infer_instance
def tD (x:Wd) (h:Int) (q:Wa):List Sc :=
 if fB x h q=true then
  (if q.k<=8 then bX (wD x.w h q.K) (wG x.w h q.K) else if nr q.k then ou x.n x.M h q.k q.h q.R else if Dc q.k then bX 0#64 false else bX (eZ x.D h q.Q) false)
 else bX 0#64 false
def kr (x:Wd) (h:Int) (q:Wa):List Int:=if q.k<=8 then wB x.w h q.K else x.w.B
def kG (x:Wd) (h:Int) (q:Wa):List Sl:=if q.k<=8 then wR x.w h q.K else x.w.R
def rn (x:Wd) (h:Int) (q:Wa):List Row:=if nr q.k then nh x.n x.M h q.k q.h q.R else x.M
def flb (x:Wd) (h:Int) (q:Wa):Bs:=if 8 < q.k/\¬nr q.k/\¬Dc q.k then dj x.D h q.Q else x.D.b
def ku (x:Wd) (h:Int) (q:Wa):Pt:=if 8 < q.k/\¬nr q.k/\¬Dc q.k then dF x.D h q.Q else x.D.t
def oB (x:Wd) (h:Int) (q:Wa) (u v:Sc):Wd:=⟨{x.w with B:=kr x h q,R:=kG x h q,m:=aG x.n (rn x h q)},{x.D with b:=flb x h q,t:=ku x h q,x:=u,y:=v},x.n,rn x h q⟩
structure Er (H H1:AH) (x:Wd) (h:Int) (q:Wa) (u v:Sc):Prop where
 wi:WI H1 (oB x h q u v)
 len:H.length<=H1.length
 fF:∀k,k < H.length->k≠x.w.p->k≠x.w.id->k≠x.D.id->k≠x.D.pid->aW x.D.x≠some k->aW x.D.y≠some k->hg H1 k=hg H k
 fx:∀i,aW u=some i->aW x.D.x=some i\/H.length<=i
 fy:∀i,aW v=some i->aW x.D.y=some i\/H.length<=i
 nw:fj H H1
variable {u w:Sc}
section
variable {H:AH}
def U8 (args:List AV) (H:AH) (v:AV) (H1:AH):Prop:=∀x h q,args=[.c (.p x.w.p 0 0),.c (.i h),.g (cP q)]->WI H x->v=.t [.g (tD x h q),.c (.b (fB x h q))]/\∃u w,Er H H1 x h q u w
def zp:List AV->AH->Option (AV × AH):=uw Tryz.prog [(9,.fq Ir),(27,.pu Lq),(38,.fp DL),(39,.fp rH),(40,.fp DM)] 11 U8
theorem arj:aZ Tryz.prog 11 zp:=Ap (tq abU (tu Uw (tp arw (tp aqO (tp arS tn))))) Tryz.func11 rfl Tryz.results11 Tryz.ntmps11
theorem JN{v:AV}{H1:AH} (hI:WI H x) (h1:v=.t [.g (tD x h q),.c (.b (fB x h q))]) (h2:Er H H1 x h q u w):U8 [.c (.p x.w.p 0 0),.c (.i h),.g (cP q)] H v H1:=by
 intro y h' q' he nN
 simp only [cK,AV.c.injEq,AV.g.injEq,Sc.p.injEq,Sc.i.injEq,and_true] at he
 obtain ⟨e1,e2,e3⟩:=he
 have hx:=hI.uniq nN e1
 have hq:=Qi e3
 subst hx hq e2
 exact ⟨h1,u,w,h2⟩
theorem Er.same (hI:WI H x) (X:AH) (hX:(X.all λo=>o.live=false || o.owned)=true) (eB:kr x h q=x.w.B) (eR:kG x h q=x.w.R) (eM:rn x h q=x.M) (eb:flb x h q=x.D.b) (et:ku x h q=x.D.t):Er H (H++X) x h q x.D.x x.D.y:=by
 have e:oB x h q x.D.x x.D.y=x:=by
  unfold oB
  rw [eB,eR,eM,eb,et,<-hI.m]
 exact ⟨by rw [e];exact hI.app X,by simp,λk hk _ _ _ _ _ _=>cL hk,λ_ h=>.inl h,λ_ h=>.inl h,jr hX⟩
theorem alP (hI:WI H x) (hm:fB x h q=false):kr x h q=x.w.B/\kG x h q=x.w.R/\rn x h q=x.M/\flb x h q=x.D.b/\ku x h q=x.D.t:=by
 unfold fB at hm
 by_cases k8:q.k<=8
 .have ok:iQ x.w h q.K=false:=by
   by_cases k1:q.k < 1
   .unfold iQ
    cases hf:mL q.K.k q.K.a q.K.c q.K.s q.K.op
    .rfl
    .have:=JR hf
     unfold fa at this
     rw [if_pos (show q.K.k < 1 from k1)] at this
     omega
   .rw [if_neg k1,if_pos k8] at hm;exact hm
  have eW:ie x.w h q.K=none:=by unfold ie;rw [if_neg (by simp [ok])]
  refine ⟨?_,?_,?_,?_,?_⟩
  .unfold kr wB;rw [if_pos k8,eW]
  .unfold kG wR;rw [if_pos k8,if_neg (by simp [ok])]
  .unfold rn;rw [if_neg (show ¬nr q.k by unfold nr;omega)]
  .unfold flb;rw [if_neg ω]
  .unfold ku;rw [if_neg ω]
 rw [if_neg ω,if_neg k8] at hm
 refine ⟨by unfold kr;rw [if_neg k8],by unfold kG;rw [if_neg k8],?_,?_,?_⟩
 .unfold rn
  split
  .rename_i hk
   rw [if_pos (show q.k=12\/q.k=13\/q.k=14 from hk)] at hm
   unfold nh
   show (if fh x.n h q.k q.h q.rs q.i=true then _ else _)=_
   rw [if_neg (by simp [hm])]
  .rfl
 all_goals first | unfold flb | unfold ku
 all_goals split
 all_goals first | rfl | skip
 all_goals
  rename_i hk
  obtain ⟨_,n1,n2⟩:=hk
  rw [if_neg (show ¬(q.k=12\/q.k=13\/q.k=14) from n1),if_neg (show ¬(q.k=15\/q.k=16\/q.k=17) from n2)] at hm
  have bo:eC x.D.b.n h q.Q=false:=by
   unfold eC
   rw [hI.hb] at hm |-
   have:q.Q.k=q.k:=rfl
   rw [this]
   revert hm
   cases j9 x.w.h q.Q <;> by_cases c1:q.k=11 <;> by_cases c2:0<=h <;> by_cases c3:h < x.w.h <;> simp [c1,c2,c3] <;> omega
  first | (unfold dj;rw [if_neg (by simp [bo])]) | (unfold dF;rw [if_neg (by simp [bo])])
theorem WI.qX{B:List Int}{R:List Sl} (hI:WI H x) (hB:B.length=x.w.B.length) (hR:R.length=8):WI (fX H x.w B R) ⟨x.w.to B R,x.D,x.n,x.M⟩:=by
 refine ⟨hI.w.set hB hR,?_,hI.mj,hI.m,hI.l,hI.n8,hI.hb,hI.p,hI.i⟩
 unfold fX
 exact (hI.d.other hI.i.1 hI.i.2.1 hI.i.2.2.1 hI.i.2.2.2).other hI.p.1 hI.p.2.1 hI.p.2.2.1 hI.p.2.2.2
theorem agJ (d:BitVec 64) (g:Bool) (r:Row):(fD d g r).length=42/\(fD d g r).all Sc.one=true:=by
 refine ⟨by simp [fD,tY],?_⟩
 unfold fD
 rw [bG,bG,Pe];rfl
theorem akH (n:Int) (B:List Row) (cf k h:Int) (q:Rq):(ou n B cf k h q).length=42/\(ou n B cf k h q).all Sc.one=true:=by
 unfold ou
 repeat' split
 all_goals exact agJ _ _ _
theorem WI.Ml (hI:WI H x) (hB:B.length=8):WI (H.set x.w.p (.own (EM x++(aG x.n B++[])))) ⟨{x.w with m:=aG x.n B},x.D,x.n,B⟩:=by
 refine ⟨⟨?_,?_,hI.w.l,hI.w.b0,hI.w.b1,kh x.n hB,hI.w.hh⟩,hI.d.other hI.p.1 hI.p.2.1 hI.p.2.2.1 hI.p.2.2.2,hI.mj,rfl,hB,hI.n8,hI.hb,hI.p,hI.i⟩
 .rw [jj hI.w.lp]
  unfold eE oQ EM
  simp only
  rw [hI.mj]
  simp
 .rw [fg hI.w.ne];exact hI.w.v
theorem awG (hI:WI H x) (hf:CI x.D.t) :∃H1 u w,zp [.c (.p x.w.p 0 0),.c (.i h),.g (cP q)] H=some (.t [.g (tD x h q),.c (.b (fB x h q))],H1)/\Er H H1 x h q u w:=by
 have:∃v H1,zp [.c (.p x.w.p 0 0),.c (.i h),.g (cP q)] H=some (v,H1)/\H.length<=H1.length/\U8 [.c (.p x.w.p 0 0),.c (.i h),.g (cP q)] H v H1:=by
  obtain ⟨lr,pr,ro⟩:=q.ok
  have my:=λX=>ad1 (hI.app X) (h:=h) (q:=q)
  have wc:cP q=.i q.k::.u q.a::.u q.b::.i q.c::.i q.s::.i q.op::.u q.d::.u q.o::.b q.lv::q.r:=rfl
  have lq:(cP q).length=19:=rfl
  have tq:(cP q).take 19=cP q:=rfl
  have oq:(cP q).all Sc.one=true:=rfl
  have kq:(cP q).getD 0 .any=.i q.k:=rfl
  have ge:=Im (k:=q.k)
  have zA:(.u 0#64::.b false::dA:List Sc)=bX 0#64 false:=rfl
  cases aR:fB x h q
  .obtain ⟨e1,e2,e3,e4,e5⟩:=alP hI aR
   have ea:tD x h q=bX 0#64 false:=by unfold tD;rw [aR];rfl
   rw [aR] at my
   unfold zp
   apply ik (v:=.t [.g (bX 0#64 false),.c (.b false)]) (H1:=H++[.own (cP q),.own (bX 0#64 false)]) Tryz.func11 rfl Tryz.results11 Tryz.ntmps11 (by simp)
   .intro _ _
    generalize hW:cP q=W at *
    simp only [go_sem,seval,lq,tq,oq,my]
    exact aN
   .simp
   .exact JN hI (by rw [ea,aR]) (Er.same hI _ rfl e1 e2 e3 e4 e5)
  rw [aR] at my
  by_cases k4:Dc q.k
  .have Ku:q.k=15\/q.k=16\/q.k=17:=k4
   have n8:¬q.k<=8:=ω
   have n3:¬nr q.k:=by unfold nr;omega
   have g4:fa q.k=4:=by unfold fa;rw [if_neg ω,if_neg n8,if_neg ω,if_neg ω,if_pos ω]
   rw [g4] at ge
   have ea:tD x h q=bX 0#64 false:=by unfold tD;rw [aR,if_pos rfl,if_neg n8,if_neg n3,if_pos k4]
   unfold zp
   apply ik (v:=.t [.g (bX 0#64 false),.c (.b true)]) (H1:=H++[.own (cP q),.own (bX 0#64 false)]) Tryz.func11 rfl Tryz.results11 Tryz.ntmps11 (by simp)
   .intro _ _
    generalize hW:cP q=W at *
    simp only [go_sem,seval,lq,tq,oq,kq,my,ge]
    exact aN
   .simp
   .exact JN hI (by rw [ea,aR]) (Er.same hI _ rfl (by unfold kr;rw [if_neg n8]) (by unfold kG;rw [if_neg n8]) (by unfold rn;rw [if_neg n3]) (by unfold flb;rw [if_neg (λc=>c.2.2 k4)]) (by unfold ku;rw [if_neg (λc=>c.2.2 k4)]))
  by_cases k8:q.k<=8
  .have n3:¬nr q.k:=by unfold nr;omega
   have hw:iQ x.w h q.K=true:=by
    have:=aR
    unfold fB at this
    by_cases k1:q.k < 1
    .rw [if_pos k1] at this;simp at this
    .rw [if_neg k1,if_pos k8] at this;exact this
   have g1:fa q.k=1:=by
    have h1:=hw
    unfold iQ at h1
    rw [aQ] at h1
    exact JR h1.1
   rw [g1] at ge
   have ea:tD x h q=bX (wD x.w h q.K) (wG x.w h q.K):=by unfold tD;rw [aR,if_pos rfl,if_pos k8]
   have mm:=λX=>awP (h:=h) (k:=q.k) (a:=q.a) (b:=q.b) (c:=q.c) (s:=q.s) (op:=q.op) (d:=q.d) (o:=q.o) (lv:=q.lv) (hI.w.app X) q.ok hw
   have eK:(⟨q.k,q.a,q.b,q.c,q.s,q.op,q.d,q.o,q.lv⟩:Ak)=q.K:=rfl
   simp only [aae hI.w,eK] at mm
   rw [<-wc] at mm
   obtain ⟨Q,hQ⟩:∃Q,Q=bX (wD x.w h q.K) (wG x.w h q.K):=⟨_,rfl⟩
   have al:Q.length=42:=by rw [hQ];exact Jo _ _
   have a1:Q.all Sc.one=true:=by rw [hQ];exact MQ _ _
   have cQ:Q.take 42=Q:=bR ω
   rw [<-hQ] at mm ea
   have hB:(wB x.w h q.K).length=x.w.B.length:=afa
   have hR:(wR x.w h q.K).length=8:=afb hI.w.l
   obtain ⟨K,hK⟩:∃K,K=fX H x.w (wB x.w h q.K) (wR x.w h q.K):=⟨_,rfl⟩
   have lK:K.length=H.length:=by rw [hK,oC]
   have kI:=hI.qX hB hR
   rw [<-hK] at mm kI
   have gH:∀X,hg (K++X) H.length=hg X 0:=λX=>by rw [<-lK,me]
   have gN:∀X n,hg (K++X) (H.length+n)=hg X n:=λX n=>by rw [<-lK,gY]
   have sN:∀X n o,(K++X).set (H.length+n) o=K++X.set n o:=λX n o=>by rw [<-lK,vF]
   unfold zp
   apply ik (v:=.t [.g Q,.c (.b true)]) (H1:=K++[.own (cP q),.own Q]) Tryz.func11 rfl Tryz.results11 Tryz.ntmps11 (by simp)
   .intro _ _
    generalize hW:cP q=W at *
    simp only [go_sem,seval,lq,tq,oq,kq,my,ge,mm,gH,gN,sN,al,a1,cQ]
    exact aN
   .rw [cF,lK];omega
   .refine JN hI (by rw [ea,aR]) (u:=x.D.x) (w:=x.D.y) ?_
    have e:oB x h q x.D.x x.D.y=⟨x.w.to (wB x.w h q.K) (wR x.w h q.K),x.D,x.n,x.M⟩:=by
     unfold oB
     rw [show kr x h q=wB x.w h q.K from if_pos k8,show kG x h q=wR x.w h q.K from if_pos k8,show rn x h q=x.M from if_neg n3,show flb x h q=x.D.b from if_neg (λc=>ω),show ku x h q=x.D.t from if_neg (λc=>ω),<-hI.m];rfl
    refine ⟨by rw [e];exact kI.app _,by rw [cF,lK];omega,λk hk n1 n2 _ _ _ _=>?_,λ_ h=>.inl h,λ_ h=>.inl h,iw (by rw [hK];unfold fX;exact iw (jT λ_=>rfl) (jT λ_=>rfl)) (jr rfl)⟩
    rw [cL ω,hK]
    unfold fX
    rw [fg (λc=>n1 c.symm),fg (λc=>n2 c.symm)]
  by_cases k3:nr q.k
  .have Fm:q.k=12\/q.k=13\/q.k=14:=k3
   have g3:fa q.k=3:=by unfold fa;rw [if_neg ω,if_neg k8,if_neg ω,if_pos ω]
   rw [g3] at ge
   have hm:fh x.n h q.k q.h q.rs q.i=true:=by
    have:=aR
    unfold fB at this
    rw [if_neg ω,if_neg k8,if_pos Fm] at this;exact this
   have ea:tD x h q=ou x.n x.M h q.k q.h q.R:=by unfold tD;rw [aR,if_pos rfl,if_neg k8,if_pos k3]
   have mm:=λX=>awZ (cf:=h) (k:=q.k) (h:=q.h) (i:=q.i) (c:=q.c) (z:=q.s) (o:=q.op) (e1:=q.e1) (e3:=q.e3) (ad:=q.a) (nx:=q.b) (da:=q.d) (ol:=q.o) (va:=q.va) (e2:=q.e2) (e4:=q.e4) (li:=q.lv) (rs:=q.rs) (rv:=q.rv) (ra:=q.rd) (((hI.app X).w.o).trans (by rw [aag hI])) hI.l hI.n8
   have eR:(⟨q.rs,q.rv,q.rd,q.va,q.i⟩:Rq)=q.R:=rfl
   have Xr:cP q=[.i q.k,.u q.a,.u q.b,.i q.c,.i q.s,.i q.op,.u q.d,.u q.o,.b q.lv,.i q.h,.b q.rs,.b q.rv,.b q.rd,.u q.va,.i q.i,.i q.e1,.u q.e2,.i q.e3,.u q.e4]:=rfl
   simp only [aaf hI,eR,hm,lN _ _ hI.w.lp] at mm
   rw [<-Xr] at mm
   obtain ⟨Q,hQ⟩:∃Q,Q=ou x.n x.M h q.k q.h q.R:=⟨_,rfl⟩
   obtain ⟨al,a1⟩:=akH x.n x.M h q.k q.h q.R
   rw [<-hQ] at mm ea al a1
   have cQ:Q.take 42=Q:=bR ω
   have hB:(nh x.n x.M h q.k q.h q.R).length=8:=by rw [ZD];exact hI.l
   have kI:=hI.Ml hB
   obtain ⟨K,hK⟩:∃K,K=H.set x.w.p (.own (EM x++(aG x.n (nh x.n x.M h q.k q.h q.R)++[]))):=⟨_,rfl⟩
   have lK:K.length=H.length:=by rw [hK,js]
   rw [<-hK] at mm kI
   have gH:∀X,hg (K++X) H.length=hg X 0:=λX=>by rw [<-lK,me]
   have gN:∀X n,hg (K++X) (H.length+n)=hg X n:=λX n=>by rw [<-lK,gY]
   have sN:∀X n o,(K++X).set (H.length+n) o=K++X.set n o:=λX n o=>by rw [<-lK,vF]
   unfold zp
   apply ik (v:=.t [.g Q,.c (.b true)]) (H1:=K++[.own (cP q),.own Q]) Tryz.func11 rfl Tryz.results11 Tryz.ntmps11 (by simp)
   .intro _ _
    generalize hW:cP q=W at *
    simp only [go_sem,seval,lq,tq,oq,kq,my,ge,mm,gH,gN,sN,al,a1,cQ]
    refine ⟨by (repeat' first | apply cn | (intro c;exact absurd c ω) | (intro _;kernel_rfl) | kernel_rfl),?_⟩
    exact aN
   .rw [cF,lK];omega
   .refine JN hI (by rw [ea,aR]) (u:=x.D.x) (w:=x.D.y) ?_
    have e:oB x h q x.D.x x.D.y=⟨{x.w with m:=aG x.n (nh x.n x.M h q.k q.h q.R)},x.D,x.n,nh x.n x.M h q.k q.h q.R⟩:=by
     unfold oB
     rw [show kr x h q=x.w.B from if_neg k8,show kG x h q=x.w.R from if_neg k8,show rn x h q=nh x.n x.M h q.k q.h q.R from if_pos k3,show flb x h q=x.D.b from if_neg (λc=>c.2.1 k3),show ku x h q=x.D.t from if_neg (λc=>c.2.1 k3)]
    refine ⟨by rw [e];exact kI.app _,by rw [cF,lK];omega,λk hk n1 n2 _ _ _ _=>?_,λ_ h=>.inl h,λ_ h=>.inl h,iw (by rw [hK];exact jT λ_=>rfl) (jr rfl)⟩
    rw [cL ω,hK,fg (λc=>n1 c.symm)]
  have Ku:¬(q.k=15\/q.k=16\/q.k=17):=k4
  have Fm:¬(q.k=12\/q.k=13\/q.k=14):=k3
  have hb:=aR
  unfold fB at hb
  rw [if_neg ω,if_neg k8,if_neg Fm,if_neg Ku] at hb
  have bo:eC x.D.b.n h q.Q=true:=by
   unfold eC
   rw [hI.hb] at hb |-
   have:q.Q.k=q.k:=rfl
   rw [this]
   revert hb
   cases j9 x.w.h q.Q <;> by_cases c1:q.k=11 <;> by_cases c2:0<=h <;> by_cases c3:h < x.w.h <;> simp [c1,c2,c3] <;> omega
  have gg:fa q.k=2\/fa q.k=5:=by
   have Ax:=hb
   rw [aQ] at Ax
   have uA:=Ax.1
   unfold j9 at uA
   have eK:q.Q.k=q.k:=rfl
   rw [eK] at uA
   unfold fa
   by_cases c:q.k=9\/q.k=10
   .rw [if_neg ω,if_neg k8,if_pos ω];exact .inl rfl
   .rw [if_neg c] at uA
    have hb3:=of_decide_eq_true uA
    by_cases c2:q.k<=11
    .rw [if_neg ω,if_neg k8,if_pos c2];exact .inl rfl
    .rw [if_neg ω,if_neg k8,if_neg c2,if_neg ω,if_neg ω,if_pos ω];exact .inr rfl
  have ea:tD x h q=bX (eZ x.D h q.Q) false:=by unfold tD;rw [aR,if_pos rfl,if_neg k8,if_neg k3,if_neg k4]
  obtain ⟨G,hG⟩:∃G:AH,G=H++[.own (cP q),.own (bX 0#64 false)]:=⟨_,rfl⟩
  have hIG:=hI.app [.own (cP q),.own (bX 0#64 false)]
  rw [<-hG] at hIG
  have lG:G.length=H.length+2:=by rw [hG];simp
  obtain ⟨K1,d1,dl,⟨u,w,d2,d3⟩,dn⟩:=adX hIG.d hf h (q:=q.Q) q.ok
  rw [<-Qj,bo] at d1
  obtain ⟨Q,hQ⟩:∃Q,Q=bX (eZ x.D h q.Q) false:=⟨_,rfl⟩
  rw [<-hQ] at d1 ea
  have al:Q.length=42:=by rw [hQ];exact Jo _ _
  have a1:Q.all Sc.one=true:=by rw [hQ];exact MQ _ _
  have cQ:Q.take 42=Q:=bR ω
  have oA:∀j,H.length<=j->j < G.length->hg K1 j=hg G j:=λj h1 h2=>by
   obtain ⟨f1,f2,f3,f4⟩:=hI.d.oA h1
   exact d3.fF j h2 f1 f2 f3 f4
  have gA:hg K1 (H.length+1)=.own (bX 0#64 false):=by rw [oA _ ω ω,hG,gY];rfl
  have gW:hg K1 H.length=.own (cP q):=by rw [oA _ ω ω,hG,me];rfl
  have kp:∀k,k < H.length->k≠x.D.id->k≠x.D.pid->aW x.D.x≠some k->aW x.D.y≠some k->hg K1 k=hg H k:=λk h1 h2 h3 h4 h5=>by
   rw [d3.fF k ω h2 h3 h4 h5,hG,cL h1]
  have gw:=hI.w.o
  have lw:=yK (R:=x.w.R) hI.w.l hI.w.lm
  have Sh:=EO hI
  have gwX:∀X,hg (H++X) x.w.p=.own (eE x.w x.w.R):=λX=>(hI.w.app X).o
  rw [hG,<-zA] at d1
  rw [<-zA] at gA
  rw [hG,<-zA] at dn
  have gS:hg (K1.set (H.length+1) (.own Q)) (H.length+1)=.own Q:=jj ω
  unfold zp
  apply ik (v:=.t [.g Q,.c (.b true)]) (H1:=K1.set (H.length+1) (.own Q)) Tryz.func11 rfl Tryz.results11 Tryz.ntmps11 (by simp)
  .intro _ _
   generalize hW:cP q=W at *
   rcases gg with gg | gg
   all_goals rw [gg] at ge
   all_goals simp only [go_sem,seval,lq,tq,oq,kq,my,ge,gwX,lw,Sh,d1,gA,gS,al,a1,cQ]
   all_goals first | exact aN | (refine ⟨by (repeat' first | apply cn | (intro c;exact absurd c ω) | (intro _;kernel_rfl) | kernel_rfl | exact qT (nB _) κ),by (repeat' first | apply cn | (intro c;exact absurd c ω) | (intro _;kernel_rfl) | kernel_rfl | exact qT (nB _) κ),?_⟩;exact aN)
  .rw [js];omega
  .refine JN hI (by rw [ea,aR]) (u:=u) (w:=w) ?_
   have e:oB x h q u w=⟨x.w,{x.D with b:=dj x.D h q.Q,t:=dF x.D h q.Q,x:=u,y:=w},x.n,x.M⟩:=by
    unfold oB
    rw [show kr x h q=x.w.B from if_neg k8,show kG x h q=x.w.R from if_neg k8,show rn x h q=x.M from if_neg k3,show flb x h q=dj x.D h q.Q from if_pos ⟨ω,k3,k4⟩,show ku x h q=dF x.D h q.Q from if_pos ⟨ω,k3,k4⟩,<-hI.m]
   have nx:∀i,i < H.length+2->aW x.D.x≠some i->aW u≠some i:=λi h1 h2 c=>(d3.fx i c).elim h2 ω
   have ny:∀i,i < H.length+2->aW x.D.y≠some i->aW w≠some i:=λi h1 h2 c=>(d3.fy i c).elim h2 ω
   have fr:=hI.d.oA (j:=H.length+1) ω
   have lp:=hI.w.lp
   have li:=hI.w.li
   refine ⟨?_,by rw [js];omega,λk hk _ _ n3 n4 n5 n6=>by rw [fg ω];exact kp k hk n3 n4 n5 n6,λi hi=>(d3.fx i hi).imp id ω,λi hi=>(d3.fy i hi).imp id ω,iw (jr rfl) (iw dn (jT λ_=>rfl))⟩
   rw [e]
   refine ⟨⟨?_,?_,hI.w.l,hI.w.b0,hI.w.b1,hI.w.lm,hI.w.hh⟩,d2.other fr.1 fr.2.1 (nx _ ω fr.2.2.1) (ny _ ω fr.2.2.2),hI.mj,hI.m,hI.l,hI.n8,Yp.trans hI.hb,⟨hI.p.1,hI.p.2.1,nx x.w.p ω hI.p.2.2.1,ny x.w.p ω hI.p.2.2.2⟩,⟨hI.i.1,hI.i.2.1,nx x.w.id ω hI.i.2.2.1,ny x.w.id ω hI.i.2.2.2⟩⟩
   .show hg _ x.w.p=_
    rw [fg ω,kp _ lp hI.p.1 hI.p.2.1 hI.p.2.2.1 hI.p.2.2.2];exact hI.w.o
   .show hg _ x.w.id=_
    rw [fg ω,kp _ li hI.i.1 hI.i.2.1 hI.i.2.2.1 hI.i.2.2.2];exact hI.w.v
 obtain ⟨v,H1,h1,_,h2⟩:=this
 obtain ⟨rfl,u,w,h3⟩:=h2 x h q rfl hI
 exact ⟨H1,u,w,h1,h3⟩
end
theorem Ot(x:¬(0<=h/\h<n)):fV n h=false:=by
 unfold fV;rw[<-Bool.decide_and,decide_eq_false x]
theorem aaH(x:0<=h/\h<n):fV n h=true:=by
 unfold fV;rw[<-Bool.decide_and,decide_eq_true x]
def Wx(args:List AV):Option AV:=match args with|[.g [.b s,.b v,.b d,.u a,.i i]]=>some (.g (fA (A6 ⟨s,v,d,a,i⟩)))|_=>none
theorem Wy{s v d a i}:Wx [.g [.b s,.b v,.b d,.u a,.i i]]=some (.g (fA (A6 ⟨s,v,d,a,i⟩))):=rfl
theorem asL:cE Tryz.prog 162 Wx:=by
 refine cN tn Tryz.func162 rfl Tryz.results162 Tryz.ntmps162 ?_;intro args v h;unfold Wx at h;split at h
 .rename_i s v d a i;simp only[ar]at h;subst h;refine⟨by simp,rfl,rfl,?_⟩;cases v<;>cases d<;>simp only[go_sem,seval,fA,A6]
 .simp at h
def Wu(args:List AV):Option AV:=match args with|[.g [.b os,.b ov,.b od,.u oa,.i oi],.g [.b s,.b v,.b d,.u a,.i i]]=>some (.g (fA (kO ⟨os,ov,od,oa,oi⟩ ⟨s,v,d,a,i⟩)))|_=>none
theorem PG{os ov od oa oi s v d a i}:Wu [.g [.b os,.b ov,.b od,.u oa,.i oi],.g [.b s,.b v,.b d,.u a,.i i]]=some (.g (fA (kO ⟨os,ov,od,oa,oi⟩ ⟨s,v,d,a,i⟩))):=rfl
theorem asF:cE Tryz.prog 108 Wu:=by
 refine cN (tu asL tn) Tryz.func108 rfl Tryz.results108 Tryz.ntmps108 ?_;intro args v h;unfold Wu at h;split at h
 .rename_i os ov od oa oi s v d a i;simp only[ar]at h;subst h;refine⟨by simp,rfl,rfl,?_⟩;generalize hp:A6 ⟨s,v,d,a,i⟩=p;obtain⟨ps,pv,pd,pa,pi⟩:=p;cases os
  .have e0:kO ⟨false,ov,od,oa,oi⟩ ⟨s,v,d,a,i⟩=⟨ps,pv,pd,pa,pi⟩:=by simp[kO,hp]
   rw[e0];simp only[go_sem,seval,Wy,hp,fA]
  .cases he:vh ⟨true,ov,od,oa,oi⟩ ⟨ps,pv,pd,pa,pi⟩
   .have e0:kO ⟨true,ov,od,oa,oi⟩ ⟨s,v,d,a,i⟩=⟨true,false,false,0#64,0⟩:=by simp[kO,hp,he]
    rw[e0];simp only[vh,Bool.true_beq]at he;simp only[go_sem,seval,Wy,hp,fA,he]
   .have e0:kO ⟨true,ov,od,oa,oi⟩ ⟨s,v,d,a,i⟩=⟨true,ov,od,oa,oi⟩:=by
     simp only[kO,hp,he,or_true,if_true];exact(ZO.mp he).symm
    rw[e0];simp only[vh,Bool.true_beq]at he;simp only[go_sem,seval,Wy,hp,fA,he]
 .simp at h
theorem Ei:zT Tryz.prog 66=some (aG 0 Z8):=κ
def PJ(args:List AV):Option AV:=match args with|[.c (.i n)]=>some (.g (aG (if 1<=n/\n<=8 then n else 0) Z8))|_=>none
theorem axy{n}:PJ [.c (.i n)]=some (.g (aG (if 1<=n/\n<=8 then n else 0) Z8)):=rfl
theorem asJ:cE Tryz.prog 26 PJ:=by
 refine cN tn Tryz.func26 rfl Tryz.results26 Tryz.ntmps26 ?_;intro args v h;unfold PJ at h;split at h
 .rename_i n;simp only[ar]at h;subst h;have pz:∀m,(aG m Z8).all Sc.pf=true:=λm=>rfl;refine⟨by simp,by first|rfl|simp only[bG,dO,AV.pf,Sc.pf,cX, *],by first|rfl|simp only[bG,dO,AV.pf,Sc.pf,cX, *],?_⟩;have l0:=λm=>kh m yy;have d1:∀m,(aG m Z8).drop 321=[]:=λm=>kE (by rw[l0];omega);have d2:∀m,(aG m Z8).drop 1=Z8.flatMap jC:=λm=>rfl;have d3:∀m,(aG m Z8).all Sc.one=true:=λm=>rfl;have d4:∀m,.i m::Z8.flatMap jC=aG m Z8:=λm=>rfl;have d5:∀m,(aG m Z8).take 321=aG m Z8:=λm=>bR (by rw[l0];omega);by_cases h1:n<1
  .have e:(if 1<=n/\n<=8 then n else 0)=0:=if_neg ω;simp only[go_sem,seval,h1,e,Ei,l0,d1,d2,d3,d4,d5]
  by_cases h2:8<n
  .have e:(if 1<=n/\n<=8 then n else 0)=0:=if_neg ω;simp only[go_sem,seval,h1,h2,e,Ei,l0,d1,d2,d3,d4,d5]
  .have e:(if 1<=n/\n<=8 then n else 0)=n:=if_pos ω;simp only[go_sem,seval,h1,h2,e,Ei,l0,d1,d2,d3,d4,d5]
 .simp at h
def JT(m:List Sc):Int:=match m.getD 0 .any with|.i n=>n|_=>0
def sI(m:List Sc):Prop:=m.length=321/\m.all Sc.pf=true/\m.getD 0 .any=.i (JT m)
instance (l:List Sc):Decidable (sI l):=Classical.propDecidable _
theorem abq(n:Int)(B:List Row):(aG n B).all Sc.pf=true:=by
 unfold aG;rw[bG];simp only[Sc.pf,gv];rw[rU];exact cD.2 λr _=>by unfold jC;rw[rU];exact cD.2 λ_ _=>rfl
theorem aaL(n:Int)(hB:B.length=8):sI (aG n B)/\JT (aG n B)=n:=⟨⟨kh n hB,abq n B,rfl⟩,rfl⟩
def L6(args:List AV):Option AV:=match args with|[.g m,.c (.i cf),.g [.i k,.u x1,.u x2,.i x3,.i x4,.i x5,.u x6,.u x7,.b x8,.i h,.b rs,.b y1,.b y2,.u y3,.i i,.i z1,.u z2,.i z3,.u z4]]=>if sI m then some (.c (.b (fh (JT m) cf k h rs i)))else none|_=>none
theorem L7{m cf k x1 x2 x3 x4 x5 x6 x7 x8 h rs y1 y2 y3 i z1 z2 z3 z4}:L6 [.g m,.c (.i cf),.g [.i k,.u x1,.u x2,.i x3,.i x4,.i x5,.u x6,.u x7,.b x8,.i h,.b rs,.b y1,.b y2,.u y3,.i i,.i z1,.u z2,.i z3,.u z4]]=if sI m then some (.c (.b (fh (JT m) cf k h rs i)))else none:=rfl
theorem ace:cE Tryz.prog 37 L6:=by
 refine cN tn Tryz.func37 rfl Tryz.results37 Tryz.ntmps37 ?_;intro args v h;unfold L6 at h;split at h
 .rename_i m cf k x1 x2 x3 x4 x5 x6 x7 x8 h rs y1 y2 y3 i z1 z2 z3 z4;split at h
  .rename_i hc;simp only[ar]at h;subst h;obtain⟨lm,pm,gm⟩:=hc;refine⟨by simp only[cZ,dY];decide,by first|rfl|simp only[bG,dO,AV.pf,Sc.pf,cX, *],by first|rfl|simp only[bG,dO,AV.pf,Sc.pf,cX, *],?_⟩;generalize JT m=n at*;by_cases h0:cf<0
   .have e:fV n cf=false:=Ot ω;(repeat(first|simp(maxSteps:=9^9)only[go_sem,seval,lm,gm,h0,fh,e]|simp(disch:=omega)only[aq,aK,aJ,aI,aH]))
   by_cases h1:n<=cf
   .have e:fV n cf=false:=Ot ω;(repeat(first|simp(maxSteps:=9^9)only[go_sem,seval,lm,gm,h0,h1,fh,e]|simp(disch:=omega)only[aq,aK,aJ,aI,aH]))
   have e:fV n cf=true:=aaH ω;by_cases k1:k=12
   ·(repeat(first|simp(maxSteps:=9^9)only[go_sem,seval,lm,gm,h0,h1,fh,e,k1]|simp(disch:=omega)only[aq,aK,aJ,aI,aH]))
   by_cases g0:h<0
   .have e2:fV n h=false:=Ot ω;by_cases k2:k=13
    ·(repeat(first|simp(maxSteps:=9^9)only[go_sem,seval,lm,gm,h0,h1,fh,e,k1,k2,g0,e2]|simp(disch:=omega)only[aq,aK,aJ,aI,aH]));all_goals simp
    by_cases k3:k=14
    ·(repeat(first|simp(maxSteps:=9^9)only[go_sem,seval,lm,gm,h0,h1,fh,e,k1,k2,k3,g0,e2]|simp(disch:=omega)only[aq,aK,aJ,aI,aH]))
    ·(repeat(first|simp(maxSteps:=9^9)only[go_sem,seval,lm,gm,h0,h1,fh,e,k1,k2,k3,g0,e2]|simp(disch:=omega)only[aq,aK,aJ,aI,aH]))
   by_cases g1:n<=h
   .have e2:fV n h=false:=Ot ω;by_cases k2:k=13
    ·(repeat(first|simp(maxSteps:=9^9)only[go_sem,seval,lm,gm,h0,h1,fh,e,k1,k2,g0,g1,e2]|simp(disch:=omega)only[aq,aK,aJ,aI,aH]));all_goals simp
    by_cases k3:k=14
    ·(repeat(first|simp(maxSteps:=9^9)only[go_sem,seval,lm,gm,h0,h1,fh,e,k1,k2,k3,g0,g1,e2]|simp(disch:=omega)only[aq,aK,aJ,aI,aH]))
    ·(repeat(first|simp(maxSteps:=9^9)only[go_sem,seval,lm,gm,h0,h1,fh,e,k1,k2,k3,g0,g1,e2]|simp(disch:=omega)only[aq,aK,aJ,aI,aH]))
   have e2:fV n h=true:=aaH ω;by_cases g2:h=cf
   .by_cases k2:k=13
    ·(repeat(first|simp(maxSteps:=9^9)only[go_sem,seval,lm,gm,h0,h1,fh,e,k1,k2,g0,g1,g2]|simp(disch:=omega)only[aq,aK,aJ,aI,aH]));all_goals simp
    by_cases k3:k=14
    ·(repeat(first|simp(maxSteps:=9^9)only[go_sem,seval,lm,gm,h0,h1,fh,e,k1,k2,k3,g0,g1,g2]|simp(disch:=omega)only[aq,aK,aJ,aI,aH]))
    ·(repeat(first|simp(maxSteps:=9^9)only[go_sem,seval,lm,gm,h0,h1,fh,e,k1,k2,k3,g0,g1,g2]|simp(disch:=omega)only[aq,aK,aJ,aI,aH]))
   by_cases k2:k=13
   .cases rs
    ·(repeat(first|simp(maxSteps:=9^9)only[go_sem,seval,lm,gm,h0,h1,fh,e,k1,k2,g0,g1,g2,e2]|simp(disch:=omega)only[aq,aK,aJ,aI,aH]))
    by_cases i1:i<0
    ·(repeat(first|simp(maxSteps:=9^9)only[go_sem,seval,lm,gm,h0,h1,fh,e,k1,k2,g0,g1,g2,e2,i1]|simp(disch:=omega)only[aq,aK,aJ,aI,aH]))
    by_cases i2:65535<i
    ·(repeat(first|simp(maxSteps:=9^9)only[go_sem,seval,lm,gm,h0,h1,fh,e,k1,k2,g0,g1,g2,e2,i1,i2]|simp(disch:=omega)only[aq,aK,aJ,aI,aH]))
    ·(repeat(first|simp(maxSteps:=9^9)only[go_sem,seval,lm,gm,h0,h1,fh,e,k1,k2,g0,g1,g2,e2,i1,i2]|simp(disch:=omega)only[aq,aK,aJ,aI,aH]))
   by_cases k3:k=14
   ·(repeat(first|simp(maxSteps:=9^9)only[go_sem,seval,lm,gm,h0,h1,fh,e,k1,k2,k3,g0,g1,g2,e2]|simp(disch:=omega)only[aq,aK,aJ,aI,aH]))
   ·(repeat(first|simp(maxSteps:=9^9)only[go_sem,seval,lm,gm,h0,h1,fh,e,k1,k2,k3,g0,g1,g2,e2]|simp(disch:=omega)only[aq,aK,aJ,aI,aH]))
  .simp at h
 .simp at h
def Pf(r:Row)(i:Nat)(q:Rq):Row:=⟨r.1.set i q,by rw[js];exact r.2⟩
theorem MT(d:BitVec 64)(g:Bool)(r:Row):(fD d g r).length=42:=by unfold fD;rw[cZ,cZ,tY]
variable {i:Nat}
theorem agM(d:BitVec 64)(g:Bool)(r:Row)(hi:i<8)(q:Rq):(fD d g r).take (2+i*5)++fA q++(fD d g r).drop (2+i*5+5)=fD d g (Pf r i q):=by
 obtain⟨q0,hq⟩:∃q,r.1[i]?=some q:=⟨_,cM (by rw[r.2];omega)⟩;obtain⟨P,Q,g1,g2,g3⟩:=CS vf hq;unfold fD;rw[show 2+i*5=(i*5+1)+1 by omega,GB,GB,show i*5+1+1+5=(i*5+5+1)+1 by omega,Gs,Gs,kX,kX,kX,kX];congr 2;unfold jC Pf;simp only;rw[g3,g1];have:=Mo (P:=P) (M:=fA q0) (Q:=Q) (l:=fA q) (o:=0) (by simp[vf]);rw[rj,vf]at this;rw[<-g2,this];simp[fA]
def u9(R:List Row)(f:Nat):Nat->List Row|0=>R|i+1=>vE (u9 R f i) i f oP
def Ah(R:List Row)(f:Nat):Nat->Row|0=>ju|i+1=>Pf (Ah R f i) i (fk (u9 R f i) i f)
theorem Nh(R:List Row)(f:Nat):∀i,(u9 R f i).length=R.length|0=>rfl|i+1=>by rw[u9,PY,Nh R f i]
def nK(n:Int)(R:List Row)(cf k h:Int)(q:Rq):List Row:=if fh n cf k h q.s q.i=true then(if k=13 then vE R cf.toNat h.toNat (kO (fk R cf.toNat h.toNat) q)else if k=12 then u9 R cf.toNat 8 else R)else R
def pq(n:Int)(R:List Row)(cf k h:Int)(q:Rq):List Sc:=if fh n cf k h q.s q.i=true then(if k=13 then fD 0#64 false ju else if k=12 then fD 0#64 false (Ah R cf.toNat 8)else fD 0#64 (!(fk R cf.toNat h.toNat).s) ju)else fD 0#64 false ju
variable {cf:Int}
theorem ZE{R:List Row}{k:Int}{q:Rq}:(nK n R cf k h q).length=R.length:=by
 unfold nK;split
 .split
  .exact PY _ _ _ _
  .split
   .exact Nh _ _ _
   .rfl
 .rfl
def Ov(m:List Sc):Prop:=∃n R,m=aG n R/\R.length=8/\n<=8
instance (l:List Sc):Decidable (Ov l):=Classical.propDecidable _
def La(m:List Sc)(cf k h:Int)(q:Rq):AV:=match Ce (.own m)with|some (n,R)=>.t [.g (aG n (nK n R cf k h q)),.g (pq n R cf k h q),.c (.b (fh n cf k h q.s q.i))]|none=>.c (.b false)
theorem agK(d:BitVec 64)(g:Bool)(r:Row):(fD d g r).all Sc.pf=true:=by
 unfold fD jC;rw[bG,bG,rU];simp only[Sc.pf,gv];exact cD.2 λ_ _=>rfl
theorem akJ(n:Int)(R:List Row)(cf k h:Int)(q:Rq):(pq n R cf k h q).all Sc.pf=true:=by
 unfold pq;repeat' split
 all_goals exact agK _ _ _
theorem AW(n:Int)(B:List Row):(aG n B).all Sc.one=true:=by
 unfold aG;rw[bG];simp only[Sc.one,gv];rw[rU];exact cD.2 λr _=>Pe r
theorem MU(d:BitVec 64)(g:Bool)(r:Row):(fD d g r).all Sc.one=true:=by
 unfold fD;rw[bG,bG];simp only[Sc.one,gv];exact Pe r
theorem MS(d:BitVec 64)(g:Bool)(r:Row)(m:Nat):(fD d g r).all (Sc.aj m)=true:=by
 unfold fD jC;rw[bG,bG,rU];simp only[Sc.aj,gv];exact cD.2 λ_ _=>rfl
theorem Yx{a b c d:List Sc}(ha:a.all (Sc.aj 5)=true)(hb:b.all (Sc.aj 5)=true)(hc:c.all (Sc.aj 5)=true)(hd:d.all (Sc.aj 5)=true):dk [.own a,.dead,.own b,.own c,.own d]=true:=by
 have z:ae.dead.cT.all (Sc.aj 5)=true:=rfl;simp only[dk,cZ,dY,bG,dO,cX,aQ];exact⟨ha,z,hb,hc,hd⟩
variable {f:Nat}
theorem aym{t:Nat}(hB:B.length=8)(ht:t<8)(hf:f<8):(aG n B).getD (1+t*40+f*5) .any=.b (fk B t f).s:=by
 have h:=Gc (n:=n) hB ht hf;have l:=kh n hB;have h2:(((aG n B).drop (1+t*40+f*5)).take 5).getD 0 .any=(aG n B).getD (1+t*40+f*5) .any:=by rw[b9,b9,yu δ,sZ,rj]
 rw[<-h2,h];rfl
def L0(args:List AV):Option AV:=match args with|[.g m,.c (.i cf),.g [.i k,.u x1,.u x2,.i x3,.i x4,.i x5,.u x6,.u x7,.b x8,.i h,.b rs,.b rv,.b rd,.u ra,.i ri,.i z1,.u z2,.i z3,.u z4]]=>if Ov m then some (La m cf k h ⟨rs,rv,rd,ra,ri⟩)else none|_=>none
theorem axr{m cf k x1 x2 x3 x4 x5 x6 x7 x8 h rs rv rd ra ri z1 z2 z3 z4}:L0 [.g m,.c (.i cf),.g [.i k,.u x1,.u x2,.i x3,.i x4,.i x5,.u x6,.u x7,.b x8,.i h,.b rs,.b rv,.b rd,.u ra,.i ri,.i z1,.u z2,.i z3,.u z4]]=if Ov m then some (La m cf k h ⟨rs,rv,rd,ra,ri⟩)else none:=rfl
theorem asz:cE Tryz.prog 43 L0:=by
 refine cN (tu ace (tu asF tn)) Tryz.func43 rfl Tryz.results43 Tryz.ntmps43 ?_;intro args v h;unfold L0 at h;split at h
 .rename_i m cf k x1 x2 x3 x4 x5 x6 x7 x8 h rs rv rd ra ri z1 z2 z3 z4;split at h
  .rename_i hc;simp only[ar]at h;subst h;obtain⟨n,R,rfl,hR,hn⟩:=hc;have ev:La (aG n R) cf k h ⟨rs,rv,rd,ra,ri⟩=.t [.g (aG n (nK n R cf k h ⟨rs,rv,rd,ra,ri⟩)),.g (pq n R cf k h ⟨rs,rv,rd,ra,ri⟩),.c (.b (fh n cf k h rs ri))]:=by unfold La;rw[za hR]
   have mp:=abq;have dp:=akJ n R cf k h ⟨rs,rv,rd,ra,ri⟩;refine⟨by simp,by first|rfl|simp only[bG,dO,AV.pf,Sc.pf,cX, *],by first|rfl|simp only[bG,dO,AV.pf,Sc.pf,cX, *],?_⟩;rw[ev];have l0:=kh n hR;have lz:=kh 0 yy;obtain⟨m0,m1⟩:=aaL n hR;have t0:(aG n R).take 321=aG n R:=bR ω;have tz:(aG 0 Z8).drop 321=[]:=kE ω;have ez:∀X,Sc.u 0#64::Sc.b false::(jC ju++X)=fD 0#64 false ju++X:=λX=>rfl;have al:=MT;have a0:∀r d g,(fD d g r).take 42=fD d g r:=λr d g=>bR (by rw[al];omega);have a1:∀r d g,(fD d g r).drop 42=[]:=λr d g=>kE (by rw[al];omega);have mo:∀R',(aG n R').all Sc.one=true:=λR'=>AW n R';have ao:∀d g r,(fD d g r).all Sc.one=true:=MU;cases kK:fh n cf k h rs ri
   .have r1:pq n R cf k h ⟨rs,rv,rd,ra,ri⟩=fD 0#64 false ju:=by unfold pq;rw[if_neg (by simp[kK])]
    have r2:nK n R cf k h ⟨rs,rv,rd,ra,ri⟩=R:=by unfold nK;rw[if_neg (by simp[kK])]
    rw[r1,r2];simp only[go_sem,seval,L7,PG,l0,lz,t0,tz,m0,m1,kK,Ei,mo];rfl
   obtain⟨i1,i2⟩:=T6 kK;simp only[fV,aQ,decide_eq_true_eq]at i1;obtain⟨f,rfl⟩:=kV i1.1;have hf:f<8:=ω
   have nf:(0:Int)<=(f:Int):=ω
   have Ch:(f:Int)<8:=ω
   rcases i2 with Fk|⟨Fl|Kt,m3⟩
   .subst Fk;have r1:pq n R f 12 h ⟨rs,rv,rd,ra,ri⟩=fD 0#64 false (Ah R f 8):=by unfold pq;rw[if_pos (by simp only[kK]),if_neg ω,if_pos rfl,aO]
    have r2:nK n R f 12 h ⟨rs,rv,rd,ra,ri⟩=u9 R f 8:=by unfold nK;rw[if_pos (by simp only[kK]),if_neg ω,if_pos rfl,aO]
    rw[r1,r2];simp only[go_sem,seval,L7,PG,l0,lz,t0,tz,m0,m1,kK,Ei,mo];refine eY 8 (λi=>([(1,.c (.i f)),(3,.c (.p 0 0 0)),(6,.c (.p 2 0 0)),(7,.c (.p 3 0 0)),(9,.c (.p 4 0 0)),(10,.c (.i i))],[.own (aG n (u9 R f i)),.dead,.own (aG 0 Z8),.own (fD 0#64 false ju),.own (fD 0#64 false (Ah R f i))])) ?_ λi hi=>?_
    .exact Wk.wk (by simp[lo]) (by simp[Am.get]) (by simp[AV.aj,Sc.aj]) ⟨.inr rfl,.inl rfl,.inr rfl,.inr rfl,.inr rfl,trivial⟩ (Yx (Fz _ _ _) (Fz _ _ _) (MS _ _ _ _) (MS _ _ _ _))
    have ni:(0:Int)<=(i:Int):=ω
    have py:(u9 R f i).length=8:=by rw[Nh];exact hR
    have l4:=kh n py;by_cases h8:i<8;rotate_left
    .obtain rfl:i=8:=ω
     have t4:(aG n (u9 R f 8)).take 321=aG n (u9 R f 8):=bR ω;simp only[go_sem,seval,l4,lz,t4,tz,mo,al,a0,a1,ao]
    have ni8:(i:Int)<8:=ω
    have e1:az ((i:Int)+1)=((i+1:Nat):Int):=by rw[j6 ω];omega
    have g1:=Gc (n:=n) py h8 hf;have g2:=WY (n:=n) py h8 hf oP;have g3:=agM 0#64 false (Ah R f i) h8 (fk (u9 R f i) i f);have er:fA oP=[.b false,.b false,.b false,.u 0#64,.i 0]:=rfl;rw[er]at g2;simp only[fo,kX,jV]at g2 g3;have g6:∀m,(fA m).all Sc.one=true:=λm=>rfl;have b1:1+i*40+f*5+5<=321:=ω
    have b2:2+i*5+5<=42:=ω
    simp only[go_sem,seval,l4,al,ao,nf,Ch,ni,ni8,g1,g2,g3,g6,b1,b2,e1,vf];exact⟨i+1,ω,ω,Wk.wk (by simp[lo]) (by simp[Am.get]) (by simp[AV.aj,Sc.aj]) ⟨.inr rfl,.inr rfl,.inr rfl,.inr rfl,.inr rfl,trivial⟩ (Yx (Fz _ _ _) (Fz _ _ _) (MS _ _ _ _) (MS _ _ _ _))⟩
   .subst Fl;simp only[fV,aQ,decide_eq_true_eq]at m3;obtain⟨g,rfl⟩:=kV m3.1;have yT:g<8:=ω
    have r1:pq n R f 13 g ⟨rs,rv,rd,ra,ri⟩=fD 0#64 false ju:=by unfold pq;rw[if_pos (by simp only[kK]),if_pos rfl]
    have r2:nK n R f 13 g ⟨rs,rv,rd,ra,ri⟩=vE R f g (kO (fk R f g) ⟨rs,rv,rd,ra,ri⟩):=by unfold nK;rw[if_pos (by simp only[kK]),if_pos rfl,aO,aO]
    rw[r1,r2];have g1:=Gc (n:=n) hR hf yT;have g2:=WY (n:=n) hR hf yT (kO (fk R f g) ⟨rs,rv,rd,ra,ri⟩);simp only[fo]at g2;have ng:(0:Int)<=(g:Int):=ω
    have FC:(g:Int)<8:=ω
    have Ci:1+f*40+g*5+5<=321:=ω
    have l3:=kh n (B:=vE R f g (kO (fk R f g) ⟨rs,rv,rd,ra,ri⟩)) (by rw[PY];exact hR);have t3:(aG n (vE R f g (kO (fk R f g) ⟨rs,rv,rd,ra,ri⟩))).take 321=_:=bR ω;generalize Hx:fk R f g=sl at g1 g2 l3 t3;obtain⟨os,ov,od,oa,oi⟩:=sl;have es:fA ⟨os,ov,od,oa,oi⟩=[.b os,.b ov,.b od,.u oa,.i oi]:=rfl;rw[es]at g1;have g6:∀m,(fA m).all Sc.one=true:=λm=>rfl;simp only[go_sem,seval,L7,PG,l0,lz,t0,tz,m0,m1,kK,Ei,mo,nf,Ch,ng,FC,Ci,g1,g2,g6,vf,l3,t3,Hx];repeat' apply cn
    all_goals first|decide|(exact λ_=>δ)|(intro hx;exfalso;omega)|exact λhx=>hx.2.elim|rfl
   .subst Kt;simp only[fV,aQ,decide_eq_true_eq]at m3;obtain⟨g,rfl⟩:=kV m3.1;have yT:g<8:=ω
    have r1:pq n R f 14 g ⟨rs,rv,rd,ra,ri⟩=fD 0#64 (!(fk R f g).s) ju:=by unfold pq;rw[if_pos (by simp only[kK]),if_neg ω,if_neg ω,aO,aO]
    have r2:nK n R f 14 g ⟨rs,rv,rd,ra,ri⟩=R:=by unfold nK;rw[if_pos (by simp only[kK]),if_neg ω,if_neg ω]
    rw[r1,r2];have g1:(aG n R).getD (1+f*40+g*5) .any=.b (fk R f g).s:=aym hR hf yT;have ng:(0:Int)<=(g:Int):=ω
    have FC:(g:Int)<8:=ω
    have Ci:1+f*40+g*5+1<=321:=ω
    simp only[go_sem,seval,L7,PG,l0,lz,t0,tz,m0,m1,kK,Ei,mo,nf,Ch,ng,FC,Ci,g1];repeat' apply cn
    all_goals first|decide|(exact λ_=>δ)|(intro hx;exfalso;omega)|exact λhx=>hx.2.elim|rfl
  .simp at h
 .simp at h
def ahV(n cf k h:Int)(rs:Bool)(i:Int):Int:=if fh n cf k h rs i=true then(if k=12 then cf else h)else 0
def aBA(args:List AV)(H:AH):Option AV:=match args with
 |[.c (.p id 0 0),.c (.i cf),.g [.i k,.u _,.u _,.i _,.i _,.i _,.u _,.u _,.b _,.i h,.b rs,.b _,.b _,.u _,.i i,.i _,.u _,.i _,.u _]]=>match Ce (hg H id)with
   |some (n,_)=>some (.t [.c (.i (ahV n cf k h rs i)),.c (.b (fh n cf k h rs i))])|none=>none
 |_=>none
def ub(n:Int)(B:List Row)(a b:Int):Rq:=if fV n a=true/\fV n b=true then fk B b.toNat a.toNat else oP
def F3(args:List AV)(H:AH):Option AV:=match args with
 |[.c (.p id 0 0),.c (.i a),.c (.i b)]=>match Ce (hg H id)with
   |some (n,B)=>if n<=8 then some (.g (fA (ub n B a b)))else none|none=>none
 |_=>none
theorem aw3{id:Nat}{n a b:Int}{B:List Row}{H:AH}(e:hg H id=.own (aG n B))(hB:B.length=8)(hn:n<=8):F3 [.c (.p id 0 0),.c (.i a),.c (.i b)] H=some (.g (fA (ub n B a b))):=by simp only[F3,e,za hB,hn,if_true]
theorem arY:aZ Tryz.prog 51 (λargs H=>(F3 args H).map λv=>(v,H)):=by
 refine iR (s:=F3) (tq arT tn) Tryz.func51 rfl Tryz.results51 Tryz.ntmps51 ?_;intro args H v h bM hH;unfold F3 at h;split at h
 .rename_i id a b;split at h
  .rename_i n B hm;split at h
   .rename_i hn;simp only[ar]at h;subst h;obtain⟨e,hB⟩:=T8 hm;have aD:id<H.length:=dU (by rw[e];rfl);have q:∀X x,IB [.c (.p id 0 0),.c (.i x)] (H++X)=some (.c (.b (fV n x))):=λX x=>aw0 (by rw[cL aD];exact e) hB;have gx:∀X,hg (H++X) id=.own (aG n B):=λX=>by rw[cL aD];exact e
    refine⟨by simp,rfl,?_⟩;have l0:=kh n hB;have er:fA oP=[.b false,.b false,.b false,.u 0#64,.i 0]:=rfl;cases ha:fV n a
    .have ev:ub n B a b=oP:=by unfold ub;rw[if_neg (by simp[ha])]
     rw[ev];simp only[go_sem,seval,q,ha,er];exact aB _ _
    cases hb:fV n b
    .have ev:ub n B a b=oP:=by unfold ub;rw[if_neg (by simp[hb])]
     rw[ev];simp only[go_sem,seval,q,ha,hb,er];exact aB _ _
    have ev:ub n B a b=fk B b.toNat a.toNat:=by unfold ub;rw[if_pos ⟨ha,hb⟩]
    rw[ev];have EV:=ha;have qN:=hb;simp only[fV,aQ,decide_eq_true_eq]at EV qN;obtain⟨f,rfl⟩:=kV EV.1;obtain⟨t,rfl⟩:=kV qN.1;have hf:f<8:=ω
    have ht:t<8:=ω
    have nf:(0:Int)<=(f:Int):=ω
    have Ch:(f:Int)<8:=ω
    have nt:(0:Int)<=(t:Int):=ω
    have nt8:(t:Int)<8:=ω
    have Ci:1+t*40+f*5+5<=321:=ω
    have g1:=Gc (n:=n) hB ht hf;have g6:∀m,(fA m).all Sc.one=true:=λm=>rfl;have g7:∀m,(fA m).take 5=fA m:=λm=>rfl;simp only[aO];simp only[go_sem,seval,q,gx,l0,ha,hb,nf,Ch,nt,nt8,Ci,g1,g6,g7,vf];exact aB _ _
   .simp at h
  .simp at h
 .simp at h
def Eb(n:Int)(B R:List Row):Prop:=∀i j:Nat,i<8->j<8->fk R i j=ub n B i j
theorem P7{t t' f':Nat}(hB:B.length=8)(ht:t<8)(hf:f<8)(q:Rq):fk (vE B t f q) t' f'=if t=t'/\f=f' then q else fk B t' f':=by
 obtain⟨r,hr⟩:∃r,B[t]?=some r:=⟨_,cM ω⟩;unfold vE;rw[hr];simp only;unfold fk;rw[qD];by_cases h1:t=t'
 .subst h1;rw[if_pos rfl,if_pos ω,hr];simp only[qD];by_cases h2:f=f'
  .subst h2;rw[if_pos rfl,if_pos (by rw[r.2];exact hf)];simp
  .rw[if_neg h2];simp[h2]
 .rw[if_neg h1,if_neg (λh=>h1 h.1)]
theorem aeH{R:List Row}(hR:R.length=8)(hf:f<8)(i:Nat)(hi:i<=8)(a b:Nat):fk (u9 R f i) a b=if a<i/\b=f then oP else fk R a b:=by induction i with
 |zero=>rw[u9,if_neg ω]|succ i ih=>
   rw[u9,P7 (by rw[Nh];exact hR) ω hf,ih ω];by_cases h1:i=a/\f=b
   .rw[if_pos h1,if_pos ω]
   .rw[if_neg h1];by_cases h2:a<i/\b=f
    .rw[if_pos h2,if_pos ω]
    .rw[if_neg h2,if_neg ω]
theorem aeI{t g:Nat}(hB:B.length=8)(hf:f<8):fk (B.set f ju) t g=if t=f then oP else fk B t g:=by
 unfold fk;rw[qD];by_cases h:f=t
 .subst h;rw[if_pos rfl,if_pos ω,if_pos rfl];simp only[ju];by_cases hg:g<8
  .rw[CD,if_pos hg];rfl
  .rw[CD,if_neg hg];rfl
 .rw[if_neg h,if_neg (λe=>h e.symm)]
theorem ajk{R:List Row}(hR:R.length=8)(hf:f<8)(i:Nat)(hi:i<=8)(j:Nat)(hj:j<8):(Ah R f i).1[j]?=some (if j<i then fk R j f else oP):=by induction i with
 |zero=>
 rw[Ah,if_neg ω];simp only[ju];rw[CD,if_pos hj]|succ i ih=>
   rw[Ah];unfold Pf;simp only;rw[qD];by_cases h:i=j
   .subst h;rw[if_pos rfl,if_pos (by rw[(Ah R f i).2];omega),if_pos ω,aeH hR hf i ω,if_neg ω]
   .rw[if_neg h,ih ω];by_cases h2:j<i
    .rw[if_pos h2,if_pos ω]
    .rw[if_neg h2,if_neg ω]
variable {j:Nat}
theorem Vk{t:Nat}(hB:B.length=8)(ht:t<8)(hj:j<8):(rowAt B t).1[j]?=some (fk B t j):=by
 obtain⟨r,hr⟩:∃r,B[t]?=some r:=⟨_,cM ω⟩;unfold rowAt fk;rw[hr];simp only[Option.getD_some];rw[cM (by rw[r.2];exact hj)];rfl
def Ej(n:Int)(B:List Row):Prop:=∀t f:Nat,t<8->f<8->((fk B t f).s=false->fk B t f=oP)/\(¬(fV n t=true/\fV n f=true)->fk B t f=oP)
theorem ao6{i:Int}{rs:Bool}(hm:fh n cf 13 h rs i=true):rs=true:=by
 unfold fh at hm;cases rs
 .split at hm
  .rw[if_neg δ,if_pos rfl,if_pos rfl]at hm;exact hm
  .simp at hm
 .rfl
theorem ao9{o q:Rq}(h:q.s=true):(kO o q).s=true:=by
 unfold kO;split
 .exact h
 .rfl
theorem akK{R:List Row}{k:Int}{q:Rq}(hB:B.length=8)(hR:R.length=8)(hn:n<=8)(ht:Eb n B R)(hz:Ej n B):Eb n (nh n B cf k h q) (nK n R cf k h q)/\Ej n (nh n B cf k h q)/\ou n B cf k h q=pq n R cf k h q:=by
 by_cases hm:fh n cf k h q.s q.i=true;rotate_left
 .unfold nh nK ou pq;rw[if_neg hm,if_neg hm,if_neg hm,if_neg hm];exact⟨ht,hz,rfl⟩
 obtain⟨i1,i2⟩:=T6 hm;have i1':=i1;simp only[fV,aQ,decide_eq_true_eq]at i1';obtain⟨f,rfl⟩:=kV i1'.1;have hf:f<8:=ω
 unfold nh nK ou pq;rw[if_pos hm,if_pos hm,if_pos hm,if_pos hm];rcases i2 with rfl|⟨rfl|rfl,m3⟩
 .rw[if_neg δ,if_pos rfl,if_neg δ,if_pos rfl,if_neg δ,if_pos rfl,if_neg δ,if_pos rfl,aO];refine⟨λi j hi hj=>?_,λt g Tk yT=>?_,?_⟩
  .rw[aeH hR hf 8 ω];have hh:=ht i j hi hj;unfold ub at hh|-;rw[aeI hB hf];simp only[aO]at hh|-;by_cases hc:fV n (i:Int)=true/\fV n (j:Int)=true
   .rw[if_pos hc]at hh|-;by_cases h1:j=f
    .rw[if_pos ⟨hi,h1⟩,if_pos h1]
    .rw[if_neg (λe=>h1 e.2),if_neg h1,hh]
   .rw[if_neg hc]at hh|-;split
    .rfl
    .exact hh
  .rw[aeI hB hf];by_cases h1:t=f
   .rw[if_pos h1];exact⟨λ_=>rfl,λ_=>rfl⟩
   .rw[if_neg h1];exact hz t g Tk yT
  .congr 1;apply Subtype.ext;apply vL;intro j;by_cases hj:j<8
   .rw[Vk hB hf hj,ajk hR hf 8 ω j hj,if_pos hj,ht j f hj hf];unfold ub;simp only[aO];by_cases hc:fV n (j:Int)=true/\fV n (f:Int)=true
    .rw[if_pos hc]
    .rw[if_neg hc,(hz f j hf hj).2 (λe=>hc ⟨e.2,e.1⟩)]
   .rw[jQ (by rw[(rowAt B f).2];omega),jQ (by rw[(Ah R f 8).2];omega)]
 .have KJ:=m3;simp only[fV,aQ,decide_eq_true_eq]at KJ;obtain⟨g,rfl⟩:=kV KJ.1;have hg:g<8:=ω
  rw[if_pos rfl,if_pos rfl,if_pos rfl,if_pos rfl,aO,aO];have hs:=ao6 hm;have e0:fk R f g=fk B g f:=by
   rw[ht f g hf hg];unfold ub;rw[if_pos ⟨i1,m3⟩,aO,aO]
  rw[e0];generalize hq:kO (fk B g f) q=q';have hq':q'.s=true:=by rw[<-hq];exact ao9 hs
  refine⟨λi j hi hj=>?_,λt w Tk hw8=>?_,rfl⟩
  .rw[P7 hR hf hg];have hh:=ht i j hi hj;unfold ub at hh|-;rw[P7 hB hg hf];simp only[aO]at hh|-;by_cases hc:f=i/\g=j
   .obtain⟨rfl,rfl⟩:=hc;rw[if_pos ⟨rfl,rfl⟩,if_pos ⟨i1,m3⟩,if_pos ⟨rfl,rfl⟩]
   .rw[if_neg hc];by_cases hd:fV n (i:Int)=true/\fV n (j:Int)=true
    .rw[if_pos hd]at hh|-;rw[if_neg (λe=>hc ⟨e.2,e.1⟩)];exact hh
    .rw[if_neg hd]at hh|-;exact hh
  .rw[P7 hB hg hf];by_cases hc:g=t/\f=w
   .obtain⟨rfl,rfl⟩:=hc;rw[if_pos ⟨rfl,rfl⟩];exact⟨λe=>(by rw[hq']at e;exact absurd e δ),λe=>absurd ⟨m3,i1⟩ e⟩
   .rw[if_neg hc];exact hz t w Tk hw8
 .have KJ:=m3;simp only[fV,aQ,decide_eq_true_eq]at KJ;obtain⟨g,rfl⟩:=kV KJ.1;have hg:g<8:=ω
  rw[if_neg δ,if_neg δ,if_neg δ,if_neg δ,if_neg δ,if_neg δ,if_neg δ,if_neg δ,aO,aO];have e0:fk R f g=fk B g f:=by
   rw[ht f g hf hg];unfold ub;rw[if_pos ⟨i1,m3⟩,aO,aO]
  refine⟨ht,hz,?_⟩;rw[e0];congr 1;have:=(hz g f hg hf).1;cases hs:(fk B g f).s
  .rw[this hs];rfl
  .cases he:vh (fk B g f) oP
   .rfl
   .rw[ZO.mp he]at hs;exact absurd hs δ
theorem aA4(n:Int):Ej n Z8:=by
 intro t f ht hf;have:fk Z8 t f=oP:=by
  unfold fk Z8;rw[CD,if_pos ht];simp only[ju];rw[CD,if_pos hf];rfl
 exact⟨λ_=>this,λ_=>this⟩
theorem azF(n:Int):Eb n Z8 Z8:=by
 have z:∀t f:Nat,t<8->f<8->fk Z8 t f=oP:=λt f ht hf=>by
  unfold fk Z8;rw[CD,if_pos ht];simp only[ju];rw[CD,if_pos hf];rfl
 intro i j hi hj;rw[z i j hi hj];unfold ub;split
 .rw[aO,aO,z j i hj hi]
 .rfl
theorem amj:iV Tryz.prog 12 73=some (Tg.n::Tg.q::(bE 8 [Tg.q,.q,.q,.n,.n]).flatten):=κ
theorem Zf:∀{g1 g2:List Tg} {l1 l2:List Sc},gB g1 l1 l1=some true->gB g2 l2 l2=some true->gB (g1++g2) (l1++l2) (l1++l2)=some true
 | [],_,[],_,_,h2=>h2
 | [],_,_::_,_,h1,_=>by simp [gB] at h1
 | _::_,_,[],_,h1,_=>by simp [gB] at h1
 | a::g,g2,s::l,l2,h1,h2=>by
   simp only [gB] at h1
   cases hs:rJ a s s with
   | none=>rw [hs] at h1;simp at h1
   | some x =>
     cases hl:gB g l l with
     | none=>rw [hs,hl] at h1;simp at h1
     | some y =>
       rw [hs,hl] at h1
       simp only [ar,aQ] at h1
       have ih:=Zf (g1:=g) (l1:=l) (by rw [hl,h1.2]) h2
       simp only [kX,gB,hs,ih,h1.1]
       rfl
theorem ajr (r:Rq):gB [Tg.q,.q,.q,.n,.n] (fA r) (fA r)=some true:=by
 simp [gB,rJ,fA]
theorem Zg:∀l:List Rq,gB (bE l.length [Tg.q,.q,.q,.n,.n]).flatten (l.flatMap fA) (l.flatMap fA)=some true
 | []=>rfl
 | r::l=>by
   rw [cZ,xn,BB,qC]
   exact Zf (ajr r) (Zg l)
theorem agL (d:BitVec 64) (g:Bool) (r:Row):cj Tryz.prog .neq 73 (.g (fD d g r)) (.g (fD d g r))=some (.c (.b false)):=by
 rw [Jn _ κ amj]
 have h:=Zg r.1
 rw [r.2] at h
 have:gB (Tg.n::Tg.q::(bE 8 [Tg.q,.q,.q,.n,.n]).flatten) (fD d g r) (fD d g r)=some true:=by
  unfold fD jC
  simp only [gB,h]
  simp [rJ]
 rw [this];rfl
def Mg(args:List AV):Option AV:=match args with|[.c (.i k)]=>some (.c (.i (fa k)))|_=>none
theorem aeo{k}:Mg [.c (.i k)]=some (.c (.i (fa k))):=rfl
theorem ack:cE Tryz.prog 33 Mg:=by
 refine cN tn Tryz.func33 rfl Tryz.results33 Tryz.ntmps33 ?_;intro args v h;unfold Mg at h;split at h
 .rename_i k;simp only[ar]at h;subst h;refine⟨by simp,rfl,rfl,?_⟩;by_cases h1:k<0
  .have e:fa k=0:=by unfold fa;rw[if_pos ω]
   simp only[go_sem,seval,h1,e]
  by_cases h2:21<=k
  .have e:fa k=0:=by unfold fa;rw[if_neg ω,if_neg ω,if_neg ω,if_neg ω,if_neg ω,if_neg ω]
   simp only[go_sem,seval,h1,h2,e]
  .have:k=0\/k=1\/k=2\/k=3\/k=4\/k=5\/k=6\/k=7\/k=8\/k=9\/k=10\/k=11\/k=12\/k=13\/k=14\/k=15\/k=16\/k=17\/k=18\/k=19\/k=20:=ω
   rcases this with rfl|rfl|rfl|rfl|rfl|rfl|rfl|rfl|rfl|rfl|rfl|rfl|rfl|rfl|rfl|rfl|rfl|rfl|rfl|rfl|rfl;all_goals simp only[go_sem,seval]
   all_goals rfl
 .simp at h
def uS:List Sc:=Dx++((.i 0::ky)++aG 0 Z8)
theorem Bv:zT Tryz.prog 68=some uS:=κ
theorem vH:uS.length=1029:=by
 have l0:(aT (kn 0 0)).length=18:=rfl;unfold uS ky;rw[cF,cF,cZ,cF,cZ,cF,l0,x9,kh 0 yy];rfl
theorem zL:cY 1029 uS=[]:=kE (by rw[vH];exact aC _)
structure Xw where
 id:Nat
 u:Sc
 v:Sc
 R:List Row
def aY(x:Wd)(y:Xw):List Sc:=ew x.w.h x.w.t x.w.n x.w.b y.id x.w.B.length x.w.R++(bj x.D.b x.D.t y.u y.v++aG x.n y.R)
structure XI(H:AH)(x:Wd)(y:Xw):Prop where
 rd:∃m,u0 H y.id x.w.B.length x.w.B.length (cC x.w.R) x.w.B m x.w.R
 bs:mg x.D.b
 rp:jd H x.D.t y.u y.v
 bu:y.u.aj H.length=true
 bv:y.v.aj H.length=true
 l:y.R.length=8
 n8:x.n<=8
 h8:x.w.h<=8
 hb:x.D.b.n=x.w.h
 iu:aW y.u≠some y.id
 iv:aW y.v≠some y.id
def Wd.co(x:Wd):Wd:=⟨⟨0,0,x.w.h,x.w.t,x.w.n,x.w.b,x.w.B,x.w.R,.aA,[]⟩,⟨0,0,x.D.b,x.D.t,.aA,.aA⟩,x.n,[]⟩
structure Jm(S A B C:List Sc)(h:Int):Prop where
 la:A.length=21
 lb:B.length=687
 lc:C.length=321
 l:S.length=1029
 t:bV 1029 S=S
 d:cY 1029 S=[]t21:bV 21 S=A
 ud:bV 687 (cY 21 S)=B
 tc:bV 321 (cY 708 S)=C
 d21:cY 21 S=B++C
 IZ:bV 708 S=A++B
 vX:cY 708 S=C
 ta:bV 21 A=A
 tb:bV 687 B=B
 I5:bV 321 C=C
 g:S.getD 0 .any=.i h
theorem Jb{A B r:List Sc}(la:A.length=21)(lb:B.length=687)(lc:C.length=321)(e:A=.i h::r):Jm (A++(B++C)) A B C h:=by
 have l:(A++(B++C)).length=1029:=by simp only[cF,la,lb,lc]
 have ab:(A++B).length=708:=by simp only[cF,la,lb]
 have d21:cY 21 (A++(B++C))=B++C:=xf la;have vX:cY 708 (A++(B++C))=C:=by rw[<-fo];exact xf ab
 have tc:bV 321 C=C:=bR ω;exact⟨la,lb,lc,l,bR ω,kE ω,qe la,by rw[d21];exact qe lb,by rw[vX];exact tc,d21,by rw[<-fo];exact qe ab,vX,bR ω,bR ω,tc,by rw[e];rfl⟩
variable {y:Xw}{x':Wd}
section
variable {H:AH}
theorem XI.gq(h:XI H x y):Jm (aY x y) (ew x.w.h x.w.t x.w.n x.w.b y.id x.w.B.length x.w.R) (bj x.D.b x.D.t y.u y.v) (aG x.n y.R) x.w.h:=by
 obtain⟨m,hd⟩:=h.rd;exact Jb (A7 hd.R) (O4 h.bs _ _ _) (kh _ h.l) (r:=.i x.w.t::.i x.w.n::.i x.w.b::.sl y.id 0 x.w.B.length x.w.B.length::cC x.w.R) rfl
theorem XI.one(h:XI H x y):(aY x y).all Sc.one=true:=by
 unfold aY;rw[fH,fH,Cs,H3 _ _ (jO h.rp.hx) (jO h.rp.hy),AW];rfl
theorem XI.app(h:XI H x y)(X:AH):XI (H++X) x y:=by
 obtain⟨m,hd⟩:=h.rd;exact⟨⟨m,hd.app X⟩,h.bs,Cu h.rp h.bu h.bv,Sc.gJ h.bu (by simp),Sc.gJ h.bv (by simp),h.l,h.n8,h.h8,h.hb,h.iu,h.iv⟩
theorem XI.aD(h:XI H x y):y.id<H.length:=by
 obtain⟨m,hd⟩:=h.rd;exact dU (by rw[hd.o];rfl)
theorem XI.aj(h:XI H x y):(aY x y).all (Sc.aj H.length)=true:=by
 unfold aY bj;rw[fH,fH,Vg h.aD,bG,adq h.bu h.bv,Fz];rfl
theorem XI.uniq{y':Xw}(h:XI H x y)(h':XI H x' y')(e:aY x y=aY x' y'):x.co=x'.co/\y=y':=by
 obtain⟨m,hd⟩:=h.rd;obtain⟨m',EZ⟩:=h'.rd;unfold aY at e;obtain⟨e1,e2⟩:=uh e (by rw[A7 hd.R,A7 EZ.R]);obtain⟨e3,e4⟩:=uh e2 (by rw[O4 h.bs,O4 h'.bs]);simp only[ew,cK,Sc.i.injEq,Sc.sl.injEq]at e1;obtain⟨a1,a2,a3,a4,⟨a5,_,_,_⟩,a6⟩:=e1;have a7:=O9 hd.R EZ.R a6;have r1:=hd.o;rw[a5,EZ.o]at r1;simp only[ae.vec.injEq,true_and]at r1;have a8:=(RZ r1).symm;obtain⟨b1,b2⟩:=HZ h.bs h'.bs e3;obtain⟨b3,b4,b5⟩:=Pm h.rp h'.rp b2;have c1:=za (n:=x.n) h.l;rw[e4,za h'.l]at c1;simp only[ar,bD]at c1;obtain⟨c2,c3⟩:=c1;constructor
 .unfold Wd.co;rw[a1,a2,a3,a4,a7,a8,b1,b3,c2]
 .cases y;cases y';simp only at a5 b4 b5 c3;subst a5 b4 b5 c3;rfl
def adl(args:List AV)(H:AH)(v:AV):Prop:=∀x y h,args=[.g (aY x y),.c (.i h)]->XI H x y->v=.c (.b (decide (0<=h)&&decide (h<x.w.h)))
def Mh:List AV->AH->Option AV:=lg Tryz.prog [] 34 adl
theorem atm:aZ Tryz.prog 34 (λargs H=>(Mh args H).map λv=>(v,H)):=nn tn Tryz.func34 rfl Tryz.results34 Tryz.ntmps34
theorem axL(hI:XI H x y):Mh [.g (aY x y),.c (.i h)] H=some (.c (.b (decide (0<=h)&&decide (h<x.w.h)))):=by
 have:∃v,Mh [.g (aY x y),.c (.i h)] H=some v/\adl [.g (aY x y),.c (.i h)] H v:=by
  unfold Mh;apply mu (v:=.c (.b (decide (0<=h)&&decide (h<x.w.h)))) Tryz.func34 rfl Tryz.results34 Tryz.ntmps34 (by simp)
  .exact λ_ _=>rfl
  .intro _ _;have sg:=hI.gq;have l:=sg.l;have t:=sg.t;have d:=sg.d;have g:=sg.g;have o:=hI.one;generalize aY x y=S at*;by_cases h1:0<=h;all_goals simp only[go_sem,seval,l,t,d,g,o,h1]
   all_goals exact aB _ _
  .intro x' y' h' he nN;simp only[cK,AV.g.injEq,AV.c.injEq,Sc.i.injEq,and_true]at he;obtain⟨e1,rfl⟩:=he;have e2:x.co.w.h=x'.co.w.h:=congrArg (λz=>z.w.h) (hI.uniq nN e1).1;have e3:x.w.h=x'.w.h:=e2;rw[e3]
 obtain⟨v,h1,h2⟩:=this;rw[h1,h2 x y h rfl hI]
theorem au1{R:List Sl}(h:R.length=8):Qb (cC R):=⟨rF h,by unfold cC;simp[Sc.pf],zh⟩
def adm(args:List AV)(H:AH)(v:AV):Prop:=∀x y h q,args=[.g (aY x y),.c (.i h),.g (cP q)]->XI H x y->v=.c (.b (fB x h q))
def IT:List AV->AH->Option AV:=lg Tryz.prog [(33,.pu Mg),(34,.fq Mh),(35,.fq DU),(36,.fq IK),(37,.pu L6)] 10 adm
theorem acm:aZ Tryz.prog 10 (λargs H=>(IT args H).map λv=>(v,H)):=nn (tu ack (tq atm (tq acd (tq ab6 (tu ace tn))))) Tryz.func10 rfl Tryz.results10 Tryz.ntmps10
theorem aep(hI:XI H x y)(hs:ga q.s):IT [.g (aY x y),.c (.i h),.g (cP q)] H=some (.c (.b (fB x h q))):=by
 have:∃v,IT [.g (aY x y),.c (.i h),.g (cP q)] H=some v/\adm [.g (aY x y),.c (.i h),.g (cP q)] H v:=by
  unfold IT;apply mu (v:=.c (.b (fB x h q))) Tryz.func10 rfl Tryz.results10 Tryz.ntmps10 (by simp)
  .exact λ_ _=>rfl
  .intro _ _;obtain⟨lr,pr,ro⟩:=q.ok;obtain⟨m,hd⟩:=hI.rd;have sg:=hI.gq;have l:=sg.l;have t:=sg.t;have d:=sg.d;have g:=sg.g;have t21:=sg.t21;have ud:=sg.ud;have tc:=sg.tc;have la:=sg.la;have lb:=sg.lb;have lc:=sg.lc;have o:=hI.one;have ht:=λX=>axL (hI.app X) (h:=h);have wc:cP q=.i q.k::.u q.a::.u q.b::.i q.c::.i q.s::.i q.op::.u q.d::.u q.o::.b q.lv::q.r:=rfl;have rt:q.r.take 10=q.r:=rfl;have ge:=aeo (k:=q.k);have bB:x.w.B.length=64*m:=hd.l;have m14:∀X,DU [.g (ew x.w.h x.w.t x.w.n x.w.b y.id x.w.B.length x.w.R),.g (cP q)] (H++X)=some (.c (.b (pL m q.k q.a q.b q.c q.s q.op))):=λX=>by
    unfold ew;rw[wc,bB];exact aeg (au1 hd.R) q.ok hs hd.m
   have T3:=λX=>aee (H:=H++X) hI.bs x.D.t (jO hI.rp.hx) (jO hI.rp.hy) (q:=q.Q) q.ok;rw[<-Qj]at T3;have m29:L6 [.g (aG x.n y.R),.c (.i h),.g (cP q)]=some (.c (.b (fh x.n h q.k q.h q.rs q.i))):=by
    have:=aaL x.n hI.l;unfold cP Wa.r;rw[L7,if_pos this.1,this.2]
   generalize aY x y=S at*;generalize ew x.w.h x.w.t x.w.n x.w.b y.id x.w.B.length x.w.R=A at*;generalize bj x.D.b x.D.t y.u y.v=B at*;generalize aG x.n y.R=C at*;rw[wc]at m14 T3 m29;by_cases k1:q.k<1
   .have g0:fa q.k=0:=by unfold fa;rw[if_pos k1]
    have e:fB x h q=false:=by unfold fB;rw[if_pos k1]
    rw[g0]at ge;rw[e];simp only[go_sem,seval,wc,lr,ro,rt,ge,l,t,d,o];exact aB _ _
   by_cases k8:q.k<=8
   .have g1:fa q.k=1:=by unfold fa;rw[if_neg k1,if_pos k8]
    rw[g1]at ge;have e:fB x h q=(pL m q.k q.a q.b q.c q.s q.op&&(decide (0<=h)&&decide (h<x.w.h))):=by
     unfold fB;rw[if_neg k1,if_pos k8];unfold iQ;rw[T4 hd.m,bB,Bool.and_assoc];rfl
    rw[e];generalize pL m q.k q.a q.b q.c q.s q.op=z at*;obtain⟨y2,hy⟩:∃y2:Bool,y2=(decide (0<=h)&&decide (h<x.w.h)):=⟨_,rfl⟩;rw[<-hy]at ht|-;cases y2<;>cases z;all_goals simp only[go_sem,seval,wc,lr,ro,rt,ge,l,t,d,o,ht,m14,t21,la]
    all_goals exact aB _ _
   by_cases k3:q.k=12\/q.k=13\/q.k=14
   .have g1:fa q.k=3:=by unfold fa;rw[if_neg k1,if_neg k8,if_neg ω,if_pos ω]
    rw[g1]at ge;have e:fB x h q=fh x.n h q.k q.h q.rs q.i:=by unfold fB;rw[if_neg k1,if_neg k8,if_pos k3]
    rw[e];simp only[go_sem,seval,wc,lr,ro,rt,ge,l,t,d,o,m29,tc,lc];exact aB _ _
   by_cases k4:q.k=15\/q.k=16\/q.k=17
   .have g1:fa q.k=4:=by unfold fa;rw[if_neg k1,if_neg k8,if_neg ω,if_neg ω,if_pos ω]
    rw[g1]at ge;have e:fB x h q=true:=by unfold fB;rw[if_neg k1,if_neg k8,if_neg k3,if_pos k4]
    rw[e];simp only[go_sem,seval,wc,lr,ro,rt,ge,l,t,d,o];exact aB _ _
   have e:fB x h q=(j9 x.D.b.n q.Q&&(!decide (q.k=11)||(decide (0<=h)&&decide (h<x.w.h)))):=by unfold fB;rw[if_neg k1,if_neg k8,if_neg k3,if_neg k4]
   rw[e];by_cases k20:20<q.k
   .have g0:fa q.k=0:=by unfold fa;rw[if_neg k1,if_neg k8,if_neg ω,if_neg ω,if_neg ω,if_neg ω]
    have e0:j9 x.D.b.n q.Q=false:=by
     unfold j9;rw[if_neg (show¬(q.Q.k=9\/q.Q.k=10)from(show¬(q.k=9\/q.k=10)by omega))];exact decide_eq_false (show¬(q.k=11\/q.k=18\/q.k=19\/q.k=20)by omega)
    rw[g0]at ge;rw[e0,nZ];simp only[go_sem,seval,wc,lr,ro,rt,ge,l,t,d,o];exact aB _ _
   have gg:fa q.k=2\/fa q.k=5:=by
    unfold fa;rw[if_neg k1,if_neg k8];by_cases c:q.k<=11
    .exact .inl (if_pos c)
    .rw[if_neg c,if_neg ω,if_neg ω,if_pos ω];exact .inr rfl
   generalize j9 x.D.b.n q.Q=bb at*;obtain⟨y2,hy⟩:∃y2:Bool,y2=(decide (0<=h)&&decide (h<x.w.h)):=⟨_,rfl⟩;rw[<-hy]at ht|-;rcases Classical.propComplete (q.k=11)with Fj|Fj;all_goals rcases gg with gg|gg
   all_goals rw[gg]at ge
   all_goals cases bb
   all_goals simp only[go_sem,seval,wc,lr,ro,rt,ge,l,t,d,o,T3,ht,Fj,ud,lb]
   all_goals exact aB _ _
  .intro x' y' h' q' he nN;simp only[cK,AV.g.injEq,AV.c.injEq,Sc.i.injEq,and_true]at he;obtain⟨e1,rfl,e3⟩:=he;obtain rfl:=Qi e3;have e2:fB x.co h q=fB x'.co h q:=congrArg (λz=>fB z h q) (hI.uniq nN e1).1;exact congrArg (λb=>AV.c (.b b)) e2
 obtain⟨v,h1,h2⟩:=this;rw[h1,h2 x y h q rfl hI]
end
def lI(x:Wd)(y:Xw)(h:Int)(q:Wa):List Sc:=if fB x h q=true then(if q.k<=8 then bX (wD x.w h q.K) (wG x.w h q.K)else if nr q.k then pq x.n y.R h q.k q.h q.R else if Dc q.k then bX 0#64 false else bX (eZ x.D h q.Q) false)else bX 0#64 false
def xR(x:Wd)(y:Xw)(h:Int)(q:Wa):List Row:=if nr q.k then nK x.n y.R h q.k q.h q.R else y.R
def vl(x:Wd)(h:Int)(q:Wa):Wd:=oB x h q .aA .aA
theorem XD(x:Wd)(y:Xw)(h:Int)(q:Wa):∃d g r,lI x y h q=fD d g r:=by
 have e0:∀d g,bX d g=fD d g ju:=λd g=>by
  unfold bX fD;rw[Vj];rfl
 have e:∀n R k i j s,∃d g r,pq n R k i j s=fD d g r:=λn R k i j s=>by
  unfold pq;repeat' split
  all_goals exact⟨_,_,_,rfl⟩
 unfold lI;repeat' split
 all_goals first|exact⟨_,_,_,e0 _ _⟩|exact e _ _ _ _ _ _
structure vP(H H1:AH)(x:Wd)(y:Xw)(h:Int)(q:Wa)(u v:Sc):Prop where
 xi:XI H1 (vl x h q) ⟨y.id,u,v,xR x y h q⟩len:H.length<=H1.length
 fF:∀k,k<H.length->k≠y.id->hg H1 k=hg H k
 nu:Cg H y.u u
 nv:Cg H y.v v
 nw:fj H H1
variable {k:Nat}
section
variable {H H1:AH}
theorem XI.GW(h:XI H x y)(e1:x'.w.h=x.w.h)(e2:x'.w.B=x.w.B)(e3:x'.w.R=x.w.R)(e4:x'.D.b=x.D.b)(e5:x'.D.t=x.D.t)(e6:x'.n=x.n):XI H x' y:=by
 refine⟨?_,?_,?_,h.bu,h.bv,h.l,?_,?_,?_,h.iu,h.iv⟩
 .rw[e2,e3];exact h.rd
 .rw[e4];exact h.bs
 .rw[e5];exact h.rp
 .rw[e6];exact h.n8
 .rw[e1];exact h.h8
 .rw[e4,e1];exact h.hb
theorem Z0(x:Wd)(h:Int)(q:Wa):fB x.co h q=fB x h q:=rfl
theorem R6(x:Wd)(h:Int)(q:Wa):kr x.co h q=kr x h q:=rfl
theorem R7(x:Wd)(h:Int)(q:Wa):kG x.co h q=kG x h q:=rfl
theorem R8(x:Wd)(h:Int)(q:Wa):flb x.co h q=flb x h q:=rfl
theorem R9(x:Wd)(h:Int)(q:Wa):ku x.co h q=ku x h q:=rfl
theorem afk(x:Wd)(y:Xw)(h:Int)(q:Wa):lI x.co y h q=lI x y h q:=rfl
theorem Qq(x:Wd)(y:Xw)(h:Int)(q:Wa):xR x.co y h q=xR x y h q:=rfl
theorem afm(e0:x'.w.h=x.w.h)(e1:x'.w.t=x.w.t)(e7:x'.w.n=x.w.n)(e8:x'.w.b=x.w.b)(e2:x'.w.B=x.w.B)(e3:x'.w.R=x.w.R)(e4:x'.D.b=x.D.b)(e5:x'.D.t=x.D.t)(e6:x'.n=x.n):aY x' y=aY x y:=by
 unfold aY;rw[e0,e1,e7,e8,e2,e3,e4,e5,e6]
theorem afl:aY (vl x.co h q) y=aY (vl x h q) y:=afm rfl rfl rfl rfl (R6 x h q) (R7 x h q) (R8 x h q) (R9 x h q) rfl
theorem vP.co{v:Sc}(s:vP H H1 x y h q u v):vP H H1 x.co y h q u v:=⟨by rw[Qq];exact s.xi.GW rfl (R6 x h q) (R7 x h q) (R8 x h q) (R9 x h q) rfl,s.len,s.fF,s.nu,s.nv,s.nw⟩
theorem vP.oc{v:Sc}(s:vP H H1 x.co y h q u v):vP H H1 x y h q u v:=⟨by rw[<-Qq];exact s.xi.GW rfl (R6 x h q).symm (R7 x h q).symm (R8 x h q).symm (R9 x h q).symm rfl,s.len,s.fF,s.nu,s.nv,s.nw⟩
def Va(args:List AV)(H:AH)(v:AV)(H1:AH):Prop:=∀x y h q,args=[.g (aY x y),.c (.i h),.g (cP q)]->XI H x y->∃u w,v=.t [.g (aY (vl x h q) ⟨y.id,u,w,xR x y h q⟩),.g (lI x y h q),.c (.b (fB x h q))]/\vP H H1 x y h q u w
def zy:List AV->AH->Option (AV×AH):=uw Tryz.prog [(10,.fq IT),(33,.pu Mg),(41,.fp Cx),(42,.fp rI),(43,.pu L0)] 12 Va
theorem atl:aZ Tryz.prog 12 zy:=Ap (tq acm (tu ack (tp asf (tp asy (tu asz tn))))) Tryz.func12 rfl Tryz.results12 Tryz.ntmps12
theorem Mv{v:AV}(hI:XI H x y)(h1:v=.t [.g (aY (vl x h q) ⟨y.id,u,w,xR x y h q⟩),.g (lI x y h q),.c (.b (fB x h q))])(h2:vP H H1 x y h q u w):Va [.g (aY x y),.c (.i h),.g (cP q)] H v H1:=by
 intro x' y' h' q' he nN;simp only[cK,AV.g.injEq,AV.c.injEq,Sc.i.injEq,and_true]at he;obtain⟨e1,rfl,e3⟩:=he;obtain rfl:=Qi e3;obtain⟨ec,rfl⟩:=hI.uniq nN e1;refine⟨u,w,?_,?_⟩
 .rw[<-afl (x:=x'),<-afk x',<-Qq x',<-Z0 x',<-ec,Qq,afl,afk,Z0];exact h1
 .have:=h2.co;rw[ec]at this;exact this.oc
theorem vP.same(hI:XI H x y)(X:AH)(hX:(X.all λo=>o.live=false||o.owned)=true)(eB:kr x h q=x.w.B)(eR:kG x h q=x.w.R)(eM:xR x y h q=y.R)(eb:flb x h q=x.D.b)(et:ku x h q=x.D.t):vP H (H++X) x y h q y.u y.v/\aY (vl x h q) ⟨y.id,y.u,y.v,xR x y h q⟩=aY x y:=by
 have e:(⟨y.id,y.u,y.v,xR x y h q⟩:Xw)=y:=by rw[eM]
 rw[e];exact⟨⟨by rw[e];exact(hI.app X).GW rfl eB eR eb et rfl,by simp,λk hk _=>cL hk,AX,AX,jr hX⟩,afm rfl rfl rfl rfl eB eR eb et rfl⟩
theorem aAv(hI:XI H x y)(hm:fB x h q=false):kr x h q=x.w.B/\kG x h q=x.w.R/\xR x y h q=y.R/\flb x h q=x.D.b/\ku x h q=x.D.t:=by
 unfold fB at hm;by_cases k8:q.k<=8
 .have ok:iQ x.w h q.K=false:=by
   by_cases k1:q.k<1
   .unfold iQ;cases hf:mL q.K.k q.K.a q.K.c q.K.s q.K.op
    .rfl
    .have:=JR hf;unfold fa at this;rw[if_pos (show q.K.k<1 from k1)]at this;omega
   .rw[if_neg k1,if_pos k8]at hm;exact hm
  have eW:ie x.w h q.K=none:=by unfold ie;rw[if_neg (by simp[ok])]
  refine⟨?_,?_,?_,?_,?_⟩
  .unfold kr wB;rw[if_pos k8,eW]
  .unfold kG wR;rw[if_pos k8,if_neg (by simp[ok])]
  .unfold xR;rw[if_neg (show¬nr q.k by unfold nr;omega)]
  .unfold flb;rw[if_neg ω]
  .unfold ku;rw[if_neg ω]
 rw[if_neg ω,if_neg k8]at hm;refine⟨by unfold kr;rw[if_neg k8],by unfold kG;rw[if_neg k8],?_,?_,?_⟩
 .unfold xR;split
  .rename_i hk;rw[if_pos (show q.k=12\/q.k=13\/q.k=14 from hk)]at hm;unfold nK;show(if fh x.n h q.k q.h q.rs q.i=true then _ else _)=_;rw[if_neg (by simp[hm])]
  .rfl
 all_goals first|unfold flb|unfold ku
 all_goals split
 all_goals first|rfl|skip
 all_goals
  rename_i hk;obtain⟨_,n1,n2⟩:=hk;rw[if_neg (show¬(q.k=12\/q.k=13\/q.k=14)from n1),if_neg (show¬(q.k=15\/q.k=16\/q.k=17)from n2)]at hm;have bo:eC x.D.b.n h q.Q=false:=by
   unfold eC;rw[hI.hb]at hm|-;have:q.Q.k=q.k:=rfl;rw[this];revert hm;cases j9 x.w.h q.Q<;>by_cases c1:q.k=11<;>by_cases c2:0<=h<;>by_cases c3:h<x.w.h<;>simp[c1,c2,c3]<;>omega
  first|(unfold dj;rw[if_neg (by simp[bo])])|(unfold dF;rw[if_neg (by simp[bo])])
theorem TG{B b:List Int}(h1:∀x∈B,0<=x/\x<=255)(h2:∀x∈b,0<=x/\x<=255):∀x∈gp B k b,0<=x/\x<=255:=λx hx=>by
 unfold gp at hx;rw[xj,xj]at hx;rcases hx with(hx|hx)|hx
 .exact h1 x (List.mem_of_mem_take hx)
 .exact h2 x hx
 .exact h1 x (List.mem_of_mem_drop hx)
theorem anQ{B:List Int}{b:BitVec 64}(h:∀y∈B,0<=y/\y<=255):∀y∈kv B a b c s v,0<=y/\y<=255:=by
 have lb:∀(v:BitVec 64)(n:Nat),∀y∈iK v n,0<=y/\y<=255:=λv n y hy=>by
  unfold iK at hy;rw[List.mem_map]at hy;obtain⟨i,_,rfl⟩:=hy;exact anU
 unfold kv;split
 .exact TG h (lb _ _)
 .exact TG (TG h (lb _ _)) (lb _ _)
theorem az4{z:Fw}{q:Ak}(hb:∀y∈z.B,0<=y/\y<=255):∀y∈wB z h q,0<=y/\y<=255:=by
 unfold wB;split
 .exact anQ hb
 .exact hb
theorem ahC{D:Bd}(h:mZ D.b)(q:Aq):mZ (m9 D q):=by
 unfold m9;repeat' split
 all_goals first
 |exact h|exact Ys h _|exact Rk h _ _|exact h.pk (OX h.k _ _) (OW _ _ _)|exact h.ck (Na h.c _) (YX _ _)
theorem ahB{D:Bd}(h:mZ D.b)(i:Int)(q:Aq):mZ (dj D i q):=by
 unfold dj;split
 .exact Yq (ahC h q) _
 .exact h
theorem axK (hI:XI H x y) (la':x.D.t.A.length < 1000000) (lb':x.D.t.B.length < 1000000) (hs:ga q.s) :
 ∃u w H1,zy [.g (aY x y),.c (.i h),.g (cP q)] H=some (.t [.g (aY (vl x h q) ⟨y.id,u,w,xR x y h q⟩),.g (lI x y h q),.c (.b (fB x h q))],H1)/\vP H H1 x y h q u w:=by
 have:∃v H1,zy [.g (aY x y),.c (.i h),.g (cP q)] H=some (v,H1)/\H.length<=H1.length/\Va [.g (aY x y),.c (.i h),.g (cP q)] H v H1:=by
  obtain ⟨lr,pr,ro⟩:=q.ok
  obtain ⟨m,hd⟩:=hI.rd
  have sg:=hI.gq
  have l:=sg.l
  have t:=sg.t
  have d:=sg.d
  have g:=sg.g
  have o:=hI.one
  have lq:(cP q).length=19:=rfl
  have tq:(cP q).take 19=cP q:=rfl
  have oq:(cP q).all Sc.one=true:=rfl
  have kq:(cP q).getD 0 .any=.i q.k:=rfl
  have ge:=aeo (k:=q.k)
  have my:=λX=>aep (hI.app X) (h:=h) (q:=q) hs
  have zA:(.u 0#64::.b false::dA:List Sc)=bX 0#64 false:=rfl
  cases aR:fB x h q
  .obtain ⟨e1,e2,e3,e4,e5⟩:=aAv hI aR
   have ea:lI x y h q=bX 0#64 false:=by unfold lI;rw [aR];rfl
   rw [aR] at my
   obtain ⟨s1,s2⟩:=vP.same hI [.own (aY x y),.own (cP q),.own (aY x y),.own (bX 0#64 false)] rfl e1 e2 e3 e4 e5
   unfold zy
   apply ik (v:=.t [.g (aY x y),.g (bX 0#64 false),.c (.b false)]) (H1:=H++[.own (aY x y),.own (cP q),.own (aY x y),.own (bX 0#64 false)]) Tryz.func12 rfl Tryz.results12 Tryz.ntmps12 (by simp)
   .intro _ _
    generalize hW:cP q=W at *
    generalize hS:aY x y=S at *
    simp only [go_sem,seval,lq,tq,oq,l,t,d,o,my,Bv,vH,zL]
    --SHOW
    exact aN
   .simp
   .exact Mv hI (by rw [s2,ea,aR]) s1
  rw [aR] at my
  have lz:=vH
  have dz:=zL
  have eA2:∀A:List Sc,A.length=42->cY 42 A=[]:=λA h=>kE ω
  have a0l:(bX 0#64 false).length=42:=Jo _ _
  by_cases k4:Dc q.k
  .have Ku:q.k=15\/q.k=16\/q.k=17:=k4
   have n8:¬q.k<=8:=ω
   have n3:¬nr q.k:=by unfold nr;omega
   have g4:fa q.k=4:=by unfold fa;rw [if_neg ω,if_neg n8,if_neg ω,if_neg ω,if_pos ω]
   rw [g4] at ge
   have ea:lI x y h q=bX 0#64 false:=by unfold lI;rw [aR,if_pos rfl,if_neg n8,if_neg n3,if_pos k4]
   obtain ⟨s1,s2⟩:=vP.same hI (h:=h) (q:=q) [.own (aY x y),.own (cP q),.own (aY x y),.own (bX 0#64 false)] rfl (by unfold kr;rw [if_neg n8]) (by unfold kG;rw [if_neg n8]) (by unfold xR;rw [if_neg n3]) (by unfold flb;rw [if_neg (λc=>c.2.2 k4)]) (by unfold ku;rw [if_neg (λc=>c.2.2 k4)])
   unfold zy
   apply ik (v:=.t [.g (aY x y),.g (bX 0#64 false),.c (.b true)]) (H1:=H++[.own (aY x y),.own (cP q),.own (aY x y),.own (bX 0#64 false)]) Tryz.func12 rfl Tryz.results12 Tryz.ntmps12 (by simp)
   .intro _ _
    generalize hW:cP q=W at *
    generalize hS:aY x y=S at *
    simp only [go_sem,seval,lq,tq,oq,kq,l,t,d,o,my,ge,Bv,vH,zL]
    exact aN
   .simp
   .exact Mv hI (by rw [s2,ea,aR]) s1
  by_cases k8:q.k<=8
  .have n3:¬nr q.k:=by unfold nr;omega
   have hw:iQ x.w h q.K=true:=by
    have:=aR
    unfold fB at this
    by_cases k1:q.k < 1
    .rw [if_pos k1] at this;simp at this
    .rw [if_neg k1,if_pos k8] at this;exact this
   have g1:fa q.k=1:=by
    have h1:=hw
    unfold iQ at h1
    rw [aQ] at h1
    exact JR h1.1
   rw [g1] at ge
   have ea:lI x y h q=bX (wD x.w h q.K) (wG x.w h q.K):=by unfold lI;rw [aR,if_pos rfl,if_pos k8]
   obtain ⟨A1,JW⟩:∃A1,A1=ew x.w.h x.w.t x.w.n x.w.b y.id x.w.B.length (wR x.w h q.K):=⟨_,rfl⟩
   obtain ⟨Q,hQ⟩:∃Q,Q=bX (wD x.w h q.K) (wG x.w h q.K):=⟨_,rfl⟩
   have al:Q.length=42:=by rw [hQ];exact Jo _ _
   have a1:Q.all Sc.one=true:=by rw [hQ];exact MQ _ _
   have cQ:Q.take 42=Q:=bR ω
   rw [<-hQ] at ea
   have hB:(wB x.w h q.K).length=x.w.B.length:=afa
   have hR:(wR x.w h q.K).length=8:=afb hd.R
   have lA1:A1.length=21:=by rw [JW];exact A7 hR
   have oA1:A1.all Sc.one=true:=by rw [JW];exact Cs
   have aP:Jm (A1++(bj x.D.b x.D.t y.u y.v++aG x.n y.R)) A1 (bj x.D.b x.D.t y.u y.v) (aG x.n y.R) x.w.h:=Jb lA1 sg.lb sg.lc (r:=.i x.w.t::.i x.w.n::.i x.w.b::.sl y.id 0 x.w.B.length x.w.B.length::cC (wR x.w h q.K)) (by rw [JW];rfl)
   have l2:=aP.l
   have t2:=aP.t
   have d21:=sg.d21
   have t21:=sg.t21
   have la:=sg.la
   have ta2:=aP.ta
   have aD:=hI.aD
   obtain ⟨K,hK⟩:∃K,K=H.set y.id (.vec 1 ((wB x.w h q.K).flatMap bQ)):=⟨_,rfl⟩
   have lK:K.length=H.length:=by rw [hK,js]
   have fd:∀X,Cx [.g (ew x.w.h x.w.t x.w.n x.w.b y.id x.w.B.length x.w.R),.c (.i h),.g (cP q)] (H++X)=some (.t [.g A1,.g Q,.c (.b true)],K++X):=λX=>by
    have e:=axf (q1:=x.w.h) (q2:=x.w.t) (q3:=x.w.n) (q4:=x.w.b) (h:=h) (k:=q.k) (a:=q.a) (b:=q.b) (c:=q.c) (s:=q.s) (op:=q.op) (d:=q.d) (o:=q.o) (lv:=q.lv) (r:=q.r) (hd.app X) q.ok hs hI.h8
    have e1:wR (tv x.w.h x.w.t x.w.n x.w.b x.w.B x.w.R) h q.K=wR x.w h q.K:=rfl
    have e2:wD (tv x.w.h x.w.t x.w.n x.w.b x.w.B x.w.R) h q.K=wD x.w h q.K:=rfl
    have e3:wG (tv x.w.h x.w.t x.w.n x.w.b x.w.B x.w.R) h q.K=wG x.w h q.K:=rfl
    have e4:wB (tv x.w.h x.w.t x.w.n x.w.b x.w.B x.w.R) h q.K=wB x.w h q.K:=rfl
    have e5:iQ (tv x.w.h x.w.t x.w.n x.w.b x.w.B x.w.R) h q.K=iQ x.w h q.K:=rfl
    have eK:(⟨q.k,q.a,q.b,q.c,q.s,q.op,q.d,q.o,q.lv⟩:Ak)=q.K:=rfl
    rw [eK,e1,e2,e3,e4,e5,hw,<-hQ,<-JW,lN _ _ aD,<-hK] at e
    exact e
   have gH:∀X,hg (K++X) H.length=hg X 0:=λX=>by rw [<-lK,me]
   have gN:∀X n,hg (K++X) (H.length+n)=hg X n:=λX n=>by rw [<-lK,gY]
   have sH:∀X o,(K++X).set H.length o=K++X.set 0 o:=λX o=>by rw [<-lK,D4]
   have sN:∀X n o,(K++X).set (H.length+n) o=K++X.set n o:=λX n o=>by rw [<-lK,vF]
   obtain ⟨S',sr⟩:∃S',S'=A1++(bj x.D.b x.D.t y.u y.v++aG x.n y.R):=⟨_,rfl⟩
   rw [<-sr] at l2 t2
   have o2:S'.all Sc.one=true:=by
    rw [sr,fH,fH,oA1,H3 _ _ (jO hI.rp.hx) (jO hI.rp.hy),AW];rfl
   have aBb:∀P:List Sc,P++cY 21 (aY x y)=P++(bj x.D.b x.D.t y.u y.v++aG x.n y.R):=λP=>by rw [d21]
   have eS:A1++cY 21 (aY x y)=S':=by rw [d21,sr]
   have es:aY (vl x h q) ⟨y.id,y.u,y.v,xR x y h q⟩=S':=by
    rw [sr,JW]
    have r1:xR x y h q=y.R:=if_neg n3
    have r2:kr x h q=wB x.w h q.K:=if_pos k8
    have r3:kG x h q=wR x.w h q.K:=if_pos k8
    have r4:flb x h q=x.D.b:=if_neg (λc=>ω)
    have r5:ku x h q=x.D.t:=if_neg (λc=>ω)
    show ew x.w.h x.w.t x.w.n x.w.b y.id (kr x h q).length (kG x h q)++(bj (flb x h q) (ku x h q) y.u y.v++aG x.n (xR x y h q))=_
    rw [r1,r2,r3,r4,r5,hB]
   have zS:cY 21 Dx=[]:=rfl
   have zS':Dx.length=21:=rfl
   unfold zy
   apply ik (v:=.t [.g S',.g Q,.c (.b true)]) (H1:=K++[.own S',.own (cP q),.own S',.own Q,.own A1,.own Q]) Tryz.func12 rfl Tryz.results12 Tryz.ntmps12 (by simp)
   .intro _ _
    generalize hW:cP q=W at *
    generalize hS:aY x y=S at *
    generalize ew x.w.h x.w.t x.w.n x.w.b y.id x.w.B.length x.w.R=A0 at *
    simp only [go_sem,seval,lq,tq,oq,kq,l,t,d,o,my,ge,Bv,vH,zL,t21,la,fd,gH,gN,sH,sN,lA1,oA1,ta2,al,a1,cQ,eS,l2,t2,o2]
    (repeat' first | apply cn | (intro c;exact absurd c ω) | (intro _;kernel_rfl) | kernel_rfl)
    exact aN
   .rw [cF,lK];omega
   .refine Mv hI (u:=y.u) (w:=y.v) (by rw [es,ea,aR]) ?_
    have r1:xR x y h q=y.R:=if_neg n3
    have r2:kr x h q=wB x.w h q.K:=if_pos k8
    have r3:kG x h q=wR x.w h q.K:=if_pos k8
    have r4:flb x h q=x.D.b:=if_neg (λc=>ω)
    have r5:ku x h q=x.D.t:=if_neg (λc=>ω)
    have kk:∀k,k < H.length->k≠y.id->∀X,hg (K++X) k=hg H k:=λk h1 h2 X=>by rw [cL ω,hK,fg (λc=>h2 c.symm)]
    have bm:∀(s:Sc) X,s.aj H.length=true->s.aj (K++X).length=true:=λs X hs=>Sc.gJ hs (by rw [cF,lK];omega)
    refine ⟨?_,by rw [cF,lK];omega,λk h1 h2=>kk k h1 h2 _,AX,AX,iw (by rw [hK];exact jT λ_=>rfl) (jr rfl)⟩
    rw [r1]
    refine ⟨⟨m,?_,?_,?_,?_,hd.m,?_,?_,?_⟩,?_,?_,bm _ _ hI.bu,bm _ _ hI.bv,hI.l,hI.n8,hI.h8,?_,hI.iu,hI.iv⟩
    .show hg _ y.id=.vec 1 ((kr x h q).flatMap bQ)
     rw [cL ω,hK,jj aD,r2]
    .rfl
    .rfl
    .show (kr x h q).length=_
     rw [r2,hB];exact hd.l
    .show ∀y∈kr x h q,0<=y/\y<=255
     rw [r2];exact az4 hd.ot
    .rfl
    .show (kG x h q).length=8
     rw [r3];exact hR
    .show mg (flb x h q)
     rw [r4];exact hI.bs
    .show jd _ (ku x h q) y.u y.v
     rw [r5]
     exact Vq hI.rp (λi hi=>kk i (rL hI.rp.hx hI.bu hi) (λc=>hI.iu (c ▸ hi)) _) (λi hi=>kk i (rL hI.rp.hy hI.bv hi) (λc=>hI.iv (c ▸ hi)) _)
    .show (flb x h q).n=x.w.h
     rw [r4];exact hI.hb
  by_cases k3:nr q.k
  .have Fm:q.k=12\/q.k=13\/q.k=14:=k3
   have g3:fa q.k=3:=by unfold fa;rw [if_neg ω,if_neg k8,if_neg ω,if_pos ω]
   rw [g3] at ge
   have hm:fh x.n h q.k q.h q.rs q.i=true:=by
    have:=aR
    unfold fB at this
    rw [if_neg ω,if_neg k8,if_pos Fm] at this;exact this
   have ea:lI x y h q=pq x.n y.R h q.k q.h q.R:=by unfold lI;rw [aR,if_pos rfl,if_neg k8,if_pos k3]
   obtain ⟨C1,NW⟩:∃C1,C1=aG x.n (nK x.n y.R h q.k q.h q.R):=⟨_,rfl⟩
   obtain ⟨Q,hQ⟩:∃Q,Q=pq x.n y.R h q.k q.h q.R:=⟨_,rfl⟩
   obtain ⟨qd,qg,qr,Ok⟩:=XD x y h q
   have al:Q.length=42:=by rw [hQ,<-ea,Ok];exact MT _ _ _
   have a1:Q.all Sc.one=true:=by rw [hQ,<-ea,Ok];exact MU _ _ _
   have cQ:Q.take 42=Q:=bR ω
   rw [<-hQ] at ea
   have lC:(nK x.n y.R h q.k q.h q.R).length=8:=by rw [ZE];exact hI.l
   have lC1:C1.length=321:=by rw [NW];exact kh _ lC
   have oC1:C1.all Sc.one=true:=by rw [NW];exact AW _ _
   have tC1:bV 321 C1=C1:=bR ω
   have eQ:(⟨q.rs,q.rv,q.rd,q.va,q.i⟩:Rq)=q.R:=rfl
   have fd:L0 [.g (aG x.n y.R),.c (.i h),.g (cP q)]=some (.t [.g C1,.g Q,.c (.b true)]):=by
    have ii:Ov (aG x.n y.R):=⟨x.n,y.R,rfl,hI.l,hI.n8⟩
    unfold cP Wa.r
    rw [axr,if_pos ii,eQ]
    unfold La
    rw [za hI.l]
    show some (AV.t [.g (aG x.n (nK x.n y.R h q.k q.h q.R)),.g (pq x.n y.R h q.k q.h q.R),.c (.b (fh x.n h q.k q.h q.rs q.i))])=_
    rw [hm,<-NW,<-hQ]
   have IZ:=sg.IZ
   have tc:=sg.tc
   have vX:=sg.vX
   have lc:=sg.lc
   have I5:=sg.I5
   obtain ⟨S',sr⟩:∃S',S'=ew x.w.h x.w.t x.w.n x.w.b y.id x.w.B.length x.w.R++(bj x.D.b x.D.t y.u y.v++C1):=⟨_,rfl⟩
   have aP:Jm S' (ew x.w.h x.w.t x.w.n x.w.b y.id x.w.B.length x.w.R) (bj x.D.b x.D.t y.u y.v) C1 x.w.h:=by
    rw [sr]
    exact Jb sg.la sg.lb lC1 (r:=.i x.w.t::.i x.w.n::.i x.w.b::.sl y.id 0 x.w.B.length x.w.B.length::cC x.w.R) rfl
   have l2:=aP.l
   have t2:=aP.t
   have o2:S'.all Sc.one=true:=by
    rw [sr,fH,fH,Cs,H3 _ _ (jO hI.rp.hx) (jO hI.rp.hy),oC1];rfl
   have eS:bV 708 (aY x y)++C1=S':=by rw [IZ,sr,fo]
   have es:aY (vl x h q) ⟨y.id,y.u,y.v,xR x y h q⟩=S':=by
    have r1:xR x y h q=nK x.n y.R h q.k q.h q.R:=if_pos k3
    have r2:kr x h q=x.w.B:=if_neg k8
    have r3:kG x h q=x.w.R:=if_neg k8
    have r4:flb x h q=x.D.b:=if_neg (λc=>c.2.1 k3)
    have r5:ku x h q=x.D.t:=if_neg (λc=>c.2.1 k3)
    show ew x.w.h x.w.t x.w.n x.w.b y.id (kr x h q).length (kG x h q)++(bj (flb x h q) (ku x h q) y.u y.v++aG x.n (xR x y h q))=_
    rw [r1,r2,r3,r4,r5,sr,NW]
   have z3:=kh 0 yy
   have dz3:cY 321 (aG 0 Z8)=[]:=kE ω
   unfold zy
   apply ik (v:=.t [.g S',.g Q,.c (.b true)]) (H1:=H++[.own S',.own (cP q),.own S',.own Q,.own C1,.own Q]) Tryz.func12 rfl Tryz.results12 Tryz.ntmps12 (by simp)
   .intro _ _
    generalize hW:cP q=W at *
    generalize hS:aY x y=S at *
    generalize aG x.n y.R=C0 at *
    simp only [go_sem,seval,lq,tq,oq,kq,l,t,d,o,my,ge,Bv,vH,zL,tc,lc,fd,lC1,oC1,tC1,Ei,z3,dz3,al,a1,cQ,eS,l2,t2,o2]
    (repeat' first | apply cn | (intro c;exact absurd c ω) | (intro _;kernel_rfl) | kernel_rfl)
    exact aN
   .simp
   .refine Mv hI (u:=y.u) (w:=y.v) (by rw [es,ea,aR]) ?_
    have r1:xR x y h q=nK x.n y.R h q.k q.h q.R:=if_pos k3
    refine ⟨?_,by simp,λk h1 _=>cL h1,AX,AX,jr rfl⟩
    rw [r1]
    have hX:=(hI.app [.own S',.own (cP q),.own S',.own Q,.own C1,.own Q]).GW (x':=vl x h q) rfl (if_neg k8) (if_neg k8) (if_neg (λc=>c.2.1 k3)) (if_neg (λc=>c.2.1 k3)) rfl
    exact ⟨hX.rd,hX.bs,hX.rp,hX.bu,hX.bv,lC,hX.n8,hX.h8,hX.hb,hX.iu,hX.iv⟩
  have Ku:¬(q.k=15\/q.k=16\/q.k=17):=k4
  have Fm:¬(q.k=12\/q.k=13\/q.k=14):=k3
  have hb:=aR
  unfold fB at hb
  rw [if_neg ω,if_neg k8,if_neg Fm,if_neg Ku] at hb
  have bo:eC x.D.b.n h q.Q=true:=by
   unfold eC
   rw [hI.hb] at hb |-
   have:q.Q.k=q.k:=rfl
   rw [this]
   revert hb
   cases j9 x.w.h q.Q <;> by_cases c1:q.k=11 <;> by_cases c2:0<=h <;> by_cases c3:h < x.w.h <;> simp [c1,c2,c3] <;> omega
  have gg:fa q.k=2\/fa q.k=5:=by
   have Ax:=hb
   rw [aQ] at Ax
   have uA:=Ax.1
   unfold j9 at uA
   have eK:q.Q.k=q.k:=rfl
   rw [eK] at uA
   unfold fa
   by_cases c:q.k=9\/q.k=10
   .rw [if_neg ω,if_neg k8,if_pos ω];exact .inl rfl
   .rw [if_neg c] at uA
    have hb3:=of_decide_eq_true uA
    by_cases c2:q.k<=11
    .rw [if_neg ω,if_neg k8,if_pos c2];exact .inl rfl
    .rw [if_neg ω,if_neg k8,if_neg c2,if_neg ω,if_neg ω,if_pos ω];exact .inr rfl
  have ea:lI x y h q=bX (eZ x.D h q.Q) false:=by unfold lI;rw [aR,if_pos rfl,if_neg k8,if_neg k3,if_neg k4]
  obtain ⟨S,hS⟩:∃S,S=aY x y:=⟨_,rfl⟩
  obtain ⟨W,hW⟩:∃W,W=cP q:=⟨_,rfl⟩
  have NZ:=hI.app [.own S,.own W,.own uS,.own (bX 0#64 false)]
  obtain ⟨u,w,K1,e1,st⟩:=axu NZ.bs NZ.rp NZ.bu NZ.bv la' lb' h (q:=q.Q) q.ok
  have lO:(H++[ae.own S,.own W,.own uS,.own (bX 0#64 false)]).length=H.length+4:=by simp
  have l1:H.length+4<=K1.length:=by
   obtain ⟨X,hX⟩:=st.ex
   rw [hX,cF,lO];omega
  have k1:∀j,j < H.length+4->hg K1 j=hg (H++[ae.own S,.own W,.own uS,.own (bX 0#64 false)]) j:=λj hj=>by
   obtain ⟨X,hX⟩:=st.ex
   rw [hX,cL ω]
  obtain ⟨B1,CU⟩:∃B1,B1=bj (dj x.D h q.Q) (dF x.D h q.Q) u w:=⟨_,rfl⟩
  obtain ⟨Q,hQ⟩:∃Q,Q=bX (eZ x.D h q.Q) false:=⟨_,rfl⟩
  have fd:rI [.g (bj x.D.b x.D.t y.u y.v),.c (.i h),.g W] (H++[.own S,.own W,.own uS,.own (bX 0#64 false)])=some (.t [.g B1,.g Q,.c (.b true)],K1):=by
   rw [<-Qj,<-hW] at e1;rw [<-bo,CU,hQ];exact e1
  have YE:mg (dj x.D h q.Q):=⟨ahB hI.bs.ok h q.Q,auu hI.bs.kI h q.Q⟩
  have al:Q.length=42:=by rw [hQ];exact Jo _ _
  have a1:Q.all Sc.one=true:=by rw [hQ];exact MQ _ _
  have cQ:Q.take 42=Q:=bR ω
  rw [<-hQ] at ea
  have HG:B1.length=687:=by rw [CU];exact O4 YE _ _ _
  have oB1:B1.all Sc.one=true:=by rw [CU];exact H3 _ _ (jO st.rp.hx) (jO st.rp.hy)
  have tB1:bV 687 B1=B1:=bR ω
  have tP:ky.length=686:=by unfold ky;rw [cF,cZ,cF,x9];rfl
  have th:cY 686 ky=[]:=kE ω
  have t21:=sg.t21
  have ud:=sg.ud
  have lb:=sg.lb
  have vX:=sg.vX
  obtain ⟨S',sr⟩:∃S',S'=ew x.w.h x.w.t x.w.n x.w.b y.id x.w.B.length x.w.R++(B1++aG x.n y.R):=⟨_,rfl⟩
  have aP:Jm S' (ew x.w.h x.w.t x.w.n x.w.b y.id x.w.B.length x.w.R) B1 (aG x.n y.R) x.w.h:=by
   rw [sr]
   exact Jb sg.la HG sg.lc (r:=.i x.w.t::.i x.w.n::.i x.w.b::.sl y.id 0 x.w.B.length x.w.B.length::cC x.w.R) rfl
  have l2:=aP.l
  have t2:=aP.t
  have o2:S'.all Sc.one=true:=by
   rw [sr,fH,fH,Cs,oB1,AW];rfl
  rw [<-hS] at l t d o g t21 ud vX my
  rw [<-hW] at lq tq oq kq my
  have eS:bV 21 S++(B1++cY 708 S)=S':=by rw [t21,vX,sr]
  have es:aY (vl x h q) ⟨y.id,u,w,xR x y h q⟩=S':=by
   have r1:xR x y h q=y.R:=if_neg k3
   have r2:kr x h q=x.w.B:=if_neg k8
   have r3:kG x h q=x.w.R:=if_neg k8
   have r4:flb x h q=dj x.D h q.Q:=if_pos ⟨ω,k3,k4⟩
   have r5:ku x h q=dF x.D h q.Q:=if_pos ⟨ω,k3,k4⟩
   show ew x.w.h x.w.t x.w.n x.w.b y.id (kr x h q).length (kG x h q)++(bj (flb x h q) (ku x h q) u w++aG x.n (xR x y h q))=_
   rw [r1,r2,r3,r4,r5,sr,CU]
  obtain ⟨N,hN⟩:∃N,N=K1.length:=⟨_,rfl⟩
  have cg:∀{K:AH} {j:Nat} {o':ae},K.length=N->j < H.length+4->hg K j=o'->∀X,hg (K++X) j=o':=λh1 h2 h3 X=>by rw [cL ω];exact h3
  have gS:hg K1 H.length=.own S:=by rw [k1 _ ω,me];rfl
  have gA:hg K1 (H.length+1)=.own W:=by rw [k1 _ ω,gY];rfl
  have gZ:hg K1 (H.length+2)=.own uS:=by rw [k1 _ ω,gY];rfl
  have g0:hg K1 (H.length+3)=.own (bX 0#64 false):=by rw [k1 _ ω,gY];rfl
  obtain ⟨K2,yN⟩:∃K2,K2=K1.set H.length (.own S'):=⟨_,rfl⟩
  have Kx:K2.length=N:=by rw [yN,js,hN]
  obtain ⟨K3,px⟩:∃K3,K3=K2.set (H.length+2) (.own S'):=⟨_,rfl⟩
  have Oz:K3.length=N:=by rw [px,js,Kx]
  obtain ⟨K4,BQ⟩:∃K4,K4=K3.set (H.length+3) (.own Q):=⟨_,rfl⟩
  have Fp:K4.length=N:=by rw [BQ,js,Oz]
  have c1:=cg (K:=K1) hN.symm ω gS
  have c2:=cg (o':=.own S') Kx (j:=H.length) ω (by rw [yN,jj ω])
  have c3:=cg (o':=.own uS) Kx (j:=H.length+2) ω (by rw [yN,fg ω];exact gZ)
  have c4:=cg (o':=.own (bX 0#64 false)) Oz (j:=H.length+3) ω (by rw [px,fg ω,yN,fg ω];exact g0)
  have c5:=cg (o':=.own S') Fp (j:=H.length+2) ω (by rw [BQ,fg ω,px,jj ω])
  have c6:=cg (o':=.own Q) Fp (j:=H.length+3) ω (by rw [BQ,jj ω])
  have s1:∀X,(K1++X).set H.length (.own S')=K2++X:=λX=>by rw [lN _ _ ω,yN]
  have s2:∀X,(K2++X).set (H.length+2) (.own S')=K3++X:=λX=>by rw [lN _ _ ω,px]
  have s3:∀X,(K3++X).set (H.length+3) (.own Q)=K4++X:=λX=>by rw [lN _ _ ω,BQ]
  have nL:∀{K:AH},K.length=N->(∀X,hg (K++X) N=hg X 0)/\(∀X j,hg (K++X) (N+j)=hg X j)/\(∀X o,(K++X).set N o=K++X.set 0 o)/\(∀X j o,(K++X).set (N+j) o=K++X.set j o):=λh=>⟨λX=>by rw [<-h,me],λX j=>by rw [<-h,gY],λX o=>by rw [<-h,D4],λX j o=>by rw [<-h,vF]⟩
  obtain ⟨n1,n2,n3,n4⟩:=nL hN.symm
  obtain ⟨m1,m2,_,_⟩:=nL Kx
  obtain ⟨m5,m6,_,_⟩:=nL Oz
  have e1n:K1.length=N:=hN.symm
  rw [<-hS,<-hW]
  unfold zy
  apply ik (v:=.t [.g S',.g Q,.c (.b true)]) (H1:=K4++[.own B1,.own Q]) Tryz.func12 rfl Tryz.results12 Tryz.ntmps12 (by simp)
  .intro _ _
   generalize bj x.D.b x.D.t y.u y.v=B0 at *
   have zA2:bX 0#64 false=.u 0#64::.b false::dA:=rfl
   rw [zA2] at fd c4
   rcases gg with gg | gg
   all_goals rw [gg] at ge
   all_goals simp only [go_sem,seval,lq,tq,oq,kq,l,t,d,o,my,ge,Bv,vH,zL,ud,lb,fd,e1n,n1,n2,n3,n4,m1,m2,m5,m6,Kx,Oz,Fp,c1,c2,c3,c4,c5,c6,s1,s2,s3,HG,oB1,tB1,tP,th,al,a1,cQ,eS,l2,t2,o2]
   --SHOW
   all_goals (repeat' first | apply cn | (intro c;exact absurd c ω) | (intro _;kernel_rfl) | kernel_rfl | exact qT st.nw κ)
   all_goals exact aN
  .rw [cF,Fp];omega
  .rw [hS,hW]
   refine Mv hI (u:=u) (w:=w) (by rw [es,ea,aR]) ?_
   have r1:xR x y h q=y.R:=if_neg k3
   have r2:kr x h q=x.w.B:=if_neg k8
   have r3:kG x h q=x.w.R:=if_neg k8
   have r4:flb x h q=dj x.D h q.Q:=if_pos ⟨ω,k3,k4⟩
   have r5:ku x h q=dF x.D h q.Q:=if_pos ⟨ω,k3,k4⟩
   have Tx:∀j,j≠H.length->j≠H.length+2->j≠H.length+3->j < N->∀X,hg (K4++X) j=hg K1 j:=λj h1 h2 h3 h4 X=>by
    rw [cL ω,BQ,fg (λc=>h3 c.symm),px,fg (λc=>h2 c.symm),yN,fg (λc=>h1 c.symm)]
   have fF:∀j,j < H.length->∀X,hg (K4++X) j=hg H j:=λj hj X=>by
    rw [Tx j ω ω ω ω,k1 j ω,cL hj]
   have nu:∀i,aW u=some i->aW y.u=some i\/H.length+4<=i:=λi hi=>(st.nu i hi).imp id (by rw [lO];exact id)
   have nv:∀i,aW w=some i->aW y.v=some i\/H.length+4<=i:=λi hi=>(st.nv i hi).imp id (by rw [lO];exact id)
   have aD:=hI.aD
   have lu:∀i,aW u=some i->i < H.length\/H.length+4<=i:=λi hi=>(nu i hi).imp (λe=>rL hI.rp.hx hI.bu e) id
   have lv:∀i,aW w=some i->i < H.length\/H.length+4<=i:=λi hi=>(nv i hi).imp (λe=>rL hI.rp.hy hI.bv e) id
   have xu:∀i,aW u=some i->i < N:=λi hi=>by rw [hN];exact rL st.rp.hx st.bu hi
   have xv:∀i,aW w=some i->i < N:=λi hi=>by rw [hN];exact rL st.rp.hy st.bv hi
   refine ⟨?_,by rw [cF,Fp];omega,λj hj _=>fF j hj _,λi hi=>(nu i hi).imp id ω,λi hi=>(nv i hi).imp id ω,iw (jr rfl) (iw st.nw (iw (by rw [BQ,px,yN];exact iw (jT λ_=>rfl) (iw (jT λ_=>rfl) (jT λ_=>rfl))) (jr rfl)))⟩
   rw [r1]
   refine ⟨⟨m,?_,?_,?_,?_,hd.m,?_,?_,?_⟩,?_,?_,Sc.gJ st.bu (by rw [cF,Fp,hN];omega),Sc.gJ st.bv (by rw [cF,Fp,hN];omega),hI.l,hI.n8,hI.h8,?_,λe=>?_,λe=>?_⟩
   .show hg _ y.id=.vec 1 ((kr x h q).flatMap bQ)
    rw [fF _ aD,r2];exact hd.o
   .rfl
   .rfl
   .show (kr x h q).length=_
    rw [r2];exact hd.l
   .show ∀y∈kr x h q,0<=y/\y<=255
    rw [r2];exact hd.ot
   .rfl
   .show (kG x h q).length=8
    rw [r3];exact hd.R
   .show mg (flb x h q)
    rw [r4];exact YE
   .show jd _ (ku x h q) u w
    rw [r5]
    exact Vq st.rp (λi hi=>by have:=lu i hi;have:=xu i hi;exact Tx i ω ω ω ω _) (λi hi=>by have:=lv i hi;have:=xv i hi;exact Tx i ω ω ω ω _)
   .show (flb x h q).n=x.w.h
    rw [r4,Yp];exact hI.hb
   .rcases nu _ e with c | c
    .exact hI.iu c
    .have c:H.length+4<=y.id:=c
     omega
   .rcases nv _ e with c | c
    .exact hI.iv c
    .have c:H.length+4<=y.id:=c
     omega
 obtain ⟨v,H1,h1,_,h2⟩:=this
 obtain ⟨u,w,rfl,h3⟩:=h2 x y h q rfl hI
 exact ⟨u,w,H1,h1,h3⟩
end
structure zU(x:Wd)(y:Xw):Prop where
 xl:x.M.length=8
 yl:y.R.length=8
 n8:x.n<=8
 tr:Eb x.n x.M y.R
 ze:Ej x.n x.M
theorem zU.step(m:zU x y)(h:Int)(q:Wa)(u v a b:Sc):zU (oB x h q a b) ⟨y.id,u,v,xR x y h q⟩/\tD x h q=lI x y h q:=by
 by_cases hk:nr q.k
 .obtain⟨k1,k2,k3⟩:=akK (cf:=h) (k:=q.k) (h:=q.h) (q:=q.R) m.xl m.yl m.n8 m.tr m.ze;have e1:rn x h q=nh x.n x.M h q.k q.h q.R:=if_pos hk;have e2:xR x y h q=nK x.n y.R h q.k q.h q.R:=if_pos hk;refine⟨⟨?_,?_,m.n8,?_,?_⟩,?_⟩
  .show(rn x h q).length=8;rw[e1,ZD];exact m.xl
  .show(xR x y h q).length=8;rw[e2,ZE];exact m.yl
  .show Eb x.n (rn x h q) (xR x y h q);rw[e1,e2];exact k1
  .show Ej x.n (rn x h q);rw[e1];exact k2
  .unfold tD lI;have n8:¬q.k<=8:=by unfold nr at hk;omega
   simp only[n8,hk,if_true,if_false,k3]
 .have e1:rn x h q=x.M:=if_neg hk;have e2:xR x y h q=y.R:=if_neg hk;refine⟨⟨?_,?_,m.n8,?_,?_⟩,?_⟩
  .show(rn x h q).length=8;rw[e1];exact m.xl
  .show(xR x y h q).length=8;rw[e2];exact m.yl
  .show Eb x.n (rn x h q) (xR x y h q);rw[e1,e2];exact m.tr
  .show Ej x.n (rn x h q);rw[e1];exact m.ze
  .unfold tD lI;simp only[hk,if_false]
structure xp(x:Wd)(z:Nat):Prop where
 p:z≠x.w.p
 i:z≠x.w.id
 d:z≠x.D.id
 e:z≠x.D.pid
 sx:aW x.D.x≠some z
 sy:aW x.D.y≠some z
structure XM(y:Xw)(z:Nat):Prop where
 i:z≠y.id
 u:aW y.u≠some z
 v:aW y.v≠some z
variable {z:Nat}
section
variable {H K:AH}
theorem WI.lt(h:WI H x)(hz:H.length<=z):xp x z:=by
 have a:=h.w.lp;have b:=h.w.li;obtain⟨c1,c2,c3,c4⟩:=h.d.oA hz;exact⟨ω,ω,c1,c2,c3,c4⟩
theorem XI.lt(h:XI H x y)(hz:H.length<=z):XM y z:=by
 have a:=h.aD;refine⟨ω,λe=>?_,λe=>?_⟩
 .have:=rL h.rp.hx h.bu e;omega
 .have:=rL h.rp.hy h.bv e;omega
theorem WI.stay(h:WI H x)(hk:∀j,j<H.length->¬xp x j->hg K j=hg H j):WI K x:=by
 have lp:=h.w.lp;have li:=h.w.li;have ld:=h.d.aD;have le:=h.d.KH;refine⟨⟨?_,?_,h.w.l,h.w.b0,h.w.b1,h.w.lm,h.w.hh⟩,⟨?_,h.d.ok,OU h.d.pi ?_ ?_ ?_⟩,h.mj,h.m,h.l,h.n8,h.hb,h.p,h.i⟩
 .rw[hk _ lp (λa=>a.p rfl)];exact h.w.o
 .rw[hk _ li (λa=>a.i rfl)];exact h.w.v
 .rw[hk _ ld (λa=>a.d rfl)];exact h.d.ho
 .exact hk _ le (λa=>a.e rfl)
 .exact λi hi=>hk i (qi h.d.pi.hx hi).1 (λa=>a.sx hi)
 .exact λi hi=>hk i (qi h.d.pi.hy hi).1 (λa=>a.sy hi)
theorem XI.stay(h:XI H x y)(hl:H.length<=K.length)(hk:∀j,j<H.length->¬XM y j->hg K j=hg H j):XI K x y:=by
 obtain⟨m,hd⟩:=h.rd;refine⟨⟨m,?_,hd.v,hd.N,hd.l,hd.m,hd.ot,hd.rf,hd.R⟩,h.bs,?_,Sc.gJ h.bu hl,Sc.gJ h.bv hl,h.l,h.n8,h.h8,h.hb,h.iu,h.iv⟩
 .rw[hk _ h.aD (λa=>a.i rfl)];exact hd.o
 .exact Vq h.rp (λi hi=>hk i (rL h.rp.hx h.bu hi) (λa=>a.u hi)) (λi hi=>hk i (rL h.rp.hy h.bv hi) (λa=>a.v hi))
structure vM(P Q:Nat->Prop)(K:AH)(x:Wd)(y:Xw)(n:Nat):Prop where
 wi:WI K x
 xi:XI K x y
 ml:zU x y
 di:xp x y.id
 du:∀i,aW y.u=some i->xp x i
 dv:∀i,aW y.v=some i->xp x i
 z:∀z,P z->z<K.length/\xp x z/\z≠y.id
 s:∀z,Q z->P z/\aW y.u≠some z/\aW y.v≠some z
 a8:jg x.D.t.A=true
 b8:jg x.D.t.B=true
 la:x.D.t.A.length<=n
 lb:x.D.t.B.length<=n
variable {P Q:Nat->Prop}{x:Wd}{y:Xw}{n:Nat}
theorem vM.app(I:vM P Q K x y n)(X:AH):vM P Q (K++X) x y n:=⟨I.wi.app X,I.xi.app X,I.ml,I.di,I.du,I.dv,λz hz=>by obtain⟨a,b,c⟩:=I.z z hz;exact⟨by rw[cF];omega,b,c⟩,I.s,I.a8,I.b8,I.la,I.lb⟩
theorem vM.set(I:vM P Q K x y n){z:Nat}(hz:Q z)(o:ae):vM P Q (K.set z o) x y n:=by
 obtain⟨hp,c2,c3⟩:=I.s z hz;obtain⟨_,b,c1⟩:=I.z z hp;refine⟨I.wi.stay λj _ hj=>?_,I.xi.stay (by simp) λj _ hj=>?_,I.ml,I.di,I.du,I.dv,λz hz=>by rw[js];exact I.z z hz,I.s,I.a8,I.b8,I.la,I.lb⟩
 .exact fg λe=>hj (e▸b)
 .exact fg λe=>hj (e▸⟨c1,c2,c3⟩)
theorem vM.ZW(I:vM P Q K x y n)(hn:n<100000):CI x.D.t:=⟨by have:=I.la;omega,by have:=I.lb;omega⟩
theorem alS(x:Wd)(h:Int)(q:Wa):vZ x.D.t (ku x h q):=by
 unfold ku;split
 .exact akF x.D h q.Q
 .exact Ns _
theorem vM.step(I:vM P Q K x y n)(hn:n<100000)(h:Int)(hs:ga q.s):∃K1 u w,zp [.c (.p x.w.p 0 0),.c (.i h),.g (cP q)] K=some (.t [.g (lI x y h q),.c (.b (fB x h q))],K1)/\fj K K1/\K.length<=K1.length/\(∀z,z<K.length->xp x z->hg K1 z=hg K z)/\∀O:AH,∃K2 u' w',zy [.g (aY x y),.c (.i h),.g (cP q)] (K1++O)=some (.t [.g (aY (vl x h q) ⟨y.id,u',w',xR x y h q⟩),.g (lI x y h q),.c (.b (fB x h q))],K2)/\fj (K1++O) K2/\(K1++O).length<=K2.length/\(∀z,z<(K1++O).length->z≠y.id->hg K2 z=hg (K1++O) z)/\vM P Q K2 (oB x h q u w) ⟨y.id,u',w',xR x y h q⟩ (n+1):=by
 obtain⟨K1,u,w,e1,s1⟩:=awG I.wi (I.ZW hn) (h:=h) (q:=q);have fF:∀z,z<K.length->xp x z->hg K1 z=hg K z:=λz hz a=>s1.fF z hz a.p a.i a.d a.e a.sx a.sy;refine⟨K1,u,w,by rw[<-(I.ml.step h q u w u w).2];exact e1,s1.nw,s1.len,fF,λO=>?_⟩;have xi1:XI K1 x y:=I.xi.stay s1.len λj hj ha=>by
  refine fF j hj ?_;by_cases c:j=y.id
  .rw[c];exact I.di
  by_cases c2:aW y.u=some j
  .exact I.du j c2
  by_cases c3:aW y.v=some j
  .exact I.dv j c3
  .exact absurd ⟨c,c2,c3⟩ ha
 have la:=I.la;have lb:=I.lb;obtain⟨u',w',K2,e2,s2⟩:=axK (xi1.app O) ω ω (h:=h) hs;refine⟨K2,u',w',e2,s2.nw,s2.len,s2.fF,?_⟩;have lK1:K1.length<=(K1++O).length:=by simp
 have ap:∀z,z<K.length->xp x z->xp (oB x h q u w) z:=λz hz a=>⟨a.p,a.i,a.d,a.e,λe=>(s1.fx z e).elim a.sx ω,λe=>(s1.fy z e).elim a.sy ω⟩;have wi1:=s1.wi.app O;have wi2:WI K2 (oB x h q u w):=wi1.stay λj hj ha=>s2.fF j hj λe=>ha (e▸ap y.id I.xi.aD I.di);have oA:∀z,(K1++O).length<=z->xp (oB x h q u w) z:=λz hz=>wi1.lt hz;obtain⟨d1,d2,d3⟩:=alS x h q;obtain⟨a8,b8⟩:=d3 I.a8 I.b8;refine⟨wi2,s2.xi.GW rfl rfl rfl rfl rfl rfl,(I.ml.step h q u' w' u w).1,ap _ I.xi.aD I.di,λi hi=>?_,λi hi=>?_,λz hz=>?_,λz hz=>?_,a8,b8,?_,?_⟩
 .rcases s2.nu i hi with e|e
  .exact ap i (rL I.xi.rp.hx I.xi.bu e) (I.du i e)
  .exact oA i e
 .rcases s2.nv i hi with e|e
  .exact ap i (rL I.xi.rp.hy I.xi.bv e) (I.dv i e)
  .exact oA i e
 .obtain⟨z1,z2,z3⟩:=I.z z hz;have l1:=s1.len;have l2:=s2.len;exact⟨ω,ap z z1 z2,z3⟩
 .obtain⟨hp,z3,z4⟩:=I.s z hz;obtain⟨z1,_,_⟩:=I.z z hp;have l1:=s1.len;have l2:=s2.len;refine⟨hp,λe=>?_,λe=>?_⟩
  .rcases s2.nu z e with e|e
   .exact z3 e
   .omega
  .rcases s2.nv z e with e|e
   .exact z4 e
   .omega
 .show(ku x h q).A.length<=n+1;omega
 .show(ku x h q).B.length<=n+1;omega
end
def mr(n:Nat)(x:Wd):Wd:=⟨{x.w with p:=n+5,id:=n,mj:=.p (n+4) 0 0},yG (n+1) x.D,x.n,x.M⟩
def u7(n:Nat)(x:Wd):AH:=.vec 1 (x.w.B.flatMap bQ)::(EA (n+1) x.D.t++[.own (fN (n+1) x.D.b),.own (eE (mr n x).w x.w.R)])
section
variable {H:AH}
theorem Y0(n:Nat)(x:Wd):(u7 n x).length=6:=rfl
theorem aiX(h:WI H x):WI (H++u7 H.length x) (mr H.length x):=by
 have e:H++u7 H.length x=((H++[.vec 1 (x.w.B.flatMap bQ)])++(EA (H++[ae.vec 1 (x.w.B.flatMap bQ)]).length x.D.t++[.own (fN (H++[ae.vec 1 (x.w.B.flatMap bQ)]).length x.D.b)]))++[.own (eE (mr H.length x).w x.w.R)]:=by simp only[u7,cF,cZ,dY,fo,kX,jV]
 have b0:=(aiW (H++[ae.vec 1 (x.w.B.flatMap bQ)]) h.d.ok).app [.own (eE (mr H.length x).w x.w.R)];rw[<-e]at b0;have ed:yG (H++[ae.vec 1 (x.w.B.flatMap bQ)]).length x.D=yG (H.length+1) x.D:=by simp
 rw[ed]at b0;refine⟨⟨?_,?_,h.w.l,h.w.b0,h.w.b1,h.w.lm,h.w.hh⟩,b0,rfl,h.m,h.l,h.n8,h.hb,?_,?_⟩
 .show hg _ (H.length+5)=_;rw[gY];rfl
 .show hg _ H.length=_;rw[me];rfl
 .refine⟨?_,?_,?_,?_⟩
  .show H.length+5≠H.length+1+3;omega
  .show H.length+5≠H.length+1;omega
  .simp only[mr,yG,aW,ne_eq,ar];omega
  .simp only[mr,yG,aW,ne_eq,ar];omega
 .refine⟨?_,?_,?_,?_⟩
  .show H.length≠H.length+1+3;omega
  .show H.length≠H.length+1;omega
  .simp only[mr,yG,aW,ne_eq,ar];omega
  .simp only[mr,yG,aW,ne_eq,ar];omega
def acY(args:List AV)(H:AH)(v:AV)(H1:AH):Prop:=∀x,args=[.c (.p x.w.p 0 0)]->WI H x->v=.c (.p (H.length+5) 0 0)/\H1=H++u7 H.length x
def Ls:List AV->AH->Option (AV×AH):=uw Tryz.prog [(52,.fp DI),(53,.fp Ll)] 14 acY
theorem ard:aZ Tryz.prog 14 Ls:=Ap (tp abS (tp aqN tn)) Tryz.func14 rfl Tryz.results14 Tryz.ntmps14
theorem NK(h:WI H x):bV 16 (cY 5 (eE x.w x.w.R))=iG x.w.R/\(cY 22 (eE x.w x.w.R))=x.w.m:=by
 have l:=zF h.w.l;constructor
 .exact aac h.w.l
 .unfold eE oQ;show cY 17 (iG x.w.R++x.w.mj::x.w.m)=_;rw[show 17=(iG x.w.R).length+1 by rw[l],<-uX,MB];rfl
theorem awC(hI:WI H x)(hf:CI x.D.t):Ls [.c (.p x.w.p 0 0)] H=some (.c (.p (H.length+5) 0 0),H++u7 H.length x):=by
 have:∃v H1,Ls [.c (.p x.w.p 0 0)] H=some (v,H1)/\H.length<=H1.length/\acY [.c (.p x.w.p 0 0)] H v H1:=by
  unfold Ls;apply ik (v:=.c (.p (H.length+5) 0 0)) (H1:=H++u7 H.length x) Tryz.func14 rfl Tryz.results14 Tryz.ntmps14 (by simp)
  .intro _ _;have gw:=hI.w.o;have gX:=λX=>(hI.w.app X).o;have lw:=yK (R:=x.w.R) hI.w.l hI.w.lm;have b0:=hI.w.b0;have b1:=hI.w.b1;have fc:=ad0 (xA hI.w.v) b0 b1;have bc:=awh (hI.app [.vec 1 (x.w.B.flatMap bQ)]).d hf;have gb:=λX=>EO (hI.app X);obtain⟨s1,s2⟩:=NK hI;have v4:(eE x.w x.w.R).getD 4 .any=.sl x.w.id 0 x.w.B.length x.w.B.length:=rfl;have t4:bV 4 (eE x.w x.w.R)=[.i x.w.h,.i x.w.t,.i x.w.n,.i x.w.b]:=rfl;have gb0:=EO hI;have l3:x.w.m.length=321:=hI.w.lm;have t3:bV 321 x.w.m=x.w.m:=bR ω;have Df:=zF hI.w.l;have Ul:(iG x.w.R).all Sc.one=true:=by unfold iG;rw[rU];exact cD.2 λ_ _=>rfl
   have o3:x.w.m.all Sc.one=true:=by rw[hI.m];exact AW _ _
   have l0:(aG 0 Z8).length=321:=kh 0 yy;obtain⟨T,hT⟩:∃T:List Sc,T=tZ++.dt::aG 0 Z8:=⟨_,rfl⟩;have zW:=afp;unfold oQ at zW;rw[<-hT]at zW;have O3:tZ.length=16:=rfl;have d16:cY 16 T=.dt::aG 0 Z8:=by rw[hT];exact xf O3
   have lT:T.length=338:=by rw[hT,cF,cZ,l0];rfl
   have gw':eE (mr H.length x).w x.w.R=.i x.w.h::.i x.w.t::.i x.w.n::.i x.w.b::.sl H.length 0 x.w.B.length x.w.B.length::(iG x.w.R++.p (H.length+1+3) 0 0::x.w.m):=rfl;have lC:∀k t,(EA k t).length=3:=λ_ _=>rfl;unfold u7;rw[gw'];generalize hm:x.w.m=m at*;generalize iG x.w.R=aa at*;have u1:∀X,bV 16 (aa++X)=aa:=λX=>qe Df;have u2:∀p X,cY 17 (aa++p::X)=X:=λp X=>by rw[show 17=aa.length+1 by rw[Df],<-uX,MB];rfl
   have u3:∀p X,bV 17 (aa++p::X)=aa++[p]:=λp X=>by rw[List.take_append,bR ω,Df];rfl
   have u4:∀p,cY 338 (aa++p::aG 0 Z8)=[]:=λp=>kE (by rw[cF,cZ,l0,Df];exact aC _);generalize eE x.w x.w.R=X0 at*;simp only[go_sem,seval,gw,gX,lw,fc,bc,gb0,s1,s2,v4,t4,t3,l3,Df,Ul,o3,zW,lT,d16,l0,u1,u2,u3,u4,lC];(repeat' first|apply cn|(intro c;exact absurd c ω)|(intro _;kernel_rfl)|kernel_rfl);exact aN
  .simp
  .intro y he nN;simp only[cK,AV.c.injEq,Sc.p.injEq,and_true]at he;rw[hI.uniq nN he];exact⟨rfl,rfl⟩
 obtain⟨v,H1,h1,_,h2⟩:=this;obtain⟨rfl,rfl⟩:=h2 x rfl hI;exact h1
end
section
variable {H:AH}
theorem YO:(cY 21 uS).length=1008:=by rw[ui,vH]
theorem RB:(cY 708 uS).length=321:=by rw[ui,vH]
theorem YP:cY 687 (cY 21 uS)=cY 708 uS:=by rw[uX]
structure Bld(A B:List Sc):Prop where
 t21:∀X,bV 21 (A++X)=A
 vX:∀X,cY 708 (A++X)=cY 687 X
 IZ:∀X,bV 708 (A++(B++X))=A++B
 Zl:cY 1029 (A++(B++cY 708 uS))=[]
theorem CM{A B:List Sc}(la:A.length=21)(lb:B.length=687):Bld A B:=by
 have ab:(A++B).length=708:=by simp only[cF,la,lb]
 refine⟨λX=>qe la,λX=>?_,λX=>?_,?_⟩
 .rw[BA,la,kE ω,jV]
 .rw[<-fo];exact qe ab
 .exact kE (by simp only[cF,la,lb,RB];omega)
def uQ(h t n b:Int):Wd:=⟨⟨0,0,h,t,n,b,bE (64*n.toNat) 0,bE 8 z0,.dt,[]⟩,⟨0,0,bN h,fJ,.aA,.aA⟩,h,Z8⟩
def mF(id:Nat):Xw:=⟨id,.aA,.aA,Z8⟩
theorem aA3:Jc=cC (bE 8 z0):=rfl
theorem adr:bj (bN h) fJ .aA .aA=.i h::(aT (iH h)++(.i (iE h).n::(oO++aU fJ .aA .aA))):=by
 unfold bj;rw[show(bN h).k=iE h from rfl,avi];rfl
def D0(args:List AV)(H:AH):Option (AV×AH):=match args with|[.g [.i h,.i t,.i n,.i b]]=>if 1<=n/\n<=4096/\1<=h/\h<=8 then some (.g (aY (uQ h t n b) (mF (H.length+5))),H++[.own [.i h,.i t,.i n,.i b],.own (aY (uQ h t n b) (mF (H.length+5))),.dead,.dead,.dead,.vec 1 (bE (64*n.toNat) (.k .u8 0))])else none|_=>none
theorem axM(hn:1<=n/\n<=4096)(hh:1<=h/\h<=8):D0 [.g [.i h,.i t,.i n,.i b]] H=some (.g (aY (uQ h t n b) (mF (H.length+5))),H++[.own [.i h,.i t,.i n,.i b],.own (aY (uQ h t n b) (mF (H.length+5))),.dead,.dead,.dead,.vec 1 (bE (64*n.toNat) (.k .u8 0))]):=by simp only[D0];rw[if_pos ⟨hn.1,hn.2,hh.1,hh.2⟩]
theorem aoG(args:List AV)(H:AH)(v:AV)(H1:AH)(h:D0 args H=some (v,H1)):H.length<=H1.length:=by
 unfold D0 at h;repeat' split at h
 all_goals simp at h
 rw[<-h.2];simp
theorem atn:aZ Tryz.prog 8 D0:=by
 refine fU (s:=D0) (tp ash (tu asI (tu asJ tn))) Tryz.func8 rfl Tryz.results8 Tryz.ntmps8 aoG ?_;intro args H v H1 h bM hH;unfold D0 at h;split at h<;>try(simp at h;done)
 rename_i h0 t n b;split at h<;>try(simp at h;done)
 rename_i hc;obtain⟨n1,n2,h1,h2⟩:=hc;simp only[ar,bD]at h;obtain⟨rfl,rfl⟩:=h;refine⟨by simp,?_⟩;have q1:=λH=>axh (H:=H) (h:=h0) (t:=t) (b:=b) ⟨n1,n2⟩;have q2:PH [.c (.i h0)]=some (.g (bj (bN h0) fJ .aA .aA)):=by rw[axx,adr]
 have q3:PJ [.c (.i h0)]=some (.g (aG h0 Z8)):=by rw[axy,if_pos ⟨h1,h2⟩]
 have eA:∀k:Nat,(Sc.i h0::.i t::.i n::.i b::.sl k 0 (64*n.toNat) (64*n.toNat)::Jc)=ew h0 t n b k (64*n.toNat) (bE 8 z0):=λk=>by unfold ew;rw[aA3]
 simp only[eA]at q1;have lr:(bE (64*n.toNat) (0:Int)).length=64*n.toNat:=MD ..;have ex:aY (uQ h0 t n b) (mF (H.length+5))=ew h0 t n b (H.length+5) (64*n.toNat) (bE 8 z0)++(bj (bN h0) fJ .aA .aA++aG h0 Z8):=by unfold aY uQ mF;simp only[lr]
 rw[ex];have l1:∀k,(ew h0 t n b k (64*n.toNat) (bE 8 z0)).length=21:=λk=>A7 rfl;have l2:(bj (bN h0) fJ .aA .aA).length=687:=by
  rw[adr];have:=x9;have:=fT (JA h0);simp only[cZ,cF,mU,x9,this]
 have l3:(aG h0 Z8).length=321:=kh _ yy;have sg:=λk=>Jb (l1 k) l2 l3 (h:=h0) (r:=.i t::.i n::.i b::.sl k 0 (64*n.toNat) (64*n.toNat)::cC (bE 8 z0)) rfl;have t1:=λk=>(sg k).ta;have t2:=(sg 0).tb;have t3:=(sg 0).I5;have tS:=λk=>(sg k).t;have lS:=λk=>(sg k).l;have oS:∀k,(ew h0 t n b k (64*n.toNat) (bE 8 z0)++(bj (bN h0) fJ .aA .aA++aG h0 Z8)).all Sc.one=true:=λk=>by rw[fH,fH,Cs,H3 _ _ rfl rfl,AW];rfl
 have b1:=λk=>(CM (l1 k) l2).t21;have b2:=λk=>(CM (l1 k) l2).vX;have b3:=λk=>(CM (l1 k) l2).IZ;have b4:=λk=>(CM (l1 k) l2).Zl;generalize bj (bN h0) fJ .aA .aA=B at*;generalize aG h0 Z8=C at*;clear sg ex eA;generalize bE 8 z0=R0 at*;simp only[go_sem,seval,q1,q2,q3,l1,l2,l3,t1,t2,t3,tS,lS,oS,Bv,vH,zL,YO,RB,YP,b1,b2,b3,b4];(repeat' first|apply cn|(intro c;exact absurd c ω)|(intro _;kernel_rfl)|kernel_rfl);exact uv
def DP(args:List AV)(H:AH):Option (AV×AH):=match args with
 |[.g [.sl i 0 v n]]=>match iC H (.sl i 0 v n)with
   |some B=>if 0<n/\n<=262144 then some (.g [.sl (H.length+2) 0 n n],H++[.own [.sl i 0 v n],.own [.sl (H.length+2) 0 n n],.vec 1 (B.flatMap bQ)])else none|none=>none
 |_=>none
theorem axb {i v n:Nat} {B:List Int} (h:iC H (.sl i 0 v n)=some B) (h0:0 < n) (h1:n<=262144):DP [.g [.sl i 0 v n]] H=some (.g [.sl (H.length+2) 0 n n],H++[.own [.sl i 0 v n],.own [.sl (H.length+2) 0 n n],.vec 1 (B.flatMap bQ)]):=by
 simp only [DP,h];rw [if_pos ⟨h0,h1⟩]
theorem aoq (args:List AV) (H:AH) (v:AV) (H1:AH) (h:DP args H=some (v,H1)):H.length<=H1.length:=by
 unfold DP at h
 repeat' split at h
 all_goals simp at h
 rw [<-h.2];simp
theorem asb:aZ Tryz.prog 113 DP:=by
 refine fU (s:=DP) tn Tryz.func113 rfl Tryz.results113 Tryz.ntmps113 aoq ?_
 intro args H v H1 h bM hH
 unfold DP at h
 split at h <;> try (simp at h;done)
 rename_i id v n
 split at h <;> try (simp at h;done)
 rename_i B mN
 split at h <;> try (simp at h;done)
 rename_i hn
 obtain ⟨n0,n1⟩:=hn
 simp only [ar,bD] at h
 obtain ⟨rfl,rfl⟩:=h
 refine ⟨by simp only [cZ,dY];decide,?_⟩
 rcases uq mN with ⟨c,_⟩ | ⟨i,o',e,g1,g2⟩
 .simp at c
 simp only [Sc.sl.injEq] at e
 obtain ⟨rfl,rfl,rfl,rfl⟩:=e
 rw [xg] at g2
 have li:id < H.length:=by simpa [AV.aj,Sc.aj] using bM
 have gi:∀X,hg (H++X) id=hg H id:=λX=>cL li
 have c5:B.length<=1099511627776:=ω
 have c1:=R1 B
 have lq:=wa B
 have hz:¬B.length=0:=ω
 (repeat (first | simp (maxSteps:=9^9) only [go_sem,seval,c1,g1,c5,gi,g2,lq,hz] | simp (disch:=omega) only [aq,aK,aJ,aI,aH]))
 exact uv
end
section
variable {H:AH}
def acZ(args:List AV)(H:AH)(v:AV):Prop:=∀x,args=[.c (.p x.w.p 0 0)]->WI H x->v=.g [.i x.w.h,.i x.w.t,.i x.w.n,.i x.w.b]
def Lt:List AV->AH->Option AV:=lg Tryz.prog [] 44 acZ
theorem arf:aZ Tryz.prog 44 (λargs H=>(Lt args H).map λv=>(v,H)):=nn tn Tryz.func44 rfl Tryz.results44 Tryz.ntmps44
theorem awE(hI:WI H x):Lt [.c (.p x.w.p 0 0)] H=some (.g [.i x.w.h,.i x.w.t,.i x.w.n,.i x.w.b]):=by
 have:∃v,Lt [.c (.p x.w.p 0 0)] H=some v/\acZ [.c (.p x.w.p 0 0)] H v:=by
  unfold Lt;apply mu (v:=.g [.i x.w.h,.i x.w.t,.i x.w.n,.i x.w.b]) Tryz.func44 rfl Tryz.results44 Tryz.ntmps44 (by simp)
  .exact λ_ _=>rfl
  .intro _ _;have gw:=hI.w.o;have gX:=λX=>(hI.w.app X).o;have lw:=yK (R:=x.w.R) hI.w.l hI.w.lm;have t4:bV 4 (eE x.w x.w.R)=[.i x.w.h,.i x.w.t,.i x.w.n,.i x.w.b]:=rfl;simp only[go_sem,seval,gw,gX,lw,t4];first|exact aE _|exact aB _ _
  .intro y he nN;simp only[cK,AV.c.injEq,Sc.p.injEq,and_true]at he;rw[hI.uniq nN he]
 obtain⟨v,h1,h2⟩:=this;rw[h1,h2 x rfl hI]
def acX(args:List AV)(H:AH)(v:AV):Prop:=∀x,args=[.c (.p x.w.p 0 0)]->WI H x->v=.c (.p x.D.id 0 0)
def Lr:List AV->AH->Option AV:=lg Tryz.prog [] 48 acX
theorem arb:aZ Tryz.prog 48 (λargs H=>(Lr args H).map λv=>(v,H)):=nn tn Tryz.func48 rfl Tryz.results48 Tryz.ntmps48
theorem awA(hI:WI H x):Lr [.c (.p x.w.p 0 0)] H=some (.c (.p x.D.id 0 0)):=by
 have:∃v,Lr [.c (.p x.w.p 0 0)] H=some v/\acX [.c (.p x.w.p 0 0)] H v:=by
  unfold Lr;apply mu (v:=.c (.p x.D.id 0 0)) Tryz.func48 rfl Tryz.results48 Tryz.ntmps48 (by simp)
  .exact λ_ _=>by have:=hI.d.aD;simpa[AV.aj,Sc.aj]using this
  .intro _ _;have gw:=hI.w.o;have gX:=λX=>(hI.w.app X).o;have lw:=yK (R:=x.w.R) hI.w.l hI.w.lm;have gb:=EO hI;simp only[go_sem,seval,gw,gX,lw,gb];first|exact aE _|exact aB _ _
  .intro y he nN;simp only[cK,AV.c.injEq,Sc.p.injEq,and_true]at he;rw[hI.uniq nN he]
 obtain⟨v,h1,h2⟩:=this;rw[h1,h2 x rfl hI]
def ac0(args:List AV)(H:AH)(v:AV):Prop:=∀x,args=[.c (.p x.w.p 0 0)]->WI H x->v=.g (aG x.n x.M)
def Lw:List AV->AH->Option AV:=lg Tryz.prog [] 49 ac0
theorem art:aZ Tryz.prog 49 (λargs H=>(Lw args H).map λv=>(v,H)):=nn tn Tryz.func49 rfl Tryz.results49 Tryz.ntmps49
theorem awL(hI:WI H x):Lw [.c (.p x.w.p 0 0)] H=some (.g (aG x.n x.M)):=by
 have:∃v,Lw [.c (.p x.w.p 0 0)] H=some v/\ac0 [.c (.p x.w.p 0 0)] H v:=by
  unfold Lw;apply mu (v:=.g (aG x.n x.M)) Tryz.func49 rfl Tryz.results49 Tryz.ntmps49 (by simp)
  .exact λ_ _=>Fz _ _ _
  .intro _ _;have gw:=hI.w.o;have gX:=λX=>(hI.w.app X).o;have lw:=yK (R:=x.w.R) hI.w.l hI.w.lm;obtain⟨_,s2⟩:=NK hI;rw[hI.m]at s2;have l3:=kh x.n hI.l;have t3:bV 321 (aG x.n x.M)=aG x.n x.M:=bR ω;have o3:=AW x.n x.M;have z3:=kh 0 yy;have dz:cY 321 (aG 0 Z8)=[]:=kE ω;simp only[go_sem,seval,gw,gX,lw,s2,t3,l3,o3,z3,dz,Mw];first|exact aE _|exact aB _ _
  .intro y he nN;simp only[cK,AV.c.injEq,Sc.p.injEq,and_true]at he;rw[hI.uniq nN he]
 obtain⟨v,h1,h2⟩:=this;rw[h1,h2 x rfl hI]
def Bu(s:Sl):Prop:=s.is=false->s=z0
def Dy(w:Fw):Prop:=(∀j:Nat,w.h<=(j:Int)->w.R.getD j z0=z0)/\∀j:Nat,Bu (w.R.getD j z0)
theorem getD_set_ne{R:List Sl}{i j:Nat}{x:Sl}(h:i≠j):(R.set i x).getD j z0=R.getD j z0:=by rw[b9,b9,List.getElem?_set_ne h]
theorem WQ{R:List Sl}{i:Nat}{x:Sl}(h:∀j:Nat,Bu (R.getD j z0))(hx:Bu x)(j:Nat):Bu ((R.set i x).getD j z0):=by
 by_cases e:i=j
 .subst e;rw[b9,qD];split
  .split
   .exact hx
   .exact λ_=>rfl
  .rename_i c;exact absurd rfl c
 .rw[getD_set_ne e];exact h j
theorem aaT{R:List Sl}{L:List (BitVec 64)}{bK:Int}{j:Nat}(h:R.getD j z0=z0):∀k,(fv R L bK k).getD j z0=z0
 |0=>h|k+1=>by
   have ih:=aaT (L:=L) (bK:=bK) h k;simp only[fv];split
   .by_cases e:k=j
    .subst e;rw[b9,qD];split
     .split<;>rfl
     .rename_i c;exact absurd rfl c
    .rw[getD_set_ne e];exact ih
   .exact ih
theorem aaU{R:List Sl}{L:List (BitVec 64)}{bK:Int}(h:∀j:Nat,Bu (R.getD j z0)):∀k j:Nat,Bu ((fv R L bK k).getD j z0)
 |0,j=>h j|k+1,j=>by
   have ih:=aaU (L:=L) (bK:=bK) h k;simp only[fv];split
   .exact WQ ih (λ_=>rfl) j
   .exact ih j
theorem ava{w:Fw}(hr:Dy w)(h:Int)(q:Ak):(∀j:Nat,w.h<=(j:Int)->(wR w h q).getD j z0=z0)/\∀j:Nat,Bu ((wR w h q).getD j z0):=by
 have h1:∀j:Nat,w.h<=(j:Int)->(nI w h q).getD j z0=z0:=λj hj=>by
  unfold nI;split
  .exact aaT (hr.1 j hj) 8
  .exact hr.1 j hj
 have h2:∀j:Nat,Bu ((nI w h q).getD j z0):=λj=>by
  unfold nI;split
  .exact aaU hr.2 8 j
  .exact hr.2 j
 constructor
 .intro j hj;unfold wR;split
  .rename_i ok;have:0<=h/\h<w.h:=by
    unfold iQ at ok;simp only[aQ,decide_eq_true_eq]at ok;exact ok.2.2
   have ne:h.toNat≠j:=ω
   split
   .rw[getD_set_ne ne];exact hr.1 j hj
   .split
    .rw[getD_set_ne ne];exact h1 j hj
    .exact h1 j hj
  .exact hr.1 j hj
 .intro j;unfold wR;split
  .split
   .exact WQ hr.2 (λc=>absurd c (by simp)) j
   .split
    .exact WQ h2 (λ_=>rfl) j
    .exact h2 j
  .exact hr.2 j
theorem adD(hr:Dy x.w)(h:Int)(q:Wa)(u v:Sc):Dy (oB x h q u v).w:=by
 show(∀j:Nat,x.w.h<=(j:Int)->(kG x h q).getD j z0=z0)/\∀j:Nat,Bu ((kG x h q).getD j z0);unfold kG;split
 .exact ava hr h q.K
 .exact hr
theorem aAx{r:Sl}(hR:x.w.R.length=8)(h:x.w.R[k]?=some r):(aY x y).getD (5+k) .any=.b r.is/\(aY x y).getD (13+k) .any=.u r.ln:=by
 obtain⟨a,b⟩:=H7 hR h;have k8:k<8:=by
  rcases cU k x.w.R.length with c|c
  .omega
  .rw[jQ c]at h;simp at h
 have l:=rF hR;have e:∀i,i<16->(aY x y).getD (5+i) .any=(cC x.w.R).getD i .any:=λi hi=>by
  unfold aY ew;show(([.i x.w.h,.i x.w.t,.i x.w.n,.i x.w.b,.sl y.id 0 x.w.B.length x.w.B.length]:List Sc)++(cC x.w.R++(bj x.D.b x.D.t y.u y.v++aG x.n y.R))).getD (5+i) .any=_;exact abk (A:=[Sc.i x.w.h,.i x.w.t,.i x.w.n,.i x.w.b,.sl y.id 0 x.w.B.length x.w.B.length]) ω
 exact⟨by rw[e k ω];exact a,by rw[show 13+k=5+(8+k)by omega,e (8+k) ω];exact b⟩
theorem aAw(hI:XI H x y)(hi:i<8)(hk:k<8):((aY x y).drop (708+(1+i*40+k*5))).take 5=fA (fk y.R i k):=by
 have d:=hI.gq.vX;rw[<-uX,d];exact Gc hI.l hi hk
end
noncomputable def pB(p:Prop):Bool:=@decide p (Classical.propDecidable p)
variable {p:Prop}
theorem wM(h:p):pB p=true:=@decide_eq_true p (Classical.propDecidable p) h
theorem A3(h:¬p):pB p=false:=@decide_eq_false p (Classical.propDecidable p) h
theorem UN(p:Prop)[Decidable p]:pB p=decide p:=by
 by_cases h:p
 .rw[wM h,decide_eq_true h]
 .rw[A3 h,decide_eq_false h]
theorem aue(p:Prop)(i:Decidable p):pB p=@decide p i:=by
 by_cases h:p
 .rw[wM h,@decide_eq_true p i h]
 .rw[A3 h,@decide_eq_false p i h]
theorem OT{q:Prop}(h:p↔q):pB p=pB q:=by rw[propext h]
theorem Cm.JL{g:List Tg}{a b:List Sc}(h:Cm g a b):gB g a b=some (pB (a=b)):=by rw[h.eq];exact congrArg some (aue (a=b) _).symm
theorem Cm.fm{α:Type}{f:α->List Sc}{g:List Tg}(hf:∀x y,Cm g (f x) (f y)):∀{l m:List α}{n:Nat},l.length=n->m.length=n->Cm (bE n g).flatten (l.flatMap f) (m.flatMap f)
 |[],[],n,h,_=>by subst h;exact .nil|[],_::_,n,h,h2=>by simp at h h2;omega|_::_,[],n,h,h2=>by simp at h h2;omega|x::l,y::m,n,h,h2=>by
   obtain⟨k,rfl⟩:∃k,n=k+1:=⟨n-1,by simp at h;omega⟩;rw[xn,BB,qC,qC];exact(hf x y).app (Cm.fm hf (l:=l) (m:=m) (n:=k) (by simpa using h) (by simpa using h2))
theorem aja(x y:Sl):Cm [.q,.n] (yj x) (yj y):=(Ew _ _).one (Ju _ _)
theorem ai9(x y:Rq):Cm [.q,.q,.q,.n,.n] (fA x) (fA y):=(Ew _ _).one ((Ew _ _).one ((Ew _ _).one ((Ju _ _).one (yE _ _))))
def Qc:List Tg:=(bE 8 [Tg.q,.q,.q,.n,.n]).flatten
theorem ai7(x y:Row):Cm Qc (jC x) (jC y):=Cm.fm ai9 x.2 y.2
variable {A:List Row}
theorem Y5{m:Int}(hA:A.length=8)(hB:B.length=8):Cm (.n::(bE 8 Qc).flatten) (aG n A) (aG m B):=(yE _ _).one (Cm.fm ai7 hA hB)
variable {S:List Sl}
theorem ajb{R:List Sl}(hR:R.length=8)(hS:S.length=8):Cm (bE 8 [Tg.q,.n]).flatten (iG R) (iG S):=Cm.fm aja hR hS
theorem ai6{R:List Sl}(hR:R.length=8)(hS:S.length=8):Cm (bE 8 .q++bE 8 .n) (cC R) (cC S):=(Cm.rep (f:=λx:Sl=>Sc.b x.is) (λx y=>Ew _ _) hR hS).app (Cm.rep (f:=λx:Sl=>Sc.u x.ln) (λx y=>Ju _ _) hR hS)
theorem ame:iV Tryz.prog 12 96=some (.n::(bE 8 Qc).flatten):=κ
theorem amd:iV Tryz.prog 12 66=some (.n::(bE 8 Qc).flatten):=κ
theorem amc:iV Tryz.prog 12 100=some (bE 8 [Tg.q,.n]).flatten:=κ
theorem ami:iV Tryz.prog 12 48=some (bE 8 .q++bE 8 .n):=κ
theorem abp{m:Int}(hA:A.length=8)(hB:B.length=8)(h:aG n A=aG m B):n=m/\A=B:=by
 have c:=za (n:=n) hA;rw[h,za hB]at c;simp only[ar,bD]at c;exact⟨c.1.symm,c.2.symm⟩
theorem ak6{m:Int}(hA:A.length=8)(hB:B.length=8):cj Tryz.prog .eql 96 (.g (aG n A)) (.g (aG m B))=some (.c (.b (pB (n=m/\A=B)))):=by
 rw[xr _ (by simp only[go_sem,D.agg]) ame,(Y5 hA hB).JL];by_cases e:n=m/\A=B
 .rw[wM e,wM (show aG n A=aG m B by rw[e.1,e.2])];rfl
 .rw[A3 e,A3 λh=>e (abp hA hB h)];rfl
theorem ak5{m:Int}(hA:A.length=8)(hB:B.length=8):cj Tryz.prog .eql 66 (.g (aG n A)) (.g (aG m B))=some (.c (.b (pB (n=m/\A=B)))):=by
 rw[xr _ (by simp only[go_sem,D.agg]) amd,(Y5 hA hB).JL];by_cases e:n=m/\A=B
 .rw[wM e,wM (show aG n A=aG m B by rw[e.1,e.2])];rfl
 .rw[A3 e,A3 λh=>e (abp hA hB h)];rfl
theorem alc{R:List Sl}(hR:R.length=8)(hS:S.length=8):cj Tryz.prog .eql 100 (.g (iG R)) (.g (iG S))=some (.c (.b (pB (R=S)))):=by
 rw[xr _ (by simp only[go_sem,D.agg]) amc,(ajb hR hS).JL];by_cases e:R=S
 .rw[wM e,wM (show iG R=iG S by rw[e])];rfl
 .rw[A3 e,A3 λh=>e (Xd hR hS h)];rfl
theorem ak9{R:List Sl}(hR:R.length=8)(hS:S.length=8):cj Tryz.prog .eql 48 (.g (cC R)) (.g (cC S))=some (.c (.b (pB (R=S)))):=by
 rw[xr _ (by simp only[go_sem,D.agg]) ami,(ai6 hR hS).JL];by_cases e:R=S
 .rw[wM e,wM (show cC R=cC S by rw[e])];rfl
 .rw[A3 e,A3 λh=>e (O9 hR hS h)];rfl
def xy(x y:Wd):Bool:=decide (x.w.h=y.w.h)&&(decide (x.w.t=y.w.t)&&(decide (x.w.n=y.w.n)&&decide (x.w.b=y.w.b)))
noncomputable def Ed(x y:Wd):Bool:=xy x y&&pB (x.w.R=y.w.R)&&pB (x.n=y.n/\x.M=y.M)&&pB (x.w.B=y.w.B)&&yA x.D y.D
noncomputable def Eh(x y:Wd)(a b:Xw):Bool:=xy x y&&pB (x.w.R=y.w.R)&&pB (x.w.B=y.w.B)&&Cr x.D.b x.D.t y.D.b y.D.t&&pB (x.n=y.n/\a.R=b.R)
theorem aeW{R S:List Row}(hA:A.length=8)(hB:B.length=8)(hR:R.length=8)(hS:S.length=8)(t1:Eb n A R)(t2:Eb n B S)(z1:Ej n A)(z2:Ej n B):A=B↔R=S:=by
 have ext:∀{P Q:List Row},P.length=8->Q.length=8->(∀i j,i<8->j<8->fk P i j=fk Q i j)->P=Q:=λ{P Q}hP hQ h=>by
  apply vL;intro i;rcases cU i 8 with hi|hi
  .rw[cM ω,cM ω];congr 1;apply Subtype.ext;apply vL;intro j;have lp:=(P[i]'ω).2;have lq:=(Q[i]'ω).2;rcases cU j 8 with hj|hj
   .have a:=Vk hP hi hj;have b:=Vk hQ hi hj;have rP:rowAt P i=P[i]'ω:=by unfold rowAt;rw[cM ω];rfl
    have rQ:rowAt Q i=Q[i]'ω:=by unfold rowAt;rw[cM ω];rfl
    rw[rP]at a;rw[rQ]at b;rw[a,b,h i j hi hj]
   .rw[jQ ω,jQ ω]
  .rw[jQ ω,jQ ω]
 constructor
 .intro e;subst e;exact ext hR hS λi j hi hj=>by rw[t1 i j hi hj,t2 i j hi hj]
 .intro e;subst e;refine ext hA hB λt f ht hf=>?_;by_cases c:fV n (t:Int)=true/\fV n (f:Int)=true
  .have a:=t1 f t hf ht;have b:=t2 f t hf ht;unfold ub at a b;rw[if_pos ⟨c.2,c.1⟩,aO,aO]at a b;rw[<-a,b]
  .rw[(z1 t f ht hf).2 c,(z2 t f ht hf).2 c]
theorem axR{y:Wd}{a b:Xw}(h1:zU x a)(h2:zU y b):Ed x y=Eh y x b a:=by
 have e1:xy x y=xy y x:=by unfold xy;simp only[eq_comm]
 unfold Ed Eh;rw[axP,e1];have em:(x.n=y.n/\x.M=y.M)↔(y.n=x.n/\b.R=a.R):=by
  constructor
  .rintro⟨n,m⟩;refine⟨n.symm,?_⟩;exact(aeW h2.xl h1.xl h2.yl h1.yl (n▸h2.tr) h1.tr (n▸h2.ze) h1.ze).1 m.symm
  .rintro⟨n,m⟩;refine⟨n.symm,?_⟩;exact((aeW h2.xl h1.xl h2.yl h1.yl (n▸h2.tr) h1.tr (n▸h2.ze) h1.ze).2 m).symm
 rw[OT em,OT (show x.w.R=y.w.R↔y.w.R=x.w.R from eq_comm),OT (show x.w.B=y.w.B↔y.w.B=x.w.B from eq_comm)];cases xy y x<;>cases pB (y.w.R=x.w.R)<;>cases pB (y.w.B=x.w.B)<;>cases pB (y.n=x.n/\b.R=a.R)<;>simp
theorem az6{y:Wd}(e1:x.w.h=y.w.h)(e2:x.w.t=y.w.t)(e3:x.w.n=y.w.n)(e4:x.w.b=y.w.b)(e5:x.w.R=y.w.R)(e6:x.w.B=y.w.B)(e7:x.n=y.n)(e8:x.M=y.M)(e9:x.D.b=y.D.b)(e0:x.D.t=y.D.t):Ed x y=true:=by
 unfold Ed xy;rw[ahD e9 e0];rw[wM e5,wM e6,wM ⟨e7,e8⟩];simp[e1,e2,e3,e4]
theorem amb:iV Tryz.prog 12 23=some [.n,.n,.n,.n]:=κ
theorem ZP{y:Wd}:cj Tryz.prog .eql 23 (.g [.i x.w.h,.i x.w.t,.i x.w.n,.i x.w.b]) (.g [.i y.w.h,.i y.w.t,.i y.w.n,.i y.w.b])=some (.c (.b (xy x y))):=by
 rw[xr _ (by simp only[go_sem,D.agg]) amb,((yE _ _).one ((yE _ _).one ((yE _ _).one (yE _ _)))).JL];have e:pB ([Sc.i x.w.h,.i x.w.t,.i x.w.n,.i x.w.b]=[Sc.i y.w.h,.i y.w.t,.i y.w.n,.i y.w.b])=xy x y:=by
  unfold xy;rw[OT (q:=x.w.h=y.w.h/\x.w.t=y.w.t/\x.w.n=y.w.n/\x.w.b=y.w.b) (by simp),UN];by_cases h1:x.w.h=y.w.h<;>by_cases h2:x.w.t=y.w.t<;>by_cases h3:x.w.n=y.w.n<;>by_cases h4:x.w.b=y.w.b<;>simp[h1,h2,h3,h4]
 rw[e];rfl
section
variable {H:AH}
theorem adp(h:WI H x):fL 1 iJ H (.sl x.w.id 0 x.w.B.length x.w.B.length)=some x.w.B:=D6 Al EI (by rw[h.w.v];simp only[ae.row];exact(wa _).symm) rfl (by rw[h.w.v];rfl)
def ac2(args:List AV)(H:AH)(v:AV):Prop:=∀x y,args=[.c (.p x.w.p 0 0),.c (.p y.w.p 0 0)]->WI H x->WI H y->v=.c (.b (Ed x y))
def Iw:List AV->AH->Option AV:=lg Tryz.prog [(55,.fq Ig),(56,.fq Ln)] 16 ac2
theorem arB:aZ Tryz.prog 16 (λargs H=>(Iw args H).map λv=>(v,H)):=nn (tq abM (tq aqU tn)) Tryz.func16 rfl Tryz.results16 Tryz.ntmps16
theorem ad5{y:Wd}(hX:WI H x)(hY:WI H y)(bx:jg x.w.B=true)(bY:jg y.w.B=true)(h8:jg x.D.t.A=true/\jg x.D.t.B=true/\jg y.D.t.A=true/\jg y.D.t.B=true):Iw [.c (.p x.w.p 0 0),.c (.p y.w.p 0 0)] H=some (.c (.b (Ed x y))):=by
 have:∃v,Iw [.c (.p x.w.p 0 0),.c (.p y.w.p 0 0)] H=some v/\ac2 [.c (.p x.w.p 0 0),.c (.p y.w.p 0 0)] H v:=by
  unfold Iw;apply mu (v:=.c (.b (Ed x y))) Tryz.func16 rfl Tryz.results16 Tryz.ntmps16 (by simp)
  .exact λ_ _=>rfl
  .intro _ _;have gx:=hX.w.o;have gy:=hY.w.o;have lx:=yK (R:=x.w.R) hX.w.l hX.w.lm;have ly:=yK (R:=y.w.R) hY.w.l hY.w.lm;have tx:bV 4 (eE x.w x.w.R)=[.i x.w.h,.i x.w.t,.i x.w.n,.i x.w.b]:=rfl;have ty:bV 4 (eE y.w y.w.R)=[.i y.w.h,.i y.w.t,.i y.w.n,.i y.w.b]:=rfl;have vx:(eE x.w x.w.R).getD 4 .any=.sl x.w.id 0 x.w.B.length x.w.B.length:=rfl;have vy:(eE y.w y.w.R).getD 4 .any=.sl y.w.id 0 y.w.B.length y.w.B.length:=rfl;have ux:=EO hX;have uy:=EO hY;obtain⟨a1,a2⟩:=NK hX;obtain⟨b1,b2⟩:=NK hY;rw[hX.m]at a2;rw[hY.m]at b2;have l1:=kh x.n hX.l;have l2:=kh y.n hY.l;have t1:bV 321 (aG x.n x.M)=aG x.n x.M:=bR ω;have t2:bV 321 (aG y.n y.M)=aG y.n y.M:=bR ω;have ec:=ZP (x:=x) (y:=y);have et:=alc hX.w.l hY.w.l;have em:=ak6 (n:=x.n) (m:=y.n) hX.l hY.l;have eb:=Vz (adp hX) (adp hY) bx bY;have es:=awn hX.d hY.d h8;unfold Ed;rw[UN (x.w.B=y.w.B)];generalize pB (x.w.R=y.w.R)=z2 at*;generalize pB (x.n=y.n/\x.M=y.M)=z3 at*;generalize decide (x.w.B=y.w.B)=z4 at*;generalize yA x.D y.D=z5 at*;generalize xy x y=z1 at*;generalize eE x.w x.w.R=X at*;generalize eE y.w y.w.R=Y at*;cases z1
   .simp only[go_sem,seval,nZ,gv,cX,rh,gx,gy,lx,ly,tx,ty,vx,vy,ux,uy,a1,a2,b1,b2,t1,t2,ec,et,em,eb,es];(repeat' first|apply cn|(intro c;exact absurd c ω)|(intro _;kernel_rfl)|kernel_rfl);exact aE _
   cases z2
   .simp only[go_sem,seval,nZ,gv,cX,rh,gx,gy,lx,ly,tx,ty,vx,vy,ux,uy,a1,a2,b1,b2,t1,t2,ec,et,em,eb,es];(repeat' first|apply cn|(intro c;exact absurd c ω)|(intro _;kernel_rfl)|kernel_rfl);exact aE _
   cases z3
   .simp only[go_sem,seval,nZ,gv,cX,rh,gx,gy,lx,ly,tx,ty,vx,vy,ux,uy,a1,a2,b1,b2,t1,t2,ec,et,em,eb,es];(repeat' first|apply cn|(intro c;exact absurd c ω)|(intro _;kernel_rfl)|kernel_rfl);exact aE _
   cases z4
   .simp only[go_sem,seval,nZ,gv,cX,rh,gx,gy,lx,ly,tx,ty,vx,vy,ux,uy,a1,a2,b1,b2,t1,t2,ec,et,em,eb,es];(repeat' first|apply cn|(intro c;exact absurd c ω)|(intro _;kernel_rfl)|kernel_rfl);exact aE _
   cases z5;all_goals simp only[go_sem,seval,nZ,gv,cX,rh,gx,gy,lx,ly,tx,ty,vx,vy,ux,uy,a1,a2,b1,b2,t1,t2,ec,et,em,eb,es]
   all_goals(repeat' first|apply cn|(intro c;exact absurd c ω)|(intro _;kernel_rfl)|kernel_rfl)
   all_goals exact aE _
  .intro x' y' he h1 h2;simp only[cK,AV.c.injEq,Sc.p.injEq,and_true]at he;rw[hX.uniq h1 he.1,hY.uniq h2 he.2]
 obtain⟨v,h1,h2⟩:=this;rw[h1,h2 x y rfl hX hY]
def F6(args:List AV)(H:AH):Option AV:=match args with
 |[.g [.sl i o v n],.g [.sl j p w m]]=>match iC H (.sl i o v n),iC H (.sl j p w m)with
   |some A,some B=>if A.length<=262144/\B.length<=262144 then some (.c (.b (decide (A=B))))else none|_,_=>none
 |_=>none
theorem axd{o v n p w:Nat}{A B:List Int}(h1:iC H (.sl i o v n)=some A)(h2:iC H (.sl j p w m)=some B)(hA:A.length<=262144)(hB:B.length<=262144):F6 [.g [.sl i o v n],.g [.sl j p w m]] H=some (.c (.b (decide (A=B)))):=by simp only[F6,h1,h2];rw[if_pos ⟨hA,hB⟩]
theorem ayO {A B:List Int} {k:Nat} (h:A.take k=B.take k) {a:Int} (ha:A[k]?=some a) (hb:B[k]?=some a):A.take (k+1)=B.take (k+1):=by
 rw [List.take_add_one,List.take_add_one,h,ha,hb]
theorem asd:aZ Tryz.prog 57 (λargs H=>(F6 args H).map λv=>(v,H)):=by
 refine iR (s:=F6) tn Tryz.func57 rfl Tryz.results57 Tryz.ntmps57 ?_
 intro args H v h bM hH
 unfold F6 at h
 split at h <;> try (simp at h;done)
 rename_i i o v n j p w m
 split at h <;> try (simp at h;done)
 rename_i L M h1 h2
 split at h <;> try (simp at h;done)
 rename_i hc
 obtain ⟨lL,lM⟩:=hc
 simp only [ar] at h
 subst h
 refine ⟨by simp only [cZ,dY];decide,rfl,?_⟩
 obtain ⟨rfl,rfl,x1,x2⟩:=EE h1
 obtain ⟨rfl,rfl,y1,y2⟩:=EE h2
 by_cases hl:L.length=M.length
 rotate_left
 .have e:decide (L=M)=false:=decide_eq_false λc=>hl (by rw [c])
  have yV:¬((L.length:Int)=(M.length:Int)):=ω
  rw [e]
  (repeat (first | simp (maxSteps:=9^9) only [go_sem,seval,yV] | simp (disch:=omega) only [aq,aK,aJ,aI,aH]))
  exact aB _ _
 have yV:=eq_true (show (L.length:Int)=(M.length:Int) by omega)
 (repeat (first | simp (maxSteps:=9^9) only [go_sem,seval,yV] | simp (disch:=omega) only [aq,aK,aJ,aI,aH]))
 rw [rk]
 refine ⟨{k:Nat // k<=L.length/\L.take k=M.take k},λk=>([(2,.c (.p H.length 0 0)),(3,.c (.p (H.length+1) 0 0)),(4,.c (.b false)),(5,.c (.i k.1))],H++[.own [.sl i o (hg H i).row L.length],.own [.sl j p (hg H j).row M.length]]),λk=>L.length - k.1,⟨0,by simp⟩,kT (by simp [Am.get]),?_⟩
 rintro ⟨k,hk,ht⟩
 have li:i < H.length:=by simp only [bG,AV.aj,Sc.aj,aQ,decide_eq_true_eq] at bM;exact bM.1.1
 have lj:j < H.length:=by simp only [bG,AV.aj,Sc.aj,aQ,decide_eq_true_eq] at bM;exact bM.2.1.1
 have gi:∀X,hg (H++X) i=hg H i:=λX=>cL li
 have gj:∀X,hg (H++X) j=hg H j:=λX=>cL lj
 by_cases aL:k < L.length
 .have e1:az ((k:Int)+1)=((k+1:Nat):Int):=by rw [aq ω ω];omega
  obtain ⟨q,hq⟩:∃q,L[k]?=some q:=⟨_,cM aL⟩
  obtain ⟨r,hr⟩:∃r,M[k]?=some r:=⟨_,cM ω⟩
  obtain ⟨a1,a2⟩:=x2 k q hq
  obtain ⟨b1,b2⟩:=y2 k r hr
  have k0:(0:Int)<=(k:Int):=ω
  have kI:(k:Int) < (L.length:Int):=ω
  have kM:(k:Int) < (M.length:Int):=ω
  by_cases e:q=r
  .subst e
   (repeat (first | simp (maxSteps:=9^9) only [go_sem,seval,e1,a1,a2,b1,b2,k0,kI,kM,gi,gj,aO] | simp (disch:=omega) only [aq,aK,aJ,aI,aH]))
   exact ⟨⟨k+1,ω,ayO ht hq hr⟩,by simp only;omega,kT (by simp [Am.get])⟩
  .have e2:decide (L=M)=false:=decide_eq_false λc=>e (by rw [c,hr] at hq;exact (XL hq).symm)
   rw [e2]
   (repeat (first | simp (maxSteps:=9^9) only [go_sem,seval,e1,a1,a2,b1,b2,k0,kI,kM,gi,gj,e,aO] | simp (disch:=omega) only [aq,aK,aJ,aI,aH]))
   exact aB _ _
 .obtain rfl:k=L.length:=ω
  have e2:decide (L=M)=true:=decide_eq_true (by
   have a:L.take L.length=L:=s7
   have b:M.take L.length=M:=by rw [hl];exact s7
   rw [<-a,ht,b])
  have kI:¬((L.length:Int) < L.length):=ω
  rw [e2]
  (repeat (first | simp (maxSteps:=9^9) only [go_sem,seval,kI] | simp (disch:=omega) only [aq,aK,aJ,aI,aH]))
  exact aB _ _
end
section
variable {H:AH}
def adn(args:List AV)(H:AH)(v:AV):Prop:=∀x y a b,args=[.g (aY x a),.g (aY y b)]->XI H x a->XI H y b->v=.c (.b (Eh x y a b))
def Mk:List AV->AH->Option AV:=lg Tryz.prog [(57,.fq F6),(58,.fq LW)] 17 adn
theorem atp:aZ Tryz.prog 17 (λargs H=>(Mk args H).map λv=>(v,H)):=nn (tq asd (tq asv tn)) Tryz.func17 rfl Tryz.results17 Tryz.ntmps17
theorem axN{y:Wd}{a b:Xw}(hX:XI H x a)(hY:XI H y b):Mk [.g (aY x a),.g (aY y b)] H=some (.c (.b (Eh x y a b))):=by
 have:∃v,Mk [.g (aY x a),.g (aY y b)] H=some v/\adn [.g (aY x a),.g (aY y b)] H v:=by
  unfold Mk;apply mu (v:=.c (.b (Eh x y a b))) Tryz.func17 rfl Tryz.results17 Tryz.ntmps17 (by simp)
  .exact λ_ _=>rfl
  .intro _ _;obtain⟨m1,d1⟩:=hX.rd;obtain⟨m2,d2⟩:=hY.rd;have s1:=hX.gq;have s2:=hY.gq;have l1:=s1.l;have l2:=s2.l;have t1:=s1.t;have t2:=s2.t;have a1:=s1.t21;have a2:=s2.t21;have b1:=s1.ud;have b2:=s2.ud;have c1:=s1.tc;have c2:=s2.tc;have o1:=hX.one;have o2:=hY.one;have e1:∀X,F6 [.g [.sl a.id 0 x.w.B.length x.w.B.length],.g [.sl b.id 0 y.w.B.length y.w.B.length]] (H++X)=some (.c (.b (decide (x.w.B=y.w.B)))):=λX=>axd (xA (d1.app X).o) (xA (d2.app X).o) (by have:=d1.l;have:=d1.m;omega) (by have:=d2.l;have:=d2.m;omega);have e2:=λX=>axq hX.bs hY.bs (Cu (X:=X) hX.rp hX.bu hX.bv) (Cu (X:=X) hY.rp hY.bu hY.bv) (Sc.gJ hX.bu (by simp)) (Sc.gJ hX.bv (by simp)) (Sc.gJ hY.bu (by simp)) (Sc.gJ hY.bv (by simp));have ec:=ZP (x:=x) (y:=y);have et:=ak9 d1.R d2.R;have em:=ak5 (n:=x.n) (m:=y.n) hX.l hY.l;have f1:∀(z:Wd)(c:Xw),bV 4 (aY z c)=[.i z.w.h,.i z.w.t,.i z.w.n,.i z.w.b]:=λ_ _=>rfl;have f2:∀(z:Wd)(c:Xw),z.w.R.length=8->bV 16 (cY 5 (aY z c))=cC z.w.R:=λz c h=>by
    unfold aY ew;show bV 16 (cC z.w.R++_)=_;exact qe (rF h)
   have f3:∀(z:Wd)(c:Xw),bV 1 (cY 4 (aY z c))=[.sl c.id 0 z.w.B.length z.w.B.length]:=λ_ _=>rfl;have f21:=f2 x a d1.R;have f22:=f2 y b d2.R;have f11:=f1 x a;have f12:=f1 y b;have f31:=f3 x a;have f32:=f3 y b;have g1:=s1.la;have g2:=s2.la;unfold Eh;rw[UN (x.w.B=y.w.B)];generalize pB (x.w.R=y.w.R)=z2 at*;generalize pB (x.n=y.n/\a.R=b.R)=z3 at*;generalize decide (x.w.B=y.w.B)=z4 at*;generalize Cr x.D.b x.D.t y.D.b y.D.t=z5 at*;generalize xy x y=z1 at*;generalize aY x a=S1 at*;generalize aY y b=S2 at*;generalize ew x.w.h x.w.t x.w.n x.w.b a.id x.w.B.length x.w.R=A1 at*;generalize ew y.w.h y.w.t y.w.n y.w.b b.id y.w.B.length y.w.R=A2 at*;cases z1
   .simp only[go_sem,seval,nZ,gv,cX,rh,l1,l2,t1,t2,a1,a2,b1,b2,c1,c2,o1,o2,e1,e2,ec,et,em,f11,f12,f21,f22,f31,f32,g1,g2];(repeat' first|apply cn|(intro c;exact absurd c ω)|(intro _;kernel_rfl)|kernel_rfl);exact aB _ _
   cases z2
   .simp only[go_sem,seval,nZ,gv,cX,rh,l1,l2,t1,t2,a1,a2,b1,b2,c1,c2,o1,o2,e1,e2,ec,et,em,f11,f12,f21,f22,f31,f32,g1,g2];(repeat' first|apply cn|(intro c;exact absurd c ω)|(intro _;kernel_rfl)|kernel_rfl);exact aB _ _
   cases z4
   .simp only[go_sem,seval,nZ,gv,cX,rh,l1,l2,t1,t2,a1,a2,b1,b2,c1,c2,o1,o2,e1,e2,ec,et,em,f11,f12,f21,f22,f31,f32,g1,g2];(repeat' first|apply cn|(intro c;exact absurd c ω)|(intro _;kernel_rfl)|kernel_rfl);exact aB _ _
   cases z5
   .simp only[go_sem,seval,nZ,gv,cX,rh,l1,l2,t1,t2,a1,a2,b1,b2,c1,c2,o1,o2,e1,e2,ec,et,em,f11,f12,f21,f22,f31,f32,g1,g2];(repeat' first|apply cn|(intro c;exact absurd c ω)|(intro _;kernel_rfl)|kernel_rfl);exact aB _ _
   cases z3;all_goals simp only[go_sem,seval,nZ,gv,cX,rh,l1,l2,t1,t2,a1,a2,b1,b2,c1,c2,o1,o2,e1,e2,ec,et,em,f11,f12,f21,f22,f31,f32,g1,g2]
   all_goals(repeat' first|apply cn|(intro c;exact absurd c ω)|(intro _;kernel_rfl)|kernel_rfl)
   all_goals exact aB _ _
  .intro x' y' a' b' he h1 h2;simp only[cK,AV.g.injEq,and_true]at he;obtain⟨c1,e1⟩:=hX.uniq h1 he.1;obtain⟨c2,e2⟩:=hY.uniq h2 he.2;subst e1 e2;have e3:Eh x.co y.co a b=Eh x'.co y'.co a b:=by rw[c1,c2]
   exact congrArg (λb=>AV.c (.b b)) e3
 obtain⟨v,h1,h2⟩:=this;rw[h1,h2 x y a b rfl hX hY]
def JC(k:Nat)(h t n b:Int)(id:Nat)(B:List Int)(R:List Sl):AH:=[.own (ew h t n b id B.length R),.own (ew h t n b (k+4) B.length R),.own [.sl id 0 B.length B.length],.own [.sl (k+4) 0 B.length B.length],.vec 1 (B.flatMap bQ)]
def DQ(args:List AV)(H:AH):Option (AV×AH):=match args with
 |[.g (.i h::.i t::.i n::.i b::.sl id 0 v N::rf)]=>match Dv H id v N rf with
   |some (B,R)=>if 0<B.length then some (.g (ew h t n b (H.length+4) B.length R),H++JC H.length h t n b id B R)else none|none=>none
 |_=>none
theorem axe{h t n b:Int}{id:Nat}{B:List Int}{m:Nat}{R:List Sl}(hd:u0 H id B.length B.length (cC R) B m R)(h0:0<B.length):DQ [.g (ew h t n b id B.length R)] H=some (.g (ew h t n b (H.length+4) B.length R),H++JC H.length h t n b id B R):=by
 unfold ew;simp only[DQ,O8 hd];rw[if_pos h0];rfl
theorem aos (args:List AV) (H:AH) (v:AV) (H1:AH) (h:DQ args H=some (v,H1)):H.length<=H1.length:=by
 unfold DQ at h
 repeat' split at h
 all_goals simp at h
 rw [<-h.2];simp [JC]
theorem ase:aZ Tryz.prog 54 DQ:=by
 refine fU (s:=DQ) (tp asb tn) Tryz.func54 rfl Tryz.results54 Tryz.ntmps54 aos ?_
 intro args H v H1 h bM hH
 unfold DQ at h
 split at h <;> try (simp at h;done)
 rename_i h0 t n b id v N rf
 split at h <;> try (simp at h;done)
 rename_i B R hq
 split at h <;> try (simp at h;done)
 rename_i n0
 simp only [ar,bD] at h
 obtain ⟨rfl,rfl⟩:=h
 obtain ⟨m,hd⟩:=O7 hq
 obtain ⟨ho,rfl,rfl,hl,sD,wu,rfl,hR⟩:=hd
 refine ⟨by simp only [cZ,dY];decide,?_⟩
 have aD:id < H.length:=dU (by rw [ho];rfl)
 have q1:∀X,DP [.g [.sl id 0 B.length B.length]] (H++X)=some (.g [.sl ((H++X).length+2) 0 B.length B.length],(H++X)++[.own [.sl id 0 B.length B.length],.own [.sl ((H++X).length+2) 0 B.length B.length],.vec 1 (B.flatMap bQ)]):=λX=>axb (xA (by rw [cL aD];exact ho)) n0 ω
 have Df:=rF hR
 have t16:(cC R).take 16=cC R:=bR ω
 have Ul:=zh (R:=R)
 unfold JC ew
 (repeat (first | simp (maxSteps:=9^9) only [go_sem,seval,q1,Df,t16,Ul] | simp (disch:=omega) only [aq,aK,aJ,aI,aH]))
 (repeat' first | apply cn | (intro c;exact absurd c ω) | (intro _;kernel_rfl) | kernel_rfl)
 exact uv
def vV(k:Nat)(x:Wd)(y:Xw):AH:=.own (aY x y)::.own (aY x {y with id:=k+6})::JC (k+2) x.w.h x.w.t x.w.n x.w.b y.id x.w.B x.w.R
def adk(args:List AV)(H:AH)(v:AV)(H1:AH):Prop:=∀x y,args=[.g (aY x y)]->XI H x y->v=.g (aY x {y with id:=H.length+6})/\H1=H++vV H.length x y
def Mf:List AV->AH->Option (AV×AH):=uw Tryz.prog [(54,.fp DQ)] 15 adk
theorem atk:aZ Tryz.prog 15 Mf:=Ap (tp ase tn) Tryz.func15 rfl Tryz.results15 Tryz.ntmps15
theorem axJ(hI:XI H x y)(h0:0<x.w.B.length):Mf [.g (aY x y)] H=some (.g (aY x {y with id:=H.length+6}),H++vV H.length x y):=by
 have:∃v H1,Mf [.g (aY x y)] H=some (v,H1)/\H.length<=H1.length/\adk [.g (aY x y)] H v H1:=by
  obtain⟨m,hd⟩:=hI.rd;unfold Mf;apply ik (v:=.g (aY x {y with id:=H.length+6})) (H1:=H++vV H.length x y) Tryz.func15 rfl Tryz.results15 Tryz.ntmps15 (by simp)
  .intro _ _;have sg:=hI.gq;have l:=sg.l;have t:=sg.t;have g:=sg.g;have t21:=sg.t21;have ud:=sg.ud;have tc:=sg.tc;have la:=sg.la;have lb:=sg.lb;have lc:=sg.lc;have ta:=sg.ta;have tb:=sg.tb;have I5:=sg.I5;have o:=hI.one;have q1:=λX=>axe (h:=x.w.h) (t:=x.w.t) (n:=x.w.n) (b:=x.w.b) (hd.app X) h0;have l2:∀k,(ew x.w.h x.w.t x.w.n x.w.b k x.w.B.length x.w.R).length=21:=λk=>A7 hd.R;have t2:∀k,(ew x.w.h x.w.t x.w.n x.w.b k x.w.B.length x.w.R).take 21=ew x.w.h x.w.t x.w.n x.w.b k x.w.B.length x.w.R:=λk=>auY hd.R;have eo:∀k,ew x.w.h x.w.t x.w.n x.w.b k x.w.B.length x.w.R++(bj x.D.b x.D.t y.u y.v++aG x.n y.R)=aY x {y with id:=k}:=λk=>rfl;have aP:=λk=>Jb (h:=x.w.h) (l2 k) lb lc (r:=.i x.w.t::.i x.w.n::.i x.w.b::.sl k 0 x.w.B.length x.w.B.length::cC x.w.R) rfl;have l3:=λk=>(aP k).l;have t3:=λk=>(aP k).t;have oS:∀k,(ew x.w.h x.w.t x.w.n x.w.b k x.w.B.length x.w.R++(bj x.D.b x.D.t y.u y.v++aG x.n y.R)).all Sc.one=true:=λk=>by rw[fH,fH,Cs,H3 _ _ (jO hI.rp.hx) (jO hI.rp.hy),AW];rfl
   unfold vV;generalize aY x y=S at*;simp only[<-eo];generalize bj x.D.b x.D.t y.u y.v=B at*;generalize aG x.n y.R=C at*;have b1:=λk=>(CM (l2 k) lb).t21;have b2:=λk=>(CM (l2 k) lb).vX;have b3:=λk=>(CM (l2 k) lb).IZ;have b4:=λk=>(CM (l2 k) lb).Zl;simp only[go_sem,seval,l,t,t21,ud,tc,la,lb,lc,ta,tb,I5,o,q1,l2,t2,l3,t3,Bv,vH,zL,YO,RB,YP,b1,b2,b3,b4,oS];(repeat' first|apply cn|(intro c;exact absurd c ω)|(intro _;kernel_rfl)|kernel_rfl);exact aN
  .simp
  .intro x' y' he nN;simp only[cK,AV.g.injEq,and_true]at he;obtain⟨ec,rfl⟩:=hI.uniq nN he;have e1:∀z:Xw,aY x z=aY x' z:=λz=>by
    have:aY x.co z=aY x'.co z:=by rw[ec]
    exact this
   have e2:vV H.length x.co y=vV H.length x'.co y:=by rw[ec]
   have e3:vV H.length x y=vV H.length x' y:=e2;exact⟨by rw[e1],by rw[e3]⟩
 obtain⟨v,H1,h1,_,h2⟩:=this;obtain⟨rfl,rfl⟩:=h2 x y rfl hI;exact h1
end
section
variable {H:AH}
def ac3(args:List AV)(H:AH)(v:AV)(H1:AH):Prop:=∀x y,args=[.c (.p x.w.p 0 0),.g (aY x y)]->WI H x->XI H x y->zU x y->Dy x.w->v=.c (.b true)/\∃X,H1=H++X
def Iz:List AV->AH->Option (AV×AH):=uw Tryz.prog [(44,.fq Lt),(46,.fp DH),(45,.fq DG),(48,.fq Lr),(47,.fp LD),(49,.fq Lw),(50,.fq FZ),(51,.fq F3)] 13 ac3
theorem arK:aZ Tryz.prog 13 Iz:=Ap (tq arf (tp arc (tq aq9 (tq arb (tp arJ (tq art (tq arz (tq arY tn)))))))) Tryz.func13 rfl Tryz.results13 Tryz.ntmps13
theorem azP{K:AH}{i j:Nat}{B:List Int}(h1:hg K i=.vec 1 (B.flatMap bQ))(h2:hg K j=.vec 1 (B.flatMap bQ))(hl:B.length<=262144):DG [.c (.sl i 0 B.length B.length),.c (.sl j 0 B.length B.length)] K=some (.c (.b true)):=awz (xA h1) (xA h2) hl
theorem VV(hW:WI H x)(hX:XI H x y)(hm:zU x y)(hr:Dy x.w):∃X,Iz [.c (.p x.w.p 0 0),.g (aY x y)] H=some (.c (.b true),H++X):=by
 have:∃v H1,Iz [.c (.p x.w.p 0 0),.g (aY x y)] H=some (v,H1)/\H.length<=H1.length/\ac3 [.c (.p x.w.p 0 0),.g (aY x y)] H v H1:=by
  obtain⟨m,hd⟩:=hX.rd;have sg:=hX.gq;have l:=sg.l;have t:=sg.t;have d:=sg.d;have ud:=sg.ud;have lb:=sg.lb;have o:=hX.one;have t4:bV 4 (aY x y)=[.i x.w.h,.i x.w.t,.i x.w.n,.i x.w.b]:=rfl;have g4:(aY x y).getD 4 .any=.sl y.id 0 x.w.B.length x.w.B.length:=rfl;obtain⟨S,hS⟩:∃S,S=aY x y:=⟨_,rfl⟩;have fc:=λX=>awE (hW.app X);have fb:=λX=>awB (Qk (hW.app X).w.o (hW.app X).w.v) hW.w.b0 hW.w.b1;have fu:=λX=>awA (hW.app X);have fm:=λX=>awL (hW.app X);have e1:DG [.c (.sl (H.length+1) 0 x.w.B.length x.w.B.length),.c (.sl y.id 0 x.w.B.length x.w.B.length)] (H++[.own S,.vec 1 (x.w.B.flatMap bQ)])=some (.c (.b true)):=azP (by rw[gY];rfl) (by rw[cL hX.aD];exact hd.o) hW.w.b1;obtain⟨X,h18⟩:=awX (hW.app [.own S,.vec 1 (x.w.B.flatMap bQ)]).d hX.bs (hX.app [.own S,.vec 1 (x.w.B.flatMap bQ)]).rp (hX.app [.own S,.vec 1 (x.w.B.flatMap bQ)]).bu (hX.app [.own S,.vec 1 (x.w.B.flatMap bQ)]).bv;simp only[fo,kX,jV]at h18;have l3:=kh x.n hm.xl;have o3:=AW x.n x.M;have t3:bV 321 (aG x.n x.M)=aG x.n x.M:=bR ω;have z3:=kh 0 yy;have dz:cY 321 (aG 0 Z8)=[]:=kE ω;obtain⟨N,hN⟩:∃N,N=X.length+2:=⟨_,rfl⟩;unfold Iz;apply ik (v:=.c (.b true)) (H1:=H++(.own S::.vec 1 (x.w.B.flatMap bQ)::(X++[.own (aG x.n x.M)]))) Tryz.func13 rfl Tryz.results13 Tryz.ntmps13 (by simp)
  .intro _ hH;rw[<-hS]at l t d o t4 g4 ud|-;have gK:∀Y,hg (H++(.own S::.vec 1 (x.w.B.flatMap bQ)::(X++(ae.own (aG x.n x.M)::Y)))) (H.length+(X.length+2))=.own (aG x.n x.M):=λY=>by
    rw[gY];show hg (X++(ae.own (aG x.n x.M)::Y)) X.length=_;rw[me];rfl
   simp only[go_sem,seval,l,t,d,o,t4,g4,ud,lb,fc,fb,fu,fm,e1,h18,l3,o3,t3,z3,dz,Mw];(repeat' first|apply cn|(intro c;exact absurd c ω)|(intro _;kernel_rfl)|kernel_rfl);obtain⟨G,hG⟩:∃G:AH,H++(.own S::.vec 1 (x.w.B.flatMap bQ)::(X++[.own (aG x.n x.M)]))=G:=⟨_,rfl⟩;rw[hG];have lG:H.length<G.length:=by rw[<-hG];simp
   have g1:hg G H.length=.own S:=by rw[<-hG,me];rfl
   have g2:hg G (H.length+(X.length+2))=.own (aG x.n x.M):=by rw[<-hG];exact gK []
   have wG:WI G x:=by rw[<-hG];exact hW.app _
   have sub:pQ H G:=by rw[<-hG];exact aB _ _
   have f1:∀j:Nat,j<8->FZ [.c (.p x.w.p 0 0),.c (.i (j:Int))] G=some (.t [.c (.u (x.w.R.getD j z0).ln),.c (.b (x.w.R.getD j z0).is)]):=λj hj=>by
    rw[awR wG.w,aO];by_cases c:(j:Int)<x.w.h
    .rw[if_pos ⟨ω,c⟩]
    .rw[if_neg (λh=>c h.2),hr.1 j ω];rfl
   have f2:∀j k:Nat,j<8->k<8->F3 [.c (.p (H.length+(X.length+2)) 0 0),.c (.i (j:Int)),.c (.i (k:Int))] G=some (.g (fA (fk y.R j k))):=λj k hj hk=>by rw[aw3 g2 hm.xl hm.n8,<-hm.tr j k hj hk]
   have f3:∀j:Nat,j<8->S.getD (5+j) .any=.b (x.w.R.getD j z0).is/\S.getD (13+j) .any=.u (x.w.R.getD j z0).ln:=λj hj=>by
    obtain⟨r,uB⟩:∃r,x.w.R[j]?=some r:=⟨_,cM (by rw[hd.R];exact hj)⟩;have:=aAx (y:=y) hd.R uB;rw[<-hS]at this;rw[b9 (l:=x.w.R),uB];exact this
   have f4:∀j k:Nat,j<8->k<8->(S.drop (708+(1+j*40+k*5))).take 5=fA (fk y.R j k):=λj k hj hk=>by rw[hS];exact aAw hX hj hk
   refine eY 8 (λi=>([(0,.c (.p x.w.p 0 0)),(3,.c (.p H.length 0 0)),(4,.c (.b false)),(5,.c (.p (H.length+(X.length+2)) 0 0)),(6,.c (.i i))],G)) (kT (by simp[Am.get])) λi hi=>?_;by_cases aL:i<8
   .have iI:(i:Int)<8:=ω
    have i0:(0:Int)<=(i:Int):=ω
    have E1:az ((i:Int)+1)=((i+1:Nat):Int):=by rw[aq ω ω];omega
    have h1:=f1 i aL;obtain⟨h3,h4⟩:=f3 i aL;have hz:Bu (x.w.R.getD i z0):=hr.2 i;generalize x.w.R.getD i z0=zr at*;obtain⟨zi,zl⟩:=zr;simp only at h1 h3 h4;have To:(zi=false/\zl=0#64)\/zi=true:=by
     cases zi
     .exact .inl ⟨rfl,congrArg Sl.ln (hz rfl)⟩
     .exact .inr rfl
    rcases To with⟨rfl,rfl⟩|rfl;all_goals(repeat(first|simp only[go_sem,seval,iI,i0,h1,g1,l,h3,h4,aO]|simp(disch:=omega)only[w0]))
    all_goals(refine eY 8 (λk=>([(0,.c (.p x.w.p 0 0)),(3,.c (.p H.length 0 0)),(4,.c (.b false)),(5,.c (.p (H.length+(X.length+2)) 0 0)),(6,.c (.i i)),(9,.c (.i k))],G)) ?_ λk hk=>?_;·exact kT (by simp[Am.get]))
    all_goals
     by_cases hlk:k<8
     .have kI:(k:Int)<8:=ω
      have k0:(0:Int)<=(k:Int):=ω
      have E2:az ((k:Int)+1)=((k+1:Nat):Int):=by rw[aq ω ω];omega
      have h5:=f2 i k aL hlk;have h6:=f4 i k aL hlk;rw[show 708+(1+i*40+k*5)=709+i*40+k*5 by omega]at h6;have b1:709+i*40+k*5+5<=1029:=ω
      generalize fk y.R i k=sl at*;obtain⟨os,ov,od,oa,oi⟩:=sl;have es:fA ⟨os,ov,od,oa,oi⟩=[.b os,.b ov,.b od,.u oa,.i oi]:=rfl;rw[es]at h5 h6;simp only[go_sem,seval,iI,i0,kI,k0,h5,h6,g1,l,b1,E2,aO];exact⟨k+1,ω,ω,kT (by simp[Am.get])⟩
     .obtain rfl:k=8:=ω
      simp only[go_sem,seval,E1];exact⟨i+1,ω,ω,kT (by simp[Am.get])⟩
   obtain rfl:i=8:=ω
   simp only[go_sem,seval];exact aN
  .simp
  .intro x' y' he _ _ _ _;exact⟨rfl,_,rfl⟩
 obtain⟨v,H1,h1,_,h2⟩:=this;obtain⟨rfl,X,rfl⟩:=h2 x y rfl hW hX hm hr;exact⟨X,h1⟩
end
structure Da where
 h:Int
 q:Wa
def xF(e:Da):List Sc:=.i e.h::cP e.q
def GY:List Sc->Option Da|[.i h,.i k,.u a,.u b,.i c,.i s,.i op,.u d,.u o,.b lv,.i ht,.b rs,.b rv,.b rd,.u va,.i i,.i e1,.u e2,.i e3,.u e4]=>some ⟨h,⟨k,a,b,c,s,op,d,o,lv,ht,rs,rv,rd,va,i,e1,e2,e3,e4⟩⟩|_=>none
theorem Zv(e:Da):GY (xF e)=some e:=rfl
theorem RV(cs:List Sc)(e:Da)(h:GY cs=some e):cs=xF e:=by
 unfold GY at h;split at h
 .simp only[ar]at h;subst h;rfl
 .simp at h
theorem Nx(e:Da):(xF e).length=20:=rfl
def ug(k:Nat)(h t n b:Int):Wd:=⟨⟨k+4,k+3,h,t,n,b,bE (64*n.toNat) 0,bE 8 z0,.p (k+2) 0 0,aG h Z8⟩,⟨k+2,k+1,bN h,fJ,.aA,.aA⟩,h,Z8⟩
theorem alT:Ha=iy Cp:=rfl
theorem alG(hh:1<=h/\h<=8):nM h h.toNat=aT (iH h):=by
 have:h=1\/h=2\/h=3\/h=4\/h=5\/h=6\/h=7\/h=8:=ω
 rcases this with rfl|rfl|rfl|rfl|rfl|rfl|rfl|rfl<;>rfl
theorem alZ(hh:1<=h/\h<=8):Ao h=eh (iE h):=by
 have:h=1\/h=2\/h=3\/h=4\/h=5\/h=6\/h=7\/h=8:=ω
 rcases this with rfl|rfl|rfl|rfl|rfl|rfl|rfl|rfl<;>rfl
theorem alF(hh:1<=h/\h<=8)(m:Nat):JM m h=fN m (bN h):=by
 unfold JM fN bN;rw[alG hh,alZ hh]
section
variable {H:AH}
theorem aAc(hh:1<=h/\h<=8)(hn:1<=n/\n<=4096):WI (H++uE H.length h t n b) (ug H.length h t n b):=by
 obtain⟨g1,g2⟩:=Uk (H:=H) h t n b [];rw[kD]at g1 g2;have lr:(bE (64*n.toNat) (0:Int)).length=64*n.toNat:=MD ..;have b0:=(RQ (H++[ae.own [.i h,.i t,.i n,.i b]]) hh).app [ae.vec 1 (bE (64*n.toNat) (.k .u8 0)),ae.own (oQ h t n b (.sl (H.length+3) 0 (64*n.toNat) (64*n.toNat)) tZ (.p (H.length+2) 0 0) (aG h Z8))];have e:(H++[ae.own [.i h,.i t,.i n,.i b]])++[ae.own (iy Cp),ae.own (fN (H++[ae.own [.i h,.i t,.i n,.i b]]).length (bN h))]++[ae.vec 1 (bE (64*n.toNat) (.k .u8 0)),ae.own (oQ h t n b (.sl (H.length+3) 0 (64*n.toNat) (64*n.toNat)) tZ (.p (H.length+2) 0 0) (aG h Z8))]=H++uE H.length h t n b:=by
  unfold uE;rw[alT,alF hh];simp
 rw[e]at b0;have ed:dN (H++[ae.own [.i h,.i t,.i n,.i b]]) h=⟨H.length+2,H.length+1,bN h,fJ,.aA,.aA⟩:=by simp[dN]
 rw[ed]at b0;refine⟨⟨?_,g2,rfl,?_,?_,kh h yy,hh.2⟩,b0,rfl,rfl,rfl,hh.2,rfl,?_,?_⟩
 .show hg _ (H.length+4)=.own (oQ h t n b (.sl (H.length+3) 0 (bE (64*n.toNat) (0:Int)).length (bE (64*n.toNat) (0:Int)).length) (iG (bE 8 z0)) (.p (H.length+2) 0 0) (aG h Z8));rw[lr];exact g1
 .show 0<(bE (64*n.toNat) (0:Int)).length;rw[lr];omega
 .show(bE (64*n.toNat) (0:Int)).length<=262144;rw[lr];omega
 .exact⟨by show H.length+4≠H.length+2;omega,by show H.length+4≠H.length+1;omega,by simp[ug,aW],by simp[ug,aW]⟩
 .exact⟨by show H.length+3≠H.length+2;omega,by show H.length+3≠H.length+1;omega,by simp[ug,aW],by simp[ug,aW]⟩
theorem az9(hh:1<=h/\h<=8):mg (bN h):=(aoY [] [] hh).bs
theorem aAd{k id:Nat}{h t n b:Int}(hh:1<=h/\h<=8)(hn:1<=n/\n<=4096)(yS:hg H id=.vec 1 (bE (64*n.toNat) (.k .u8 0))):XI H (ug k h t n b) (mF id):=by
 have lr:(bE (64*n.toNat) (0:Int)).length=64*n.toNat:=MD ..;refine⟨⟨n.toNat,?_,rfl,rfl,lr,ω,?_,rfl,rfl⟩,az9 hh,(show jd H fJ .aA .aA from⟨rfl,rfl,δ,δ,δ,δ,δ,δ,δ,δ⟩),rfl,rfl,rfl,hh.2,hh.2,rfl,by simp[mF,aW],by simp[mF,aW]⟩
 .show hg H id=.vec 1 ((bE (64*n.toNat) (0:Int)).flatMap bQ);rw[yS,adz]
 .intro y hy;have hy:y∈bE (64*n.toNat) (0:Int):=hy;rw[List.eq_of_mem_replicate hy];omega
theorem aAa{k id:Nat}{h t n b:Int}(hh:1<=h/\h<=8):zU (ug k h t n b) (mF id):=⟨rfl,rfl,hh.2,azF h,aA4 h⟩
theorem aAb:Dy (ug k h t n b).w:=by
 have e:∀j:Nat,(bE 8 z0).getD j z0=z0:=λj=>by
  rw[b9,CD];split<;>rfl
 exact⟨λj _=>e j,λj _=>e j⟩
end
section
variable {H K:AH}{c o:List Sc}{x:Wd}{y:Xw}{n:Nat}
def NH(m z:Nat):Prop:=z<m+2\/z=m+13
structure vN(H:AH)(c o:List Sc)(K:AH)(x:Wd)(y:Xw)(n:Nat):Prop where
 lp:vM (NH H.length) (λz=>z=H.length+13) K x y n
 ro:Dy x.w
 p:x.w.p=H.length+6
 fF:∀j,j<H.length->hg K j=hg H j
 oc:hg K H.length=.own c
 oo:hg K (H.length+1)=.own o
 ox:hg K (H.length+13)=.own (aY x y)
theorem vN.len(I:vN H c o K x y n):H.length+14<=K.length:=(I.lp.z _ (.inr rfl)).1
theorem vN.app(I:vN H c o K x y n)(X:AH):vN H c o (K++X) x y n:=by
 have l:=I.len;exact⟨I.lp.app X,I.ro,I.p,λj hj=>by rw[cL ω];exact I.fF j hj,by rw[cL ω];exact I.oc,by rw[cL ω];exact I.oo,by rw[cL ω];exact I.ox⟩
def yI (H:AH) (o:List Sc) (h t n b:Int):AH :=
 H++([.own [.i h,.i t,.i n,.i b],.own o]++(uE (H.length+2) h t n b++[.own [.i h,.i t,.i n,.i b],.own (aY (uQ h t n b) (mF (H.length+12))),.dead,.dead,.dead,.vec 1 (bE (64 * n.toNat) (.k .u8 0)),.own (aY (uQ h t n b) (mF (H.length+12)))]))
theorem al0 {h t n b:Int} (hh:1<=h/\h<=8) (hn:1<=n/\n<=4096):vN H [.i h,.i t,.i n,.i b] o (yI H o h t n b) (ug (H.length+2) h t n b) (mF (H.length+12)) 0:=by
 have len:(yI H o h t n b).length=H.length+14:=by unfold yI uE;simp
 have a:∀i X,i < 14->hg (yI H o h t n b++X) (H.length+i)=hg ([.own [.i h,.i t,.i n,.i b],.own o]++(uE (H.length+2) h t n b++[.own [.i h,.i t,.i n,.i b],.own (aY (uQ h t n b) (mF (H.length+12))),.dead,.dead,.dead,.vec 1 (bE (64 * n.toNat) (.k .u8 0)),.own (aY (uQ h t n b) (mF (H.length+12)))])) i:=λi X hi=>by
  rw [cL ω]
  unfold yI
  rw [gY]
 have a0:∀i,i < 14->hg (yI H o h t n b) (H.length+i)=hg ([.own [.i h,.i t,.i n,.i b],.own o]++(uE (H.length+2) h t n b++[.own [.i h,.i t,.i n,.i b],.own (aY (uQ h t n b) (mF (H.length+12))),.dead,.dead,.dead,.vec 1 (bE (64 * n.toNat) (.k .u8 0)),.own (aY (uQ h t n b) (mF (H.length+12)))])) i:=λi hi=>by
  have:=a i [] hi
  rwa [kD] at this
 have wi:WI (yI H o h t n b) (ug (H.length+2) h t n b):=by
  have w:=(aAc (H:=H++[.own [.i h,.i t,.i n,.i b],.own o]) (t:=t) (b:=b) hh hn).app [.own [.i h,.i t,.i n,.i b],.own (aY (uQ h t n b) (mF (H.length+12))),.dead,.dead,.dead,.vec 1 (bE (64 * n.toNat) (.k .u8 0)),.own (aY (uQ h t n b) (mF (H.length+12)))]
  have e2:(H++[ae.own [.i h,.i t,.i n,.i b],.own o]).length=H.length+2:=by simp
  rw [e2] at w
  unfold yI
  simpa only [fo] using w
 refine ⟨⟨wi,aAd hh hn (a0 12 δ),aAa hh,?_,λi hi=>by simp [mF,aW] at hi,λi hi=>by simp [mF,aW] at hi,λz hz=>?_,λz hz=>?_,rfl,rfl,aC _,aC _⟩,aAb,rfl,λj hj=>?_,a0 0 δ,a0 1 δ,a0 13 δ⟩
 .exact ⟨by show H.length+12≠H.length+2+4;omega,by show H.length+12≠H.length+2+3;omega,by show H.length+12≠H.length+2+2;omega,by show H.length+12≠H.length+2+1;omega,by simp [ug,aW],by simp [ug,aW]⟩
 .have AJ:z < H.length+2\/z=H.length+13:=hz
  refine ⟨ω,⟨by show z≠H.length+2+4;omega,by show z≠H.length+2+3;omega,by show z≠H.length+2+2;omega,by show z≠H.length+2+1;omega,by simp [ug,aW],by simp [ug,aW]⟩,by show z≠H.length+12;omega⟩
 .exact ⟨.inr hz,by simp [mF,aW],by simp [mF,aW]⟩
 .unfold yI
  exact cL hj
theorem vN.step(I:vN H c o K x y n)(hn:n<100000)(e:Da)(hs:ga e.q.s):∃K1 K2 x' y' A q,Ir [.c (.p (H.length+6) 0 0),.c (.i e.h),.g (cP e.q)] K=some (.c (.b q))/\IT [.g (aY x y),.c (.i e.h),.g (cP e.q)] K=some (.c (.b q))/\zp [.c (.p (H.length+6) 0 0),.c (.i e.h),.g (cP e.q)] K=some (.t [.g A,.c (.b q)],K1)/\fj K K1/\H.length+14<=K1.length/\(∀j,j<H.length->∀Y,hg (K1++Y) j=hg H j)/\(∀Y,hg (K1++Y) (H.length+13)=.own (aY x y))/\zy [.g (aY x y),.c (.i e.h),.g (cP e.q)] (K1++[ae.own A])=some (.t [.g (aY x' y'),.g A,.c (.b q)],K2)/\fj (K1++[ae.own A]) K2/\K1.length<K2.length/\(∀Y,hg (K2++Y) K1.length=.own A)/\(∀Y,hg (K2++Y) (H.length+13)=.own (aY x y))/\(∃d g r,A=fD d g r)/\(aY x' y').length=1029/\(aY x' y').all Sc.one=true/\bV 1029 (aY x' y')=aY x' y'/\vN H c o ((K2++[ae.own (aY x' y'),ae.own A]).set (H.length+13) (ae.own (aY x' y'))) x' y' (n+1):=by
 have ll:=I.len;obtain⟨K1,u,w,e1,FE,l1,k1,rest⟩:=I.lp.step hn e.h hs;obtain⟨K2,u',w',e2,Uf,l2,k2,I2⟩:=rest [.own (lI x y e.h e.q)];have my:=ad1 I.lp.wi (h:=e.h) (q:=e.q);have mx:=aep I.lp.xi (h:=e.h) (q:=e.q) hs;rw[I.p]at my e1;have lp1:(K1++[ae.own (lI x y e.h e.q)]).length=K1.length+1:=by simp
 have TB:∀j,NH H.length j->hg K1 j=hg K j:=λj hj=>by obtain⟨a,b,_⟩:=I.lp.z j hj;exact k1 j a b
 have kp2:∀j,NH H.length j->hg K2 j=hg K j:=λj hj=>by
  obtain⟨a,b,d⟩:=I.lp.z j hj;rw[k2 j ω d,cL ω];exact TB j hj
 have aD:=I.lp.xi.aD;have ex:aY (vl x e.h e.q) ⟨y.id,u',w',xR x y e.h e.q⟩=aY (oB x e.h e.q u w) ⟨y.id,u',w',xR x y e.h e.q⟩:=rfl;rw[ex]at e2;have sg:=I2.xi.gq;refine⟨K1,K2,oB x e.h e.q u w,⟨y.id,u',w',xR x y e.h e.q⟩,lI x y e.h e.q,fB x e.h e.q,my,mx,e1,FE,ω,λj hj Y=>?_,λY=>?_,e2,Uf,ω,λY=>?_,λY=>?_,XD x y e.h e.q,sg.l,I2.xi.one,sg.t,?_⟩
 .rw[cL ω,TB j (.inl ω)];exact I.fF j hj
 .rw[cL ω,TB _ (.inr rfl)];exact I.ox
 .rw[cL ω,k2 _ ω ω,me];rfl
 .rw[cL ω,kp2 _ (.inr rfl)];exact I.ox
 have I3:=I2.app [.own (aY (oB x e.h e.q u w) ⟨y.id,u',w',xR x y e.h e.q⟩),.own (lI x y e.h e.q)];have g:∀j,j<H.length+13->NH H.length j->∀S,hg ((K2++[ae.own (aY (oB x e.h e.q u w) ⟨y.id,u',w',xR x y e.h e.q⟩),.own (lI x y e.h e.q)]).set (H.length+13) S) j=hg K j:=λj hj hP S=>by rw[fg ω,cL ω];exact kp2 j hP
 refine⟨I3.set rfl _,adD I.ro e.h e.q u w,I.p,λj hj=>?_,?_,?_,jj (by simp;omega)⟩
 .rw[g j ω (.inl ω)];exact I.fF j hj
 .rw[g H.length ω (.inl ω)];exact I.oc
 .rw[g (H.length+1) ω (.inl ω)];exact I.oo
end
section
variable {H K:AH}{c o:List Sc}{x:Wd}{y:Xw}{n:Nat}
theorem XI.a8(h:XI H x y):jg x.w.B=true:=by
 obtain⟨m,hd⟩:=h.rd;unfold jg;rw[cD];exact λz hz=>decide_eq_true (hd.ot z hz)
theorem ajp(k:Nat)(x:Wd)(y:Xw):(vV k x y).length=7:=rfl
theorem ajq(h:XI H x y)(h0:0<x.w.B.length)(X:AH):XI (H++(vV H.length x y++X)) x {y with id:=H.length+6}:=by
 have h':=h.app (vV H.length x y++X);obtain⟨m,hd⟩:=h'.rd;refine⟨⟨m,?_,hd.v,hd.N,hd.l,hd.m,hd.ot,hd.rf,hd.R⟩,h'.bs,h'.rp,h'.bu,h'.bv,h'.l,h'.n8,h'.h8,h'.hb,λe=>?_,λe=>?_⟩
 .show hg _ (H.length+6)=_;rw[gY];rfl
 .have:H.length+6<H.length:=rL h.rp.hx h.bu e;omega
 .have:H.length+6<H.length:=rL h.rp.hy h.bv e;omega
theorem vN.fin(I:vN H c o K x y n)(hn:n<100000)(e:Da)(hs:ga e.q.s):∃K4 K5 X1 X2 Z S' A q z,Ls [.c (.p (H.length+6) 0 0)] K=some (.c (.p (K.length+5) 0 0),K++u7 K.length x)/\(∃S,Mf [.g (aY x y)] (K++u7 K.length x)=some (.g S,K++Z)/\S.length=1029/\S.all Sc.one=true/\bV 1029 S=S/\Z.length=13/\Iw [.c (.p (K.length+5) 0 0),.c (.p (H.length+6) 0 0)] (K++(Z++[ae.own S]))=some (.c (.b true))/\zp [.c (.p (K.length+5) 0 0),.c (.i e.h),.g (cP e.q)] (K++(Z++[ae.own S]))=some (.t [.g A,.c (.b q)],K4)/\fj (K++(Z++[ae.own S])) K4/\K.length+14<=K4.length/\(∀j,j<K.length->∀Y,hg (K4++Y) j=hg K j)/\(∀Y,hg (K4++Y) (K.length+13)=ae.own S)/\zy [.g S,.c (.i e.h),.g (cP e.q)] K4=some (.t [.g S',.g A,.c (.b q)],K5)/\hg K5 (K.length+13)=ae.own S)/\fj K4 K5/\K.length+14<=K5.length/\(∀j,j<K.length->∀Y,hg (K5.set (K.length+13) (ae.own S')++Y) j=hg K j)/\A.length=42/\A.all Sc.one=true/\S'.length=1029/\S'.all Sc.one=true/\bV 1029 S'=S'/\Iz [.c (.p (K.length+5) 0 0),.g S'] (K5.set (K.length+13) (ae.own S'))=some (.c (.b true),K5.set (K.length+13) (ae.own S')++X1)/\Iz [.c (.p (H.length+6) 0 0),.g (aY x y)] (K5.set (K.length+13) (ae.own S')++X1)=some (.c (.b true),K5.set (K.length+13) (ae.own S')++(X1++X2))/\Iw [.c (.p (K.length+5) 0 0),.c (.p (H.length+6) 0 0)] (K5.set (K.length+13) (ae.own S')++(X1++X2))=some (.c (.b z))/\Mk [.g (aY x y),.g S'] (K5.set (K.length+13) (ae.own S')++(X1++X2))=some (.c (.b z)):=by
 have fw:=I.lp.ZW hn;have wi:=I.lp.wi;have xi:=I.lp.xi;have b0:=wi.w.b0;have q1:=awC wi fw;rw[I.p]at q1;have cl:(K++u7 K.length x).length=K.length+6:=by rw[cF,Y0]
 have q2:=axJ (xi.app (u7 K.length x)) b0;rw[cl]at q2;have e1:K.length+6+6=K.length+12:=ω
 rw[e1]at q2;obtain⟨S,hS⟩:∃S,S=aY x {y with id:=K.length+12}:=⟨_,rfl⟩;obtain⟨Z,hZ⟩:∃Z,Z=u7 K.length x++vV (K.length+6) x y:=⟨_,rfl⟩;have lZ:Z.length=13:=by rw[hZ,cF,Y0,ajp]
 rw[fo,<-hZ,<-hS]at q2;obtain⟨K3,px⟩:∃K3,K3=K++(Z++[.own S]):=⟨_,rfl⟩;have l3:K3.length=K.length+14:=by rw[px,cF,cF,lZ];rfl
 have wd:WI K3 (mr K.length x):=by
  have:=(aiX wi).app (vV (K.length+6) x y++[.own S]);rw[px,hZ];simpa only[fo]using this
 have xc:XI K3 x {y with id:=K.length+12}:=by
  have:=ajq (xi.app (u7 K.length x)) b0 [.own S];rw[cl]at this;rw[px,hZ];simpa only[fo,e1]using this
 have w3:WI K3 x:=by rw[px];exact wi.app _
 have x3:XI K3 x y:=by rw[px];exact xi.app _
 have sy:∀i,aW y.u=some i->i<K.length:=λi hi=>rL xi.rp.hx xi.bu hi;have sv:∀i,aW y.v=some i->i<K.length:=λi hi=>rL xi.rp.hy xi.bv hi;have aF:∀z,z<K.length\/K.length+6<=z->xp (mr K.length x) z:=λz hz=>by
  refine⟨?_,?_,?_,?_,?_,?_⟩
  .show z≠K.length+5;omega
  .show z≠K.length;omega
  .show z≠K.length+1+3;omega
  .show z≠K.length+1;omega
  .simp only[mr,yG,aW,ne_eq,ar];omega
  .simp only[mr,yG,aW,ne_eq,ar];omega
 have ml2:zU (mr K.length x) {y with id:=K.length+12}:=⟨I.lp.ml.xl,I.lp.ml.yl,I.lp.ml.n8,I.lp.ml.tr,I.lp.ml.ze⟩;have J:vM (λz=>z<K.length\/z=K.length+13) (λz=>z=K.length+13) K3 (mr K.length x) {y with id:=K.length+12} n:=by
  refine⟨wd,xc.GW rfl rfl rfl rfl rfl rfl,ml2,aF _ (.inr (by show K.length+6<=K.length+12;omega)),λi hi=>aF i (.inl (sy i hi)),λi hi=>aF i (.inl (sv i hi)),λz hz=>?_,λz hz=>?_,I.lp.a8,I.lp.b8,I.lp.la,I.lp.lb⟩
  .exact⟨ω,aF z ω,by show z≠K.length+12;omega⟩
  .exact⟨.inr hz,λh=>by have:=sy z h;omega,λh=>by have:=sv z h;omega⟩
 have q3:=ad5 wd w3 xi.a8 xi.a8 ⟨I.lp.a8,I.lp.b8,I.lp.a8,I.lp.b8⟩;rw[az6 (x:=mr K.length x) (y:=x) rfl rfl rfl rfl rfl rfl rfl rfl rfl rfl,I.p]at q3;obtain⟨K4,u,w,q4,Ug,l4,k4,rest⟩:=J.step hn e.h hs;obtain⟨K5,u',w',q5,OK,l5,k5,J5⟩:=rest [];rw[kD]at q5 OK l5 k5;have ec:aY (mr K.length x) {y with id:=K.length+12}=S:=by rw[hS];rfl
 rw[ec]at q5;obtain⟨S',sr⟩:∃S',S'=aY (vl (mr K.length x) e.h e.q) ⟨K.length+12,u',w',xR (mr K.length x) {y with id:=K.length+12} e.h e.q⟩:=⟨_,rfl⟩;obtain⟨A,hA⟩:∃A,A=lI (mr K.length x) {y with id:=K.length+12} e.h e.q:=⟨_,rfl⟩;rw[<-hA]at q4 q5;obtain⟨d1,d2,d3,hd⟩:=XD (mr K.length x) {y with id:=K.length+12} e.h e.q;rw[<-hA]at hd;have HF:∀j,j<K.length\/j=K.length+13->hg K4 j=hg K3 j:=λj hj=>by
  obtain⟨a,b,_⟩:=J.z j hj;exact k4 j a b
 have Kw:∀j,j<K.length->hg K5 j=hg K j:=λj hj=>by rw[k5 j ω (by show j≠K.length+12;omega),HF j (.inl hj),px,cL hj]
 have g3:hg K3 (K.length+13)=.own S:=by rw[px,gY,<-lZ,me];rfl
 have J6:=J5.set (z:=K.length+13) rfl (.own S');obtain⟨K6,Ar⟩:∃K6,K6=K5.set (K.length+13) (.own S'):=⟨_,rfl⟩;rw[<-Ar]at J6;have l6:K6.length=K5.length:=by rw[Ar,js]
 have TC:∀j,j<K.length->hg K6 j=hg K j:=λj hj=>by rw[Ar,fg ω];exact Kw j hj
 have w6:WI K6 x:=wi.stay λj hj _=>TC j hj;have x6:XI K6 x y:=xi.stay ω λj hj _=>TC j hj;have ro6:Dy (oB (mr K.length x) e.h e.q u w).w:=adD (x:=mr K.length x) I.ro e.h e.q u w;obtain⟨X1,q6⟩:=VV J6.wi J6.xi J6.ml ro6;obtain⟨X2,q7⟩:=VV (w6.app X1) (x6.app X1) I.lp.ml I.ro;rw[I.p,fo]at q7;have q8:=ad5 (J6.wi.app (X1++X2)) (w6.app (X1++X2)) J6.xi.a8 xi.a8 ⟨J6.a8,J6.b8,I.lp.a8,I.lp.b8⟩;have q9:=axN (x6.app (X1++X2)) (J6.xi.app (X1++X2));rw[axR J6.ml I.lp.ml,I.p]at q8;have es:aY (oB (mr K.length x) e.h e.q u w) ⟨K.length+12,u',w',xR (mr K.length x) {y with id:=K.length+12} e.h e.q⟩=S':=by rw[sr];rfl
 rw[es]at q6 q9;have sg:=xc.gq;have so:=xc.one;rw[<-hS]at sg so;have WU:=J5.xi.gq;have so5:=J5.xi.one;rw[es]at WU so5;subst Ar;refine⟨K4,K5,X1,X2,Z,S',A,fB (mr K.length x) e.h e.q,_,q1,⟨S,q2,sg.l,so,sg.t,lZ,px▸q3,px▸q4,px▸Ug,ω,λj hj Y=>?_,λY=>?_,by rw[sr];exact q5,by rw[k5 _ ω (by show K.length+13≠K.length+12;omega),HF _ (.inr rfl),g3]⟩,OK,ω,λj hj Y=>?_,?_,?_,WU.l,so5,WU.t,q6,q7,q8,q9⟩
 .rw[cL ω,HF j (.inl hj),px,cL hj]
 .rw[cL ω,HF _ (.inr rfl),g3]
 .rw[cL ω];exact TC j hj
 .rw[hd,MT]
 .rw[hd];exact MU _ _ _
end
def WL(args:List AV):Option AV:=match args with|[.g [.i h,.i t,.i n,.i b]]=>some (.c (.b (FN h t n b)))|_=>none
theorem PU{h t n b}:WL [.g [.i h,.i t,.i n,.i b]]=some (.c (.b (FN h t n b))):=rfl
theorem ato:cE Tryz.prog 6 WL:=by
 refine cN tn Tryz.func6 rfl Tryz.results6 Tryz.ntmps6 ?_;intro args v h;unfold WL at h;split at h
 .rename_i h t n b;simp only[ar]at h;subst h;refine⟨by simp,rfl,rfl,?_⟩;simp only[go_sem,seval,FN,I7];repeat'(first
 |(refine vd (λh=>?_) (λh=>?_)<;>(try simp only[decide_eq_true_eq,decide_eq_false_iff_not,gD,ja,iB,jb,aQ,beq_iff_eq,beq_eq_false_iff_ne,ne_eq,fR]at h)<;>(simp only[go_sem,seval,h]))|(refine vm (λh=>?_) (λh=>?_)<;>(try simp only[decide_eq_true_eq,decide_eq_false_iff_not,gD,ja,iB,jb,aQ,beq_iff_eq,beq_eq_false_iff_ne,ne_eq,fR]at h)<;>((repeat(first|simp only[go_sem,seval,h]|simp(disch:=omega)only[w0]))))|(refine vn (λh=>?_) (λh=>?_)<;>(try simp only[decide_eq_true_eq,decide_eq_false_iff_not,gD,ja,iB,jb,aQ,beq_iff_eq,beq_eq_false_iff_ne,ne_eq,fR]at h)<;>((repeat(first|simp(maxSteps:=9^9)only[go_sem,seval,h]|simp(disch:=omega)only[aq,aK,aJ,aI,aH])))))
  all_goals(simp_all<;>omega)
 .simp at h
theorem adC:FO h t n b=FN h t n b:=rfl
section
variable {H:AH}
def Iq(args:List AV)(H:AH):Option AV:=match args with
 |[.g [.i _,.i _,.i _,.i _],.c x,.g g]=>match fL 20 GY H x,GY g with
   |some L,some d=>open Classical in if L.length<=9223372036854775807/\(∀e∈L,ga e.q.s)/\ga d.q.s then some (.c (.b true))else none|_,_=>none
 |_=>none
theorem ars:aZ Tryz.prog 3 (λargs H=>(Iq args H).map λv=>(v,H)):=by
 refine iR (s:=Iq) (tp abV (tu ato (tu arq (tp atn (tq abU (tq acm (tp arj (tp atl (tp arK (tp ard (tp atk (tq arB (tq atp tn))))))))))))) Tryz.func3 rfl Tryz.results3 Tryz.ntmps3 ?_
 intro args H v h bM hH
 unfold Iq at h
 split at h <;> try (simp at h;done)
 rename_i h0 t n b x g
 split at h <;> try (simp at h;done)
 rename_i L d hL hd
 split at h <;> try (simp at h;done)
 rename_i hc
 obtain ⟨hn,Hw,hsd⟩:=hc
 obtain rfl:=RV _ _ hd
 simp only [ar] at h
 subst h
 refine ⟨by simp only [cZ,dY];decide,rfl,?_⟩
 have bx:x.aj H.length=true:=by simp only [bG,AV.aj,aQ] at bM;exact bM.2.1
 have xl:∀e,oJ (.sl e) (.c x)=some (.c (.i L.length)):=by rcases CA RV hL with ⟨rfl,rfl⟩ | ⟨id,v,rfl,_,_⟩ <;> intro e <;> rfl
 have xs:(oJ (.sl 0) (.c x)).isSome=true:=by rw [xl];rfl
 have lW:(xF d).length=20:=rfl
 have oW:(xF d).all Sc.one=true:=rfl
 have tW:bV 20 (xF d)=xF d:=rfl
 have gW0:(xF d).getD 0 .any=.i d.h:=rfl
 have gW1:bV 19 (cY 1 (xF d))=cP d.q:=rfl
 obtain ⟨W,hW⟩:∃W,W=xF d:=⟨_,rfl⟩
 rw [<-hW] at lW oW tW gW0 gW1 |-
 cases hr:FN h0 t n b with
 | false =>
   have p1:zq [.g [.i h0,.i t,.i n,.i b]] (H++[.own [.i h0,.i t,.i n,.i b],.own W])=some (.t [.c .dt,.c (.i 1)],H++[.own [.i h0,.i t,.i n,.i b],.own W,.own [.i h0,.i t,.i n,.i b]]):=by
    simp only [zq]
    rw [adC,if_neg (by simp [hr])]
    simp
   (repeat (first | simp (maxSteps:=9^9) only [go_sem,seval,lW,oW,tW,p1,PU,hr,Pw] | simp (disch:=omega) only [aq,aK,aJ,aI,aH]))
   exact aB _ _
 | true =>
 have uB:=hr
 simp only [FN,I7,aQ,decide_eq_true_eq] at uB
 obtain ⟨⟨a1,a2⟩,⟨b1,b2⟩,⟨c1,c2⟩,d1,d2⟩:=uB
 obtain ⟨K1,BP⟩:∃K1:AH,K1=H++([.own [.i h0,.i t,.i n,.i b],.own W]++uE (H.length+2) h0 t n b):=⟨_,rfl⟩
 have l1:K1.length=H.length+7:=by rw [BP];simp [uE]
 have p1:zq [.g [.i h0,.i t,.i n,.i b]] (H++[.own [.i h0,.i t,.i n,.i b],.own W])=some (.t [.c (.p (H.length+6) 0 0),.c (.i 0)],K1):=by
  simp only [zq]
  rw [adC,if_pos hr,BP]
  simp
 have k1c:∀Y,hg (K1++Y) H.length=.own [.i h0,.i t,.i n,.i b]:=λY=>by rw [cL ω,BP,me];rfl
 have Tw:hg K1 H.length=.own [.i h0,.i t,.i n,.i b]:=by rw [BP,me];rfl
 by_cases Ud:20 < n
 .have sq:pQ H K1:=by rw [BP];exact aB _ _
  (repeat (first | simp (maxSteps:=9^9) only [go_sem,seval,lW,oW,tW,p1,PU,hr,Tw,Ud,Pw] | simp (disch:=omega) only [aq,aK,aJ,aI,aH]))
  exact sq
 by_cases l60:60 < L.length
 .have TD:(60:Int) < L.length:=ω
  have sq:pQ H K1:=by rw [BP];exact aB _ _
  (repeat (first | simp (maxSteps:=9^9) only [go_sem,seval,lW,oW,tW,p1,PU,hr,Tw,Ud,xl,xs,vR,TD,Pw] | simp (disch:=omega) only [aq,aK,aJ,aI,aH]))
  exact sq
 have TD:¬(60:Int) < L.length:=ω
 obtain ⟨S0,tE⟩:∃S0,S0=aY (uQ h0 t n b) (mF (H.length+12)):=⟨_,rfl⟩
 obtain ⟨K2,yN⟩:∃K2:AH,K2=K1++[.own [.i h0,.i t,.i n,.i b],.own S0,.dead,.dead,.dead,.vec 1 (bE (64 * n.toNat) (.k .u8 0))]:=⟨_,rfl⟩
 have l2:K2.length=H.length+13:=by rw [yN,cF,l1];rfl
 have p2:D0 [.g [.i h0,.i t,.i n,.i b]] K1=some (.g S0,K2):=by
  have e:=axM (H:=K1) (t:=t) (b:=b) ⟨c1,c2⟩ ⟨a1,a2⟩
  rw [l1,show H.length+7+5=H.length+12 by omega,<-tE,<-yN] at e
  exact e
 obtain ⟨K3,px⟩:∃K3:AH,K3=yI H W h0 t n b:=⟨_,rfl⟩
 have e3:K2++[.own S0]=K3:=by
  rw [px,yN,BP,tE]
  unfold yI
  simp only [fo,kX,jV]
 have I0:vN H [.i h0,.i t,.i n,.i b] W K3 (ug (H.length+2) h0 t n b) (mF (H.length+12)) 0:=by rw [px];exact al0 ⟨a1,a2⟩ ⟨c1,c2⟩
 have ex0:aY (ug (H.length+2) h0 t n b) (mF (H.length+12))=S0:=by rw [tE];rfl
 have WT:=I0.lp.xi.gq
 have so0:=I0.lp.xi.one
 rw [ex0] at WT so0
 have ls0:=WT.l
 have ts0:=WT.t
 have n0:∀X,hg (K2++X) (H.length+13)=hg X 0:=λX=>by rw [<-l2,me]
 have s0:∀X o,(K2++X).set (H.length+13) o=K2++X.set 0 o:=λX o=>by rw [<-l2,D4]
 (repeat (first | simp (maxSteps:=9^9) only [go_sem,seval,lW,oW,tW,p1,PU,hr,Tw,Ud,xl,xs,vR,TD,p2,l2,n0,s0,Bv,vH,zL,ls0,ts0,so0,e3] | simp (disch:=omega) only [aq,aK,aJ,aI,aH]))
 --SHOW
 rw [rk]
 refine ⟨{s:Nat × AH × Wd × Xw // s.1<=L.length/\vN H [.i h0,.i t,.i n,.i b] W s.2.1 s.2.2.1 s.2.2.2 s.1},
  λs=>([(1,.c x),(3,.c (.p H.length 0 0)),(5,.c (.p (H.length+1) 0 0)),(6,.c (.b false)),(7,.c (.p (H.length+6) 0 0)),(9,.c (.p (H.length+13) 0 0)),(10,.c (.i s.1.1))],s.1.2.1),λs=>L.length - s.1.1,
  ⟨(0,_,_,_),by simp,I0⟩,Wk.fr (by simp [Am.get]),?_⟩
 rintro ⟨⟨k,K,w,y⟩,hk,I⟩
 simp only at hk I |-
 by_cases aL:k < L.length
 .rcases CA RV hL with ⟨rfl,rfl⟩ | ⟨id,aX,rfl,hv,cu⟩
  .simp at aL
  have aD:id < H.length:=by simpa [Sc.aj] using bx
  obtain ⟨e,he⟩:∃a,L[k]?=some a:=⟨_,cM aL⟩
  have hse:ga e.q.s:=Hw e (Eo he)
  obtain ⟨K1',Jl,w',y',A,q,my,mx,f1,FE,q1,q2,q3,f2,Uf,q4,q5,q6,⟨da,db,dc,hA⟩,z1,z2,z3,I1⟩:=I.step ω e hse
  have gk:=I.fF id aD
  have kk1:=λY=>q2 id aD Y
  have kk0:=q2 id aD []
  rw [kD] at kk0
  have q30:=q3 []
  rw [kD] at q30
  have g1:=NF Nx (L:=L) (k:=k) aL
  have c0:(hg H id).cells.getD (k * 20) .any=.i e.h:=by
   have:=Sb Nx he (i:=0) δ
   rw [rj] at this
   rw [cu,this];rfl
  have c1:bV 19 (cY (k * 20+1) (hg H id).cells)=cP e.q:=by
   obtain ⟨P,Q,s1,s2,_⟩:=CS Nx he
   rw [cu,s1,<-s2,fo,<-uX,MB]
   exact qe (show (cP e.q).length=19 from rfl)
  rw [<-cu] at g1
  have BW:(k:Int) < (L.length:Int):=ω
  have k0:(0:Int)<=(k:Int):=ω
  have E1:az ((k:Int)+1)=((k+1:Nat):Int):=by rw [aq ω ω];omega
  have al:A.length=42:=by rw [hA];exact MT _ _ _
  have a1:A.all Sc.one=true:=by rw [hA];exact MU _ _ _
  have cQ:bV 42 A=A:=bR ω
  have an:cj Tryz.prog .neq 73 (.g A) (.g A)=some (.c (.b false)):=by rw [hA];exact agL _ _ _
  have ox:=I.ox
  have lS:=I.lp.xi.gq.l
  have tS:=I.lp.xi.gq.t
  obtain ⟨S1,hS1⟩:∃S1,S1=aY w' y':=⟨_,rfl⟩
  rw [<-hS1] at f2 z1 z2 z3 I1
  have g2:∀(K:AH) X,hg (K++X) K.length=hg X 0:=λK X=>me
  have o1:hg ((Jl++[ae.own S1,.own A]).set (H.length+13) (.own S1)) K1'.length=.own A:=by
   rw [fg ω];exact q5 _
  have o2:hg ((Jl++[ae.own S1,.own A]).set (H.length+13) (.own S1)) (Jl.length+1)=.own A:=by
   rw [fg ω,gY];rfl
  obtain ⟨K4,BQ⟩:∃K4,(Jl++[ae.own S1,.own A]).set (H.length+13) (.own S1)=K4:=⟨_,rfl⟩
  rw [BQ] at I1 o1 o2
  have lx2:(hg (Jl++[ae.own S1,.own A]) (H.length+13))=.own (aY w y):=q6 _
  have dS:=I.lp.xi.gq.d
  generalize aY w y=S at *
  generalize cP e.q=We at *
  cases q
  all_goals (repeat (first | simp (maxSteps:=9^9) only [go_sem,seval,xl,BW,k0,g1,c0,c1,gk,hv.symm,kk1,kk0,q3,q30,ox,lS,tS,dS,my,mx,f1,f2,al,a1,cQ,Bv,vH,zL,z1,z2,z3,BQ,lx2,o1,o2,an,E1] | simp (disch:=omega) only [aq,aK,aJ,aI,aH]))
  --SHOW
  all_goals (repeat' first | apply cn | exact qT FE κ | exact qT Uf κ | (intro c;exact absurd c ω) | (intro _;kernel_rfl) | kernel_rfl)
  all_goals exact ⟨⟨(k+1,_,w',y'),by simp only;omega,I1⟩,by simp only;omega,Wk.fr (by simp [Am.get])⟩
 .obtain rfl:k=L.length:=ω
  have kI:¬((L.length:Int) < (L.length:Int)):=ω
  obtain ⟨X0,Sm⟩:=VV I.lp.wi I.lp.xi I.lp.ml I.ro
  rw [I.p] at Sm
  have J:=I.app X0
  have ox:=I.ox
  have lS:=I.lp.xi.gq.l
  have tS:=I.lp.xi.gq.t
  obtain ⟨Kn,hK⟩:∃Kn,K++X0=Kn:=⟨_,rfl⟩
  rw [hK] at Sm J
  obtain ⟨K4,K5,X1,X2,Z,S',A,q,z,q1,⟨S,q2,sl,so,st,lZ,q3,q4,Ug,l4,HF,gS4,q5,g5⟩,OK,l5,Kw,al,a1,sl',so',W4,q6,q7,q8,q9⟩:=J.fin ω d hsd
  have jl:=J.len
  have lKZ:∀X,hg (Kn++(Z++X)) (Kn.length+13)=hg X 0:=λX=>by rw [gY,<-lZ,me]
  have sKZ:∀X o,(Kn++(Z++X)).set (Kn.length+13) o=Kn++(Z++X.set 0 o):=λX o=>by rw [vF,<-lZ,D4]
  have nKZ:(Kn++Z).length=Kn.length+13:=by rw [cF,lZ]
  have jx:∀Y,hg (Kn++Y) (H.length+13)=.own (aY w y):=λY=>by rw [cL ω];exact J.ox
  have jo:∀Y,hg (Kn++Y) (H.length+1)=.own W:=λY=>by rw [cL ω];exact J.oo
  have gx0:hg Kn (H.length+13)=.own (aY w y):=J.ox
  have o4:hg K4 (H.length+1)=.own W:=by have:=HF (H.length+1) ω [];rw [kD] at this;rw [this];exact J.oo
  have s4:hg K4 (Kn.length+13)=.own S:=by have:=gS4 [];rwa [kD] at this
  obtain ⟨K6,Ar⟩:∃K6,K6=K5.set (Kn.length+13) (.own S'):=⟨_,rfl⟩
  have l6:K6.length=K5.length:=by rw [Ar,js]
  rw [<-Ar] at q6 q7 q8 q9 Kw
  have o6:∀Y,hg (K6++Y) (H.length+13)=.own (aY w y):=λY=>by rw [Kw _ ω];exact J.ox
  have s6:∀Y,hg (K6++Y) (Kn.length+13)=.own S':=λY=>by rw [cL ω,Ar,jj ω]
  have s60:hg K6 (Kn.length+13)=.own S':=by rw [Ar,jj ω]
  have dS2:cY 1029 S=[]:=kE ω
  have amJ:=Ar.symm
  have fin:∀Y,pQ H (K6++Y):=λY=>aeQ (by rw [cF];omega) λi hi=>by rw [Kw i ω];exact J.fF i hi
  generalize aY w y=Sx at *
  generalize cP d.q=Wd at *
  cases z
  all_goals (repeat (first | simp (maxSteps:=9^9) only [go_sem,seval,xl,kI,ox,Sm,lS,tS,q1,gx0,jx,jo,q2,lKZ,sKZ,nKZ,Bv,vH,zL,sl,so,st,q3,lW,gW0,gW1,q4,o4,s4,q5,g5,dS2,sl',so',W4,amJ,s6,s60,o6,q6,q7,q8,q9,Pw] | simp (disch:=omega) only [aq,aK,aJ,aI,aH]))
  --SHOW
  all_goals (repeat' first | apply cn | exact qT Ug κ | exact qT OK κ | (intro c;exact absurd c ω) | (intro _;kernel_rfl) | kernel_rfl)
  all_goals exact fin _
theorem Zu(cs:List Sc)(gg:L2 kF cs [.n .i64,.n .i64,.n .u64,.n .u64,.n .i64,.n .i64,.n .i64,.n .u64,.n .u64,.q,.n .i64,.q,.q,.q,.n .u64,.n .i64,.n .i64,.n .u64,.n .i64,.n .u64]):∃x:Da,cs=xF x/\ga x.q.s:=by
 obtain⟨z0,l0,rfl,k0,g0⟩:=mK gg;obtain⟨z1,l1,rfl,k1,g1⟩:=mK g0;obtain⟨z2,l2,rfl,k2,g2⟩:=mK g1;obtain⟨z3,l3,rfl,k3,g3⟩:=mK g2;obtain⟨z4,l4,rfl,k4,g4⟩:=mK g3;obtain⟨z5,l5,rfl,k5,g5⟩:=mK g4;obtain⟨z6,l6,rfl,k6,g6⟩:=mK g5;obtain⟨z7,l7,rfl,k7,g7⟩:=mK g6;obtain⟨z8,l8,rfl,k8,g8⟩:=mK g7;obtain⟨z9,l9,rfl,k9,g9⟩:=mK g8;obtain⟨z10,l10,rfl,k10,Hb⟩:=mK g9;obtain⟨z11,l11,rfl,Fj,NL⟩:=mK Hb;obtain⟨z12,l12,rfl,Fk,NM⟩:=mK NL;obtain⟨z13,l13,rfl,Fl,g13⟩:=mK NM;obtain⟨z14,Dd,rfl,Kt,g14⟩:=mK g13;obtain⟨z15,l15,rfl,k15,g15⟩:=mK g14;obtain⟨z16,Df,rfl,k16,g16⟩:=mK g15;obtain⟨z17,l17,rfl,k17,g17⟩:=mK g16;obtain⟨z18,l18,rfl,k18,g18⟩:=mK g17;obtain⟨z19,l19,rfl,k19,g19⟩:=mK g18;obtain rfl:=R5 g19;obtain⟨y0,rfl,_,_⟩:=wg k0;obtain⟨y1,rfl,_,_⟩:=wg k1;obtain⟨y2,rfl⟩:=EL k2;obtain⟨y3,rfl⟩:=EL k3;obtain⟨y4,rfl,_,_⟩:=wg k4;obtain⟨y5,rfl,r5a,r5b⟩:=wg k5;obtain⟨y6,rfl,_,_⟩:=wg k6;obtain⟨y7,rfl⟩:=EL k7;obtain⟨y8,rfl⟩:=EL k8;obtain⟨y9,rfl⟩:=NB k9;obtain⟨y10,rfl,_,_⟩:=wg k10;obtain⟨y11,rfl⟩:=NB Fj;obtain⟨y12,rfl⟩:=NB Fk;obtain⟨y13,rfl⟩:=NB Fl;obtain⟨y14,rfl⟩:=EL Kt;obtain⟨y15,rfl,_,_⟩:=wg k15;obtain⟨y16,rfl,_,_⟩:=wg k16;obtain⟨y17,rfl⟩:=EL k17;obtain⟨y18,rfl,_,_⟩:=wg k18;obtain⟨y19,rfl⟩:=EL k19;exact⟨⟨y0,⟨y1,y2,y3,y4,y5,y6,y7,y8,y9,y10,y11,y12,y13,y14,y15,y16,y17,y18,y19⟩⟩,rfl,⟨r5a,r5b⟩⟩
theorem ax9 (fz:List AV) (H:AH) (h:kj [.fl true [.n .i64,.n .i64,.n .i64,.n .i64],.sl [.n .i64,.n .i64,.n .u64,.n .u64,.n .i64,.n .i64,.n .i64,.n .u64,.n .u64,.q,.n .i64,.q,.q,.q,.n .u64,.n .i64,.n .i64,.n .u64,.n .i64,.n .u64],.fl true [.n .i64,.n .i64,.n .u64,.n .u64,.n .i64,.n .i64,.n .i64,.n .u64,.n .u64,.q,.n .i64,.q,.q,.q,.n .u64,.n .i64,.n .i64,.n .u64,.n .i64,.n .u64]] fz H):Iq fz H=some (.c (.b true)):=by
 obtain ⟨l,r,rfl,g,h2⟩:=aeA h
 obtain ⟨s1,t1,rfl,k1,g⟩:=mK g
 obtain ⟨s2,t2,rfl,k2,g⟩:=mK g
 obtain ⟨s3,t3,rfl,k3,g⟩:=mK g
 obtain ⟨s4,t4,rfl,k4,g⟩:=mK g
 obtain rfl:=R5 g
 obtain ⟨a,rfl,_⟩:=wg k1
 obtain ⟨b,rfl,_⟩:=wg k2
 obtain ⟨c,rfl,_⟩:=wg k3
 obtain ⟨d,rfl,_⟩:=wg k4
 obtain ⟨x,r,rfl,h3,L,hL,hp,hl⟩:=ayb (f:=xF) (w:=20) (dc:=GY) (p:=λe=>ga e.q.s) Zu Nx Zv h2
 obtain ⟨g,r,rfl,k0,h4⟩:=aeA h3
 obtain rfl:=aya h4
 obtain ⟨e,rfl,hs⟩:=Zu g k0
 simp only [Iq,hL,Zv]
 rw [if_pos ⟨hl,hp,hs⟩]
end
end
end Go.Proofs.YtghlfboliomhcaaGreat
