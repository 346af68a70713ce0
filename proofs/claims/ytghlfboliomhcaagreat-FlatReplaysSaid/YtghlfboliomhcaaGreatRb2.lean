/- An abstract machine for the model, part 2: its runs, and that they are the model's: no conditions. -/
import Derived.Test.YtghlfboliomhcaaGreatRb1
import Derived.Laws.IdiomRangeMap
import Derived.Scope
import Derived.ScopeJumps
import Derived.ProofKit
import Derived.OpenShut
set_option linter.all false
set_option maxRecDepth 100000
set_option maxHeartbeats 8000000
open Array renaming getD_eq_getD_getElem?->rk,ext'->qK,getElem?_eq_none->rn,getElem?_eq_getElem->Ry,replicate->xZ,getElem?_replicate->agS,all_eq_true'->agR
open BitVec renaming ofInt->aw
open Bool renaming and_eq_true->aQ,false_eq_true->dL,or_eq_true->gj,not_eq_true'->gY,or_false->vC,or_eq_false_iff->Y7,not_false->Fb,and_true->c8,true_and->gG
open List renaming map_cons->gz,map_nil->jf,all_cons->bK,mapM_cons->Hl,getD_eq_getElem?_getD->bX,getElem?_eq_none->kf,getElem?_append_right->s9,getElem?_append_left->uh,set_append_right->Ka,getElem?_toArray->Hk,getElem?_cons_zero->Hi,replicate->bD,range->pj,getElem?_map->qL,append_assoc->fv,eq_nil_of_length_eq_zero->vG,getElem?_eq_getElem->cP,map_congr_left->NB,mem_append->wY,length_nil->fa,mem_cons->uT,drop_drop->uR,all_eq_true->cE,mem_of_getElem?->Dq,all_nil->dY,flatMap_cons->rZ,all_append->fJ,length_cons->cT,take_succ_cons->Ds,getElem?_of_mem->RH,length_append->cj,range'_succ->RE,replicate_succ->yc,flatten_cons->Ce,drop_zero->ya,take_length->vH,range_eq_range'->RF,append_nil->m7
open List.cons renaming injEq->cL
open Nat renaming le_trans->Du,lt_of_lt_of_le->Dv,lt_or_ge->cX,le_refl->aB,zero_le->fT,sub_self->Dx,add_sub_cancel_left->th,mul_pos->Cf,add_comm->zu,zero_add->oF,min_eq_left->ye,add_zero->ru,add_mul->vI,one_mul->Cg,zero_mul->Kc,mul_one->Fc
open Option renaming map_eq_some_iff->eE,bind_some->RK,map_some->pn,bind_eq_bind->ND,bind_eq_some_iff->mh,pure_def->RL
open Option.some renaming injEq->ar
open Prod.mk renaming injEq->bE
open Go.Result renaming andThen_ok->c9
open Go.Sem renaming run_bind->dg,run_pure->fF
namespace Go.Am
variable {P:Program}{aa:ja}
variable {full:Array Oper}{i:Nat}{log:List (Nat×Tc)}{o:Oper}{os:List Oper}{J:Fr->AH->Prop}{x:Operand}
section eqs
variable {k:List It}{fr:Fr}{H:AH}{Q:Fr->AH->Prop}
theorem Kl:aK P aa [] fr H Q=Q fr H:=by rw[aK]
theorem R3{id:Nat}:aK P aa (.dW id::k) fr H Q=aK P aa k fr H Q:=by rw[aK]
theorem R2{I:Fr->AH->Prop}:aK P aa (.back I::k) fr H Q=I fr H:=by rw[aK]
theorem Sa:aK P aa (.ops full []::k) fr H Q=aK P aa k fr H Q:=by rw[aK]
theorem Sk:aK P aa (.c .skip::k) fr H Q=aK P aa k fr H Q:=by rw[aK]
theorem Sb{id:Nat}{ops:Array Oper}:aK P aa (.c (.region id ops false)::k) fr H Q=aK P aa (.ops ops ops.toList::k) fr H Q:=by rw[aK]
theorem Sd{id:Nat}{ops:Array Oper}:aK P aa (.c (.region id ops true)::k) fr H Q=aK P aa (.dr ops ops.toList 0 []::k) fr H Q:=by rw[aK]
theorem R6:aK P aa (.dr full [] i log::k) fr H Q=aK P aa k fr H Q:=by rw[aK]
theorem NR:aK P aa (.dr full (o::os) i log::k) fr H Q=match o.guard with
 |none=>match cU P aa o.op ((bI o.op).map (ev fr)) H with|some (v,H')=>qY full i (nN (cC P aa o.op ((bI o.op).map (ev fr))) H H') log/\aK P aa (.dr full os (i+1) (C2 i (nN (cC P aa o.op ((bI o.op).map (ev fr))) H H') log)::k) (iQ o.dst v fr) H' Q|none=>False
 |some (j,want)=>match xz full fr j with
 |some (some q)=>if q=want then match cU P aa o.op ((bI o.op).map (ev fr)) H with
 |some (v,H')=>qY full i (nN (cC P aa o.op ((bI o.op).map (ev fr))) H H') log/\aK P aa (.dr full os (i+1) (C2 i (nN (cC P aa o.op ((bI o.op).map (ev fr))) H H') log)::k) (iQ o.dst v fr) H' Q|none=>False else aK P aa (.dr full os (i+1) log::k) (iQ o.dst (.c .ig) fr) H Q|some none=>aK P aa (.dr full os (i+1) log::k) (iQ o.dst (.c .ig) fr) H Q|none=>False:=by rw[aK]<;>rfl
theorem Si:aK P aa (.sM::k) fr H Q=aK P aa k fr H Q:=by rw[aK]
theorem Sg{l:Nat}:aK P aa (.zb l J::k) fr H Q=aK P aa k fr H Q:=by rw[aK]
theorem R9{l:Nat}:aK P aa (.c (.label l)::k) fr H Q=aK P aa k fr H Q:=by rw[aK]
theorem Sh{c:Code}:aK P aa (.c (.scope c)::k) fr H Q=(aK P aa (.c c::.sM::k) fr H Q\/∃(l:Nat)(rest:Code)(J:Fr->AH->Prop),findLabel c l=some rest/\aK P aa (.c c::.zb l J::k) fr H Q/\∃_:iD rest<=iD c,∀fr H,J fr H->aK P aa (.c rest::.sM::k) fr H Q):=by rw[aK]
theorem R8{l:Nat}:aK P aa (.c (.goto l)::k) fr H Q=match Eb l k with|some J=>J fr H|none=>False:=by first|(rw[aK];done)|(rw[aK];split<;>simp_all)
theorem Sj{a b:Code}:aK P aa (.c (.seq a b)::k) fr H Q=aK P aa (.c a::.c b::k) fr H Q:=by rw[aK]
theorem R4{id:Nat}{c:Code}:aK P aa (.c (.block id c)::k) fr H Q=aK P aa (.c c::.dW id::k) fr H Q:=by rw[aK]
theorem Se:aK P aa (.c .ret::k) fr H Q=Q fr H:=by rw[aK]
theorem R7{id:Nat}:aK P aa (.c (.exit id)::k) fr H Q=match wy id k with|some k'=>aK P aa k' fr H Q|none=>False:=by rw[aK];split<;>simp_all
theorem R5{a b:Code}:aK P aa (.c (.cond x a b)::k) fr H Q=match ev fr x with|.c (.b q)=>if q=true then aK P aa (.c a::k) fr H Q else aK P aa (.c b::k) fr H Q|.c .qq=>aK P aa (.c a::k) fr H Q/\aK P aa (.c b::k) fr H Q|_=>False:=by rw[aK]<;>rfl
theorem rz{c:Code}:aK P aa (.c (.loop c)::k) fr H Q=∃(ι:Type)(F:ι->Fr×AH)(μ:ι->Nat)(i0:ι),Wk (lo aa) fr H (F i0)/\∀i,aK P aa (.c c::.back (λfr H=>∃j,μ j<μ i/\Wk (lo aa) fr H (F j))::k) (F i).1 (F i).2 Q:=by rw[aK]
theorem NS:aK P aa (.ops full (o::os)::k) fr H Q=match o.guard with
 |none=>match cU P aa o.op ((bI o.op).map (ev fr)) H with
   |some (v,H')=>aK P aa (.ops full os::k) (iQ o.dst v fr) H' Q|none=>match LR aa o.op ((bI o.op).map (ev fr)) H with
     |some R=>∀v H',R v H'->aK P aa (.ops full os::k) (iQ o.dst v fr) H' Q|none=>False
 |some (j,want)=>match xz full fr j with
 |some (some q)=>if q=want then match cU P aa o.op ((bI o.op).map (ev fr)) H with|some (v,H')=>aK P aa (.ops full os::k) (iQ o.dst v fr) H' Q|none=>False else aK P aa (.ops full os::k) (iQ o.dst (.c .ig) fr) H Q|some none=>aK P aa (.ops full os::k) (iQ o.dst (.c .ig) fr) H Q|none=>False:=by rw[aK]<;>rfl
end eqs
def E8:Ro:=λ_=>none
structure cK(P:Program)(f:Nat)(s:List AV->Option AV):Prop where
 enters:∀args w,(callFunc f args).run P w=.ok (.enter f args) w
 pure:∀args v,s args=some v->∀(ρ:Ro)(w:World)(cs:List Value),L2 (aZ ρ) args cs->Calls P f cs.toArray w λe w'=>∃vc,e=.returned vc/\(∀bg:Ro,aZ bg v vc)/\ij w (λ_=>False) w'
def mi(ρ:Ro)(H:AH)(b:Nat):Prop:=∃i L,(hg H i).owned=true/\ρ i=some L/\L.nil=false/\L.dW=b
structure bh(P:Program)(f:Nat)(s:List AV->AH->Option (AV×AH)):Prop where
 enters:∀args w,(callFunc f args).run P w=.ok (.enter f args) w
 len:∀args H v H',s args H=some (v,H')->H.length<=H'.length
 runs:∀args H v H',s args H=some (v,H')->∀(ρ:Ro)(w:World)(cs:List Value),L2 (aZ ρ) args cs->HR ρ w H->Calls P f cs.toArray w λe w'=>∃vc bg,e=.returned vc/\aZ bg v vc/\HR bg w' H'/\ib ρ bg/\ij w (mi ρ H) w'/\(∀b,mi bg H' b->mi ρ H b\/w.heap.size<=b)
structure ag2(P:Program)(f:Nat)(s:List AV->AH->Option (AV->AH->Prop)):Prop where
 enters:∀args w,(callFunc f args).run P w=.ok (.enter f args) w
 runs:∀args H R,s args H=some R->∀(ρ:Ro)(w:World)(cs:List Value),L2 (aZ ρ) args cs->HR ρ w H->Calls P f cs.toArray w λe w'=>∃v H' vc bg,R v H'/\e=.returned vc/\aZ bg v vc/\HR bg w' H'/\ib ρ bg/\ij w (mi ρ H) w'/\(∀b,mi bg H' b->mi ρ H b\/w.heap.size<=b)
def Zd(P:Program)(f:Nat):NH->Prop|.pu s=>cK P f s|.fp s=>bh P f s|.fq s=>bh P f λargs H=>(s args H).map λv=>(v,H)|.fr s=>ag2 P f s|.lo _=>True
def jC(P:Program)(aa:ja):Prop:=∀f e,look aa f=some e->Zd P f e
theorem jC.nil:jC P []:=λf e h=>by simp[look]at h
variable {f:Nat}
theorem jC.cons{e:NH}(h:Zd P f e)(ht:jC P aa):jC P ((f,e)::aa):=by
 intro g x hx;simp only[look]at hx;split at hx
 .simp at hx;subst_vars;exact h
 .exact ht g x hx
structure Fx where
 m:Nat->Prop
 n:Nat
 r:Ro
structure St(N:Nat)(w0:World)(M:Fx)(ρ:Ro)(fr:Fr)(H:AH)(a:Act)(w:World):Prop where
 fr:∀s,aZ ρ (get fr s) (a.tmps.getD s undef)sz:a.tmps.size=N
 df:a.defers=[]hr:HR ρ w H
 kp:ij w0 M.m w
 ow:∀i L,(hg H i).owned=true->ρ i=some L->L.nil=false->(M.m L.dW\/w0.heap.size<=L.dW)st:∀i,i<M.n->∀L,M.r i=some L->∃L',ρ i=some L'/\(L'=L\/L.row<L'.row)
variable {N:Nat}{w0:World}{M:Fx}{ρ:Ro}{fr:Fr}{H:AH}{a:Act}{w:World}
def yp(N:Nat):Option Nat->Bool|none=>true|some d=>decide (d<N)
variable {v:AV}{vc:Value}
theorem St.put{d:Option Nat}(h:St N w0 M ρ fr H a w)(hd:yp N d=true)(hv:aZ ρ v vc):St N w0 M ρ (iQ d v fr) H (a.put d vc) w:=by cases d with
 |none=>exact h|some d=>
   simp[yp]at hd;refine⟨λs=>?_,by simp[Act.put,h.sz],h.df,h.hr,h.kp,h.ow,h.st⟩;simp only[iQ,get,Act.put];split
   .rename_i e;rw[<-e];have:(a.tmps.setIfInBounds d vc).getD d undef=vc:=by simp[rk,h.sz,hd]
    rw[this];exact hv
   .rename_i cZ;have:(a.tmps.setIfInBounds d vc).getD s undef=a.tmps.getD s undef:=by simp[rk,Array.getElem?_setIfInBounds_ne cZ]
    rw[this];exact h.fr s
theorem Yv{n:Nat}{ρi ρ bg:Ro}(h:∀i,i<n->∀L,ρi i=some L->∃L',ρ i=some L'/\(L'=L\/L.row<L'.row))(hs:ib ρ bg):∀i,i<n->∀L,ρi i=some L->∃L',bg i=some L'/\(L'=L\/L.row<L'.row):=by
 intro i hi L hL;obtain⟨L1,h1,h2⟩:=h i hi L hL;obtain⟨L2,h3,h4⟩:=hs i L1 h1;refine⟨L2,h3,?_⟩;rcases h2 with rfl|h2<;>rcases h4 with rfl|h4
 .exact .inl rfl
 .exact .inr h4
 .exact .inr h2
 .exact .inr ω
variable {w':World}{bg:Ro}{H':AH}
theorem St.call(h:St N w0 M ρ fr H a w)(hr:HR bg w' H')(hs:ib ρ bg)(hk:ij w (mi ρ H) w')(ho:∀b,mi bg H' b->mi ρ H b\/w.heap.size<=b):St N w0 M bg fr H' a w':=by
 have dt:∀b,mi ρ H b->M.m b\/w0.heap.size<=b:=by rintro b⟨i,L,h1,h2,h3,rfl⟩;exact h.ow i L h1 h2 h3
 refine⟨λs=>(h.fr s).mono hs,h.sz,h.df,hr,⟨hk.os.trans h.kp.os,hk.tape.trans h.kp.tape,hk.output.trans h.kp.output,Du h.kp.size hk.size,λb hb hm=>?_,λb c t f hf hm=>?_⟩,λi L h1 h2 h3=>?_,Yv h.st hs⟩
 .rw[hk.jT b (Dv hb h.kp.size) (λh'=>?_)]
  .exact h.kp.jT b hb hm
  .rcases dt b h' with h'|h'
   .exact hm h'
   .omega
 .by_cases h':w.heap.size<=b\/mi ρ H b
  .exact hk.free b c t f hf h'
  .have h1:b<w.heap.size:=by
    rcases cX b w.heap.size with h1|h1
    .exact h1
    .exact absurd (.inl h1) h'
   rw[hk.jT b h1 (λh2=>h' (.inr h2))]at hf;exact h.kp.free b c t f hf hm
 .rcases ho L.dW ⟨i,L,h1,h2,h3,rfl⟩with h'|h'
  .exact dt _ h'
  .exact .inr (Du h.kp.size h')
theorem St.HN(h:St N w0 M ρ fr H a w)(he:jl ρ w H w' bg H'):St N w0 M bg fr H' a w':=by
 obtain⟨h1,h2⟩:=he.kp w0 M.m h.kp h.ow;exact⟨λs=>(h.fr s).mono he.st,h.sz,h.df,he.hr,h1,h2,Yv h.st he.st⟩
theorem IM(h:St N w0 M ρ fr H a w)(l:List Operand):L2 (aZ ρ) (l.map (ev fr)) (l.map a.eval):=by induction l with|nil=>exact .nil|cons x l ih=>exact .cons (HQ h.fr x) ih
theorem HR.dj(h:HR ρ w H)(hk:ij w (λ_=>False) w'):HR ρ w' H:=by
 refine⟨λi=>?_,h.sep,h.fresh⟩;refine(h.obj i).dj (ib.refl ρ) rfl (λL hi hn hl=>?_) hk.size;exact hk.jT _ ((h.obj i).ym hi hn hl) (λf=>f)
theorem ij.trans{m:Nat->Prop}{w1 w2:World}(h:ij w0 m w1)(h':ij w1 (λ_=>False) w2):ij w0 m w2:=by
 refine⟨h'.os.trans h.os,h'.tape.trans h.tape,h'.output.trans h.output,Du h.size h'.size,λb hb hm=>?_,λb c t f hf hm=>?_⟩
 .rw[h'.jT b (Dv hb h.size) (λf=>f)];exact h.jT b hb hm
 .rcases cX b w1.heap.size with aG|oN
  .rw[h'.jT b aG (λf=>f)]at hf;exact h.free b c t f hf hm
  .exact h'.free b c t f hf (.inl oN)
theorem jl.quiet(h:HR ρ w H)(hk:ij w (λ_=>False) w'):jl ρ w H w' ρ H:=⟨h.dj hk,ib.refl ρ,λ_ _ h1 h2=>⟨h1.trans hk,h2⟩,aB _,λ_ _ _ h=>h⟩
theorem Kr{cs:List (Nat×Nat×Nat)}{cv:List Value}(h:L2 (λ(c:Nat×Nat×Nat)v=>kh ρ c.1 c.2.1 c.2.2 v) cs cv):L2 (aZ ρ) (cs.map A9) cv:=by induction h with|nil=>exact .nil|cons h _ ih=>exact .cons h ih
theorem VT{o:Oper}{v:AV}{H':AH}{K:Act->World->Prop}{Q:Exit->Act->World->Prop}(ht:jC P aa)(hs:St N w0 M ρ fr H a w)(hd:yp N o.dst=true)(h:cU P aa o.op ((bI o.op).map (ev fr)) H=some (v,H'))(hK:∀bg a' w',St N w0 M bg (iQ o.dst v fr) H' a' w'->K a' w'):o.wp P a w K Q:=by
 have hv:=IM hs (bI o.op);have HG:NG P ρ H w (execOp a.eval o) v H'->o.wp P a w K Q:=by
  rintro⟨w',bg,he,⟨vc,h1,h2⟩|⟨h1,h2⟩⟩
  .simp only[Oper.wp,h1,Oper.upon];exact hK _ _ _ ((hs.HN he).put hd h2)
  .simp only[Oper.wp,h1,Oper.upon];subst h2;exact hK _ _ _ ((hs.HN he).put hd rfl)
 unfold cU at h;split at h
 .rename_i op _ f as ts fn cs args jE lN;rw[jE]at lN hv;simp only[bI,gz,cL]at lN hv;obtain⟨hf,b9⟩:=lN;have hfr:=HQ hs.fr f;rw[hf]at hfr;obtain⟨cv,hcv,hcr⟩:=hfr;cases hv with|cons _ hv=>
    unfold A8 at h;split at h
    .rename_i s hl;simp only[eE,bE]at h;obtain⟨v',h1,rfl,rfl⟩:=h;obtain⟨hen,hpu⟩:=ht fn _ hl;have hrel:L2 (aZ ρ) (args++cs.map A9) (as.toList.map a.eval++cv):=by rw[<-b9];exact hv.app (Kr hcr)
     have yD:=hpu _ _ h1 ρ w _ hrel;have xD:(execOp a.eval o).run P w=.ok (.enter fn (as.toList.map a.eval++cv).toArray) w:=by
      have e1:#[]++as.map a.eval++cv.toArray=(as.toList.map a.eval++cv).toArray:=by apply qK;simp
      simp only[execOp,jE,resolve,hcv,Deferred.ofValue,dg,fF,c9,invoke];rw[e1];exact hen _ _
     simp only[Oper.wp,xD,Oper.upon];refine yD.mono ?_;rintro e w'⟨vc,rfl,h3,h4⟩;exact hK _ _ _ ((hs.HN (jl.quiet hs.hr h4)).put hd (h3 ρ))
    .rename_i s hl;obtain⟨hen,_,hfp⟩:=ht fn _ hl;have hrel:L2 (aZ ρ) (args++cs.map A9) (as.toList.map a.eval++cv):=by rw[<-b9];exact hv.app (Kr hcr)
     have yD:=hfp _ _ _ _ h ρ w _ hrel hs.hr;have xD:(execOp a.eval o).run P w=.ok (.enter fn (as.toList.map a.eval++cv).toArray) w:=by
      have e1:#[]++as.map a.eval++cv.toArray=(as.toList.map a.eval++cv).toArray:=by apply qK;simp
      simp only[execOp,jE,resolve,hcv,Deferred.ofValue,dg,fF,c9,invoke];rw[e1];exact hen _ _
     simp only[Oper.wp,xD,Oper.upon];refine yD.mono ?_;rintro e w'⟨vc,bg,rfl,h3,h4,h5,h6,h7⟩;exact hK _ _ _ ((hs.call h4 h5 h6 h7).put hd h3)
    .rename_i s hl;obtain⟨hen,_,hfp⟩:=ht fn _ hl;have hrel:L2 (aZ ρ) (args++cs.map A9) (as.toList.map a.eval++cv):=by rw[<-b9];exact hv.app (Kr hcr)
     have yD:=hfp _ _ _ _ h ρ w _ hrel hs.hr;have xD:(execOp a.eval o).run P w=.ok (.enter fn (as.toList.map a.eval++cv).toArray) w:=by
      have e1:#[]++as.map a.eval++cv.toArray=(as.toList.map a.eval++cv).toArray:=by apply qK;simp
      simp only[execOp,jE,resolve,hcv,Deferred.ofValue,dg,fF,c9,invoke];rw[e1];exact hen _ _
     simp only[Oper.wp,xD,Oper.upon];refine yD.mono ?_;rintro e w'⟨vc,bg,rfl,h3,h4,h5,h6,h7⟩;exact hK _ _ _ ((hs.call h4 h5 h6 h7).put hd h3)
    .simp at h
 .simp at h
 .rename_i op _ as ts jE;rw[jE]at hv h;obtain⟨w',bg,vc,h1,h2,h3⟩:=aie (ty:=o.type) h hv hs.hr;refine HG ⟨w',bg,h1,.inl ⟨vc,?_,h3⟩⟩;have has:(List.map a.eval (bI (Op.call ⟨.builtin .append,as,ts⟩))).toArray=as.map a.eval:=by apply qK;simp[bI]
  rw[has]at h2;simp only[execOp,jE,resolve,dg,fF,c9,invoke,builtin,h2]
 .rename_i op _ s d x i o' v' n jE lN;rw[lN]at hv;rw[jE]at hv;rw[eE]at h;obtain⟨v1,h1,h2⟩:=h;simp only[bE]at h2;obtain⟨rfl,rfl⟩:=h2;simp only[bI,gz,jf]at hv;cases hv with|cons hx _=>
    obtain⟨vc,h3,h4⟩:=aaG hs.hr h1 hx;refine HG ⟨w,ρ,⟨hs.hr,ib.refl ρ,λ_ _ a b=>⟨a,b⟩,aB _,λ_ _ _ h=>h⟩,.inl ⟨vc,?_,h4⟩⟩;simp only[execOp,jE,dg,h3,c9,fF]
 .rename_i op _ s d x jE lN;rw[lN]at hv;rw[jE]at hv;rw[eE]at h;obtain⟨v1,h1,h2⟩:=h;simp only[bE]at h2;obtain⟨rfl,rfl⟩:=h2;simp only[bI,gz,jf]at hv;cases hv with|cons hx _=>
    obtain⟨vc,h3,h4⟩:=aaG hs.hr h1 hx;refine HG ⟨w,ρ,⟨hs.hr,ib.refl ρ,λ_ _ a b=>⟨a,b⟩,aB _,λ_ _ _ h=>h⟩,.inl ⟨vc,?_,h4⟩⟩;simp only[execOp,jE,dg,h3,c9,fF]
 .split at h
  .exact HG (aqN (o:=o) h hv hs.hr)
  split at h
  .rename_i v' hq;simp at h;obtain⟨rfl,rfl⟩:=h;obtain⟨vc,h1,h2⟩:=aeJ (o:=o) hq hv (λi=>hs.hr.obj i);exact HG ⟨w,ρ,⟨hs.hr,ib.refl ρ,λ_ _ a b=>⟨a,b⟩,aB _,λ_ _ _ h=>h⟩,.inl ⟨vc,h1,h2⟩⟩
  .exact HG (amt (o:=o) h hv hs.hr)
theorem arJ{o:Oper}{l:List (AV×AH)}{K:Act->World->Prop}{Q:Exit->Act->World->Prop}(hs:St N w0 M ρ fr H a w)(hd:yp N o.dst=true)(h:UD o.op ((bI o.op).map (ev fr)) H=some l)(hK:∀r∈l,∀bg a' w',St N w0 M bg (iQ o.dst r.1 fr) r.2 a' w'->K a' w'):o.wp P a w K Q:=by simp[UD]at h
theorem arI{o:Oper}{R:AV->AH->Prop}{K:Act->World->Prop}{Q:Exit->Act->World->Prop}(ht:jC P aa)(hs:St N w0 M ρ fr H a w)(hd:yp N o.dst=true)(h:LR aa o.op ((bI o.op).map (ev fr)) H=some R)(hK:∀v H',R v H'->∀bg a' w',St N w0 M bg (iQ o.dst v fr) H' a' w'->K a' w'):o.wp P a w K Q:=by
 have hv:=IM hs (bI o.op);unfold LR at h;split at h
 .rename_i op _ f as ts fn cs args jE lN;rw[jE]at lN hv;simp only[bI,gz,cL]at lN hv;obtain⟨hf,b9⟩:=lN;have hfr:=HQ hs.fr f;rw[hf]at hfr;obtain⟨cv,hcv,hcr⟩:=hfr;cases hv with|cons _ hv=>
    split at h<;>try(simp at h;done)
    rename_i s hl;obtain⟨hen,hfp⟩:=ht fn _ hl;have hrel:L2 (aZ ρ) (args++cs.map A9) (as.toList.map a.eval++cv):=by rw[<-b9];exact hv.app (Kr hcr)
    have yD:=hfp _ _ _ h ρ w _ hrel hs.hr;have xD:(execOp a.eval o).run P w=.ok (.enter fn (as.toList.map a.eval++cv).toArray) w:=by
     have e1:#[]++as.map a.eval++cv.toArray=(as.toList.map a.eval++cv).toArray:=by apply qK;simp
     simp only[execOp,jE,resolve,hcv,Deferred.ofValue,dg,fF,c9,invoke];rw[e1];exact hen _ _
    simp only[Oper.wp,xD,Oper.upon];refine yD.mono ?_;rintro e w'⟨v,H',vc,bg,h0,rfl,h3,h4,h5,h6,h7⟩;exact hK v H' h0 _ _ _ ((hs.call h4 h5 h6 h7).put hd h3)
 .rw[eE]at h;obtain⟨l,h1,rfl⟩:=h;exact arJ hs hd h1 λr hr=>hK r.1 r.2 hr
end Go.Am
namespace Go.Am
variable {P:Program}{aa:ja}{N:Nat}{w0:World}{M:Fx}
def Gt(N:Nat)(l:List Oper):Bool:=l.all λo=>yp N o.dst
def mw(N:Nat)(drawn:Array Oper->Bool):Code->Bool|.region _ ops d=>Gt N ops.toList&&(!d||drawn ops)|.seq a b=>mw N drawn a&&mw N drawn b|.cond _ a b=>mw N drawn a&&mw N drawn b|.block _ c=>mw N drawn c|.loop c=>mw N drawn c|.scope c=>mw N drawn c|_=>true
def yN(N:Nat)(drawn:Array Oper->Bool):It->Bool|.c x=>mw N drawn x|.ops _ l=>Gt N l|.dr _ _ _ _=>false|_=>true
def CY(N:Nat)(drawn:Array Oper->Bool)(k:List It):Bool:=k.all (yN N drawn)
def SI(N:Nat)(w0:World)(M:Fx)(I:Fr->AH->Prop)(a:Act)(w:World):Prop:=∃ρ fr H,St N w0 M ρ fr H a w/\I fr H
def Kp(P:Program)(N:Nat)(w0:World)(M:Fx)(Q:Fr->AH->Prop):List It->Exit->Act->World->Prop
 |[]=>λe a w=>match e with
   |.normal|.ret=>SI N w0 M Q a w|_=>False
 |.c x::k=>Exit.then (x.wp P (Kp P N w0 M Q k)) (Kp P N w0 M Q k)|.ops full l::k=>Exit.then (wpList P full (Kp P N w0 M Q k) l) (Kp P N w0 M Q k)|.dr _ _ _ _::k=>Exit.then (λ_ _=>False) (Kp P N w0 M Q k)|.dW id::k=>Exit.inBlock id (Kp P N w0 M Q k)|.sM::k=>Exit.noGoto (Kp P N w0 M Q k)|.zb l J::k=>Exit.jump l (SI N w0 M J) (Kp P N w0 M Q k)|.back I::k=>Exit.then (SI N w0 M I) (Kp P N w0 M Q k)
variable {Q:Fr->AH->Prop}{w:World}
theorem ag8{a:Act}(h:SI N w0 M Q a w):∀k,Kp P N w0 M Q k .ret a w:=by
 intro k;induction k with|nil=>exact h|cons x k ih=>cases x<;>exact ih
variable {J:Fr->AH->Prop}
theorem ag7{a:Act}{l:Nat}(h:SI N w0 M J a w):∀k:List It,Eb l k=some J->Kp P N w0 M Q k (.goto l) a w:=by
 intro k;induction k with
 |nil=>intro h;simp[Eb]at h|cons x k ih=>
 intro hp;cases x with
 |sM=>simp[Eb]at hp|zb l' J'=>
 simp only[Eb]at hp;split at hp
 .rename_i e;simp only[ar]at hp;subst hp;subst e;exact⟨rfl,h⟩
 .simp at hp|dW i=>exact ih hp|c x=>exact ih hp|ops f l=>exact ih hp|dr f l i g=>exact ih hp|back I=>exact ih hp
variable {drawn:Array Oper->Bool}
theorem aso:∀{c:Code}{l:Nat}{rest:Code},mw N drawn c=true->findLabel c l=some rest->mw N drawn rest=true:=by
 intro c;induction c with
 |seq a b iha ihb=>
 intro l rest h hf;simp only[mw,aQ]at h;simp only[findLabel]at hf;split at hf
 .rename_i r hr;simp only[ar]at hf;subst hf;simp only[mw,aQ];exact⟨iha h.1 hr,h.2⟩
 .exact ihb h.2 hf|label l'=>
 intro l rest h hf;simp only[findLabel]at hf;split at hf
 .simp only[ar]at hf;subst hf;rfl
 .simp at hf|_=>intro l rest h hf;simp[findLabel]at hf
theorem ag6{a:Act}{w:World}{id:Nat}:∀(k k':List It),wy id k=some k'->Kp P N w0 M Q k' .normal a w->Kp P N w0 M Q k (.exit id) a w:=by
 intro k;induction k with|nil=>intro k' h;simp[wy]at h|cons x k ih=>intro k' h hk;cases x with
 |dW i=>
    simp only[wy]at h;simp only[Kp,Exit.inBlock];split at h
    .simp at h;subst h;subst_vars;rw[if_pos rfl];exact hk
    .rename_i cZ;rw[if_neg (λe=>cZ e.symm)];exact ih _ h hk|c x=>exact ih _ h hk|ops f l=>exact ih _ h hk|dr f l i g=>exact ih _ h hk|back I=>exact ih _ h hk|sM=>exact ih _ h hk|zb l J=>exact ih _ h hk
theorem aBS{c:Code}{Q:Exit->Act->World->Prop}{a:Act}(I:Nat->Act->World->Prop)(n:Nat)(aoT:I n a w)(round:∀n a w,I n a w->c.wp P (Exit.then (λa' w'=>∃m,m<n/\I m a' w') Q) a w):(Code.loop c).wp P Q a w:=by
 intro b k cs;have key:∀n a w,I n a w->∃e a' w',Q e a' w'/\Arrives P (lone (b.at a (.code c::.inLoop c::k)) cs w) b k cs e a' w':=by
  intro n;induction n using Nat.strongRecOn with|_ n ih=>
    intro a w hI;obtain⟨e,Cp,JW,hq,DM⟩:=round n a w hI b (.inLoop c::k) cs;cases e with
 |normal=>obtain⟨m,hm,aoj⟩:=hq;obtain⟨am7,ai0,aB2,aoJ,aon⟩:=ih m hm Cp JW aoj;exact⟨am7,ai0,aB2,aoJ,.of_steps (Steps.trans DM (.one step_inLoop)) aon⟩|exit id=>exact⟨_,Cp,JW,hq,.pass (x:=.inLoop c) rfl (λ_ _=>.inl (by simp)) DM⟩|goto l=>exact⟨_,Cp,JW,hq,.pass (x:=.inLoop c) rfl (λ_ _=>.inl (by simp)) DM⟩|ret=>exact⟨_,Cp,JW,hq,.pass (x:=.inLoop c) rfl (λ_ _=>.inl (by simp)) DM⟩|panic ch=>exact⟨_,Cp,JW,hq,.pass (x:=.inLoop c) rfl (λ_ _=>.inl (by simp)) DM⟩|outgrown=>exact⟨_,Cp,JW,hq,.pass (x:=.inLoop c) rfl (λ_ _=>.inl (by simp)) DM⟩
 obtain⟨e,a',w',hq,DM⟩:=key n a w aoT;exact⟨e,a',w',hq,.of_steps (.one step_loop) DM⟩
theorem St.wk{ρ:Ro}{fr:Fr}{H:AH}{a:Act}{w:World}(h:St N w0 M ρ fr H a w){S:Fr×AH}{n:Nat}(hn:M.n<=n)(hw:Wk n fr H S):∃bg,St N w0 M bg S.1 S.2 a w:=by
 obtain⟨bg,h1,h2,h3,h4⟩:=hw ρ w (λs=>a.tmps.getD s undef) h.fr h.hr;refine⟨bg,h1,h.sz,h.df,h2,h.kp,λi L hi hL hn=>?_,λi hi L hL=>?_⟩
 .obtain⟨j,hj,tK⟩:=h3 i L hi hL hn;exact h.ow j L hj tK hn
 .rw[h4 i (Dv hi hn)];exact h.st i hi L hL
def RQ(P:Program)(aa:ja)(N:Nat)(ops:Array Oper):Prop:=∀(id:Nat)(w0:World)(M:Fx)(ρ:Ro)(fr:Fr)(H:AH)(a:Act)(w:World)(k:List It)(Q:Fr->AH->Prop)(R:Exit->Act->World->Prop),St N w0 M ρ fr H a w->aK P aa (.dr ops ops.toList 0 []::k) fr H Q->(∀eh H',aK P aa k eh H' Q->∀bg a' w',St N w0 M bg eh H' a' w'->R .normal a' w')->(Code.region id ops true).wp P R a w
theorem KS{full:Array Oper}{ρ:Ro}{fr:Fr}{a:Act}{j:Nat}{r:Option Bool}(h:xz full fr j=some r)(hf:∀s,aZ ρ (get fr s) (a.tmps.getD s undef)):yielded full a.tmps j=r:=by
 unfold xz at h;unfold yielded;cases hd:(full[j]?).bind (·.dst)with|none=>rw[hd]at h;simp at h;subst h;rfl|some d=>
   rw[hd]at h;simp only[RK];have hv:=hf d;simp only at h;split at h
   .rename_i q hg;simp at h;subst h;rw[hg]at hv;have mR:a.tmps.getD d undef=.bool q:=hv;have aG:d<a.tmps.size:=by
     rcases cX d a.tmps.size with h|h
     .exact h
     .simp[rk,rn h,undef]at mR
    have:a.tmps[d]?=some (.bool q):=by rw[Ry aG];rw[rk,Ry aG]at mR;simpa using mR
    rw[this]
   .rename_i hg;simp at h;subst h;rw[hg]at hv;have mR:a.tmps.getD d undef=undef:=hv;rcases cX d a.tmps.size with aG|oN
    .have:a.tmps[d]?=some undef:=by rw[Ry aG];rw[rk,Ry aG]at mR;simpa using mR
     rw[this];rfl
    .rw[rn oN]
   .simp at h
variable {full:Array Oper}{k:List It}
theorem adS{R:Exit->Act->World->Prop}(ht:jC P aa)(hK:∀eh H',aK P aa k eh H' Q->∀bg a' w',St N w0 M bg eh H' a' w'->R .normal a' w'):∀(l:List Oper),Gt N l=true->∀ρ fr H a w,aK P aa (.ops full l::k) fr H Q->St N w0 M ρ fr H a w->wpList P full R l a w:=by
 intro l;induction l with
 |nil=>intro _ ρ fr H a w h hs;rw[Sa]at h;exact hK _ _ h _ _ _ hs|cons o l ih=>
   intro ho ρ fr H a w h hs;simp only[Gt,bK,aQ]at ho;have Is:=ih ho.2;have step:∀v H',cU P aa o.op ((bI o.op).map (ev fr)) H=some (v,H')->aK P aa (.ops full l::k) (iQ o.dst v fr) H' Q->o.wp P a w (wpList P full R l) R:=λv H' h1 h2=>VT ht hs ho.1 h1 λbg a' w' rN=>Is _ _ _ _ _ h2 rN;have skip:aK P aa (.ops full l::k) (iQ o.dst (.c .ig) fr) H Q->wpList P full R l (a.put o.dst undef) w:=λh2=>Is _ _ _ _ _ h2 (hs.put ho.1 rfl);rw[NS]at h;unfold wpList;split at h
   .rename_i hg;have hw:Region.wanted o (yielded full a.tmps)=true:=by simp[Region.wanted,hg]
    rw[if_pos hw];split at h
    .rename_i v H' h1;exact .inl (step _ _ h1 h)
    .split at h
     .rename_i l hl;exact .inl (arI ht hs ho.1 hl λv H' hr bg a' w' rN=>Is _ _ _ _ _ (h v H' hr) rN)
     .exact h.elim
   .rename_i j want hg;split at h
    .rename_i q hq;have hy:=KS hq hs.fr;have hw:Region.wanted o (yielded full a.tmps)=(q==want):=by simp[Region.wanted,hg,hy]
     split at h
     .rename_i e;rw[if_pos (by rw[hw];simp[e])];split at h
      .rename_i v H' h1;exact .inl (step _ _ h1 h)
      .exact h.elim
     .rename_i e;rw[if_neg (by rw[hw];simp[e])];exact skip h
    .rename_i hq;have hy:=KS hq hs.fr;have hw:Region.wanted o (yielded full a.tmps)=false:=by simp[Region.wanted,hg,hy]
     rw[if_neg (by rw[hw];simp)];exact skip h
    .exact h.elim
theorem uH{x:It}(h:yN N drawn x=true)(hk:CY N drawn k=true):CY N drawn (x::k)=true:=by simp only[CY,bK,aQ];exact⟨h,hk⟩
theorem sound(tM:M.n<=lo aa)(ht:jC P aa)(drawn:Array Oper->Bool)(FR:∀ops,drawn ops=true->Gt N ops.toList=true->RQ P aa N ops):∀(n:Nat)(k:List It),fQ k<=n->CY N drawn k=true->∀fr H,aK P aa k fr H Q->∀ρ a w,St N w0 M ρ fr H a w->Kp P N w0 M Q k .normal a w:=by
 intro n;induction n with
 |zero=>intro k hk aM fr H h ρ a w hs;cases k with|nil=>rw[Kl]at h;exact⟨ρ,fr,H,hs,h⟩|cons x k=>exfalso;cases x<;>simp[fQ,It.wt]at hk;rename_i c;cases c<;>simp[iD]at hk
 |succ n ih=>
 intro k hk aM fr H h ρ a w hs;cases k with
 |nil=>rw[Kl]at h;exact⟨ρ,fr,H,hs,h⟩|cons x k=>
 simp only[CY,bK,aQ]at aM;obtain⟨hx,aM⟩:=aM;cases x with
 |dW id=>rw[R3]at h;exact ih k (by simp[fQ,It.wt]at hk|-;omega) aM fr H h ρ a w hs|back I=>rw[R2]at h;exact⟨ρ,fr,H,hs,h⟩|sM=>rw[Si]at h;exact ih k (by simp[fQ,It.wt]at hk|-;omega) aM fr H h ρ a w hs|zb l J=>rw[Sg]at h;exact ih k (by simp[fQ,It.wt]at hk|-;omega) aM fr H h ρ a w hs|dr f l i g=>simp[yN]at hx|ops full l=>exact adS ht (λeh H' h' bg a' w' rN=>ih k (by simp[fQ,It.wt]at hk|-;omega) aM eh H' h' bg a' w' rN) l hx ρ fr H a w h hs|c x=>
 have DQ:∀eh H',aK P aa k eh H' Q->∀bg a' w',St N w0 M bg eh H' a' w'->Kp P N w0 M Q k .normal a' w':=λeh H' h' bg a' w' rN=>ih k (by
        have:0<iD x:=by cases x<;>simp[iD]
        simp[fQ,It.wt]at hk|-;omega) aM eh H' h' bg a' w' rN;show x.wp P (Kp P N w0 M Q k) a w;cases x with
 |skip=>rw[Sk]at h;exact wp_skip (DQ _ _ h _ _ _ hs)|region id ops d=>simp only[yN,mw,aQ]at hx;cases d with|false=>rw[Sb]at h;exact wp_region_list (adS ht DQ ops.toList hx.1 ρ fr H a w h hs)|true=>rw[Sd]at h;exact FR ops (by simpa using hx.2) hx.1 id w0 M ρ fr H a w k Q _ hs h DQ
 |seq x y=>
 rw[Sj]at h;simp only[yN,mw,aQ]at hx;refine wp_seq ?_;exact ih (.c x::.c y::k) (by simp[fQ,It.wt,iD]at hk|-;omega) (uH hx.1 (uH hx.2 aM)) fr H h ρ a w hs|cond x y z=>
        rw[R5]at h;simp only[yN,mw,aQ]at hx;split at h
        .rename_i q hq;have he:=HQ hs.fr x;rw[hq]at he;have Lb:a.eval x=.bool q:=he;split at h
         .rename_i e;subst e;refine wp_cond_true Lb ?_;exact ih (.c y::k) (by simp[fQ,It.wt,iD]at hk|-;omega) (uH hx.1 aM) fr H h ρ a w hs
         .rename_i e;refine wp_cond_false (by rw[Lb];simpa using e) ?_;exact ih (.c z::k) (by simp[fQ,It.wt,iD]at hk|-;omega) (uH hx.2 aM) fr H h ρ a w hs
        .rename_i hq;have he:=HQ hs.fr x;rw[hq]at he;obtain⟨q,Lb⟩:∃q,a.eval x=.bool q:=he;cases q
         .refine wp_cond_false Lb ?_;exact ih (.c z::k) (by simp[fQ,It.wt,iD]at hk|-;omega) (uH hx.2 aM) fr H h.2 ρ a w hs
         .refine wp_cond_true Lb ?_;exact ih (.c y::k) (by simp[fQ,It.wt,iD]at hk|-;omega) (uH hx.1 aM) fr H h.1 ρ a w hs
        .exact h.elim|block id y=>
 rw[R4]at h;simp only[yN,mw]at hx;refine wp_block ?_;exact ih (.c y::.dW id::k) (by simp[fQ,It.wt,iD]at hk|-;omega) (uH hx (uH rfl aM)) fr H h ρ a w hs|loop y=>
        rw[rz]at h;simp only[yN,mw]at hx;obtain⟨ι,F,μ,i0,h0,hr⟩:=h;obtain⟨Rv,hs1⟩:=hs.wk tM h0;refine aBS (λn a w=>∃i ρ,μ i=n/\St N w0 M ρ (F i).1 (F i).2 a w) (μ i0) ⟨i0,Rv,rfl,hs1⟩ ?_;rintro n' a' w'⟨i,bg,rfl,rN⟩;have:=ih (.c y::.back (λfr H=>∃j,μ j<μ i/\Wk (lo aa) fr H (F j))::k) (by simp[fQ,It.wt,iD]at hk|-;omega) (uH hx (uH rfl aM)) _ _ (hr i) bg a' w' rN;refine wp_mono (show y.wp P (Kp P N w0 M Q (.back _::k)) a' w' from this) ?_;intro e a2 w2 hq;cases e with
        |normal=>obtain⟨AQ,fr2,H2,nG,j,hj,Us⟩:=hq;obtain⟨Rx,Ls⟩:=nG.wk tM Us;exact⟨μ j,hj,j,Rx,rfl,Ls⟩|_=>exact hq
 |exit id=>
        rw[R7]at h;split at h
        .rename_i k' hp;refine wp_exit (ag6 k k' hp ?_);have qQ:CY N drawn k'=true:=by
          have:∀(k k':List It),wy id k=some k'->(k.all (yN N drawn))=true->CY N drawn k'=true:=by
           intro k;induction k with
 |nil=>intro k' h;simp[wy]at h|cons x k Pn=>
 intro k' h aM;simp only[bK,aQ]at aM;cases x with
 |dW i=>
 simp only[wy]at h;split at h
 .simp at h;subst h;exact aM.2
 .exact Pn _ h aM.2|_=>exact Pn _ h aM.2
          exact this k k' hp aM
         have:=V9 hp;exact ih k' (by simp[fQ,It.wt,iD]at hk this|-;omega) qQ fr H h ρ a w hs
        .exact h.elim|label l=>rw[R9]at h;exact wp_label (DQ _ _ h _ _ _ hs)|goto l=>
        rw[R8]at h;split at h
        .rename_i J hp;exact wp_goto (ag7 ⟨ρ,fr,H,hs,h⟩ k hp)
        .exact h.elim|scope y=>
        rw[Sh]at h;simp only[yN,mw]at hx;rcases h with h|⟨l,rest,J,hf,h1,hle,h2⟩
        .refine wp_scope_straight ?_;exact ih (.c y::.sM::k) (by simp[fQ,It.wt,iD]at hk|-;omega) (uH hx (uH rfl aM)) fr H h ρ a w hs
        .have hxr:=aso hx hf;refine wp_scope_jumps l (SI N w0 M J) (λ_ _=>0) hf (ih (.c y::.zb l J::k) (by simp[fQ,It.wt,iD]at hk|-;omega) (uH hx (uH rfl aM)) fr H h1 ρ a w hs) ?_;rintro a' w'⟨bg,eh,H',rN,hj⟩;have:=ih (.c rest::.sM::k) (by simp[fQ,It.wt,iD]at hk|-;omega) (uH hxr (uH rfl aM)) eh H' (h2 _ _ hj) bg a' w' rN;refine wp_mono (show rest.wp P (Kp P N w0 M Q (.sM::k)) a' w' from this) ?_;intro e a2 w2 hq;cases e with
         |goto l'=>exact hq.elim|_=>exact hq
 |ret=>rw[Se]at h;exact wp_ret (ag8 ⟨ρ,fr,H,hs,h⟩ k)|_=>rw[aK]at h<;>first|exact h.elim|simp
end Go.Am
namespace Go.Am
variable {P:Program}{aa:ja}
def Sc.pf:Sc->Bool|.p _ _ _|.sl _ _ _ _|.mp _=>false|.f _ cs=>cs.isEmpty|_=>true
def AV.pf:AV->Bool|.c s=>s.pf|.g l=>l.all Sc.pf|.t l=>l.all λx=>match x with|.c s=>s.pf|.g l=>l.all Sc.pf|.t _=>false
variable {ρ bg:Ro}{s:Sc}
theorem b6.pf{v:Value}(h:b6 ρ s v)(hp:s.pf=true):b6 bg s v:=by
 cases s<;>simp[Sc.pf]at hp<;>try exact h
 subst hp;obtain⟨cv,h1,h2⟩:=h;cases h2;exact⟨[],h1,.nil⟩
variable {l:List Sc}
theorem L2.pf{c:List Value}(h:L2 (b6 ρ) l c)(hp:l.all Sc.pf=true):L2 (b6 bg) l c:=by induction h with|nil=>exact .nil|cons h _ ih=>simp only[bK,aQ]at hp;exact .cons (h.pf hp.1) (ih hp.2)
theorem aZ.pf{x:AV}{v:Value}(h:aZ ρ x v)(hp:x.pf=true):aZ bg x v:=by cases x with
 |c s=>exact b6.pf h hp|g l=>obtain⟨cs,h1,h2⟩:=h;exact⟨cs,h1,h2.pf hp⟩|t l=>
 obtain⟨vs,h1,h2⟩:=h;refine⟨vs,h1,?_⟩;simp only[AV.pf]at hp;clear h1;induction h2 with
 |nil=>exact .nil|@cons a b l m h _ ih=>
 simp only[bK,aQ]at hp;refine .cons ?_ (ih hp.2);cases a with|c s=>exact b6.pf h hp.1|g l=>obtain⟨cs,h1,h2⟩:=h;exact⟨cs,h1,h2.pf hp.1⟩|t l=>exact h.elim
def tH:Nat->List AV->Fr|_,[]=>[]|n,v::r=>(n,v)::tH (n+1) r
theorem abH:∀(args:List AV)(cs:List Value),L2 (aZ ρ) args cs->∀n s,aZ ρ (get (tH n args) s) (if n<=s then cs.getD (s-n) undef else undef):=by
 intro args cs h;induction h with|nil=>intro n s;trivial|@cons x c args cs h _ ih=>
   intro n s;simp only[tH,get];split
   .subst_vars;simpa using h
   .rename_i cZ;have:=ih (n+1) s;by_cases hle:n<=s
    .rw[if_pos hle];rw[if_pos ω]at this;obtain⟨d,hd⟩:∃d,s-n=d+1:=⟨s-n-1,ω⟩;rw[hd,List.getD_cons_succ,show d=s-(n+1)by omega];exact this
    .rw[if_neg hle];rw[if_neg ω]at this;exact this
def D0(P:Program)(t:Nat)(H:AH)(x:AV):Option AV:=match x with|.c (.p id off aX)=>if aX=(hg H id).row/\off+av P t<=(hg H id).cells.length/\0<av P t/\(dT P t).is/\((dT P t).agg=false->av P t=1)then some (rd (dT P t).agg (hg H id).cells off (av P t))else none|_=>none
def Mf(P:Program)(fr:Fr)(H:AH):ResultVar->Option AV|.tmp t=>some (get fr t)|.cell a t=>D0 P t H (get fr a)
def AV.flat:AV->Bool|.t _=>false|_=>true
def I1(P:Program)(fr:Fr)(H:AH):List ResultVar->Option (List AV)|[]=>some []|r::rs=>match Mf P fr H r,I1 P fr H rs with|some v,some l=>if v.flat=true then some (v::l)else none|_,_=>none
def sJ(P:Program)(fr:Fr)(H:AH)(rs:List ResultVar):Option AV:=match rs with|[r]=>Mf P fr H r|rs=>(I1 P fr H rs).map .t
variable {w:World}{H:AH}{t:Nat}{v:AV}
theorem apw{x:AV}{cx:Value}(h:D0 P t H x=some v)(hx:aZ ρ x cx)(hO:∀i,jZ ρ w i (hg H i)):∃ad vc,cx=.pointer (some ad)/\(loadVar t ad).run P w=.ok vc w/\aZ ρ v vc:=by
 unfold D0 at h;split at h
 .rename_i id off aX;split at h<;>simp at h;rename_i hc;subst h;obtain⟨L,ad,h2,h3,h4,h5⟩:=(show kh ρ id off aX _ from hx);have Bt:(hg H id).live=true:=by cases hh:hg H id with|dead=>rw[hh]at hc;simp[ae.cells]at hc;omega|_=>rfl
  have nF:=(hO id).row h2 Bt;obtain⟨_,_,rfl⟩:=h5 (by rw[nF];exact hc.1);obtain⟨vc,h6,h7⟩:=acD (hO id) h2 hc.2.1 hc.2.2.1 hc.2.2.2.1 hc.2.2.2.2;exact⟨_,vc,h3,h6,h7⟩
 .simp at h
def P9(tmps:Array Value)(r:ResultVar):Sem Value:=match r with|.tmp t=>pure (tmps.getD t undef)|.cell a t=>do loadVar t (<-asAddr (tmps.getD a undef))
theorem awF(fn:Func)(tmps:Array Value):results fn tmps=(do let vs<-Functor.map List.toArray (fn.results.toList.mapM (P9 tmps));pure (if h:vs.size=1 then vs[0]else .tuple vs)):=by
 unfold results;rw[Array.mapM_eq_mapM_toList];rfl
variable {fr:Fr}{tmps:Array Value}
theorem aeU{r:ResultVar}(h:Mf P fr H r=some v)(hf:∀s,aZ ρ (get fr s) (tmps.getD s undef))(hO:∀i,jZ ρ w i (hg H i)):∃vc,(P9 tmps r).run P w=.ok vc w/\aZ ρ v vc:=by cases r with
 |tmp t=>simp[Mf]at h;subst h;exact⟨_,rfl,hf t⟩|cell a t=>obtain⟨ad,vc,h1,h2,h3⟩:=apw (P:=P) (show D0 P t H (get fr a)=some v from h) (hf a) hO;exact⟨vc,by simp[P9,h1,asAddr,h2],h3⟩
variable {fn:Func}
theorem aeV(h:sJ P fr H fn.results.toList=some v)(hf:∀s,aZ ρ (get fr s) (tmps.getD s undef))(hO:∀i,jZ ρ w i (hg H i)):∃vc,(results fn tmps).run P w=.ok vc w/\aZ ρ v vc:=by
 have key:∀(rs:List ResultVar)(l:List AV),I1 P fr H rs=some l->∃vs:List Value,(rs.mapM (P9 tmps)).run P w=.ok vs w/\L2 (V1 ρ) l vs/\vs.length=rs.length:=by
  intro rs;induction rs with|nil=>intro l h;simp[I1]at h;subst h;exact⟨[],by simp,.nil,rfl⟩|cons r rs ih=>
    intro l h;simp only[I1]at h;split at h
    .rename_i v' l' h1 h2;split at h<;>simp at h;rename_i hfl;subst h;obtain⟨vc,h3,h4⟩:=aeU (P:=P) h1 hf hO;obtain⟨vs,h5,h6,h7⟩:=ih _ h2;refine⟨vc::vs,?_,.cons ?_ h6,by simp[h7]⟩
     .simp only[Hl,dg,h3,c9,h5,fF]
     .cases v'<;>first|exact h4|simp[AV.flat]at hfl
    .simp at h
 rw[awF];unfold sJ at h;split at h
 .rename_i r hr;obtain⟨vc,h1,h2⟩:=aeU (P:=P) h hf hO;refine⟨vc,?_,h2⟩;rw[hr];simp only[Hl,List.mapM_nil,dg,Sem.run_map,h1,c9,fF];rfl
 .rename_i rs cZ;simp only[eE]at h;obtain⟨l,h1,rfl⟩:=h;obtain⟨vs,h2,h3,h4⟩:=key _ _ h1;refine⟨.tuple vs.toArray,?_,vs,rfl,h3⟩;simp only[dg,Sem.run_map,h2,c9,fF];have:¬vs.toArray.size=1:=by
   intro e;have:fn.results.toList.length=1:=by rw[<-h4];simpa using e
   match hh:fn.results.toList,this with|[r],_=>exact cZ r hh
  rw[dif_neg this]
theorem HR.nil(w:World):HR E8 w []:=⟨λi=>by rw[ur _ (fT _)];trivial,λi j Li Lj _ h=>by rw[ur _ (fT _)]at h;simp[ae.owned]at h,λ_ _=>rfl⟩
theorem ij.refl(w:World)(M:Nat->Prop)(h:∀b c t f,w.heap[b]?=some (.cells c t f)->M b->f=(0,0)):ij w M w:=⟨rfl,rfl,rfl,aB _,λ_ _ _=>rfl,λb c t f hf hm=>by
   rcases hm with hm|hm
   .rw[rn hm]at hf;simp at hf
   .exact h b c t f hf hm⟩
variable {f n:Nat}{code:Code}{rs:List ResultVar}
theorem awm{s:List AV->Option AV}(drawn:Array Oper->Bool)(hf:P.funcs[f]?=some fn)(hb:fn.body=some code)(mQ:fn.results=rs.toArray)(hn:fn.ntmps=n)(oQ:(fn.name== "runtime.NumGoroutine")=false)(ht:jC P aa)(FR:∀ops,drawn ops=true->Gt n ops.toList=true->RQ P aa n ops)(aM:mw n drawn code=true)(h:∀args v,s args=some v->args.length<=n/\args.all AV.pf=true/\v.pf=true/\aK P aa [.c code] (tH 0 args) [] (λfr H=>sJ P fr H rs=some v)):cK P f s:=by
 obtain rfl:fn.results.toList=rs:=by rw[mQ]
 subst hn;refine⟨λargs w=>?_,λargs v hs ρ w cs cu=>?_⟩
 .have hn:¬fn.name= "runtime.NumGoroutine":=by simpa using oQ
  simp[callFunc,hf,hn,hb]
 .obtain⟨h1,h2,h3,h4⟩:=h args v hs;have hrel:L2 (aZ E8) args cs:=by
   clear h1 h4 hs;induction cu with
 |nil=>exact .nil|cons h _ ih=>simp only[bK,aQ]at h2;exact .cons (h.pf h2.1) (ih h2.2)
  have hlen:=cu.length;refine calls_of_wp hf hb ?_;have ew:St fn.ntmps w ⟨λ_=>False,0,E8⟩ E8 (tH 0 args) [] {tmps:=cs.toArray++xZ (fn.ntmps-cs.toArray.size) undef,defers:=[]} w:=by
   refine⟨λx=>?_,by simp;omega,rfl,HR.nil w,ij.refl w _ (λ_ _ _ _ _ h=>h.elim),λi L h=>by rw[ur _ (fT _)]at h;simp[ae.owned]at h,λi h=>absurd h (Nat.not_lt_zero _)⟩;have:=abH args cs hrel 0 x;rw[if_pos (fT _),Nat.sub_zero]at this;have e:(cs.toArray++xZ (fn.ntmps-cs.toArray.size) undef).getD x undef=cs.getD x undef:=by
    rw[rk,bX,Array.getElem?_append];split
    .simp
    .rename_i hx;simp at hx;rw[kf hx,agS];split<;>rfl
   rw[e];exact this
  have DQ:=sound (M:=⟨λ_=>False,0,E8⟩) (fT _) ht drawn FR (fQ [.c code]) [.c code] (aB _) (by simp[CY,yN,aM]) _ _ h4 _ _ _ ew;refine wp_mono (show code.wp P (Kp P fn.ntmps w ⟨λ_=>False,0,E8⟩ _ []) _ w from DQ) ?_;intro e a2 w2 hq;have fin:SI fn.ntmps w ⟨λ_=>False,0,E8⟩ (λfr H=>sJ P fr H fn.results.toList=some v) a2 w2->a2.defers=[]/\∃v',(results fn a2.tmps).run P w2=.ok v' w2/\∃vc,Ending.returned v'=.returned vc/\(∀bg,aZ bg v vc)/\ij w (λ_=>False) w2:=by
   rintro⟨AQ,fr2,H2,nG,Il⟩;obtain⟨vc,h5,h6⟩:=aeV (P:=P) Il nG.fr nG.hr.obj;exact⟨nG.df,vc,h5,vc,rfl,λbg=>h6.pf h3,nG.kp⟩
  cases e<;>first|exact fin hq|exact hq.elim
end Go.Am
namespace Go.Am
variable {P:Program}{aa:ja}{full:Array Oper}{os:List Oper}{k:List It}{fr:Fr}{H:AH}{Q:Fr->AH->Prop}
def xH(P:Program)(aa:ja)(full:Array Oper)(os:List Oper)(k:List It)(Q:Fr->AH->Prop)(d:Option Nat)(fr:Fr)(r:Option (AV×AH))(z:Option (AV->AH->Prop)):Prop:=match r with|some (v,H')=>aK P aa (.ops full os::k) (iQ d v fr) H' Q|none=>match z with|some R=>∀v H',R v H'->aK P aa (.ops full os::k) (iQ d v fr) H' Q|none=>False
variable {d:Nat}{v:AV}
theorem awp:iQ (some d) v fr=(d,v)::fr:=rfl
theorem awo:iQ none v fr=fr:=rfl
variable {op:Op}{ty:Nat}{pos:String}{af:Array Edge}
theorem az9{d:Option Nat}:aK P aa (.ops full (⟨d,op,ty,pos,af,none⟩::os)::k) fr H Q=xH P aa full os k Q d fr (cU P aa op ((bI op).map (ev fr)) H) (LR aa op ((bI op).map (ev fr)) H):=by rw[NS];rfl
def xy(P:Program)(aa:ja)(full:Array Oper)(os:List Oper)(k:List It)(Q:Fr->AH->Prop)(d:Option Nat)(op:Op)(want:Bool)(fr:Fr)(H:AH)(g:AV):Prop:=match g with|.c (.b q)=>if q=want then xH P aa full os k Q d fr (cU P aa op ((bI op).map (ev fr)) H) none else aK P aa (.ops full os::k) (iQ d (.c .ig) fr) H Q|.c .ig=>aK P aa (.ops full os::k) (iQ d (.c .ig) fr) H Q|_=>False
variable {want q:Bool}
theorem abI{d:Option Nat}:xy P aa full os k Q d op want fr H (.c (.b q))=if q=want then xH P aa full os k Q d fr (cU P aa op ((bI op).map (ev fr)) H) none else aK P aa (.ops full os::k) (iQ d (.c .ig) fr) H Q:=rfl
def kr(full:Array Oper)(j:Nat):Option Nat:=(full[j]?).bind (·.dst)
def KR(full:Array Oper)(fr:Fr)(j:Nat):AV:=match kr full j with|some e=>Am.get fr e|none=>.c .ig
variable {j:Nat}
theorem az8{d:Option Nat}:aK P aa (.ops full (⟨d,op,ty,pos,af,some (j,want)⟩::os)::k) fr H Q=xy P aa full os k Q d op want fr H (KR full fr j):=by
 rw[NS];simp only[xz,KR,kr];cases(full[j]?).bind (·.dst)with
 |none=>rfl|some e=>simp only;cases Am.get fr e with|c s=>cases s<;>rfl|g l=>rfl|t l=>rfl
variable {eh:Fr}{H':AH}
@[congr]theorem aCG(h1:fr=eh)(h2:H=H'):aK P aa k fr H Q=aK P aa k eh H' Q:=by rw[h1,h2]
variable {r r':Option (AV×AH)}{z:Option (AV->AH->Prop)}
@[congr]theorem aDb{d:Option Nat}(h1:r=r'):xH P aa full os k Q d fr r z=xH P aa full os k Q d fr r' z:=by rw[h1]
@[congr]theorem aCY{d:Option Nat}{g g':AV}(h1:g=g'):xy P aa full os k Q d op want fr H g=xy P aa full os k Q d op want fr H g':=by rw[h1]
theorem arN:xH P aa full os k Q (some d) fr (some (v,H')) z=aK P aa (.ops full os::k) ((d,v)::fr) H' Q:=rfl
theorem arL:xH P aa full os k Q none fr (some (v,H')) z=aK P aa (.ops full os::k) fr H' Q:=rfl
theorem ail{id:Nat}{l:List Oper}:aK P aa (.c (.region id l.toArray false)::k) fr H Q=aK P aa (.ops l.toArray l::k) fr H Q:=by rw[Sb]
def gd(P:Program)(aa:ja)(full:Array Oper)(os:List Oper)(i:Nat)(log:List (Nat×Tc))(k:List It)(Q:Fr->AH->Prop)(fr:Fr)(H:AH):Prop:=aK P aa (.dr full os i log::k) fr H Q
variable {i:Nat}{log:List (Nat×Tc)}
theorem anV:gd P aa full os i log k Q fr H=aK P aa (.dr full os i log::k) fr H Q:=rfl
@[congr]theorem aCX{i':Nat}(h:i=i'):gd P aa full os i log k Q fr H=gd P aa full os i' log k Q fr H:=by rw[h]
def uG(P:Program)(aa:ja)(full:Array Oper)(os:List Oper)(i:Nat)(log:List (Nat×Tc))(k:List It)(Q:Fr->AH->Prop)(d:Option Nat)(fr:Fr)(H:AH)(t:Tc)(r:Option (AV×AH)):Prop:=match r with|some (v,H')=>qY full i (nN t H H') log/\aK P aa (.dr full os (i+1) (C2 i (nN t H H') log)::k) (iQ d v fr) H' Q|none=>False
@[congr]theorem aDa{d:Option Nat}{t t':Tc}(h:t=t')(h1:r=r'):uG P aa full os i log k Q d fr H t r=uG P aa full os i log k Q d fr H t' r':=by rw[h,h1]
theorem aik{id:Nat}{l:List Oper}:aK P aa (.c (.region id l.toArray true)::k) fr H Q=aK P aa (.dr l.toArray l 0 []::k) fr H Q:=by rw[Sd]
theorem azu{d:Option Nat}:aK P aa (.dr full (⟨d,op,ty,pos,af,none⟩::os) i log::k) fr H Q=uG P aa full os i log k Q d fr H (cC P aa op ((bI op).map (ev fr))) (cU P aa op ((bI op).map (ev fr)) H):=by rw[NR];rfl
def zM(P:Program)(aa:ja)(full:Array Oper)(os:List Oper)(i:Nat)(log:List (Nat×Tc))(k:List It)(Q:Fr->AH->Prop)(d:Option Nat)(op:Op)(want:Bool)(fr:Fr)(H:AH)(g:AV):Prop:=match g with|.c (.b q)=>if q=want then uG P aa full os i log k Q d fr H (cC P aa op ((bI op).map (ev fr))) (cU P aa op ((bI op).map (ev fr)) H)else aK P aa (.dr full os (i+1) log::k) (iQ d (.c .ig) fr) H Q|.c .ig=>aK P aa (.dr full os (i+1) log::k) (iQ d (.c .ig) fr) H Q|_=>False
theorem abJ{d:Option Nat}:zM P aa full os i log k Q d op want fr H (.c (.b q))=if q=want then uG P aa full os i log k Q d fr H (cC P aa op ((bI op).map (ev fr))) (cU P aa op ((bI op).map (ev fr)) H)else aK P aa (.dr full os (i+1) log::k) (iQ d (.c .ig) fr) H Q:=rfl
theorem ac6{i:Nat}:∀{log:List (Nat×Tc)},qY full i .no log=True|[]=>rfl|(j,u)::r=>by simp only[qY,dU,false_imp_iff,true_and];exact ac6
theorem aq0:uG P aa full os i log k Q (some d) fr H .no (some (v,H'))=gd P aa full os (i+1) log k Q ((d,v)::fr) H':=by simp only[uG,nN,ac6,C2,true_and];rfl
variable {a b c:Nat}
theorem aqY:uG P aa full os i log k Q (some d) fr H (.ld a b c) (some (v,H'))=(qY full i (.ld a b c) log/\gd P aa full os (i+1) ((i,.ld a b c)::log) k Q ((d,v)::fr) H'):=rfl
theorem aqZ:uG P aa full os i log k Q (some d) fr H .mk (some (v,H'))=(qY full i .mk log/\gd P aa full os (i+1) ((i,.mk)::log) k Q ((d,v)::fr) H'):=rfl
theorem aq1:uG P aa full os i log k Q (some d) fr H .rd (some (v,H'))=(qY full i .rd log/\gd P aa full os (i+1) ((i,.rd)::log) k Q ((d,v)::fr) H'):=rfl
theorem aqX:uG P aa full os i log k Q (some d) fr H .jg (some (v,H'))=(qY full i (.cl H H') log/\gd P aa full os (i+1) ((i,.cl H H')::log) k Q ((d,v)::fr) H'):=rfl
theorem arn:uG P aa full os i log k Q none fr H .rd (some (v,H'))=(qY full i .rd log/\gd P aa full os (i+1) ((i,.rd)::log) k Q fr H'):=rfl
theorem arl:uG P aa full os i log k Q none fr H .jg (some (v,H'))=(qY full i (.cl H H') log/\gd P aa full os (i+1) ((i,.cl H H')::log) k Q fr H'):=rfl
theorem aro:uG P aa full os i log k Q none fr H (.st a b c) (some (v,H'))=(qY full i (.st a b c) log/\gd P aa full os (i+1) ((i,.st a b c)::log) k Q fr H'):=rfl
theorem an0{d:Option Nat}:zM P aa full os i log k Q d op true fr H (.c (.b true))=uG P aa full os i log k Q d fr H (cC P aa op ((bI op).map (ev fr))) (cU P aa op ((bI op).map (ev fr)) H):=rfl
theorem anW{d:Option Nat}:zM P aa full os i log k Q d op false fr H (.c (.b false))=uG P aa full os i log k Q d fr H (cC P aa op ((bI op).map (ev fr))) (cU P aa op ((bI op).map (ev fr)) H):=rfl
theorem anZ:zM P aa full os i log k Q (some d) op true fr H (.c (.b false))=gd P aa full os (i+1) log k Q ((d,.c .ig)::fr) H:=by rw[abJ,if_neg δ];rfl
theorem anX:zM P aa full os i log k Q (some d) op false fr H (.c (.b true))=gd P aa full os (i+1) log k Q ((d,.c .ig)::fr) H:=by rw[abJ,if_neg δ];rfl
theorem an1:zM P aa full os i log k Q (some d) op want fr H (.c .ig)=gd P aa full os (i+1) log k Q ((d,.c .ig)::fr) H:=rfl
theorem anY:zM P aa full os i log k Q none op want fr H (.c .ig)=gd P aa full os (i+1) log k Q fr H:=rfl
variable {t:Nat}{x:Operand}{vs:List AV}
theorem aAJ:cC P aa (.load t x) vs=ER (av P t) vs:=rfl
variable {y:Operand}
theorem aAV:cC P aa (.store t x y) vs=xW (av P t) vs:=rfl
theorem aAq:cC P aa (.alloc t) vs=.mk:=rfl
theorem aAu:cC P aa (.box t x) vs=.mk:=rfl
variable {n:Nat}
theorem aAw{ps:Array (Nat×Operand)}:cC P aa (.buildSlice t n ps) vs=.mk:=rfl
theorem aAN:cC P aa (.makeSlice t x y) vs=.mk:=rfl
variable {as:Array Operand}{ts:Array TypeId}
theorem aAx{f:Operand}:cC P aa (.call ⟨.value f,as,ts⟩) vs=Dg aa vs:=rfl
theorem aAR:cC P aa (.move x) vs=.no:=rfl
theorem aAs:cC P aa (.assign x) vs=.no:=rfl
theorem aAT{z:Operand}:cC P aa (.pick x y z) vs=.no:=rfl
theorem aAv{ps:Array (Nat×Operand)}:cC P aa (.build t ps) vs=.no:=rfl
theorem aAS:cC P aa (.nilCheck x) vs=.no:=rfl
theorem aAt{o:BinOp}{u:Nat}:cC P aa (.binOp o t x y u) vs=.no:=rfl
theorem aAW{o:UnOp}:cC P aa (.unOp o t x) vs=.no:=rfl
theorem aAz{u:Nat}:cC P aa (.convert t u x) vs=sS vs:=rfl
theorem aBi{n:Int}:sS [.c (.i n)]=.no:=rfl
theorem aBn{n:BitVec 64}:sS [.c (.u n)]=.no:=rfl
theorem aBj{k:IntKind}{n:Int}:sS [.c (.k k n)]=.no:=rfl
theorem aBl{n:ByteArray}:sS [.c (.s n)]=.no:=rfl
theorem aBm:sS [.c (.sl a b c d)]=.jg:=rfl
theorem aBk:sS [.c .az]=.jg:=rfl
theorem aAL{f:Fn}{x y:Array Operand}:cC P aa (.makeFunc f x y) vs=.no:=rfl
theorem aAE:cC P aa (.fieldAddr t x n) vs=.no:=rfl
theorem aAD:cC P aa (.field t x n) vs=.no:=rfl
theorem aAG:cC P aa (.indexAddr t x y) vs=.no:=rfl
theorem aAF:cC P aa (.index t x y) vs=.no:=rfl
theorem aAU{a b c:Option Operand}:cC P aa (.slice t x a b c) vs=.no:=rfl
theorem aAC:cC P aa (.extract x n) vs=.no:=rfl
theorem aAI:cC P aa (.call ⟨.builtin .len,as,ts⟩) vs=uO vs:=rfl
theorem aA9:uO [.c (.sl a b c d)]=.no:=rfl
theorem aA6:uO [.c .az]=.no:=rfl
theorem aA8{n:ByteArray}:uO [.c (.s n)]=.no:=rfl
variable {l:List Sc}
theorem aA3:uO [.g l]=.no:=rfl
theorem aA7:uO [.c (.p a b c)]=.no:=rfl
theorem aA2:uO [.c .any]=.no:=rfl
theorem aA4:uO [.c (.mp a)]=.jg:=rfl
theorem aA5:uO [.c .IG]=.jg:=rfl
theorem aAK:cC P aa (.lookup t x y q) vs=.jg:=rfl
theorem aAM{r:Option Operand}:cC P aa (.makeMap t r) vs=.jg:=rfl
theorem aAO{z:Operand}:cC P aa (.mapUpdate t x y z) vs=.jg:=rfl
theorem aAH{z:Operand}:cC P aa (.insert t x y z) vs=.jg:=rfl
theorem aAB:cC P aa (.call ⟨.builtin .delete,as,ts⟩) vs=.jg:=rfl
theorem aAy:cC P aa (.call ⟨.builtin .clear,as,ts⟩) vs=.jg:=rfl
theorem aAA:cC P aa (.call ⟨.builtin .copy,as,ts⟩) vs=.jg:=rfl
theorem aAQ:cC P aa (.call ⟨.builtin .min,as,ts⟩) vs=.no:=rfl
theorem aAP:cC P aa (.call ⟨.builtin .max,as,ts⟩) vs=.no:=rfl
theorem aAr:cC P aa (.call ⟨.builtin .append,as,ts⟩) vs=.jg:=rfl
theorem aA1{n id off aX:Nat}:ER n [.c (.p id off aX)]=.ld id off n:=rfl
theorem aBh{n id off aX:Nat}{x:AV}:xW n [.c (.p id off aX),x]=.st id off n:=rfl
variable {e f:Nat}
theorem arX:j6 full i j (.ld a b c) (.ld d e f)=(kn full i j=true):=rfl
theorem ar0:j6 full i j (.ld a b c) (.st d e f)=(kn full i j=true):=rfl
theorem arY:j6 full i j (.ld a b c) (.mk)=(kn full i j=true):=rfl
theorem arZ:j6 full i j (.ld a b c) (.rd)=(kn full i j=true):=rfl
theorem arW{C D:AH}:j6 full i j (.ld a b c) (.cl C D)=(kn full i j=true):=rfl
theorem asc:j6 full i j (.st a b c) (.ld d e f)=(kn full i j=true):=rfl
theorem asf:j6 full i j (.st a b c) (.st d e f)=(kn full i j=true):=rfl
theorem asd:j6 full i j (.st a b c) (.mk)=(kn full i j=true):=rfl
theorem ase:j6 full i j (.st a b c) (.rd)=(kn full i j=true):=rfl
theorem asb{C D:AH}:j6 full i j (.st a b c) (.cl C D)=(kn full i j=true):=rfl
theorem ar2:j6 full i j (.mk) (.ld d e f)=(kn full i j=true):=rfl
theorem ar5:j6 full i j (.mk) (.st d e f)=(kn full i j=true):=rfl
theorem ar3:j6 full i j (.mk) (.mk)=(kn full i j=true):=rfl
theorem ar4:j6 full i j (.mk) (.rd)=(kn full i j=true):=rfl
theorem ar1{i j:Nat}{C D:AH}:j6 full i j (.mk) (.cl C D)=((¬(loose full i j=true/\dX C D)->kn full i j=true)):=rfl
theorem ar7:j6 full i j (.rd) (.ld d e f)=(kn full i j=true):=rfl
theorem asa:j6 full i j (.rd) (.st d e f)=(kn full i j=true):=rfl
theorem ar8:j6 full i j (.rd) (.mk)=(kn full i j=true):=rfl
theorem ar9:j6 full i j (.rd) (.rd)=(kn full i j=true):=rfl
theorem ar6{C D:AH}:j6 full i j (.rd) (.cl C D)=(kn full i j=true):=rfl
variable {A B:AH}
theorem arS:j6 full i j (.cl A B) (.ld d e f)=(kn full i j=true):=rfl
theorem arV:j6 full i j (.cl A B) (.st d e f)=(kn full i j=true):=rfl
theorem arT:j6 full i j (.cl A B) (.mk)=(kn full i j=true):=rfl
theorem arU:j6 full i j (.cl A B) (.rd)=(kn full i j=true):=rfl
theorem arR{C D:AH}:j6 full i j (.cl A B) (.cl C D)=(kn full i j=true):=rfl
theorem atE{t:Tc}:qY full i t []=True:=rfl
variable {u:Tc}
theorem asH{t:Tc}{r:List (Nat×Tc)}:qY full i t ((j,u)::r)=((dU t u->j6 full i j t u)/\qY full i t r):=rfl
theorem aj0:dU (.ld a b c) (.ld d e f)=False:=rfl
theorem aj1:dU (.ld a b c) .mk=False:=rfl
theorem aj2:dU (.ld a b c) .rd=False:=rfl
variable {m:Nat}
theorem aj3:dU (.ld i a n) (.st j b m)=(i=j/\a<b+m/\b<a+n):=rfl
theorem ajZ:dU (.ld a b c) (.cl A B)=¬(hg B a=hg A a/\(hg A a).live=true):=rfl
theorem akf:dU (.st i a n) (.ld j b m)=(i=j/\a<b+m/\b<a+n):=rfl
theorem aki:dU (.st i a n) (.st j b m)=(i=j/\a<b+m/\b<a+n):=rfl
theorem akg:dU (.st a b c) .mk=False:=rfl
theorem akh:dU (.st a b c) .rd=True:=rfl
theorem ake:dU (.st a b c) (.cl A B)=True:=rfl
theorem aj5:dU .mk (.ld a b c)=False:=rfl
theorem aj8:dU .mk (.st a b c)=False:=rfl
theorem aj6:dU .mk .mk=False:=rfl
theorem aj7:dU .mk .rd=True:=rfl
theorem aj4:dU .mk (.cl A B)=True:=rfl
theorem aka:dU .rd (.ld a b c)=False:=rfl
theorem akd:dU .rd (.st a b c)=True:=rfl
theorem akb:dU .rd .mk=True:=rfl
theorem akc:dU .rd .rd=False:=rfl
theorem aj9:dU .rd (.cl A B)=True:=rfl
theorem ajV:dU (.cl A B) (.ld a b c)=¬(hg B a=hg A a/\(hg A a).live=true):=rfl
theorem ajY:dU (.cl A B) (.st a b c)=True:=rfl
theorem ajW:dU (.cl A B) .mk=True:=rfl
theorem ajX:dU (.cl A B) .rd=True:=rfl
theorem ajU{A B C D:AH}:dU (.cl A B) (.cl C D)=True:=rfl
theorem azt{d:Option Nat}:aK P aa (.dr full (⟨d,op,ty,pos,af,some (j,want)⟩::os) i log::k) fr H Q=zM P aa full os i log k Q d op want fr H (KR full fr j):=by
 rw[NR];simp only[xz,KR,kr];cases(full[j]?).bind (·.dst)with
 |none=>rfl|some e=>simp only;cases Am.get fr e with|c s=>cases s<;>rfl|g l=>rfl|t l=>rfl
theorem aof{d:Option Nat}:xy P aa full os k Q d op true fr H (.c (.b true))=xH P aa full os k Q d fr (cU P aa op ((bI op).map (ev fr)) H) none:=rfl
theorem aob{d:Option Nat}:xy P aa full os k Q d op false fr H (.c (.b false))=xH P aa full os k Q d fr (cU P aa op ((bI op).map (ev fr)) H) none:=rfl
theorem aoe:xy P aa full os k Q (some d) op true fr H (.c (.b false))=aK P aa (.ops full os::k) ((d,.c .ig)::fr) H Q:=by rw[abI,if_neg δ];rfl
theorem aoc:xy P aa full os k Q (some d) op false fr H (.c (.b true))=aK P aa (.ops full os::k) ((d,.c .ig)::fr) H Q:=by rw[abI,if_neg δ];rfl
theorem aog:xy P aa full os k Q (some d) op want fr H (.c .ig)=aK P aa (.ops full os::k) ((d,.c .ig)::fr) H Q:=rfl
theorem aod:xy P aa full os k Q none op want fr H (.c .ig)=aK P aa (.ops full os::k) fr H Q:=rfl
def Cu(P:Program)(aa:ja)(a b:Code)(k:List It)(Q:Fr->AH->Prop)(fr:Fr)(H:AH)(v:AV):Prop:=match v with|.c (.b true)=>aK P aa (.c a::k) fr H Q|.c (.b false)=>aK P aa (.c b::k) fr H Q|.c .qq=>aK P aa (.c a::k) fr H Q/\aK P aa (.c b::k) fr H Q|_=>False
theorem aay{a b:Code}:Cu P aa a b k Q fr H (.c .qq)=(aK P aa (.c a::k) fr H Q/\aK P aa (.c b::k) fr H Q):=rfl
variable {v':AV}
@[congr]theorem aCH{a b:Code}(h:v=v'):Cu P aa a b k Q fr H v=Cu P aa a b k Q fr H v':=by rw[h]
theorem akG{a b:Code}:Cu P aa a b k Q fr H (.c (.b true))=aK P aa (.c a::k) fr H Q:=rfl
theorem akF{a b:Code}:Cu P aa a b k Q fr H (.c (.b false))=aK P aa (.c b::k) fr H Q:=rfl
theorem aii{a b:Code}:aK P aa (.c (.cond x a b)::k) fr H Q=Cu P aa a b k Q fr H (ev fr x):=by
 rw[R5];generalize ev fr x=v;cases v with
 |c s=>cases s<;>first|rfl|(rename_i q;cases q<;>rfl)
 |g l=>rfl|t l=>rfl
theorem arO:(ae.own l).cells=l:=rfl
theorem arP:(ae.vec n l).cells=l:=rfl
theorem arQ:(ae.view l).cells=l:=rfl
theorem avI:(ae.own l).row=0:=rfl
theorem avJ:(ae.vec n l).row=l.length:=rfl
theorem avK:(ae.view l).row=0:=rfl
theorem au8:(ae.own l).owned=true:=rfl
theorem au2:(ae.own l).live=true:=rfl
theorem au3:(ae.vec n l).live=true:=rfl
theorem au4:(ae.view l).live=true:=rfl
theorem au9:(ae.vec n l).owned=true:=rfl
theorem avA{m:List Sc}:(ae.own l).put m=.own m:=rfl
theorem avH{m:List Sc}:(ae.vec n l).put m=.vec n m:=rfl
theorem T3{o:ae}:hg (o::H) 0=o:=rfl
theorem T2{o:ae}:hg (o::H) (n+1)=hg H n:=rfl
variable {X:AH}
theorem km:hg (H++X) H.length=hg X 0:=by unfold hg;rw[bX,bX,s9 (aB _),Dx]
theorem gM:hg (H++X) (H.length+n)=hg X n:=by unfold hg;rw[bX,bX,s9 (Nat.le_add_right _ _),th]
theorem cB(h:n<H.length):hg (H++X) n=hg H n:=by unfold hg;rw[bX,bX,uh h]
theorem iN{o:ae}(h:n<H.length):hg (H.set n o) n=o:=by simp[hg,bX,h]
theorem aoD{o:ae}(h:(m==n)=false):hg (H.set m o) n=hg H n:=by
 have h':m≠n:=by simpa using h
 unfold hg;rw[bX,bX,List.getElem?_set_ne h']
theorem zd{o:ae}:(H++X).set H.length o=H++X.set 0 o:=by rw[Ka _ _ (aB _),Dx]
theorem xS{o:ae}:(H++X).set (H.length+n) o=H++X.set n o:=by rw[Ka _ _ (Nat.le_add_right _ _),th]
theorem am3:ev fr (.tmp t)=Am.get fr t:=rfl
theorem amX:ev fr (.func f)=.c (.f f []):=rfl
theorem amY{n:Int}(h:-9223372036854775808<=n/\n<=9223372036854775807):ev fr (.const (.int .i64 n))=.c (.i n):=by simp only[ev,pq,mj,h,and_self,if_true]
theorem am4{n:Int}(h:0<=n/\n<=18446744073709551615):ev fr (.const (.int .u64 n))=.c (.u (aw 64 n)):=by simp only[ev,pq,mj,h,and_self,if_true]
theorem amW:ev fr (.const (.bool q))=.c (.b q):=rfl
theorem am1:ev fr (.const (.slice none 0 0))=.c .az:=rfl
theorem am0:ev fr (.const (.pointer none))=.c .dk:=rfl
theorem amZ:ev fr (.const .nilFunc)=.c .Gn:=rfl
theorem an9:Am.get ((d,v)::fr) d=v:=by simp[Am.get]
theorem an7{s:Nat}(h:(d==s)=false):Am.get ((d,v)::fr) s=Am.get fr s:=by simp at h;simp[Am.get,h]
section
variable {x y z:Operand}{a b c:AV}{t:Nat}
theorem avx:bI (.move x)=[x]:=rfl
theorem avc:bI (.assign x)=[x]:=rfl
theorem ave:bI (.box t x)=[x]:=rfl
theorem avt:bI (.load t x)=[x]:=rfl
theorem avz:bI (.nilCheck x)=[x]:=rfl
theorem avG{o:UnOp}:bI (.unOp o t x)=[x]:=rfl
theorem avj{s:Nat}:bI (.convert s t x)=[x]:=rfl
theorem avn:bI (.fieldAddr t x n)=[x]:=rfl
theorem avm:bI (.field t x n)=[x]:=rfl
theorem avl:bI (.extract x n)=[x]:=rfl
theorem avB:bI (.pick x y z)=[x,y,z]:=rfl
theorem avf{l:List (Nat×Operand)}:bI (.build t l.toArray)=l.map (·.2):=rfl
theorem avg{n:Nat}{l:List (Nat×Operand)}:bI (.buildSlice t n l.toArray)=l.map (·.2):=rfl
theorem avF:bI (.store t x y)=[x,y]:=rfl
theorem avd{o:BinOp}{s:Nat}:bI (.binOp o t x y s)=[x,y]:=rfl
theorem avw:bI (.makeSlice t x y)=[x,y]:=rfl
theorem avp:bI (.indexAddr t x y)=[x,y]:=rfl
theorem avo:bI (.index t x y)=[x,y]:=rfl
theorem avu{f:Fn}{l m:List Operand}:bI (.makeFunc f l.toArray m.toArray)=m:=rfl
theorem avD{lo hi mx:Option Operand}:bI (.slice t x lo hi mx)=x::(lo.toList++hi.toList++mx.toList):=rfl
theorem avi{l:List Operand}{ts:Array Nat}:bI (.call ⟨.value x,l.toArray,ts⟩)=x::l:=rfl
theorem avh{bi:Builtin}{l:List Operand}{ts:Array Nat}:bI (.call ⟨.builtin bi,l.toArray,ts⟩)=l:=rfl
theorem ava:bI (.alloc t)=[]:=rfl
theorem avC:bI (.range t x)=[x]:=rfl
theorem avy:bI (.next x q)=[x]:=rfl
theorem avk:bI (.entry x)=[x]:=rfl
theorem aiK:cU P aa (.move x) [a] H=some (a,H):=rfl
theorem aio:cU P aa (.assign x) [a] H=some (a,H):=rfl
theorem aiN:cU P aa (.pick x y z) [.c (.b q),a,b] H=some (if q=true then a else b,H):=by cases q<;>rfl
theorem air{l:List (Nat×Operand)}{vs:List AV}:cU P aa (.build t l.toArray) vs H=(Cr P t ((l.map (·.1)).zip vs)).map λv=>(v,H):=by
 show(match jc P (.build t l.toArray) vs _ with|some v=>some (v,H)|none=>jH P _ _ _)=_;simp only[jc];cases Cr P t ((l.map (·.1)).zip vs)<;>rfl
theorem aiG{id off aX:Nat}:cU P aa (.load t x) [.c (.p id off aX)] H=(D0 P t H (.c (.p id off aX))).map λv=>(v,H):=by
 show(match jc P (.load t x) [.c (.p id off aX)] [hg H id]with|some v=>some (v,H)|none=>jH P _ _ _)=_;have e:jc P (.load t x) [.c (.p id off aX)] [hg H id]=D0 P t H (.c (.p id off aX)):=rfl;simp only[e];cases D0 P t H (.c (.p id off aX))<;>rfl
theorem aiL{id off aX:Nat}:cU P aa (.nilCheck x) [.c (.p id off aX)] H=some (.c (.p id off aX),H):=rfl
theorem aiM{cs:List (Nat×Nat×Nat)}:cU P aa (.nilCheck x) [.c (.f f cs)] H=some (.c (.f f cs),H):=rfl
theorem aip{o:BinOp}{s:Nat}:cU P aa (.binOp o t x y s) [a,b] H=(cA P o t a b).map λv=>(v,H):=by
 show(match jc P (.binOp o t x y s) [a,b] _ with|some v=>some (v,H)|none=>jH P _ _ _)=_;simp only[jc];cases cA P o t a b<;>rfl
theorem aiS{o:UnOp}:cU P aa (.unOp o t x) [a] H=(Co o a).map λv=>(v,H):=by
 show(match jc P (.unOp o t x) [a] _ with|some v=>some (v,H)|none=>jH P _ _ _)=_;simp only[jc];cases Co o a<;>rfl
theorem aiw{s:Nat}{n:Int}:cU P aa (.convert s t x) [.c (.i n)] H=(if(dT P s).is=true then mJ P t (.c (.i n))else none).map λv=>(v,H):=by
 show(match jc P (.convert s t x) [.c (.i n)] ((uP (.convert s t x) [.c (.i n)]).map (hg H))with|some v=>some (v,H)|none=>jH P _ _ _)=_;have e:jc P (.convert s t x) [.c (.i n)] ((uP (.convert s t x) [.c (.i n)]).map (hg H))=if(dT P s).is=true then mJ P t (.c (.i n))else none:=rfl;rw[e];cases(if(dT P s).is=true then mJ P t (.c (.i n))else none)<;>rfl
theorem aiA{s:Nat}{n:BitVec 64}:cU P aa (.convert s t x) [.c (.u n)] H=(if(dT P s).is=true then mJ P t (.c (.u n))else none).map λv=>(v,H):=by
 show(match jc P (.convert s t x) [.c (.u n)] ((uP (.convert s t x) [.c (.u n)]).map (hg H))with|some v=>some (v,H)|none=>jH P _ _ _)=_;have e:jc P (.convert s t x) [.c (.u n)] ((uP (.convert s t x) [.c (.u n)]).map (hg H))=if(dT P s).is=true then mJ P t (.c (.u n))else none:=rfl;rw[e];cases(if(dT P s).is=true then mJ P t (.c (.u n))else none)<;>rfl
theorem aix{s:Nat}{k:IntKind}{n:Int}:cU P aa (.convert s t x) [.c (.k k n)] H=(if(dT P s).is=true then mJ P t (.c (.k k n))else none).map λv=>(v,H):=by
 show(match jc P (.convert s t x) [.c (.k k n)] ((uP (.convert s t x) [.c (.k k n)]).map (hg H))with|some v=>some (v,H)|none=>jH P _ _ _)=_;have e:jc P (.convert s t x) [.c (.k k n)] ((uP (.convert s t x) [.c (.k k n)]).map (hg H))=if(dT P s).is=true then mJ P t (.c (.k k n))else none:=rfl;rw[e];cases(if(dT P s).is=true then mJ P t (.c (.k k n))else none)<;>rfl
theorem aiz{s o v:Nat}:cU P aa (.convert s t x) [.c (.sl i o v n)] H=(Ft P s t (.c (.sl i o v n)) H).map λv=>(v,H):=rfl
theorem aiy{s:Nat}:cU P aa (.convert s t x) [.c .az] H=(Ft P s t (.c .az) H).map λv=>(v,H):=rfl
def OB(P:Program)(d:D)(n id off aX:Nat):Option AV:=match d with
 |.st fs=>match fs[n]? with
   |some f=>if 0<av P f.2 then some (.c (.p id (off+f.1) aX))else none|none=>none
 |_=>none
theorem aiC{n id off aX:Nat}:cU P aa (.fieldAddr t x n) [.c (.p id off aX)] H=(OB P (dT P t) n id off aX).map λv=>(v,H):=by
 show(match jc P (.fieldAddr t x n) [.c (.p id off aX)] _ with|some v=>some (v,H)|none=>jH P _ _ _)=_;have e:jc P (.fieldAddr t x n) [.c (.p id off aX)] ((uP (.fieldAddr t x n) [.c (.p id off aX)]).map (hg H))=OB P (dT P t) n id off aX:=rfl;simp only[e];cases OB P (dT P t) n id off aX<;>rfl
theorem aiE:cU P aa (.indexAddr t x y) [a,b] H=(Iv P t a b).map λv=>(v,H):=by
 show(match jc P (.indexAddr t x y) [a,b] _ with|some v=>some (v,H)|none=>jH P _ _ _)=_;simp only[jc];cases Iv P t a b<;>rfl
theorem aiD:cU P aa (.index t x y) [a,b] H=(Iu P t a b).map λv=>(v,H):=by
 show(match jc P (.index t x y) [a,b] _ with|some v=>some (v,H)|none=>jH P _ _ _)=_;simp only[jc];cases Iu P t a b<;>rfl
theorem aiP:cU P aa (.slice t x (some y) none none) [a,b] H=(AG P t a (some b) none).map λv=>(v,H):=by
 show(match jc P (.slice t x (some y) none none) [a,b] _ with|some v=>some (v,H)|none=>jH P _ _ _)=_;simp only[jc];cases AG P t a (some b) none<;>rfl
theorem aiO:cU P aa (.slice t x none (some y) none) [a,b] H=(AG P t a none (some b)).map λv=>(v,H):=by
 show(match jc P (.slice t x none (some y) none) [a,b] _ with|some v=>some (v,H)|none=>jH P _ _ _)=_;simp only[jc];cases AG P t a none (some b)<;>rfl
theorem aiQ{d:AV}{u:Operand}:cU P aa (.slice t x (some y) (some z) (some u)) [a,b,c,d] H=(JM P t a b c d).map λv=>(v,H):=by
 show(match jc P (.slice t x (some y) (some z) (some u)) [a,b,c,d] _ with|some v=>some (v,H)|none=>jH P _ _ _)=_;simp only[jc];cases JM P t a b c d<;>rfl
theorem aiB{l:List AV}:cU P aa (.extract x n) [.t l] H=(l[n]?).map λv=>(v,H):=by
 show(match jc P (.extract x n) [.t l] _ with|some v=>some (v,H)|none=>jH P _ _ _)=_;simp only[jc];cases l[n]?<;>rfl
theorem NT{l:Array Operand}{ts:List Nat}(h:tU (.call ⟨.builtin .len,l,(t::ts).toArray⟩) [a]=false):cU P aa (.call ⟨.builtin .len,l,(t::ts).toArray⟩) [a] H=(Ac P t a).map λv=>(v,H):=by
 show(if tU (.call ⟨.builtin .len,l,(t::ts).toArray⟩) [a]=true then IE P (.call ⟨.builtin .len,l,(t::ts).toArray⟩) [a] H else match jc P (.call ⟨.builtin .len,l,(t::ts).toArray⟩) [a] _ with|some v=>some (v,H)|none=>jH P _ _ _)=_;rw[h];simp only[dL,if_false,jc,Hk,Hi];cases Ac P t a<;>rfl
theorem ZF{l:Array Operand}{ts:List Nat}{i j k n:Nat}:cU P aa (.call ⟨.builtin .len,l,(t::ts).toArray⟩) [.c (.sl i j k n)] H=(Ac P t (.c (.sl i j k n))).map λv=>(v,H):=NT rfl
theorem ZE{l:Array Operand}{ts:List Nat}:cU P aa (.call ⟨.builtin .len,l,(t::ts).toArray⟩) [.c .az] H=(Ac P t (.c .az)).map λv=>(v,H):=NT rfl
theorem aiu {l : Array Operand} {ts : List Nat} : cU P aa (.call ⟨.builtin .clear, l, (t :: ts).toArray⟩) [a] H = (DE P t a H).map λH' => (.t [], H') := rfl
theorem aiv {l : Array Operand} {ts : List Nat} : cU P aa (.call ⟨.builtin .copy, l, (t :: ts).toArray⟩) [a, b] H = HI P t a b H := rfl
theorem aiF{l:Array Operand}{ts:List Nat}{n:ByteArray}:cU P aa (.call ⟨.builtin .len,l,(t::ts).toArray⟩) [.c (.s n)] H=(Ac P t (.c (.s n))).map λv=>(v,H):=NT rfl
theorem aiJ{l:Array Operand}{ts:Array Nat}{m n:Int}:cU P aa (.call ⟨.builtin .min,l,ts⟩) [.c (.i m),.c (.i n)] H=some (.c (.i (min m n)),H):=rfl
theorem aiI{l:Array Operand}{ts:Array Nat}{m n:Int}:cU P aa (.call ⟨.builtin .max,l,ts⟩) [.c (.i m),.c (.i n)] H=some (.c (.i (max m n)),H):=rfl
theorem ain{l:Array Operand}{ts:Array Nat}:cU P aa (.call ⟨.builtin .append,l,ts⟩) vs H=Ff P ts vs H:=rfl
theorem ait{l:Array Operand}{ts:Array Nat}{cs:List (Nat×Nat×Nat)}:cU P aa (.call ⟨.value x,l,ts⟩) (.c (.f f cs)::vs) H=A8 aa f (vs++cs.map A9) H:=rfl
def R1(z:Option (List Sc))(H:AH):Option (AV×AH):=match z with|some z=>some (.c (.p H.length 0 0),H++[.own z])|none=>none
theorem aim:cU P aa (.alloc t) [] H=R1 (zT P t) H:=rfl
theorem aiq:cU P aa (.box t x) [a] H=R1 a.cells H:=rfl
def aga(P:Program)(t id off aX:Nat)(o:ae)(l:Option (List Sc))(H:AH):Option (AV×AH):=match l with|some l=>if o.owned=true/\aX=o.row/\l.length=av P t/\0<av P t/\off+l.length<=o.cells.length/\l.all Sc.one=true then some (.c .ig,H.set id (o.put (wr o.cells off l)))else none|none=>none
theorem aiR{id off aX:Nat}:cU P aa (.store t x y) [.c (.p id off aX),a] H=aga P t id off aX (hg H id) a.cells H:=rfl
def Z5(P:Program)(t len:Nat)(is:List Nat)(m:Nat)(vs:List AV)(H:AH):Option (AV×AH):=match dT P t with
 |.sl e=>match zT P e with
   |some z=>if 0<av P e/\0<len/\len*av P e<=16777216/\z.length=av P e then match vW (λi=>some (i*av P e,av P e)) (bD len z).flatten (is.zip vs)with
 |some cs=>some (.c (.sl H.length 0 cs.length len),H++[.vec (av P e) cs])|none=>none else if 0<av P e/\len=0/\m=0 then some (.c (.sl H.length 0 0 0),H++[.vec (av P e) []])else none|none=>none
 |_=>none
theorem ais{n:Nat}{l:List (Nat×Operand)}{vs:List AV}:cU P aa (.buildSlice t n l.toArray) vs H=Z5 P t n (l.toArray.toList.map (·.1)) l.toArray.size vs H:=by
 have e:cU P aa (.buildSlice t n l.toArray) vs H=(match jc P (.buildSlice t n l.toArray) vs ((uP (.buildSlice t n l.toArray) vs).map (hg H))with|some v=>some (v,H)|none=>jH P (.buildSlice t n l.toArray) vs H):=by cases vs<;>rfl
 rw[e];have:jc P (.buildSlice t n l.toArray) vs ((uP (.buildSlice t n l.toArray) vs).map (hg H))=none:=by cases vs with
 |nil=>rfl|cons a r=>cases r with
 |nil=>rfl|cons b r=>cases r<;>rfl
 rw[this];rfl
def msA(P:Program)(t:Nat)(l c:Int)(H:AH):Option (AV×AH):=match dT P t with
 |.sl e=>match zT P e with
   |some z=>if l=c/\0<=l/\l<=1048576/\0<av P e/\mr P e<=1048576/\z.length=av P e then some (.c (.sl H.length 0 (l.toNat*av P e) l.toNat),H++[.vec (av P e) (bD l.toNat z).flatten])else none|none=>none
 |_=>none
theorem aiH{l c:Int}:cU P aa (.makeSlice t x y) [.c (.i l),.c (.i c)] H=msA P t l c H:=rfl
end
section
variable {t:Nat}{x y:BitVec 64}{m n:Int}{p q:Bool}
theorem ahE:cA P .add t (.c (.u x)) (.c (.u y))=some (.c (.u (x+y))):=rfl
theorem ahT:cA P .sub t (.c (.u x)) (.c (.u y))=some (.c (.u (x-y))):=rfl
theorem ahM:cA P .mul t (.c (.u x)) (.c (.u y))=some (.c (.u (x*y))):=rfl
theorem ahP:cA P .quo t (.c (.u x)) (.c (.u y))=if y=0#64 then none else some (.c (.u (x/y))):=rfl
theorem ahQ:cA P .rem t (.c (.u x)) (.c (.u y))=if y=0#64 then none else some (.c (.u (x%y))):=rfl
theorem ahF:cA P .and t (.c (.u x)) (.c (.u y))=some (.c (.u (x&&&y))):=rfl
theorem ahO:cA P .or t (.c (.u x)) (.c (.u y))=some (.c (.u (x|||y))):=rfl
theorem ahU:cA P .xor t (.c (.u x)) (.c (.u y))=some (.c (.u (x^^^y))):=rfl
theorem ahG:cA P .andNot t (.c (.u x)) (.c (.u y))=some (.c (.u (x&&&~~~y))):=rfl
theorem ahH:cA P .eql t (.c (.u x)) (.c (.u y))=some (.c (.b (decide (x=y)))):=rfl
theorem ahN:cA P .neq t (.c (.u x)) (.c (.u y))=some (.c (.b (!decide (x=y)))):=rfl
theorem ahL:cA P .lss t (.c (.u x)) (.c (.u y))=some (.c (.b (decide (x<y)))):=rfl
theorem ahK:cA P .leq t (.c (.u x)) (.c (.u y))=some (.c (.b (decide (x<=y)))):=rfl
theorem ahJ:cA P .gtr t (.c (.u x)) (.c (.u y))=some (.c (.b (decide (y<x)))):=rfl
theorem ahI:cA P .geq t (.c (.u x)) (.c (.u y))=some (.c (.b (decide (y<=x)))):=rfl
theorem ahR:cA P .shl t (.c (.u x)) (.c (.u y))=some (.c (.u (x<<<y.toNat))):=rfl
theorem ahS:cA P .shr t (.c (.u x)) (.c (.u y))=some (.c (.u (x>>>y.toNat))):=rfl
theorem ahi:cA P .add t (.c (.i m)) (.c (.i n))=some (.c (.i (aA (m+n)))):=rfl
theorem ahu:cA P .sub t (.c (.i m)) (.c (.i n))=some (.c (.i (aA (m-n)))):=rfl
theorem aho:cA P .mul t (.c (.i m)) (.c (.i n))=some (.c (.i (aA (m*n)))):=rfl
theorem ahq:cA P .quo t (.c (.i m)) (.c (.i n))=if n=0 then none else some (.c (.i (aA (m.tdiv n)))):=rfl
theorem ahr:cA P .rem t (.c (.i m)) (.c (.i n))=if n=0 then none else some (.c (.i (m.tmod n))):=rfl
theorem ahj:cA P .eql t (.c (.i m)) (.c (.i n))=some (.c (.b (decide (m=n)))):=rfl
theorem ahp:cA P .neq t (.c (.i m)) (.c (.i n))=some (.c (.b (!decide (m=n)))):=rfl
theorem ahn:cA P .lss t (.c (.i m)) (.c (.i n))=some (.c (.b (decide (m<n)))):=rfl
theorem ahm:cA P .leq t (.c (.i m)) (.c (.i n))=some (.c (.b (decide (m<=n)))):=rfl
theorem ahl:cA P .gtr t (.c (.i m)) (.c (.i n))=some (.c (.b (decide (n<m)))):=rfl
theorem ahk:cA P .geq t (.c (.i m)) (.c (.i n))=some (.c (.b (decide (n<=m)))):=rfl
theorem ahs:cA P .shl t (.c (.i m)) (.c (.u y))=some (.c (.i (aA (m*2^min y.toNat 64)))):=rfl
theorem aht:cA P .shr t (.c (.i m)) (.c (.u y))=some (.c (.i (m/2^min y.toNat 64))):=rfl
theorem ahg(h:dT P t=.bool):cA P .eql t (.c (.b p)) (.c (.b q))=some (.c (.b (p==q))):=by simp[cA,h,Km]
theorem ahh(h:dT P t=.bool):cA P .neq t (.c (.b p)) (.c (.b q))=some (.c (.b (!(p==q)))):=by simp[cA,h,Km]
theorem ahC{a b:ByteArray}:cA P .eql t (.c (.s a)) (.c (.s b))=some (.c (.b (decide (a=b)))):=rfl
theorem ahD{a b:ByteArray}:cA P .neq t (.c (.s a)) (.c (.s b))=some (.c (.b (!decide (a=b)))):=rfl
theorem yg{a b:List Sc}(g:List Tg)(h:(dT P t).agg=true)(hg:je P 12 t=some g):cA P .eql t (.g a) (.g b)=(jO g a b).bind (rE .eql):=by simp[cA,h,hg]
theorem Ki{a b:List Sc}(g:List Tg)(h:(dT P t).agg=true)(hg:je P 12 t=some g):cA P .neq t (.g a) (.g b)=(jO g a b).bind (rE .neq):=by simp[cA,h,hg]
theorem aiX:Co .not (.c (.b p))=some (.c (.b (!p))):=rfl
theorem aiV:Co .neg (.c (.i m))=some (.c (.i (aA (-m)))):=rfl
theorem aiW:Co .neg (.c (.u x))=some (.c (.u (-x))):=rfl
theorem aiY:Co .xor (.c (.u x))=some (.c (.u (~~~x))):=rfl
theorem ak1(h:dT P t=.int .i64):mJ P t (.c (.u x))=some (.c (.i x.toInt)):=by simp[mJ,h]
theorem akW(h:dT P t=.int .u64):mJ P t (.c (.i m))=some (.c (.u (aw 64 m))):=by simp[mJ,h]
end
theorem kC{n:Int}(h:-9223372036854775808<=n/\n<=9223372036854775807):aA n=n:=JR h.1 h.2
theorem am6{n:Int}(h:0<=n/\n<=255):ev fr (.const (.int .u8 n))=.c (.k .u8 n):=by
 have h2:IntKind.u8.min<=n/\n<=IntKind.u8.max:=h;simp only[ev,pq,mj,h2,and_self,if_true]
theorem ak0{x:BitVec 64}(h:dT P d=.int .u8):mJ P d (.c (.u x))=some (.c (.k .u8 (IntKind.u8.wrap x.toNat))):=by simp only[mJ,h]
theorem akV{n:Int}(h:dT P d=.int .u8):mJ P d (.c (.i n))=some (.c (.k .u8 (IntKind.u8.wrap n))):=by simp only[mJ,h]
theorem am5{n:Int}(h:0<=n/\n<=4294967295):ev fr (.const (.int .u32 n))=.c (.k .u32 n):=by
 have h2:IntKind.u32.min<=n/\n<=IntKind.u32.max:=h;simp only[ev,pq,mj,h2,and_self,if_true]
theorem akZ{x:BitVec 64}(h:dT P d=.int .u32):mJ P d (.c (.u x))=some (.c (.k .u32 (IntKind.u32.wrap x.toNat))):=by simp only[mJ,h]
theorem akX{k:IntKind}{n:Int}(h:dT P d=.int .i64):mJ P d (.c (.k k n))=some (.c (.i n)):=by simp only[mJ,h]
theorem akY{k:IntKind}{n:Int}(h:dT P d=.int .u64):mJ P d (.c (.k k n))=some (.c (.u (aw 64 n))):=by simp only[mJ,h]
theorem RY{t:Nat}{k:IntKind}{x y:Int}:cA P .and t (.c (.k k x)) (.c (.k k y))=some (.c (.k k (k.wrap ((aw k.bits x&&&aw k.bits y).toNat)))):=by simp only[cA,if_true];rfl
theorem RZ{t:Nat}{k:IntKind}{x y:Int}:cA P .or t (.c (.k k x)) (.c (.k k y))=some (.c (.k k (k.wrap ((aw k.bits x|||aw k.bits y).toNat)))):=by simp only[cA,if_true];rfl
theorem Zp{t:Nat}{k:IntKind}{x y:Int}:cA P .andNot t (.c (.k k x)) (.c (.k k y))=some (.c (.k k (k.wrap ((aw k.bits x&&&~~~(aw k.bits y)).toNat)))):=by simp only[cA,if_true];rfl
theorem ahv{k:IntKind}{x y:Int}:cA P .eql t (.c (.k k x)) (.c (.k k y))=some (.c (.b (decide (x=y)))):=by simp only[cA,if_true];rfl
theorem ahy{k:IntKind}{x y:Int}:cA P .neq t (.c (.k k x)) (.c (.k k y))=some (.c (.b (!decide (x=y)))):=by simp only[cA,if_true];rfl
theorem ahx{k:IntKind}{x y:Int}:cA P .lss t (.c (.k k x)) (.c (.k k y))=some (.c (.b (decide (x<y)))):=by simp only[cA,if_true];rfl
theorem ahw{k:IntKind}{x y:Int}:cA P .gtr t (.c (.k k x)) (.c (.k k y))=some (.c (.b (decide (y<x)))):=by simp only[cA,if_true];rfl
theorem ahz{k:IntKind}{x:Int}{y:BitVec 64}:cA P .shl t (.c (.k k x)) (.c (.u y))=some (.c (.k k (k.wrap (x*2^(min y.toNat k.bits))))):=rfl
theorem ahA{k:IntKind}{x:Int}{y:BitVec 64}:cA P .shr t (.c (.k k x)) (.c (.u y))=some (.c (.k k (x/2^(min y.toNat k.bits)))):=rfl
end Go.Am
namespace Go.Am
variable {P:Program}{aa:ja}{N:Nat}
def ae.hd:ae->Nat×Nat×Nat×List (Nat×AV×AV)×List Nat|.own cs=>(0,0,cs.length,[],[])|.vec z cs=>(1,z,cs.length,[],[])|.view cs=>(2,0,cs.length,[],[])|.dead=>(3,0,0,[],[])|.map mL es=>(4,mL,0,es,[])|.iter m since seen last=>(5,m,since,[],last::seen)
theorem ae.ext{o p:ae}(h:o.hd=p.hd)(hc:∀k,o.cells.getD k .any=p.cells.getD k .any):o=p:=by
 have key:∀(l m:List Sc),l.length=m.length->(∀k,l.getD k .any=m.getD k .any)->l=m:=by
  intro l m hl hk;apply List.ext_getElem hl;intro i h1 h2;have:=hk i;simpa[bX,h1,h2]using this
 cases o<;>cases p<;>simp[ae.hd]at h<;>simp only[ae.cells]at hc
 .rw[key _ _ h hc]
 .rw[h.1,key _ _ h.2 hc]
 .rw[key _ _ h hc]
 .rw[h.1,h.2]
 .obtain⟨rfl,rfl,rfl,rfl⟩:=h;rfl
 .rfl
theorem ae.O2{o p:ae}(h:o.hd=p.hd):o.row=p.row/\o.cells.length=p.cells.length/\o.owned=p.owned/\o.live=p.live:=by cases o<;>cases p<;>simp[ae.hd]at h<;>simp_all[ae.row,ae.cells,ae.owned,ae.live]
def ov(off n:Nat)(src cs:List Sc):List Sc:=(pj cs.length).map λk=>if off<=k/\k<off+n then src.getD k .any else cs.getD k .any
def ae.on(f:List Sc->List Sc):ae->ae|.own cs=>.own (f cs)|.vec z cs=>.vec z (f cs)|.view cs=>.view (f cs)|.map mL es=>.map mL es|.iter m since seen last=>.iter m since seen last|.dead=>.dead
variable {off n:Nat}{src cs:List Sc}
theorem avO:(ov off n src cs).length=cs.length:=by simp[ov]
theorem VU{k:Nat}:(ov off n src cs).getD k .any=if k<cs.length/\off<=k/\k<off+n then src.getD k .any else cs.getD k .any:=by
 rw[bX];simp only[ov,qL];rcases cX k cs.length with h|h
 .simp[List.getElem?_range h,h]
 .have h':¬k<cs.length:=ω
  rw[kf (by simpa using h)];simp[h',bX,kf h]
theorem IK{o:ae}{off n:Nat}{src:List Sc}:(o.on (ov off n src)).hd=o.hd:=by cases o<;>simp[ae.on,ae.hd,avO]
theorem L4{o:ae}{off n k:Nat}{src:List Sc}:(o.on (ov off n src)).cells.getD k .any=if k<o.cells.length/\off<=k/\k<off+n then src.getD k .any else o.cells.getD k .any:=by
 cases o
 .exact VU
 .exact VU
 .exact VU
 .simp[ae.on,ae.cells]
 .simp[ae.on,ae.cells]
 .simp[ae.on,ae.cells]
variable {l:List Sc}
theorem aBW(h:off+l.length<=cs.length):(wr cs off l).length=cs.length:=by simp[wr];omega
theorem Y0{k:Nat}(h:off+l.length<=cs.length):(wr cs off l).getD k .any=if off<=k/\k<off+l.length then l.getD (k-off) .any else cs.getD k .any:=by
 simp only[bX,wr,fv];rcases cX k off with h1|h1
 .rw[uh (by simp;omega),List.getElem?_take_of_lt h1,if_neg ω]
 .rw[s9 (by simp;omega)];have e1:k-(cs.take off).length=k-off:=by simp;omega
  rw[e1];rcases cX k (off+l.length)with h2|h2
  .rw[uh ω,if_pos ⟨h1,h2⟩]
  .rw[s9 ω,if_neg ω,List.getElem?_drop];congr 2;omega
noncomputable def gE(t:Tc)(H0 H':AH)(p:Nat)(cur:ae):ae:=match t with|.mk=>if p=H0.length then hg H' p else cur|.st id off n=>if p=id then cur.on (ov off n (hg H' id).cells)else cur|.jg=>hg H' p|.cl A B=>@ite _ (hg B p=hg A p/\(hg A p).live=true) (Classical.propDecidable _) cur (hg B p)|_=>cur
def xd(t:Tc)(H0:AH)(p a n:Nat):Prop:=match t with|.mk=>p=H0.length|.st id off m=>p=id/\off<a+n/\a<off+m|.jg=>True|.cl A B=>¬(hg B p=hg A p/\(hg A p).live=true)|_=>False
def Tc.quiet:Tc->Bool|.no|.ld _ _ _|.rd=>true|_=>false
variable {H0 H':AH}{p:Nat}{cur:ae}
theorem DJ{t:Tc}(h:t.quiet=true):gE t H0 H' p cur=cur:=by cases t<;>simp[Tc.quiet]at h<;>rfl
variable {a:Nat}
theorem abD{t:Tc}(h:¬xd t H0 p a n):(gE t H0 H' p cur).hd=cur.hd/\∀k,a<=k->k<a+n->(gE t H0 H' p cur).cells.getD k .any=cur.cells.getD k .any:=by cases t with
 |mk=>simp only[xd]at h;simp[gE,h]|st id off m=>
   simp only[xd]at h;simp only[gE];split
   .rename_i e;refine⟨IK,λk h1 h2=>?_⟩;rw[L4,if_neg (λhh=>h ⟨e,ω,ω⟩)]
   .exact⟨rfl,λ_ _ _=>rfl⟩|jg=>simp[xd]at h|cl A B=>
 simp only[xd,Classical.not_not]at h;simp only[gE];rw[if_pos h];exact⟨rfl,λ_ _ _=>rfl⟩|_=>exact⟨rfl,λ_ _ _=>rfl⟩
theorem anF{t:Tc}{c d:ae}(h:c.hd=d.hd)(hk:∀k,a<=k->k<a+n->c.cells.getD k .any=d.cells.getD k .any):(gE t H0 H' p c).hd=(gE t H0 H' p d).hd/\∀k,a<=k->k<a+n->(gE t H0 H' p c).cells.getD k .any=(gE t H0 H' p d).cells.getD k .any:=by cases t with
 |mk=>simp only[gE];split<;>simp_all|st id off m=>
   simp only[gE];split
   .refine⟨by rw[IK,IK,h],λk h1 h2=>?_⟩;rw[L4,L4,(ae.O2 h).2.1,hk k h1 h2]
   .exact⟨h,hk⟩|jg=>simp[gE]|cl A B=>
 simp only[gE];by_cases e:hg B p=hg A p/\(hg A p).live=true
 .rw[if_pos e,if_pos e];exact⟨h,hk⟩
 .rw[if_neg e,if_neg e];exact⟨rfl,λ_ _ _=>rfl⟩|_=>exact⟨h,hk⟩
variable {u:Tc}{A B:AH}
theorem anE{t:Tc}{A' B':AH}{c:ae}(h:¬dU t u)(h1:t=.mk->u=.mk->A.length≠B.length)(h2:∀id a n,t=.st id a n->u=.mk->id≠B.length)(h3:∀id a n,t=.mk->u=.st id a n->id≠A.length):gE t A A' p (gE u B B' p c)=gE u B B' p (gE t A A' p c):=by cases ht:t.quiet with|true=>rw[DJ ht,DJ ht]|false=>cases hu:u.quiet with|true=>rw[DJ hu,DJ hu]|false=>
     cases t<;>simp[Tc.quiet]at ht<;>cases u<;>simp[Tc.quiet]at hu<;>simp only[dU,not_true_eq_false]at h
     .rename_i id a n qi a' n';simp only[gE];by_cases e:p=id
      .by_cases e':p=qi
       .simp only[e,e',if_true];subst e;subst e';simp only[if_true];refine ae.ext (by simp only[IK]) λk=>?_;simp only[L4,(ae.O2 (IK (o:=c))).2.1];by_cases c1:k<c.cells.length/\a<=k/\k<a+n
        .rw[if_pos c1,if_neg (λc2=>h ⟨rfl,ω,ω⟩),if_pos c1]
        .rw[if_neg c1];split<;>simp[c1]
       .have e2:id≠qi:=λe2=>e' (e.trans e2);simp[e,e2]
      .simp[e]
     .rename_i id a n;have:=h2 id a n rfl rfl;simp only[gE];by_cases e:p=id
      .subst e;simp[this]
      .simp[e]
     .rename_i id a n;have:=h3 id a n rfl rfl;simp only[gE];by_cases e:p=id
      .subst e;simp[this]
      .simp[e]
     .have:=h1 rfl rfl;simp only[gE];by_cases e:p=A.length
      .subst e;simp[this]
      .simp[e]
noncomputable def val(ts:Nat->Tc)(Hs:Nat->AH)(S:Nat->Bool)(p:Nat):Nat->ae|0=>hg (Hs 0) p|m+1=>if S m then gE (ts m) (Hs m) (Hs (m+1)) p (val ts Hs S p m)else val ts Hs S p m
variable {b i:Nat}
section aBx
variable {ts:Nat->Tc}{Hs:Nat->AH}{S T:Nat->Bool}{p n:Nat}
theorem ags:∀M,(∀m,m<M->S m≠T m->¬xd (ts m) (Hs m) p a b)->(val ts Hs S p M).hd=(val ts Hs T p M).hd/\∀k,a<=k->k<a+b->(val ts Hs S p M).cells.getD k .any=(val ts Hs T p M).cells.getD k .any:=by
 intro M;induction M with|zero=>intro _;exact⟨rfl,λ_ _ _=>rfl⟩|succ M ih=>
   intro h;obtain⟨i1,i2⟩:=ih λm hm=>h m ω;simp only[val];cases hS:S M<;>cases hT:T M
   .exact⟨i1,i2⟩
   .obtain⟨k1,k2⟩:=abD (H':=Hs (M+1)) (cur:=val ts Hs T p M) (h M ω (by rw[hS,hT];simp));exact⟨by simp[k1,i1],λk g1 g2=>by simp only[dL,if_false,if_true];rw[k2 k g1 g2,i2 k g1 g2]⟩
   .obtain⟨k1,k2⟩:=abD (H':=Hs (M+1)) (cur:=val ts Hs S p M) (h M ω (by rw[hS,hT];simp));exact⟨by simp[k1,i1],λk g1 g2=>by simp only[dL,if_false,if_true];rw[k2 k g1 g2,i2 k g1 g2]⟩
   .simp only[if_true];exact anF i1 i2
theorem YM:∀M,(∀m,m<M->S m≠T m->(ts m).quiet=true)->val ts Hs S p M=val ts Hs T p M:=by
 intro M;induction M with
 |zero=>intro _;rfl|succ M ih=>
   intro h;have:=ih λm hm=>h m ω;simp only[val];cases hS:S M<;>cases hT:T M<;>simp only[this,dL,if_false,if_true]
   .rw[DJ (h M ω (by rw[hS,hT];simp))]
   .rw[DJ (h M ω (by rw[hS,hT];simp))]
theorem aBw(hi:S i=false)(hT:∀m,T m=(S m||decide (m=i))):∀M,i<M->(∀m,i<m->m<M->S m=true->∀c,gE (ts m) (Hs m) (Hs (m+1)) p (gE (ts i) (Hs i) (Hs (i+1)) p c)=gE (ts i) (Hs i) (Hs (i+1)) p (gE (ts m) (Hs m) (Hs (m+1)) p c))->val ts Hs T p M=gE (ts i) (Hs i) (Hs (i+1)) p (val ts Hs S p M):=by
 have below:∀m,m<=i->val ts Hs T p m=val ts Hs S p m:=by
  intro m;induction m with
 |zero=>intro _;rfl|succ m ih=>
    intro h;have e:T m=S m:=by rw[hT];simp;omega
    simp only[val,ih ω,e]
 intro M;induction M with
 |zero=>intro h;omega|succ M ih=>
   intro hM hc;rcases cX i M with h|h
   .have:=ih h λm h1 h2=>hc m h1 ω;have e:T M=S M:=by rw[hT];simp;omega
    simp only[val,e,this];cases hS:S M
    .simp
    .simp only[if_true];exact hc M h ω hS _
   .obtain rfl:M=i:=ω
    have e:T M=true:=by rw[hT];simp
    simp only[val,e,hi,if_true,below M (aB _)];simp
end aBx
variable {H:AH}
theorem O4(hl:H.length=H'.length)(h:∀p,hg H p=hg H' p):H=H':=by
 apply List.ext_getElem hl;intro i h1 h2;have:=h i;simpa[hg,bX,h1,h2]using this
end Go.Am
namespace Go.Am
variable {P:Program}{aa:ja}{N:Nat}{w0:World}{M:Fx}
variable {ρ:Ro}{w:World}{H H':AH}
theorem HR.cast(h:HR ρ w H)(zV:∀p,hg H' p=hg H p)(hf:∀p,H'.length<=p->ρ p=none):HR ρ w H':=⟨λi=>by rw[zV];exact h.obj i,λi j Li Lj h1 h2 h3 h4 h5=>by rw[zV]at h2 h5;exact h.sep i j Li Lj h1 h2 h3 h4 h5,hf⟩
theorem St.cast{fr:Fr}{H H':AH}{a:Act}{w:World}(h:St N w0 M ρ fr H a w)(zV:∀p,hg H' p=hg H p)(hf:∀p,H'.length<=p->ρ p=none):St N w0 M ρ fr H' a w:=⟨h.fr,h.sz,h.df,h.hr.cast zV hf,h.kp,λi L h1=>by rw[zV]at h1;exact h.ow i L h1,h.st⟩
variable {l:List Sc}
theorem HR.NL{c:List Value}(h:HR ρ w H)(hl:L2 (b6 ρ) l c)(t:Nat)(o:ae)(L:Loc)(id:Nat)(iO:id<H.length)(hd:hg H id=.dead)(hr:ρ id=none)(hb:L.dW=w.heap.size)(jx:L.off=0)(fh:L.nil=false)(nF:L.row=o.row)(ho:(o=.own l/\L.vec=false)\/(∃sz,o=.vec sz l/\L.vec=true/\0<sz/\L.cap*sz=c.length)):HR (iB ρ id L) (w.alloc (.cells c.toArray t)) (H.set id o)/\ib ρ (iB ρ id L):=by
 have ew:ib ρ (iB ρ id L):=by
  intro i Li hi;have:i≠id:=by rintro rfl;rw[hr]at hi;simp at hi
  exact⟨Li,by rw[fN _ _ this,hi],.inl rfl⟩
 have FW:L2 (b6 (iB ρ id L)) l c:=hl.mono λ_ _ h=>h.mono ew;refine⟨⟨?_,?_,?_⟩,ew⟩
 .intro i;rw[qP _ _ _ _ iO];split
  .subst_vars;rcases ho with⟨rfl,hv⟩|⟨sz,rfl,hv,cO,sB⟩
   .exact⟨L,c,t,iZ _ _ _,jx,nF,fh,hv,by rw[hb];exact Cl _ _,FW⟩
   .refine⟨L,iZ _ _ _,jx,nF,hv,cO,?_⟩;rw[if_neg (by simp[fh])];exact⟨c,[],t,by rw[hb];simpa using Cl w _,by simpa using sB,FW⟩
  .rename_i cZ;refine(h.obj i).dj ew (fN _ _ cZ) (λLi hi hn FX=>?_) (by simp);exact A3 _ _ _ ((h.obj i).ym hi hn FX)
 .intro i j Li Lj pI cV cF iH fz iF pJ;rw[qP _ _ _ _ iO]at cV fz;by_cases h1:i=id
  .subst h1;rw[iZ]at cF;simp at cF;subst cF;have h2:j≠i:=λe=>pI e.symm;rw[if_neg h2]at fz;rw[fN _ _ h2]at iF;have:=(h.obj j).ym iF pJ fz;omega
  .rw[if_neg h1]at cV;rw[fN _ _ h1]at cF;by_cases h2:j=id
   .subst h2;rw[iZ]at iF;simp at iF;subst iF;have:=(h.obj i).ym cF iH (ae.ou cV);omega
   .rw[if_neg h2]at fz;rw[fN _ _ h2]at iF;exact h.sep i j Li Lj pI cV cF iH fz iF pJ
 .intro i hi;simp at hi;rw[fN _ _ ω];exact h.fresh i ω
theorem jl.NL{c:List Value}(h:HR ρ w H)(hl:L2 (b6 ρ) l c)(t:Nat)(o:ae)(L:Loc)(id:Nat)(iO:id<H.length)(hd:hg H id=.dead)(hr:ρ id=none)(hb:L.dW=w.heap.size)(jx:L.off=0)(fh:L.nil=false)(nF:L.row=o.row)(ho:(o=.own l/\L.vec=false)\/(∃sz,o=.vec sz l/\L.vec=true/\0<sz/\L.cap*sz=c.length)):jl ρ w H (w.alloc (.cells c.toArray t)) (iB ρ id L) (H.set id o):=by
 obtain⟨h1,h2⟩:=h.NL hl t o L id iO hd hr hb jx fh nF ho;refine⟨h1,h2,λw0 M hk hm=>⟨hk.alloc _ _,λi Li cV cF iH=>?_⟩,by simp,λi Li _ cF=>?_⟩
 .by_cases e:i=id
  .subst e;rw[iZ]at cF;simp at cF;subst cF;exact .inr (by rw[hb];exact hk.size)
  .rw[fN _ _ e]at cF;rw[qP _ _ _ _ iO,if_neg e]at cV;exact hm i Li cV cF iH
 .have:i≠id:=by rintro rfl;rw[hr]at cF;simp at cF
  rw[fN _ _ this,cF]
structure RX(ρ:Ro)(w:World)(H:AH)(id:Nat):Prop where
 hr:HR ρ w H
 lt:id<H.length
 dead:hg H id=.dead
 none:ρ id=none
theorem adV{w:World}{H:AH}{id:Nat}(h:RX ρ w H id){l:List Sc}{c:List Value}(hl:L2 (b6 ρ) l c)(t:Nat):jl ρ w H (w.alloc (.cells c.toArray t)) (iB ρ id ⟨w.heap.size,0,0,0,false,false⟩) (H.set id (.own l))/\aZ (iB ρ id ⟨w.heap.size,0,0,0,false,false⟩) (.c (.p id 0 0)) (.pointer (some ⟨w.heap.size,0,none⟩)):=⟨jl.NL h.hr hl t _ _ id h.lt h.dead h.none rfl rfl rfl rfl (.inl ⟨rfl,rfl⟩),⟨_,_,iZ _ _ _,rfl,aB _,λ_=>⟨rfl,by simp,rfl⟩⟩⟩
theorem YO{w:World}{H:AH}{id:Nat}(h:RX ρ w H id){l:List Sc}{c:List Value}(hl:L2 (b6 ρ) l c)(t sz n:Nat)(cO:0<sz)(hn:n*sz=c.length)(FZ:n<=9223372036854775807):jl ρ w H (w.alloc (.cells c.toArray t)) (iB ρ id ⟨w.heap.size,0,n,l.length,false,true⟩) (H.set id (.vec sz l))/\aZ (iB ρ id ⟨w.heap.size,0,n,l.length,false,true⟩) (.c (.sl id 0 l.length n)) (.slice (some ⟨w.heap.size,0,none⟩) n n):=by
 refine⟨jl.NL h.hr hl t _ _ id h.lt h.dead h.none rfl rfl rfl rfl (.inr ⟨sz,rfl,rfl,cO,hn⟩),_,_,_,iZ _ _ _,rfl,by simp,aB _,FZ,aB _,λ_=>?_⟩;rw[if_neg (by simp)];refine⟨_,rfl,λ_=>rfl,λ_ _=>aB _,λh0 _=>?_⟩;show 0<l.length;rw[hl.length,<-hn];exact Cf h0 cO
theorem aqJ{ρ:Ro}{o:Oper}{a:Act}{H0 H H':AH}{vs:List AV}{v:AV}{w:World}(hk:cC P aa o.op vs=.mk)(h:jH P o.op vs H0=some (v,H'))(hv:L2 (aZ ρ) vs ((bI o.op).map a.eval))(hH:RX ρ w H H0.length):∃ob,H'=H0++[ob]/\∃w' L,jl ρ w H w' (iB ρ H0.length L) (H.set H0.length ob)/\∃vc,(execOp a.eval o).run P w=.ok (.value vc) w'/\aZ (iB ρ H0.length L) v vc:=by
 obtain⟨dst,op,ty,pos,after,guard⟩:=o;simp only at h hv hk;have fin:∀(s:Sem Value)(ob:ae),(∃w' L vc,jl ρ w H w' (iB ρ H0.length L) (H.set H0.length ob)/\s.run P w=.ok vc w'/\aZ (iB ρ H0.length L) v vc)->∃w' L,jl ρ w H w' (iB ρ H0.length L) (H.set H0.length ob)/\∃vc,(do pure (.value (<-s)):Sem Next).run P w=.ok (.value vc) w'/\aZ (iB ρ H0.length L) v vc:=by
  rintro s ob⟨w',L,vc,h1,h2,h3⟩;exact⟨w',L,h1,vc,by simp[h2],h3⟩
 unfold jH at h;split at h
 .rename_i t;split at h<;>simp at h;rename_i z hz;obtain⟨rfl,rfl⟩:=h;obtain⟨zv,zc,h1,h2,h3⟩:=Cb (ρ:=ρ) hz w;obtain⟨h4,h5⟩:=adV hH h3 t;refine⟨_,rfl,fin _ _ ⟨_,_,_,h4,?_,h5⟩⟩;simp only[Instr.alloc,dg,h1,c9,newVar,newRow,h2,run_newObj,fF];rfl
 .rename_i t x ax;split at h<;>simp at h;rename_i l hc;obtain⟨rfl,rfl⟩:=h;obtain⟨y,hy,h1⟩:=hv.one;simp only[bI,gz,jf,cL,and_true]at hy;subst hy;obtain⟨cs,h2,h3,_⟩:=h1.cells hc;obtain⟨h4,h5⟩:=adV hH h3 t;refine⟨_,rfl,fin _ _ ⟨_,_,_,h4,?_,h5⟩⟩;simp only[Instr.box,newVar,newRow,h2,dg,run_newObj,c9,fF];rfl
 .rename_i t len ps;split at h<;>try(simp at h;done)
  rename_i e hd;have hu:=mY hd;split at h<;>try(simp at h;done)
  rename_i z hz;split at h
  .rename_i hc;obtain⟨cO,hl,CD,qS⟩:=hc;split at h<;>simp at h;rename_i cs hf;obtain⟨rfl,rfl⟩:=h;obtain⟨zv,zc,h1,h2,h3⟩:=Cb (ρ:=ρ) hz w;obtain⟨rc,h4,h5⟩:=Oz _ _ _ (agP ps hv) _ _ _ (h3.rep len) hf;have hlen:len*av P e=rc.length:=by rw[<-h5.length,abl _ _ _ _ hf];simp[qS]
   obtain⟨h6,h7⟩:=YO hH h5 e (av P e) len cO hlen (by have:len<=len*av P e:=Nat.le_mul_of_pos_right _ cO;omega);refine⟨_,rfl,fin _ _ ⟨_,_,_,h6,?_,h7⟩⟩;have uA:zc.length=av P e:=by rw[<-h3.length,qS]
   have cZ:¬len*av P e=0:=by have:=Cf hl cO;omega
   have Ud:¬len*av P e>2^24:=ω
   simp only[Instr.buildSlice,dg,run_underlying hu,c9,mW cO,Ud,if_false,cZ,fF,h1,h2,Ml len _ uA];simp only[Array.toList_map]at h4|-;rw[h4];simp only[newRow,dg,run_newObj,c9,fF];rfl
  .split at h<;>simp at h;rename_i hc;obtain⟨cO,rfl,sF⟩:=hc;obtain⟨rfl,rfl⟩:=h;obtain rfl:ps=#[]:=Array.eq_empty_of_size_eq_zero sF;obtain⟨h6,h7⟩:=YO hH (l:=[]) (c:=[]) .nil e (av P e) 0 cO (by simp) ω;refine⟨_,rfl,fin _ _ ⟨_,_,_,h6,?_,h7⟩⟩;have e0:Array.range 0=#[]:=by apply qK;simp
   simp[Instr.buildSlice,run_underlying hu,mW cO,Instr.fill,newRow,e0]
 .rename_i t x y l c;split at h<;>try(simp at h;done)
  rename_i e hd;have hu:=mY hd;split at h<;>try(simp at h;done)
  rename_i z hz;split at h<;>simp at h;rename_i hc;obtain⟨rfl,h0,CD,cO,yB,qS⟩:=hc;obtain⟨rfl,rfl⟩:=h;obtain⟨cx,cy,hx,h1,h2⟩:=hv.two;simp only[bI,gz,jf,cL,and_true]at hx;obtain⟨rfl,rfl⟩:=hx;obtain⟨h1,_⟩:=h1;obtain⟨h2,_⟩:=h2;obtain⟨zv,zc,h3,h4,h5⟩:=Cb (ρ:=ρ) hz w;obtain⟨i,hi,Bo⟩:=Lx cO;have uA:zc.length=av P e:=by rw[<-h5.length,qS]
  have Ic:l.toNat*av P e=((bD l.toNat z).flatten).length:=by simp[qS]
  have h8:=YO hH (h5.rep l.toNat) e (av P e) l.toNat cO (by simp[uA]) ω;rw[<-Ic]at h8;obtain⟨h6,h7⟩:=h8;refine⟨_,rfl,fin _ _ ⟨_,_,_,h6,?_,h7⟩⟩;have hw:IntKind.i64.wrap l=l:=JR ω ω;have TQ:mr P e=i.bytes:=by simp[mr,hi]
  have hb:¬((i.bytes:Int)*l>2^48):=by
   rw[<-TQ];have:(mr P e:Int)*l<=1048576*1048576:=Int.mul_le_mul ω CD h0 ω;omega
  have hn:¬l<0:=ω
  have FZ:¬l>l:=ω
  have rJ:decide ((i.bytes:Int)*l>2^48)=false:=decide_eq_false hb;simp only[Instr.makeSlice,dg,run_underlying hu,c9,h1,h2,asInt,asIntOf,fF,typeInfo,run_program,hi,hw,rJ,Bool.false_or,hn,FZ,decide_false,Bool.or_self,dL,if_false,run_askRoom,mW cO];by_cases CL:l.toNat*av P e=0
  .simp only[CL,if_true,fF,c9,newRow,dg,run_newObj];have e1:(bD l.toNat zc).flatten=[]:=vG (by simp[uA,CL]);have e0:Array.range 0=#[]:=by apply qK;simp
   rw[e1,e0];simp
  .simp only[CL,if_false,dg,fF,h3,c9,h4,Ml _ _ uA,newRow,run_newObj];rfl
 .simp only[cC]at hk;unfold xW at hk;split at hk<;>simp at hk
 .simp at h
theorem aAd{ρ:Ro}{o:Oper}{a:Act}{H H':AH}{vs:List AV}{v:AV}{w:World}{id off n:Nat}(hk:cC P aa o.op vs=.st id off n)(h:jH P o.op vs H=some (v,H'))(hv:L2 (aZ ρ) vs ((bI o.op).map a.eval))(hH:HR ρ w H):(∃w',jl ρ w H w' ρ H'/\(execOp a.eval o).run P w=.ok .skip w'/\v=.c .ig)/\∃t x y ax aX l,o.op=.store t x y/\vs=[.c (.p id off aX),ax]/\ax.cells=some l/\n=av P t/\H'=H.set id ((hg H id).put (wr (hg H id).cells off l))/\(hg H id).owned=true/\aX=(hg H id).row/\l.length=av P t/\0<av P t/\off+l.length<=(hg H id).cells.length/\l.all Sc.one=true:=by
 obtain⟨dst,op,ty,pos,after,guard⟩:=o;simp only at h hv hk;have rM:∀(u:Tc),(∀a b c,u≠.st a b c)->cC P aa op vs=u->False:=by intro u hu e;rw[hk]at e;exact hu _ _ _ e.symm
 unfold jH at h;split at h
 .exact(rM .mk (by simp) rfl).elim
 .exact(rM .mk (by simp) rfl).elim
 .exact(rM .mk (by simp) rfl).elim
 .exact(rM .mk (by simp) rfl).elim
 .rename_i t x y qi Gq aX ax;simp only[cC,xW,Tc.st.injEq]at hk;obtain⟨rfl,rfl,rfl⟩:=hk;split at h<;>try(simp at h;done)
  rename_i l hl;split at h<;>simp at h;rename_i hc;obtain⟨dt,By,hlen,cO,jx,oR⟩:=hc;obtain⟨rfl,rfl⟩:=h;obtain⟨cx,cy,hx,h1,h2⟩:=hv.two;simp only[bI,gz,jf,cL,and_true]at hx;obtain⟨rfl,rfl⟩:=hx;obtain⟨cs,h3,h4,_⟩:=h2.cells hl;obtain⟨L,ad,h5,h6,h7,h8⟩:=(show kh ρ qi Gq aX _ from h1);have nF:=(hH.obj qi).row h5 (ae.ou dt);obtain⟨fh,_,rfl⟩:=h8 (by rw[nF];exact By);obtain⟨w',h9,pH⟩:=Q6 (P:=P) hH dt h5 fh h4 jx oR ω;refine⟨⟨w',pH,?_,rfl⟩,t,x,y,ax,aX,l,rfl,rfl,hl,rfl,rfl,dt,By,hlen,cO,jx,oR⟩;have cu:cs.toArray.size=av P t:=by simp[<-h4.length,hlen]
  simp only[execOp,dg,Instr.storeAt,h6,Instr.sureAddr,fF,c9,storeVar,mW cO,h3,cu,ne_eq,not_true_eq_false,if_false,h9]
 .simp at h
end Go.Am
namespace Go.Am
variable {P:Program}{aa:ja}{N:Nat}{w0:World}{M:Fx}
variable {op:Op}{vs:List AV}{H H':AH}{v:AV}
theorem Tk(h:jH P op vs H=some (v,H')):cC P aa op vs=.mk\/∃a b c,cC P aa op vs=.st a b c:=by
 unfold jH at h;split at h
 .exact .inl rfl
 .exact .inl rfl
 .exact .inl rfl
 .exact .inl rfl
 .exact .inr ⟨_,_,_,rfl⟩
 .simp at h
theorem ab4 {op : Op} {vs : List AV} (h : tU op vs = true) : cC P aa op vs = .jg := by
  unfold tU at h
  split at h <;> first | rfl | simp at h
theorem ZI(h:cU P aa op vs H=some (v,H'))(hk:cC P aa op vs=.no):H'=H/\∀H2,cU P aa op vs H2=some (v,H2):=by
 unfold cU at h;split at h
 .rename_i f as ts fn cs args;simp only[cC,Dg]at hk;split at hk<;>simp at hk;rename_i s hl;simp only[A8,hl,eE,bE]at h;obtain⟨x,h1,rfl,rfl⟩:=h;exact⟨rfl,λH2=>by simp[cU,A8,hl,h1]⟩
 .simp at h
 .simp[cC,qk]at hk
 .simp[cC,sS]at hk
 .simp[cC,sS]at hk
 .split at h
  .rename_i hm;rw[ab4 hm]at hk;simp at hk
  rename_i hm;split at h
  .rename_i v' hq;simp at h;obtain⟨rfl,rfl⟩:=h;refine⟨rfl,λH2=>?_⟩;have ht:uP op vs=[]:=by
    unfold uP;split
    .simp[cC,ER]at hk;split at hk<;>simp at hk
    .simp[cC,xW]at hk;split at hk<;>simp at hk
    .simp[cC,qk]at hk
    .simp[cC,qk]at hk
    .simp[cC,qk]at hk
    .rfl
   rw[ht]at hq;unfold cU;split
   .exfalso;simp_all
   .exfalso;simp_all
   .simp[cC,qk]at hk
   .simp[cC,sS]at hk
   .simp[cC,sS]at hk
   .rw[if_neg hm,ht,jf];simp only[jf]at hq;rw[hq]
  .rcases Tk (aa:=aa) h with e|⟨a,b,c,e⟩<;>rw[hk]at e<;>simp at e
variable {cs:List Sc}{off n:Nat}
theorem awz{ag:Bool}{ds:List Sc}(hl:cs.length=ds.length)(h:∀k,off<=k->k<off+n->cs.getD k .any=ds.getD k .any)(hn:0<n):rd ag cs off n=rd ag ds off n:=by
 unfold rd;split
 .congr 1;apply List.ext_getElem (by simp[hl]);intro i h1 h2;simp at h1 h2;have:=h (off+i) ω ω;simp only[bX]at this;rw[cP ω,cP ω]at this;simpa using this
 .rw[h off ω ω]
theorem ZH{op:Op}{vs:List AV}{H H':AH}{v:AV}{id off n:Nat}(h:cU P aa op vs H=some (v,H'))(hk:cC P aa op vs=.ld id off n):H'=H/\id<H.length/\(∃aX,vs=[.c (.p id off aX)])/\∀H2,(hg H2 id).hd=(hg H id).hd->(∀k,off<=k->k<off+n->(hg H2 id).cells.getD k .any=(hg H id).cells.getD k .any)->cU P aa op vs H2=some (v,H2):=by
 obtain⟨t,x,rfl⟩:∃t x,op=.load t x:=by
  unfold cC at hk;split at hk
  .exact⟨_,_,rfl⟩
  .unfold xW at hk;split at hk<;>simp at hk
  .simp at hk
  .simp at hk
  .simp at hk
  .simp at hk
  .unfold Dg at hk;split at hk<;>(try split at hk)<;>simp at hk
  .unfold sS at hk;split at hk<;>simp at hk
  .unfold uO at hk;split at hk<;>simp at hk
  .split at hk<;>simp at hk
 simp only[cC,ER]at hk;split at hk<;>simp at hk;rename_i qi Gq aX;obtain⟨rfl,rfl,rfl⟩:=hk;simp only[cU,tU,dL,if_false,uP,gz,jf,jc]at h;split at h
 .rename_i v' hq;simp at h;obtain⟨rfl,rfl⟩:=h;split at hq<;>simp at hq;rename_i hc;subst hq;have aG:qi<H.length:=by
   apply eu;cases hh:hg H qi with
 |dead=>rw[hh]at hc;simp[ae.cells]at hc;omega|_=>rfl
  refine⟨rfl,aG,⟨_,rfl⟩,λH2 h1 h2=>?_⟩;obtain⟨r1,r2,_,_⟩:=ae.O2 h1;simp only[cU,tU,dL,if_false,uP,gz,jf,jc];rw[if_pos (by rw[r1,r2];exact hc),awz r2 h2 hc.2.2.1]
 .simp[jH]at h
theorem Yy{op:Op}{H H':AH}{vs:List AV}{v:AV}{id off n:Nat}(hk:cC P aa op vs=.st id off n)(h:jH P op vs H=some (v,H')):∃t x y ax aX l,op=.store t x y/\vs=[.c (.p id off aX),ax]/\ax.cells=some l/\n=av P t/\v=.c .ig/\H'=H.set id ((hg H id).put (wr (hg H id).cells off l))/\(hg H id).owned=true/\aX=(hg H id).row/\l.length=av P t/\0<av P t/\off+l.length<=(hg H id).cells.length/\l.all Sc.one=true:=by
 unfold jH at h;split at h
 .simp[cC]at hk
 .simp[cC]at hk
 .simp[cC]at hk
 .simp[cC]at hk
 .rename_i t x y qi Gq aX ax;simp only[cC,xW,Tc.st.injEq]at hk;obtain⟨rfl,rfl,rfl⟩:=hk;split at h<;>try(simp at h;done)
  rename_i l hl;split at h<;>simp at h;rename_i hc;obtain⟨dt,By,hlen,cO,jx,oR⟩:=hc;obtain⟨rfl,rfl⟩:=h;exact⟨t,x,y,ax,aX,l,rfl,rfl,hl,rfl,rfl,rfl,dt,By,hlen,cO,jx,oR⟩
 .simp at h
theorem Hx(hk:cC P aa op vs=.mk\/∃a b c,cC P aa op vs=.st a b c)(H2:AH):cU P aa op vs H2=jH P op vs H2:=by
 unfold cC at hk;split at hk
 .unfold ER at hk;split at hk<;>simp at hk
 .simp only[cU,tU,dL,if_false,jc]
 .simp only[cU,tU,dL,if_false,jc]
 .simp only[cU,tU,dL,if_false,jc]
 .simp only[cU,tU,dL,if_false,jc]
 .simp only[cU,tU,dL,if_false,jc]
 .unfold Dg at hk;split at hk<;>(try split at hk)<;>simp at hk
 .unfold sS at hk;split at hk<;>simp at hk
 .unfold uO at hk;split at hk<;>simp at hk
 .split at hk<;>simp at hk
variable {ts:Array TypeId}
theorem aid(h:Ff P ts vs H=some (v,H')):H.length<=H'.length:=by
 unfold Ff at h;split at h<;>try(simp at h;done)
 split at h<;>try(simp at h;done)
 split at h<;>try(simp at h;done)
 split at h<;>try(simp at h;done)
 split at h
 .split at h<;>try(simp at h;done)
  split at h<;>simp at h;obtain⟨_,rfl⟩:=h;simp
 .split at h<;>simp at h;obtain⟨_,rfl⟩:=h;simp
 .simp at h
theorem ams(h:jH P op vs H=some (v,H')):H.length<=H'.length:=by
 rcases Tk (aa:=[]) h with hk|⟨a,b,c,hk⟩
 .unfold jH at h;split at h
  .split at h<;>simp at h;obtain⟨_,rfl⟩:=h;simp
  .split at h<;>simp at h;obtain⟨_,rfl⟩:=h;simp
  .split at h<;>try(simp at h;done)
   split at h<;>try(simp at h;done)
   split at h
   .split at h<;>simp at h;obtain⟨_,rfl⟩:=h;simp
   .split at h<;>simp at h;obtain⟨_,rfl⟩:=h;simp
  .split at h<;>try(simp at h;done)
   split at h<;>try(simp at h;done)
   split at h<;>simp at h;obtain⟨_,rfl⟩:=h;simp
  .simp only[cC,xW]at hk;simp at hk
  .simp at h
 .obtain⟨_,_,_,_,_,_,_,_,_,_,_,rfl,_⟩:=Yy hk h;simp
theorem aiT(ht:jC P aa)(h:cU P aa op vs H=some (v,H')):H.length<=H'.length:=by
 unfold cU at h;split at h
 .unfold A8 at h;split at h
  .simp only[eE,bE]at h;obtain⟨_,_,_,rfl⟩:=h;exact aB _
  .rename_i s hl;exact(ht _ _ hl).len _ _ _ _ h
  .simp only[eE,bE]at h;obtain⟨_,_,_,rfl⟩:=h;exact aB _
  .simp at h
 .simp at h
 .exact aid h
 .rw[eE]at h;obtain⟨_,_,h2⟩:=h;simp only[bE]at h2;rw[h2.2];exact aB _
 .rw[eE]at h;obtain⟨_,_,h2⟩:=h;simp only[bE]at h2;rw[h2.2];exact aB _
 .split at h
  .exact aqM h
  split at h
  .simp at h;rw[<-h.2];exact aB _
  .exact ams h
theorem ZJ(h:cU P aa op vs H=some (v,H'))(hk:cC P aa op vs=.rd):H'=H:=by
 unfold cC at hk;split at hk
 .unfold ER at hk;split at hk<;>simp at hk
 .unfold xW at hk;split at hk<;>simp at hk
 .simp at hk
 .simp at hk
 .simp at hk
 .simp at hk
 .unfold Dg at hk;split at hk
  .split at hk<;>try(simp at hk;done)
   rename_i hl;simp only[cU,A8,hl,eE,bE]at h;obtain⟨_,_,_,rfl⟩:=h;rfl
  .simp at hk
 .unfold sS at hk;split at hk<;>simp at hk
 .unfold uO at hk;split at hk<;>simp at hk
 .split at hk<;>simp at hk
theorem adQ{o:Oper}{v:AV}{ρ:Ro}{fr:Fr}{H H':AH}{a:Act}{w:World}{K:Act->World->Prop}{Q:Exit->Act->World->Prop}(ht:jC P aa)(hs:St N w0 M ρ fr H a w)(hd:yp N o.dst=true)(hk:cC P aa o.op ((bI o.op).map (ev fr))=.no\/∃i b n,cC P aa o.op ((bI o.op).map (ev fr))=.ld i b n)(h:cU P aa o.op ((bI o.op).map (ev fr)) H=some (v,H'))(hK:∀a' w',St N w0 M ρ (iQ o.dst v fr) H a' w'->K a' w'):o.wp P a w K Q:=by
 have hv:=IM hs (bI o.op);unfold cU at h;split at h
 .rename_i op _ f as ts fn cs args jE lN;rw[jE]at lN hv;have qQ:look aa fn=none\/∃s,look aa fn=some (.pu s):=by
   rw[jE]at hk;simp only[lN,cC,Dg]at hk;split at hk
   .rename_i s hl;exact .inr ⟨s,hl⟩
   .simp at hk
   .simp at hk
  simp only[bI,gz,cL]at lN hv;obtain⟨hf,b9⟩:=lN;have hfr:=HQ hs.fr f;rw[hf]at hfr;obtain⟨cv,hcv,hcr⟩:=hfr;cases hv with|cons _ hv=>
    rcases qQ with hl|⟨s,hl⟩
    .simp[A8,hl]at h
    .simp only[A8,hl,eE,bE]at h;obtain⟨v',h1,rfl,rfl⟩:=h;obtain⟨hen,hpu⟩:=ht fn _ hl;have hrel:L2 (aZ ρ) (args++cs.map A9) (as.toList.map a.eval++cv):=by rw[<-b9];exact hv.app (Kr hcr)
     have yD:=hpu _ _ h1 ρ w _ hrel;have xD:(execOp a.eval o).run P w=.ok (.enter fn (as.toList.map a.eval++cv).toArray) w:=by
      have e1:#[]++as.map a.eval++cv.toArray=(as.toList.map a.eval++cv).toArray:=by apply qK;simp
      simp only[execOp,jE,resolve,hcv,Deferred.ofValue,dg,fF,c9,invoke];rw[e1];exact hen _ _
     simp only[Oper.wp,xD,Oper.upon];refine yD.mono ?_;rintro e w'⟨vc,rfl,h3,h4⟩;exact hK _ _ ((hs.HN (jl.quiet hs.hr h4)).put hd (h3 ρ))
 .simp at h
 .rename_i jE;exfalso;rw[jE]at hk;simp[cC,qk]at hk
 .rename_i jE lN;exfalso;rw[jE]at hk lN;rw[lN]at hk;simp[cC,sS]at hk
 .rename_i jE lN;exfalso;rw[jE]at hk lN;rw[lN]at hk;simp[cC,sS]at hk
 .split at h
  .rename_i hm;exfalso;rw[ab4 hm]at hk;simp at hk
  split at h
  .rename_i v' hq;simp at h;obtain⟨rfl,rfl⟩:=h;obtain⟨vc,h1,h2⟩:=aeJ (o:=o) hq hv (λi=>hs.hr.obj i);simp only[Oper.wp,h1,Oper.upon];exact hK _ _ (hs.put hd h2)
  .exfalso;rcases Tk (aa:=aa) h with e|⟨b,c,d,e⟩<;>rw[e]at hk<;>simp at hk
end Go.Am
namespace Go.Am
variable {P:Program}{aa:ja}{N:Nat}{w0:World}{M:Fx}
def looks(full:Array Oper)(o:Oper):List Nat:=(bI o.op).filterMap Yr++(match o.guard with|some (j,_)=>(kr full j).toList|none=>[])
def HM(full:Array Oper)(i j:Nat):Bool:=match full[i]? with|some o=>o.after.any λe=>e.on==j&&Region.binds .any e|none=>false
def vR(full:Array Oper):Bool:=let n:=full.size;(pj n).all λi=>match full[i]? with
 |none=>false|some o=>o.after.all (λe=>!Region.binds .any e||decide (e.on<i))&&(pj n).all λj=>match kr full j with|none=>true|some d=>(i==j||o.dst !=some d)&&(!(looks full o).contains d||(i !=j&&(if j<i then HM full i j else HM full j i)))
variable {fr fm:Fr}{x:Operand}
theorem amV(h:∀t,Yr x=some t->Am.get fm t=Am.get fr t):ev fm x=ev fr x:=by cases x with|tmp t=>exact h t rfl|_=>rfl
inductive Gv(P:Program)(aa:ja)(full:Array Oper)(o:Oper)(fr:Fr)(H:AH):AV->AH->Tc->Prop|go(v:AV)(H':AH)(hg:o.guard=none\/∃j q,o.guard=some (j,q)/\xz full fr j=some (some q))(h:cU P aa o.op ((bI o.op).map (ev fr)) H=some (v,H')):Gv P aa full o fr H v H' (nN (cC P aa o.op ((bI o.op).map (ev fr))) H H')|no(j:Nat)(q:Bool)(r:Option Bool)(hg:o.guard=some (j,q))(hw:xz full fr j=some r)(cZ:r≠some q):Gv P aa full o fr H (.c .ig) H .no
variable {full:Array Oper}{o:Oper}
theorem acE(ha:∀t∈looks full o,Am.get fm t=Am.get fr t):(bI o.op).map (ev fm)=(bI o.op).map (ev fr):=by
 apply NB;intro x hx;refine amV λt ht=>ha t ?_;simp only[looks,wY,List.mem_filterMap];exact .inl ⟨x,hx,ht⟩
theorem U3(ha:∀t∈looks full o,Am.get fm t=Am.get fr t)(j:Nat)(q:Bool)(hj:o.guard=some (j,q)):xz full fm j=xz full fr j:=by
 unfold xz;cases hd:(full[j]?).bind (·.dst)with|none=>rfl|some d=>
   have:d∈looks full o:=by
    simp only[looks,wY,hj];right;simp[kr,hd]
   simp only[ha d this]
variable {H H':AH}{v:AV}
theorem ag3{t:Tc}(ht:jC P aa)(h:Gv P aa full o fr H v H' t):H.length<=H'.length:=by cases h with|go _ _ _ h=>exact aiT ht h|no=>exact aB _
theorem Zg{t:Tc}(h:Gv P aa full o fr H v H' t)(hq:t.quiet=true):H'=H:=by cases h with
 |no=>rfl|go _ _ _ h=>
   generalize hk:cC P aa o.op ((bI o.op).map (ev fr))=t at hq;cases t<;>simp[nN,Tc.quiet]at hq
   .exact(ZI h hk).1
   .exact(ZH h hk).1
   .exact ZJ h hk
variable {op:Op}{vs:List AV}{A B:AH}
theorem aAX(h:cC P aa op vs=.cl A B):False:=by
 unfold cC ER xW Dg at h;split at h
 .split at h<;>simp at h
 .split at h<;>simp at h
 .simp at h
 .simp at h
 .simp at h
 .simp at h
 .split at h
  .split at h<;>simp at h
  .simp at h
 .unfold sS at h;split at h<;>simp at h
 .unfold uO at h;split at h<;>simp at h
 .split at h<;>simp at h
theorem YF{t:Tc}(h:nN t H H'=.mk):t=.mk:=by cases t<;>simp[nN]at h<;>rfl
variable {a b c:Nat}
theorem aAY{t:Tc}(h:nN t H H'=.st a b c):t=.st a b c:=by
 cases t<;>simp[nN]at h;obtain⟨rfl,rfl,rfl⟩:=h;rfl
theorem Ze(h:Gv P aa full o fr H v H' (.cl A B)):H=A/\H'=B:=by
 generalize ht:Tc.cl A B=t at h;cases h with
 |no=>simp at ht|go _ _ _ h=>
   cases hk:cC P aa o.op ((bI o.op).map (ev fr))<;>rw[hk]at ht<;>simp[nN]at ht
   .exact⟨ht.1.symm,ht.2.symm⟩
   .exact⟨ht.1.symm,ht.2.symm⟩
theorem Zf(h:Gv P aa full o fr H v H' .mk):∃ob,H'=H++[ob]:=by
 generalize ht:Tc.mk=t at h;cases h with
 |no=>simp at ht|go _ _ _ h=>
   have hk:=YF ht.symm;rw[Hx (.inl hk)]at h;unfold jH at h;split at h
   .split at h<;>simp at h;exact⟨_,h.2.symm⟩
   .split at h<;>simp at h;exact⟨_,h.2.symm⟩
   .split at h<;>try(simp at h;done)
    split at h<;>try(simp at h;done)
    split at h
    .split at h<;>simp at h;exact⟨_,h.2.symm⟩
    .split at h<;>simp at h;exact⟨_,h.2.symm⟩
   .split at h<;>try(simp at h;done)
    split at h<;>try(simp at h;done)
    split at h<;>simp at h;exact⟨_,h.2.symm⟩
   .rename_i jE lN;rw[lN,jE]at hk;simp[cC,xW]at hk
   .simp at h
theorem Wf{o:ae}{off:Nat}{l:List Sc}(ho:o.owned=true)(hl:off+l.length<=o.cells.length):(o.put (wr o.cells off l)).cells=wr o.cells off l:=by
 cases o
 .rfl
 .rfl
 .simp[ae.owned]at ho
 .simp only[ae.cells,fa]at hl;have:l=[]:=vG ω;subst this;simp[ae.put,ae.cells,wr]
 .simp only[ae.cells,fa]at hl;have:l=[]:=vG ω;subst this;simp[ae.put,ae.cells,wr]
 .simp[ae.owned]at ho
theorem awr{o:ae}{cs:List Sc}(ho:o.owned=true)(hl:cs.length=o.cells.length):(o.put cs).hd=o.hd:=by
 cases o
 .show(0,0,cs.length,_)=_;rw[hl];rfl
 .show(1,_,cs.length,_)=_;rw[hl];rfl
 .simp[ae.owned]at ho
 .rfl
 .rfl
 .simp[ae.owned]at ho
theorem aed{o:ae}{off n:Nat}{l src:List Sc}(ho:o.owned=true)(hn:l.length=n)(hl:off+l.length<=o.cells.length)(DV:∀k,off<=k->k<off+n->src.getD k .any=l.getD (k-off) .any):o.put (wr o.cells off l)=o.on (ov off n src):=by
 refine ae.ext ?_ λk=>?_
 .rw[IK];exact awr ho (aBW hl)
 .have e:=Wf ho hl;rw[e,Y0 hl,L4,hn];by_cases c:off<=k/\k<off+n
  .rw[if_pos c,if_pos ⟨ω,c⟩,DV k c.1 c.2]
  .rw[if_neg c,if_neg (λh=>c h.2)]
theorem Zh{full:Array Oper}{o:Oper}{fr:Fr}{H H':AH}{v:AV}{id off n:Nat}(h:Gv P aa full o fr H v H' (.st id off n)):∃t x y ax aX l,o.op=.store t x y/\(bI o.op).map (ev fr)=[.c (.p id off aX),ax]/\ax.cells=some l/\n=av P t/\v=.c .ig/\H'=H.set id ((hg H id).put (wr (hg H id).cells off l))/\(hg H id).owned=true/\aX=(hg H id).row/\l.length=av P t/\0<av P t/\off+l.length<=(hg H id).cells.length/\l.all Sc.one=true:=by
 generalize ht:Tc.st id off n=t at h;cases h with|no=>simp at ht|go _ _ _ h=>have hk:=aAY ht.symm;rw[Hx (.inr ⟨_,_,_,hk⟩)]at h;exact Yy hk h
theorem ag5{t:Tc}(h:Gv P aa full o fr H v H' t)(p:Nat):hg H' p=gE t H H' p (hg H p):=by cases hq:t.quiet with|true=>rw[DJ hq,Zg h hq]|false=>
   cases t<;>simp[Tc.quiet]at hq
   .rename_i id off n;obtain⟨t,x,y,ax,aX,l,_,_,_,rfl,_,rfl,dt,_,hlen,_,jx,_⟩:=Zh h;have aG:=eu (ae.ou dt);simp only[gE];rw[qP _ _ _ _ aG,qP _ _ _ _ aG];split
    .subst_vars;rw[if_pos rfl];refine aed dt hlen jx λk h1 h2=>?_;have e:=Wf dt jx;rw[e,Y0 jx,if_pos ⟨h1,ω⟩]
    .rfl
   .obtain⟨ob,rfl⟩:=Zf h;simp only[gE];rw[qO];split
    .rfl
    .rfl
   .rfl
   .obtain⟨rfl,rfl⟩:=Ze h;simp only[gE];by_cases e:hg H' p=hg H p/\(hg H p).live=true
    .rw[if_pos e,e.1]
    .rw[if_neg e]
structure TR(P:Program)(aa:ja)(full:Array Oper)(F:Nat->Fr)(Hs:Nat->AH)(v:Nat->AV)(ts:Nat->Tc)(i0:Nat):Prop where
 step:∀m,i0<=m->m<full.size->∃o,full[m]?=some o/\Gv P aa full o (F m) (Hs m) (v m) (Hs (m+1)) (ts m)/\F (m+1)=iQ o.dst (v m) (F m)tie:∀m j,i0<=j->j<m->m<full.size->dU (ts m) (ts j)->j6 full m j (ts m) (ts j)
variable {i:Nat}
theorem ac5{t:Tc}:∀{log:List (Nat×Tc)},qY full i t log->∀j u,(j,u)∈log->dU t u->j6 full i j t u:=by
 intro log;induction log with
 |nil=>intro _ j u h;simp at h|cons x log ih=>
   obtain⟨j',u'⟩:=x;intro h j u hm hc;simp only[qY]at h;rcases uT.1 hm with e|hm
   .simp at e;obtain⟨rfl,rfl⟩:=e;exact h.1 hc
   .exact ih h.2 j u hm hc
variable {log:List (Nat×Tc)}
theorem P1{t:Tc}:(∀x∈log,x∈C2 i t log)/\(t≠.no->(i,t)∈C2 i t log):=by cases t<;>simp[C2]<;>intros<;>simp_all
variable {k:List It}{Q:Fr->AH->Prop}
theorem amf:∀(l:List Oper)(i0:Nat)(log:List (Nat×Tc))(fr:Fr)(H:AH),i0<=full.size->full.toList.drop i0=l->aK P aa (.dr full l i0 log::k) fr H Q->∃F Hs v ts,F i0=fr/\Hs i0=H/\TR P aa full F Hs v ts i0/\(∀m j u,i0<=m->m<full.size->(j,u)∈log->dU (ts m) u->j6 full m j (ts m) u)/\aK P aa k (F full.size) (Hs full.size) Q:=by
 intro l;induction l with
 |nil=>
 intro i0 log fr H hi hd h;rw[R6]at h;have:full.size<=i0:=by simpa using hd
 obtain rfl:i0=full.size:=ω
 exact⟨λ_=>fr,λ_=>H,λ_=>.c .any,λ_=>.no,rfl,rfl,⟨λm h1 h2=>ω,λm j h1 h2 h3=>ω⟩,λm j u h1 h2=>ω,h⟩|cons o l ih=>
   intro i0 log fr H hi hd h;have aG:i0<full.size:=by
    rcases cX i0 full.size with h|h
    .exact h
    .rw[List.drop_eq_nil_of_le (by simpa using h)]at hd;simp at hd
   have ho:full[i0]?=some o:=by
    have:full.toList[i0]?=some o:=by
     have:=congrArg (λl=>l[0]?) hd;simpa using this
    simpa using this
   have FQ:full.toList.drop (i0+1)=l:=by
    have:=congrArg (λl=>l.drop 1) hd;simpa[uR,zu]using this
   have main:∀v0 H1 t0 LI,Gv P aa full o fr H v0 H1 t0->(∀x∈log,x∈LI)->(t0≠.no->(i0,t0)∈LI)->(∀j u,(j,u)∈log->dU t0 u->j6 full i0 j t0 u)->aK P aa (.dr full l (i0+1) LI::k) (iQ o.dst v0 fr) H1 Q->∃F Hs v ts,F i0=fr/\Hs i0=H/\TR P aa full F Hs v ts i0/\(∀m j u,i0<=m->m<full.size->(j,u)∈log->dU (ts m) u->j6 full m j (ts m) u)/\aK P aa k (F full.size) (Hs full.size) Q:=by
    intro v0 H1 t0 LI hg Lu O7 aM h2;obtain⟨F,Hs,v,ts,e1,e2,qR,abR,T0⟩:=ih (i0+1) LI _ _ aG FQ h2;refine⟨λx=>if x=i0 then fr else F x,λx=>if x=i0 then H else Hs x,λx=>if x=i0 then v0 else v x,λx=>if x=i0 then t0 else ts x,by simp,by simp,⟨λm h1 h3=>?_,λm j h1 h3 h4 hc=>?_⟩,λm j u h1 h3 hm hc=>?_,?_⟩
    .by_cases e:m=i0
     .subst e;refine⟨o,ho,?_,?_⟩
      .simp only[if_true];rw[if_neg ω,e2];exact hg
      .simp only[if_true];rw[if_neg ω,e1]
     .obtain⟨o',g1,g2,g3⟩:=qR.step m ω h3;refine⟨o',g1,?_,?_⟩
      .simp only[if_neg e];rw[if_neg ω];exact g2
      .simp only[if_neg e];rw[if_neg ω];exact g3
    .have hm:m≠i0:=ω
     simp only[if_neg hm]at hc|-;by_cases e:j=i0
     .subst e;simp only[if_true]at hc|-;refine abR m j t0 ω h4 (O7 ?_) hc;rintro rfl;cases hh:ts m<;>rw[hh]at hc<;>simp[dU]at hc
     .simp only[if_neg e]at hc|-;exact qR.tie m j ω h3 h4 hc
    .by_cases e:m=i0
     .subst e;simp only[if_true]at hc|-;exact aM j u hm hc
     .simp only[if_neg e]at hc|-;exact abR m j u ω h3 (Lu _ hm) hc
    .simp only[if_neg (show full.size≠i0 by omega)];exact T0
   rw[NR]at h;split at h
   .rename_i hg;split at h
    .rename_i v H' h1;exact main v H' _ _ (.go v H' (.inl hg) h1) P1.1 P1.2 (ac5 h.1) h.2
    .exact h.elim
   .rename_i j want hg;split at h
    .rename_i q oO;split at h
     .rename_i e;subst e;split at h
      .rename_i v H' h1;exact main v H' _ _ (.go v H' (.inr ⟨j,q,hg,oO⟩) h1) P1.1 P1.2 (ac5 h.1) h.2
      .exact h.elim
     .rename_i e;exact main _ _ _ log (.no j want _ hg oO (by simpa using e)) (λ_ h=>h) (λh=>(h rfl).elim) (λ_ _ _ h=>by simp[dU]at h) h
    .rename_i oO;exact main _ _ _ log (.no j want _ hg oO (by simp)) (λ_ h=>h) (λh=>(h rfl).elim) (λ_ _ _ h=>by simp[dU]at h) h
    .exact h.elim
theorem agd{full:Array Oper}{S:Nat->Prop}(hS:∀j o,full[j]?=some o->S j->∀e∈o.after,Region.binds .any e=true->S e.on){m j:Nat}(h:kn full m j=true)(hm:S m):S j:=by
 have key:∀k l,(∀x∈l,S x)->∀x∈NN full k l,S x:=by
  intro k;induction k with
 |zero=>intro l hl x hx;exact hl x hx|succ k ih=>
    intro l hl x hx;simp only[NN]at hx;refine ih _ ?_ x hx;intro y hy;split at hy
    .rename_i hk;rcases wY.1 hy with hy|hy
     .have hSk:S k:=hl k (by simpa using hk);unfold ups at hy;split at hy
      .rename_i o ho;simp only[List.mem_map,List.mem_filter]at hy;obtain⟨e,⟨he,hb⟩,rfl⟩:=hy;exact hS k o ho hSk e (by simpa using he) hb
      .simp at hy
     .exact hl y hy
    .exact hl y hy
 unfold kn at h;exact key _ [m] (by simpa using hm) j (by simpa using h)
end Go.Am
namespace Go.Am
variable {P:Program}{aa:ja}{N:Nat}
def AX(full:Array Oper)(v:Nat->AV)(fr:Fr)(S:Nat->Prop)(fm:Fr):Prop:=∀s,(∀j,S j->kr full j=some s->Am.get fm s=v j)/\((∀j,S j->kr full j≠some s)->Am.get fm s=Am.get fr s)
variable {full:Array Oper}{fr fm:Fr}{S:Nat->Prop}{i:Nat}{o:Oper}
theorem AX.put{v:Nat->AV}(h:AX full v fr S fm)(hi:full[i]?=some o)(aoA:∀d,o.dst=some d->∀j,S j->kr full j≠some d):AX full v fr (λj=>S j\/j=i) (iQ o.dst (v i) fm):=by
 have hd:kr full i=o.dst:=by simp[kr,hi]
 intro s;cases ho:o.dst with
 |none=>
   simp only[iQ];refine⟨?_,λhs=>(h s).2 λj hj=>hs j (.inl hj)⟩;rintro j(hj|rfl)hs
   .exact(h s).1 j hj hs
   .rw[hd,ho]at hs;simp at hs|some d=>
   rw[ho]at hd;simp only[iQ,Am.get];constructor
   .rintro j(hj|rfl)hs
    .have:d≠s:=by rintro rfl;exact aoA d ho j hj hs
     rw[if_neg this];exact(h s).1 j hj hs
    .rw[hd]at hs;simp at hs;rw[if_pos hs]
   .intro hs;have:d≠s:=by rintro rfl;exact hs i (.inr rfl) hd
    rw[if_neg this];exact(h s).2 λj hj=>hs j (.inl hj)
theorem AX.get_eq{v:Nat->AV}{lh:Fr}{S':Nat->Prop}(h:AX full v fr S fm)(h':AX full v fr S' lh)(hS:∀j,S j↔S' j)(s:Nat):Am.get fm s=Am.get lh s:=by
 by_cases hx:∃j,S j/\kr full j=some s
 .obtain⟨j,h1,h2⟩:=hx;rw[(h s).1 j h1 h2,(h' s).1 j ((hS j).1 h1) h2]
 .have h1:∀j,S j->kr full j≠some s:=λj hj e=>hx ⟨j,hj,e⟩;rw[(h s).2 h1,(h' s).2 λj hj=>h1 j ((hS j).2 hj)]
theorem KB(h:vR full=true)(hi:full[i]?=some o):(∀e∈o.after,Region.binds .any e=true->e.on<i)/\∀j<full.size,∀d,kr full j=some d->(i≠j->o.dst≠some d)/\(d∈looks full o->i≠j/\(j<i->HM full i j=true)/\(i<j->HM full j i=true)):=by
 have aG:i<full.size:=by
  rcases cX i full.size with h|h
  .exact h
  .rw[rn h]at hi;simp at hi
 unfold vR at h;have:=cE.1 h i (by simpa using aG);rw[hi]at this;simp only[aQ]at this;obtain⟨h3,h4⟩:=this;refine⟨λe he hb=>?_,λj hj d hd=>?_⟩
 .have:=agR.1 h3 e he;simpa[hb]using this
 .have:=cE.1 h4 j (by simpa using hj);rw[hd]at this;simp only[aQ,gj,beq_iff_eq,bne_iff_ne,gY]at this;refine⟨λcZ=>?_,λhl=>?_⟩
  .rcases this.1 with h|h
   .exact(cZ h).elim
   .simpa using h
  .rcases this.2 with h|⟨h,h'⟩
   .exfalso;simp at h;exact h hl
   .refine⟨h,λxB=>?_,λpI=>?_⟩
    .rw[if_pos xB]at h';exact h'
    .rw[if_neg ω]at h';exact h'
variable {j:Nat}
theorem aa8(h:HM full i j=true):∃o,full[i]?=some o/\∃e∈o.after,e.on=j/\Region.binds .any e=true:=by
 unfold HM at h;split at h
 .rename_i o ho;obtain⟨e,he,hp⟩:=Array.any_eq_true'.1 h;simp at hp;exact⟨o,ho,e,he,hp⟩
 .simp at h
theorem akO(p q:Nat->Bool)(i:Nat)(hp:p i=true)(hq:q i=false)(h:∀j,j≠i->q j=p j):∀n,(i<n->(pj n).countP q+1=(pj n).countP p)/\(n<=i->(pj n).countP q=(pj n).countP p):=by
 intro n;induction n with
 |zero=>simp|succ n ih=>
   rw[List.range_succ,List.countP_append,List.countP_append];simp only[List.countP_cons,List.countP_nil,oF];by_cases hn:n=i
   .subst hn;rw[hp,hq,ih.2 (aB _)];simp
   .rw[h n hn];constructor
    .intro hi;have:=ih.1 ω;omega
    .intro hi;have:=ih.2 ω;omega
noncomputable def hp(ts:Nat->Tc)(Hs:Nat->AH)(S:Nat->Bool)(n:Nat):AH:=(pj (Hs n).length).map λp=>val ts Hs S p n
variable {Hs:Nat->AH}{n:Nat}
theorem uw{ts:Nat->Tc}{S:Nat->Bool}:(hp ts Hs S n).length=(Hs n).length:=by simp[hp]
structure TF(full:Array Oper)(Hs:Nat->AH)(ts:Nat->Tc):Prop where
 mono:∀m,m<full.size->(Hs m).length<=(Hs (m+1)).length
 obj:∀m,m<full.size->∀p,hg (Hs (m+1)) p=gE (ts m) (Hs m) (Hs (m+1)) p (hg (Hs m) p)LS:∀m,m<full.size->ts m=.mk->(Hs (m+1)).length=(Hs m).length+1
 st:∀m,m<full.size->∀id a n,ts m=.st id a n->id<(Hs m).length/\(Hs (m+1)).length=(Hs m).length
 quiet:∀m,m<full.size->(ts m).quiet=true->Hs (m+1)=Hs m
 cl:∀m,m<full.size->∀A B,ts m=.cl A B->Hs m=A/\Hs (m+1)=B
variable {a b p:Nat}
section facts
variable {full:Array Oper}{Hs:Nat->AH}{ts:Nat->Tc}{S:Nat->Bool}
theorem TF.lens(h:TF full Hs ts)(OY:a<=b)(hb:b<=full.size):(Hs a).length<=(Hs b).length:=by induction b with
 | zero=>obtain rfl:a=0:=ω
         exact aB _|succ b ih=>
   rcases cX a (b+1)with h'|h'
   .exact Du (ih ω ω) (h.mono b ω)
   .obtain rfl:a=b+1:=ω
    exact aB _
theorem TF.aBv(h:TF full Hs ts)(hp:(Hs full.size).length<=p):∀m,m<=full.size->val ts Hs S p m=.dead:=by
 intro m;induction m with
 |zero=>intro _;exact ur _ (Du (h.lens (fT _) (aB _)) hp)|succ m ih=>
   intro hm;have:=ih ω;have hl:=h.lens hm (aB _);simp only[val];split
   .rw[this];cases hh:ts m with
 |mk=>simp only[gE];split<;>first|rfl|exact ur _ ω
 |st id a n=>simp only[gE];split<;>rfl|jg=>exact ur _ ω|cl A B=>
 simp only[gE];split
 .rfl
 .obtain⟨e1,e2⟩:=h.cl m ω A B hh;subst e1;subst e2;exact ur _ ω|_=>rfl
   .exact this
theorem TF.rL(h:TF full Hs ts)(p:Nat):hg (hp ts Hs S full.size) p=val ts Hs S p full.size:=by
 rcases cX p (Hs full.size).length with h'|h'
 .unfold hg hp;simp[bX,h']
 .rw[ur _ (by rw[uw];exact h'),h.aBv h' _ (aB _)]
theorem TF.Np(h:TF full Hs ts)(p:Nat):∀m,m<=full.size->val ts Hs (λj=>decide (j<i)) p m=hg (Hs (min i m)) p:=by
 intro m;induction m with
 |zero=>intro _;simp[val]|succ m ih=>
   intro hm;simp only[val,ih ω,decide_eq_true_eq];split
   .rename_i aG;rw[Nat.min_eq_right ω,Nat.min_eq_right ω,<-h.obj m ω]
   .rename_i oN;rw[ye ω,ye ω]
end facts
theorem aox{o:ae}(h:o.hd=ae.dead.hd):o=.dead:=by cases o<;>simp[ae.hd]at h<;>rfl
theorem TR.tf{F:Nat->Fr}{v:Nat->AV}{ts:Nat->Tc}(ht:jC P aa)(h:TR P aa full F Hs v ts 0):TF full Hs ts:=by
 refine⟨λm hm=>?_,λm hm p=>?_,λm hm e=>?_,λm hm id a n e=>?_,λm hm e=>?_,λm hm A B e=>?_⟩
 .obtain⟨o,_,h2,_⟩:=h.step m (fT _) hm;exact ag3 ht h2
 .obtain⟨o,_,h2,_⟩:=h.step m (fT _) hm;exact ag5 h2 p
 .obtain⟨o,_,h2,_⟩:=h.step m (fT _) hm;rw[e]at h2;obtain⟨ob,e2⟩:=Zf h2;rw[e2];simp
 .obtain⟨o,_,h2,_⟩:=h.step m (fT _) hm;rw[e]at h2;obtain⟨_,_,_,_,_,_,_,_,_,_,_,e2,dt,_⟩:=Zh h2;exact⟨eu (ae.ou dt),by rw[e2];simp⟩
 .obtain⟨o,_,h2,_⟩:=h.step m (fT _) hm;exact Zg h2 e
 .obtain⟨o,_,h2,_⟩:=h.step m (fT _) hm;rw[e]at h2;exact Ze h2
variable {H0:AH}
theorem ah1{t:Tc}(h:xd t H0 p a n)(hm:t≠.mk):dU t (.ld p a n)/\dU (.ld p a n) t/\dU t (.st p a n)/\dU (.st p a n) t:=by cases t with|cl A B=>simp only[xd]at h;exact⟨h,h,trivial,trivial⟩|_=>simp[xd]at h hm<;>simp[dU]<;>omega
structure Inv(full:Array Oper)(N:Nat)(w0:World)(M:Fx)(F0:Fr)(Hs:Nat->AH)(v:Nat->AV)(ts:Nat->Tc)(B S:Nat->Bool)(fm:Fr)(ρ:Ro)(a:Act)(w:World):Prop where
 mix:AX full v F0 (λj=>B j=true) fm
 st:St N w0 M ρ fm (hp ts Hs S full.size) a w
 un:∀m,m<full.size->S m=false->∀p,(Hs m).length<=p->p<(Hs (m+1)).length->ρ p=none
 sk:∀m,m<full.size->S m=true->∀id b n,ts m=.st id b n->∀j,j<full.size->S j=false->¬((Hs j).length<=id/\id<(Hs (j+1)).length)
variable {R:Act->World->Prop}{H H':AH}{d m:Nat}{vc:Value}{E:Nat->Bool}{bk:Nat->Nat}{u:Tc}
section step
variable {w0:World}{M:Fx}{full:Array Oper}{F:Nat->Fr}{Hs:Nat->AH}{v v':Nat->AV}{ts:Nat->Tc}{B C S T:Nat->Bool}{fm:Fr}{ρ:Ro}{a:Act}{w:World}{i:Nat}
theorem Te(eX:TF full Hs ts)(hi:i<full.size)(tL:S i=false)(hT:∀m,T m=(S m||decide (m=i)))(sD:∀m,i<m->S m=true->¬dU (ts m) (ts i))(CI:∀m,m<full.size->S m=true->∀id b n,ts m=.st id b n->∀j,j<full.size->S j=false->¬((Hs j).length<=id/\id<(Hs (j+1)).length)):∀p,val ts Hs T p full.size=gE (ts i) (Hs i) (Hs (i+1)) p (val ts Hs S p full.size):=by
 intro p;refine aBw tL hT _ hi λm h1 h2 h3 c=>anE (sD m h1 h3) (λe1 e2 e=>?_) (λid b n e1 e2 e=>?_) (λid b n e1 e2 e=>?_)
 .have:=eX.LS i hi e2;have:=eX.lens (a:=i+1) (b:=m) h1 ω;omega
 .refine CI m h2 h3 id b n e1 i hi tL ?_;have:=eX.LS i hi e2;omega
 .have:=(eX.st i hi id b n e2).1;have:=eX.lens (a:=i) (b:=m) ω ω;omega
theorem amg{Q:Exit->Act->World->Prop}(ht:jC P aa)(qR:TR P aa full F Hs v ts 0)(hi:i<full.size)(ho:full[i]?=some o)(aM:yp N o.dst=true)(Ur:v' i=v i)(tL:S i=false)(hT:∀m,T m=(S m||decide (m=i)))(hC:∀m,C m=(B m||decide (m=i)))(wg:∀m,S m=true->m<full.size)(zQ:∀t∈looks full o,Am.get fm t=Am.get (F i) t)(wm:∀m,m<i->S m=false->¬dU (ts i) (ts m))(sD:∀m,i<m->S m=true->¬dU (ts m) (ts i))(zU:∀d,o.dst=some d->∀j,B j=true->kr full j≠some d)(hI:Inv full N w0 M (F 0) Hs v' ts B S fm ρ a w)(hK:∀lh bg a' w',Inv full N w0 M (F 0) Hs v' ts C T lh bg a' w'->R a' w'):(Region.wanted o (yielded full a.tmps)=true->o.wp P a w R Q)/\(Region.wanted o (yielded full a.tmps)=false->R (a.put o.dst undef) w):=by
 have eX:=qR.tf ht;obtain⟨o',kv,oO,_⟩:=qR.step i (fT _) hi;obtain rfl:o=o':=by rw[ho]at kv;simpa using kv
 have lN:=acE zQ;have hTi:T i=true:=by rw[hT];simp
 have hTs:∀m,m≠i->T m=S m:=by intro m hm;rw[hT];simp[hm]
 have KX:∀m,T m=false->S m=false/\m≠i:=by intro m hm;rw[hT]at hm;simpa using hm
 have mP:AX full v' (F 0) (λj=>C j=true) (iQ o.dst (v i) fm):=by
  have:=hI.mix.put ho zU;rw[Ur]at this;intro s;obtain⟨g1,g2⟩:=this s;exact⟨λj hj=>g1 j (by have hj:C j=true:=hj;rw[hC]at hj;simpa using hj),λh=>g2 λj hj=>h j (by show C j=true;rw[hC];simpa using hj)⟩
 have DU:=Te eX hi tL hT sD hI.sk;have sF:(hp ts Hs T full.size).length=(hp ts Hs S full.size).length:=by rw[uw,uw]
 have Ph:(ts i).quiet=true->hp ts Hs T full.size=hp ts Hs S full.size:=by
  intro hq;refine O4 sF λp=>?_;rw[eX.rL,eX.rL,DU,DJ hq]
 have aCZ:(ts i).quiet=true->(Hs (i+1)).length=(Hs i).length:=λhq=>by rw[eX.quiet i hi hq]
 have CI:(∀id b n,ts i=.st id b n->∀j,j<full.size->S j=false->¬((Hs j).length<=id/\id<(Hs (j+1)).length))->∀m,m<full.size->T m=true->∀id b n,ts m=.st id b n->∀j,j<full.size->T j=false->¬((Hs j).length<=id/\id<(Hs (j+1)).length):=by
  intro ew m hm Bj id b n e j hj hTj;obtain⟨h1,_⟩:=KX j hTj;by_cases Ub:m=i
  .subst Ub;exact ew id b n e j hj h1
  .rw[hTs m Ub]at Bj;exact hI.sk m hm Bj id b n e j hj h1
 have Pm:∀m,m<full.size->T m=false->∀p,(Hs m).length<=p->p<(Hs (m+1)).length->ρ p=none:=λm hm Bj=>hI.un m hm (KX m Bj).1;have abP:∀p,(∃L,ρ p=some L)->∀j,j<full.size->S j=false->¬((Hs j).length<=p/\p<(Hs (j+1)).length):=by
  rintro p⟨L,hL⟩j hj FJ⟨h1,h2⟩;rw[hI.un j hj FJ p h1 h2]at hL;simp at hL
 have abW:∀id b aX r,(bI o.op).map (ev fm)=.c (.p id b aX)::r->∃L,ρ id=some L:=by
  intro id b aX r e;have:=IM hI.st (bI o.op);rw[e]at this;cases cu:(bI o.op).map a.eval with|nil=>rw[cu]at this;cases this|cons y ys=>rw[cu]at this;cases this with|cons h _=>obtain⟨L,_,h1,_⟩:=(show kh ρ id b aX _ from h);exact⟨L,h1⟩
 have abX:∀id b n,id<(Hs i).length->(∃L,ρ id=some L)->(ts i=.ld id b n\/ts i=.st id b n)->(val ts Hs S id full.size).hd=(hg (Hs i) id).hd/\∀k,b<=k->k<b+n->(val ts Hs S id full.size).cells.getD k .any=(hg (Hs i) id).cells.getD k .any:=by
  intro id b n aG hL fj;have e:=eX.Np (i:=i) id full.size (aB _);rw[ye ω]at e;rw[<-e];refine ags full.size λm hm cZ Bk=>?_;by_cases uv:ts m=.mk
  .rw[uv]at Bk;simp only[xd]at Bk;have CE:=eX.LS m hm uv;by_cases jK:S m=true
   .have oN:¬m<i:=by simpa[jK]using cZ
    have:=eX.lens (a:=i) (b:=m) ω ω;omega
   .exact abP id hL m hm (by simpa using jK) ⟨ω,ω⟩
  .obtain⟨c1,c2,c3,c4⟩:=ah1 Bk uv;by_cases jK:S m=true
   .have oN:¬m<i:=by simpa[jK]using cZ
    have FT:i<m:=by
     rcases cX i m with h|h
     .exact h
     .obtain rfl:i=m:=ω
      rw[tL]at jK;simp at jK
    have:=sD m FT jK;rcases fj with e|e<;>rw[e]at this
    .exact this c1
    .exact this c3
   .have zP:S m=false:=by simpa using jK
    have Ua:m<i:=by simpa[zP]using cZ
    have:=wm m Ua zP;rcases fj with e|e<;>rw[e]at this
    .exact this c2
    .exact this c4
 have FN:(ts i=.rd\/∃A B,ts i=.cl A B)->(∀m,m<full.size->S m≠decide (m<i)->ts m=.no\/∃b c d,ts m=.ld b c d\/(ts m=.rd))/\∀p,val ts Hs S p full.size=hg (Hs i) p:=by
  intro fj;have h1:∀m,m<full.size->S m≠decide (m<i)->ts m=.no\/∃b c d,ts m=.ld b c d\/(ts m=.rd):=by
   intro m hm cZ;have hc:¬dU (ts i) (ts m)\/¬dU (ts m) (ts i):=by
    by_cases jK:S m=true
    .have oN:¬m<i:=by simpa[jK]using cZ
     have FT:i<m:=by
      rcases cX i m with h|h
      .exact h
      .obtain rfl:i=m:=ω
       rw[tL]at jK;simp at jK
     exact .inr (sD m FT jK)
    .have zP:S m=false:=by simpa using jK
     exact .inl (wm m (by simpa[zP]using cZ) zP)
   rcases fj with e|⟨A,B,e⟩<;>rw[e]at hc<;>cases hh:ts m<;>rw[hh]at hc<;>simp[dU]at hc|-
  refine⟨h1,λp=>?_⟩;have e:=eX.Np (i:=i) p full.size (aB _);rw[ye ω]at e;rw[<-e];refine YM full.size λm hm cZ=>?_;rcases h1 m hm cZ with e|⟨_,_,_,e|e⟩<;>rw[e]<;>rfl
 generalize hvi:v i=vi at oO mP;generalize KV:Hs (i+1)=Hn at oO;generalize fj:ts i=ti at oO;cases oO with
 |no j q r nB h2 h3=>
   have hy:=KS (by rw[U3 zQ j q nB];exact h2) hI.st.fr;refine⟨λhw=>?_,λ_=>?_⟩
   .exfalso;simp[Region.wanted,nB,hy]at hw;exact h3 hw
   .refine hK _ ρ _ w ⟨mP,?_,Pm,CI λid b n e=>by rw[fj]at e;simp at e⟩;rw[Ph (by rw[fj];rfl)];exact hI.st.put aM rfl|go _ _ nB h=>
   refine⟨λ_=>?_,λhw=>?_⟩;rotate_left
   .exfalso;rcases nB with nB|⟨j,q,nB,h2⟩
    .simp[Region.wanted,nB]at hw
    .have hy:=KS (by rw[U3 zQ j q nB];exact h2) hI.st.fr;simp[Region.wanted,nB,hy]at hw
   rw[<-lN]at h fj;cases tQ:cC P aa o.op ((bI o.op).map (ev fm))with
 |no=>
 rw[tQ]at fj;simp only[nN]at fj;refine adQ ht hI.st aM (.inl tQ) ((ZI h tQ).2 _) λa' w' ew=>hK _ ρ a' w' ⟨mP,?_,Pm,CI λid b n e=>by rw[fj]at e;simp at e⟩;rw[Ph (by rw[fj];rfl)];exact ew|ld id b n=>
 rw[tQ]at fj;simp only[nN]at fj;obtain⟨_,aG,⟨aX,gR⟩,h4⟩:=ZH h tQ;obtain⟨s1,s2⟩:=abX id b n aG (abW _ _ _ _ gR) (.inl fj);refine adQ ht hI.st aM (.inr ⟨_,_,_,tQ⟩) (h4 _ (by rw[eX.rL];exact s1) (λk g1 g2=>by rw[eX.rL];exact s2 k g1 g2)) λa' w' ew=>hK _ ρ a' w' ⟨mP,?_,Pm,CI λid b n e=>by rw[fj]at e;simp at e⟩;rw[Ph (by rw[fj];rfl)];exact ew|rd=>
     rw[tQ]at fj;simp only[nN]at fj;obtain⟨h1,h2⟩:=FN (.inl fj);obtain rfl:=ZJ h tQ;have Un:St N w0 M ρ fm (Hs i) a w:=by
      refine hI.st.cast (λp=>by rw[eX.rL,h2]) λp hp=>?_;rcases cX p (Hs full.size).length with aG|oN
      .obtain⟨m,yI,mO,Bu,uu⟩:∃m,i<=m/\m<full.size/\(Hs m).length<=p/\p<(Hs (m+1)).length:=by
        have:∀d,i+d<=full.size->p<(Hs (i+d)).length->∃m,i<=m/\m<full.size/\(Hs m).length<=p/\p<(Hs (m+1)).length:=by
         intro d;induction d with|zero=>intro _ h;rw[ru]at h;omega|succ d ih=>
           intro hd h;rcases cX p (Hs (i+d)).length with h'|h'
           .exact ih ω h'
           .exact⟨i+d,ω,ω,h',h⟩
        exact this (full.size-i) ω (by rw[show i+(full.size-i)=full.size by omega];exact aG)
       refine hI.un m mO ?_ p Bu uu;cases jK:S m with
 |false=>rfl|true=>exfalso;rcases h1 m mO (by rw[jK];simp;omega)with e|⟨_,_,_,e|e⟩<;>(have:=eX.quiet m mO (by rw[e];rfl);rw[this]at uu;omega)
      .exact hI.st.hr.fresh p (by rw[uw];exact oN)
     refine VT ht Un aM h λbg a' w' ew=>hK _ bg a' w' ⟨mP,?_,λm hm Bj p g1 g2=>?_,CI λid b n e=>by rw[fj]at e;simp at e⟩
     .rw[Ph (by rw[fj];rfl)];refine ew.cast (λp=>by rw[eX.rL,h2]) λp hp=>ew.hr.fresh p ?_;rw[uw]at hp;have:=eX.lens (a:=i) (b:=full.size) ω (aB _);omega
     .obtain⟨jK,cZ⟩:=KX m Bj;rcases cX m i with aG|oN
      .exfalso;rcases h1 m hm (by rw[jK];simp;exact aG)with e|⟨_,_,_,e|e⟩<;>(have:=eX.quiet m hm (by rw[e];rfl);rw[this]at g2;omega)
      .have:=eX.lens (a:=i) (b:=m) oN ω;exact ew.hr.fresh p ω|jg=>
     rw[tQ]at fj;simp only[nN]at fj;obtain⟨h1,h2⟩:=FN (.inr ⟨_,_,fj⟩);subst KV;have Un:St N w0 M ρ fm (Hs i) a w:=by
      refine hI.st.cast (λp=>by rw[eX.rL,h2]) λp hp=>?_;rcases cX p (Hs full.size).length with aG|oN
      .obtain⟨m,yI,mO,Bu,uu⟩:∃m,i<=m/\m<full.size/\(Hs m).length<=p/\p<(Hs (m+1)).length:=by
        have:∀d,i+d<=full.size->p<(Hs (i+d)).length->∃m,i<=m/\m<full.size/\(Hs m).length<=p/\p<(Hs (m+1)).length:=by
         intro d;induction d with|zero=>intro _ h;rw[ru]at h;omega|succ d ih=>
           intro hd h;rcases cX p (Hs (i+d)).length with h'|h'
           .exact ih ω h'
           .exact⟨i+d,ω,ω,h',h⟩
        exact this (full.size-i) ω (by rw[show i+(full.size-i)=full.size by omega];exact aG)
       refine hI.un m mO ?_ p Bu uu;cases jK:S m with
 |false=>rfl|true=>exfalso;rcases h1 m mO (by rw[jK];simp;omega)with e|⟨_,_,_,e|e⟩<;>(have:=eX.quiet m mO (by rw[e];rfl);rw[this]at uu;omega)
      .exact hI.st.hr.fresh p (by rw[uw];exact oN)
     refine VT ht Un aM h λbg a' w' ew=>hK _ bg a' w' ⟨mP,?_,λm hm Bj p g1 g2=>?_,CI λid b n e=>by rw[fj]at e;simp at e⟩
     .have e2:∀p,gE (.cl (Hs i) (Hs (i+1))) (Hs i) (Hs (i+1)) p (val ts Hs S p full.size)=hg (Hs (i+1)) p:=by
       intro p;simp only[gE,h2];by_cases e:hg (Hs (i+1)) p=hg (Hs i) p/\(hg (Hs i) p).live=true
       .rw[if_pos e,e.1]
       .rw[if_neg e]
      refine ew.cast (λp=>by rw[eX.rL,DU,fj,e2]) λp hp=>ew.hr.fresh p ?_;rw[uw]at hp;have:=eX.lens (a:=i+1) (b:=full.size) ω (aB _);omega
     .obtain⟨jK,cZ⟩:=KX m Bj;rcases cX m i with aG|oN
      .exfalso;rcases h1 m hm (by rw[jK];simp;exact aG)with e|⟨_,_,_,e|e⟩<;>(have:=eX.quiet m hm (by rw[e];rfl);rw[this]at g2;omega)
      .have:=eX.lens (a:=i+1) (b:=m) ω ω;exact ew.hr.fresh p ω|cl A B=>exact(aAX tQ).elim|mk=>
     rw[tQ]at fj;simp only[nN]at fj;subst KV;have CE:=eX.LS i hi fj;have Pe:=eX.lens (a:=i+1) (b:=full.size) ω (aB _);have tP:ρ (Hs i).length=none:=hI.un i hi tL _ (aB _) ω;have aoy:hg (hp ts Hs S full.size) (Hs i).length=.dead:=by
      rw[eX.rL];have e:=eX.Np (i:=i) (Hs i).length full.size (aB _);rw[ye ω,ur _ (aB _)]at e;apply aox;rw[<-e];refine(ags (a:=0) (b:=0) full.size λm hm cZ Bk=>?_).1;cases hh:ts m with
 | mk =>rw[hh]at Bk;simp only[xd]at Bk;have:=eX.LS m hm hh;rcases Nat.lt_trichotomy m i with h|h|h
        .have:=eX.lens (a:=m+1) (b:=i) h ω;omega
        .subst h;rw[tL]at cZ;simp at cZ
        .have:=eX.lens (a:=i+1) (b:=m) h ω;omega|st id b n=>rw[hh]at Bk;simp[xd]at Bk|cl A B=>
        by_cases jK:S m=true
        .have oN:¬m<i:=by simpa[jK]using cZ
         have FT:i<m:=by
          rcases cX i m with h|h
          .exact h
          .obtain rfl:i=m:=ω
           rw[tL]at jK;simp at jK
         refine sD m FT jK ?_;rw[hh,fj];simp[dU]
        .have zP:S m=false:=by simpa using jK
         refine wm m (by simpa[zP]using cZ) zP ?_;rw[hh,fj];simp[dU]|jg=>
        by_cases jK:S m=true
        .have oN:¬m<i:=by simpa[jK]using cZ
         have FT:i<m:=by
          rcases cX i m with h|h
          .exact h
          .obtain rfl:i=m:=ω
           rw[tL]at jK;simp at jK
         refine sD m FT jK ?_;rw[hh,fj];simp[dU]
        .have zP:S m=false:=by simpa using jK
         refine wm m (by simpa[zP]using cZ) zP ?_;rw[hh,fj];simp[dU]|_=>rw[hh]at Bk;simp[xd]at Bk
     rw[Hx (.inl tQ)]at h;obtain⟨ob,e1,w',L,he,vc,h1,h2⟩:=aqJ tQ h (IM hI.st (bI o.op)) ⟨hI.st.hr,by rw[uw];omega,aoy,tP⟩;simp only[Oper.wp,h1,Oper.upon];have ew:=(hI.st.HN he).put (d:=o.dst) aM h2;refine hK _ (iB ρ (Hs i).length L) _ w' ⟨mP,?_,λm hm Bj p g1 g2=>?_,CI λid b n e=>by rw[fj]at e;simp at e⟩
     .have e2:hp ts Hs T full.size=(hp ts Hs S full.size).set (Hs i).length ob:=by
       refine O4 (by simp[uw]) λp=>?_;rw[qP _ _ _ _ (by rw[uw];omega),eX.rL,eX.rL,DU,fj];simp only[gE];split
       .subst_vars;rw[e1,qO,if_pos rfl]
       .rfl
      rw[e2];exact ew
     .obtain⟨jK,cZ⟩:=KX m Bj;have hp0:=hI.un m hm jK p g1 g2;rw[fN _ _ ?_]
      .exact hp0
      .rintro rfl;rcases cX m i with aG|oN
       .have:=eX.lens (a:=m+1) (b:=i) aG ω;omega
       .have:=eX.lens (a:=i+1) (b:=m) ω ω;omega|st id b n=>
     rw[tQ]at fj;simp only[nN]at fj;subst KV;rw[Hx (.inr ⟨_,_,_,tQ⟩)]at h;obtain⟨t,x,y,ax,aX,l,jE,gR,qh,hn,Ur,OT,dt,By,hlen,cO,jx,oR⟩:=Yy tQ h;have hL:=abW _ _ _ _ gR;have aG:=eu (ae.ou dt);obtain⟨s1,s2⟩:=abX id b n aG hL (.inr fj);obtain⟨r1,r2,r3,r4⟩:=ae.O2 s1;have Pe:=eX.lens (a:=i) (b:=full.size) ω (aB _);have aoC:jH P o.op ((bI o.op).map (ev fm)) (hp ts Hs S full.size)=some (.c .ig,(hp ts Hs S full.size).set id ((hg (hp ts Hs S full.size) id).put (wr (hg (hp ts Hs S full.size) id).cells b l))):=by
      rw[gR,jE];simp only[jH,qh];rw[if_pos];rw[eX.rL,r1,r2,r3];exact⟨dt,By,hlen,cO,jx,oR⟩
     obtain⟨⟨w',he,h1,_⟩,_⟩:=aAd tQ aoC (IM hI.st (bI o.op)) hI.st.hr;simp only[Oper.wp,h1,Oper.upon];have ew:=(hI.st.HN he).put (d:=o.dst) (v:=.c .ig) aM rfl;refine hK _ ρ _ w' ⟨mP,?_,Pm,CI λqi b' n' e=>?_⟩
     .have e2:hp ts Hs T full.size=(hp ts Hs S full.size).set id ((hg (hp ts Hs S full.size) id).put (wr (hg (hp ts Hs S full.size) id).cells b l)):=by
       refine O4 (by simp[uw]) λp=>?_;rw[qP _ _ _ _ (by rw[uw];omega)];simp only[eX.rL,DU p,fj,gE];split
       .rename_i e0;subst e0;refine(aed (by rw[r3];exact dt) (by rw[hlen,hn]) (by rw[r2];exact jx) λk g1 g2=>?_).symm;rw[OT,qP _ _ _ _ aG,if_pos rfl];have e:=Wf dt jx;rw[e,Y0 jx,if_pos ⟨g1,ω⟩]
       .rfl
      rw[e2,Ur];exact ew
     .rw[fj]at e;simp at e;obtain⟨rfl,rfl,rfl⟩:=e;exact abP id hL
theorem ag4{v:AV}(h:Gv P aa full o fr H v H' .mk):∃ob,H'=H++[ob]/\ob.owned=true:=by
 generalize ht:Tc.mk=t at h;cases h with
 |no=>simp at ht|go _ _ _ h=>
   have hk:=YF ht.symm;rw[Hx (.inl hk)]at h;unfold jH at h;split at h
   .split at h<;>simp at h;exact⟨_,h.2.symm,rfl⟩
   .split at h<;>simp at h;exact⟨_,h.2.symm,rfl⟩
   .split at h<;>try(simp at h;done)
    split at h<;>try(simp at h;done)
    split at h
    .split at h<;>simp at h;exact⟨_,h.2.symm,rfl⟩
    .split at h<;>simp at h;exact⟨_,h.2.symm,rfl⟩
   .split at h<;>try(simp at h;done)
    split at h<;>try(simp at h;done)
    split at h<;>simp at h;exact⟨_,h.2.symm,rfl⟩
   .rename_i jE lN;rw[lN,jE]at hk;simp[cC,xW]at hk
   .simp at h
theorem aBU{o:Oper}{K:Act->World->Prop}{Q:Exit->Act->World->Prop}(h:o.wp P a w K Q):o.wp P a w (λa' w'=>(∃vc,a'.tmps=(a.put o.dst vc).tmps)/\K a' w') Q:=by
 unfold Oper.wp at*;generalize(execOp a.eval o).run P w=r at*;cases r with
 |ok n w'=>cases n<;>simp only[Oper.upon]at h|-<;>first
    |exact⟨⟨_,rfl⟩,h⟩|exact⟨⟨undef,by cases o.dst<;>rfl⟩,h⟩
    |exact Calls.mono h λe w'' he=>by
       cases e
       .exact⟨⟨_,rfl⟩,he⟩
       .exact he
       .exact he|exact Rows.mono h λ_ _ he=>⟨⟨_,rfl⟩,he⟩
 |halt x w'=>cases x<;>simp only[Oper.upon]at h|-<;>exact h
theorem aec{o:Option Nat}(h:o≠some d):(a.put o vc).tmps.getD d undef=a.tmps.getD d undef:=by cases o with
 |none=>rfl|some e=>
 have cZ:e≠d:=λh'=>h (by rw[h']);simp[Act.put,rk,Array.getElem?_setIfInBounds_ne cZ]
theorem ab9(w:World):ij w (λ_=>False) w:=⟨rfl,rfl,rfl,aB _,λ_ _ _=>rfl,λb c t f hf hm=>by
   rcases hm with hm|hm
   .rw[rn hm]at hf;simp at hf
   .exact hm.elim⟩
theorem St.here{H:AH}{fr:Fr}(h:St N w0 M ρ fr H a w):St N w ⟨mi ρ H,H.length,ρ⟩ ρ fr H a w:=by
 refine⟨h.fr,h.sz,h.df,h.hr,⟨rfl,rfl,rfl,aB _,λ_ _ _=>rfl,λb c t f hf hm=>?_⟩,λi L h1 h2 h3=>.inl ⟨i,L,h1,h2,h3,rfl⟩,λi _ L hL=>⟨L,hL,.inl rfl⟩⟩;rcases hm with hm|⟨i,L,h1,h2,h3,rfl⟩
 .rw[rn hm]at hf;simp at hf
 .have hO:=h.hr.obj i;cases ho:hg H i with
 |own cs=>
    rw[ho]at hO;obtain⟨L',c',t',e1,_,_,_,_,e2,_⟩:=hO;obtain rfl:L=L':=by simpa[h2]using e1
    rw[e2]at hf;simp at hf;exact hf.2.2.symm|vec sz cs=>
    rw[ho]at hO;obtain⟨L',e1,_,_,_,_,e2⟩:=hO;obtain rfl:L=L':=by simpa[h2]using e1
    rw[if_neg (by rw[h3];decide)]at e2;obtain⟨c',d',t',e2,_⟩:=e2;rw[e2]at hf;simp at hf;exact hf.2.2.symm|view cs=>rw[ho]at h1;simp[ae.owned]at h1|map mL es=>
 rw[ho]at hO;obtain⟨L',uq,e1,_,_,_,_,e2,_⟩:=hO;obtain rfl:L=L':=by simpa[h2]using e1
 rw[e2]at hf;simp at hf|iter m since seen last=>
 rw[ho]at hO;obtain⟨L',b',e1,_,_,_,_,_,e2⟩:=hO;obtain rfl:L=L':=by simpa[h2]using e1
 rw[e2]at hf;simp at hf|dead=>rw[ho]at h1;simp[ae.owned]at h1
theorem agv(h:HR ρ w H)(h1:(hg H p).live=true)(h2:(hg H p).owned=false):∃L,ρ p=some L/\L.row=0:=by
 have hO:=h.obj p;cases ho:hg H p with
 |own cs=>rw[ho]at h2;simp[ae.owned]at h2|vec sz cs=>rw[ho]at h2;simp[ae.owned]at h2|view cs=>rw[ho]at hO;obtain⟨L,e1,e2,_⟩:=hO;exact⟨L,e1,e2⟩|map mL es=>rw[ho]at h2;simp[ae.owned]at h2|iter m since seen last=>rw[ho]at h2;simp[ae.owned]at h2|dead=>rw[ho]at h1;simp[ae.live]at h1
theorem adJ{o:ae}{f:List Sc->List Sc}:(o.on f).live=o.live/\(o.on f).owned=o.owned:=by cases o<;>exact⟨rfl,rfl⟩
structure Ea(full:Array Oper)(Hs:Nat->AH)(v:Nat->AV)(w0:World)(H:AH)(ρ:Ro)(a:Act)(w:World)(m b:Nat):Prop where
 ex:∃d z zc t,kr full m=some d/\v m=.c (.p (Hs m).length 0 0)/\Hs (m+1)=Hs m++[.own z]/\a.tmps.getD d undef=.pointer (some ⟨b,0,none⟩)/\w.heap[b]?=some (.cells (zc:List Value).toArray t (0,0))/\L2 (b6 ρ) z zc
 jT:w0.heap.size<=b
 ne:∀i L,(hg H i).live=true->ρ i=some L->L.nil=false->L.dW≠b
structure Inv2(full:Array Oper)(N:Nat)(w0:World)(M:Fx)(F0:Fr)(Hs:Nat->AH)(v:Nat->AV)(ts:Nat->Tc)(S E:Nat->Bool)(bk:Nat->Nat)(fm:Fr)(ρ:Ro)(a:Act)(w:World):Prop where
 inv:Inv full N w0 M F0 Hs (λm=>if E m=true then .c .any else v m) ts S (λm=>S m&&!E m) fm ρ a w
 sub:∀m,E m=true->m<full.size/\S m=true/\ts m=.mk
 ea:∀m,E m=true->Ea full Hs v w0 (hp ts Hs (λm=>S m&&!E m) full.size) ρ a w m (bk m)inj:∀m n,E m=true->E n=true->bk m=bk n->m=n
theorem ao5{Q:Exit->Act->World->Prop}(ht:jC P aa)(qR:TR P aa full F Hs v ts 0)(hi:i<full.size)(ho:full[i]?=some o)(aM:yp N o.dst=true)(tL:S i=false)(hT:∀m,T m=(S m||decide (m=i)))(wg:∀m,S m=true->m<full.size)(zQ:∀t∈looks full o,Am.get fm t=Am.get (F i) t)(wm:∀m,m<i->(S m&&!E m)=false->¬dU (ts i) (ts m))(sD:∀m,i<m->(S m&&!E m)=true->¬dU (ts m) (ts i))(zU:∀d,o.dst=some d->∀j,S j=true->kr full j≠some d)(Ug:∀A B,ts i=.cl A B->(∃m,E m=true)->dX A B)(hI:Inv2 full N w0 M (F 0) Hs v ts S E bk fm ρ a w)(hK:∀lh bg a' w',Inv2 full N w0 M (F 0) Hs v ts T E bk lh bg a' w'->R a' w'):(Region.wanted o (yielded full a.tmps)=true->o.wp P a w R Q)/\(Region.wanted o (yielded full a.tmps)=false->R (a.put o.dst undef) w):=by
 have eX:=qR.tf ht;have TC:E i=false:=by cases h:E i with
 |false=>rfl|true=>have:=(hI.sub i h).2.1;rw[tL]at this;simp at this
 have yz:(S i&&!E i)=false:=by rw[tL];rfl
 have DL:∀m,(T m&&!E m)=((S m&&!E m)||decide (m=i)):=by
  intro m;rw[hT];by_cases h:m=i
  .subst h;simp[TC]
  .simp[h]
 have aos:∀m,(S m&&!E m)=true->m<full.size:=λm h=>wg m (by simp at h;exact h.1);have aoE:Inv full N w ⟨mi ρ (hp ts Hs (λm=>S m&&!E m) full.size),(hp ts Hs (λm=>S m&&!E m) full.size).length,ρ⟩ (F 0) Hs (λm=>if E m=true then .c .any else v m) ts S (λm=>S m&&!E m) fm ρ a w:=⟨hI.inv.mix,hI.inv.st.here,hI.inv.un,hI.inv.sk⟩;have DU:=Te (T:=λm=>T m&&!E m) eX hi yz DL sD hI.inv.sk;have step:=amg (T:=λm=>T m&&!E m) (C:=T) (Q:=Q) ht qR hi ho aM (by simp[TC]) yz DL hT aos zQ wm sD zU aoE (R:=λa' w'=>∃lh bg,Inv full N w ⟨mi ρ (hp ts Hs (λm=>S m&&!E m) full.size),(hp ts Hs (λm=>S m&&!E m) full.size).length,ρ⟩ (F 0) Hs (λm=>if E m=true then .c .any else v m) ts T (λm=>T m&&!E m) lh bg a' w') (λlh bg a' w' h=>⟨lh,bg,h⟩);have fin:∀a' w',(∃vc,a'.tmps=(a.put o.dst vc).tmps)->(∃lh bg,Inv full N w ⟨mi ρ (hp ts Hs (λm=>S m&&!E m) full.size),(hp ts Hs (λm=>S m&&!E m) full.size).length,ρ⟩ (F 0) Hs (λm=>if E m=true then .c .any else v m) ts T (λm=>T m&&!E m) lh bg a' w')->R a' w':=by
  rintro a' w'⟨vc,Io⟩⟨lh,bg,h⟩;have Uo:ib ρ bg:=by
   intro p L hL;refine h.st.st p ?_ L hL;rcases cX p (hp ts Hs (λm=>S m&&!E m) full.size).length with h'|h'
   .exact h'
   .rw[hI.inv.st.hr.fresh p h']at hL;simp at hL
  have abQ:ij w (mi ρ (hp ts Hs (λm=>S m&&!E m) full.size)) w':=h.st.kp;have dt:∀b,mi bg (hp ts Hs (λm=>T m&&!E m) full.size) b->mi ρ (hp ts Hs (λm=>S m&&!E m) full.size) b\/w.heap.size<=b:=by rintro b⟨p,L,h1,h2,h3,rfl⟩;exact h.st.ow p L h1 h2 h3
  have ew:=hI.inv.st.call h.st.hr Uo abQ dt;refine hK lh bg a' w' ⟨⟨h.mix,⟨h.st.fr,h.st.sz,h.st.df,h.st.hr,ew.kp,ew.ow,ew.st⟩,h.un,h.sk⟩,λm hm=>?_,λm hm=>?_,hI.inj⟩
  .obtain⟨e1,e2,e3⟩:=hI.sub m hm;exact⟨e1,by rw[hT,e2];rfl,e3⟩
  .obtain⟨Lm,O9,uv⟩:=hI.sub m hm;obtain⟨⟨d,z,zc,t,e1,e2,e3,e4,e5,e6⟩,e7,e8⟩:=hI.ea m hm;have hb:bk m<w.heap.size:=by
    rcases cX (bk m) w.heap.size with h'|h'
    .exact h'
    .rw[rn h']at e5;simp at e5
   have hnO:¬mi ρ (hp ts Hs (λm=>S m&&!E m) full.size) (bk m):=by rintro⟨p,L,h1,h2,h3,h4⟩;exact e8 p L (ae.ou h1) h2 h3 h4
   refine⟨⟨d,z,zc,t,e1,e2,e3,?_,?_,e6.mono λ_ _ h=>h.mono Uo⟩,e7,λp L hl hL hn=>?_⟩
   .rw[Io,aec λh'=>zU d h' m O9 e1];exact e4
   .rw[abQ.jT _ hb hnO];exact e5
   .cases kJ:(hg (hp ts Hs (λm=>T m&&!E m) full.size) p).owned with
 |true=>
      rcases dt L.dW ⟨p,L,kJ,hL,hn,rfl⟩with h'|h'
      .intro e;rw[e]at h';exact hnO h'
      .omega|false=>
      have hv:(hg (hp ts Hs (λm=>S m&&!E m) full.size) p).live=true/\(hg (hp ts Hs (λm=>S m&&!E m) full.size) p).owned=false:=by
       rw[eX.rL,DU]at hl kJ;rw[eX.rL];obtain⟨o',_,oO,_⟩:=qR.step i (fT _) hi;cases fj:ts i with
 |no=>rw[fj]at hl kJ;exact⟨hl,kJ⟩|ld _ _ _=>rw[fj]at hl kJ;exact⟨hl,kJ⟩|rd=>rw[fj]at hl kJ;exact⟨hl,kJ⟩|st id b n=>
         rw[fj]at hl kJ;simp only[gE]at hl kJ;split at hl
         .rename_i e;rw[if_pos e]at kJ;rw[adJ.1]at hl;rw[adJ.2]at kJ;exact⟨hl,kJ⟩
         .rename_i e;rw[if_neg e]at kJ;exact⟨hl,kJ⟩|mk=>
         rw[fj]at hl kJ oO;obtain⟨ob,e1,e2⟩:=ag4 oO;simp only[gE]at hl kJ;split at hl
         .rename_i e;rw[if_pos e,e,e1,qO,if_pos rfl,e2]at kJ;simp at kJ
         .rename_i e;rw[if_neg e]at kJ;exact⟨hl,kJ⟩|jg=>
 rw[fj]at oO;exfalso;generalize hb:Tc.jg=tt at oO;generalize v i=vi at oO;generalize Hs (i+1)=Hn at oO;cases oO with
         |no=>simp at hb|go _ _ _ _=>cases hk:cC P aa o'.op ((bI o'.op).map (ev (F i)))<;>rw[hk]at hb<;>simp[nN]at hb
       |cl A B=>
         have hn:=Ug A B fj ⟨m,hm⟩;rw[fj]at hl kJ;simp only[gE]at hl kJ;by_cases e:hg B p=hg A p/\(hg A p).live=true
         .rw[if_pos e]at hl kJ;exact⟨hl,kJ⟩
         .rw[if_neg e]at hl kJ;have:=hn p hl kJ;exact(e ⟨this.symm,by rw[this];exact hl⟩).elim
      obtain⟨L1,r1,r2⟩:=agv hI.inv.st.hr hv.1 hv.2;obtain⟨RU,r3,r4⟩:=agv h.st.hr hl kJ;obtain rfl:L=RU:=by rw[hL]at r3;simpa using r3
      obtain⟨L3,r5,r6⟩:=Uo p L1 r1;obtain rfl:L=L3:=by rw[hL]at r5;simpa using r5
      rcases r6 with rfl|r6
      .exact e8 p L hv.1 r1 hn
      .omega
 exact⟨λhw=>Oper.wp_mono (λa' w' h=>fin a' w' h.1 h.2) (aBU (step.1 hw)),λhw=>fin _ _ ⟨undef,rfl⟩ (step.2 hw)⟩
theorem acF(h:loose full m j=true):∃o d t,full[m]?=some o/\o.dst=some d/\o.op=.alloc t/\∀k o',full[k]?=some o'->d∈looks full o'->kn full k j=true:=by
 unfold loose at h;split at h
 .rename_i o ho;split at h
  .rename_i d t hd jE;refine⟨o,d,t,ho,hd,jE,λk o' hk hl=>?_⟩;have aG:k<full.size:=by
    rcases cX k full.size with h'|h'
    .exact h'
    .rw[rn h']at hk;simp at hk
   have:=cE.1 h k (by simpa using aG);rw[hk]at this;simp only at this;have e:Yh full d o'=true:=by
    unfold Yh;simp only[List.contains_iff_mem];exact hl
   rw[e]at this;simpa using this
  .simp at h
 .simp at h
theorem ao3{Q:Exit->Act->World->Prop}(qR:TR P aa full F Hs v ts 0)(hi:i<full.size)(ho:full[i]?=some o)(aM:yp N o.dst=true)(tL:S i=false)(hT:∀m,T m=(S m||decide (m=i)))(tM:loose full i j=true)(uv:ts i=.mk)(zQ:∀t∈looks full o,Am.get fm t=Am.get (F i) t)(zU:∀d,o.dst=some d->∀j,S j=true->kr full j≠some d)(hI:Inv2 full N w0 M (F 0) Hs v ts S E bk fm ρ a w)(hK:∀lh Sz a' w',Inv2 full N w0 M (F 0) Hs v ts T (λm=>E m||decide (m=i)) Sz lh ρ a' w'->R a' w'):(Region.wanted o (yielded full a.tmps)=true->o.wp P a w R Q)/\(Region.wanted o (yielded full a.tmps)=false->R (a.put o.dst undef) w):=by
 obtain⟨o',kv,oO,_⟩:=qR.step i (fT _) hi;obtain rfl:o=o':=by rw[ho]at kv;simpa using kv
 obtain⟨LX,d,t,abV,hd,jE,_⟩:=acF tM;obtain rfl:o=LX:=by rw[ho]at abV;simpa using abV
 have lN:=acE zQ;have TC:E i=false:=by cases h:E i with
 |false=>rfl|true=>have:=(hI.sub i h).2.1;rw[tL]at this;simp at this
 rw[uv]at oO;generalize hvi:v i=vi at oO;generalize KV:Hs (i+1)=Hn at oO;generalize fj:Tc.mk=ti at oO;cases oO with
 |no=>simp at fj|go _ _ nB h=>
   refine⟨λ_=>?_,λhw=>?_⟩;rotate_left
   .exfalso;rcases nB with nB|⟨j,q,nB,h2⟩
    .simp[Region.wanted,nB]at hw
    .have hy:=KS (by rw[U3 zQ j q nB];exact h2) hI.inv.st.fr;simp[Region.wanted,nB,hy]at hw
   have hk:=YF fj.symm;rw[Hx (.inl hk),jE]at h;simp only[bI,jf,jH]at h;split at h<;>simp at h;rename_i z hz;obtain⟨rfl,rfl⟩:=h;obtain⟨zv,zc,h1,h2,h3⟩:=Cb (ρ:=ρ) hz w;have xD:(execOp a.eval o).run P w=.ok (.value (.pointer (some ⟨w.heap.size,0,none⟩))) (w.alloc (.cells zc.toArray t)):=by simp only[execOp,jE,Instr.alloc,dg,h1,c9,newVar,newRow,h2,run_newObj,fF];rfl
   simp only[Oper.wp,xD,Oper.upon];have hS:(λm=>T m&&!(E m||decide (m=i)))=λm=>S m&&!E m:=by
    funext m;rw[hT];by_cases h:m=i
    .subst h;simp[tL]
    .simp[h]
   have hka:ij w (λ_=>False) (w.alloc (.cells zc.toArray t)):=ij.alloc (ab9 w) _ _;have ew:St N w0 M ρ fm (hp ts Hs (λm=>S m&&!E m) full.size) a (w.alloc (.cells zc.toArray t)):=⟨hI.inv.st.fr,hI.inv.st.sz,hI.inv.st.df,hI.inv.st.hr.dj hka,hI.inv.st.kp.trans hka,hI.inv.st.ow,hI.inv.st.st⟩;have aoO:=ew.put (d:=o.dst) (v:=.c .any) (vc:=.pointer (some ⟨w.heap.size,0,none⟩)) aM trivial;refine hK (iQ o.dst (.c .any) fm) (λm=>if m=i then w.heap.size else bk m) _ _ ⟨?_,λm hm=>?_,λm hm=>?_,λm n hm hn e=>?_⟩
   .rw[hS];refine⟨?_,aoO,hI.inv.un,hI.inv.sk⟩;have DT:AX full (λm=>if(E m||decide (m=i))=true then AV.c .any else v m) (F 0) (λj=>S j=true) fm:=by
     intro s;obtain⟨g1,g2⟩:=hI.inv.mix s;refine⟨λj hj hd=>?_,g2⟩;rw[g1 j hj hd];have:j≠i:=by rintro rfl;have hj:S j=true:=hj;rw[tL]at hj;simp at hj
     simp[this]
    have:=DT.put ho zU;simp only[decide_true,Bool.or_true,if_true]at this;intro s;obtain⟨g1,g2⟩:=this s;exact⟨λj hj=>g1 j (by have hj:T j=true:=hj;rw[hT]at hj;simpa using hj),λh=>g2 λj hj=>h j (by show T j=true;rw[hT];simpa using hj)⟩
   .by_cases e:m=i
    .subst e;exact⟨hi,by rw[hT];simp,uv⟩
    .simp only[e,decide_false,vC]at hm;obtain⟨e1,e2,e3⟩:=hI.sub m hm;exact⟨e1,by rw[hT,e2];rfl,e3⟩
   .rw[hS];by_cases e:m=i
    .subst e;rw[if_pos rfl];refine⟨⟨d,z,zc,t,by simp[kr,ho,hd],hvi,KV,?_,Cl _ _,h3⟩,hI.inv.st.kp.size,λp L hl hL hn=>?_⟩
     .rw[hd]at aM|-;simp[yp]at aM;simp[Act.put,rk,hI.inv.st.sz,aM]
     .have:=(hI.inv.st.hr.obj p).ym hL hn hl;omega
    .simp only[e,decide_false,vC]at hm;rw[if_neg e];obtain⟨e1,e2,e3⟩:=hI.sub m hm;obtain⟨⟨d',z',Ru,t',g1,g2,g3,g4,g5,g6⟩,g7,g8⟩:=hI.ea m hm;have hb:bk m<w.heap.size:=by
      rcases cX (bk m) w.heap.size with h'|h'
      .exact h'
      .rw[rn h']at g5;simp at g5
     refine⟨⟨d',z',Ru,t',g1,g2,g3,?_,?_,g6⟩,g7,g8⟩
     .rw[aec λh'=>zU d' h' m e2 g1];exact g4
     .rw[A3 _ _ _ hb];exact g5
   .have lt:∀m,E m=true->bk m<w.heap.size:=by
     intro m hm;obtain⟨⟨d',z',Ru,t',g1,g2,g3,g4,g5,g6⟩,g7,g8⟩:=hI.ea m hm;rcases cX (bk m) w.heap.size with h'|h'
     .exact h'
     .rw[rn h']at g5;simp at g5
    by_cases em:m=i<;>by_cases en:n=i
    .rw[em,en]
    .simp only[en,decide_false,vC]at hn;simp only[em,en,if_true,if_false]at e;have:=lt n hn;omega
    .simp only[em,decide_false,vC]at hm;simp only[em,en,if_true,if_false]at e;have:=lt m hm;omega
    .simp only[en,decide_false,vC]at hn;simp only[em,decide_false,vC]at hm;simp only[em,en,if_false]at e;exact hI.inj m n hm hn e
theorem HR.aqy{H:AH}(h:HR ρ w H){l:List Sc}{c:List Value}(hl:L2 (b6 ρ) l c){t id b:Nat}(iO:id<H.length)(hr:ρ id=none)(hb:w.heap[b]?=some (.cells c.toArray t (0,0)))(cZ:∀i L,(hg H i).live=true->ρ i=some L->L.nil=false->L.dW≠b):HR (iB ρ id ⟨b,0,0,0,false,false⟩) w (H.set id (.own l))/\ib ρ (iB ρ id ⟨b,0,0,0,false,false⟩):=by
 have ew:ib ρ (iB ρ id ⟨b,0,0,0,false,false⟩):=by
  intro i Li hi;have:i≠id:=by rintro rfl;rw[hr]at hi;simp at hi
  exact⟨Li,by rw[fN _ _ this,hi],.inl rfl⟩
 refine⟨⟨λi=>?_,λi j Li Lj pI cV cF iH fz iF pJ=>?_,λi hi=>?_⟩,ew⟩
 .rw[qP _ _ _ _ iO];split
  .subst_vars;exact⟨_,c,t,iZ _ _ _,rfl,rfl,rfl,rfl,hb,hl.mono λ_ _ h=>h.mono ew⟩
  .rename_i aoF;exact(h.obj i).dj ew (fN _ _ aoF) (λ_ _ _ _=>rfl) (aB _)
 .rw[qP _ _ _ _ iO]at cV fz;by_cases h1:i=id
  .subst h1;rw[iZ]at cF;simp at cF;subst cF;have h2:j≠i:=λe=>pI e.symm;rw[if_neg h2]at fz;rw[fN _ _ h2]at iF;exact λe=>cZ j Lj fz iF pJ e.symm
  .rw[if_neg h1]at cV;rw[fN _ _ h1]at cF;by_cases h2:j=id
   .subst h2;rw[iZ]at iF;simp at iF;subst iF;exact cZ i Li (ae.ou cV) cF iH
   .rw[if_neg h2]at fz;rw[fN _ _ h2]at iF;exact h.sep i j Li Lj pI cV cF iH fz iF pJ
 .simp at hi;rw[fN _ _ ω];exact h.fresh i ω
theorem ao6(eX:TF full Hs ts)(hu:∀m n,m<full.size->n<full.size->∀d,kr full m=some d->kr full n=some d->m=n)(hm:E m=true)(wm:∀j,j<m->S j=false->ts j≠.jg/\∀A B,ts j≠.cl A B)(sD:∀j,m<j->S j=true->¬dU (ts j) .mk)(wg:∀m,S m=true->m<full.size)(hI:Inv2 full N w0 M (F 0) Hs v ts S E bk fm ρ a w):∃lh bg,Inv2 full N w0 M (F 0) Hs v ts S (λn=>E n&&decide (n≠m)) bk lh bg a w:=by
 obtain⟨Lm,O9,uv⟩:=hI.sub m hm;obtain⟨⟨d,z,zc,t,e1,e2,e3,e4,e5,e6⟩,e7,e8⟩:=hI.ea m hm;have hlen:(Hs (m+1)).length=(Hs m).length+1:=by rw[e3];simp
 have Pe:=eX.lens (a:=m+1) (b:=full.size) ω (aB _);have yz:(S m&&!E m)=false:=by simp[hm]
 have DL:∀n,(S n&&!(E n&&decide (n≠m)))=((S n&&!E n)||decide (n=m)):=by
  intro n;by_cases h:n=m
  .subst h;simp[hm,O9]
  .simp[h]
 have DU:=Te (T:=λn=>S n&&!(E n&&decide (n≠m))) eX Lm yz DL (λj h1 h2=>by rw[uv];exact sD j h1 (by simp at h2;exact h2.1)) hI.inv.sk;have iO:(Hs m).length<(hp ts Hs (λm=>S m&&!E m) full.size).length:=by rw[uw];omega
 have tP:ρ (Hs m).length=none:=hI.inv.un m Lm yz _ (aB _) ω;have e2':hp ts Hs (λn=>S n&&!(E n&&decide (n≠m))) full.size=(hp ts Hs (λm=>S m&&!E m) full.size).set (Hs m).length (.own z):=by
  refine O4 (by simp[uw]) λp=>?_;rw[qP _ _ _ _ iO,eX.rL,eX.rL,DU,uv];simp only[gE];split
  .subst_vars;rw[e3,qO,if_pos rfl]
  .rfl
 obtain⟨h1,h2⟩:=hI.inv.st.hr.aqy e6 iO tP e5 e8;have cZ:∀n,E n=true->n≠m->bk n≠bk m:=λn hn h e=>h (hI.inj n m hn hm e);refine⟨(d,v m)::fm,iB ρ (Hs m).length ⟨bk m,0,0,0,false,false⟩,⟨⟨λs=>?_,?_,λn hn FK p g1 g2=>?_,λn hn FK id b k e j hj FJ=>?_⟩,λn hn=>?_,λn hn=>?_,λn k hn hk=>hI.inj n k (by simp at hn;exact hn.1) (by simp at hk;exact hk.1)⟩⟩
 .obtain⟨g1,g2⟩:=hI.inv.mix s;simp only[Am.get];refine⟨λj hj yF=>?_,λh=>?_⟩
  .by_cases yE:d=s
   .subst yE;obtain rfl:=hu j m (wg j hj) Lm d yF e1;rw[if_pos rfl];simp
   .rw[if_neg yE,g1 j hj yF];have CB:j≠m:=by rintro rfl;rw[e1]at yF;simp at yF;exact yE yF
    simp[CB]
  .have:d≠s:=by rintro rfl;exact h m O9 e1
   rw[if_neg this];exact g2 h
 .rw[e2'];refine⟨λs=>?_,hI.inv.st.sz,hI.inv.st.df,h1,hI.inv.st.kp,λp L hl hL hn=>?_,Yv hI.inv.st.st h2⟩
  .simp only[Am.get];split
   .rename_i yE;subst yE;rw[e2,e4];exact⟨_,_,iZ _ _ _,rfl,aB _,λ_=>⟨rfl,by simp,rfl⟩⟩
   .exact(hI.inv.st.fr s).mono h2
  .rw[qP _ _ _ _ iO]at hl;by_cases e:p=(Hs m).length
   .subst e;rw[iZ]at hL;simp at hL;subst hL;exact .inr e7
   .rw[if_neg e]at hl;rw[fN _ _ e]at hL;exact hI.inv.st.ow p L hl hL hn
 .have F2:n≠m:=by rintro rfl;rw[DL]at FK;simp at FK
  have aol:(S n&&!E n)=false:=by rw[DL]at FK;simpa[F2]using FK
  rw[fN _ _ ?_]
  .exact hI.inv.un n hn aol p g1 g2
  .rintro rfl;rcases cX n m with aG|oN
   .have:=eX.lens (a:=n+1) (b:=m) aG ω;omega
   .have:=eX.lens (a:=m+1) (b:=n) ω ω;omega
 .have CB:(S j&&!E j)=false:=by rw[DL]at FJ;simp only[Y7]at FJ;exact FJ.1
  rw[DL]at FK;by_cases F2:n=m
  .subst F2;rw[uv]at e;simp at e
  .exact hI.inv.sk n hn (by simpa[F2]using FK) id b k e j hj CB
 .simp at hn;exact hI.sub n hn.1
 .simp only[aQ,decide_eq_true_eq]at hn;obtain⟨⟨d',z',Ru,t',g1,g2,g3,g4,g5,g6⟩,g7,g8⟩:=hI.ea n hn.1;rw[e2'];refine⟨⟨d',z',Ru,t',g1,g2,g3,g4,g5,g6.mono λ_ _ h=>h.mono h2⟩,g7,λp L hl hL Ln=>?_⟩;rw[qP _ _ _ _ iO]at hl;by_cases e:p=(Hs m).length
  .subst e;rw[iZ]at hL;simp at hL;subst hL;exact λe=>cZ n hn.1 hn.2 e.symm
  .rw[if_neg e]at hl;rw[fN _ _ e]at hL;exact g8 p L hl hL Ln
theorem ao4{E':Nat->Bool}(eX:TF full Hs ts)(hu:∀m n,m<full.size->n<full.size->∀d,kr full m=some d->kr full n=some d->m=n)(wg:∀m,S m=true->m<full.size)(Lu:∀m,E' m=true->E m=true)(wm:∀m,E m=true->E' m=false->∀j,j<m->S j=false->ts j≠.jg/\∀A B,ts j≠.cl A B)(sD:∀m,E m=true->∀j,m<j->S j=true->¬dU (ts j) .mk)(hI:Inv2 full N w0 M (F 0) Hs v ts S E bk fm ρ a w):∃lh bg,Inv2 full N w0 M (F 0) Hs v ts S E' bk lh bg a w:=by
 have key:∀n,∃lh bg,Inv2 full N w0 M (F 0) Hs v ts S (λm=>E m&&(decide (n<=m)||E' m)) bk lh bg a w:=by
  intro n;induction n with
 |zero=>
    refine⟨fm,ρ,?_⟩;have:(λm=>E m&&(decide (0<=m)||E' m))=E:=by funext m;simp
    rw[this];exact hI|succ n ih=>
    obtain⟨lh,bg,h⟩:=ih;by_cases hc:E n=true/\E' n=false
    .obtain⟨Tt,AQ,h2⟩:=ao6 eX hu (m:=n) (by simp[hc.1]) (wm n hc.1 hc.2) (sD n hc.1) wg h;refine⟨Tt,AQ,?_⟩;have:(λm=>E m&&(decide (n+1<=m)||E' m))=λk=>(E k&&(decide (n<=k)||E' k))&&decide (k≠n):=by
      funext m;by_cases e:m=n
      .subst e;simp[hc.2]
      .have:(n+1<=m)↔(n<=m):=ω
       simp[e,this]
     rw[this];exact h2
    .refine⟨lh,bg,?_⟩;have:(λm=>E m&&(decide (n+1<=m)||E' m))=λk=>(E k&&(decide (n<=k)||E' k)):=by
      funext m;by_cases e:m=n
      .subst e;cases h1:E m
       .simp
       .cases h2:E' m
        .exact(hc ⟨h1,h2⟩).elim
        .simp
      .have:(n+1<=m)↔(n<=m):=ω
       simp[this]
     rw[this];exact h
 obtain⟨lh,bg,h⟩:=key full.size;refine⟨lh,bg,?_⟩;have:E'=λm=>E m&&(decide (full.size<=m)||E' m):=by
  funext m;cases h1:E' m
  .cases h2:E m
   .simp
   .have:=(hI.sub m h2).1;simp;omega
  .simp[Lu m h1]
 rw[this];exact h
def Bl(ts:Nat->Tc)(S:Nat->Bool)(m:Nat):Prop:=∃j,j<m/\S j=false/\(ts j=.jg\/∃A B,ts j=.cl A B)
noncomputable def eS(full:Array Oper)(ts:Nat->Tc)(S:Nat->Bool):Nat->Bool:=λm=>@decide (m<full.size/\S m=true/\ts m=.mk/\Bl ts S m) (Classical.propDecidable _)
theorem yv:eS full ts S m=true↔m<full.size/\S m=true/\ts m=.mk/\Bl ts S m:=by unfold eS;exact@decide_eq_true_iff _ (Classical.propDecidable _)
theorem PO{t:Tc}(h:j6 full m j t u):kn full m j=true\/(t=.mk/\(∃A B,u=.cl A B/\dX A B)/\loose full m j=true):=by
 unfold j6 at h;split at h
 .rename_i A B;by_cases hc:loose full m j=true/\dX A B
  .exact .inr ⟨rfl,⟨A,B,rfl,hc.2⟩,hc.1⟩
  .exact .inl (h hc)
 .exact .inl h
end step
theorem aa2(ht:jC P aa)(mP:P.follows .mixedOrders=true)(full:Array Oper)(hq:vR full=true)(aM:Gt N full.toList=true):RQ P aa N full:=by
 intro id w0 M ρ fr H a w k Q R hs xD hK;obtain⟨F,Hs,v,ts,hF0,KU,qR,_,T0⟩:=amf full.toList 0 [] fr H (fT _) rfl xD;have eX:=qR.tf ht;have zU:∀i o,full[i]?=some o->kr full i=o.dst:=λi o h=>by simp[kr,h]
 subst hF0;have Io:∀i,i<=full.size->AX full v (F 0) (λj=>j<i) (F i):=by
  intro i;induction i with
 |zero=>intro _ s;exact⟨λj hj=>ω,λ_=>rfl⟩|succ i ih=>
    intro hi;obtain⟨o,ho,_,e⟩:=qR.step i (fT _) ω;obtain⟨_,hj⟩:=KB hq ho;rw[e];have:=(ih ω).put ho λd hd j xB e=>(hj j ω d e).1 ω hd;intro s;obtain⟨g1,g2⟩:=this s;exact⟨λj zY=>g1 j ω,λh=>g2 λj zY=>h j ω⟩
 refine wp_region_any mP ?_;have key:∀(fuel:Nat)(cN:Array Bool)(fm:Fr)(ρ:Ro)(a:Act)(w:World),cN.size=full.size->((pj full.size).countP λj=>!cN.getD j true)=fuel->(∀j o,full[j]?=some o->cN.getD j false=true->∀e∈o.after,Region.binds .any e=true->cN.getD e.on false=true)->∀bk,Inv2 full N w0 M (F 0) Hs v ts (λj=>cN.getD j false) (eS full ts λj=>cN.getD j false) bk fm ρ a w->wpAny P .any full R fuel cN a w:=by
  intro fuel;induction fuel with
 |zero=>
    intro cN fm ρ a w cO TV La bk hI2;have FN:∀j,j<full.size->cN.getD j false=true:=by
     intro j hj;rw[List.countP_eq_zero]at TV;have:=TV j (by simpa using hj);simp[rk,cO,hj]at this|-;exact this
    have hE:∀m,eS full ts (λj=>cN.getD j false) m=false:=by
     intro m;cases h:eS full ts (λj=>cN.getD j false) m with
 |false=>rfl|true=>
 obtain⟨h1,_,_,j,h2,h3,_⟩:=yv.1 h;have h3:cN.getD j false=false:=h3;rw[FN j ω]at h3;simp at h3
    have hI:Inv full N w0 M (F 0) Hs v ts (λj=>cN.getD j false) (λj=>cN.getD j false) fm ρ a w:=by
     have:=hI2.inv;simp only[hE,Fb,c8,dL,if_false]at this;exact this
    refine⟨?_,?_⟩
    .unfold Region.ready;rw[List.filter_eq_nil_iff];intro j hj;have:=FN j (by simpa using hj);have zY:j<full.size:=by simpa using hj
     simp[rk,cO,zY]at this|-;simp[this]
    .have ew:St N w0 M ρ fm (Hs full.size) a w:=by
      refine hI.st.cast (λp=>?_) λp hp=>hI.st.hr.fresh p (by rw[uw];exact hp);rw[eX.rL];have e:=eX.Np (i:=full.size) p full.size (aB _);rw[Nat.min_self]at e;rw[<-e];exact YM full.size λm hm cZ=>(cZ (by rw[FN m hm];simp[hm])).elim
     refine hK _ _ T0 ρ a w ⟨λs=>?_,ew.sz,ew.df,ew.hr,ew.kp,ew.ow,ew.st⟩;have:=hI.mix.get_eq (Io full.size (aB _)) (S':=λj=>j<full.size) (λj=>⟨λh=>by
      rcases cX j full.size with h'|h'
      .exact h'
      .simp[rk,rn (show cN.size<=j by omega)]at h,λh=>FN j h⟩) s;rw[<-this];exact ew.fr s|succ fuel ih=>
    intro cN fm ρ a w cO TV La bk hI;have wg:∀j,cN.getD j false=true->j<full.size:=by
     intro j h;rcases cX j full.size with h'|h'
     .exact h'
     .simp[rk,rn (show cN.size<=j by omega)]at h
    refine⟨λfh=>?_,λi hi=>?_⟩
    .exfalso;have hex:∃j,j<full.size/\cN.getD j false=false:=by
      have:0<(pj full.size).countP λj=>!cN.getD j true:=ω
      obtain⟨j,hj,hp⟩:=List.countP_pos_iff.1 this;have zY:j<full.size:=by simpa using hj
      exact⟨j,zY,by simp[rk,cO,zY]at hp|-;exact hp⟩
     obtain⟨j,⟨hj,fz⟩,Ll⟩:∃j,(j<full.size/\cN.getD j false=false)/\∀i,i<j->¬(i<full.size/\cN.getD i false=false):=by
      obtain⟨j0,hj0⟩:=hex;induction j0 using Nat.strongRecOn with|_ j0 ihj=>
        by_cases hx:∃i,i<j0/\(i<full.size/\cN.getD i false=false)
        .obtain⟨i,h1,h2⟩:=hx;exact ihj i h1 h2
        .exact⟨j0,hj0,λi hi hc=>hx ⟨i,hi,hc⟩⟩
     have Pb:j∈Region.ready .any full cN:=by
      unfold Region.ready;rw[List.mem_filter];refine⟨by simpa using hj,?_⟩;obtain⟨o,ho⟩:∃o,full[j]?=some o:=⟨full[j],by simp⟩;obtain⟨hed,_⟩:=KB hq ho;have h1:cN.getD j true=false:=by simp[rk,cO,hj]at fz|-;exact fz
      simp only[h1,Fb,gG,ho,pn,Option.getD_some];rw[agR];intro e he;by_cases hb:Region.binds .any e=true
      .have aG:=hed e he hb;have:=Ll e.on aG;have:cN.getD e.on false=true:=by cases hh:cN.getD e.on false with
 |true=>rfl|false=>exact(this ⟨ω,hh⟩).elim
       simp[this]
      .simp at hb;simp[hb]
     rw[fh]at Pb;simp at Pb
    .unfold Region.ready at hi;rw[List.mem_filter]at hi;obtain⟨hir,hip⟩:=hi;have xA:i<full.size:=by simpa using hir
     obtain⟨o,ho⟩:∃o,full[i]?=some o:=⟨full[i],by simp⟩;simp only[aQ,gY,ho,pn,Option.getD_some]at hip;obtain⟨T6,hie⟩:=hip;have FV:cN.getD i false=false:=by simp[rk,cO,xA]at T6|-;exact T6
     have TY:∀e∈o.after,Region.binds .any e=true->cN.getD e.on false=true:=by
      intro e he hb;have:=agR.1 hie e he;simpa[hb]using this
     obtain⟨hed,hj⟩:=KB hq ho;have Pd:∀m b,b<m->m<full.size->cN.getD m false=true->cN.getD b false=false->dU (ts m) (ts b)->ts m=.mk/\(∃A B,ts b=.cl A B/\dX A B)/\loose full m b=true:=by
      intro m b hbm hm Lf DS hc;rcases PO (qR.tie m b (fT _) hbm hm hc)with h|h
      .have:=agd (S:=λj=>cN.getD j false=true) La h Lf;rw[DS]at this;simp at this
      .exact h
     have O8:∀b,b<i->cN.getD b false=false->kn full i b=true->False:=by
      intro b yA DS h;have:=agd (S:=λj=>cN.getD j false=true\/j=i) (λj oj CG FJ e he hb=>?_) h (.inr rfl)
      .rcases this with h|h
       .rw[DS]at h;simp at h
       .omega
      .rcases FJ with h|rfl
       .exact .inl (La j oj CG h e he hb)
       .rw[ho]at CG;simp at CG;subst CG;exact .inl (TY e he hb)
     have hEb:∀m,eS full ts (λj=>cN.getD j false) m=true->∃b,b<m/\cN.getD b false=false/\(∃A B,ts b=.cl A B)/\loose full m b=true:=by
      intro m hm;obtain⟨h1,h2,h3,b,h4,h5,h6⟩:=yv.1 hm;have hc:dU (ts m) (ts b):=by rw[h3];rcases h6 with h6|⟨A,B,h6⟩<;>rw[h6]<;>simp[dU]
      obtain⟨_,⟨A,B,e,_⟩,h7⟩:=Pd m b h4 h1 h2 h5 hc;exact⟨b,h4,h5,⟨A,B,e⟩,h7⟩
     have zQ:∀t∈looks full o,Am.get fm t=Am.get (F i) t:=by
      intro t aG;by_cases hx:∃j,j<full.size/\kr full j=some t
      .obtain⟨j,xC,yF⟩:=hx;obtain⟨_,h3⟩:=hj j xC t yF;obtain⟨cZ,wm,sD⟩:=h3 aG;rcases cX j i with xB|xB
       .obtain⟨o',kv,e,he,nD,hb⟩:=aa8 (wm xB);rw[ho]at kv;simp at kv;subst kv;have sE:cN.getD j false=true:=by rw[<-nD];exact TY e he hb
        have hEj:eS full ts (λj=>cN.getD j false) j=false:=by cases h:eS full ts (λj=>cN.getD j false) j with
 |false=>rfl|true=>
           exfalso;obtain⟨b,h4,h5,_,h7⟩:=hEb j h;obtain⟨oj,d,_,g1,g2,_,g3⟩:=acF h7;have:d=t:=by rw[zU j oj g1,g2]at yF;simpa using yF
           subst this;exact O8 b ω h5 (g3 i o ho aG)
        rw[(hI.inv.mix t).1 j sE yF,(Io i ω t).1 j xB yF,hEj];simp
       .obtain⟨o',kv,e,he,nD,hb⟩:=aa8 (sD ω);have uniq:∀m,m<full.size->kr full m=some t->m=j:=by
         intro m Lm Lh;rcases Nat.decEq m j with h|h
         .obtain⟨om,Lr⟩:∃om,full[m]?=some om:=⟨full[m],by simp⟩;obtain⟨_,CB⟩:=KB hq Lr;exact((CB j xC t yF).1 h (by rw[<-zU m om Lr,Lh])).elim
         .exact h
        have CF:¬cN.getD j false=true:=by
         intro hl;have:=La j o' kv hl e he hb;rw[nD,FV]at this;simp at this
        rw[(hI.inv.mix t).2 (λm CE Lh=>CF (by rw[<-uniq m (wg m CE) Lh];exact CE)),(Io i ω t).2 (λm Ub Lh=>by have:=uniq m ω Lh;omega)]
      .have rM:∀j,j<full.size->kr full j≠some t:=λj hj e=>hx ⟨j,hj,e⟩;rw[(hI.inv.mix t).2 (λj fz=>rM j (wg j fz)),(Io i ω t).2 (λj xB=>rM j ω)]
     have Ii:yp N o.dst=true:=by
      have:=cE.1 aM o (by rw[<-Array.getElem?_toList]at ho;exact Dq ho);exact this
     have yH:∀j,(cN.setIfInBounds i true).getD j false=(cN.getD j false||decide (j=i)):=by
      intro j;simp only[rk,Array.getElem?_setIfInBounds];by_cases xB:i=j
      .subst xB;simp[cO,xA]
      .rw[if_neg xB,decide_eq_false (λe:j=i=>xB e.symm),vC]
     have abN:((pj full.size).countP λj=>!(cN.setIfInBounds i true).getD j true)=fuel:=by
      have hc:=(akO (λj=>!cN.getD j true) (λj=>!(cN.setIfInBounds i true).getD j true) i (by simp only[T6,Fb]) (by simp[rk,cO,xA]) (λj xB=>by
 simp only[rk,Array.getElem?_setIfInBounds];rw[if_neg (λe=>xB e.symm)]) full.size).1 xA;omega
     have abO:∀j o,full[j]?=some o->(cN.setIfInBounds i true).getD j false=true->∀e∈o.after,Region.binds .any e=true->(cN.setIfInBounds i true).getD e.on false=true:=by
      intro j oj CG sE e he hb;rw[yH]at sE|-;simp only[gj,decide_eq_true_eq]at sE|-;rcases sE with sE|rfl
      .exact .inl (La j oj CG sE e he hb)
      .rw[ho]at CG;simp at CG;subst CG;exact .inl (TY e he hb)
     have aoQ:∀m n,m<full.size->n<full.size->∀d,kr full m=some d->kr full n=some d->m=n:=by
      intro m n hm hn d h1 h2;rcases Nat.decEq m n with h|h
      .obtain⟨om,Lr⟩:∃om,full[m]?=some om:=⟨full[m],by simp⟩;obtain⟨_,CB⟩:=KB hq Lr;exact((CB n hn d h2).1 h (by rw[<-zU m om Lr,h1])).elim
      .exact h
     have yE:∀d,o.dst=some d->∀j,cN.getD j false=true->kr full j≠some d:=λd hd j fz e=>(hj j (wg j fz) d e).1 (by rintro rfl;simp only[FV]at fz;simp at fz) hd;have abY:(Region.wanted o (yielded full a.tmps)=true->o.wp P a w (wpAny P .any full R fuel (cN.setIfInBounds i true)) R)/\(Region.wanted o (yielded full a.tmps)=false->wpAny P .any full R fuel (cN.setIfInBounds i true) (a.put o.dst undef) w):=by
      by_cases TX:ts i=.mk/\Bl ts (λj=>cN.getD j false) i
      .obtain⟨uv,b,hb,DS,qh⟩:=TX;have DS:cN.getD b false=false:=DS;have hc:dU (ts i) (ts b):=by rw[uv];rcases qh with h6|⟨A,B,h6⟩<;>rw[h6]<;>simp[dU]
       have tM:loose full i b=true:=by
        rcases PO (qR.tie i b (fT _) hb xA hc)with h|h
        .exact(O8 b hb DS h).elim
        .exact h.2.2
       refine ao3 (T:=λj=>(cN.setIfInBounds i true).getD j false) qR xA ho Ii FV yH tM uv zQ yE hI λlh Sz a' w' mE=>?_;refine ih _ lh ρ a' w' (by simpa using cO) abN abO Sz ?_;have:(eS full ts λj=>(cN.setIfInBounds i true).getD j false)=λm=>eS full ts (λj=>cN.getD j false) m||decide (m=i):=by
        funext m;rw[Bool.eq_iff_iff,gj,yv,yv,decide_eq_true_eq];have TN:Bl ts (λj=>(cN.setIfInBounds i true).getD j false) m↔Bl ts (λj=>cN.getD j false) m:=by
         constructor
         .rintro⟨j,h1,h2,h3⟩;have h2:(cN.setIfInBounds i true).getD j false=false:=h2;rw[yH]at h2;exact⟨j,h1,(Y7.1 h2).1,h3⟩
         .rintro⟨j,h1,h2,h3⟩;have h2:cN.getD j false=false:=h2;refine⟨j,h1,?_,h3⟩;show(cN.setIfInBounds i true).getD j false=false;rw[yH,h2];have:j≠i:=by rintro rfl;rw[uv]at h3;simp at h3
          simp[this]
        constructor
        .rintro⟨h1,h2,h3,h4⟩;have h2:(cN.setIfInBounds i true).getD m false=true:=h2;rw[yH]at h2;simp only[gj,decide_eq_true_eq]at h2;rcases h2 with h2|h2
         .exact .inl ⟨h1,h2,h3,TN.1 h4⟩
         .exact .inr h2
        .rintro(⟨h1,h2,h3,h4⟩|rfl)
         .have h2:cN.getD m false=true:=h2;exact⟨h1,by show(cN.setIfInBounds i true).getD m false=true;rw[yH,h2];rfl,h3,TN.2 h4⟩
         .exact⟨xA,by show(cN.setIfInBounds m true).getD m false=true;rw[yH];simp,uv,TN.2 ⟨b,hb,DS,qh⟩⟩
       rw[this];exact mE
      .have TB:∀m,eS full ts (λj=>cN.getD j false) m=true->∀j,m<j->j<full.size->(cN.getD j false=true\/j=i)->dU (ts j) .mk->False:=by
        intro m hm j hmj hj sE hc;obtain⟨b,h4,h5,⟨A,B,h6⟩,_⟩:=hEb m hm;have O1:dU (ts j) (ts b):=by rw[h6];cases hh:ts j<;>rw[hh]at hc<;>simp[dU]at hc|-
        have F2:ts j≠.mk:=by intro h;rw[h]at hc;simp[dU]at hc
        rcases sE with sE|rfl
        .exact F2 (Pd j b ω hj sE h5 O1).1
        .rcases PO (qR.tie j b (fT _) ω xA O1)with h|h
         .exact O8 b ω h5 h
         .exact F2 h.1
       have wm:∀m,m<i->(cN.getD m false&&!eS full ts (λj=>cN.getD j false) m)=false->¬dU (ts i) (ts m):=by
        intro m hm hmf hc;cases Lf:cN.getD m false with
 |false=>
          rcases PO (qR.tie i m (fT _) hm xA hc)with h|⟨h1,⟨A,B,h2,_⟩,_⟩
          .exact O8 m hm Lf h
          .exact TX ⟨h1,m,hm,Lf,.inr ⟨A,B,h2⟩⟩|true=>
          rw[Lf]at hmf;have hE:eS full ts (λj=>cN.getD j false) m=true:=by simpa using hmf
          have:=(yv.1 hE).2.2.1;rw[this]at hc;exact TB m hE i hm xA (.inr rfl) hc
       have sD:∀m,i<m->(cN.getD m false&&!eS full ts (λj=>cN.getD j false) m)=true->¬dU (ts m) (ts i):=by
        intro m hm FY hc;simp only[aQ,gY]at FY;obtain⟨h1,⟨A,B,h2,_⟩,_⟩:=Pd m i hm (wg m FY.1) FY.1 FV hc;have:eS full ts (λj=>cN.getD j false) m=true:=yv.2 ⟨wg m FY.1,FY.1,h1,i,hm,FV,.inr ⟨A,B,h2⟩⟩;rw[this]at FY;simp at FY
       have Ug:∀A B,ts i=.cl A B->(∃m,eS full ts (λj=>cN.getD j false) m=true)->dX A B:=by
        rintro A B fj⟨m,hm⟩;obtain⟨h1,h2,h3,_⟩:=yv.1 hm;rcases Nat.lt_trichotomy m i with h|h|h
        .exact(TB m hm i h xA (.inr rfl) (by rw[fj];trivial)).elim
        .subst h;rw[fj]at h3;simp at h3
        .obtain⟨_,⟨A',B',e,hn⟩,_⟩:=Pd m i h h1 h2 FV (by rw[h3,fj];trivial);rw[fj]at e;simp at e;obtain⟨rfl,rfl⟩:=e;exact hn
       refine ao5 (T:=λj=>(cN.setIfInBounds i true).getD j false) ht qR xA ho Ii FV yH wg zQ wm sD yE Ug hI λlh bg a' w' mE=>?_;have Lu:∀m,eS full ts (λj=>(cN.setIfInBounds i true).getD j false) m=true->eS full ts (λj=>cN.getD j false) m=true:=by
        intro m hm;obtain⟨h1,h2,h3,j,h4,h5,h6⟩:=yv.1 hm;have h2:(cN.setIfInBounds i true).getD m false=true:=h2;have h5:(cN.setIfInBounds i true).getD j false=false:=h5;rw[yH]at h2 h5;simp only[Y7]at h5;simp only[gj,decide_eq_true_eq]at h2;rcases h2 with h2|rfl
        .exact yv.2 ⟨h1,h2,h3,j,h4,h5.1,h6⟩
        .exact(TX ⟨h3,j,h4,h5.1,h6⟩).elim
       have f1:∀m,(cN.setIfInBounds i true).getD m false=true->m<full.size:=by
        intro m hm;rw[yH]at hm;simp only[gj,decide_eq_true_eq]at hm;rcases hm with hm|rfl
        .exact wg m hm
        .exact xA
       have f2:∀m,eS full ts (λj=>cN.getD j false) m=true->eS full ts (λj=>(cN.setIfInBounds i true).getD j false) m=false->∀j,j<m->(cN.setIfInBounds i true).getD j false=false->ts j≠.jg/\∀A B,ts j≠.cl A B:=by
        intro m hm jR j CB sE;obtain⟨h1,h2,h3,_⟩:=yv.1 hm;have key:¬(ts j=.jg\/∃A B,ts j=.cl A B):=by
         intro h;have:eS full ts (λj=>(cN.setIfInBounds i true).getD j false) m=true:=by
          refine yv.2 ⟨h1,?_,h3,j,CB,sE,h⟩;have h2:cN.getD m false=true:=h2;show(cN.setIfInBounds i true).getD m false=true;rw[yH,h2];rfl
         rw[this]at jR;simp at jR
        exact⟨λh=>key (.inl h),λA B h=>key (.inr ⟨A,B,h⟩)⟩
       have f3:∀m,eS full ts (λj=>cN.getD j false) m=true->∀j,m<j->(cN.setIfInBounds i true).getD j false=true->¬dU (ts j) .mk:=by
        intro m hm j hmj sE hc;have xC:=f1 j sE;rw[yH]at sE;simp only[gj,decide_eq_true_eq]at sE;exact TB m hm j hmj xC sE hc
       obtain⟨Tt,AQ,h2⟩:=ao4 (E':=eS full ts λj=>(cN.setIfInBounds i true).getD j false) eX aoQ f1 Lu f2 f3 mE;exact ih _ Tt AQ a' w' (by simpa using cO) abN abO bk h2
     unfold wpOp;rw[ho];simp only;cases hw:Region.wanted o (yielded full a.tmps)with
 |true=>rw[if_pos rfl];exact .inl (abY.1 hw)|false=>rw[if_neg (by simp)];exact abY.2 hw
 have aoN:St N w0 M ρ (F 0) H a {w with drawn:=w.drawn+1}:=⟨hs.fr,hs.sz,hs.df,hs.hr.drew,hs.kp.drew,hs.ow,hs.st⟩;have tP:∀j,(xZ full.size false).getD j false=false:=by
  intro j;simp only[rk,agS];split<;>rfl
 have OS:∀m,eS full ts (λj=>(xZ full.size false).getD j false) m=false:=by
  intro m;cases h:eS full ts (λj=>(xZ full.size false).getD j false) m with|false=>rfl|true=>obtain⟨_,h1,_⟩:=yv.1 h;have h1:(xZ full.size false).getD m false=true:=h1;rw[tP]at h1;simp at h1
 have hI0:Inv full N w0 M (F 0) Hs v ts (λj=>(xZ full.size false).getD j false) (λj=>(xZ full.size false).getD j false) (F 0) ρ a {w with drawn:=w.drawn+1}->Inv2 full N w0 M (F 0) Hs v ts (λj=>(xZ full.size false).getD j false) (eS full ts λj=>(xZ full.size false).getD j false) (λ_=>0) (F 0) ρ a {w with drawn:=w.drawn+1}:=by
  intro h;refine⟨?_,λm hm=>?_,λm hm=>?_,λm n hm=>?_⟩
  .simp only[OS,Fb,c8,dL,if_false];exact h
  .rw[OS]at hm;simp at hm
  .rw[OS]at hm;simp at hm
  .rw[OS]at hm;simp at hm
 refine key full.size (xZ full.size false) (F 0) ρ a _ (by simp) ?_ ?_ (λ_=>0) (hI0 ⟨?_,?_,?_,?_⟩)
 .rw[List.countP_eq_length.2]
  .simp
  .intro j hj;have zY:j<full.size:=by simpa using hj
   simp[rk,zY]
 .intro j o ho hl;rw[tP]at hl;simp at hl
 .intro s;refine⟨λj hj=>?_,λ_=>rfl⟩;have hj:(xZ full.size false).getD j false=true:=hj;rw[tP]at hj;simp at hj
 .refine aoN.cast (λp=>?_) λp hp=>?_
  .rw[eX.rL,<-KU];have e:=eX.Np (i:=0) p full.size (aB _);rw[Nat.zero_min]at e;rw[<-e];exact YM full.size λm hm cZ=>(cZ (by rw[tP];simp)).elim
  .rw[uw]at hp;have:=eX.lens (a:=0) (b:=full.size) (fT _) (aB _);exact hs.hr.fresh p (by rw[<-KU];omega)
 .intro m hm _ p h1 _;have:=eX.lens (a:=0) (b:=m) (fT _) ω;exact hs.hr.fresh p (by rw[<-KU];omega)
 .intro m hm hS;rw[tP]at hS;simp at hS
end Go.Am
set_option linter.all false
set_option maxRecDepth 100000
set_option maxHeartbeats 8000000
namespace Go.Am
variable {P:Program}{aa:ja}
def Sc.aj(n:Nat):Sc->Bool|.p id _ _=>decide (id<n)|.sl id _ _ _=>decide (id<n)|.mp id=>decide (id<n)|.f _ cs=>cs.all λc=>decide (c.1<n)|_=>true
def AV.aj(n:Nat):AV->Bool|.c s=>s.aj n|.g l=>l.all (Sc.aj n)|.t l=>l.all λx=>match x with|.c s=>s.aj n|.g l=>l.all (Sc.aj n)|.t _=>true
def cut(ρ:Ro)(n:Nat):Ro:=λi=>if i<n then ρ i else none
theorem kh.cut{ρ:Ro}{id off aX n:Nat}{v:Value}(h:kh ρ id off aX v)(hb:id<n):kh (cut ρ n) id off aX v:=by obtain⟨L,a,h1,h2⟩:=h;exact⟨L,a,by simp[Am.cut,hb,h1],h2⟩
variable {ρ:Ro}{s:Sc}{n:Nat}
theorem b6.cut{v:Value}(h:b6 ρ s v)(hb:s.aj n=true):b6 (Am.cut ρ n) s v:=by
 cases s<;>try exact h
 .exact kh.cut h (by simpa[Sc.aj]using hb)
 .rename_i id off aX len;obtain⟨L,b,c,h1,h2⟩:=h;refine⟨L,b,c,?_,h2⟩;have:id<n:=by simpa[Sc.aj]using hb
  simp[Am.cut,this,h1]
 .obtain⟨cv,h1,h2⟩:=h;refine⟨cv,h1,?_⟩;simp only[Sc.aj]at hb;clear h1;induction h2 with
 |nil=>exact .nil|cons h _ ih=>simp only[bK,aQ,decide_eq_true_eq]at hb;exact .cons (kh.cut h hb.1) (ih hb.2)
 .rename_i id;obtain⟨L,b,h1,h2⟩:=h;have:id<n:=by simpa[Sc.aj]using hb
  exact⟨L,b,by simp[Am.cut,this,h1],h2⟩
variable {l:List Sc}
theorem L2.cut{c:List Value}(h:L2 (b6 ρ) l c)(hb:l.all (Sc.aj n)=true):L2 (b6 (Am.cut ρ n)) l c:=by induction h with|nil=>exact .nil|cons h _ ih=>simp only[bK,aQ]at hb;exact .cons (h.cut hb.1) (ih hb.2)
theorem aZ.cut{x:AV}{v:Value}(h:aZ ρ x v)(hb:x.aj n=true):aZ (Am.cut ρ n) x v:=by cases x with
 |c s=>exact b6.cut h hb|g l=>obtain⟨cs,h1,h2⟩:=h;exact⟨cs,h1,h2.cut hb⟩|t l=>
 obtain⟨vs,h1,h2⟩:=h;refine⟨vs,h1,?_⟩;simp only[AV.aj]at hb;clear h1;induction h2 with
 |nil=>exact .nil|@cons a b l m h _ ih=>
 simp only[bK,aQ]at hb;refine .cons ?_ (ih hb.2);cases a with|c s=>exact b6.cut h hb.1|g l=>obtain⟨cs,h1,h2⟩:=h;exact⟨cs,h1,h2.cut hb.1⟩|t l=>exact h
theorem V1.cut{x:AV}{v:Value}(h:V1 ρ x v)(hb:x.cW.all (Sc.aj n)=true):V1 (Am.cut ρ n) x v:=by cases x with
 |c s=>simp only[AV.cW,bK,dY,c8]at hb;exact b6.cut h hb|g l=>obtain⟨cs,h1,h2⟩:=h;exact⟨cs,h1,h2.cut hb⟩|t l=>exact h.elim
variable {w:World}{i:Nat}
theorem jZ.cut{o:ae}(h:jZ ρ w i o)(hi:i<n)(hb:o.cW.all (Sc.aj n)=true):jZ (Am.cut ρ n) w i o:=by
 have hc:Am.cut ρ n i=ρ i:=by simp[Am.cut,hi]
 cases o with
 |own cs=>obtain⟨L,c,t,h1,h2,h3,h4,h5,h6,h7⟩:=h;exact⟨L,c,t,by rw[hc,h1],h2,h3,h4,h5,h6,h7.cut hb⟩|vec sz cs=>
   obtain⟨L,h1,h2,h3,h4,h5,h6⟩:=h;refine⟨L,by rw[hc,h1],h2,h3,h4,h5,?_⟩;split
   .rename_i hn;rw[if_pos hn]at h6;exact h6
   .rename_i hn;rw[if_neg hn]at h6;obtain⟨c,d,t,h7,h8,h9⟩:=h6;exact⟨c,d,t,h7,h8,h9.cut hb⟩|view cs=>
 obtain⟨L,h1,h2,h3,h4,h5,h6⟩:=h;refine⟨L,by rw[hc,h1],h2,h3,h4,h5,λj s xC=>?_⟩;obtain⟨v,h7,h8⟩:=h6 j s xC;exact⟨v,h7,h8.cut (cE.1 hb s (Dq xC))⟩|map mL es=>
   obtain⟨L,uq,h1,h2,h3,h4,h5,h6,h7⟩:=h;refine⟨L,uq,by rw[hc,h1],h2,h3,h4,h5,h6,?_⟩;simp only[ae.cW]at hb;clear h6;induction h7 with
   |nil=>exact .nil|@cons a e es uq he ht ih=>
     simp only[rZ,fJ,aQ]at hb;exact .cons ⟨he.1,he.2.1.cut hb.1.1,he.2.2.cut hb.1.2⟩ (ih hb.2)
 |iter m since seen last=>obtain⟨L,b,h1,h2,h3,h4,h5,h6,h7⟩:=h;simp only[ae.cW,bK,dY,c8]at hb;exact⟨L,b,by rw[hc,h1],h2,h3,h4,h5,b6.cut h6 hb,h7⟩|dead=>trivial
variable {fr:Fr}
theorem get_mem{s:Nat}:Am.get fr s=.c .any\/(s,Am.get fr s)∈fr:=by induction fr with
 |nil=>exact .inl rfl|cons p fr ih=>
   obtain⟨d,v⟩:=p;simp only[Am.get];split
   .subst_vars;exact .inr (by simp)
   .rcases ih with h|h
    .exact .inl h
    .exact .inr (by simp[h])
def qz:AH->AH->Prop|[],_=>True|o'::r',o::r=>(o'=.dead\/o'=o)/\qz r' r|_::_,[]=>False
variable {H' H:AH}
theorem aAh(h:qz H' H):H'.length<=H.length/\∀i,hg H' i=.dead\/hg H' i=hg H i:=by induction H' generalizing H with|nil=>exact⟨by simp,λi=>.inl (by simp[hg])⟩|cons o' r' ih=>cases H with|nil=>exact h.elim|cons o r=>
 obtain⟨h1,h2⟩:=h;obtain⟨h3,h4⟩:=ih h2;refine⟨by simp;omega,λi=>?_⟩;cases i with|zero=>simpa[hg]using h1|succ i=>simpa[hg]using h4 i
variable {eh:Fr}
theorem Wk.wk(hn:n<=H'.length)(hf:∀p∈eh,Am.get fr p.1=p.2)(hb:(eh.all λp=>p.2.aj H'.length)=true)(hH:qz H' H)(ho:(H'.all λo=>o.cW.all (Sc.aj H'.length))=true):Wk n fr H (eh,H'):=by
 intro ρ w tm h1 h2;obtain⟨hlen,T4⟩:=aAh hH;have dt:∀i,(hg H' i).owned=true->hg H' i=hg H i:=by
  intro i hi;rcases T4 i with e|e
  .rw[e]at hi;simp[ae.owned]at hi
  .exact e
 have Bt:∀i,(hg H' i).live=true->hg H' i=hg H i:=by
  intro i hi;rcases T4 i with e|e
  .rw[e]at hi;simp[ae.live]at hi
  .exact e
 refine⟨Am.cut ρ H'.length,λs=>?_,⟨λi=>?_,λi j Li Lj pI cV cF iH fz iF pJ=>?_,λi hi=>?_⟩,λi L hi hL Uc=>?_,λi hi=>by simp only[Am.cut];rw[if_pos (Dv hi hn)]⟩
 .rcases get_mem (fr:=eh) (s:=s)with h|h
  .show aZ _ (Am.get eh s) _;rw[h];trivial
  .show aZ _ (Am.get eh s) _;have e:=hf _ h;have K0:=cE.1 hb _ h;have:=h1 s;simp only at e;rw[e]at this;exact this.cut K0
 .rcases cX i H'.length with hi|hi
  .show jZ _ _ _ (hg H' i);rcases T4 i with e|e
   .rw[e];trivial
   .have hO:=h2.obj i;rw[<-e]at hO;refine hO.cut hi ?_;have:hg H' i∈H':=by unfold hg;rw[bX,cP hi];simp
    exact cE.1 ho _ this
  .show jZ _ _ _ (hg H' i);rw[ur _ hi];trivial
 .have hi:=eu (ae.ou cV);have hj:=eu fz;simp only at hi hj cV fz;rw[dt i cV]at cV;rw[Bt j fz]at fz;exact h2.sep i j Li Lj pI cV (by simpa[Am.cut,hi]using cF) iH fz (by simpa[Am.cut,hj]using iF) pJ
 .simp only[Am.cut];rw[if_neg (by simp at hi;omega)]
 .have aG:=eu (ae.ou hi);simp only at hi aG;exact⟨i,by rw[<-dt i hi];exact hi,by simpa[Am.cut,aG]using hL⟩
theorem aAi(h:H.take H'.length=H'):qz H' H:=by induction H' generalizing H with|nil=>trivial|cons o r ih=>cases H with|nil=>simp at h|cons x y=>simp only[cT,Ds,cL]at h;exact⟨.inr h.1.symm,ih h.2⟩
theorem Wk.drop(hf:∀p∈eh,Am.get fr p.1=p.2)(hb:(eh.all λp=>p.2.aj H'.length)=true)(hH:H.take H'.length=H')(ho:(H'.all λo=>o.cW.all (Sc.aj H'.length))=true):Wk 0 fr H (eh,H'):=Wk.wk (fT _) hf hb (aAi hH) ho
theorem Wk.trans{S T:Fr×AH}(h:Wk n fr H S)(h':Wk n S.1 S.2 T):Wk n fr H T:=by
 intro ρ w tm h1 h2;obtain⟨Rv,a1,a2,a3,a4⟩:=h ρ w tm h1 h2;obtain⟨AQ,b1,b2,b3,b4⟩:=h' Rv w tm a1 a2;refine⟨AQ,b1,b2,λi L hi hL hn=>?_,λi hi=>by rw[b4 i hi,a4 i hi]⟩;obtain⟨j,hj,tK⟩:=b3 i L hi hL hn;exact a3 j L hj tK hn
theorem Wk.nil(d sz:Nat)(cO:0<sz)(hd:Am.get fr d=.c .az)(hn:n<=H.length):Wk n fr H ((d,.c (.sl H.length 0 0 0))::fr,H++[.vec sz []]):=by
 intro ρ w tm h1 h2;have ew:ib ρ (iB ρ H.length ⟨0,0,0,0,true,true⟩):=by
  intro i Li hi;have:i≠H.length:=by rintro rfl;rw[h2.fresh _ (aB _)]at hi;simp at hi
  exact⟨Li,by rw[fN _ _ this,hi],.inl rfl⟩
 refine⟨iB ρ H.length ⟨0,0,0,0,true,true⟩,λs=>?_,⟨λi=>?_,λi j Li Lj pI cV cF iH fz iF pJ=>?_,λi hi=>?_⟩,λi L hi hL Uc=>?_,λi hi=>fN _ _ ω⟩
 .simp only[Am.get];split
  .rename_i yE;rw[<-yE];have:=h1 d;rw[hd]at this;have e:tm d=.slice none 0 0:=this;rw[e];refine⟨_,none,0,iZ _ _ _,rfl,by simp,ω,ω,aB _,λ_=>?_⟩;rw[if_pos rfl];simp
  .exact(h1 s).mono ew
 .rw[qO];split
  .subst_vars;refine⟨_,iZ _ _ _,rfl,rfl,rfl,cO,?_⟩;rw[if_pos rfl];simp
  .rename_i cZ;exact(h2.obj i).dj ew (fN _ _ cZ) (λ_ _ _ _=>rfl) (aB _)
 .have Lo:i≠H.length:=by rintro rfl;rw[iZ]at cF;simp at cF;subst cF;simp at iH
  have abT:j≠H.length:=by rintro rfl;rw[iZ]at iF;simp at iF;subst iF;simp at pJ
  rw[qO,if_neg Lo]at cV;rw[qO,if_neg abT]at fz;rw[fN _ _ Lo]at cF;rw[fN _ _ abT]at iF;exact h2.sep i j Li Lj pI cV cF iH fz iF pJ
 .simp at hi;rw[fN _ _ ω];exact h2.fresh i ω
 .have Lo:i≠H.length:=by rintro rfl;rw[iZ]at hL;simp at hL;subst hL;simp at Uc
  rw[qO,if_neg Lo]at hi;rw[fN _ _ Lo]at hL;exact⟨i,hi,hL⟩
variable {f:Nat}{fn:Func}{code:Code}{rs:List ResultVar}
theorem awn{s:List AV->Option AV}(mP:P.follows .mixedOrders=true)(ht:jC P aa)(hf:P.funcs[f]?=some fn)(hb:fn.body=some code)(mQ:fn.results=rs.toArray)(hn:fn.ntmps=n)(oQ:(fn.name== "runtime.NumGoroutine")=false)(aM:mw n vR code=true)(h:∀args v,s args=some v->args.length<=n/\args.all AV.pf=true/\v.pf=true/\aK P aa [.c code] (tH 0 args) [] (λfr H=>sJ P fr H rs=some v)):cK P f s:=awm vR hf hb mQ hn oQ ht (λops h1 h2=>aa2 ht mP ops h1 h2) aM h
variable {w':World}
theorem ij.grown(h:ij w (λ_=>False) w'):RowKit.Grown w w':=by
 refine⟨⟨h.os,h.output,λi hi=>?_⟩,λa=>?_,h.size⟩
 .rw[h.jT i hi (λf=>f)];split<;>simp_all
 .rcases cX a.block w.heap.size with hl|hg
  .simp only[World.frozen?];rw[h.jT _ hl (λf=>f)]
  .have e1:w.frozen? a=false:=by simp[World.frozen?,rn hg]
   rw[e1];unfold World.frozen?;split
   .rename_i c t lo hi heq;have:=h.free _ _ _ _ heq (.inl hg);simp at this;obtain⟨rfl,rfl⟩:=this;simp
   .rfl
theorem b6.aj{v:Value}(h:b6 ρ s v)(hf:∀i,n<=i->ρ i=none):s.aj n=true:=by
 have key:∀id L,ρ id=some L->id<n:=by
  intro id L hL;rcases cX id n with h|h
  .exact h
  .rw[hf id h]at hL;simp at hL
 cases s<;>try rfl
 .obtain⟨L,a,h1,_⟩:=(show kh _ _ _ _ _ from h);simp only[Sc.aj,decide_eq_true_eq];exact key _ _ h1
 .obtain⟨L,b,c,h1,_⟩:=(show w5 _ _ _ _ _ _ from h);simp only[Sc.aj,decide_eq_true_eq];exact key _ _ h1
 .obtain⟨cv,hv,h2⟩:=h;clear hv;simp only[Sc.aj];induction h2 with
 |nil=>rfl|cons h _ ih=>
    obtain⟨L,a,h1,_⟩:=h;rw[bK,aQ];exact⟨by simpa using key _ _ h1,ih⟩
 .obtain⟨L,b,h1,_⟩:=h;simp only[Sc.aj,decide_eq_true_eq];exact key _ _ h1
theorem L2.aj{c:List Value}(h:L2 (b6 ρ) l c)(hf:∀i,n<=i->ρ i=none):l.all (Sc.aj n)=true:=by induction h with|nil=>rfl|cons h _ ih=>simp only[bK,ih,c8];exact h.aj hf
theorem aZ.aj{x:AV}{v:Value}(h:aZ ρ x v)(hf:∀i,n<=i->ρ i=none):x.aj n=true:=by cases x with
 |c s=>exact b6.aj h hf|g l=>obtain⟨cs,_,h2⟩:=h;exact h2.aj hf|t l=>
 obtain⟨vs,h1,h2⟩:=h;simp only[AV.aj];clear h1;induction h2 with
 |nil=>rfl|@cons a b l m h _ ih=>
 simp only[bK,ih,c8];cases a with
 |c s=>exact b6.aj h hf|g l=>obtain⟨cs,_,h2⟩:=h;exact h2.aj hf|t l=>rfl
def dF(H:AH):Bool:=H.all λo=>o.cW.all (Sc.aj H.length)
theorem HR.aj(h:HR ρ w H):dF H=true:=by
 unfold dF;rw[cE];intro o ho;obtain⟨i,hi⟩:=RH ho;have hO:=h.obj i;have e:hg H i=o:=by simp[hg,bX,hi]
 rw[e]at hO;cases o with
 |own cs=>obtain⟨L,c,t,_,_,_,_,_,_,h7⟩:=hO;exact h7.aj h.fresh|vec sz cs=>
 obtain⟨L,_,_,_,_,_,h6⟩:=hO;split at h6
 .simp only[ae.cW];simp_all
 .obtain⟨c,d,t,_,_,h9⟩:=h6;exact h9.aj h.fresh|view cs=>
 obtain⟨L,_,_,_,_,_,h6⟩:=hO;simp only[ae.cW];rw[cE];intro s hs;obtain⟨j,hj⟩:=RH hs;obtain⟨v,_,h8⟩:=h6 j s hj;exact h8.aj h.fresh|map mL es=>
   obtain⟨L,uq,_,_,_,_,_,h6,h7⟩:=hO;have hV:∀{x:AV}{v:Value},V1 ρ x v->x.cW.all (Sc.aj H.length)=true:=by
    intro x v hx;cases x with
 |c s=>simp only[AV.cW,bK,dY,c8];exact b6.aj hx h.fresh|g l=>obtain⟨cs,_,h2⟩:=hx;exact h2.aj h.fresh|t l=>rfl
   simp only[ae.cW];clear hi ho e h6;induction h7 with
   |nil=>rfl|@cons a e es uq he ht ih=>
     simp only[rZ,fJ,aQ];exact⟨⟨hV he.2.1,hV he.2.2⟩,ih⟩
 |iter m since seen last=>
 obtain⟨L,b,_,_,_,_,_,h6,_⟩:=hO;simp only[ae.cW,bK,dY,c8];exact b6.aj h6 h.fresh|dead=>rfl
theorem ajK{o:ae}{p:Sc->Bool}(h:o.cW.all p=true):o.cells.all p=true:=by cases o<;>first|exact h|rfl
theorem HR.frozen(h:HR ρ w H):∀b c t f,w.heap[b]?=some (.cells c t f)->mi ρ H b->f=(0,0):=by
 rintro b c t f hb⟨i,L,h1,h2,h3,rfl⟩;have hO:=h.obj i;generalize hg H i=o at hO h1;cases o with
 |own cs=>
 obtain⟨L',c',t',g1,_,_,_,_,g6,_⟩:=hO;rw[h2]at g1;simp at g1;subst g1;rw[hb]at g6;simp at g6;exact g6.2.2|vec sz cs=>
 obtain⟨L',g1,_,_,_,_,g6⟩:=hO;rw[h2]at g1;simp at g1;subst g1;rw[if_neg (by simp[h3])]at g6;obtain⟨c',d,t',g7,_,_⟩:=g6;rw[hb]at g7;simp at g7;exact g7.2.2|view cs=>simp[ae.owned]at h1|map mL es=>obtain⟨L',uq,g1,_,_,_,_,g6,_⟩:=hO;rw[h2]at g1;simp at g1;subst g1;rw[hb]at g6;simp at g6|iter m since seen last=>obtain⟨L',b',g1,_,_,_,_,_,g6⟩:=hO;rw[h2]at g1;simp at g1;subst g1;rw[hb]at g6;simp at g6|dead=>simp[ae.owned]at h1
theorem Tv{s:List AV->AH->Option (AV×AH)}(mP:P.follows .mixedOrders=true)(ht:jC P aa)(hf:P.funcs[f]?=some fn)(hb:fn.body=some code)(mQ:fn.results=rs.toArray)(hn:fn.ntmps=n)(oQ:(fn.name== "runtime.NumGoroutine")=false)(aM:mw n vR code=true)(hle:∀args H v H1,s args H=some (v,H1)->H.length<=H1.length)(h:∀args H v H1,s args H=some (v,H1)->(args.all (AV.aj H.length))=true->dF H=true->args.length<=n/\aK P ((1000000,.lo H.length)::aa) [.c code] (tH 0 args) H (λfr H'=>∃v',sJ P fr H' rs=some v'/\Wk H.length [(0,v')] H' ([(0,v)],H1))):bh P f s:=by
 obtain rfl:fn.results.toList=rs:=by rw[mQ]
 subst hn;refine⟨λargs w=>?_,hle,λargs H v H1 hs ρ w cs cu hH=>?_⟩
 .have hn:¬fn.name= "runtime.NumGoroutine":=by simpa using oQ
  simp[callFunc,hf,hn,hb]
 .have K0:args.all (AV.aj H.length)=true:=by
   clear hs;induction cu with|nil=>rfl|cons h _ ih=>simp only[bK,ih,c8];exact h.aj hH.fresh
  obtain⟨h1,h4⟩:=h args H v H1 hs K0 hH.aj;have hlen:=cu.length;have wo:jC P ((1000000,.lo H.length)::aa):=jC.cons (e:=.lo H.length) trivial ht;refine calls_of_wp hf hb ?_;have ew:St fn.ntmps w ⟨mi ρ H,H.length,ρ⟩ ρ (tH 0 args) H {tmps:=cs.toArray++xZ (fn.ntmps-cs.toArray.size) undef,defers:=[]} w:=by
   refine⟨λx=>?_,by simp;omega,rfl,hH,ij.refl w _ hH.frozen,λi L h1 h2 h3=>.inl ⟨i,L,h1,h2,h3,rfl⟩,λi _ L hL=>⟨L,hL,.inl rfl⟩⟩;have:=abH args cs cu 0 x;rw[if_pos (fT _),Nat.sub_zero]at this;have e:(cs.toArray++xZ (fn.ntmps-cs.toArray.size) undef).getD x undef=cs.getD x undef:=by
    rw[rk,bX,Array.getElem?_append];split
    .simp
    .rename_i hx;simp at hx;rw[kf hx,agS];split<;>rfl
   rw[e];exact this
  have DQ:=sound (M:=⟨mi ρ H,H.length,ρ⟩) (aB _) wo vR (λops h1 h2=>aa2 wo mP ops h1 h2) (fQ [.c code]) [.c code] (aB _) (by
 simp only[CY,bK,dY,c8,yN];exact aM) _ _ h4 _ _ _ ew;refine wp_mono (show code.wp P (Kp P fn.ntmps w ⟨mi ρ H,H.length,ρ⟩ _ []) _ w from DQ) ?_;intro e a2 w2 hq;have fin:SI fn.ntmps w ⟨mi ρ H,H.length,ρ⟩ (λfr H'=>∃v',sJ P fr H' fn.results.toList=some v'/\Wk H.length [(0,v')] H' ([(0,v)],H1)) a2 w2->a2.defers=[]/\∃v',(results fn a2.tmps).run P w2=.ok v' w2/\∃vc bg,Ending.returned v'=.returned vc/\aZ bg v vc/\HR bg w2 H1/\ib ρ bg/\ij w (mi ρ H) w2/\(∀b,mi bg H1 b->mi ρ H b\/w.heap.size<=b):=by
   rintro⟨AQ,fr2,H2,nG,v',Il,Us⟩;obtain⟨vc,h5,h6⟩:=aeV (P:=P) Il nG.fr nG.hr.obj;obtain⟨Rx,g1,g2,g3,g4⟩:=Us AQ w2 (λx=>if x=0 then vc else undef) (λx=>by
    simp only[Am.get];by_cases e:0=x
    .subst e;simpa using h6
    .rw[if_neg e];trivial) nG.hr;have hv:aZ Rx v vc:=by have:=g1 0;simpa[Am.get]using this
   refine⟨nG.df,vc,h5,vc,Rx,rfl,hv,g2,λi L hL=>?_,nG.kp,?_⟩
   .have hi:i<H.length:=by
     rcases cX i H.length with h|h
     .exact h
     .rw[hH.fresh i h]at hL;simp at hL
    rw[g4 i hi];exact nG.st i hi L hL
   .rintro b⟨i,L,e1,e2,e3,rfl⟩;obtain⟨j,e4,e5⟩:=g3 i L e1 e2 e3;exact nG.ow j L e4 e5 e3
  cases e<;>first|exact fin hq|exact hq.elim
theorem aE(H:AH):qz H H:=by induction H with|nil=>trivial|cons o r ih=>exact⟨.inr rfl,ih⟩
theorem aC(H X:AH):qz H (H++X):=by induction H with|nil=>trivial|cons o r ih=>exact⟨.inr rfl,ih⟩
variable {Q:Fr->AH->Prop}
theorem aij{R:Fr->AH->Prop}(h:∀fr H,Q fr H->R fr H):∀(n:Nat)(k:List It),fQ k<=n->∀fr H,aK P aa k fr H Q->aK P aa k fr H R:=by
 intro n;induction n with
 |zero=>
   intro k hk fr H hr;cases k with
   |nil=>rw[Kl]at hr|-;exact h _ _ hr|cons x k=>exfalso;cases x<;>simp[fQ,It.wt]at hk;rename_i c;cases c<;>simp[iD]at hk
 |succ n ih=>
 intro k hk fr H hr;cases k with|nil=>rw[Kl]at hr|-;exact h _ _ hr|cons x k=>cases x with
 |dW id=>rw[R3]at hr|-;exact ih k (by simp[fQ,It.wt]at hk|-;omega) _ _ hr|back I=>rw[R2]at hr|-;exact hr|sM=>rw[Si]at hr|-;exact ih k (by simp[fQ,It.wt]at hk|-;omega) _ _ hr|zb l J=>rw[Sg]at hr|-;exact ih k (by simp[fQ,It.wt]at hk|-;omega) _ _ hr|ops full l=>cases l with|nil=>rw[Sa]at hr|-;exact ih k (by simp[fQ,It.wt]at hk|-;omega) _ _ hr|cons o l=>
        have go:∀fr H,aK P aa (.ops full l::k) fr H Q->aK P aa (.ops full l::k) fr H R:=λfr H hr=>ih (.ops full l::k) (by simp[fQ,It.wt]at hk|-;omega) _ _ hr;rw[NS]at hr|-;split at hr
        .split at hr
         .exact go _ _ hr
         .split at hr
          .exact λv H' hm=>go _ _ (hr v H' hm)
          .exact hr.elim
        .split at hr
         .split at hr
          .rename_i e;simp only[e,if_true];split at hr
           .exact go _ _ hr
           .exact hr.elim
          .rename_i e;simp only[e,if_false];exact go _ _ hr
         .exact go _ _ hr
         .exact hr.elim|dr full l i log=>cases l with|nil=>rw[R6]at hr|-;exact ih k (by simp[fQ,It.wt]at hk|-;omega) _ _ hr|cons o l=>
        have go:∀fr H i log,aK P aa (.dr full l i log::k) fr H Q->aK P aa (.dr full l i log::k) fr H R:=λfr H i log hr=>ih (.dr full l i log::k) (by simp[fQ,It.wt]at hk|-;omega) _ _ hr;rw[NR]at hr|-;split at hr
        .split at hr
         .exact⟨hr.1,go _ _ _ _ hr.2⟩
         .exact hr.elim
        .split at hr
         .split at hr
          .rename_i e;simp only[e,if_true];split at hr
           .exact⟨hr.1,go _ _ _ _ hr.2⟩
           .exact hr.elim
          .rename_i e;simp only[e,if_false];exact go _ _ _ _ hr
         .exact go _ _ _ _ hr
         .exact hr.elim|c x=>
      have uz:0<iD x:=by cases x<;>simp[iD]
      have hkk:∀fr H,aK P aa k fr H Q->aK P aa k fr H R:=λfr H hr=>ih k (by simp[fQ,It.wt]at hk|-;omega) _ _ hr;cases x with
 |skip=>rw[Sk]at hr|-;exact hkk _ _ hr|region id ops d=>cases d with|false=>rw[Sb]at hr|-;exact ih (.ops ops ops.toList::k) (by simp[fQ,It.wt,iD]at hk|-;omega) _ _ hr|true=>rw[Sd]at hr|-;exact ih (.dr ops ops.toList 0 []::k) (by simp[fQ,It.wt,iD]at hk|-;omega) _ _ hr
 |seq a b=>rw[Sj]at hr|-;exact ih (.c a::.c b::k) (by simp[fQ,It.wt,iD]at hk|-;omega) _ _ hr|cond v a b=>
        rw[R5]at hr|-;split at hr
        .split at hr
         .rename_i e;rw[if_pos e];exact ih (.c a::k) (by simp[fQ,It.wt,iD]at hk|-;omega) _ _ hr
         .rename_i e;rw[if_neg e];exact ih (.c b::k) (by simp[fQ,It.wt,iD]at hk|-;omega) _ _ hr
        .exact⟨ih (.c a::k) (by simp[fQ,It.wt,iD]at hk|-;omega) _ _ hr.1,ih (.c b::k) (by simp[fQ,It.wt,iD]at hk|-;omega) _ _ hr.2⟩
        .exact hr.elim|block id a=>rw[R4]at hr|-;exact ih (.c a::.dW id::k) (by simp[fQ,It.wt,iD]at hk|-;omega) _ _ hr|loop a=>
 rw[rz]at hr|-;obtain⟨ι,F,μ,i0,h0,h1⟩:=hr;exact⟨ι,F,μ,i0,h0,λi=>ih (.c a::.back _::k) (by simp[fQ,It.wt,iD]at hk|-;omega) _ _ (h1 i)⟩|exit id=>
        rw[R7]at hr|-;split at hr
        .rename_i k' hp;have:=V9 hp;exact ih k' (by simp[fQ,It.wt,iD]at hk this|-;omega) _ _ hr
        .exact hr.elim|label l=>rw[R9]at hr|-;exact hkk _ _ hr|goto l=>rw[R8]at hr|-;exact hr|scope a=>
        rw[Sh]at hr|-;rcases hr with hr|⟨l,rest,J,hf,h1,hle,h2⟩
        .exact .inl (ih (.c a::.sM::k) (by simp[fQ,It.wt,iD]at hk|-;omega) _ _ hr)
        .exact .inr ⟨l,rest,J,hf,ih (.c a::.zb l J::k) (by simp[fQ,It.wt,iD]at hk|-;omega) _ _ h1,hle,λfr H hj=>ih (.c rest::.sM::k) (by simp[fQ,It.wt,iD]at hk|-;omega) _ _ (h2 fr H hj)⟩|ret=>rw[Se]at hr|-;exact h _ _ hr|_=>rw[aK]at hr<;>first|exact hr.elim|simp
theorem abt{code:Code}{rs:List ResultVar}{n:Nat}{s:List AV->AH->Option AV}(mP:P.follows .mixedOrders=true)(ht:jC P aa)(hf:P.funcs[f]?=some fn)(hb:fn.body=some code)(mQ:fn.results=rs.toArray)(hn:fn.ntmps=n)(oQ:(fn.name== "runtime.NumGoroutine")=false)(aM:mw n vR code=true)(h:∀args H v,s args H=some v->(args.all (AV.aj H.length))=true->dF H=true->args.length<=n/\v.aj H.length=true/\aK P ((1000000,.lo H.length)::aa) [.c code] (tH 0 args) H (λfr H'=>sJ P fr H' rs=some v/\qz H H')):bh P f λargs H=>(s args H).map λv=>(v,H):=by
 refine Tv mP ht hf hb mQ hn oQ aM (λargs H v H1 hs=>by simp only[eE,bE]at hs;obtain⟨_,_,_,rfl⟩:=hs;exact aB _) λargs H v H1 hs b9 hH=>?_;simp only[eE,bE]at hs;obtain⟨v',h1,rfl,rfl⟩:=hs;obtain⟨h2,h3,h4⟩:=h args H v' h1 b9 hH;refine⟨h2,?_⟩;have key:∀fr H',(sJ P fr H' rs=some v'/\qz H H')->∃x,sJ P fr H' rs=some x/\Wk H.length [(0,x)] H' ([(0,v')],H):=by
  rintro fr H'⟨e1,e2⟩;exact⟨v',e1,Wk.wk (aB _) (by simp[Am.get]) (by simp only[bK,h3];rfl) e2 hH⟩
 exact aij key _ _ (aB _) _ _ h4
theorem Su{o:ae}(hH:dF H=true)(ho:o.cW.all (Sc.aj H.length)=true):((H.set i o).all λx=>x.cW.all (Sc.aj (H.set i o).length))=true:=by
 rw[List.length_set,cE];intro x hx;rcases List.mem_or_eq_of_mem_set hx with h|rfl
 .exact cE.1 hH x h
 .exact ho
theorem uK{o:ae}(h:hg H i=o)(hi:i<H.length):H.set i o=H:=by
 have:H[i]=o:=by rw[<-h];simp[hg,bX,hi]
 rw[<-this];exact List.set_getElem_self hi
theorem Sc.ic{s:Sc}{m n:Nat}(h:s.aj m=true)(hmn:m<=n):s.aj n=true:=by
 cases s<;>try rfl
 .simp only[Sc.aj,decide_eq_true_eq]at h|-;omega
 .simp only[Sc.aj,decide_eq_true_eq]at h|-;omega
 .simp only[Sc.aj,cE,decide_eq_true_eq]at h|-;exact λc hc=>Dv (h c hc) hmn
 .simp only[Sc.aj,decide_eq_true_eq]at h|-;omega
end Go.Am
namespace Go.Am
variable {P:Program}
inductive K where|n(k:IntKind)|q|s
def jY:Sc->K->Prop|.i x,.n .i64=>-9223372036854775808<=x/\x<=9223372036854775807|.u _,.n .u64=>True|.k kd x,.n kd'=>kd=kd'/\kd.bits<=32/\kd.min<=x/\x<=kd.max|.b _,.q=>True|.s t,.s=>t.size<=9223372036854775807|_,_=>False
def KL(g:TypeId->Option (List K))(P:Program):List Field->Nat->Option (List K)
 |[],_=>some []|f::r,off=>if f.offset=off then match g f.type,KL g P r (off+P.cellsOf f.type)with
 |some a,some b=>if a.length=P.cellsOf f.type then some (a++b)else none|_,_=>none else none
def vX(P:Program):Nat->TypeId->Option (List K)|0,_=>none|d+1,t=>match P.underlying t with|some .bool=>some [.q]|some (.int k)=>some [.n k]|some .string=>some [.s]|some (.struct fs)=>(KL (vX P d) P fs.toList 0).bind λl=>if l.length=P.cellsOf t then some l else none|some (.array m e)=>(vX P d e).bind λl=>if l.length=P.cellsOf e/\m*l.length=P.cellsOf t then some (bD m l).flatten else none|_=>none
variable {ρ:Ro}
section
variable {H:Type}{enc:TypeId×Value->H}{w:World}{base:Nat}{sp:Nat->Bool}{held:Bool}
def Read(ρ:Ro)(cs:List Value)(ks:List K)(x:List MemPlace):Prop:=x=[]/\∃l,L2 jY l ks/\L2 (b6 ρ) l cs
theorem ao2{k:IntKind}{n:Int}(h:(Lit.int k n).wf=true):∃l,L2 jY l [.n k]/\L2 (b6 ρ) l [.int k n]:=by
 simp only[Lit.wf,aQ,decide_eq_true_eq]at h;by_cases h1:k=.i64
 .subst h1;have h2:-9223372036854775808<=n/\n<=9223372036854775807:=h;exact⟨[.i n],.cons h2 .nil,.cons ⟨rfl,h2⟩ .nil⟩
 .by_cases h3:k=.u64
  .subst h3;have h2:0<=n/\n<=18446744073709551615:=h;refine⟨[.u (aw 64 n)],.cons trivial .nil,.cons ?_ .nil⟩;show Value.int .u64 n=.int .u64 _;congr 1;rw[BitVec.toNat_ofInt];omega
  .have hb:k.bits<=32:=by cases k<;>simp[IntKind.bits]at h1 h3|-
   exact⟨[.k k n],.cons ⟨rfl,hb,h.1,h.2⟩ .nil,.cons ⟨rfl,hb,h.1,h.2⟩ .nil⟩
theorem ann{ρ:Ro}{g:TypeId->Option (List K)}{r:TypeId->List Value->Option (DataW H×List MemPlace)}(hg:∀t cs x ks,g t=some ks->r t cs=some x->Read ρ cs ks x.2)(cs:List Value):∀(fs:List Field)(off:Nat)(ks:List K)(xs:List (DataW H×List MemPlace)),KL g P fs off=some ks->(fs.mapM λf=>r f.type ((cs.drop f.offset).take (P.cellsOf f.type)))=some xs->Read ρ ((cs.drop off).take ks.length) ks (xs.flatMap (·.2)):=by
 intro fs;induction fs with
 |nil=>
 intro off ks xs h1 h2;simp[KL]at h1;subst h1;simp at h2;subst h2;exact⟨rfl,[],.nil,by simp;exact .nil⟩|cons f fs ih=>
   intro off ks xs h1 h2;simp only[KL]at h1;split at h1<;>try(simp at h1;done)
   rename_i ho;split at h1<;>try(simp at h1;done)
   rename_i a b ha hb;split at h1<;>simp at h1;rename_i hl;subst h1;simp only[Hl,ND,mh,RL,ar]at h2;obtain⟨x,hx,ys,hy,rfl⟩:=h2;obtain⟨e1,l1,h3,h4⟩:=hg _ _ _ _ ha hx;obtain⟨e2,l2,h5,h6⟩:=ih _ _ _ hb hy;refine⟨by simp[e1,e2],l1++l2,h3.app h5,?_⟩;rw[cj,hl,List.take_add,uR,<-ho];rw[<-ho]at h6;exact h4.app h6
theorem ano{ρ:Ro}{r:List Value->Option (DataW H×List MemPlace)}{ke:List K}(hg:∀cs x,r cs=some x->Read ρ cs ke x.2)(cs:List Value):∀(n i:Nat)(xs:List (DataW H×List MemPlace)),((List.range' i n).mapM λi=>r ((cs.drop (i*ke.length)).take ke.length))=some xs->Read ρ ((cs.drop (i*ke.length)).take (n*ke.length)) (bD n ke).flatten (xs.flatMap (·.2)):=by
 intro n;induction n with
 |zero=>intro i xs h;simp at h;subst h;exact⟨rfl,[],.nil,by simp;exact .nil⟩|succ n ih=>
 intro i xs h;simp only[RE,Hl,ND,mh,RL,ar]at h;obtain⟨x,hx,ys,hy,rfl⟩:=h;obtain⟨e1,l1,h3,h4⟩:=hg _ _ hx;obtain⟨e2,l2,h5,h6⟩:=ih _ _ hy;refine⟨by simp[e1,e2],l1++l2,by rw[yc,Ce];exact h3.app h5,?_⟩;rw[vI,Cg,zu (n*_),List.take_add,uR];rw[vI,Cg]at h6;exact h4.app h6
theorem agj:∀(m d:Nat)(t:TypeId)(cs:List Value)(x:DataW H×List MemPlace)(ks:List K),vX P d t=some ks->DataW.trod enc P w base sp held m t cs=some x->Read ρ cs ks x.2:=by
 intro m;induction m with
 |zero=>intro d t cs x ks _ h;simp[DataW.trod]at h|succ m ih=>
 intro d t cs x ks hk h;cases d with
 |zero=>simp[vX]at hk|succ d=>
     simp only[vX]at hk;split at hk
     .rename_i hu;simp at hk;subst hk;simp only[DataW.trod,hu]at h;split at h<;>simp_all;subst h;exact⟨rfl,[.b _],.cons trivial .nil,.cons rfl .nil⟩
     .rename_i k hu;simp at hk;subst hk;simp only[DataW.trod,hu]at h;split at h<;>simp_all;obtain⟨⟨rfl,hw⟩,rfl⟩:=h;exact⟨rfl,ao2 hw⟩
     .rename_i hu;simp at hk;subst hk;simp only[DataW.trod,hu]at h;split at h<;>simp_all;obtain⟨hw,rfl⟩:=h;have Ip:_<=9223372036854775807:=hw;exact⟨rfl,[.s _],.cons Ip .nil,.cons ⟨rfl,Ip⟩ .nil⟩
     .rename_i fs hu;simp only[mh]at hk;obtain⟨l,hl,hk⟩:=hk;split at hk<;>simp at hk;rename_i hlen;subst hk;simp only[DataW.trod,hu]at h;split at h
      .rename_i qh;simp only[eE]at h;obtain⟨xs,hx,rfl⟩:=h;have:=ann (λt cs x ks h1 h2=>ih d t cs x ks h1 h2) cs _ _ _ _ hl hx;rw[ya,hlen,<-qh,vH]at this;exact this
      .simp at h
     .rename_i n e hu;simp only[mh]at hk;obtain⟨l,hl,hk⟩:=hk;split at hk<;>simp at hk;rename_i hlen;subst hk;simp only[DataW.trod,hu]at h;split at h
      .rename_i qh;simp only[eE]at h;obtain⟨xs,hx,rfl⟩:=h;rw[RF,<-hlen.1]at hx;have:=ano (r:=λc=>DataW.trod enc P w base sp held m e c) (ke:=l) (λcs x h2=>ih d e cs x l hl h2) cs n 0 xs hx;rw[Kc,ya,hlen.2,<-qh,vH]at this;exact this
      .simp at h
     .simp at hk
end
inductive Ch where|fl(agg:Bool)(ks:List K)|sl(ks:List K)|ZG(n:Nat)(ks:List K)
def adW(P:Program)(t:TypeId):Option Ch:=match P.underlying t with
 |some (.slice e)=>(vX P 20 e).bind λl=>if l.length=P.cellsOf e/\0<l.length then some (.sl l)else none|some (.struct _)=>(vX P 20 t).map (.fl true)|some (.array m e)=>match P.underlying e with
   |some (.slice e')=>(vX P 20 e').bind λl=>if l.length=P.cellsOf e'/\0<l.length/\P.cellsOf e=1/\P.cellsOf t=m then some (.ZG m l)else none|_=>(vX P 20 t).map (.fl true)
 |some (.int _)|some .bool|some .string=>(vX P 20 t).map (.fl false)|_=>none
def L6(P:Program):List TypeId->Option (List Ch)|[]=>some []|t::r=>match adW P t,L6 P r with|some a,some b=>some (a::b)|_,_=>none
def Hw(ks:List K)(s:Sc)(H:AH):Prop:=s=.az\/∃id n,s=.sl id 0 0 n/\id<H.length/\(hg H id).row=0/\(hg H id).owned=false/\n<=9223372036854775807/\(hg H id).cells.length=n*ks.length/\L2 jY (hg H id).cells (bD n ks).flatten
variable {ks:List K}{s:Sc}{H X:AH}
theorem Hw.app(h:Hw ks s H):Hw ks s (H++X):=by
 rcases h with h|⟨id,n,h0,h1,h2,h3,h4,h5,h6⟩
 .exact .inl h
 .have e:=cB (X:=X) h1;exact .inr ⟨id,n,h0,by simp;omega,by rw[e];exact h2,by rw[e];exact h3,h4,by rw[e];exact h5,by rw[e];exact h6⟩
def j4:List Ch->List AV->AH->Prop|[],[],_=>True|.fl true ks::ps,.g l::fC,H=>L2 jY l ks/\j4 ps fC H|.fl false ks::ps,.c s::fC,H=>L2 jY [s] ks/\j4 ps fC H|.ZG n ks::ps,.g l::fC,H=>l.length=n/\(∀s∈l,Hw ks s H)/\j4 ps fC H|.sl _::ps,.c .az::fC,H=>j4 ps fC H|.sl ks::ps,.c (.sl id 0 0 n)::fC,H=>id<H.length/\(hg H id).row=0/\(hg H id).owned=false/\n<=9223372036854775807/\(hg H id).cells.length=n*ks.length/\L2 jY (hg H id).cells (bD n ks).flatten/\j4 ps fC H|_,_,_=>False
theorem j4.app:∀{ps:List Ch}{fC:List AV}{H:AH},j4 ps fC H->j4 ps fC (H++X):=by
 intro ps fC H;fun_induction j4 ps fC H with
 |case1=>intro _;trivial|case2 ks ps l fC H ih=>rintro⟨h1,h2⟩;exact⟨h1,ih h2⟩|case3 ks ps l fC H ih=>rintro⟨h1,h2⟩;exact⟨h1,ih h2⟩|case4 n ks ps l fC H ih=>rintro⟨h1,h2,h3⟩;exact⟨h1,λs hs=>(h2 s hs).app,ih h3⟩|case5 ks ps fC H ih=>intro h;exact ih h|case6 ks ps id n fC H ih=>
 rintro⟨h1,h2,h3,h4,h5,h6,h7⟩;have e:=cB (X:=X) h1;exact⟨by simp;omega,by rw[e];exact h2,by rw[e];exact h3,h4,by rw[e];exact h5,by rw[e];exact h6,ih h7⟩|case7=>intro h;simp[j4]at h
variable {w:World}
theorem HR.view(h:HR ρ w H)(o:ae)(L:Loc)(ho:o.owned=false)(hO:jZ (iB ρ H.length L) w H.length o)(dt:∀i,(hg H i).owned=false):HR (iB ρ H.length L) w (H++[o])/\ib ρ (iB ρ H.length L)/\∀i,(hg (H++[o]) i).owned=false:=by
 have ew:ib ρ (iB ρ H.length L):=by
  intro i Li hi;have:i≠H.length:=by rintro rfl;rw[h.fresh _ (aB _)]at hi;simp at hi
  exact⟨Li,by rw[fN _ _ this,hi],.inl rfl⟩
 have kJ:∀i,(hg (H++[o]) i).owned=false:=by
  intro i;rw[qO];split
  .exact ho
  .exact dt i
 refine⟨⟨λi=>?_,λi j Li Lj _ cV=>?_,λi hi=>?_⟩,ew,kJ⟩
 .rw[qO];split
  .subst_vars;exact hO
  .rename_i cZ;exact(h.obj i).dj ew (fN _ _ cZ) (λ_ _ _ _=>rfl) (aB _)
 .rw[kJ]at cV;simp at cV
 .simp at hi;rw[fN _ _ ω];exact h.fresh i ω
variable {n:Nat}{ke:List K}
section
variable {T:Type}{enc:TypeId×Value->T}{w:World}
theorem ajJ{a:Addr}{cs:List Value}(h:w.cells? 0 a n=some cs):cs.length=n/\∀i v,cs[i]?=some v->w.cell? (a.add i)=some v:=by
 simp only[World.cells?,fT,if_true]at h;have key:∀(n i0:Nat)(cs:List Value),((List.range' i0 n).mapM λi=>w.cell? (a.add i))=some cs->cs.length=n/\∀i v,cs[i]?=some v->w.cell? (a.add (i0+i))=some v:=by
  intro n;induction n with|zero=>intro i0 cs h;simp at h;subst h;simp|succ n ih=>
    intro i0 cs h;simp only[RE,Hl,ND,mh,RL,ar]at h;obtain⟨x,hx,ys,hy,rfl⟩:=h;obtain⟨e1,e2⟩:=ih _ _ hy;refine⟨by simp[e1],λi v hv=>?_⟩;cases i with|zero=>simp at hv;subst hv;exact hx|succ i=>have:=e2 i v (by simpa using hv);rw[show i0+(i+1)=i0+1+i by omega];exact this
 rw[RF]at h;obtain⟨e1,e2⟩:=key n 0 cs h;exact⟨e1,λi v hv=>by have:=e2 i v hv;rwa[oF]at this⟩
theorem add_add{a:Addr}{i j:Nat}:(a.add i).add j=a.add (i+j):=by
 simp only[Addr.add];by_cases h1:i=0
 .subst h1;simp
 .by_cases h2:j=0
  .subst h2;simp[h1]
  .simp[h1,h2,Nat.add_assoc]
theorem aai{a:Addr}{v:Value}(h:w.cell? (a.add 0)=some v)(j:Nat):w.cell? (a.add j)=w.cell? ⟨a.block,a.off+j,none⟩/\a.block<w.heap.size/\a=⟨a.block,a.off+0,none⟩:=by
 have e0:a.add 0=a:=by simp[Addr.add]
 rw[e0]at h;unfold World.cell? at h;split at h
 .rename_i c _ _ hb;split at h
  .simp at h
  .rename_i hs;have aG:a.block<w.heap.size:=by
    rcases cX a.block w.heap.size with h|h
    .exact h
    .rw[rn h]at hb;simp at hb
   have ha:a=⟨a.block,a.off,none⟩:=by cases a with|mk x y z=>cases z<;>simp at hs|-
   refine⟨?_,aG,ha⟩;have:a.add j=⟨a.block,a.off+j,none⟩:=by
    rw[ha];simp only[Addr.add];by_cases hj:j=0
    .subst hj;simp
    .rw[if_neg hj]
   rw[this]
 .simp at h
theorem af2{m:Nat}{e:TypeId}{a:Addr}{ke:List K}(hk:vX P 20 e=some ke)(hl:ke.length=P.cellsOf e):∀(n i:Nat)(xs:List (DataW T×List MemPlace)),((List.range' i n).mapM λi=>(w.cells? 0 (a.add (i*P.cellsOf e)) (P.cellsOf e)).bind (DataW.trod enc P w 0 (λ_=>true) true m e))=some xs->∃l,l.length=n*ke.length/\L2 jY l (bD n ke).flatten/\∀j s,l[j]?=some s->∃v,w.cell? (a.add (i*ke.length+j))=some v/\b6 ρ s v:=by
 intro n;induction n with|zero=>intro i xs h;exact⟨[],by simp,.nil,by simp⟩|succ n ih=>
   intro i xs h;simp only[RE,Hl,ND,mh,RL,ar]at h;obtain⟨x,⟨cs,hc,hx⟩,ys,hy,rfl⟩:=h;obtain⟨l2,h5,h6,h7⟩:=ih (i+1) ys (by simpa only[ND]using hy);obtain⟨qh,hcg⟩:=ajJ hc;obtain⟨_,l1,h3,h4⟩:=agj (ρ:=ρ) m 20 e cs x ke hk hx;have Bq:l1.length=ke.length:=by rw[h4.length,qh,hl]
   refine⟨l1++l2,by rw[cj,Bq,h5,vI,Cg,zu],by rw[yc,Ce];exact h3.app h6,λj s hj=>?_⟩;rcases cX j l1.length with aG|oN
   .rw[uh aG]at hj;obtain⟨v,hv,hr⟩:=h4.get? j s hj;refine⟨v,?_,hr⟩;have:=hcg j v hv;rw[<-hl]at this;rw[<-add_add];exact this
   .rw[s9 oN]at hj;obtain⟨v,hv,hr⟩:=h7 _ s hj;refine⟨v,?_,hr⟩;rw[<-hv];congr 2;rw[Bq]at oN|-;rw[vI,Cg];omega
theorem azX{t e:TypeId}{fuel:Nat}{cs:List Value}{x:DataW T×List MemPlace}(hu:P.underlying t=some (.slice e))(hk:vX P 20 e=some ke)(hl:ke.length=P.cellsOf e/\0<ke.length)(hf:DataW.trod enc P w 0 (λ_=>true) true fuel t cs=some x)(g3:HR ρ w H)(g4:∀i,(hg H i).owned=false):∃v,cs=[v]/\∃(X:AH)(bg:Ro)(s:Sc),Hw ke s (H++X)/\b6 bg s v/\HR bg w (H++X)/\ib ρ bg/\∀i,(hg (H++X) i).owned=false:=by cases fuel with|zero=>simp[DataW.trod]at hf|succ fuel=>
   have cu:cs=[.slice none 0 0]\/∃a len cap,cs=[.slice (some a) len cap]:=by
    simp only[DataW.trod,hu]at hf;split at hf;all_goals first|exact .inl rfl|exact .inr ⟨_,_,_,rfl⟩|(rename_i h0;cases h0;done)|(simp at hf;done)|(rename_i h0 _;cases h0;done)
   rcases cu with rfl|⟨a,len,cap,rfl⟩
   .exact⟨_,rfl,[],ρ,.az,.inl rfl,rfl,by simpa using g3,ib.refl ρ,by simpa using g4⟩
   .simp only[DataW.trod,hu]at hf;split at hf
    .rename_i hc;obtain⟨_,Le,TU⟩:=hc;have aou:cap<=9223372036854775807:=TU;simp only[mh]at hf;obtain⟨xs,hx,_⟩:=hf;rw[RF]at hx;obtain⟨l,r1,r2,r3⟩:=af2 (ρ:=ρ) hk hl.1 len 0 xs hx;refine⟨_,rfl,?_⟩;by_cases hn:len=0
     .subst hn;have Ln:l=[]:=vG (by rw[r1];simp);subst Ln;obtain⟨k1,k2,k3⟩:=g3.view .dead ⟨0,0,0,1,false,false⟩ rfl trivial g4;refine⟨[.dead],_,.sl H.length 0 0 0,?_,⟨_,_,_,iZ _ _ _,rfl,by simp,ω,ω,by simp,by simp⟩,k1,k2,k3⟩;have e:hg (H++[ae.dead]) H.length=.dead:=by rw[qO,if_pos rfl]
      exact .inr ⟨H.length,0,rfl,by simp,by rw[e];rfl,by rw[e];rfl,ω,by rw[e];simp[ae.cells],by rw[e];exact .nil⟩
     .have uz:0<len*ke.length:=Cf ω hl.2;obtain⟨v0,F4,_⟩:=r3 0 l[0] (by rw[cP]);rw[Kc,oF]at F4;have CH:=λj=>aai F4 j;obtain⟨k1,k2,k3⟩:=g3.view (.view l) ⟨a.block,a.off,cap,0,false,false⟩ rfl ⟨_,iZ _ _ _,rfl,rfl,by simp,λ_=>(CH 0).2.1,λj s hj=>by
         obtain⟨v,hv,hr⟩:=r3 j s hj;rw[Kc,oF]at hv;refine⟨v,by rw[<-(CH j).1];exact hv,hr.mono ?_⟩;intro i Li hi;have:i≠H.length:=by rintro rfl;rw[g3.fresh _ (aB _)]at hi;simp at hi
         exact⟨Li,by rw[fN _ _ this,hi],.inl rfl⟩⟩ g4;refine⟨[.view l],_,.sl H.length 0 0 len,?_,⟨_,some a,cap,iZ _ _ _,rfl,by simp,Le,ω,by simp,λ_=>?_⟩,k1,k2,k3⟩
      .have e:hg (H++[ae.view l]) H.length=.view l:=by rw[qO,if_pos rfl]
       exact .inr ⟨H.length,len,rfl,by simp,by rw[e];rfl,by rw[e];rfl,ω,by rw[e];exact r1,by rw[e];exact r2⟩
      .rw[if_neg (by simp)];exact⟨a,rfl,λ_=>(CH 0).2.2,by simp,by simp⟩
    .simp at hf
theorem azW{t e:TypeId}(hu:P.underlying t=some (.slice e))(hk:vX P 20 e=some ke)(hl:ke.length=P.cellsOf e/\0<ke.length){fuel:Nat}{cs:List Value}:∀(n i:Nat)(xs:List (DataW T×List MemPlace)),((List.range' i n).mapM λi=>DataW.trod enc P w 0 (λ_=>true) true fuel t ((cs.drop (i*1)).take 1))=some xs->∀{ρ:Ro}{H:AH},HR ρ w H->(∀i,(hg H i).owned=false)->∃(X:AH)(bg:Ro)(l:List Sc),l.length=n/\(∀s∈l,Hw ke s (H++X))/\L2 (b6 bg) l ((cs.drop i).take n)/\HR bg w (H++X)/\ib ρ bg/\∀i,(hg (H++X) i).owned=false:=by
 intro n;induction n with|zero=>intro i xs _ ρ H g3 g4;exact⟨[],ρ,[],rfl,by simp,by simp;exact .nil,by simpa using g3,ib.refl ρ,by simpa using g4⟩|succ n ih=>
   intro i xs h ρ H g3 g4;simp only[RE,Hl,ND,mh,RL,ar]at h;obtain⟨x,hx,ys,hy,rfl⟩:=h;obtain⟨v,hv,X,Rv,s,k1,k2,k3,k4,k5⟩:=azX hu hk hl hx g3 g4;obtain⟨Y,AQ,l,m1,m2,m3,m4,m5,m6⟩:=ih (i+1) ys hy k3 k5;rw[fv]at m2 m4 m6;refine⟨X++Y,AQ,s::l,by simp[m1],λu hu=>?_,?_,m4,k4.trans m5,m6⟩
   .rcases uT.1 hu with rfl|hu
    .rw[<-fv];exact k1.app
    .exact m2 u hu
   .rw[Fc]at hv;have e:(cs.drop i).take (n+1)=v::(cs.drop (i+1)).take n:=by
     have e1:cs.drop i=v::cs.drop (i+1):=by
      have:=List.take_append_drop 1 (cs.drop i);rw[hv,uR]at this;exact this.symm
     rw[e1,Ds]
    rw[e];exact .cons (k2.mono m5) m3
theorem aih:∀(ts:List TypeId)(BO:List Ch)(vs:List Value)(ds:List (DataW T))(ps:List MemPlace),L6 P ts=some BO->DataW.TrodAll enc P w 0 (λ_=>true) true ts vs ds ps->(∀(j:Nat)t v,ts[j]?=some t->vs[j]?=some v->∃base,Value.okWide P w .any base t v)->ds.length=BO.length/\∃H ρ fC,j4 BO fC H/\L2 (aZ ρ) fC vs/\HR ρ w H/\∀i,(hg H i).owned=false:=by
 intro ts;induction ts with
 |nil=>
 intro BO vs ds ps hp h _;simp[L6]at hp;subst hp;obtain⟨rfl,rfl,rfl⟩:=ChangeShapes.trodAll_nil h;exact⟨rfl,[],E8,[],trivial,.nil,HR.nil w,λi=>by rw[ur _ (fT _)];rfl⟩|cons t ts ih=>
   intro BO vs ds ps hp h aM;simp only[L6]at hp;split at hp<;>simp at hp;rename_i par avR oU hp2;subst hp;obtain⟨v,vs',d,KD,p,q,rfl,rfl,rfl,h1,h2⟩:=ChangeShapes.trodAll_cons h;obtain⟨e0,H,ρ,fC,g1,g2,g3,g4⟩:=ih _ _ _ _ hp2 h2 λj t v h1 h2=>aM (j+1) t v (by simpa using h1) (by simpa using h2);obtain⟨base,hv⟩:=aM 0 t v rfl rfl;refine⟨by simp[e0],?_⟩;obtain⟨fuel,hf⟩:=h1;unfold adW at oU;have flat:∀(b:Bool),(vX P 20 t).map (.fl b)=some par->(b=true->∃cs,v=.agg cs)->(b=false->∃u,v.cells.toList=[u]/\v=u)->∃H ρ fC,j4 (par::avR) fC H/\L2 (aZ ρ) fC (v::vs')/\HR ρ w H/\∀i,(hg H i).owned=false:=by
    intro b hb h1 h2;simp only[eE]at hb;obtain⟨ks,hk,rfl⟩:=hb;obtain⟨_,l,h3,h4⟩:=agj (ρ:=ρ) fuel 20 t _ _ ks hk hf;cases b with
 |true=>
 obtain⟨cs,rfl⟩:=h1 rfl;exact⟨H,ρ,.g l::fC,⟨h3,g1⟩,.cons ⟨cs.toList,by simp,h4⟩ g2,g3,g4⟩|false=>
 obtain⟨u,e1,rfl⟩:=h2 rfl;rw[e1]at h4;cases h4 with|cons h5 h6=>cases h6;exact⟨H,ρ,.c _::fC,⟨h3,g1⟩,.cons h5 g2,g3,g4⟩
   split at oU
   .rename_i e hu;simp only[mh]at oU;obtain⟨ke,hk,oU⟩:=oU;split at oU<;>simp at oU;rename_i hl;subst oU;obtain⟨a0,len,cap,rfl⟩:=WideShapes.okWide_slice hu hv;cases fuel with|zero=>simp[DataW.trod]at hf|succ fuel=>cases a0 with|none=>cases len<;>cases cap<;>simp[DataW.trod,hu,Value.cells]at hf;exact⟨H,ρ,.c .az::fC,g1,.cons rfl g2,g3,g4⟩|some a=>
        simp only[DataW.trod,hu,Value.cells]at hf;split at hf
        .rename_i hc;obtain⟨_,Le,TU⟩:=hc;have aou:cap<=9223372036854775807:=TU;simp only[mh]at hf;obtain⟨xs,hx,_⟩:=hf;rw[RF]at hx;obtain⟨l,r1,r2,r3⟩:=af2 (ρ:=ρ) hk hl.1 len 0 xs hx;by_cases hn:len=0
         .subst hn;have Ln:l=[]:=vG (by rw[r1];simp);subst Ln;obtain⟨k1,k2,k3⟩:=g3.view .dead ⟨0,0,0,1,false,false⟩ rfl trivial g4;refine⟨H++[.dead],_,.c (.sl H.length 0 0 0)::fC,?_,.cons ⟨_,_,_,iZ _ _ _,rfl,by simp,ω,ω,by simp,by simp⟩ (g2.mono λ_ _ h=>h.mono k2),k1,k3⟩;have e:hg (H++[ae.dead]) H.length=.dead:=by rw[qO,if_pos rfl]
          exact⟨by simp,by rw[e];rfl,by rw[e];rfl,ω,by rw[e];simp[ae.cells],by rw[e];exact .nil,g1.app⟩
         .have uz:0<len*ke.length:=Cf ω hl.2;obtain⟨v0,F4,_⟩:=r3 0 l[0] (by rw[cP]);rw[Kc,oF]at F4;have CH:=λj=>aai F4 j;obtain⟨k1,k2,k3⟩:=g3.view (.view l) ⟨a.block,a.off,cap,0,false,false⟩ rfl ⟨_,iZ _ _ _,rfl,rfl,by simp,λ_=>(CH 0).2.1,λj s hj=>by
             obtain⟨v,hv,hr⟩:=r3 j s hj;rw[Kc,oF]at hv;refine⟨v,by rw[<-(CH j).1];exact hv,hr.mono ?_⟩;intro i Li hi;have:i≠H.length:=by rintro rfl;rw[g3.fresh _ (aB _)]at hi;simp at hi
             exact⟨Li,by rw[fN _ _ this,hi],.inl rfl⟩⟩ g4;refine⟨H++[.view l],_,.c (.sl H.length 0 0 len)::fC,?_,.cons ⟨_,some a,cap,iZ _ _ _,rfl,by simp,Le,ω,by simp,λ_=>?_⟩ (g2.mono λ_ _ h=>h.mono k2),k1,k3⟩
          .have e:hg (H++[ae.view l]) H.length=.view l:=by rw[qO,if_pos rfl]
           exact⟨by simp,by rw[e];rfl,by rw[e];rfl,ω,by rw[e];exact r1,by rw[e];exact r2,g1.app⟩
          .rw[if_neg (by simp)];exact⟨a,rfl,λ_=>(CH 0).2.2,by simp,by simp⟩
        .simp at hf
   .rename_i hu;exact flat true oU (λ_=>by simp only[Value.okWide,hu]at hv;obtain⟨cs,rfl,_⟩:=hv;exact⟨cs,rfl⟩) (by simp)
   .rename_i m e hu;obtain⟨cs,rfl⟩:∃cs,v=.agg cs:=by simp only[Value.okWide,hu]at hv;obtain⟨cs,rfl,_⟩:=hv;exact⟨cs,rfl⟩
    split at oU
    .rename_i e' hue;simp only[mh]at oU;obtain⟨ke,hk,oU⟩:=oU;split at oU<;>simp at oU;rename_i hl;obtain⟨Bq,Br,CC,hl4⟩:=hl;subst oU;cases fuel with
 |zero=>simp[DataW.trod]at hf|succ fuel=>
       simp only[DataW.trod,hu,Value.cells]at hf;split at hf
       .rename_i qh;simp only[eE]at hf;obtain⟨xs,hx,_⟩:=hf;rw[RF,CC]at hx;obtain⟨X,bg,l,m1,m2,m3,m4,m5,m6⟩:=azW hue hk ⟨Bq,Br⟩ m 0 xs hx g3 g4;rw[ya,List.take_of_length_le ω]at m3;exact⟨H++X,bg,.g l::fC,⟨m1,m2,g1.app⟩,.cons ⟨cs.toList,by simp,m3⟩ (g2.mono λ_ _ h=>h.mono m5),m4,m6⟩
       .simp at hf
    .exact flat true oU (λ_=>⟨cs,rfl⟩) (by simp)
   .rename_i hu;exact flat false oU (by simp) (λ_=>by obtain⟨n,rfl⟩:=WideShapes.okWide_int hu hv;exact⟨_,rfl,rfl⟩)
   .rename_i hu;exact flat false oU (by simp) (λ_=>by obtain⟨n,rfl⟩:=WideShapes.okWide_bool hu hv;exact⟨_,rfl,rfl⟩)
   .rename_i hu;exact flat false oU (by simp) (λ_=>by obtain⟨n,rfl⟩:=WideShapes.okWide_string hu hv;exact⟨_,rfl,rfl⟩)
   .simp at oU
theorem aBg{W W':World}{sp':Nat->Bool}(hl:laidOutB P=true):∀{ts:List TypeId}{vs:List Value}{ds:List (DataW T)}{ps:List MemPlace},(∀t∈ts,P.readableRec t=true/\t<P.types.size)->DataW.TrodAll enc P W 0 (λ_=>true) true ts vs ds ps->(∀p∈ps,W.sameAt W' p)->(∀p∈ps,sp' p.block=true)->DataW.TrodAll enc P W' 0 sp' true ts vs ds ps:=by
 intro ts;induction ts with
 |nil=>
 intro vs ds ps _ h _ _;obtain⟨rfl,rfl,rfl⟩:=ChangeShapes.trodAll_nil h;rfl|cons t ts ih=>
 intro vs ds ps hr h hs hp;obtain⟨v,vs',d,KD,p,q,rfl,rfl,rfl,h1,h2⟩:=ChangeShapes.trodAll_cons h;obtain⟨r1,r2⟩:=hr t (List.mem_cons_self ..);exact⟨p,q,WideElems.Trod_stays hl r1 r2 h1 (λx hx=>hs x (List.mem_append_left _ hx)) (λx hx=>hp x (List.mem_append_left _ hx)),ih (λt ht=>hr t (List.mem_cons_of_mem _ ht)) h2 (λx hx=>hs x (List.mem_append_right _ hx)) (λx hx=>hp x (List.mem_append_right _ hx)),rfl⟩
end
theorem apo{H:Type}{enc:TypeId×Value->H}{C:Checked}{f:FuncId}{fn:Func}{s:ChangeSpec}{BO:List Ch}{sf:List AV->AH->Option AV}{tb:TypeId}{apart fresh handsOn again:Bool}(hc:bh C.prog f λa H=>(sf a H).map λv=>(v,H))(hs:∀fC H,j4 BO fC H->sf fC H=some (.c (.b true)))(hp:L6 C.prog fn.params.toList=some BO)(hl:laidOutB C.prog=true)(hr:(fn.params.toList.all λt=>C.prog.readableRec t&&decide (t<C.prog.types.size))=true)(Il:fn.resultTypes=#[tb])(hb:C.prog.underlying tb=some .bool)(hv:s.vars=[])(Ld:∀ds:List (DataW H),ds.length=BO.length->s.fn H ds={results:=[.lit (.bool true)],args:=ds})(W:World)(base:Nat)(args:Array Value)(ds gs:List (DataW H))(before:List MemPlace)(Uq:∀(j:Nat)t v,fn.params[j]?=some t->args[j]?=some v->Value.okWide C.prog W .any base t v)(hW:DataW.Whole enc C.prog fn.params.toList s.vars apart W args.toList ds gs before):Calls C.prog f args W λe W'=>∃v,e=.returned v/\s.post enc C.prog fn apart fresh handsOn again W args v W':=by
 have hW':=hW;obtain⟨p,q,hA,hV,rfl,hfz,Ie⟩:=hW;rw[hv]at hV;obtain⟨rfl,rfl⟩:=ChangeShapes.trodVars_none hV;obtain⟨hlen,Hh,ρ,fC,h1,h2,h3,h4⟩:=aih (w:=W) _ _ _ _ _ hp hA λj t v e1 e2=>⟨base,Uq j t v (by simpa using e1) (by simpa using e2)⟩;have hsf:=hs fC Hh h1;have yD:=hc.runs fC Hh (.c (.b true)) Hh (by simp[hsf]) ρ W args.toList h2 h3;rw[Array.toArray_toList]at yD;refine yD.mono λe W'⟨vc,bg,he,hvc,_,_,hk,_⟩=>?_;have hvb:vc=.bool true:=hvc;subst hvb;have tP:∀b,¬mi ρ Hh b:=by rintro b⟨i,L,o1,_⟩;rw[h4 i]at o1;simp at o1
 have qQ:ij W (λ_=>False) W':=⟨hk.os,hk.tape,hk.output,hk.size,λb hb _=>hk.jT b hb (tP b),λb c t f hf hm=>hk.free b c t f hf (hm.imp (λx=>x) (λx=>x.elim))⟩;have hg:=qQ.grown;have TO:∀x∈p++[],W.sameAt W' x:=λx hx=>by
  have aG:=hW'.lt x hx;exact RowKit.Below.same (w':=W') ⟨qQ.os,qQ.tape,qQ.output,qQ.size,λk iG=>qQ.jT k iG (λf=>f)⟩ aG
 have Ul:∀t∈fn.params.toList,C.prog.readableRec t=true/\t<C.prog.types.size:=by
  intro t ht;have:=cE.1 hr t ht;simpa using this
 refine⟨.bool true,he,ChangeShapes.post_of_same (pa:=p) (pv:=[]) hW' ?_ ?_ ?_ rfl (hg.frame _) hg.2.1 (RowKit.ok_one Il rfl (RowKit.okWide_bool_mk hb _))⟩
 .intro b sp hd;rw[Ld (ds++[]) (by simpa using hlen),Il];exact trodAll_cons_mk (RowKit.shut_bool hb true) ChangeShapes.trodAll_mk0
 .intro sp hsp;rw[Ld (ds++[]) (by simpa using hlen),m7];exact aBg hl Ul hA (λx hx=>TO x (by simpa using hx)) (λx hx=>hsp x (by simpa using hx))
 .intro sp _;rw[hv,Ld (ds++[]) (by simpa using hlen)];rfl
variable {f:Nat}
theorem cK.fq{s:List AV->Option AV}(h:cK P f s):bh P f λa H=>(s a).map λv=>(v,H):=by
 refine⟨h.enters,λargs H v H' hs=>?_,λargs H v H' hs ρ w cs cu hH=>?_⟩
 .simp only[eE,bE]at hs;obtain⟨_,_,_,rfl⟩:=hs;exact aB _
 .simp only[eE,bE]at hs;obtain⟨v',h1,rfl,rfl⟩:=hs;refine(h.pure args v' h1 ρ w cs cu).mono λe w'⟨vc,he,hv,hk⟩=>?_;exact⟨vc,ρ,he,hv ρ,hH.dj hk,ib.refl ρ,⟨hk.os,hk.tape,hk.output,hk.size,λb hb _=>hk.jT b hb (λf=>f),λb c t f hf hm=>by
   rcases hm with hm|hm
   .exact hk.free b c t f hf (.inl hm)
   .rcases cX b w.heap.size with aG|oN
    .rw[hk.jT b aG (λf=>f)]at hf;exact hH.frozen b c t f hf hm
    .exact hk.free b c t f hf (.inl oN)⟩,λb hb=>.inl hb⟩
variable {fC:List AV}
theorem azM(h:j4 [] fC H):fC=[]:=by cases fC with|nil=>rfl|cons a r=>simp[j4]at h
variable {ps:List Ch}
theorem afV(h:j4 (.fl true ks::ps) fC H):∃l r,fC=.g l::r/\L2 jY l ks/\j4 ps r H:=by cases fC with|nil=>simp[j4]at h|cons a r=>cases a<;>simp[j4]at h;exact⟨_,r,rfl,h⟩
theorem azK{k:K}(h:j4 (.fl false [k]::ps) fC H):∃s r,fC=.c s::r/\jY s k/\j4 ps r H:=by cases fC with|nil=>simp[j4]at h|cons a r=>cases a<;>simp[j4]at h;obtain⟨h1,h2⟩:=h;cases h1 with|cons h3 _=>exact⟨_,r,rfl,h3,h2⟩
theorem azO(h:j4 (.sl ks::ps) fC H):∃r,j4 ps r H/\(fC=.c .az::r\/∃id n,fC=.c (.sl id 0 0 n)::r/\id<H.length/\(hg H id).row=0/\(hg H id).owned=false/\n<=9223372036854775807/\(hg H id).cells.length=n*ks.length/\L2 jY (hg H id).cells (bD n ks).flatten):=by cases fC with
 |nil=>simp[j4]at h|cons a r=>cases a with
 |c s=>cases s with
     |az=>exact⟨r,by simpa[j4]using h,.inl rfl⟩|sl id off aX n=>
 cases off<;>cases aX<;>simp[j4]at h;obtain⟨h1,h2,h3,h4,h5,h6,h7⟩:=h;exact⟨r,h7,.inr ⟨id,n,rfl,h1,h2,h3,h4,h5,h6⟩⟩|_=>simp[j4]at h
 |g l=>simp[j4]at h|t l=>simp[j4]at h
theorem u5(h:jY s (.n .i64)):∃x,s=.i x/\-9223372036854775808<=x/\x<=9223372036854775807:=by cases s with
 |i x=>exact⟨x,rfl,h⟩|k kd x=>simp only[jY]at h;obtain⟨rfl,h,_⟩:=h;simp[IntKind.bits]at h|_=>simp[jY]at h
theorem Cw(h:jY s (.n .u64)):∃x,s=.u x:=by cases s with
 |u x=>exact⟨x,rfl⟩|k kd x=>simp only[jY]at h;obtain⟨rfl,h,_⟩:=h;simp[IntKind.bits]at h|_=>simp[jY]at h
theorem DI(h:jY s .q):∃x,s=.b x:=by unfold jY at h;split at h<;>simp_all
variable {l:List Sc}
theorem ku{k:K}(h:L2 jY l (k::ks)):∃s r,l=s::r/\jY s k/\L2 jY r ks:=by cases h with|cons h1 h2=>exact⟨_,_,rfl,h1,h2⟩
theorem OA(h:L2 jY l []):l=[]:=by cases h;rfl
end Go.Am
set_option linter.all false
set_option maxRecDepth 100000
set_option maxHeartbeats 8000000
namespace Go.Am
variable {P:Program}{aa:ja}{k:List It}{fr:Fr}{H:AH}{Q:Fr->AH->Prop}
theorem aq{n:Int}(h1:-9223372036854775808<=n)(h2:n<=9223372036854775807):aA n=n:=JR h1 h2
theorem aV{α:Type}{c:Prop}[Decidable c]{a b:α}(h:c):(if c then a else b)=a:=if_pos h
theorem aU{α:Type}{c:Prop}[Decidable c]{a b:α}(h:¬c):(if c then a else b)=b:=if_neg h
theorem aT{p:Prop}[Decidable p](h:p):decide p=true:=decide_eq_true h
theorem aS{p:Prop}[Decidable p](h:¬p):decide p=false:=decide_eq_false h
variable {q:Bool}
theorem vN{a b:Code}(h1:q=true->Cu P aa a b k Q fr H (.c (.b true)))(h2:q=false->Cu P aa a b k Q fr H (.c (.b false))):Cu P aa a b k Q fr H (.c (.b q)):=by
 cases q
 .exact h2 rfl
 .exact h1 rfl
variable {full:Array Oper}{os:List Oper}{op:Op}{want:Bool}
theorem vY{d:Option Nat}(h1:q=true->xy P aa full os k Q d op want fr H (.c (.b true)))(h2:q=false->xy P aa full os k Q d op want fr H (.c (.b false))):xy P aa full os k Q d op want fr H (.c (.b q)):=by
 cases q
 .exact h2 rfl
 .exact h1 rfl
variable {i:Nat}{log:List (Nat×Tc)}
theorem vZ{d:Option Nat}(h1:q=true->zM P aa full os i log k Q d op want fr H (.c (.b true)))(h2:q=false->zM P aa full os i log k Q d op want fr H (.c (.b false))):zM P aa full os i log k Q d op want fr H (.c (.b q)):=by
 cases q
 .exact h2 rfl
 .exact h1 rfl
theorem Sm{c:Code}(h:aK P aa (.c c::.sM::k) fr H Q):aK P aa (.c (.scope c)::k) fr H Q:=by rw[Sh];exact .inl h
theorem fB{c:Code}(n:Nat)(F:Nat->Fr×AH)(h0:Wk (lo aa) fr H (F 0))(h:∀i,i<=n->aK P aa (.c c::.back (λfr H=>∃j,i<j/\j<=n/\Wk (lo aa) fr H (F j))::k) (F i).1 (F i).2 Q):aK P aa (.c (.loop c)::k) fr H Q:=by
 rw[rz];refine⟨{i:Nat//i<=n},λi=>F i.1,λi=>n-i.1,⟨0,fT _⟩,h0,λi=>?_⟩;have e:(λfr H=>∃j,i.1<j/\j<=n/\Wk (lo aa) fr H (F j))=(λfr H=>∃j:{i:Nat//i<=n},n-j.1<n-i.1/\Wk (lo aa) fr H (F j.1)):=by
  funext fr H;refine propext ⟨λ⟨j,h1,h2,h3⟩=>⟨⟨j,h2⟩,by have:=i.2;simp only;omega,h3⟩,λ⟨j,h1,h3⟩=>⟨j.1,by have:=i.2;have:=j.2;omega,j.2,h3⟩⟩
 have:=h i.1 i.2;rw[e]at this;exact this
variable {r:Option (AV×AH)}{z:Option (AV->AH->Prop)}{v:AV}{H':AH}
theorem arM{d:Option Nat}(e:r=some (v,H'))(h:xH P aa full os k Q d fr (some (v,H')) z):xH P aa full os k Q d fr r z:=by rw[e];exact h
def Z6(P:Program)(t len:Nat)(is:List Nat)(m:Nat)(vs:List AV)(H:AH):Option (AV×AH):=match dT P t with
 |.sl e=>match zT P e with
   |some z=>if 0<av P e/\0<len/\len*av P e<=16777216/\z.length=av P e then match vW (λi=>some (i*av P e,av P e)) (bD len z).flatten (is.zip vs)with
 |some cs=>some (.c (.sl H.length 0 cs.length len),H++[.vec (av P e) cs])|none=>none else if 0<av P e/\len=0/\m=0 then some (.c (.sl H.length 0 0 0),H++[.vec (av P e) []])else none|none=>none
 |_=>none
theorem ajp{t len m:Nat}{is:List Nat}{vs:List AV}(_:len<=24):Z5 P t len is m vs H=Z6 P t len is m vs H:=rfl
theorem am2{l:List UInt8}(h:l.length<=9223372036854775807):ev fr (.const (.string ⟨l.toArray⟩))=.c (.s ⟨l.toArray⟩):=by
 have h2:ByteArray.size ⟨l.toArray⟩<=9223372036854775807:=h;simp only[ev,pq,mj,h2,if_true]
variable {t:Nat}
theorem ahB{a b:ByteArray}:cA P .add t (.c (.s a)) (.c (.s b))=if a.size+b.size<=9223372036854775807 then some (.c (.s (a++b)))else none:=rfl
def nH(d:D)(x:AV):Option AV:=match d,x with|.sl _,.c (.sl _ _ _ len)=>some (.c (.i len))|.sl _,.c .az=>some (.c (.i 0))|.str,.c (.s s)=>some (.c (.i s.size))|.arr n _,_=>if n<=1048576 then some (.c (.i n))else none|_,_=>none
theorem apy{x:AV}:Ac P t x=nH (dT P t) x:=rfl
theorem apB{e id off aX n:Nat}:nH (.sl e) (.c (.sl id off aX n))=some (.c (.i n)):=rfl
variable {e:Nat}
theorem apA:nH (.sl e) (.c .az)=some (.c (.i 0)):=rfl
theorem apC{s:ByteArray}:nH .str (.c (.s s))=some (.c (.i s.size)):=rfl
variable {n:Nat}
theorem apz{x:AV}:nH (.arr n e) x=if n<=1048576 then some (.c (.i n))else none:=rfl
theorem ajq{l:List UInt8}:ByteArray.size ⟨l.toArray⟩=l.length:=rfl
end Go.Am
namespace Go.Am
variable {P:Program}{aa:ja}{k:List It}{fr:Fr}{H:AH}{Q:Fr->AH->Prop}
theorem Ss(hH:dF H=true)(id:Nat):(hg H id).cW.all (Sc.aj H.length)=true:=by
 rcases cX id H.length with h|h
 .have e:hg H id=H[id]:=by simp[hg,bX,h]
  rw[e];exact cE.1 hH _ (List.getElem_mem h)
 .rw[ur H h];rfl
theorem Cq(hH:dF H=true)(id:Nat):(hg H id).cells.all (Sc.aj H.length)=true:=ajK (Ss hH id)
variable {i:Nat}
theorem py{o:ae}(hH:dF H=true)(ho:o.cW.all (Sc.aj H.length)=true):dF (H.set i o)=true:=Su hH ho
variable {X:AH}
theorem uk(hH:dF H=true)(hX:∀o∈X,o.cW.all (Sc.aj (H++X).length)=true):dF (H++X)=true:=by
 unfold dF;rw[fJ,aQ];refine⟨cE.2 λo ho=>cE.2 λs hs=>?_,cE.2 hX⟩;have a:=cE.1 (cE.1 hH o ho) s hs;exact Sc.ic a (by simp)
variable {A B:AH}
theorem EP(P:AH)(h:qz A B):qz (P++A) (P++B):=by induction P with|nil=>exact h|cons o P ih=>exact⟨.inr rfl,ih⟩
variable {m n:Nat}
theorem ej{o:ae}(h:m≠n):hg (H.set m o) n=hg H n:=aoD (by simpa using h)
variable {v:AV}{H':AH}
theorem cY{H1:AH}(hv:v.aj H1.length=true)(hs:qz H1 H')(hb:dF H1=true)(hn:n<=H1.length):∃v',some v=some v'/\Wk n [(0,v')] H' ([(0,v)],H1):=⟨_,rfl,Wk.wk hn (by simp[Am.get]) (by simp[hv]) hs hb⟩
def Sc.num:Sc->Bool|.i _|.u _|.k _ _|.b _|.s _=>true|_=>false
theorem Sc.acV{s:Sc}(h:s.num=true)(n:Nat):s.aj n=true:=by cases s<;>first|rfl|simp[Sc.num]at h
variable {α:Type}
theorem IC{g:α->Sc}(hg:∀x,(g x).num=true)(L:List α)(n:Nat):(L.map g).all (Sc.aj n)=true:=by rw[List.all_map,cE];intro x _;exact Sc.acV (hg x) n
theorem ID{g:α->Sc}{L:List α}{k:Nat}{x:α}(h:L[k]?=some x):(L.map g).getD k .any=g x:=by rw[bX,qL,h];rfl
variable {cs l:List Sc}{off:Nat}
theorem Hb:wr cs off l=cs.take off++l++cs.drop (off+l.length):=rfl
theorem Dj{cs:List Sc}{k:Nat}{s:Sc}(h:k<cs.length):wr cs k [s]=cs.set k s:=by
 unfold wr;rw[List.set_eq_take_append_cons_drop,if_pos h];simp
theorem Y1{α:Type}{g:α->Sc}{L:List α}{k:Nat}{x:α}(h:k<L.length):wr (L.map g) k [g x]=(L.set k x).map g:=by rw[Dj (by simpa using h),List.map_set]
def Sc.eU(σ:Nat->Nat):Sc->Sc|.p id o v=>.p (σ id) o v|.sl id o v n=>.sl (σ id) o v n|.mp id=>.mp (σ id)|.f fn cs=>.f fn (cs.map λc=>(σ c.1,c.2))|x=>x
def AV.Gx(σ:Nat->Nat):AV->AV|.c s=>.c (s.eU σ)|.g l=>.g (l.map (Sc.eU σ))|.t l=>.t l
def AV.eU(σ:Nat->Nat):AV->AV|.c s=>.c (s.eU σ)|.g l=>.g (l.map (Sc.eU σ))|.t l=>.t (l.map (AV.Gx σ))
def ae.eU(σ:Nat->Nat):ae->ae|.own cs=>.own (cs.map (Sc.eU σ))|.vec z cs=>.vec z (cs.map (Sc.eU σ))|.view cs=>.view (cs.map (Sc.eU σ))|.map mL es=>.map mL (es.map λe=>(e.1,e.2.1.Gx σ,e.2.2.Gx σ))|.iter m since seen last=>.iter (σ m) since seen last|.dead=>.dead
variable {ρ:Ro}
theorem kh.eU{σ:Nat->Nat}{id off aX:Nat}{v:Value}(h:kh ρ (σ id) off aX v):kh (λi=>ρ (σ i)) id off aX v:=h
variable {σ:Nat->Nat}{s:Sc}
theorem b6.eU{v:Value}(h:b6 ρ (s.eU σ) v):b6 (λi=>ρ (σ i)) s v:=by cases s with
 |f fn cs=>
   obtain⟨cv,h1,h2⟩:=h;refine⟨cv,h1,?_⟩;clear h1;induction cs generalizing cv with
   |nil=>simp only[jf]at h2;cases h2;exact .nil|cons c cs ih=>
     simp only[gz]at h2;cases h2 with|cons h t=>exact .cons h (ih _ t)
 |_=>exact h
theorem L2.eU{c:List Value}(h:L2 (b6 ρ) (l.map (Sc.eU σ)) c):L2 (b6 λi=>ρ (σ i)) l c:=by induction l generalizing c with|nil=>simp only[jf]at h;cases h;exact .nil|cons s l ih=>simp only[gz]at h;cases h with|cons h t=>exact .cons h.eU (ih t)
theorem V1.eU{x:AV}{v:Value}(h:V1 ρ (x.Gx σ) v):V1 (λi=>ρ (σ i)) x v:=by cases x with
 |c s=>exact b6.eU h|g l=>obtain⟨cs,h1,h2⟩:=h;exact⟨cs,h1,h2.eU⟩|t l=>exact h
theorem aZ.eU{x:AV}{v:Value}(h:aZ ρ (x.eU σ) v):aZ (λi=>ρ (σ i)) x v:=by cases x with
 |c s=>exact b6.eU h|g l=>obtain⟨cs,h1,h2⟩:=h;exact⟨cs,h1,h2.eU⟩|t l=>
 obtain⟨vs,h1,h2⟩:=h;refine⟨vs,h1,?_⟩;clear h1;induction l generalizing vs with
 |nil=>simp only[jf]at h2;cases h2;exact .nil|cons a l ih=>simp only[gz]at h2;cases h2 with|cons h t=>exact .cons (V1.eU h) (ih _ t)
variable {w:World}
theorem jZ.eU{o:ae}(h:jZ ρ w (σ i) (o.eU σ)):jZ (λi=>ρ (σ i)) w i o:=by cases o with
 |own cs=>obtain⟨L,c,t,h1,h2,h3,h4,h5,h6,h7⟩:=h;exact⟨L,c,t,h1,h2,h3,h4,h5,h6,h7.eU⟩|vec sz cs=>
   obtain⟨L,h1,h2,h3,h4,h5,h6⟩:=h;refine⟨L,h1,h2,by simpa using h3,h4,h5,?_⟩;split
   .rename_i hn;rw[if_pos hn]at h6;exact⟨by simpa using h6.1,h6.2⟩
   .rename_i hn;rw[if_neg hn]at h6;obtain⟨c,d,t,h7,h8,h9⟩:=h6;exact⟨c,d,t,h7,h8,h9.eU⟩|view cs=>
 obtain⟨L,h1,h2,h3,h4,h5,h6⟩:=h;refine⟨L,h1,h2,h3,λe=>by simpa using h4 e,h5,λj s xC=>?_⟩;obtain⟨v,h7,h8⟩:=h6 j (s.eU σ) (by rw[qL,xC];rfl);exact⟨v,h7,h8.eU⟩|map mL es=>
   obtain⟨L,uq,h1,h2,h3,h4,h5,h6,h7⟩:=h;refine⟨L,uq,h1,h2,h3,h4,h5,h6,?_⟩;clear h6;induction es generalizing uq with
   |nil=>simp only[jf]at h7;cases h7;exact .nil|cons e es ih=>simp only[gz]at h7;cases h7 with|cons h t=>exact .cons ⟨h.1,h.2.1.eU,h.2.2.eU⟩ (ih _ t)
 |iter m since seen last=>
 obtain⟨L,b,h1,h2,h3,h4,h5,h6,h7⟩:=h;exact⟨L,b,h1,h2,h3,h4,h5,b6.eU (s:=.mp m) h6,h7⟩|dead=>trivial
theorem ae.aeQ{σ:Nat->Nat}{o:ae}:(o.eU σ).owned=o.owned/\(o.eU σ).live=o.live:=by cases o<;>exact⟨rfl,rfl⟩
variable {eh:Fr}
theorem Wk.eU(σ:Nat->Nat)(hn:n<=H'.length)(h0:∀i,i<n->σ i=i)(T7:∀i j,(hg H' i).live=true->(hg H' j).live=true->σ i=σ j->i=j)(hf:∀p∈eh,Am.get fr p.1=p.2.eU σ)(hb:(eh.all λp=>p.2.aj H'.length)=true)(hH:∀i,hg H' i=.dead\/(hg H' i).eU σ=hg H (σ i))(ho:dF H'=true):Wk n fr H (eh,H'):=by
 intro ρ w tm h1 h2;have dt:∀i,(hg H' i).owned=true->(hg H (σ i)).owned=true:=by
  intro i hi;rcases hH i with e|e
  .rw[e]at hi;simp[ae.owned]at hi
  .rw[<-e,ae.aeQ.1];exact hi
 have Bt:∀i,(hg H' i).live=true->(hg H (σ i)).live=true:=by
  intro i hi;rcases hH i with e|e
  .rw[e]at hi;simp[ae.live]at hi
  .rw[<-e,ae.aeQ.2];exact hi
 refine⟨Am.cut (λi=>ρ (σ i)) H'.length,λs=>?_,⟨λi=>?_,λi j Li Lj pI cV cF iH fz iF pJ=>?_,λi hi=>?_⟩,λi L hi hL Uc=>?_,λi hi=>by simp only[Am.cut];rw[if_pos (Dv hi hn),h0 i hi]⟩
 .rcases get_mem (fr:=eh) (s:=s)with h|h
  .show aZ _ (Am.get eh s) _;rw[h];trivial
  .show aZ _ (Am.get eh s) _;have e:=hf _ h;have K0:=cE.1 hb _ h;have:=h1 s;simp only at e;rw[e]at this;exact this.eU.cut K0
 .rcases cX i H'.length with hi|hi
  .show jZ _ _ _ (hg H' i);rcases hH i with e|e
   .rw[e];trivial
   .have hO:=h2.obj (σ i);rw[<-e]at hO;exact hO.eU.cut hi (Ss ho i)
  .show jZ _ _ _ (hg H' i);rw[ur _ hi];trivial
 .have hi:=eu (ae.ou cV);have hj:=eu fz;simp only at hi hj cV fz;exact h2.sep (σ i) (σ j) Li Lj (λe=>pI (T7 i j (ae.ou cV) fz e)) (dt i cV) (by simpa[Am.cut,hi]using cF) iH (Bt j fz) (by simpa[Am.cut,hj]using iF) pJ
 .simp only[Am.cut];rw[if_neg (by simp at hi;omega)]
 .have aG:=eu (ae.ou hi);simp only at hi aG;exact⟨σ i,dt i hi,by simpa[Am.cut,aG]using hL⟩
def sR(n:Nat)(aa:List Nat)(i:Nat):Nat:=if i<n then i else n+aa.getD (i-n) 0
theorem B6{aa:List Nat}(h:i<n):sR n aa i=i:=if_pos h
theorem aAm{n:Nat}{aa:List Nat}:sR n aa n=n+aa.getD 0 0:=by unfold sR;rw[if_neg (Nat.lt_irrefl _),Dx]
theorem Q9{n k:Nat}{aa:List Nat}:sR n aa (n+k)=n+aa.getD k 0:=by unfold sR;rw[if_neg ω,th]
theorem Sc.I0{n:Nat}{aa:List Nat}{s:Sc}(h:s.aj n=true):s.eU (sR n aa)=s:=by
 cases s<;>try rfl
 .simp only[Sc.aj,decide_eq_true_eq]at h;simp only[Sc.eU,B6 h]
 .simp only[Sc.aj,decide_eq_true_eq]at h;simp only[Sc.eU,B6 h]
 .rename_i fn cs;simp only[Sc.aj,cE,decide_eq_true_eq]at h;simp only[Sc.eU];congr 1;conv=>rhs;rw[<-List.map_id cs]
  exact NB λc hc=>by simp only[B6 (h c hc)];rfl
 .simp only[Sc.aj,decide_eq_true_eq]at h;simp only[Sc.eU,B6 h]
theorem QP{n:Nat}{aa:List Nat}{l:List Sc}(h:l.all (Sc.aj n)=true):l.map (Sc.eU (sR n aa))=l:=by
 conv=>rhs;rw[<-List.map_id l]
 exact NB λs hs=>Sc.I0 (cE.1 h s hs)
theorem ae.I0{n:Nat}{aa:List Nat}{o:ae}(h:o.cW.all (Sc.aj n)=true):o.eU (sR n aa)=o:=by cases o with
 |own cs=>simp only[ae.eU,QP (l:=cs) h]|vec z cs=>simp only[ae.eU,QP (l:=cs) h]|view cs=>simp only[ae.eU,QP (l:=cs) h]|map mL es=>
   simp only[ae.eU];congr 1;have key:∀x:AV,x.cW.all (Sc.aj n)=true->x.Gx (sR n aa)=x:=by
    intro x hx;cases x with
 |c s=>simp only[AV.cW,bK,dY,c8]at hx;simp only[AV.Gx,Sc.I0 hx]|g l=>simp only[AV.Gx,QP (l:=l) hx]|t l=>rfl
   simp only[ae.cW,List.all_flatMap,fJ]at h;conv=>rhs;rw[<-List.map_id es]
   refine NB λe he=>?_;have:=cE.1 h e he;simp only[aQ]at this;simp only[key _ this.1,key _ this.2];rfl|iter m since seen last=>simp only[ae.cW,bK,dY,c8]at h;have:=Sc.I0 (n:=n) (aa:=aa) h;simp only[Sc.eU,Sc.mp.injEq]at this;simp only[ae.eU,this]|dead=>rfl
variable {H0 Y:AH}
theorem Wk.tail(aa:List Nat)(hn:n<=H0.length)(sr:dF H0=true)(aG:aa.length=Y.length)(T7:∀i j,(hg Y i).live=true->(hg Y j).live=true->aa.getD i 0=aa.getD j 0->i=j)(hf:∀p∈eh,Am.get fr p.1=p.2.eU (sR H0.length aa))(hb:(eh.all λp=>p.2.aj (H0.length+Y.length))=true)(hY:∀i,hg Y i=.dead\/(hg Y i).eU (sR H0.length aa)=hg X (aa.getD i 0))(ho:(Y.all λo=>o.cW.all (Sc.aj (H0.length+Y.length)))=true):Wk n fr (H0++X) (eh,H0++Y):=by
 have gl:∀Z i,i<H0.length->hg (H0++Z) i=hg H0 i:=λZ i h=>cB h;have gg:∀Z k,hg (H0++Z) (H0.length+k)=hg Z k:=by
  intro Z k;unfold hg;rw[bX,bX,s9 ω,th]
 have wm:∀i,i<H0.length->(hg H0 i).live=true->sR H0.length aa i=i:=λi h _=>B6 h;refine Wk.eU (sR H0.length aa) (by simp;omega) (λi hi=>B6 ω) ?_ hf (by simpa using hb) ?_ ?_
 .intro i j hi hj he;have li:=eu hi;have lj:=eu hj;rcases cX i H0.length with h1|h1
  .rw[B6 h1]at he;rcases cX j H0.length with h2|h2
   .rw[B6 h2]at he;exact he
   .obtain⟨k,rfl⟩:∃k,j=H0.length+k:=⟨j-H0.length,ω⟩;rw[Q9]at he;omega
  .obtain⟨m,rfl⟩:∃k,i=H0.length+k:=⟨i-H0.length,ω⟩;rw[Q9]at he;rcases cX j H0.length with h2|h2
   .rw[B6 h2]at he;omega
   .obtain⟨k,rfl⟩:∃k,j=H0.length+k:=⟨j-H0.length,ω⟩;rw[Q9]at he;rw[gg]at hi hj;have:=T7 m k hi hj ω;omega
 .intro i;rcases cX i H0.length with h1|h1
  .rw[gl _ _ h1,B6 h1,gl _ _ h1];exact .inr (ae.I0 (Ss sr i))
  .obtain⟨k,rfl⟩:∃k,i=H0.length+k:=⟨i-H0.length,ω⟩;rw[gg,Q9,gg];exact hY k
 .exact uk sr λo kv=>by
   have:=cE.1 ho o kv;simpa using this
theorem Wk.aAo{o:ae}(k:Nat)(hn:n<=H0.length)(sr:dF H0=true)(hk:hg X k=o)(ho:o.cW.all (Sc.aj H0.length)=true)(hf:∀p∈eh,Am.get fr p.1=p.2.eU (sR H0.length [k]))(hb:(eh.all λp=>p.2.aj (H0.length+1))=true):Wk n fr (H0++X) (eh,H0++[o]):=by
 refine Wk.tail [k] hn sr rfl (λi j hi hj _=>?_) hf hb (λi=>?_) ?_
 .have:=eu hi;have:=eu hj;simp only[cT,fa]at*;omega
 .cases i with
 |zero=>exact .inr (by show o.eU _=hg X k;rw[ae.I0 ho,hk])|succ i=>exact .inl rfl
 .simp only[bK,dY,c8];exact cE.2 λs hs=>Sc.ic (cE.1 ho s hs) ω
variable {v':AV}
theorem ang{o:ae}(k:Nat)(hn:n<=H0.length)(sr:dF H0=true)(hk:hg X k=o)(ho:o.cW.all (Sc.aj H0.length)=true)(hv:v=v'.eU (sR H0.length [k]))(hb:v'.aj (H0.length+1)=true):∃x,some v=some x/\Wk n [(0,x)] (H0++X) ([(0,v')],H0++[o]):=⟨v,rfl,Wk.aAo k hn sr hk ho (by simp[Am.get,hv]) (by simp[hb])⟩
theorem awC{n k a b c:Nat}:(AV.c (.sl n a b c)).eU (sR n [k])=.c (.sl (n+k) a b c):=by simp[AV.eU,Sc.eU,aAm]
variable {t:Nat}
theorem xf{l:Array Operand}{ts:List Nat}(h:(nH (.sl 0) (.c s)).isSome=true):cU P aa (.call ⟨.builtin .len,l,(t::ts).toArray⟩) [.c s] H=(Ac P t (.c s)).map λv=>(v,H):=by
 refine NT ?_;cases s<;>first|rfl|simp[nH]at h
theorem aBa(h:(nH (.sl 0) (.c s)).isSome=true):uO [.c s]=.no:=by cases s<;>first|rfl|simp[nH]at h
def YI(σ:Nat->Nat)(X:AH):List ae->List Nat->Prop|[],[]=>True|y::Y,k::aa=>(y=.dead\/y.eU σ=hg X k)/\YI σ X Y aa|_,_=>False
theorem age{σ:Nat->Nat}{X:AH}:∀{Y:List ae}{aa:List Nat},YI σ X Y aa->aa.length=Y.length/\∀i,hg Y i=.dead\/(hg Y i).eU σ=hg X (aa.getD i 0)
 |[],[],_=>⟨rfl,λi=>.inl rfl⟩|y::Y,k::aa,h=>by
   obtain⟨h1,h2⟩:=age h.2;refine⟨by simp[h1],λi=>?_⟩;cases i with
   |zero=>exact h.1|succ i=>exact h2 i
 |[],k::aa,h=>h.elim|y::Y,[],h=>h.elim
theorem Wk.tl(aa:List Nat)(hn:n<=H0.length)(sr:dF H0=true)(Ie:aa.Nodup)(hY:YI (sR H0.length aa) X Y aa)(hf:∀p∈eh,Am.get fr p.1=p.2.eU (sR H0.length aa))(hb:(eh.all λp=>p.2.aj (H0.length+Y.length))=true)(ho:(Y.all λo=>o.cW.all (Sc.aj (H0.length+Y.length)))=true):Wk n fr (H0++X) (eh,H0++Y):=by
 obtain⟨h1,h2⟩:=age hY;refine Wk.tail aa hn sr h1 (λi j hi hj e=>?_) hf hb h2 ho;have li:=eu hi;have lj:=eu hj;rw[<-h1]at li lj;rw[bX,bX,cP li,cP lj]at e;exact(List.getElem_inj Ie).1 (by simpa using e)
end Go.Am
namespace Go.Am
attribute [go_sem]tH Si Sg R9 R8 Eb Kl R3 R2 Sa Sk ail aik R6 anV azu azt aq0 aqY aqZ aq1 aqX arn arl aro an0 anW anZ anX an1 anY aAJ aAV aAq aAu aAw aAN aAx aAR aAs aAT aAv aAS aAt aAW aAz aBi aBn aBj aBl aBm aBk aAL aAE aAD aAG aAF aAU aAC aAI aA9 aA6 aA8 aA3 aA7 aA2 aA4 aA5 aBa aAK aAM aAO aAH aAB aAA aAy aAQ aAP aAr aA1 aBh Dg atE asH arX ar0 arY arZ arW asc asf asd ase asb ar2 ar5 ar3 ar4 ar1 ar7 asa ar8 ar9 ar6 arS arV arT arU arR aj0 aj1 aj2 aj3 ajZ akf aki akg akh ake aj5 aj8 aj6 aj7 aj4 aka akd akb akc aj9 ajV ajY ajW ajX ajU Sj R4 Se R7 aii akG akF aay wy arN arL awp awo az9 az8 KR kr Hk aof aob aoe aoc aog aod avx avc ave avt avz avG avj avn avm avl avB avf avg avF avd avw avp avo avu avD avi avh ava avC avy avk aiK aio aiN air aiG aiL aiM aip aiS aiw aiA aix aiz aiy Ft aiC aiE aiD aiP aiO aiQ aiB ZF ZE aiF xf Option.isSome_some aiu DE aiv HI aiJ aiI ain ait aim aiq aiR ais Z6 ajp am2 ajq ahB List.size_toArray List.toList_toArray Fc Cg Kc Nat.mul_zero oF ru aiH msA Ff G1 Ce List.flatten_nil am3 amX amY am4 amW am1 am0 amZ an9 an7 gz jf List.map_toArray ahE ahT ahM ahP ahQ ahF ahO ahU ahG ahH ahN ahL ahK ahJ ahI ahR ahS ahi ahu aho ahq ahr ahj ahp ahn ahm ahl ahk ahs aht ahg ahh ahC ahD aiX aiV aiW aiY am6 ak0 akV am5 akZ akX akY RY RZ Zp ahv ahy ahx ahw ahz ahA ak1 akW pn RK Int.toNat_natCast Int.cast_ofNat_Int and_self and_true true_and if_true if_false ite_true ite_false Option.toList_some Option.toList_none AG JM Gg DP R1 aga A8 Am.look Cr vW D8 OB D.agg D.is rd D0 Iv Iu uC apy apB apA apC apz AV.cells arO arP arQ avI avJ avK au8 au9 au2 au3 au4 avA avH Sc.one Fj A9 T3 T2 km gM zd xS List.set_set fa cT List.nil_append m7 List.cons_append fv cj Hi List.getElem?_cons_succ List.getD_cons_zero List.getD_cons_succ List.zip_cons_cons List.zip_nil_right List.zip_nil_left List.take_zero List.take_nil Ds List.drop_succ_cons ya List.drop_nil bK dY c8 gG List.set_cons_zero List.set_cons_succ true_or or_true false_or or_false Bool.true_or Bool.or_true Bool.false_or vC decide_true decide_false beq_self_eq_true not_true_eq_false not_false_eq_true decide_eq_true_eq gY Bool.not_true Fb dL Bool.not_eq_eq_eq_not decide_eq_false_iff_not imp_self false_imp_iff true_imp_iff forall_const Bool.true_eq_false eq_self Bool.true_beq Bool.false_beq Bool.and_false Bool.false_and jO vw rE sJ I1 Mf AV.flat
attribute [go_sem 500]Hb
end Go.Am
