/- An abstract machine for the model, part 2: its runs, and that they are the model's: no conditions. -/
import Derived.Test.YtghlfboliomhcaaGreatPb1
import Derived.Laws.IdiomRangeMap
import Derived.Scope
import Derived.ScopeJumps
import Derived.ProofKit
import Derived.OpenShut
set_option linter.all false
/- What 'arun' says holds of the model. -/
set_option maxRecDepth 100000
set_option maxHeartbeats 8000000
open Array renaming getD_eq_getD_getElem?->qA,ext'->p9,getElem?_eq_none->qB,getElem?_eq_getElem->Qu,replicate->xd,getElem?_replicate->aft,all_eq_true'->afs
open BitVec renaming ofInt->aw
open Bool renaming and_eq_true->aQ,false_eq_true->dC,or_eq_true->fR,not_eq_true'->gD,or_false->uU,or_eq_false_iff->XG,not_false->En,and_true->cX,true_and->gv
open List renaming map_cons->fW,map_nil->iW,all_cons->bG,mapM_cons->Gy,getD_eq_getElem?_getD->b9,getElem?_eq_none->jQ,getElem?_append_right->rV,getElem?_append_left->sY,set_append_right->Jj,getElem?_toArray->Gx,getElem?_cons_zero->Gu,replicate->bE,range->oR,getElem?_map->qf,append_assoc->fo,eq_nil_of_length_eq_zero->uY,getElem?_eq_getElem->cM,map_congr_left->ME,mem_append->xj,length_nil->dY,mem_cons->uj,drop_drop->uX,all_eq_true->cD,mem_of_getElem?->Eo,all_nil->dO,flatMap_cons->qC,all_append->fH,length_cons->cZ,take_succ_cons->GB,getElem?_of_mem->QD,length_append->cF,range'_succ->QA,replicate_succ->xn,flatten_cons->BB,drop_zero->xg,take_length->s7,range_eq_range'->QB,append_nil->kD
open List.cons renaming injEq->cK
open Nat renaming le_trans->GD,lt_of_lt_of_le->CG,lt_or_ge->cU,le_refl->aC,zero_le->fM,sub_self->CH,add_sub_cancel_left->s9,mul_pos->BC,add_comm->yv,zero_add->oU,min_eq_left->yw,add_zero->rj,add_mul->uZ,one_mul->BD,zero_mul->Jk,mul_one->Ep
open Option renaming map_eq_some_iff->ef,bind_some->QG,map_some->n9,bind_eq_bind->MG,bind_eq_some_iff->kY,pure_def->QH
open Option.some renaming injEq->ar
open Prod.mk renaming injEq->bD
open Go.Result renaming andThen_ok->c8
open Go.Sem renaming run_bind->c9,run_pure->fi
namespace Go.Am
variable {P:Program}{aa:je}
variable {full:Array Oper}{i:Nat}{log:List (Nat×Tc)}{o:Oper}{os:List Oper}{J:Fr->AH->Prop}{x:Operand}
section eqs
variable {k:List It}{fr:Fr}{H:AH}{Q:Fr->AH->Prop}
theorem Jp:aM P aa [] fr H Q=Q fr H:=by rw[aM]
theorem QW{id:Nat}:aM P aa (.dK id::k) fr H Q=aM P aa k fr H Q:=by rw[aM]
theorem QV{I:Fr->AH->Prop}:aM P aa (.back I::k) fr H Q=I fr H:=by rw[aM]
theorem Q7:aM P aa (.ops full []::k) fr H Q=aM P aa k fr H Q:=by rw[aM]
theorem Rg:aM P aa (.c .skip::k) fr H Q=aM P aa k fr H Q:=by rw[aM]
theorem Q8{id:Nat}{ops:Array Oper}:aM P aa (.c (.region id ops false)::k) fr H Q=aM P aa (.ops ops ops.toList::k) fr H Q:=by rw[aM]
theorem Q9{id:Nat}{ops:Array Oper}:aM P aa (.c (.region id ops true)::k) fr H Q=aM P aa (.dr ops ops.toList 0 []::k) fr H Q:=by rw[aM]
theorem QZ:aM P aa (.dr full [] i log::k) fr H Q=aM P aa k fr H Q:=by rw[aM]
theorem MW:aM P aa (.dr full (o::os) i log::k) fr H Q=match o.guard with
 |none=>match cO P aa o.op ((bI o.op).map (ev fr)) H with|some (v,H')=>qx full i (mW (cA P aa o.op ((bI o.op).map (ev fr))) H H') log/\aM P aa (.dr full os (i+1) (Cq i (mW (cA P aa o.op ((bI o.op).map (ev fr))) H H') log)::k) (iF o.dst v fr) H' Q|none=>False
 |some (j,want)=>match wo full fr j with
 |some (some q)=>if q=want then match cO P aa o.op ((bI o.op).map (ev fr)) H with
 |some (v,H')=>qx full i (mW (cA P aa o.op ((bI o.op).map (ev fr))) H H') log/\aM P aa (.dr full os (i+1) (Cq i (mW (cA P aa o.op ((bI o.op).map (ev fr))) H H') log)::k) (iF o.dst v fr) H' Q|none=>False else aM P aa (.dr full os (i+1) log::k) (iF o.dst (.c .gM) fr) H Q|some none=>aM P aa (.dr full os (i+1) log::k) (iF o.dst (.c .gM) fr) H Q|none=>False:=by rw[aM]<;>rfl
theorem Re:aM P aa (.rK::k) fr H Q=aM P aa k fr H Q:=by rw[aM]
theorem Rb{l:Nat}:aM P aa (.yh l J::k) fr H Q=aM P aa k fr H Q:=by rw[aM]
theorem Q6{l:Nat}:aM P aa (.c (.label l)::k) fr H Q=aM P aa k fr H Q:=by rw[aM]
theorem Rc{c:Code}:aM P aa (.c (.scope c)::k) fr H Q=(aM P aa (.c c::.rK::k) fr H Q\/∃(l:Nat)(rest:Code)(J:Fr->AH->Prop),findLabel c l=some rest/\aM P aa (.c c::.yh l J::k) fr H Q/\∃_:ig rest<=ig c,∀fr H,J fr H->aM P aa (.c rest::.rK::k) fr H Q):=by rw[aM]
theorem Q5{l:Nat}:aM P aa (.c (.goto l)::k) fr H Q=match Dr l k with|some J=>J fr H|none=>False:=by first|(rw[aM];done)|(rw[aM];split<;>simp_all)
theorem Rf{a b:Code}:aM P aa (.c (.seq a b)::k) fr H Q=aM P aa (.c a::.c b::k) fr H Q:=by rw[aM]
theorem QX{id:Nat}{c:Code}:aM P aa (.c (.block id c)::k) fr H Q=aM P aa (.c c::.dK id::k) fr H Q:=by rw[aM]
theorem Ra:aM P aa (.c .ret::k) fr H Q=Q fr H:=by rw[aM]
theorem Q0{id:Nat}:aM P aa (.c (.exit id)::k) fr H Q=match vz id k with|some k'=>aM P aa k' fr H Q|none=>False:=by rw[aM];split<;>simp_all
theorem QY{a b:Code}:aM P aa (.c (.cond x a b)::k) fr H Q=match ev fr x with|.c (.b q)=>if q=true then aM P aa (.c a::k) fr H Q else aM P aa (.c b::k) fr H Q|.c .qq=>aM P aa (.c a::k) fr H Q/\aM P aa (.c b::k) fr H Q|_=>False:=by rw[aM]<;>rfl
theorem rk{c:Code}:aM P aa (.c (.loop c)::k) fr H Q=∃(ι:Type)(F:ι->Fr×AH)(μ:ι->Nat)(i0:ι),Wk (lo aa) fr H (F i0)/\∀i,aM P aa (.c c::.back (λfr H=>∃j,μ j<μ i/\Wk (lo aa) fr H (F j))::k) (F i).1 (F i).2 Q:=by rw[aM]
theorem MX:aM P aa (.ops full (o::os)::k) fr H Q=match o.guard with
 |none=>match cO P aa o.op ((bI o.op).map (ev fr)) H with
   |some (v,H')=>aM P aa (.ops full os::k) (iF o.dst v fr) H' Q|none=>match KK aa o.op ((bI o.op).map (ev fr)) H with
     |some R=>∀v H',R v H'->aM P aa (.ops full os::k) (iF o.dst v fr) H' Q|none=>False
 |some (j,want)=>match wo full fr j with
 |some (some q)=>if q=want then match cO P aa o.op ((bI o.op).map (ev fr)) H with|some (v,H')=>aM P aa (.ops full os::k) (iF o.dst v fr) H' Q|none=>False else aM P aa (.ops full os::k) (iF o.dst (.c .gM) fr) H Q|some none=>aM P aa (.ops full os::k) (iF o.dst (.c .gM) fr) H Q|none=>False:=by rw[aM]<;>rfl
end eqs
def Ek:Ro:=λ_=>none
structure cE(P:Program)(f:Nat)(s:List AV->Option AV):Prop where
 enters:∀args w,(callFunc f args).run P w=.ok (.enter f args) w
 pure:∀args v,s args=some v->∀(ρ:Ro)(w:World)(cs:List Value),L2 (bg ρ) args cs->Calls P f cs.toArray w λe w'=>∃vc,e=.returned vc/\(∀bh:Ro,bg bh v vc)/\gR w (λ_=>False) w'
def kZ(ρ:Ro)(H:AH)(b:Nat):Prop:=∃i L,(hg H i).owned=true/\ρ i=some L/\L.nil=false/\L.dK=b
structure aZ(P:Program)(f:Nat)(s:List AV->AH->Option (AV×AH)):Prop where
 enters:∀args w,(callFunc f args).run P w=.ok (.enter f args) w
 len:∀args H v H',s args H=some (v,H')->H.length<=H'.length
 runs:∀args H v H',s args H=some (v,H')->∀(ρ:Ro)(w:World)(cs:List Value),L2 (bg ρ) args cs->HR ρ w H->Calls P f cs.toArray w λe w'=>∃vc bh,e=.returned vc/\bg bh v vc/\HR bh w' H'/\gG ρ bh/\gR w (kZ ρ H) w'/\(∀b,kZ bh H' b->kZ ρ H b\/w.heap.size<=b)
structure afC(P:Program)(f:Nat)(s:List AV->AH->Option (AV->AH->Prop)):Prop where
 enters:∀args w,(callFunc f args).run P w=.ok (.enter f args) w
 runs:∀args H R,s args H=some R->∀(ρ:Ro)(w:World)(cs:List Value),L2 (bg ρ) args cs->HR ρ w H->Calls P f cs.toArray w λe w'=>∃v H' vc bh,R v H'/\e=.returned vc/\bg bh v vc/\HR bh w' H'/\gG ρ bh/\gR w (kZ ρ H) w'/\(∀b,kZ bh H' b->kZ ρ H b\/w.heap.size<=b)
def XN(P:Program)(f:Nat):MJ->Prop|.pu s=>cE P f s|.fp s=>aZ P f s|.fq s=>aZ P f λargs H=>(s args H).map λv=>(v,H)|.fr s=>afC P f s|.lo _=>True
def jw(P:Program)(aa:je):Prop:=∀f e,look aa f=some e->XN P f e
theorem jw.nil:jw P []:=λf e h=>by simp[look]at h
variable {f:Nat}
theorem jw.cons{e:MJ}(h:XN P f e)(ht:jw P aa):jw P ((f,e)::aa):=by
 intro g x hx;simp only[look]at hx;split at hx
 .simp at hx;subst_vars;exact h
 .exact ht g x hx
structure Fx where
 m:Nat->Prop
 n:Nat
 r:Ro
structure St(N:Nat)(w0:World)(M:Fx)(ρ:Ro)(fr:Fr)(H:AH)(a:Act)(w:World):Prop where
 fr:∀s,bg ρ (get fr s) (a.tmps.getD s undef)sz:a.tmps.size=N
 df:a.defers=[]hr:HR ρ w H
 kp:gR w0 M.m w
 ow:∀i L,(hg H i).owned=true->ρ i=some L->L.nil=false->(M.m L.dK\/w0.heap.size<=L.dK)st:∀i,i<M.n->∀L,M.r i=some L->∃L',ρ i=some L'/\(L'=L\/L.row<L'.row)
variable {N:Nat}{w0:World}{M:Fx}{ρ:Ro}{fr:Fr}{H:AH}{a:Act}{w:World}
def xB(N:Nat):Option Nat->Bool|none=>true|some d=>decide (d<N)
variable {v:AV}{vc:Value}
theorem St.put{d:Option Nat}(h:St N w0 M ρ fr H a w)(hd:xB N d=true)(hv:bg ρ v vc):St N w0 M ρ (iF d v fr) H (a.put d vc) w:=by cases d with
 |none=>exact h|some d=>
   simp[xB]at hd;refine⟨λs=>?_,by simp[Act.put,h.sz],h.df,h.hr,h.kp,h.ow,h.st⟩;simp only[iF,get,Act.put];split
   .rename_i e;rw[<-e];have:(a.tmps.setIfInBounds d vc).getD d undef=vc:=by simp[qA,h.sz,hd]
    rw[this];exact hv
   .rename_i cW;have:(a.tmps.setIfInBounds d vc).getD s undef=a.tmps.getD s undef:=by simp[qA,Array.getElem?_setIfInBounds_ne cW]
    rw[this];exact h.fr s
theorem W5{n:Nat}{ρi ρ bh:Ro}(h:∀i,i<n->∀L,ρi i=some L->∃L',ρ i=some L'/\(L'=L\/L.row<L'.row))(hs:gG ρ bh):∀i,i<n->∀L,ρi i=some L->∃L',bh i=some L'/\(L'=L\/L.row<L'.row):=by
 intro i hi L hL;obtain⟨L1,h1,h2⟩:=h i hi L hL;obtain⟨L2,h3,h4⟩:=hs i L1 h1;refine⟨L2,h3,?_⟩;rcases h2 with rfl|h2<;>rcases h4 with rfl|h4
 .exact .inl rfl
 .exact .inr h4
 .exact .inr h2
 .exact .inr ω
variable {w':World}{bh:Ro}{H':AH}
theorem St.call(h:St N w0 M ρ fr H a w)(hr:HR bh w' H')(hs:gG ρ bh)(hk:gR w (kZ ρ H) w')(ho:∀b,kZ bh H' b->kZ ρ H b\/w.heap.size<=b):St N w0 M bh fr H' a w':=by
 have dg:∀b,kZ ρ H b->M.m b\/w0.heap.size<=b:=by rintro b⟨i,L,h1,h2,h3,rfl⟩;exact h.ow i L h1 h2 h3
 refine⟨λs=>(h.fr s).mono hs,h.sz,h.df,hr,⟨hk.os.trans h.kp.os,hk.tape.trans h.kp.tape,hk.output.trans h.kp.output,GD h.kp.size hk.size,λb hb hm=>?_,λb c t f hf hm=>?_⟩,λi L h1 h2 h3=>?_,W5 h.st hs⟩
 .rw[hk.lh b (CG hb h.kp.size) (λh'=>?_)]
  .exact h.kp.lh b hb hm
  .rcases dg b h' with h'|h'
   .exact hm h'
   .omega
 .by_cases h':w.heap.size<=b\/kZ ρ H b
  .exact hk.free b c t f hf h'
  .have h1:b<w.heap.size:=by
    rcases cU b w.heap.size with h1|h1
    .exact h1
    .exact absurd (.inl h1) h'
   rw[hk.lh b h1 (λh2=>h' (.inr h2))]at hf;exact h.kp.free b c t f hf hm
 .rcases ho L.dK ⟨i,L,h1,h2,h3,rfl⟩with h'|h'
  .exact dg _ h'
  .exact .inr (GD h.kp.size h')
theorem St.G4(h:St N w0 M ρ fr H a w)(he:jc ρ w H w' bh H'):St N w0 M bh fr H' a w':=by
 obtain⟨h1,h2⟩:=he.kp w0 M.m h.kp h.ow;exact⟨λs=>(h.fr s).mono he.st,h.sz,h.df,he.hr,h1,h2,W5 h.st he.st⟩
theorem HU(h:St N w0 M ρ fr H a w)(l:List Operand):L2 (bg ρ) (l.map (ev fr)) (l.map a.eval):=by induction l with|nil=>exact .nil|cons x l ih=>exact .cons (G6 h.fr x) ih
theorem HR.fF(h:HR ρ w H)(hk:gR w (λ_=>False) w'):HR ρ w' H:=by
 refine⟨λi=>?_,h.sep,h.fresh⟩;refine(h.obj i).fF (gG.refl ρ) rfl (λL hi hn hl=>?_) hk.size;exact hk.lh _ ((h.obj i).xx hi hn hl) (λf=>f)
theorem gR.trans{m:Nat->Prop}{w1 w2:World}(h:gR w0 m w1)(h':gR w1 (λ_=>False) w2):gR w0 m w2:=by
 refine⟨h'.os.trans h.os,h'.tape.trans h.tape,h'.output.trans h.output,GD h.size h'.size,λb hb hm=>?_,λb c t f hf hm=>?_⟩
 .rw[h'.lh b (CG hb h.size) (λf=>f)];exact h.lh b hb hm
 .rcases cU b w1.heap.size with aL|nO
  .rw[h'.lh b aL (λf=>f)]at hf;exact h.free b c t f hf hm
  .exact h'.free b c t f hf (.inl nO)
theorem jc.quiet(h:HR ρ w H)(hk:gR w (λ_=>False) w'):jc ρ w H w' ρ H:=⟨h.fF hk,gG.refl ρ,λ_ _ h1 h2=>⟨h1.trans hk,h2⟩,aC _,λ_ _ _ h=>h⟩
theorem Jv{cs:List (Nat×Nat×Nat)}{cv:List Value}(h:L2 (λ(c:Nat×Nat×Nat)v=>jR ρ c.1 c.2.1 c.2.2 v) cs cv):L2 (bg ρ) (cs.map Ag) cv:=by induction h with|nil=>exact .nil|cons h _ ih=>exact .cons h ih
theorem UK{o:Oper}{v:AV}{H':AH}{K:Act->World->Prop}{Q:Exit->Act->World->Prop}(ht:jw P aa)(hs:St N w0 M ρ fr H a w)(hd:xB N o.dst=true)(h:cO P aa o.op ((bI o.op).map (ev fr)) H=some (v,H'))(hK:∀bh a' w',St N w0 M bh (iF o.dst v fr) H' a' w'->K a' w'):o.wp P a w K Q:=by
 have hv:=HU hs (bI o.op);have GV:MI P ρ H w (execOp a.eval o) v H'->o.wp P a w K Q:=by
  rintro⟨w',bh,he,⟨vc,h1,h2⟩|⟨h1,h2⟩⟩
  .simp only[Oper.wp,h1,Oper.upon];exact hK _ _ _ ((hs.G4 he).put hd h2)
  .simp only[Oper.wp,h1,Oper.upon];subst h2;exact hK _ _ _ ((hs.G4 he).put hd rfl)
 unfold cO at h;split at h
 .rename_i op _ f as ts fn cs args jt kL;rw[jt]at kL hv;simp only[bI,fW,cK]at kL hv;obtain⟨hf,bM⟩:=kL;have hfr:=G6 hs.fr f;rw[hf]at hfr;obtain⟨cv,hcv,hcr⟩:=hfr;cases hv with|cons _ hv=>
    unfold Af at h;split at h
    .rename_i s hl;simp only[ef,bD]at h;obtain⟨v',h1,rfl,rfl⟩:=h;obtain⟨hen,hpu⟩:=ht fn _ hl;have hrel:L2 (bg ρ) (args++cs.map Ag) (as.toList.map a.eval++cv):=by rw[<-bM];exact hv.app (Jv hcr)
     have xK:=hpu _ _ h1 ρ w _ hrel;have wz:(execOp a.eval o).run P w=.ok (.enter fn (as.toList.map a.eval++cv).toArray) w:=by
      have e1:#[]++as.map a.eval++cv.toArray=(as.toList.map a.eval++cv).toArray:=by apply p9;simp
      simp only[execOp,jt,resolve,hcv,Deferred.ofValue,c9,fi,c8,invoke];rw[e1];exact hen _ _
     simp only[Oper.wp,wz,Oper.upon];refine xK.mono ?_;rintro e w'⟨vc,rfl,h3,h4⟩;exact hK _ _ _ ((hs.G4 (jc.quiet hs.hr h4)).put hd (h3 ρ))
    .rename_i s hl;obtain⟨hen,_,hfp⟩:=ht fn _ hl;have hrel:L2 (bg ρ) (args++cs.map Ag) (as.toList.map a.eval++cv):=by rw[<-bM];exact hv.app (Jv hcr)
     have xK:=hfp _ _ _ _ h ρ w _ hrel hs.hr;have wz:(execOp a.eval o).run P w=.ok (.enter fn (as.toList.map a.eval++cv).toArray) w:=by
      have e1:#[]++as.map a.eval++cv.toArray=(as.toList.map a.eval++cv).toArray:=by apply p9;simp
      simp only[execOp,jt,resolve,hcv,Deferred.ofValue,c9,fi,c8,invoke];rw[e1];exact hen _ _
     simp only[Oper.wp,wz,Oper.upon];refine xK.mono ?_;rintro e w'⟨vc,bh,rfl,h3,h4,h5,h6,h7⟩;exact hK _ _ _ ((hs.call h4 h5 h6 h7).put hd h3)
    .rename_i s hl;obtain⟨hen,_,hfp⟩:=ht fn _ hl;have hrel:L2 (bg ρ) (args++cs.map Ag) (as.toList.map a.eval++cv):=by rw[<-bM];exact hv.app (Jv hcr)
     have xK:=hfp _ _ _ _ h ρ w _ hrel hs.hr;have wz:(execOp a.eval o).run P w=.ok (.enter fn (as.toList.map a.eval++cv).toArray) w:=by
      have e1:#[]++as.map a.eval++cv.toArray=(as.toList.map a.eval++cv).toArray:=by apply p9;simp
      simp only[execOp,jt,resolve,hcv,Deferred.ofValue,c9,fi,c8,invoke];rw[e1];exact hen _ _
     simp only[Oper.wp,wz,Oper.upon];refine xK.mono ?_;rintro e w'⟨vc,bh,rfl,h3,h4,h5,h6,h7⟩;exact hK _ _ _ ((hs.call h4 h5 h6 h7).put hd h3)
    .simp at h
 .simp at h
 .rename_i op _ as ts jt;rw[jt]at hv h;obtain⟨w',bh,vc,h1,h2,h3⟩:=agO (ty:=o.type) h hv hs.hr;refine GV ⟨w',bh,h1,.inl ⟨vc,?_,h3⟩⟩;have has:(List.map a.eval (bI (Op.call ⟨.builtin .append,as,ts⟩))).toArray=as.map a.eval:=by apply p9;simp[bI]
  rw[has]at h2;simp only[execOp,jt,resolve,c9,fi,c8,invoke,builtin,h2]
 .rename_i op _ s d x i o' v' n jt kL;rw[kL]at hv;rw[jt]at hv;rw[ef]at h;obtain⟨v1,h1,h2⟩:=h;simp only[bD]at h2;obtain⟨rfl,rfl⟩:=h2;simp only[bI,fW,iW]at hv;cases hv with|cons hx _=>
    obtain⟨vc,h3,h4⟩:=Zk hs.hr h1 hx;refine GV ⟨w,ρ,⟨hs.hr,gG.refl ρ,λ_ _ a b=>⟨a,b⟩,aC _,λ_ _ _ h=>h⟩,.inl ⟨vc,?_,h4⟩⟩;simp only[execOp,jt,c9,h3,c8,fi]
 .rename_i op _ s d x jt kL;rw[kL]at hv;rw[jt]at hv;rw[ef]at h;obtain⟨v1,h1,h2⟩:=h;simp only[bD]at h2;obtain⟨rfl,rfl⟩:=h2;simp only[bI,fW,iW]at hv;cases hv with|cons hx _=>
    obtain⟨vc,h3,h4⟩:=Zk hs.hr h1 hx;refine GV ⟨w,ρ,⟨hs.hr,gG.refl ρ,λ_ _ a b=>⟨a,b⟩,aC _,λ_ _ _ h=>h⟩,.inl ⟨vc,?_,h4⟩⟩;simp only[execOp,jt,c9,h3,c8,fi]
 .split at h
  .exact GV (ape (o:=o) h hv hs.hr)
  split at h
  .rename_i v' hq;simp at h;obtain⟨rfl,rfl⟩:=h;obtain⟨vc,h1,h2⟩:=ado (o:=o) hq hv (λi=>hs.hr.obj i);exact GV ⟨w,ρ,⟨hs.hr,gG.refl ρ,λ_ _ a b=>⟨a,b⟩,aC _,λ_ _ _ h=>h⟩,.inl ⟨vc,h1,h2⟩⟩
  .exact GV (akY (o:=o) h hv hs.hr)
theorem ap7{o:Oper}{l:List (AV×AH)}{K:Act->World->Prop}{Q:Exit->Act->World->Prop}(hs:St N w0 M ρ fr H a w)(hd:xB N o.dst=true)(h:Tv o.op ((bI o.op).map (ev fr)) H=some l)(hK:∀r∈l,∀bh a' w',St N w0 M bh (iF o.dst r.1 fr) r.2 a' w'->K a' w'):o.wp P a w K Q:=by simp[Tv]at h
theorem ap6{o:Oper}{R:AV->AH->Prop}{K:Act->World->Prop}{Q:Exit->Act->World->Prop}(ht:jw P aa)(hs:St N w0 M ρ fr H a w)(hd:xB N o.dst=true)(h:KK aa o.op ((bI o.op).map (ev fr)) H=some R)(hK:∀v H',R v H'->∀bh a' w',St N w0 M bh (iF o.dst v fr) H' a' w'->K a' w'):o.wp P a w K Q:=by
 have hv:=HU hs (bI o.op);unfold KK at h;split at h
 .rename_i op _ f as ts fn cs args jt kL;rw[jt]at kL hv;simp only[bI,fW,cK]at kL hv;obtain⟨hf,bM⟩:=kL;have hfr:=G6 hs.fr f;rw[hf]at hfr;obtain⟨cv,hcv,hcr⟩:=hfr;cases hv with|cons _ hv=>
    split at h<;>try(simp at h;done)
    rename_i s hl;obtain⟨hen,hfp⟩:=ht fn _ hl;have hrel:L2 (bg ρ) (args++cs.map Ag) (as.toList.map a.eval++cv):=by rw[<-bM];exact hv.app (Jv hcr)
    have xK:=hfp _ _ _ h ρ w _ hrel hs.hr;have wz:(execOp a.eval o).run P w=.ok (.enter fn (as.toList.map a.eval++cv).toArray) w:=by
     have e1:#[]++as.map a.eval++cv.toArray=(as.toList.map a.eval++cv).toArray:=by apply p9;simp
     simp only[execOp,jt,resolve,hcv,Deferred.ofValue,c9,fi,c8,invoke];rw[e1];exact hen _ _
    simp only[Oper.wp,wz,Oper.upon];refine xK.mono ?_;rintro e w'⟨v,H',vc,bh,h0,rfl,h3,h4,h5,h6,h7⟩;exact hK v H' h0 _ _ _ ((hs.call h4 h5 h6 h7).put hd h3)
 .rw[ef]at h;obtain⟨l,h1,rfl⟩:=h;exact ap7 hs hd h1 λr hr=>hK r.1 r.2 hr
end Go.Am

/- Soundness of 'arun'. -/
namespace Go.Am
variable {P:Program}{aa:je}{N:Nat}{w0:World}{M:Fx}
def FJ(N:Nat)(l:List Oper):Bool:=l.all λo=>xB N o.dst
def mf(N:Nat)(drawn:Array Oper->Bool):Code->Bool|.region _ ops d=>FJ N ops.toList&&(!d||drawn ops)|.seq a b=>mf N drawn a&&mf N drawn b|.cond _ a b=>mf N drawn a&&mf N drawn b|.block _ c=>mf N drawn c|.loop c=>mf N drawn c|.scope c=>mf N drawn c|_=>true
def xU(N:Nat)(drawn:Array Oper->Bool):It->Bool|.c x=>mf N drawn x|.ops _ l=>FJ N l|.dr _ _ _ _=>false|_=>true
def Cn(N:Nat)(drawn:Array Oper->Bool)(k:List It):Bool:=k.all (xU N drawn)
def SI(N:Nat)(w0:World)(M:Fx)(I:Fr->AH->Prop)(a:Act)(w:World):Prop:=∃ρ fr H,St N w0 M ρ fr H a w/\I fr H
def Kp(P:Program)(N:Nat)(w0:World)(M:Fx)(Q:Fr->AH->Prop):List It->Exit->Act->World->Prop
 |[]=>λe a w=>match e with
   |.normal|.ret=>SI N w0 M Q a w|_=>False
 |.c x::k=>Exit.then (x.wp P (Kp P N w0 M Q k)) (Kp P N w0 M Q k)|.ops full l::k=>Exit.then (wpList P full (Kp P N w0 M Q k) l) (Kp P N w0 M Q k)|.dr _ _ _ _::k=>Exit.then (λ_ _=>False) (Kp P N w0 M Q k)|.dK id::k=>Exit.inBlock id (Kp P N w0 M Q k)|.rK::k=>Exit.noGoto (Kp P N w0 M Q k)|.yh l J::k=>Exit.jump l (SI N w0 M J) (Kp P N w0 M Q k)|.back I::k=>Exit.then (SI N w0 M I) (Kp P N w0 M Q k)
variable {Q:Fr->AH->Prop}{w:World}
theorem afI{a:Act}(h:SI N w0 M Q a w):∀k,Kp P N w0 M Q k .ret a w:=by
 intro k;induction k with|nil=>exact h|cons x k ih=>cases x<;>exact ih
variable {J:Fr->AH->Prop}
theorem afH{a:Act}{l:Nat}(h:SI N w0 M J a w):∀k:List It,Dr l k=some J->Kp P N w0 M Q k (.goto l) a w:=by
 intro k;induction k with
 |nil=>intro h;simp[Dr]at h|cons x k ih=>
 intro hp;cases x with
 |rK=>simp[Dr]at hp|yh l' J'=>
 simp only[Dr]at hp;split at hp
 .rename_i e;simp only[ar]at hp;subst hp;subst e;exact⟨rfl,h⟩
 .simp at hp|dK i=>exact ih hp|c x=>exact ih hp|ops f l=>exact ih hp|dr f l i g=>exact ih hp|back I=>exact ih hp
variable {drawn:Array Oper->Bool}
theorem aqJ:∀{c:Code}{l:Nat}{rest:Code},mf N drawn c=true->findLabel c l=some rest->mf N drawn rest=true:=by
 intro c;induction c with
 |seq a b iha ihb=>
 intro l rest h hf;simp only[mf,aQ]at h;simp only[findLabel]at hf;split at hf
 .rename_i r hr;simp only[ar]at hf;subst hf;simp only[mf,aQ];exact⟨iha h.1 hr,h.2⟩
 .exact ihb h.2 hf|label l'=>
 intro l rest h hf;simp only[findLabel]at hf;split at hf
 .simp only[ar]at hf;subst hf;rfl
 .simp at hf|_=>intro l rest h hf;simp[findLabel]at hf
theorem afG{a:Act}{w:World}{id:Nat}:∀(k k':List It),vz id k=some k'->Kp P N w0 M Q k' .normal a w->Kp P N w0 M Q k (.exit id) a w:=by
 intro k;induction k with|nil=>intro k' h;simp[vz]at h|cons x k ih=>intro k' h hk;cases x with
 |dK i=>
    simp only[vz]at h;simp only[Kp,Exit.inBlock];split at h
    .simp at h;subst h;subst_vars;rw[if_pos rfl];exact hk
    .rename_i cW;rw[if_neg (λe=>cW e.symm)];exact ih _ h hk|c x=>exact ih _ h hk|ops f l=>exact ih _ h hk|dr f l i g=>exact ih _ h hk|back I=>exact ih _ h hk|rK=>exact ih _ h hk|yh l J=>exact ih _ h hk
theorem aAk{c:Code}{Q:Exit->Act->World->Prop}{a:Act}(I:Nat->Act->World->Prop)(n:Nat)(ani:I n a w)(round:∀n a w,I n a w->c.wp P (Exit.then (λa' w'=>∃m,m<n/\I m a' w') Q) a w):(Code.loop c).wp P Q a w:=by
 intro b k cs;have key:∀n a w,I n a w->∃e a' w',Q e a' w'/\Arrives P (lone (b.at a (.code c::.inLoop c::k)) cs w) b k cs e a' w':=by
  intro n;induction n using Nat.strongRecOn with|_ n ih=>
    intro a w hI;obtain⟨e,BL,Ja,hq,CX⟩:=round n a w hI b (.inLoop c::k) cs;cases e with
 |normal=>obtain⟨m,hm,amI⟩:=hq;obtain⟨alD,ahz,aAu,am7,amM⟩:=ih m hm BL Ja amI;exact⟨alD,ahz,aAu,am7,.of_steps (Steps.trans CX (.one step_inLoop)) amM⟩|exit id=>exact⟨_,BL,Ja,hq,.pass (x:=.inLoop c) rfl (λ_ _=>.inl (by simp)) CX⟩|goto l=>exact⟨_,BL,Ja,hq,.pass (x:=.inLoop c) rfl (λ_ _=>.inl (by simp)) CX⟩|ret=>exact⟨_,BL,Ja,hq,.pass (x:=.inLoop c) rfl (λ_ _=>.inl (by simp)) CX⟩|panic ch=>exact⟨_,BL,Ja,hq,.pass (x:=.inLoop c) rfl (λ_ _=>.inl (by simp)) CX⟩|outgrown=>exact⟨_,BL,Ja,hq,.pass (x:=.inLoop c) rfl (λ_ _=>.inl (by simp)) CX⟩
 obtain⟨e,a',w',hq,CX⟩:=key n a w ani;exact⟨e,a',w',hq,.of_steps (.one step_loop) CX⟩
theorem St.wk{ρ:Ro}{fr:Fr}{H:AH}{a:Act}{w:World}(h:St N w0 M ρ fr H a w){S:Fr×AH}{n:Nat}(hn:M.n<=n)(hw:Wk n fr H S):∃bh,St N w0 M bh S.1 S.2 a w:=by
 obtain⟨bh,h1,h2,h3,h4⟩:=hw ρ w (λs=>a.tmps.getD s undef) h.fr h.hr;refine⟨bh,h1,h.sz,h.df,h2,h.kp,λi L hi hL hn=>?_,λi hi L hL=>?_⟩
 .obtain⟨j,hj,yO⟩:=h3 i L hi hL hn;exact h.ow j L hj yO hn
 .rw[h4 i (CG hi hn)];exact h.st i hi L hL
def QK(P:Program)(aa:je)(N:Nat)(ops:Array Oper):Prop:=∀(id:Nat)(w0:World)(M:Fx)(ρ:Ro)(fr:Fr)(H:AH)(a:Act)(w:World)(k:List It)(Q:Fr->AH->Prop)(R:Exit->Act->World->Prop),St N w0 M ρ fr H a w->aM P aa (.dr ops ops.toList 0 []::k) fr H Q->(∀dP H',aM P aa k dP H' Q->∀bh a' w',St N w0 M bh dP H' a' w'->R .normal a' w')->(Code.region id ops true).wp P R a w
theorem JV{full:Array Oper}{ρ:Ro}{fr:Fr}{a:Act}{j:Nat}{r:Option Bool}(h:wo full fr j=some r)(hf:∀s,bg ρ (get fr s) (a.tmps.getD s undef)):yielded full a.tmps j=r:=by
 unfold wo at h;unfold yielded;cases hd:(full[j]?).bind (·.dst)with|none=>rw[hd]at h;simp at h;subst h;rfl|some d=>
   rw[hd]at h;simp only[QG];have hv:=hf d;simp only at h;split at h
   .rename_i q hg;simp at h;subst h;rw[hg]at hv;have vu:a.tmps.getD d undef=.bool q:=hv;have aL:d<a.tmps.size:=by
     rcases cU d a.tmps.size with h|h
     .exact h
     .simp[qA,qB h,undef]at vu
    have:a.tmps[d]?=some (.bool q):=by rw[Qu aL];rw[qA,Qu aL]at vu;simpa using vu
    rw[this]
   .rename_i hg;simp at h;subst h;rw[hg]at hv;have vu:a.tmps.getD d undef=undef:=hv;rcases cU d a.tmps.size with aL|nO
    .have:a.tmps[d]?=some undef:=by rw[Qu aL];rw[qA,Qu aL]at vu;simpa using vu
     rw[this];rfl
    .rw[qB nO]
   .simp at h
variable {full:Array Oper}{k:List It}
theorem acy{R:Exit->Act->World->Prop}(ht:jw P aa)(hK:∀dP H',aM P aa k dP H' Q->∀bh a' w',St N w0 M bh dP H' a' w'->R .normal a' w'):∀(l:List Oper),FJ N l=true->∀ρ fr H a w,aM P aa (.ops full l::k) fr H Q->St N w0 M ρ fr H a w->wpList P full R l a w:=by
 intro l;induction l with
 |nil=>intro _ ρ fr H a w h hs;rw[Q7]at h;exact hK _ _ h _ _ _ hs|cons o l ih=>
   intro ho ρ fr H a w h hs;simp only[FJ,bG,aQ]at ho;have HC:=ih ho.2;have step:∀v H',cO P aa o.op ((bI o.op).map (ev fr)) H=some (v,H')->aM P aa (.ops full l::k) (iF o.dst v fr) H' Q->o.wp P a w (wpList P full R l) R:=λv H' h1 h2=>UK ht hs ho.1 h1 λbh a' w' uC=>HC _ _ _ _ _ h2 uC;have skip:aM P aa (.ops full l::k) (iF o.dst (.c .gM) fr) H Q->wpList P full R l (a.put o.dst undef) w:=λh2=>HC _ _ _ _ _ h2 (hs.put ho.1 rfl);rw[MX]at h;unfold wpList;split at h
   .rename_i hg;have hw:Region.wanted o (yielded full a.tmps)=true:=by simp[Region.wanted,hg]
    rw[if_pos hw];split at h
    .rename_i v H' h1;exact .inl (step _ _ h1 h)
    .split at h
     .rename_i l hl;exact .inl (ap6 ht hs ho.1 hl λv H' hr bh a' w' uC=>HC _ _ _ _ _ (h v H' hr) uC)
     .exact h.elim
   .rename_i j want hg;split at h
    .rename_i q hq;have hy:=JV hq hs.fr;have hw:Region.wanted o (yielded full a.tmps)=(q==want):=by simp[Region.wanted,hg,hy]
     split at h
     .rename_i e;rw[if_pos (by rw[hw];simp[e])];split at h
      .rename_i v H' h1;exact .inl (step _ _ h1 h)
      .exact h.elim
     .rename_i e;rw[if_neg (by rw[hw];simp[e])];exact skip h
    .rename_i hq;have hy:=JV hq hs.fr;have hw:Region.wanted o (yielded full a.tmps)=false:=by simp[Region.wanted,hg,hy]
     rw[if_neg (by rw[hw];simp)];exact skip h
    .exact h.elim
theorem tX{x:It}(h:xU N drawn x=true)(hk:Cn N drawn k=true):Cn N drawn (x::k)=true:=by simp only[Cn,bG,aQ];exact⟨h,hk⟩
theorem sound(sB:M.n<=lo aa)(ht:jw P aa)(drawn:Array Oper->Bool)(SJ:∀ops,drawn ops=true->FJ N ops.toList=true->QK P aa N ops):∀(n:Nat)(k:List It),fK k<=n->Cn N drawn k=true->∀fr H,aM P aa k fr H Q->∀ρ a w,St N w0 M ρ fr H a w->Kp P N w0 M Q k .normal a w:=by
 intro n;induction n with
 |zero=>intro k hk aR fr H h ρ a w hs;cases k with|nil=>rw[Jp]at h;exact⟨ρ,fr,H,hs,h⟩|cons x k=>exfalso;cases x<;>simp[fK,It.wt]at hk;rename_i c;cases c<;>simp[ig]at hk
 |succ n ih=>
 intro k hk aR fr H h ρ a w hs;cases k with
 |nil=>rw[Jp]at h;exact⟨ρ,fr,H,hs,h⟩|cons x k=>
 simp only[Cn,bG,aQ]at aR;obtain⟨hx,aR⟩:=aR;cases x with
 |dK id=>rw[QW]at h;exact ih k (by simp[fK,It.wt]at hk|-;omega) aR fr H h ρ a w hs|back I=>rw[QV]at h;exact⟨ρ,fr,H,hs,h⟩|rK=>rw[Re]at h;exact ih k (by simp[fK,It.wt]at hk|-;omega) aR fr H h ρ a w hs|yh l J=>rw[Rb]at h;exact ih k (by simp[fK,It.wt]at hk|-;omega) aR fr H h ρ a w hs|dr f l i g=>simp[xU]at hx|ops full l=>exact acy ht (λdP H' h' bh a' w' uC=>ih k (by simp[fK,It.wt]at hk|-;omega) aR dP H' h' bh a' w' uC) l hx ρ fr H a w h hs|c x=>
 have C3:∀dP H',aM P aa k dP H' Q->∀bh a' w',St N w0 M bh dP H' a' w'->Kp P N w0 M Q k .normal a' w':=λdP H' h' bh a' w' uC=>ih k (by
        have:0<ig x:=by cases x<;>simp[ig]
        simp[fK,It.wt]at hk|-;omega) aR dP H' h' bh a' w' uC;show x.wp P (Kp P N w0 M Q k) a w;cases x with
 |skip=>rw[Rg]at h;exact wp_skip (C3 _ _ h _ _ _ hs)|region id ops d=>simp only[xU,mf,aQ]at hx;cases d with|false=>rw[Q8]at h;exact wp_region_list (acy ht C3 ops.toList hx.1 ρ fr H a w h hs)|true=>rw[Q9]at h;exact SJ ops (by simpa using hx.2) hx.1 id w0 M ρ fr H a w k Q _ hs h C3
 |seq x y=>
 rw[Rf]at h;simp only[xU,mf,aQ]at hx;refine wp_seq ?_;exact ih (.c x::.c y::k) (by simp[fK,It.wt,ig]at hk|-;omega) (tX hx.1 (tX hx.2 aR)) fr H h ρ a w hs|cond x y z=>
        rw[QY]at h;simp only[xU,mf,aQ]at hx;split at h
        .rename_i q hq;have he:=G6 hs.fr x;rw[hq]at he;have J8:a.eval x=.bool q:=he;split at h
         .rename_i e;subst e;refine wp_cond_true J8 ?_;exact ih (.c y::k) (by simp[fK,It.wt,ig]at hk|-;omega) (tX hx.1 aR) fr H h ρ a w hs
         .rename_i e;refine wp_cond_false (by rw[J8];simpa using e) ?_;exact ih (.c z::k) (by simp[fK,It.wt,ig]at hk|-;omega) (tX hx.2 aR) fr H h ρ a w hs
        .rename_i hq;have he:=G6 hs.fr x;rw[hq]at he;obtain⟨q,J8⟩:∃q,a.eval x=.bool q:=he;cases q
         .refine wp_cond_false J8 ?_;exact ih (.c z::k) (by simp[fK,It.wt,ig]at hk|-;omega) (tX hx.2 aR) fr H h.2 ρ a w hs
         .refine wp_cond_true J8 ?_;exact ih (.c y::k) (by simp[fK,It.wt,ig]at hk|-;omega) (tX hx.1 aR) fr H h.1 ρ a w hs
        .exact h.elim|block id y=>
 rw[QX]at h;simp only[xU,mf]at hx;refine wp_block ?_;exact ih (.c y::.dK id::k) (by simp[fK,It.wt,ig]at hk|-;omega) (tX hx (tX rfl aR)) fr H h ρ a w hs|loop y=>
        rw[rk]at h;simp only[xU,mf]at hx;obtain⟨ι,F,μ,i0,h0,hr⟩:=h;obtain⟨Qs,hs1⟩:=hs.wk sB h0;refine aAk (λn a w=>∃i ρ,μ i=n/\St N w0 M ρ (F i).1 (F i).2 a w) (μ i0) ⟨i0,Qs,rfl,hs1⟩ ?_;rintro n' a' w'⟨i,bh,rfl,uC⟩;have:=ih (.c y::.back (λfr H=>∃j,μ j<μ i/\Wk (lo aa) fr H (F j))::k) (by simp[fK,It.wt,ig]at hk|-;omega) (tX hx (tX rfl aR)) _ _ (hr i) bh a' w' uC;refine wp_mono (show y.wp P (Kp P N w0 M Q (.back _::k)) a' w' from this) ?_;intro e a2 w2 hq;cases e with
        |normal=>obtain⟨zM,Z5,H2,mR,j,hj,Tn⟩:=hq;obtain⟨Qt,Kl⟩:=mR.wk sB Tn;exact⟨μ j,hj,j,Qt,rfl,Kl⟩|_=>exact hq
 |exit id=>
        rw[Q0]at h;split at h
        .rename_i k' hp;refine wp_exit (afG k k' hp ?_);have qm:Cn N drawn k'=true:=by
          have:∀(k k':List It),vz id k=some k'->(k.all (xU N drawn))=true->Cn N drawn k'=true:=by
           intro k;induction k with
 |nil=>intro k' h;simp[vz]at h|cons x k Oq=>
 intro k' h aR;simp only[bG,aQ]at aR;cases x with
 |dK i=>
 simp only[vz]at h;split at h
 .simp at h;subst h;exact aR.2
 .exact Oq _ h aR.2|_=>exact Oq _ h aR.2
          exact this k k' hp aR
         have:=U0 hp;exact ih k' (by simp[fK,It.wt,ig]at hk this|-;omega) qm fr H h ρ a w hs
        .exact h.elim|label l=>rw[Q6]at h;exact wp_label (C3 _ _ h _ _ _ hs)|goto l=>
        rw[Q5]at h;split at h
        .rename_i J hp;exact wp_goto (afH ⟨ρ,fr,H,hs,h⟩ k hp)
        .exact h.elim|scope y=>
        rw[Rc]at h;simp only[xU,mf]at hx;rcases h with h|⟨l,rest,J,hf,h1,hle,h2⟩
        .refine wp_scope_straight ?_;exact ih (.c y::.rK::k) (by simp[fK,It.wt,ig]at hk|-;omega) (tX hx (tX rfl aR)) fr H h ρ a w hs
        .have hxr:=aqJ hx hf;refine wp_scope_jumps l (SI N w0 M J) (λ_ _=>0) hf (ih (.c y::.yh l J::k) (by simp[fK,It.wt,ig]at hk|-;omega) (tX hx (tX rfl aR)) fr H h1 ρ a w hs) ?_;rintro a' w'⟨bh,dP,H',uC,hj⟩;have:=ih (.c rest::.rK::k) (by simp[fK,It.wt,ig]at hk|-;omega) (tX hxr (tX rfl aR)) dP H' (h2 _ _ hj) bh a' w' uC;refine wp_mono (show rest.wp P (Kp P N w0 M Q (.rK::k)) a' w' from this) ?_;intro e a2 w2 hq;cases e with
         |goto l'=>exact hq.elim|_=>exact hq
 |ret=>rw[Ra]at h;exact wp_ret (afI ⟨ρ,fr,H,hs,h⟩ k)|_=>rw[aM]at h<;>first|exact h.elim|simp
end Go.Am

/- Contracts out of runs. -/
namespace Go.Am
variable {P:Program}{aa:je}
def Sc.pf:Sc->Bool|.p _ _ _|.sl _ _ _ _|.mp _=>false|.f _ cs=>cs.isEmpty|_=>true
def AV.pf:AV->Bool|.c s=>s.pf|.g l=>l.all Sc.pf|.t l=>l.all λx=>match x with|.c s=>s.pf|.g l=>l.all Sc.pf|.t _=>false
variable {ρ bh:Ro}{s:Sc}
theorem b6.pf{v:Value}(h:b6 ρ s v)(hp:s.pf=true):b6 bh s v:=by
 cases s<;>simp[Sc.pf]at hp<;>try exact h
 subst hp;obtain⟨cv,h1,h2⟩:=h;cases h2;exact⟨[],h1,.nil⟩
variable {l:List Sc}
theorem L2.pf{c:List Value}(h:L2 (b6 ρ) l c)(hp:l.all Sc.pf=true):L2 (b6 bh) l c:=by induction h with|nil=>exact .nil|cons h _ ih=>simp only[bG,aQ]at hp;exact .cons (h.pf hp.1) (ih hp.2)
theorem bg.pf{x:AV}{v:Value}(h:bg ρ x v)(hp:x.pf=true):bg bh x v:=by cases x with
 |c s=>exact b6.pf h hp|g l=>obtain⟨cs,h1,h2⟩:=h;exact⟨cs,h1,h2.pf hp⟩|t l=>
 obtain⟨vs,h1,h2⟩:=h;refine⟨vs,h1,?_⟩;simp only[AV.pf]at hp;clear h1;induction h2 with
 |nil=>exact .nil|@cons a b l m h _ ih=>
 simp only[bG,aQ]at hp;refine .cons ?_ (ih hp.2);cases a with|c s=>exact b6.pf h hp.1|g l=>obtain⟨cs,h1,h2⟩:=h;exact⟨cs,h1,h2.pf hp.1⟩|t l=>exact h.elim
def sd:Nat->List AV->Fr|_,[]=>[]|n,v::r=>(n,v)::sd (n+1) r
theorem aal:∀(args:List AV)(cs:List Value),L2 (bg ρ) args cs->∀n s,bg ρ (get (sd n args) s) (if n<=s then cs.getD (s-n) undef else undef):=by
 intro args cs h;induction h with|nil=>intro n s;trivial|@cons x c args cs h _ ih=>
   intro n s;simp only[sd,get];split
   .subst_vars;simpa using h
   .rename_i cW;have:=ih (n+1) s;by_cases hle:n<=s
    .rw[if_pos hle];rw[if_pos ω]at this;obtain⟨d,hd⟩:∃d,s-n=d+1:=⟨s-n-1,ω⟩;rw[hd,List.getD_cons_succ,show d=s-(n+1)by omega];exact this
    .rw[if_neg hle];rw[if_neg ω]at this;exact this
def Dg(P:Program)(t:Nat)(H:AH)(x:AV):Option AV:=match x with|.c (.p id off aX)=>if aX=(hg H id).row/\off+av P t<=(hg H id).cells.length/\0<av P t/\(dT P t).is/\((dT P t).agg=false->av P t=1)then some (rd (dT P t).agg (hg H id).cells off (av P t))else none|_=>none
def Lb(P:Program)(fr:Fr)(H:AH):ResultVar->Option AV|.tmp t=>some (get fr t)|.cell a t=>Dg P t H (get fr a)
def AV.flat:AV->Bool|.t _=>false|_=>true
def H9(P:Program)(fr:Fr)(H:AH):List ResultVar->Option (List AV)|[]=>some []|r::rs=>match Lb P fr H r,H9 P fr H rs with|some v,some l=>if v.flat=true then some (v::l)else none|_,_=>none
def rG(P:Program)(fr:Fr)(H:AH)(rs:List ResultVar):Option AV:=match rs with|[r]=>Lb P fr H r|rs=>(H9 P fr H rs).map .t
variable {w:World}{H:AH}{t:Nat}{v:AV}
theorem anW{x:AV}{cx:Value}(h:Dg P t H x=some v)(hx:bg ρ x cx)(hO:∀i,jJ ρ w i (hg H i)):∃ad vc,cx=.pointer (some ad)/\(loadVar t ad).run P w=.ok vc w/\bg ρ v vc:=by
 unfold Dg at h;split at h
 .rename_i id off aX;split at h<;>simp at h;rename_i hc;subst h;obtain⟨L,ad,h2,h3,h4,h5⟩:=(show jR ρ id off aX _ from hx);have AD:(hg H id).live=true:=by cases hh:hg H id with|dead=>rw[hh]at hc;simp[ae.cells]at hc;omega|_=>rfl
  have mQ:=(hO id).row h2 AD;obtain⟨_,_,rfl⟩:=h5 (by rw[mQ];exact hc.1);obtain⟨vc,h6,h7⟩:=abe (hO id) h2 hc.2.1 hc.2.2.1 hc.2.2.2.1 hc.2.2.2.2;exact⟨_,vc,h3,h6,h7⟩
 .simp at h
def Pb(tmps:Array Value)(r:ResultVar):Sem Value:=match r with|.tmp t=>pure (tmps.getD t undef)|.cell a t=>do loadVar t (<-asAddr (tmps.getD a undef))
theorem au5(fn:Func)(tmps:Array Value):results fn tmps=(do let vs<-Functor.map List.toArray (fn.results.toList.mapM (Pb tmps));pure (if h:vs.size=1 then vs[0]else .tuple vs)):=by
 unfold results;rw[Array.mapM_eq_mapM_toList];rfl
variable {fr:Fr}{tmps:Array Value}
theorem adA{r:ResultVar}(h:Lb P fr H r=some v)(hf:∀s,bg ρ (get fr s) (tmps.getD s undef))(hO:∀i,jJ ρ w i (hg H i)):∃vc,(Pb tmps r).run P w=.ok vc w/\bg ρ v vc:=by cases r with
 |tmp t=>simp[Lb]at h;subst h;exact⟨_,rfl,hf t⟩|cell a t=>obtain⟨ad,vc,h1,h2,h3⟩:=anW (P:=P) (show Dg P t H (get fr a)=some v from h) (hf a) hO;exact⟨vc,by simp[Pb,h1,asAddr,h2],h3⟩
variable {fn:Func}
theorem adB(h:rG P fr H fn.results.toList=some v)(hf:∀s,bg ρ (get fr s) (tmps.getD s undef))(hO:∀i,jJ ρ w i (hg H i)):∃vc,(results fn tmps).run P w=.ok vc w/\bg ρ v vc:=by
 have key:∀(rs:List ResultVar)(l:List AV),H9 P fr H rs=some l->∃vs:List Value,(rs.mapM (Pb tmps)).run P w=.ok vs w/\L2 (V1 ρ) l vs/\vs.length=rs.length:=by
  intro rs;induction rs with|nil=>intro l h;simp[H9]at h;subst h;exact⟨[],by simp,.nil,rfl⟩|cons r rs ih=>
    intro l h;simp only[H9]at h;split at h
    .rename_i v' l' h1 h2;split at h<;>simp at h;rename_i hfl;subst h;obtain⟨vc,h3,h4⟩:=adA (P:=P) h1 hf hO;obtain⟨vs,h5,h6,h7⟩:=ih _ h2;refine⟨vc::vs,?_,.cons ?_ h6,by simp[h7]⟩
     .simp only[Gy,c9,h3,c8,h5,fi]
     .cases v'<;>first|exact h4|simp[AV.flat]at hfl
    .simp at h
 rw[au5];unfold rG at h;split at h
 .rename_i r hr;obtain⟨vc,h1,h2⟩:=adA (P:=P) h hf hO;refine⟨vc,?_,h2⟩;rw[hr];simp only[Gy,List.mapM_nil,c9,Sem.run_map,h1,c8,fi];rfl
 .rename_i rs cW;simp only[ef]at h;obtain⟨l,h1,rfl⟩:=h;obtain⟨vs,h2,h3,h4⟩:=key _ _ h1;refine⟨.tuple vs.toArray,?_,vs,rfl,h3⟩;simp only[c9,Sem.run_map,h2,c8,fi];have:¬vs.toArray.size=1:=by
   intro e;have:fn.results.toList.length=1:=by rw[<-h4];simpa using e
   match hh:fn.results.toList,this with|[r],_=>exact cW r hh
  rw[dif_neg this]
theorem HR.nil(w:World):HR Ek w []:=⟨λi=>by rw[tG _ (fM _)];trivial,λi j Li Lj _ h=>by rw[tG _ (fM _)]at h;simp[ae.owned]at h,λ_ _=>rfl⟩
theorem gR.refl(w:World)(M:Nat->Prop)(h:∀b c t f,w.heap[b]?=some (.cells c t f)->M b->f=(0,0)):gR w M w:=⟨rfl,rfl,rfl,aC _,λ_ _ _=>rfl,λb c t f hf hm=>by
   rcases hm with hm|hm
   .rw[qB hm]at hf;simp at hf
   .exact h b c t f hf hm⟩
variable {f n:Nat}{code:Code}{rs:List ResultVar}
theorem auM{s:List AV->Option AV}(drawn:Array Oper->Bool)(hf:P.funcs[f]?=some fn)(hb:fn.body=some code)(oH:fn.results=rs.toArray)(hn:fn.ntmps=n)(qQ:(fn.name== "runtime.NumGoroutine")=false)(ht:jw P aa)(SJ:∀ops,drawn ops=true->FJ n ops.toList=true->QK P aa n ops)(aR:mf n drawn code=true)(h:∀args v,s args=some v->args.length<=n/\args.all AV.pf=true/\v.pf=true/\aM P aa [.c code] (sd 0 args) [] (λfr H=>rG P fr H rs=some v)):cE P f s:=by
 obtain rfl:fn.results.toList=rs:=by rw[oH]
 subst hn;refine⟨λargs w=>?_,λargs v hs ρ w cs cu=>?_⟩
 .have hn:¬fn.name= "runtime.NumGoroutine":=by simpa using qQ
  simp[callFunc,hf,hn,hb]
 .obtain⟨h1,h2,h3,h4⟩:=h args v hs;have hrel:L2 (bg Ek) args cs:=by
   clear h1 h4 hs;induction cu with
 |nil=>exact .nil|cons h _ ih=>simp only[bG,aQ]at h2;exact .cons (h.pf h2.1) (ih h2.2)
  have hlen:=cu.length;refine calls_of_wp hf hb ?_;have dW:St fn.ntmps w ⟨λ_=>False,0,Ek⟩ Ek (sd 0 args) [] {tmps:=cs.toArray++xd (fn.ntmps-cs.toArray.size) undef,defers:=[]} w:=by
   refine⟨λx=>?_,by simp;omega,rfl,HR.nil w,gR.refl w _ (λ_ _ _ _ _ h=>h.elim),λi L h=>by rw[tG _ (fM _)]at h;simp[ae.owned]at h,λi h=>absurd h (Nat.not_lt_zero _)⟩;have:=aal args cs hrel 0 x;rw[if_pos (fM _),Nat.sub_zero]at this;have e:(cs.toArray++xd (fn.ntmps-cs.toArray.size) undef).getD x undef=cs.getD x undef:=by
    rw[qA,b9,Array.getElem?_append];split
    .simp
    .rename_i hx;simp at hx;rw[jQ hx,aft];split<;>rfl
   rw[e];exact this
  have C3:=sound (M:=⟨λ_=>False,0,Ek⟩) (fM _) ht drawn SJ (fK [.c code]) [.c code] (aC _) (by simp[Cn,xU,aR]) _ _ h4 _ _ _ dW;refine wp_mono (show code.wp P (Kp P fn.ntmps w ⟨λ_=>False,0,Ek⟩ _ []) _ w from C3) ?_;intro e a2 w2 hq;have fin:SI fn.ntmps w ⟨λ_=>False,0,Ek⟩ (λfr H=>rG P fr H fn.results.toList=some v) a2 w2->a2.defers=[]/\∃v',(results fn a2.tmps).run P w2=.ok v' w2/\∃vc,Ending.returned v'=.returned vc/\(∀bh,bg bh v vc)/\gR w (λ_=>False) w2:=by
   rintro⟨zM,Z5,H2,mR,Hv⟩;obtain⟨vc,h5,h6⟩:=adB (P:=P) Hv mR.fr mR.hr.obj;exact⟨mR.df,vc,h5,vc,rfl,λbh=>h6.pf h3,mR.kp⟩
  cases e<;>first|exact fin hq|exact hq.elim
end Go.Am

/- Rules by which 'simp only' runs a text. -/
namespace Go.Am
variable {P:Program}{aa:je}{full:Array Oper}{os:List Oper}{k:List It}{fr:Fr}{H:AH}{Q:Fr->AH->Prop}
def zb(P:Program)(aa:je)(full:Array Oper)(os:List Oper)(k:List It)(Q:Fr->AH->Prop)(d:Option Nat)(fr:Fr)(r:Option (AV×AH))(z:Option (AV->AH->Prop)):Prop:=match r with|some (v,H')=>aM P aa (.ops full os::k) (iF d v fr) H' Q|none=>match z with|some R=>∀v H',R v H'->aM P aa (.ops full os::k) (iF d v fr) H' Q|none=>False
variable {d:Nat}{v:AV}
theorem auP:iF (some d) v fr=(d,v)::fr:=rfl
theorem auO:iF none v fr=fr:=rfl
variable {op:Op}{ty:Nat}{pos:String}{af:Array Edge}
theorem ayx{d:Option Nat}:aM P aa (.ops full (⟨d,op,ty,pos,af,none⟩::os)::k) fr H Q=zb P aa full os k Q d fr (cO P aa op ((bI op).map (ev fr)) H) (KK aa op ((bI op).map (ev fr)) H):=by rw[MX];rfl
def wm(P:Program)(aa:je)(full:Array Oper)(os:List Oper)(k:List It)(Q:Fr->AH->Prop)(d:Option Nat)(op:Op)(want:Bool)(fr:Fr)(H:AH)(g:AV):Prop:=match g with|.c (.b q)=>if q=want then zb P aa full os k Q d fr (cO P aa op ((bI op).map (ev fr)) H) none else aM P aa (.ops full os::k) (iF d (.c .gM) fr) H Q|.c .gM=>aM P aa (.ops full os::k) (iF d (.c .gM) fr) H Q|_=>False
variable {want q:Bool}
theorem aam{d:Option Nat}:wm P aa full os k Q d op want fr H (.c (.b q))=if q=want then zb P aa full os k Q d fr (cO P aa op ((bI op).map (ev fr)) H) none else aM P aa (.ops full os::k) (iF d (.c .gM) fr) H Q:=rfl
def jZ(full:Array Oper)(j:Nat):Option Nat:=(full[j]?).bind (·.dst)
def JU(full:Array Oper)(fr:Fr)(j:Nat):AV:=match jZ full j with|some e=>Am.get fr e|none=>.c .gM
variable {j:Nat}
theorem ayw{d:Option Nat}:aM P aa (.ops full (⟨d,op,ty,pos,af,some (j,want)⟩::os)::k) fr H Q=wm P aa full os k Q d op want fr H (JU full fr j):=by
 rw[MX];simp only[wo,JU,jZ];cases(full[j]?).bind (·.dst)with
 |none=>rfl|some e=>simp only;cases Am.get fr e with|c s=>cases s<;>rfl|g l=>rfl|t l=>rfl
variable {dP:Fr}{H':AH}
@[congr]theorem aA9(h1:fr=dP)(h2:H=H'):aM P aa k fr H Q=aM P aa k dP H' Q:=by rw[h1,h2]
variable {r r':Option (AV×AH)}{z:Option (AV->AH->Prop)}
@[congr]theorem aBu{d:Option Nat}(h1:r=r'):zb P aa full os k Q d fr r z=zb P aa full os k Q d fr r' z:=by rw[h1]
@[congr]theorem aBl{d:Option Nat}{g g':AV}(h1:g=g'):wm P aa full os k Q d op want fr H g=wm P aa full os k Q d op want fr H g':=by rw[h1]
theorem aqa:zb P aa full os k Q (some d) fr (some (v,H')) z=aM P aa (.ops full os::k) ((d,v)::fr) H' Q:=rfl
theorem ap8:zb P aa full os k Q none fr (some (v,H')) z=aM P aa (.ops full os::k) fr H' Q:=rfl
theorem agU{id:Nat}{l:List Oper}:aM P aa (.c (.region id l.toArray false)::k) fr H Q=aM P aa (.ops l.toArray l::k) fr H Q:=by rw[Q8]
def gd(P:Program)(aa:je)(full:Array Oper)(os:List Oper)(i:Nat)(log:List (Nat×Tc))(k:List It)(Q:Fr->AH->Prop)(fr:Fr)(H:AH):Prop:=aM P aa (.dr full os i log::k) fr H Q
variable {i:Nat}{log:List (Nat×Tc)}
theorem aml:gd P aa full os i log k Q fr H=aM P aa (.dr full os i log::k) fr H Q:=rfl
@[congr]theorem aBk{i':Nat}(h:i=i'):gd P aa full os i log k Q fr H=gd P aa full os i' log k Q fr H:=by rw[h]
def tV(P:Program)(aa:je)(full:Array Oper)(os:List Oper)(i:Nat)(log:List (Nat×Tc))(k:List It)(Q:Fr->AH->Prop)(d:Option Nat)(fr:Fr)(H:AH)(t:Tc)(r:Option (AV×AH)):Prop:=match r with|some (v,H')=>qx full i (mW t H H') log/\aM P aa (.dr full os (i+1) (Cq i (mW t H H') log)::k) (iF d v fr) H' Q|none=>False
@[congr]theorem aBt{d:Option Nat}{t t':Tc}(h:t=t')(h1:r=r'):tV P aa full os i log k Q d fr H t r=tV P aa full os i log k Q d fr H t' r':=by rw[h,h1]
theorem agT{id:Nat}{l:List Oper}:aM P aa (.c (.region id l.toArray true)::k) fr H Q=aM P aa (.dr l.toArray l 0 []::k) fr H Q:=by rw[Q9]
theorem axV{d:Option Nat}:aM P aa (.dr full (⟨d,op,ty,pos,af,none⟩::os) i log::k) fr H Q=tV P aa full os i log k Q d fr H (cA P aa op ((bI op).map (ev fr))) (cO P aa op ((bI op).map (ev fr)) H):=by rw[MW];rfl
def yM(P:Program)(aa:je)(full:Array Oper)(os:List Oper)(i:Nat)(log:List (Nat×Tc))(k:List It)(Q:Fr->AH->Prop)(d:Option Nat)(op:Op)(want:Bool)(fr:Fr)(H:AH)(g:AV):Prop:=match g with|.c (.b q)=>if q=want then tV P aa full os i log k Q d fr H (cA P aa op ((bI op).map (ev fr))) (cO P aa op ((bI op).map (ev fr)) H)else aM P aa (.dr full os (i+1) log::k) (iF d (.c .gM) fr) H Q|.c .gM=>aM P aa (.dr full os (i+1) log::k) (iF d (.c .gM) fr) H Q|_=>False
theorem aan{d:Option Nat}:yM P aa full os i log k Q d op want fr H (.c (.b q))=if q=want then tV P aa full os i log k Q d fr H (cA P aa op ((bI op).map (ev fr))) (cO P aa op ((bI op).map (ev fr)) H)else aM P aa (.dr full os (i+1) log::k) (iF d (.c .gM) fr) H Q:=rfl
theorem abI{i:Nat}:∀{log:List (Nat×Tc)},qx full i .no log=True|[]=>rfl|(j,u)::r=>by simp only[qx,dJ,false_imp_iff,true_and];exact abI
theorem aps:tV P aa full os i log k Q (some d) fr H .no (some (v,H'))=gd P aa full os (i+1) log k Q ((d,v)::fr) H':=by simp only[tV,mW,abI,Cq,true_and];rfl
variable {a b c:Nat}
theorem apq:tV P aa full os i log k Q (some d) fr H (.ld a b c) (some (v,H'))=(qx full i (.ld a b c) log/\gd P aa full os (i+1) ((i,.ld a b c)::log) k Q ((d,v)::fr) H'):=rfl
theorem apr:tV P aa full os i log k Q (some d) fr H .mk (some (v,H'))=(qx full i .mk log/\gd P aa full os (i+1) ((i,.mk)::log) k Q ((d,v)::fr) H'):=rfl
theorem apt:tV P aa full os i log k Q (some d) fr H .rd (some (v,H'))=(qx full i .rd log/\gd P aa full os (i+1) ((i,.rd)::log) k Q ((d,v)::fr) H'):=rfl
theorem apo:tV P aa full os i log k Q (some d) fr H .iX (some (v,H'))=(qx full i (.cl H H') log/\gd P aa full os (i+1) ((i,.cl H H')::log) k Q ((d,v)::fr) H'):=rfl
theorem apN:tV P aa full os i log k Q none fr H .rd (some (v,H'))=(qx full i .rd log/\gd P aa full os (i+1) ((i,.rd)::log) k Q fr H'):=rfl
theorem apM:tV P aa full os i log k Q none fr H .iX (some (v,H'))=(qx full i (.cl H H') log/\gd P aa full os (i+1) ((i,.cl H H')::log) k Q fr H'):=rfl
theorem apO:tV P aa full os i log k Q none fr H (.st a b c) (some (v,H'))=(qx full i (.st a b c) log/\gd P aa full os (i+1) ((i,.st a b c)::log) k Q fr H'):=rfl
theorem amq{d:Option Nat}:yM P aa full os i log k Q d op true fr H (.c (.b true))=tV P aa full os i log k Q d fr H (cA P aa op ((bI op).map (ev fr))) (cO P aa op ((bI op).map (ev fr)) H):=rfl
theorem amm{d:Option Nat}:yM P aa full os i log k Q d op false fr H (.c (.b false))=tV P aa full os i log k Q d fr H (cA P aa op ((bI op).map (ev fr))) (cO P aa op ((bI op).map (ev fr)) H):=rfl
theorem amp:yM P aa full os i log k Q (some d) op true fr H (.c (.b false))=gd P aa full os (i+1) log k Q ((d,.c .gM)::fr) H:=by rw[aan,if_neg δ];rfl
theorem amn:yM P aa full os i log k Q (some d) op false fr H (.c (.b true))=gd P aa full os (i+1) log k Q ((d,.c .gM)::fr) H:=by rw[aan,if_neg δ];rfl
theorem amr:yM P aa full os i log k Q (some d) op want fr H (.c .gM)=gd P aa full os (i+1) log k Q ((d,.c .gM)::fr) H:=rfl
theorem amo:yM P aa full os i log k Q none op want fr H (.c .gM)=gd P aa full os (i+1) log k Q fr H:=rfl
variable {t:Nat}{x:Operand}{vs:List AV}
theorem ay9:cA P aa (.load t x) vs=D9 (av P t) vs:=rfl
variable {y:Operand}
theorem azl:cA P aa (.store t x y) vs=w4 (av P t) vs:=rfl
theorem ayQ:cA P aa (.alloc t) vs=.mk:=rfl
theorem ayU:cA P aa (.box t x) vs=.mk:=rfl
variable {n:Nat}{ps:Array (Nat×Operand)}
theorem ayW:cA P aa (.buildSlice t n ps) vs=.mk:=rfl
theorem azd:cA P aa (.makeSlice t x y) vs=.mk:=rfl
variable {as:Array Operand}{ts:Array TypeId}
theorem ayX{f:Operand}:cA P aa (.call ⟨.value f,as,ts⟩) vs=CB aa vs:=rfl
theorem azh:cA P aa (.move x) vs=.no:=rfl
theorem ayS:cA P aa (.assign x) vs=.no:=rfl
theorem azj{z:Operand}:cA P aa (.pick x y z) vs=.no:=rfl
theorem ayV:cA P aa (.build t ps) vs=.no:=rfl
theorem azi:cA P aa (.nilCheck x) vs=.no:=rfl
theorem ayT{o:BinOp}{u:Nat}:cA P aa (.binOp o t x y u) vs=.no:=rfl
theorem azm{o:UnOp}:cA P aa (.unOp o t x) vs=.no:=rfl
theorem ayZ{u:Nat}:cA P aa (.convert t u x) vs=rO vs:=rfl
theorem azI{n:Int}:rO [.c (.i n)]=.no:=rfl
theorem azN{n:BitVec 64}:rO [.c (.u n)]=.no:=rfl
theorem azJ{k:IntKind}{n:Int}:rO [.c (.k k n)]=.no:=rfl
theorem azL{n:ByteArray}:rO [.c (.s n)]=.no:=rfl
theorem azM:rO [.c (.sl a b c d)]=.iX:=rfl
theorem azK:rO [.c .aA]=.iX:=rfl
theorem azb{f:Fn}{x y:Array Operand}:cA P aa (.makeFunc f x y) vs=.no:=rfl
theorem ay4:cA P aa (.fieldAddr t x n) vs=.no:=rfl
theorem ay3:cA P aa (.field t x n) vs=.no:=rfl
theorem ay6:cA P aa (.indexAddr t x y) vs=.no:=rfl
theorem ay5:cA P aa (.index t x y) vs=.no:=rfl
theorem azk{a b c:Option Operand}:cA P aa (.slice t x a b c) vs=.no:=rfl
theorem ay2:cA P aa (.extract x n) vs=.no:=rfl
theorem ay8:cA P aa (.call ⟨.builtin .len,as,ts⟩) vs=ue vs:=rfl
theorem azz:ue [.c (.sl a b c d)]=.no:=rfl
theorem azw:ue [.c .aA]=.no:=rfl
theorem azy{n:ByteArray}:ue [.c (.s n)]=.no:=rfl
variable {l:List Sc}
theorem azt:ue [.g l]=.no:=rfl
theorem azx:ue [.c (.p a b c)]=.no:=rfl
theorem azs:ue [.c .any]=.no:=rfl
theorem azu:ue [.c (.mp a)]=.iX:=rfl
theorem azv:ue [.c .HO]=.iX:=rfl
theorem aza:cA P aa (.lookup t x y q) vs=.iX:=rfl
theorem azc{r:Option Operand}:cA P aa (.makeMap t r) vs=.iX:=rfl
theorem aze{z:Operand}:cA P aa (.mapUpdate t x y z) vs=.iX:=rfl
theorem ay7{z:Operand}:cA P aa (.insert t x y z) vs=.iX:=rfl
theorem ay1:cA P aa (.call ⟨.builtin .delete,as,ts⟩) vs=.iX:=rfl
theorem ayY:cA P aa (.call ⟨.builtin .clear,as,ts⟩) vs=.iX:=rfl
theorem ay0:cA P aa (.call ⟨.builtin .copy,as,ts⟩) vs=.iX:=rfl
theorem azg:cA P aa (.call ⟨.builtin .min,as,ts⟩) vs=.no:=rfl
theorem azf:cA P aa (.call ⟨.builtin .max,as,ts⟩) vs=.no:=rfl
theorem ayR:cA P aa (.call ⟨.builtin .append,as,ts⟩) vs=.iX:=rfl
theorem azr{n id off aX:Nat}:D9 n [.c (.p id off aX)]=.ld id off n:=rfl
theorem azH{n id off aX:Nat}{x:AV}:w4 n [.c (.p id off aX),x]=.st id off n:=rfl
variable {e f:Nat}
theorem aqk:jL full i j (.ld a b c) (.ld d e f)=(jU full i j=true):=rfl
theorem aqn:jL full i j (.ld a b c) (.st d e f)=(jU full i j=true):=rfl
theorem aql:jL full i j (.ld a b c) (.mk)=(jU full i j=true):=rfl
theorem aqm:jL full i j (.ld a b c) (.rd)=(jU full i j=true):=rfl
theorem aqj{C D:AH}:jL full i j (.ld a b c) (.cl C D)=(jU full i j=true):=rfl
theorem aqz:jL full i j (.st a b c) (.ld d e f)=(jU full i j=true):=rfl
theorem aqD:jL full i j (.st a b c) (.st d e f)=(jU full i j=true):=rfl
theorem aqA:jL full i j (.st a b c) (.mk)=(jU full i j=true):=rfl
theorem aqB:jL full i j (.st a b c) (.rd)=(jU full i j=true):=rfl
theorem aqy{C D:AH}:jL full i j (.st a b c) (.cl C D)=(jU full i j=true):=rfl
theorem aqp:jL full i j (.mk) (.ld d e f)=(jU full i j=true):=rfl
theorem aqs:jL full i j (.mk) (.st d e f)=(jU full i j=true):=rfl
theorem aqq:jL full i j (.mk) (.mk)=(jU full i j=true):=rfl
theorem aqr:jL full i j (.mk) (.rd)=(jU full i j=true):=rfl
theorem aqo{i j:Nat}{C D:AH}:jL full i j (.mk) (.cl C D)=((¬(loose full i j=true/\fj C D)->jU full i j=true)):=rfl
theorem aqu:jL full i j (.rd) (.ld d e f)=(jU full i j=true):=rfl
theorem aqx:jL full i j (.rd) (.st d e f)=(jU full i j=true):=rfl
theorem aqv:jL full i j (.rd) (.mk)=(jU full i j=true):=rfl
theorem aqw:jL full i j (.rd) (.rd)=(jU full i j=true):=rfl
theorem aqt{C D:AH}:jL full i j (.rd) (.cl C D)=(jU full i j=true):=rfl
variable {A B:AH}
theorem aqf:jL full i j (.cl A B) (.ld d e f)=(jU full i j=true):=rfl
theorem aqi:jL full i j (.cl A B) (.st d e f)=(jU full i j=true):=rfl
theorem aqg:jL full i j (.cl A B) (.mk)=(jU full i j=true):=rfl
theorem aqh:jL full i j (.cl A B) (.rd)=(jU full i j=true):=rfl
theorem aqe{C D:AH}:jL full i j (.cl A B) (.cl C D)=(jU full i j=true):=rfl
theorem ar1{t:Tc}:qx full i t []=True:=rfl
variable {u:Tc}
theorem aq2{t:Tc}{r:List (Nat×Tc)}:qx full i t ((j,u)::r)=((dJ t u->jL full i j t u)/\qx full i t r):=rfl
theorem aiy:dJ (.ld a b c) (.ld d e f)=False:=rfl
theorem aiz:dJ (.ld a b c) .mk=False:=rfl
theorem aiA:dJ (.ld a b c) .rd=False:=rfl
variable {m:Nat}
theorem aiB:dJ (.ld i a n) (.st j b m)=(i=j/\a<b+m/\b<a+n):=rfl
theorem aix:dJ (.ld a b c) (.cl A B)=¬(hg B a=hg A a/\(hg A a).live=true):=rfl
theorem aiN:dJ (.st i a n) (.ld j b m)=(i=j/\a<b+m/\b<a+n):=rfl
theorem aiQ:dJ (.st i a n) (.st j b m)=(i=j/\a<b+m/\b<a+n):=rfl
theorem aiO:dJ (.st a b c) .mk=False:=rfl
theorem aiP:dJ (.st a b c) .rd=True:=rfl
theorem aiM:dJ (.st a b c) (.cl A B)=True:=rfl
theorem aiD:dJ .mk (.ld a b c)=False:=rfl
theorem aiG:dJ .mk (.st a b c)=False:=rfl
theorem aiE:dJ .mk .mk=False:=rfl
theorem aiF:dJ .mk .rd=True:=rfl
theorem aiC:dJ .mk (.cl A B)=True:=rfl
theorem aiI:dJ .rd (.ld a b c)=False:=rfl
theorem aiL:dJ .rd (.st a b c)=True:=rfl
theorem aiJ:dJ .rd .mk=True:=rfl
theorem aiK:dJ .rd .rd=False:=rfl
theorem aiH:dJ .rd (.cl A B)=True:=rfl
theorem ait:dJ (.cl A B) (.ld a b c)=¬(hg B a=hg A a/\(hg A a).live=true):=rfl
theorem aiw:dJ (.cl A B) (.st a b c)=True:=rfl
theorem aiu:dJ (.cl A B) .mk=True:=rfl
theorem aiv:dJ (.cl A B) .rd=True:=rfl
theorem ais{A B C D:AH}:dJ (.cl A B) (.cl C D)=True:=rfl
theorem axU{d:Option Nat}:aM P aa (.dr full (⟨d,op,ty,pos,af,some (j,want)⟩::os) i log::k) fr H Q=yM P aa full os i log k Q d op want fr H (JU full fr j):=by
 rw[MW];simp only[wo,JU,jZ];cases(full[j]?).bind (·.dst)with
 |none=>rfl|some e=>simp only;cases Am.get fr e with|c s=>cases s<;>rfl|g l=>rfl|t l=>rfl
theorem amE{d:Option Nat}:wm P aa full os k Q d op true fr H (.c (.b true))=zb P aa full os k Q d fr (cO P aa op ((bI op).map (ev fr)) H) none:=rfl
theorem amA{d:Option Nat}:wm P aa full os k Q d op false fr H (.c (.b false))=zb P aa full os k Q d fr (cO P aa op ((bI op).map (ev fr)) H) none:=rfl
theorem amD:wm P aa full os k Q (some d) op true fr H (.c (.b false))=aM P aa (.ops full os::k) ((d,.c .gM)::fr) H Q:=by rw[aam,if_neg δ];rfl
theorem amB:wm P aa full os k Q (some d) op false fr H (.c (.b true))=aM P aa (.ops full os::k) ((d,.c .gM)::fr) H Q:=by rw[aam,if_neg δ];rfl
theorem amF:wm P aa full os k Q (some d) op want fr H (.c .gM)=aM P aa (.ops full os::k) ((d,.c .gM)::fr) H Q:=rfl
theorem amC:wm P aa full os k Q none op want fr H (.c .gM)=aM P aa (.ops full os::k) fr H Q:=rfl
def BO(P:Program)(aa:je)(a b:Code)(k:List It)(Q:Fr->AH->Prop)(fr:Fr)(H:AH)(v:AV):Prop:=match v with|.c (.b true)=>aM P aa (.c a::k) fr H Q|.c (.b false)=>aM P aa (.c b::k) fr H Q|.c .qq=>aM P aa (.c a::k) fr H Q/\aM P aa (.c b::k) fr H Q|_=>False
theorem Za{a b:Code}:BO P aa a b k Q fr H (.c .qq)=(aM P aa (.c a::k) fr H Q/\aM P aa (.c b::k) fr H Q):=rfl
variable {v':AV}
@[congr]theorem aBa{a b:Code}(h:v=v'):BO P aa a b k Q fr H v=BO P aa a b k Q fr H v':=by rw[h]
theorem ajg{a b:Code}:BO P aa a b k Q fr H (.c (.b true))=aM P aa (.c a::k) fr H Q:=rfl
theorem ajf{a b:Code}:BO P aa a b k Q fr H (.c (.b false))=aM P aa (.c b::k) fr H Q:=rfl
theorem agR{a b:Code}:aM P aa (.c (.cond x a b)::k) fr H Q=BO P aa a b k Q fr H (ev fr x):=by
 rw[QY];generalize ev fr x=v;cases v with
 |c s=>cases s<;>first|rfl|(rename_i q;cases q<;>rfl)
 |g l=>rfl|t l=>rfl
theorem aqb:(ae.own l).cells=l:=rfl
theorem aqc:(ae.vec n l).cells=l:=rfl
theorem aqd:(ae.view l).cells=l:=rfl
theorem at7:(ae.own l).row=0:=rfl
theorem at9:(ae.vec n l).row=l.length:=rfl
theorem aua:(ae.view l).row=0:=rfl
theorem atw:(ae.own l).owned=true:=rfl
theorem atq:(ae.own l).live=true:=rfl
theorem atr:(ae.vec n l).live=true:=rfl
theorem ats:(ae.view l).live=true:=rfl
theorem atx:(ae.vec n l).owned=true:=rfl
theorem atZ{m:List Sc}:(ae.own l).put m=.own m:=rfl
theorem at6{m:List Sc}:(ae.vec n l).put m=.vec n m:=rfl
theorem SQ{o:ae}:hg (o::H) 0=o:=rfl
theorem SP{o:ae}:hg (o::H) (n+1)=hg H n:=rfl
variable {X:AH}
theorem me:hg (H++X) H.length=hg X 0:=by unfold hg;rw[b9,b9,rV (aC _),CH]
theorem gY:hg (H++X) (H.length+n)=hg X n:=by unfold hg;rw[b9,b9,rV (Nat.le_add_right _ _),s9]
theorem cL(h:n<H.length):hg (H++X) n=hg H n:=by unfold hg;rw[b9,b9,sY h]
theorem jj{o:ae}(h:n<H.length):hg (H.set n o) n=o:=by simp[hg,b9,h]
theorem am2{o:ae}(h:(m==n)=false):hg (H.set m o) n=hg H n:=by
 have h':m≠n:=by simpa using h
 unfold hg;rw[b9,b9,List.getElem?_set_ne h']
theorem D4{o:ae}:(H++X).set H.length o=H++X.set 0 o:=by rw[Jj _ _ (aC _),CH]
theorem vF{o:ae}:(H++X).set (H.length+n) o=H++X.set n o:=by rw[Jj _ _ (Nat.le_add_right _ _),s9]
theorem alz:ev fr (.tmp t)=Am.get fr t:=rfl
theorem als:ev fr (.func f)=.c (.f f []):=rfl
theorem alu{n:Int}(h:-9223372036854775808<=n/\n<=9223372036854775807):ev fr (.const (.int .i64 n))=.c (.i n):=by simp only[ev,oe,lf,h,and_self,if_true]
theorem alA{n:Int}(h:0<=n/\n<=18446744073709551615):ev fr (.const (.int .u64 n))=.c (.u (aw 64 n)):=by simp only[ev,oe,lf,h,and_self,if_true]
theorem alr:ev fr (.const (.bool q))=.c (.b q):=rfl
theorem alx:ev fr (.const (.slice none 0 0))=.c .aA:=rfl
theorem alw:ev fr (.const (.pointer none))=.c .dt:=rfl
theorem alv:ev fr (.const .nilFunc)=.c .FD:=rfl
theorem amy:Am.get ((d,v)::fr) d=v:=by simp[Am.get]
theorem amx{s:Nat}(h:(d==s)=false):Am.get ((d,v)::fr) s=Am.get fr s:=by simp at h;simp[Am.get,h]
section
variable {x y z:Operand}{a b c:AV}{t:Nat}
theorem atW:bI (.move x)=[x]:=rfl
theorem atA:bI (.assign x)=[x]:=rfl
theorem atC:bI (.box t x)=[x]:=rfl
theorem atS:bI (.load t x)=[x]:=rfl
theorem atY:bI (.nilCheck x)=[x]:=rfl
theorem at5{o:UnOp}:bI (.unOp o t x)=[x]:=rfl
theorem atH{s:Nat}:bI (.convert s t x)=[x]:=rfl
theorem atL:bI (.fieldAddr t x n)=[x]:=rfl
theorem atK:bI (.field t x n)=[x]:=rfl
theorem atJ:bI (.extract x n)=[x]:=rfl
theorem at0:bI (.pick x y z)=[x,y,z]:=rfl
theorem atD{l:List (Nat×Operand)}:bI (.build t l.toArray)=l.map (·.2):=rfl
theorem atE{n:Nat}{l:List (Nat×Operand)}:bI (.buildSlice t n l.toArray)=l.map (·.2):=rfl
theorem at4:bI (.store t x y)=[x,y]:=rfl
theorem atB{o:BinOp}{s:Nat}:bI (.binOp o t x y s)=[x,y]:=rfl
theorem atV:bI (.makeSlice t x y)=[x,y]:=rfl
theorem atN:bI (.indexAddr t x y)=[x,y]:=rfl
theorem atM:bI (.index t x y)=[x,y]:=rfl
theorem atT{f:Fn}{l m:List Operand}:bI (.makeFunc f l.toArray m.toArray)=m:=rfl
theorem at2{lo hi mx:Option Operand}:bI (.slice t x lo hi mx)=x::(lo.toList++hi.toList++mx.toList):=rfl
theorem atG{l:List Operand}{ts:Array Nat}:bI (.call ⟨.value x,l.toArray,ts⟩)=x::l:=rfl
theorem atF{bi:Builtin}{l:List Operand}{ts:Array Nat}:bI (.call ⟨.builtin bi,l.toArray,ts⟩)=l:=rfl
theorem aty:bI (.alloc t)=[]:=rfl
theorem at1:bI (.range t x)=[x]:=rfl
theorem atX:bI (.next x q)=[x]:=rfl
theorem atI:bI (.entry x)=[x]:=rfl
theorem ahj:cO P aa (.move x) [a] H=some (a,H):=rfl
theorem agX:cO P aa (.assign x) [a] H=some (a,H):=rfl
theorem ahm:cO P aa (.pick x y z) [.c (.b q),a,b] H=some (if q=true then a else b,H):=by cases q<;>rfl
theorem ag0{l:List (Nat×Operand)}{vs:List AV}:cO P aa (.build t l.toArray) vs H=(GM P t ((l.map (·.1)).zip vs)).map λv=>(v,H):=by
 show(match iS P (.build t l.toArray) vs _ with|some v=>some (v,H)|none=>jy P _ _ _)=_;simp only[iS];cases GM P t ((l.map (·.1)).zip vs)<;>rfl
theorem ahf{id off aX:Nat}:cO P aa (.load t x) [.c (.p id off aX)] H=(Dg P t H (.c (.p id off aX))).map λv=>(v,H):=by
 show(match iS P (.load t x) [.c (.p id off aX)] [hg H id]with|some v=>some (v,H)|none=>jy P _ _ _)=_;have e:iS P (.load t x) [.c (.p id off aX)] [hg H id]=Dg P t H (.c (.p id off aX)):=rfl;simp only[e];cases Dg P t H (.c (.p id off aX))<;>rfl
theorem ahk{id off aX:Nat}:cO P aa (.nilCheck x) [.c (.p id off aX)] H=some (.c (.p id off aX),H):=rfl
theorem ahl{cs:List (Nat×Nat×Nat)}:cO P aa (.nilCheck x) [.c (.f f cs)] H=some (.c (.f f cs),H):=rfl
theorem agY{o:BinOp}{s:Nat}:cO P aa (.binOp o t x y s) [a,b] H=(cj P o t a b).map λv=>(v,H):=by
 show(match iS P (.binOp o t x y s) [a,b] _ with|some v=>some (v,H)|none=>jy P _ _ _)=_;simp only[iS];cases cj P o t a b<;>rfl
theorem ahr{o:UnOp}:cO P aa (.unOp o t x) [a] H=(BJ o a).map λv=>(v,H):=by
 show(match iS P (.unOp o t x) [a] _ with|some v=>some (v,H)|none=>jy P _ _ _)=_;simp only[iS];cases BJ o a<;>rfl
theorem ag5{s:Nat}{n:Int}:cO P aa (.convert s t x) [.c (.i n)] H=(if(dT P s).is=true then mi P t (.c (.i n))else none).map λv=>(v,H):=by
 show(match iS P (.convert s t x) [.c (.i n)] ((uf (.convert s t x) [.c (.i n)]).map (hg H))with|some v=>some (v,H)|none=>jy P _ _ _)=_;have e:iS P (.convert s t x) [.c (.i n)] ((uf (.convert s t x) [.c (.i n)]).map (hg H))=if(dT P s).is=true then mi P t (.c (.i n))else none:=rfl;rw[e];cases(if(dT P s).is=true then mi P t (.c (.i n))else none)<;>rfl
theorem ag9{s:Nat}{n:BitVec 64}:cO P aa (.convert s t x) [.c (.u n)] H=(if(dT P s).is=true then mi P t (.c (.u n))else none).map λv=>(v,H):=by
 show(match iS P (.convert s t x) [.c (.u n)] ((uf (.convert s t x) [.c (.u n)]).map (hg H))with|some v=>some (v,H)|none=>jy P _ _ _)=_;have e:iS P (.convert s t x) [.c (.u n)] ((uf (.convert s t x) [.c (.u n)]).map (hg H))=if(dT P s).is=true then mi P t (.c (.u n))else none:=rfl;rw[e];cases(if(dT P s).is=true then mi P t (.c (.u n))else none)<;>rfl
theorem ag6{s:Nat}{k:IntKind}{n:Int}:cO P aa (.convert s t x) [.c (.k k n)] H=(if(dT P s).is=true then mi P t (.c (.k k n))else none).map λv=>(v,H):=by
 show(match iS P (.convert s t x) [.c (.k k n)] ((uf (.convert s t x) [.c (.k k n)]).map (hg H))with|some v=>some (v,H)|none=>jy P _ _ _)=_;have e:iS P (.convert s t x) [.c (.k k n)] ((uf (.convert s t x) [.c (.k k n)]).map (hg H))=if(dT P s).is=true then mi P t (.c (.k k n))else none:=rfl;rw[e];cases(if(dT P s).is=true then mi P t (.c (.k k n))else none)<;>rfl
theorem ag8{s o v:Nat}:cO P aa (.convert s t x) [.c (.sl i o v n)] H=(EF P s t (.c (.sl i o v n)) H).map λv=>(v,H):=rfl
theorem ag7{s:Nat}:cO P aa (.convert s t x) [.c .aA] H=(EF P s t (.c .aA) H).map λv=>(v,H):=rfl
def NC(P:Program)(d:D)(n id off aX:Nat):Option AV:=match d with
 |.st fs=>match fs[n]? with
   |some f=>if 0<av P f.2 then some (.c (.p id (off+f.1) aX))else none|none=>none
 |_=>none
theorem ahb{n id off aX:Nat}:cO P aa (.fieldAddr t x n) [.c (.p id off aX)] H=(NC P (dT P t) n id off aX).map λv=>(v,H):=by
 show(match iS P (.fieldAddr t x n) [.c (.p id off aX)] _ with|some v=>some (v,H)|none=>jy P _ _ _)=_;have e:iS P (.fieldAddr t x n) [.c (.p id off aX)] ((uf (.fieldAddr t x n) [.c (.p id off aX)]).map (hg H))=NC P (dT P t) n id off aX:=rfl;simp only[e];cases NC P (dT P t) n id off aX<;>rfl
theorem ahd:cO P aa (.indexAddr t x y) [a,b] H=(HE P t a b).map λv=>(v,H):=by
 show(match iS P (.indexAddr t x y) [a,b] _ with|some v=>some (v,H)|none=>jy P _ _ _)=_;simp only[iS];cases HE P t a b<;>rfl
theorem ahc:cO P aa (.index t x y) [a,b] H=(HD P t a b).map λv=>(v,H):=by
 show(match iS P (.index t x y) [a,b] _ with|some v=>some (v,H)|none=>jy P _ _ _)=_;simp only[iS];cases HD P t a b<;>rfl
theorem aho:cO P aa (.slice t x (some y) none none) [a,b] H=(zB P t a (some b) none).map λv=>(v,H):=by
 show(match iS P (.slice t x (some y) none none) [a,b] _ with|some v=>some (v,H)|none=>jy P _ _ _)=_;simp only[iS];cases zB P t a (some b) none<;>rfl
theorem ahn:cO P aa (.slice t x none (some y) none) [a,b] H=(zB P t a none (some b)).map λv=>(v,H):=by
 show(match iS P (.slice t x none (some y) none) [a,b] _ with|some v=>some (v,H)|none=>jy P _ _ _)=_;simp only[iS];cases zB P t a none (some b)<;>rfl
theorem ahp{d:AV}{u:Operand}:cO P aa (.slice t x (some y) (some z) (some u)) [a,b,c,d] H=(IY P t a b c d).map λv=>(v,H):=by
 show(match iS P (.slice t x (some y) (some z) (some u)) [a,b,c,d] _ with|some v=>some (v,H)|none=>jy P _ _ _)=_;simp only[iS];cases IY P t a b c d<;>rfl
theorem aha{l:List AV}:cO P aa (.extract x n) [.t l] H=(l[n]?).map λv=>(v,H):=by
 show(match iS P (.extract x n) [.t l] _ with|some v=>some (v,H)|none=>jy P _ _ _)=_;simp only[iS];cases l[n]?<;>rfl
theorem MY{l:Array Operand}{ts:List Nat}(h:sI (.call ⟨.builtin .len,l,(t::ts).toArray⟩) [a]=false):cO P aa (.call ⟨.builtin .len,l,(t::ts).toArray⟩) [a] H=(yW P t a).map λv=>(v,H):=by
 show(if sI (.call ⟨.builtin .len,l,(t::ts).toArray⟩) [a]=true then HM P (.call ⟨.builtin .len,l,(t::ts).toArray⟩) [a] H else match iS P (.call ⟨.builtin .len,l,(t::ts).toArray⟩) [a] _ with|some v=>some (v,H)|none=>jy P _ _ _)=_;rw[h];simp only[dC,if_false,iS,Gx,Gu];cases yW P t a<;>rfl
theorem Yg{l:Array Operand}{ts:List Nat}{i j k n:Nat}:cO P aa (.call ⟨.builtin .len,l,(t::ts).toArray⟩) [.c (.sl i j k n)] H=(yW P t (.c (.sl i j k n))).map λv=>(v,H):=MY rfl
theorem Yf{l:Array Operand}{ts:List Nat}:cO P aa (.call ⟨.builtin .len,l,(t::ts).toArray⟩) [.c .aA] H=(yW P t (.c .aA)).map λv=>(v,H):=MY rfl
theorem ahe{l:Array Operand}{ts:List Nat}{n:ByteArray}:cO P aa (.call ⟨.builtin .len,l,(t::ts).toArray⟩) [.c (.s n)] H=(yW P t (.c (.s n))).map λv=>(v,H):=MY rfl
theorem ag3 {l : Array Operand} {ts : List Nat} : cO P aa (.call ⟨.builtin .clear, l, (t :: ts).toArray⟩) [a] H = (CO P t a H).map λH' => (.t [], H') := rfl
theorem ag4 {l : Array Operand} {ts : List Nat} : cO P aa (.call ⟨.builtin .copy, l, (t :: ts).toArray⟩) [a, b] H = GX P t a b H := rfl
theorem ahi{l:Array Operand}{ts:Array Nat}{m n:Int}:cO P aa (.call ⟨.builtin .min,l,ts⟩) [.c (.i m),.c (.i n)] H=some (.c (.i (min m n)),H):=rfl
theorem ahh{l:Array Operand}{ts:Array Nat}{m n:Int}:cO P aa (.call ⟨.builtin .max,l,ts⟩) [.c (.i m),.c (.i n)] H=some (.c (.i (max m n)),H):=rfl
theorem agW{l:Array Operand}{ts:Array Nat}:cO P aa (.call ⟨.builtin .append,l,ts⟩) vs H=Es P ts vs H:=rfl
theorem ag2{l:Array Operand}{ts:Array Nat}{cs:List (Nat×Nat×Nat)}:cO P aa (.call ⟨.value x,l,ts⟩) (.c (.f f cs)::vs) H=Af aa f (vs++cs.map Ag) H:=rfl
def QU(z:Option (List Sc))(H:AH):Option (AV×AH):=match z with|some z=>some (.c (.p H.length 0 0),H++[.own z])|none=>none
theorem agV:cO P aa (.alloc t) [] H=QU (zT P t) H:=rfl
theorem agZ:cO P aa (.box t x) [a] H=QU a.cells H:=rfl
def aeO(P:Program)(t id off aX:Nat)(o:ae)(l:Option (List Sc))(H:AH):Option (AV×AH):=match l with|some l=>if o.owned=true/\aX=o.row/\l.length=av P t/\0<av P t/\off+l.length<=o.cells.length/\l.all Sc.one=true then some (.c .gM,H.set id (o.put (wr o.cells off l)))else none|none=>none
theorem ahq{id off aX:Nat}:cO P aa (.store t x y) [.c (.p id off aX),a] H=aeO P t id off aX (hg H id) a.cells H:=rfl
def YF(P:Program)(t len:Nat)(is:List Nat)(m:Nat)(vs:List AV)(H:AH):Option (AV×AH):=match dT P t with
 |.sl e=>match zT P e with
   |some z=>if 0<av P e/\0<len/\len*av P e<=16777216/\z.length=av P e then match xG (λi=>some (i*av P e,av P e)) (bE len z).flatten (is.zip vs)with
 |some cs=>some (.c (.sl H.length 0 cs.length len),H++[.vec (av P e) cs])|none=>none else if 0<av P e/\len=0/\m=0 then some (.c (.sl H.length 0 0 0),H++[.vec (av P e) []])else none|none=>none
 |_=>none
theorem ag1{n:Nat}{l:List (Nat×Operand)}{vs:List AV}:cO P aa (.buildSlice t n l.toArray) vs H=YF P t n (l.toArray.toList.map (·.1)) l.toArray.size vs H:=by
 have e:cO P aa (.buildSlice t n l.toArray) vs H=(match iS P (.buildSlice t n l.toArray) vs ((uf (.buildSlice t n l.toArray) vs).map (hg H))with|some v=>some (v,H)|none=>jy P (.buildSlice t n l.toArray) vs H):=by cases vs<;>rfl
 rw[e];have:iS P (.buildSlice t n l.toArray) vs ((uf (.buildSlice t n l.toArray) vs).map (hg H))=none:=by cases vs with
 |nil=>rfl|cons a r=>cases r with
 |nil=>rfl|cons b r=>cases r<;>rfl
 rw[this];rfl
def msA(P:Program)(t:Nat)(l c:Int)(H:AH):Option (AV×AH):=match dT P t with
 |.sl e=>match zT P e with
   |some z=>if l=c/\0<=l/\l<=1048576/\0<av P e/\lY P e<=1048576/\z.length=av P e then some (.c (.sl H.length 0 (l.toNat*av P e) l.toNat),H++[.vec (av P e) (bE l.toNat z).flatten])else none|none=>none
 |_=>none
theorem ahg{l c:Int}:cO P aa (.makeSlice t x y) [.c (.i l),.c (.i c)] H=msA P t l c H:=rfl
end
section
variable {t:Nat}{x y:BitVec 64}{m n:Int}{p q:Bool}
theorem agd:cj P .add t (.c (.u x)) (.c (.u y))=some (.c (.u (x+y))):=rfl
theorem agt:cj P .sub t (.c (.u x)) (.c (.u y))=some (.c (.u (x-y))):=rfl
theorem agm:cj P .mul t (.c (.u x)) (.c (.u y))=some (.c (.u (x*y))):=rfl
theorem agp:cj P .quo t (.c (.u x)) (.c (.u y))=if y=0#64 then none else some (.c (.u (x/y))):=rfl
theorem agq:cj P .rem t (.c (.u x)) (.c (.u y))=if y=0#64 then none else some (.c (.u (x%y))):=rfl
theorem age:cj P .and t (.c (.u x)) (.c (.u y))=some (.c (.u (x&&&y))):=rfl
theorem ago:cj P .or t (.c (.u x)) (.c (.u y))=some (.c (.u (x|||y))):=rfl
theorem agu:cj P .xor t (.c (.u x)) (.c (.u y))=some (.c (.u (x^^^y))):=rfl
theorem agf:cj P .andNot t (.c (.u x)) (.c (.u y))=some (.c (.u (x&&&~~~y))):=rfl
theorem agh:cj P .eql t (.c (.u x)) (.c (.u y))=some (.c (.b (decide (x=y)))):=rfl
theorem agn:cj P .neq t (.c (.u x)) (.c (.u y))=some (.c (.b (!decide (x=y)))):=rfl
theorem agl:cj P .lss t (.c (.u x)) (.c (.u y))=some (.c (.b (decide (x<y)))):=rfl
theorem agk:cj P .leq t (.c (.u x)) (.c (.u y))=some (.c (.b (decide (x<=y)))):=rfl
theorem agj:cj P .gtr t (.c (.u x)) (.c (.u y))=some (.c (.b (decide (y<x)))):=rfl
theorem agi:cj P .geq t (.c (.u x)) (.c (.u y))=some (.c (.b (decide (y<=x)))):=rfl
theorem agr:cj P .shl t (.c (.u x)) (.c (.u y))=some (.c (.u (x<<<y.toNat))):=rfl
theorem ags:cj P .shr t (.c (.u x)) (.c (.u y))=some (.c (.u (x>>>y.toNat))):=rfl
theorem afR:cj P .add t (.c (.i m)) (.c (.i n))=some (.c (.i (az (m+n)))):=rfl
theorem af3:cj P .sub t (.c (.i m)) (.c (.i n))=some (.c (.i (az (m-n)))):=rfl
theorem afX:cj P .mul t (.c (.i m)) (.c (.i n))=some (.c (.i (az (m*n)))):=rfl
theorem afZ:cj P .quo t (.c (.i m)) (.c (.i n))=if n=0 then none else some (.c (.i (az (m.tdiv n)))):=rfl
theorem af0:cj P .rem t (.c (.i m)) (.c (.i n))=if n=0 then none else some (.c (.i (m.tmod n))):=rfl
theorem afS:cj P .eql t (.c (.i m)) (.c (.i n))=some (.c (.b (decide (m=n)))):=rfl
theorem afY:cj P .neq t (.c (.i m)) (.c (.i n))=some (.c (.b (!decide (m=n)))):=rfl
theorem afW:cj P .lss t (.c (.i m)) (.c (.i n))=some (.c (.b (decide (m<n)))):=rfl
theorem afV:cj P .leq t (.c (.i m)) (.c (.i n))=some (.c (.b (decide (m<=n)))):=rfl
theorem afU:cj P .gtr t (.c (.i m)) (.c (.i n))=some (.c (.b (decide (n<m)))):=rfl
theorem afT:cj P .geq t (.c (.i m)) (.c (.i n))=some (.c (.b (decide (n<=m)))):=rfl
theorem af1:cj P .shl t (.c (.i m)) (.c (.u y))=some (.c (.i (az (m*2^min y.toNat 64)))):=rfl
theorem af2:cj P .shr t (.c (.i m)) (.c (.u y))=some (.c (.i (m/2^min y.toNat 64))):=rfl
theorem afP(h:dT P t=.bool):cj P .eql t (.c (.b p)) (.c (.b q))=some (.c (.b (p==q))):=by simp[cj,h,Jq]
theorem afQ(h:dT P t=.bool):cj P .neq t (.c (.b p)) (.c (.b q))=some (.c (.b (!(p==q)))):=by simp[cj,h,Jq]
theorem agb{a b:ByteArray}:cj P .eql t (.c (.s a)) (.c (.s b))=some (.c (.b (decide (a=b)))):=rfl
theorem agc{a b:ByteArray}:cj P .neq t (.c (.s a)) (.c (.s b))=some (.c (.b (!decide (a=b)))):=rfl
theorem xr{a b:List Sc}(g:List Tg)(h:(dT P t).agg=true)(hg:iV P 12 t=some g):cj P .eql t (.g a) (.g b)=(gB g a b).bind (qI .eql):=by simp[cj,h,hg]
theorem Jn{a b:List Sc}(g:List Tg)(h:(dT P t).agg=true)(hg:iV P 12 t=some g):cj P .neq t (.g a) (.g b)=(gB g a b).bind (qI .neq):=by simp[cj,h,hg]
theorem ahw:BJ .not (.c (.b p))=some (.c (.b (!p))):=rfl
theorem ahu:BJ .neg (.c (.i m))=some (.c (.i (az (-m)))):=rfl
theorem ahv:BJ .neg (.c (.u x))=some (.c (.u (-x))):=rfl
theorem ahx:BJ .xor (.c (.u x))=some (.c (.u (~~~x))):=rfl
theorem ajC(h:dT P t=.int .i64):mi P t (.c (.u x))=some (.c (.i x.toInt)):=by simp[mi,h]
theorem ajx(h:dT P t=.int .u64):mi P t (.c (.i m))=some (.c (.u (aw 64 m))):=by simp[mi,h]
end
theorem j6{n:Int}(h:-9223372036854775808<=n/\n<=9223372036854775807):az n=n:=I6 h.1 h.2
theorem alC{n:Int}(h:0<=n/\n<=255):ev fr (.const (.int .u8 n))=.c (.k .u8 n):=by
 have h2:IntKind.u8.min<=n/\n<=IntKind.u8.max:=h;simp only[ev,oe,lf,h2,and_self,if_true]
theorem ajB{x:BitVec 64}(h:dT P d=.int .u8):mi P d (.c (.u x))=some (.c (.k .u8 (IntKind.u8.wrap x.toNat))):=by simp only[mi,h]
theorem ajw{n:Int}(h:dT P d=.int .u8):mi P d (.c (.i n))=some (.c (.k .u8 (IntKind.u8.wrap n))):=by simp only[mi,h]
theorem alB{n:Int}(h:0<=n/\n<=4294967295):ev fr (.const (.int .u32 n))=.c (.k .u32 n):=by
 have h2:IntKind.u32.min<=n/\n<=IntKind.u32.max:=h;simp only[ev,oe,lf,h2,and_self,if_true]
theorem ajA{x:BitVec 64}(h:dT P d=.int .u32):mi P d (.c (.u x))=some (.c (.k .u32 (IntKind.u32.wrap x.toNat))):=by simp only[mi,h]
theorem ajy{k:IntKind}{n:Int}(h:dT P d=.int .i64):mi P d (.c (.k k n))=some (.c (.i n)):=by simp only[mi,h]
theorem ajz{k:IntKind}{n:Int}(h:dT P d=.int .u64):mi P d (.c (.k k n))=some (.c (.u (aw 64 n))):=by simp only[mi,h]
theorem QS{t:Nat}{k:IntKind}{x y:Int}:cj P .and t (.c (.k k x)) (.c (.k k y))=some (.c (.k k (k.wrap ((aw k.bits x&&&aw k.bits y).toNat)))):=by simp only[cj,if_true];rfl
theorem QT{t:Nat}{k:IntKind}{x y:Int}:cj P .or t (.c (.k k x)) (.c (.k k y))=some (.c (.k k (k.wrap ((aw k.bits x|||aw k.bits y).toNat)))):=by simp only[cj,if_true];rfl
theorem XY{t:Nat}{k:IntKind}{x y:Int}:cj P .andNot t (.c (.k k x)) (.c (.k k y))=some (.c (.k k (k.wrap ((aw k.bits x&&&~~~(aw k.bits y)).toNat)))):=by simp only[cj,if_true];rfl
theorem af4{k:IntKind}{x y:Int}:cj P .eql t (.c (.k k x)) (.c (.k k y))=some (.c (.b (decide (x=y)))):=by simp only[cj,if_true];rfl
theorem af7{k:IntKind}{x y:Int}:cj P .neq t (.c (.k k x)) (.c (.k k y))=some (.c (.b (!decide (x=y)))):=by simp only[cj,if_true];rfl
theorem af6{k:IntKind}{x y:Int}:cj P .lss t (.c (.k k x)) (.c (.k k y))=some (.c (.b (decide (x<y)))):=by simp only[cj,if_true];rfl
theorem af5{k:IntKind}{x y:Int}:cj P .gtr t (.c (.k k x)) (.c (.k k y))=some (.c (.b (decide (y<x)))):=by simp only[cj,if_true];rfl
theorem af8{k:IntKind}{x:Int}{y:BitVec 64}:cj P .shl t (.c (.k k x)) (.c (.u y))=some (.c (.k k (k.wrap (x*2^(min y.toNat k.bits))))):=rfl
theorem af9{k:IntKind}{x:Int}{y:BitVec 64}:cj P .shr t (.c (.k k x)) (.c (.u y))=some (.c (.k k (x/2^(min y.toNat k.bits)))):=rfl
end Go.Am

/- Regions that draw their order: what is done to objects, in any order. -/
namespace Go.Am
variable {P:Program}{aa:je}{N:Nat}
def ae.hd:ae->Nat×Nat×Nat×List (Nat×AV×AV)×List Nat|.own cs=>(0,0,cs.length,[],[])|.vec z cs=>(1,z,cs.length,[],[])|.view cs=>(2,0,cs.length,[],[])|.dead=>(3,0,0,[],[])|.map mq es=>(4,mq,0,es,[])|.iter m since seen last=>(5,m,since,[],last::seen)
theorem ae.ext{o p:ae}(h:o.hd=p.hd)(hc:∀k,o.cells.getD k .any=p.cells.getD k .any):o=p:=by
 have key:∀(l m:List Sc),l.length=m.length->(∀k,l.getD k .any=m.getD k .any)->l=m:=by
  intro l m hl hk;apply List.ext_getElem hl;intro i h1 h2;have:=hk i;simpa[b9,h1,h2]using this
 cases o<;>cases p<;>simp[ae.hd]at h<;>simp only[ae.cells]at hc
 .rw[key _ _ h hc]
 .rw[h.1,key _ _ h.2 hc]
 .rw[key _ _ h hc]
 .rw[h.1,h.2]
 .obtain⟨rfl,rfl,rfl,rfl⟩:=h;rfl
 .rfl
theorem ae.N8{o p:ae}(h:o.hd=p.hd):o.row=p.row/\o.cells.length=p.cells.length/\o.owned=p.owned/\o.live=p.live:=by cases o<;>cases p<;>simp[ae.hd]at h<;>simp_all[ae.row,ae.cells,ae.owned,ae.live]
def ov(off n:Nat)(src cs:List Sc):List Sc:=(oR cs.length).map λk=>if off<=k/\k<off+n then src.getD k .any else cs.getD k .any
def ae.on(f:List Sc->List Sc):ae->ae|.own cs=>.own (f cs)|.vec z cs=>.vec z (f cs)|.view cs=>.view (f cs)|.map mq es=>.map mq es|.iter m since seen last=>.iter m since seen last|.dead=>.dead
variable {off n:Nat}{src cs:List Sc}
theorem auc:(ov off n src cs).length=cs.length:=by simp[ov]
theorem UL{k:Nat}:(ov off n src cs).getD k .any=if k<cs.length/\off<=k/\k<off+n then src.getD k .any else cs.getD k .any:=by
 rw[b9];simp only[ov,qf];rcases cU k cs.length with h|h
 .simp[List.getElem?_range h,h]
 .have h':¬k<cs.length:=ω
  rw[jQ (by simpa using h)];simp[h',b9,jQ h]
theorem HT{o:ae}{off n:Nat}{src:List Sc}:(o.on (ov off n src)).hd=o.hd:=by cases o<;>simp[ae.on,ae.hd,auc]
theorem KT{o:ae}{off n k:Nat}{src:List Sc}:(o.on (ov off n src)).cells.getD k .any=if k<o.cells.length/\off<=k/\k<off+n then src.getD k .any else o.cells.getD k .any:=by
 cases o
 .exact UL
 .exact UL
 .exact UL
 .simp[ae.on,ae.cells]
 .simp[ae.on,ae.cells]
 .simp[ae.on,ae.cells]
variable {l:List Sc}
theorem aAo(h:off+l.length<=cs.length):(wr cs off l).length=cs.length:=by simp[wr];omega
theorem XA{k:Nat}(h:off+l.length<=cs.length):(wr cs off l).getD k .any=if off<=k/\k<off+l.length then l.getD (k-off) .any else cs.getD k .any:=by
 simp only[b9,wr,fo];rcases cU k off with h1|h1
 .rw[sY (by simp;omega),List.getElem?_take_of_lt h1,if_neg ω]
 .rw[rV (by simp;omega)];have e1:k-(cs.take off).length=k-off:=by simp;omega
  rw[e1];rcases cU k (off+l.length)with h2|h2
  .rw[sY ω,if_pos ⟨h1,h2⟩]
  .rw[rV ω,if_neg ω,List.getElem?_drop];congr 2;omega
noncomputable def gE(t:Tc)(H0 H':AH)(p:Nat)(cur:ae):ae:=match t with|.mk=>if p=H0.length then hg H' p else cur|.st id off n=>if p=id then cur.on (ov off n (hg H' id).cells)else cur|.iX=>hg H' p|.cl A B=>@ite _ (hg B p=hg A p/\(hg A p).live=true) (Classical.propDecidable _) cur (hg B p)|_=>cur
def vQ(t:Tc)(H0:AH)(p a n:Nat):Prop:=match t with|.mk=>p=H0.length|.st id off m=>p=id/\off<a+n/\a<off+m|.iX=>True|.cl A B=>¬(hg B p=hg A p/\(hg A p).live=true)|_=>False
def Tc.quiet:Tc->Bool|.no|.ld _ _ _|.rd=>true|_=>false
variable {H0 H':AH}{p:Nat}{cur:ae}
theorem CT{t:Tc}(h:t.quiet=true):gE t H0 H' p cur=cur:=by cases t<;>simp[Tc.quiet]at h<;>rfl
variable {a:Nat}
theorem aah{t:Tc}(h:¬vQ t H0 p a n):(gE t H0 H' p cur).hd=cur.hd/\∀k,a<=k->k<a+n->(gE t H0 H' p cur).cells.getD k .any=cur.cells.getD k .any:=by cases t with
 |mk=>simp only[vQ]at h;simp[gE,h]|st id off m=>
   simp only[vQ]at h;simp only[gE];split
   .rename_i e;refine⟨HT,λk h1 h2=>?_⟩;rw[KT,if_neg (λhh=>h ⟨e,ω,ω⟩)]
   .exact⟨rfl,λ_ _ _=>rfl⟩|iX=>simp[vQ]at h|cl A B=>
 simp only[vQ,Classical.not_not]at h;simp only[gE];rw[if_pos h];exact⟨rfl,λ_ _ _=>rfl⟩|_=>exact⟨rfl,λ_ _ _=>rfl⟩
theorem al5{t:Tc}{c d:ae}(h:c.hd=d.hd)(hk:∀k,a<=k->k<a+n->c.cells.getD k .any=d.cells.getD k .any):(gE t H0 H' p c).hd=(gE t H0 H' p d).hd/\∀k,a<=k->k<a+n->(gE t H0 H' p c).cells.getD k .any=(gE t H0 H' p d).cells.getD k .any:=by cases t with
 |mk=>simp only[gE];split<;>simp_all|st id off m=>
   simp only[gE];split
   .refine⟨by rw[HT,HT,h],λk h1 h2=>?_⟩;rw[KT,KT,(ae.N8 h).2.1,hk k h1 h2]
   .exact⟨h,hk⟩|iX=>simp[gE]|cl A B=>
 simp only[gE];by_cases e:hg B p=hg A p/\(hg A p).live=true
 .rw[if_pos e,if_pos e];exact⟨h,hk⟩
 .rw[if_neg e,if_neg e];exact⟨rfl,λ_ _ _=>rfl⟩|_=>exact⟨h,hk⟩
variable {u:Tc}{A B:AH}
theorem al4{t:Tc}{A' B':AH}{c:ae}(h:¬dJ t u)(h1:t=.mk->u=.mk->A.length≠B.length)(h2:∀id a n,t=.st id a n->u=.mk->id≠B.length)(h3:∀id a n,t=.mk->u=.st id a n->id≠A.length):gE t A A' p (gE u B B' p c)=gE u B B' p (gE t A A' p c):=by cases ht:t.quiet with|true=>rw[CT ht,CT ht]|false=>cases hu:u.quiet with|true=>rw[CT hu,CT hu]|false=>
     cases t<;>simp[Tc.quiet]at ht<;>cases u<;>simp[Tc.quiet]at hu<;>simp only[dJ,not_true_eq_false]at h
     .rename_i id a n pA a' n';simp only[gE];by_cases e:p=id
      .by_cases e':p=pA
       .simp only[e,e',if_true];subst e;subst e';simp only[if_true];refine ae.ext (by simp only[HT]) λk=>?_;simp only[KT,(ae.N8 (HT (o:=c))).2.1];by_cases c1:k<c.cells.length/\a<=k/\k<a+n
        .rw[if_pos c1,if_neg (λc2=>h ⟨rfl,ω,ω⟩),if_pos c1]
        .rw[if_neg c1];split<;>simp[c1]
       .have e2:id≠pA:=λe2=>e' (e.trans e2);simp[e,e2]
      .simp[e]
     .rename_i id a n;have:=h2 id a n rfl rfl;simp only[gE];by_cases e:p=id
      .subst e;simp[this]
      .simp[e]
     .rename_i id a n;have:=h3 id a n rfl rfl;simp only[gE];by_cases e:p=id
      .subst e;simp[this]
      .simp[e]
     .have:=h1 rfl rfl;simp only[gE];by_cases e:p=A.length
      .subst e;simp[this]
      .simp[e]
noncomputable def val(ts:Nat->Tc)(Hs:Nat->AH)(S:Nat->Bool)(p:Nat):Nat->ae|0=>hg (Hs 0) p|m+1=>if S m then gE (ts m) (Hs m) (Hs (m+1)) p (val ts Hs S p m)else val ts Hs S p m
variable {b i:Nat}
section azX
variable {ts:Nat->Tc}{Hs:Nat->AH}{S T:Nat->Bool}{p n:Nat}
theorem ae6:∀M,(∀m,m<M->S m≠T m->¬vQ (ts m) (Hs m) p a b)->(val ts Hs S p M).hd=(val ts Hs T p M).hd/\∀k,a<=k->k<a+b->(val ts Hs S p M).cells.getD k .any=(val ts Hs T p M).cells.getD k .any:=by
 intro M;induction M with|zero=>intro _;exact⟨rfl,λ_ _ _=>rfl⟩|succ M ih=>
   intro h;obtain⟨i1,i2⟩:=ih λm hm=>h m ω;simp only[val];cases hS:S M<;>cases hT:T M
   .exact⟨i1,i2⟩
   .obtain⟨k1,k2⟩:=aah (H':=Hs (M+1)) (cur:=val ts Hs T p M) (h M ω (by rw[hS,hT];simp));exact⟨by simp[k1,i1],λk g1 g2=>by simp only[dC,if_false,if_true];rw[k2 k g1 g2,i2 k g1 g2]⟩
   .obtain⟨k1,k2⟩:=aah (H':=Hs (M+1)) (cur:=val ts Hs S p M) (h M ω (by rw[hS,hT];simp));exact⟨by simp[k1,i1],λk g1 g2=>by simp only[dC,if_false,if_true];rw[k2 k g1 g2,i2 k g1 g2]⟩
   .simp only[if_true];exact al5 i1 i2
theorem Xl:∀M,(∀m,m<M->S m≠T m->(ts m).quiet=true)->val ts Hs S p M=val ts Hs T p M:=by
 intro M;induction M with
 |zero=>intro _;rfl|succ M ih=>
   intro h;have:=ih λm hm=>h m ω;simp only[val];cases hS:S M<;>cases hT:T M<;>simp only[this,dC,if_false,if_true]
   .rw[CT (h M ω (by rw[hS,hT];simp))]
   .rw[CT (h M ω (by rw[hS,hT];simp))]
theorem azW(hi:S i=false)(hT:∀m,T m=(S m||decide (m=i))):∀M,i<M->(∀m,i<m->m<M->S m=true->∀c,gE (ts m) (Hs m) (Hs (m+1)) p (gE (ts i) (Hs i) (Hs (i+1)) p c)=gE (ts i) (Hs i) (Hs (i+1)) p (gE (ts m) (Hs m) (Hs (m+1)) p c))->val ts Hs T p M=gE (ts i) (Hs i) (Hs (i+1)) p (val ts Hs S p M):=by
 have below:∀m,m<=i->val ts Hs T p m=val ts Hs S p m:=by
  intro m;induction m with
 |zero=>intro _;rfl|succ m ih=>
    intro h;have e:T m=S m:=by rw[hT];simp;omega
    simp only[val,ih ω,e]
 intro M;induction M with
 |zero=>intro h;omega|succ M ih=>
   intro hM hc;rcases cU i M with h|h
   .have:=ih h λm h1 h2=>hc m h1 ω;have e:T M=S M:=by rw[hT];simp;omega
    simp only[val,e,this];cases hS:S M
    .simp
    .simp only[if_true];exact hc M h ω hS _
   .obtain rfl:M=i:=ω
    have e:T M=true:=by rw[hT];simp
    simp only[val,e,hi,if_true,below M (aC _)];simp
end azX
variable {H:AH}
theorem Oa(hl:H.length=H'.length)(h:∀p,hg H p=hg H' p):H=H':=by
 apply List.ext_getElem hl;intro i h1 h2;have:=h i;simpa[hg,b9,h1,h2]using this
end Go.Am

/- Steps of operations where some objects are not yet made. -/
namespace Go.Am
variable {P:Program}{aa:je}{N:Nat}{w0:World}{M:Fx}
variable {ρ:Ro}{w:World}{H H':AH}
theorem HR.cast(h:HR ρ w H)(yS:∀p,hg H' p=hg H p)(hf:∀p,H'.length<=p->ρ p=none):HR ρ w H':=⟨λi=>by rw[yS];exact h.obj i,λi j Li Lj h1 h2 h3 h4 h5=>by rw[yS]at h2 h5;exact h.sep i j Li Lj h1 h2 h3 h4 h5,hf⟩
theorem St.cast{fr:Fr}{H H':AH}{a:Act}{w:World}(h:St N w0 M ρ fr H a w)(yS:∀p,hg H' p=hg H p)(hf:∀p,H'.length<=p->ρ p=none):St N w0 M ρ fr H' a w:=⟨h.fr,h.sz,h.df,h.hr.cast yS hf,h.kp,λi L h1=>by rw[yS]at h1;exact h.ow i L h1,h.st⟩
variable {l:List Sc}
theorem HR.MP{c:List Value}(h:HR ρ w H)(hl:L2 (b6 ρ) l c)(t:Nat)(o:ae)(L:Loc)(id:Nat)(iD:id<H.length)(hd:hg H id=.dead)(hr:ρ id=none)(hb:L.dK=w.heap.size)(jm:L.off=0)(eH:L.nil=false)(mQ:L.row=o.row)(ho:(o=.own l/\L.vec=false)\/(∃sz,o=.vec sz l/\L.vec=true/\0<sz/\L.cap*sz=c.length)):HR (ic ρ id L) (w.alloc (.cells c.toArray t)) (H.set id o)/\gG ρ (ic ρ id L):=by
 have dW:gG ρ (ic ρ id L):=by
  intro i Li hi;have:i≠id:=by rintro rfl;rw[hr]at hi;simp at hi
  exact⟨Li,by rw[fG _ _ this,hi],.inl rfl⟩
 have yV:L2 (b6 (ic ρ id L)) l c:=hl.mono λ_ _ h=>h.mono dW;refine⟨⟨?_,?_,?_⟩,dW⟩
 .intro i;rw[ql _ _ _ _ iD];split
  .subst_vars;rcases ho with⟨rfl,hv⟩|⟨sz,rfl,hv,cJ,ry⟩
   .exact⟨L,c,t,iP _ _ _,jm,mQ,eH,hv,by rw[hb];exact BG _ _,yV⟩
   .refine⟨L,iP _ _ _,jm,mQ,hv,cJ,?_⟩;rw[if_neg (by simp[eH])];exact⟨c,[],t,by rw[hb];simpa using BG w _,by simpa using ry,yV⟩
  .rename_i cW;refine(h.obj i).fF dW (fG _ _ cW) (λLi hi hn Fa=>?_) (by simp);exact zZ _ _ _ ((h.obj i).xx hi hn Fa)
 .intro i j Li Lj oF cR cB ir eU im oG;rw[ql _ _ _ _ iD]at cR eU;by_cases h1:i=id
  .subst h1;rw[iP]at cB;simp at cB;subst cB;have h2:j≠i:=λe=>oF e.symm;rw[if_neg h2]at eU;rw[fG _ _ h2]at im;have:=(h.obj j).xx im oG eU;omega
  .rw[if_neg h1]at cR;rw[fG _ _ h1]at cB;by_cases h2:j=id
   .subst h2;rw[iP]at im;simp at im;subst im;have:=(h.obj i).xx cB ir (ae.nC cR);omega
   .rw[if_neg h2]at eU;rw[fG _ _ h2]at im;exact h.sep i j Li Lj oF cR cB ir eU im oG
 .intro i hi;simp at hi;rw[fG _ _ ω];exact h.fresh i ω
theorem jc.MP{c:List Value}(h:HR ρ w H)(hl:L2 (b6 ρ) l c)(t:Nat)(o:ae)(L:Loc)(id:Nat)(iD:id<H.length)(hd:hg H id=.dead)(hr:ρ id=none)(hb:L.dK=w.heap.size)(jm:L.off=0)(eH:L.nil=false)(mQ:L.row=o.row)(ho:(o=.own l/\L.vec=false)\/(∃sz,o=.vec sz l/\L.vec=true/\0<sz/\L.cap*sz=c.length)):jc ρ w H (w.alloc (.cells c.toArray t)) (ic ρ id L) (H.set id o):=by
 obtain⟨h1,h2⟩:=h.MP hl t o L id iD hd hr hb jm eH mQ ho;refine⟨h1,h2,λw0 M hk hm=>⟨hk.alloc _ _,λi Li cR cB ir=>?_⟩,by simp,λi Li _ cB=>?_⟩
 .by_cases e:i=id
  .subst e;rw[iP]at cB;simp at cB;subst cB;exact .inr (by rw[hb];exact hk.size)
  .rw[fG _ _ e]at cB;rw[ql _ _ _ _ iD,if_neg e]at cR;exact hm i Li cR cB ir
 .have:i≠id:=by rintro rfl;rw[hr]at cB;simp at cB
  rw[fG _ _ this,cB]
structure QR(ρ:Ro)(w:World)(H:AH)(id:Nat):Prop where
 hr:HR ρ w H
 lt:id<H.length
 dead:hg H id=.dead
 none:ρ id=none
theorem acA{w:World}{H:AH}{id:Nat}(h:QR ρ w H id){l:List Sc}{c:List Value}(hl:L2 (b6 ρ) l c)(t:Nat):jc ρ w H (w.alloc (.cells c.toArray t)) (ic ρ id ⟨w.heap.size,0,0,0,false,false⟩) (H.set id (.own l))/\bg (ic ρ id ⟨w.heap.size,0,0,0,false,false⟩) (.c (.p id 0 0)) (.pointer (some ⟨w.heap.size,0,none⟩)):=⟨jc.MP h.hr hl t _ _ id h.lt h.dead h.none rfl rfl rfl rfl (.inl ⟨rfl,rfl⟩),⟨_,_,iP _ _ _,rfl,aC _,λ_=>⟨rfl,by simp,rfl⟩⟩⟩
theorem Xn{w:World}{H:AH}{id:Nat}(h:QR ρ w H id){l:List Sc}{c:List Value}(hl:L2 (b6 ρ) l c)(t sz n:Nat)(cJ:0<sz)(hn:n*sz=c.length)(Fc:n<=9223372036854775807):jc ρ w H (w.alloc (.cells c.toArray t)) (ic ρ id ⟨w.heap.size,0,n,l.length,false,true⟩) (H.set id (.vec sz l))/\bg (ic ρ id ⟨w.heap.size,0,n,l.length,false,true⟩) (.c (.sl id 0 l.length n)) (.slice (some ⟨w.heap.size,0,none⟩) n n):=by
 refine⟨jc.MP h.hr hl t _ _ id h.lt h.dead h.none rfl rfl rfl rfl (.inr ⟨sz,rfl,rfl,cJ,hn⟩),_,_,_,iP _ _ _,rfl,by simp,aC _,Fc,aC _,λ_=>?_⟩;rw[if_neg (by simp)];refine⟨_,rfl,λ_=>rfl,λ_ _=>aC _,λh0 _=>?_⟩;show 0<l.length;rw[hl.length,<-hn];exact BC h0 cJ
theorem apa{ρ:Ro}{o:Oper}{a:Act}{H0 H H':AH}{vs:List AV}{v:AV}{w:World}(hk:cA P aa o.op vs=.mk)(h:jy P o.op vs H0=some (v,H'))(hv:L2 (bg ρ) vs ((bI o.op).map a.eval))(hH:QR ρ w H H0.length):∃ob,H'=H0++[ob]/\∃w' L,jc ρ w H w' (ic ρ H0.length L) (H.set H0.length ob)/\∃vc,(execOp a.eval o).run P w=.ok (.value vc) w'/\bg (ic ρ H0.length L) v vc:=by
 obtain⟨dst,op,ty,pos,after,guard⟩:=o;simp only at h hv hk;have fin:∀(s:Sem Value)(ob:ae),(∃w' L vc,jc ρ w H w' (ic ρ H0.length L) (H.set H0.length ob)/\s.run P w=.ok vc w'/\bg (ic ρ H0.length L) v vc)->∃w' L,jc ρ w H w' (ic ρ H0.length L) (H.set H0.length ob)/\∃vc,(do pure (.value (<-s)):Sem Next).run P w=.ok (.value vc) w'/\bg (ic ρ H0.length L) v vc:=by
  rintro s ob⟨w',L,vc,h1,h2,h3⟩;exact⟨w',L,h1,vc,by simp[h2],h3⟩
 unfold jy at h;split at h
 .rename_i t;split at h<;>simp at h;rename_i z hz;obtain⟨rfl,rfl⟩:=h;obtain⟨zv,zc,h1,h2,h3⟩:=Bw (ρ:=ρ) hz w;obtain⟨h4,h5⟩:=acA hH h3 t;refine⟨_,rfl,fin _ _ ⟨_,_,_,h4,?_,h5⟩⟩;simp only[Instr.alloc,c9,h1,c8,newVar,newRow,h2,run_newObj,fi];rfl
 .rename_i t x ax;split at h<;>simp at h;rename_i l hc;obtain⟨rfl,rfl⟩:=h;obtain⟨y,hy,h1⟩:=hv.one;simp only[bI,fW,iW,cK,and_true]at hy;subst hy;obtain⟨cs,h2,h3,_⟩:=h1.cells hc;obtain⟨h4,h5⟩:=acA hH h3 t;refine⟨_,rfl,fin _ _ ⟨_,_,_,h4,?_,h5⟩⟩;simp only[Instr.box,newVar,newRow,h2,c9,run_newObj,c8,fi];rfl
 .rename_i t len ps;split at h<;>try(simp at h;done)
  rename_i e hd;have hu:=mE hd;split at h<;>try(simp at h;done)
  rename_i z hz;split at h
  .rename_i hc;obtain⟨cJ,hl,BX,qo⟩:=hc;split at h<;>simp at h;rename_i cs hf;obtain⟨rfl,rfl⟩:=h;obtain⟨zv,zc,h1,h2,h3⟩:=Bw (ρ:=ρ) hz w;obtain⟨rc,h4,h5⟩:=NA _ _ _ (afq ps hv) _ _ _ (h3.rep len) hf;have hlen:len*av P e=rc.length:=by rw[<-h5.length,ZX _ _ _ _ hf];simp[qo]
   obtain⟨h6,h7⟩:=Xn hH h5 e (av P e) len cJ hlen (by have:len<=len*av P e:=Nat.le_mul_of_pos_right _ cJ;omega);refine⟨_,rfl,fin _ _ ⟨_,_,_,h6,?_,h7⟩⟩;have tL:zc.length=av P e:=by rw[<-h3.length,qo]
   have cW:¬len*av P e=0:=by have:=BC hl cJ;omega
   have S5:¬len*av P e>2^24:=ω
   simp only[Instr.buildSlice,c9,run_underlying hu,c8,mC cJ,S5,if_false,cW,fi,h1,h2,Ld len _ tL];simp only[Array.toList_map]at h4|-;rw[h4];simp only[newRow,c9,run_newObj,c8,fi];rfl
  .split at h<;>simp at h;rename_i hc;obtain⟨cJ,rfl,rB⟩:=hc;obtain⟨rfl,rfl⟩:=h;obtain rfl:ps=#[]:=Array.eq_empty_of_size_eq_zero rB;obtain⟨h6,h7⟩:=Xn hH (l:=[]) (c:=[]) .nil e (av P e) 0 cJ (by simp) ω;refine⟨_,rfl,fin _ _ ⟨_,_,_,h6,?_,h7⟩⟩;have e0:Array.range 0=#[]:=by apply p9;simp
   simp[Instr.buildSlice,run_underlying hu,mC cJ,Instr.fill,newRow,e0]
 .rename_i t x y l c;split at h<;>try(simp at h;done)
  rename_i e hd;have hu:=mE hd;split at h<;>try(simp at h;done)
  rename_i z hz;split at h<;>simp at h;rename_i hc;obtain⟨rfl,h0,BX,cJ,wu,qo⟩:=hc;obtain⟨rfl,rfl⟩:=h;obtain⟨cx,cy,hx,h1,h2⟩:=hv.two;simp only[bI,fW,iW,cK,and_true]at hx;obtain⟨rfl,rfl⟩:=hx;obtain⟨h1,_⟩:=h1;obtain⟨h2,_⟩:=h2;obtain⟨zv,zc,h3,h4,h5⟩:=Bw (ρ:=ρ) hz w;obtain⟨i,hi,Az⟩:=Kr cJ;have tL:zc.length=av P e:=by rw[<-h5.length,qo]
  have Hm:l.toNat*av P e=((bE l.toNat z).flatten).length:=by simp[qo]
  have h8:=Xn hH (h5.rep l.toNat) e (av P e) l.toNat cJ (by simp[tL]) ω;rw[<-Hm]at h8;obtain⟨h6,h7⟩:=h8;refine⟨_,rfl,fin _ _ ⟨_,_,_,h6,?_,h7⟩⟩;have hw:IntKind.i64.wrap l=l:=I6 ω ω;have SE:lY P e=i.bytes:=by simp[lY,hi]
  have hb:¬((i.bytes:Int)*l>2^48):=by
   rw[<-SE];have:(lY P e:Int)*l<=1048576*1048576:=Int.mul_le_mul ω BX h0 ω;omega
  have hn:¬l<0:=ω
  have Fc:¬l>l:=ω
  have qN:decide ((i.bytes:Int)*l>2^48)=false:=decide_eq_false hb;simp only[Instr.makeSlice,c9,run_underlying hu,c8,h1,h2,asInt,asIntOf,fi,typeInfo,run_program,hi,hw,qN,Bool.false_or,hn,Fc,decide_false,Bool.or_self,dC,if_false,run_askRoom,mC cJ];by_cases B8:l.toNat*av P e=0
  .simp only[B8,if_true,fi,c8,newRow,c9,run_newObj];have e1:(bE l.toNat zc).flatten=[]:=uY (by simp[tL,B8]);have e0:Array.range 0=#[]:=by apply p9;simp
   rw[e1,e0];simp
  .simp only[B8,if_false,c9,fi,h3,c8,h4,Ld _ _ tL,newRow,run_newObj];rfl
 .simp only[cA]at hk;unfold w4 at hk;split at hk<;>simp at hk
 .simp at h
theorem ayB{ρ:Ro}{o:Oper}{a:Act}{H H':AH}{vs:List AV}{v:AV}{w:World}{id off n:Nat}(hk:cA P aa o.op vs=.st id off n)(h:jy P o.op vs H=some (v,H'))(hv:L2 (bg ρ) vs ((bI o.op).map a.eval))(hH:HR ρ w H):(∃w',jc ρ w H w' ρ H'/\(execOp a.eval o).run P w=.ok .skip w'/\v=.c .gM)/\∃t x y ax aX l,o.op=.store t x y/\vs=[.c (.p id off aX),ax]/\ax.cells=some l/\n=av P t/\H'=H.set id ((hg H id).put (wr (hg H id).cells off l))/\(hg H id).owned=true/\aX=(hg H id).row/\l.length=av P t/\0<av P t/\off+l.length<=(hg H id).cells.length/\l.all Sc.one=true:=by
 obtain⟨dst,op,ty,pos,after,guard⟩:=o;simp only at h hv hk;have Ff:∀(u:Tc),(∀a b c,u≠.st a b c)->cA P aa op vs=u->False:=by intro u hu e;rw[hk]at e;exact hu _ _ _ e.symm
 unfold jy at h;split at h
 .exact(Ff .mk (by simp) rfl).elim
 .exact(Ff .mk (by simp) rfl).elim
 .exact(Ff .mk (by simp) rfl).elim
 .exact(Ff .mk (by simp) rfl).elim
 .rename_i t x y pA FG aX ax;simp only[cA,w4,Tc.st.injEq]at hk;obtain⟨rfl,rfl,rfl⟩:=hk;split at h<;>try(simp at h;done)
  rename_i l hl;split at h<;>simp at h;rename_i hc;obtain⟨dg,AI,hlen,cJ,jm,nQ⟩:=hc;obtain⟨rfl,rfl⟩:=h;obtain⟨cx,cy,hx,h1,h2⟩:=hv.two;simp only[bI,fW,iW,cK,and_true]at hx;obtain⟨rfl,rfl⟩:=hx;obtain⟨cs,h3,h4,_⟩:=h2.cells hl;obtain⟨L,ad,h5,h6,h7,h8⟩:=(show jR ρ pA FG aX _ from h1);have mQ:=(hH.obj pA).row h5 (ae.nC dg);obtain⟨eH,_,rfl⟩:=h8 (by rw[mQ];exact AI);obtain⟨w',h9,oD⟩:=P8 (P:=P) hH dg h5 eH h4 jm nQ ω;refine⟨⟨w',oD,?_,rfl⟩,t,x,y,ax,aX,l,rfl,rfl,hl,rfl,rfl,dg,AI,hlen,cJ,jm,nQ⟩;have cu:cs.toArray.size=av P t:=by simp[<-h4.length,hlen]
  simp only[execOp,c9,Instr.storeAt,h6,Instr.sureAddr,fi,c8,storeVar,mC cJ,h3,cu,ne_eq,not_true_eq_false,if_false,h9]
 .simp at h
end Go.Am

/- Regions that draw their order: any order comes to what the text's order comes to. -/
namespace Go.Am
variable {P:Program}{aa:je}{N:Nat}{w0:World}{M:Fx}
variable {op:Op}{vs:List AV}{H H':AH}{v:AV}
theorem R4(h:jy P op vs H=some (v,H')):cA P aa op vs=.mk\/∃a b c,cA P aa op vs=.st a b c:=by
 unfold jy at h;split at h
 .exact .inl rfl
 .exact .inl rfl
 .exact .inl rfl
 .exact .inl rfl
 .exact .inr ⟨_,_,_,rfl⟩
 .simp at h
theorem aaK {op : Op} {vs : List AV} (h : sI op vs = true) : cA P aa op vs = .iX := by
  unfold sI at h
  split at h <;> first | rfl | simp at h
theorem Yj(h:cO P aa op vs H=some (v,H'))(hk:cA P aa op vs=.no):H'=H/\∀H2,cO P aa op vs H2=some (v,H2):=by
 unfold cO at h;split at h
 .rename_i f as ts fn cs args;simp only[cA,CB]at hk;split at hk<;>simp at hk;rename_i s hl;simp only[Af,hl,ef,bD]at h;obtain⟨x,h1,rfl,rfl⟩:=h;exact⟨rfl,λH2=>by simp[cO,Af,hl,h1]⟩
 .simp at h
 .simp[cA,qk]at hk
 .simp[cA,rO]at hk
 .simp[cA,rO]at hk
 .split at h
  .rename_i hm;rw[aaK hm]at hk;simp at hk
  rename_i hm;split at h
  .rename_i v' hq;simp at h;obtain⟨rfl,rfl⟩:=h;refine⟨rfl,λH2=>?_⟩;have ht:uf op vs=[]:=by
    unfold uf;split
    .simp[cA,D9]at hk;split at hk<;>simp at hk
    .simp[cA,w4]at hk;split at hk<;>simp at hk
    .simp[cA,qk]at hk
    .simp[cA,qk]at hk
    .simp[cA,qk]at hk
    .rfl
   rw[ht]at hq;unfold cO;split
   .exfalso;simp_all
   .exfalso;simp_all
   .simp[cA,qk]at hk
   .simp[cA,rO]at hk
   .simp[cA,rO]at hk
   .rw[if_neg hm,ht,iW];simp only[iW]at hq;rw[hq]
  .rcases R4 (aa:=aa) h with e|⟨a,b,c,e⟩<;>rw[hk]at e<;>simp at e
variable {cs:List Sc}{off n:Nat}
theorem auZ{ag:Bool}{ds:List Sc}(hl:cs.length=ds.length)(h:∀k,off<=k->k<off+n->cs.getD k .any=ds.getD k .any)(hn:0<n):rd ag cs off n=rd ag ds off n:=by
 unfold rd;split
 .congr 1;apply List.ext_getElem (by simp[hl]);intro i h1 h2;simp at h1 h2;have:=h (off+i) ω ω;simp only[b9]at this;rw[cM ω,cM ω]at this;simpa using this
 .rw[h off ω ω]
theorem Yi{op:Op}{vs:List AV}{H H':AH}{v:AV}{id off n:Nat}(h:cO P aa op vs H=some (v,H'))(hk:cA P aa op vs=.ld id off n):H'=H/\id<H.length/\(∃aX,vs=[.c (.p id off aX)])/\∀H2,(hg H2 id).hd=(hg H id).hd->(∀k,off<=k->k<off+n->(hg H2 id).cells.getD k .any=(hg H id).cells.getD k .any)->cO P aa op vs H2=some (v,H2):=by
 obtain⟨t,x,rfl⟩:∃t x,op=.load t x:=by
  unfold cA at hk;split at hk
  .exact⟨_,_,rfl⟩
  .unfold w4 at hk;split at hk<;>simp at hk
  .simp at hk
  .simp at hk
  .simp at hk
  .simp at hk
  .unfold CB at hk;split at hk<;>(try split at hk)<;>simp at hk
  .unfold rO at hk;split at hk<;>simp at hk
  .unfold ue at hk;split at hk<;>simp at hk
  .split at hk<;>simp at hk
 simp only[cA,D9]at hk;split at hk<;>simp at hk;rename_i pA FG aX;obtain⟨rfl,rfl,rfl⟩:=hk;simp only[cO,sI,dC,if_false,uf,fW,iW,iS]at h;split at h
 .rename_i v' hq;simp at h;obtain⟨rfl,rfl⟩:=h;split at hq<;>simp at hq;rename_i hc;subst hq;have aL:pA<H.length:=by
   apply dU;cases hh:hg H pA with
 |dead=>rw[hh]at hc;simp[ae.cells]at hc;omega|_=>rfl
  refine⟨rfl,aL,⟨_,rfl⟩,λH2 h1 h2=>?_⟩;obtain⟨r1,r2,_,_⟩:=ae.N8 h1;simp only[cO,sI,dC,if_false,uf,fW,iW,iS];rw[if_pos (by rw[r1,r2];exact hc),auZ r2 h2 hc.2.2.1]
 .simp[jy]at h
theorem W8{op:Op}{H H':AH}{vs:List AV}{v:AV}{id off n:Nat}(hk:cA P aa op vs=.st id off n)(h:jy P op vs H=some (v,H')):∃t x y ax aX l,op=.store t x y/\vs=[.c (.p id off aX),ax]/\ax.cells=some l/\n=av P t/\v=.c .gM/\H'=H.set id ((hg H id).put (wr (hg H id).cells off l))/\(hg H id).owned=true/\aX=(hg H id).row/\l.length=av P t/\0<av P t/\off+l.length<=(hg H id).cells.length/\l.all Sc.one=true:=by
 unfold jy at h;split at h
 .simp[cA]at hk
 .simp[cA]at hk
 .simp[cA]at hk
 .simp[cA]at hk
 .rename_i t x y pA FG aX ax;simp only[cA,w4,Tc.st.injEq]at hk;obtain⟨rfl,rfl,rfl⟩:=hk;split at h<;>try(simp at h;done)
  rename_i l hl;split at h<;>simp at h;rename_i hc;obtain⟨dg,AI,hlen,cJ,jm,nQ⟩:=hc;obtain⟨rfl,rfl⟩:=h;exact⟨t,x,y,ax,aX,l,rfl,rfl,hl,rfl,rfl,rfl,dg,AI,hlen,cJ,jm,nQ⟩
 .simp at h
theorem GK(hk:cA P aa op vs=.mk\/∃a b c,cA P aa op vs=.st a b c)(H2:AH):cO P aa op vs H2=jy P op vs H2:=by
 unfold cA at hk;split at hk
 .unfold D9 at hk;split at hk<;>simp at hk
 .simp only[cO,sI,dC,if_false,iS]
 .simp only[cO,sI,dC,if_false,iS]
 .simp only[cO,sI,dC,if_false,iS]
 .simp only[cO,sI,dC,if_false,iS]
 .simp only[cO,sI,dC,if_false,iS]
 .unfold CB at hk;split at hk<;>(try split at hk)<;>simp at hk
 .unfold rO at hk;split at hk<;>simp at hk
 .unfold ue at hk;split at hk<;>simp at hk
 .split at hk<;>simp at hk
variable {ts:Array TypeId}
theorem agN(h:Es P ts vs H=some (v,H')):H.length<=H'.length:=by
 unfold Es at h;split at h<;>try(simp at h;done)
 split at h<;>try(simp at h;done)
 split at h<;>try(simp at h;done)
 split at h<;>try(simp at h;done)
 split at h
 .split at h<;>try(simp at h;done)
  split at h<;>simp at h;obtain⟨_,rfl⟩:=h;simp
 .split at h<;>simp at h;obtain⟨_,rfl⟩:=h;simp
 .simp at h
theorem akX(h:jy P op vs H=some (v,H')):H.length<=H'.length:=by
 rcases R4 (aa:=[]) h with hk|⟨a,b,c,hk⟩
 .unfold jy at h;split at h
  .split at h<;>simp at h;obtain⟨_,rfl⟩:=h;simp
  .split at h<;>simp at h;obtain⟨_,rfl⟩:=h;simp
  .split at h<;>try(simp at h;done)
   split at h<;>try(simp at h;done)
   split at h
   .split at h<;>simp at h;obtain⟨_,rfl⟩:=h;simp
   .split at h<;>simp at h;obtain⟨_,rfl⟩:=h;simp
  .split at h<;>try(simp at h;done)
   split at h<;>try(simp at h;done)
   split at h<;>simp at h;obtain⟨_,rfl⟩:=h;simp
  .simp only[cA,w4]at hk;simp at hk
  .simp at h
 .obtain⟨_,_,_,_,_,_,_,_,_,_,_,rfl,_⟩:=W8 hk h;simp
theorem ahs(ht:jw P aa)(h:cO P aa op vs H=some (v,H')):H.length<=H'.length:=by
 unfold cO at h;split at h
 .unfold Af at h;split at h
  .simp only[ef,bD]at h;obtain⟨_,_,_,rfl⟩:=h;exact aC _
  .rename_i s hl;exact(ht _ _ hl).len _ _ _ _ h
  .simp only[ef,bD]at h;obtain⟨_,_,_,rfl⟩:=h;exact aC _
  .simp at h
 .simp at h
 .exact agN h
 .rw[ef]at h;obtain⟨_,_,h2⟩:=h;simp only[bD]at h2;rw[h2.2];exact aC _
 .rw[ef]at h;obtain⟨_,_,h2⟩:=h;simp only[bD]at h2;rw[h2.2];exact aC _
 .split at h
  .exact apd h
  split at h
  .simp at h;rw[<-h.2];exact aC _
  .exact akX h
theorem Yk(h:cO P aa op vs H=some (v,H'))(hk:cA P aa op vs=.rd):H'=H:=by
 unfold cA at hk;split at hk
 .unfold D9 at hk;split at hk<;>simp at hk
 .unfold w4 at hk;split at hk<;>simp at hk
 .simp at hk
 .simp at hk
 .simp at hk
 .simp at hk
 .unfold CB at hk;split at hk
  .split at hk<;>try(simp at hk;done)
   rename_i hl;simp only[cO,Af,hl,ef,bD]at h;obtain⟨_,_,_,rfl⟩:=h;rfl
  .simp at hk
 .unfold rO at hk;split at hk<;>simp at hk
 .unfold ue at hk;split at hk<;>simp at hk
 .split at hk<;>simp at hk
theorem acw{o:Oper}{v:AV}{ρ:Ro}{fr:Fr}{H H':AH}{a:Act}{w:World}{K:Act->World->Prop}{Q:Exit->Act->World->Prop}(ht:jw P aa)(hs:St N w0 M ρ fr H a w)(hd:xB N o.dst=true)(hk:cA P aa o.op ((bI o.op).map (ev fr))=.no\/∃i b n,cA P aa o.op ((bI o.op).map (ev fr))=.ld i b n)(h:cO P aa o.op ((bI o.op).map (ev fr)) H=some (v,H'))(hK:∀a' w',St N w0 M ρ (iF o.dst v fr) H a' w'->K a' w'):o.wp P a w K Q:=by
 have hv:=HU hs (bI o.op);unfold cO at h;split at h
 .rename_i op _ f as ts fn cs args jt kL;rw[jt]at kL hv;have qm:look aa fn=none\/∃s,look aa fn=some (.pu s):=by
   rw[jt]at hk;simp only[kL,cA,CB]at hk;split at hk
   .rename_i s hl;exact .inr ⟨s,hl⟩
   .simp at hk
   .simp at hk
  simp only[bI,fW,cK]at kL hv;obtain⟨hf,bM⟩:=kL;have hfr:=G6 hs.fr f;rw[hf]at hfr;obtain⟨cv,hcv,hcr⟩:=hfr;cases hv with|cons _ hv=>
    rcases qm with hl|⟨s,hl⟩
    .simp[Af,hl]at h
    .simp only[Af,hl,ef,bD]at h;obtain⟨v',h1,rfl,rfl⟩:=h;obtain⟨hen,hpu⟩:=ht fn _ hl;have hrel:L2 (bg ρ) (args++cs.map Ag) (as.toList.map a.eval++cv):=by rw[<-bM];exact hv.app (Jv hcr)
     have xK:=hpu _ _ h1 ρ w _ hrel;have wz:(execOp a.eval o).run P w=.ok (.enter fn (as.toList.map a.eval++cv).toArray) w:=by
      have e1:#[]++as.map a.eval++cv.toArray=(as.toList.map a.eval++cv).toArray:=by apply p9;simp
      simp only[execOp,jt,resolve,hcv,Deferred.ofValue,c9,fi,c8,invoke];rw[e1];exact hen _ _
     simp only[Oper.wp,wz,Oper.upon];refine xK.mono ?_;rintro e w'⟨vc,rfl,h3,h4⟩;exact hK _ _ ((hs.G4 (jc.quiet hs.hr h4)).put hd (h3 ρ))
 .simp at h
 .rename_i jt;exfalso;rw[jt]at hk;simp[cA,qk]at hk
 .rename_i jt kL;exfalso;rw[jt]at hk kL;rw[kL]at hk;simp[cA,rO]at hk
 .rename_i jt kL;exfalso;rw[jt]at hk kL;rw[kL]at hk;simp[cA,rO]at hk
 .split at h
  .rename_i hm;exfalso;rw[aaK hm]at hk;simp at hk
  split at h
  .rename_i v' hq;simp at h;obtain⟨rfl,rfl⟩:=h;obtain⟨vc,h1,h2⟩:=ado (o:=o) hq hv (λi=>hs.hr.obj i);simp only[Oper.wp,h1,Oper.upon];exact hK _ _ (hs.put hd h2)
  .exfalso;rcases R4 (aa:=aa) h with e|⟨b,c,d,e⟩<;>rw[e]at hk<;>simp at hk
end Go.Am

/- Regions that draw their order: the text's order, taken apart. -/
namespace Go.Am
variable {P:Program}{aa:je}{N:Nat}{w0:World}{M:Fx}
def looks(full:Array Oper)(o:Oper):List Nat:=(bI o.op).filterMap WX++(match o.guard with|some (j,_)=>(jZ full j).toList|none=>[])
def G3(full:Array Oper)(i j:Nat):Bool:=match full[i]? with|some o=>o.after.any λe=>e.on==j&&Region.binds .any e|none=>false
def vY(full:Array Oper):Bool:=let n:=full.size;(oR n).all λi=>match full[i]? with
 |none=>false|some o=>o.after.all (λe=>!Region.binds .any e||decide (e.on<i))&&(oR n).all λj=>match jZ full j with|none=>true|some d=>(i==j||o.dst !=some d)&&(!(looks full o).contains d||(i !=j&&(if j<i then G3 full i j else G3 full j i)))
variable {fr fm:Fr}{x:Operand}
theorem alq(h:∀t,WX x=some t->Am.get fm t=Am.get fr t):ev fm x=ev fr x:=by cases x with|tmp t=>exact h t rfl|_=>rfl
inductive Gv(P:Program)(aa:je)(full:Array Oper)(o:Oper)(fr:Fr)(H:AH):AV->AH->Tc->Prop|go(v:AV)(H':AH)(hg:o.guard=none\/∃j q,o.guard=some (j,q)/\wo full fr j=some (some q))(h:cO P aa o.op ((bI o.op).map (ev fr)) H=some (v,H')):Gv P aa full o fr H v H' (mW (cA P aa o.op ((bI o.op).map (ev fr))) H H')|no(j:Nat)(q:Bool)(r:Option Bool)(hg:o.guard=some (j,q))(hw:wo full fr j=some r)(cW:r≠some q):Gv P aa full o fr H (.c .gM) H .no
variable {full:Array Oper}{o:Oper}
theorem abf(ha:∀t∈looks full o,Am.get fm t=Am.get fr t):(bI o.op).map (ev fm)=(bI o.op).map (ev fr):=by
 apply ME;intro x hx;refine alq λt ht=>ha t ?_;simp only[looks,xj,List.mem_filterMap];exact .inl ⟨x,hx,ht⟩
theorem TX(ha:∀t∈looks full o,Am.get fm t=Am.get fr t)(j:Nat)(q:Bool)(hj:o.guard=some (j,q)):wo full fm j=wo full fr j:=by
 unfold wo;cases hd:(full[j]?).bind (·.dst)with|none=>rfl|some d=>
   have:d∈looks full o:=by
    simp only[looks,xj,hj];right;simp[jZ,hd]
   simp only[ha d this]
variable {H H':AH}{v:AV}
theorem afD{t:Tc}(ht:jw P aa)(h:Gv P aa full o fr H v H' t):H.length<=H'.length:=by cases h with|go _ _ _ h=>exact ahs ht h|no=>exact aC _
theorem XR{t:Tc}(h:Gv P aa full o fr H v H' t)(hq:t.quiet=true):H'=H:=by cases h with
 |no=>rfl|go _ _ _ h=>
   generalize hk:cA P aa o.op ((bI o.op).map (ev fr))=t at hq;cases t<;>simp[mW,Tc.quiet]at hq
   .exact(Yj h hk).1
   .exact(Yi h hk).1
   .exact Yk h hk
variable {op:Op}{vs:List AV}{A B:AH}
theorem azn(h:cA P aa op vs=.cl A B):False:=by
 unfold cA D9 w4 CB at h;split at h
 .split at h<;>simp at h
 .split at h<;>simp at h
 .simp at h
 .simp at h
 .simp at h
 .simp at h
 .split at h
  .split at h<;>simp at h
  .simp at h
 .unfold rO at h;split at h<;>simp at h
 .unfold ue at h;split at h<;>simp at h
 .split at h<;>simp at h
theorem Xf{t:Tc}(h:mW t H H'=.mk):t=.mk:=by cases t<;>simp[mW]at h<;>rfl
variable {a b c:Nat}
theorem azo{t:Tc}(h:mW t H H'=.st a b c):t=.st a b c:=by
 cases t<;>simp[mW]at h;obtain⟨rfl,rfl,rfl⟩:=h;rfl
theorem XP(h:Gv P aa full o fr H v H' (.cl A B)):H=A/\H'=B:=by
 generalize ht:Tc.cl A B=t at h;cases h with
 |no=>simp at ht|go _ _ _ h=>
   cases hk:cA P aa o.op ((bI o.op).map (ev fr))<;>rw[hk]at ht<;>simp[mW]at ht
   .exact⟨ht.1.symm,ht.2.symm⟩
   .exact⟨ht.1.symm,ht.2.symm⟩
theorem XQ(h:Gv P aa full o fr H v H' .mk):∃ob,H'=H++[ob]:=by
 generalize ht:Tc.mk=t at h;cases h with
 |no=>simp at ht|go _ _ _ h=>
   have hk:=Xf ht.symm;rw[GK (.inl hk)]at h;unfold jy at h;split at h
   .split at h<;>simp at h;exact⟨_,h.2.symm⟩
   .split at h<;>simp at h;exact⟨_,h.2.symm⟩
   .split at h<;>try(simp at h;done)
    split at h<;>try(simp at h;done)
    split at h
    .split at h<;>simp at h;exact⟨_,h.2.symm⟩
    .split at h<;>simp at h;exact⟨_,h.2.symm⟩
   .split at h<;>try(simp at h;done)
    split at h<;>try(simp at h;done)
    split at h<;>simp at h;exact⟨_,h.2.symm⟩
   .rename_i jt kL;rw[kL,jt]at hk;simp[cA,w4]at hk
   .simp at h
theorem U4{o:ae}{off:Nat}{l:List Sc}(ho:o.owned=true)(hl:off+l.length<=o.cells.length):(o.put (wr o.cells off l)).cells=wr o.cells off l:=by
 cases o
 .rfl
 .rfl
 .simp[ae.owned]at ho
 .simp only[ae.cells,dY]at hl;have:l=[]:=uY ω;subst this;simp[ae.put,ae.cells,wr]
 .simp only[ae.cells,dY]at hl;have:l=[]:=uY ω;subst this;simp[ae.put,ae.cells,wr]
 .simp[ae.owned]at ho
theorem auR{o:ae}{cs:List Sc}(ho:o.owned=true)(hl:cs.length=o.cells.length):(o.put cs).hd=o.hd:=by
 cases o
 .show(0,0,cs.length,_)=_;rw[hl];rfl
 .show(1,_,cs.length,_)=_;rw[hl];rfl
 .simp[ae.owned]at ho
 .rfl
 .rfl
 .simp[ae.owned]at ho
theorem acS{o:ae}{off n:Nat}{l src:List Sc}(ho:o.owned=true)(hn:l.length=n)(hl:off+l.length<=o.cells.length)(C8:∀k,off<=k->k<off+n->src.getD k .any=l.getD (k-off) .any):o.put (wr o.cells off l)=o.on (ov off n src):=by
 refine ae.ext ?_ λk=>?_
 .rw[HT];exact auR ho (aAo hl)
 .have e:=U4 ho hl;rw[e,XA hl,KT,hn];by_cases c:off<=k/\k<off+n
  .rw[if_pos c,if_pos ⟨ω,c⟩,C8 k c.1 c.2]
  .rw[if_neg c,if_neg (λh=>c h.2)]
theorem XS{full:Array Oper}{o:Oper}{fr:Fr}{H H':AH}{v:AV}{id off n:Nat}(h:Gv P aa full o fr H v H' (.st id off n)):∃t x y ax aX l,o.op=.store t x y/\(bI o.op).map (ev fr)=[.c (.p id off aX),ax]/\ax.cells=some l/\n=av P t/\v=.c .gM/\H'=H.set id ((hg H id).put (wr (hg H id).cells off l))/\(hg H id).owned=true/\aX=(hg H id).row/\l.length=av P t/\0<av P t/\off+l.length<=(hg H id).cells.length/\l.all Sc.one=true:=by
 generalize ht:Tc.st id off n=t at h;cases h with|no=>simp at ht|go _ _ _ h=>have hk:=azo ht.symm;rw[GK (.inr ⟨_,_,_,hk⟩)]at h;exact W8 hk h
theorem afF{t:Tc}(h:Gv P aa full o fr H v H' t)(p:Nat):hg H' p=gE t H H' p (hg H p):=by cases hq:t.quiet with|true=>rw[CT hq,XR h hq]|false=>
   cases t<;>simp[Tc.quiet]at hq
   .rename_i id off n;obtain⟨t,x,y,ax,aX,l,_,_,_,rfl,_,rfl,dg,_,hlen,_,jm,_⟩:=XS h;have aL:=dU (ae.nC dg);simp only[gE];rw[ql _ _ _ _ aL,ql _ _ _ _ aL];split
    .subst_vars;rw[if_pos rfl];refine acS dg hlen jm λk h1 h2=>?_;have e:=U4 dg jm;rw[e,XA jm,if_pos ⟨h1,ω⟩]
    .rfl
   .obtain⟨ob,rfl⟩:=XQ h;simp only[gE];rw[qj];split
    .rfl
    .rfl
   .rfl
   .obtain⟨rfl,rfl⟩:=XP h;simp only[gE];by_cases e:hg H' p=hg H p/\(hg H p).live=true
    .rw[if_pos e,e.1]
    .rw[if_neg e]
structure TR(P:Program)(aa:je)(full:Array Oper)(F:Nat->Fr)(Hs:Nat->AH)(v:Nat->AV)(ts:Nat->Tc)(i0:Nat):Prop where
 step:∀m,i0<=m->m<full.size->∃o,full[m]?=some o/\Gv P aa full o (F m) (Hs m) (v m) (Hs (m+1)) (ts m)/\F (m+1)=iF o.dst (v m) (F m)tie:∀m j,i0<=j->j<m->m<full.size->dJ (ts m) (ts j)->jL full m j (ts m) (ts j)
variable {i:Nat}
theorem abH{t:Tc}:∀{log:List (Nat×Tc)},qx full i t log->∀j u,(j,u)∈log->dJ t u->jL full i j t u:=by
 intro log;induction log with
 |nil=>intro _ j u h;simp at h|cons x log ih=>
   obtain⟨j',u'⟩:=x;intro h j u hm hc;simp only[qx]at h;rcases uj.1 hm with e|hm
   .simp at e;obtain⟨rfl,rfl⟩:=e;exact h.1 hc
   .exact ih h.2 j u hm hc
variable {log:List (Nat×Tc)}
theorem OZ{t:Tc}:(∀x∈log,x∈Cq i t log)/\(t≠.no->(i,t)∈Cq i t log):=by cases t<;>simp[Cq]<;>intros<;>simp_all
variable {k:List It}{Q:Fr->AH->Prop}
theorem akL:∀(l:List Oper)(i0:Nat)(log:List (Nat×Tc))(fr:Fr)(H:AH),i0<=full.size->full.toList.drop i0=l->aM P aa (.dr full l i0 log::k) fr H Q->∃F Hs v ts,F i0=fr/\Hs i0=H/\TR P aa full F Hs v ts i0/\(∀m j u,i0<=m->m<full.size->(j,u)∈log->dJ (ts m) u->jL full m j (ts m) u)/\aM P aa k (F full.size) (Hs full.size) Q:=by
 intro l;induction l with
 |nil=>
 intro i0 log fr H hi hd h;rw[QZ]at h;have:full.size<=i0:=by simpa using hd
 obtain rfl:i0=full.size:=ω
 exact⟨λ_=>fr,λ_=>H,λ_=>.c .any,λ_=>.no,rfl,rfl,⟨λm h1 h2=>ω,λm j h1 h2 h3=>ω⟩,λm j u h1 h2=>ω,h⟩|cons o l ih=>
   intro i0 log fr H hi hd h;have aL:i0<full.size:=by
    rcases cU i0 full.size with h|h
    .exact h
    .rw[List.drop_eq_nil_of_le (by simpa using h)]at hd;simp at hd
   have ho:full[i0]?=some o:=by
    have:full.toList[i0]?=some o:=by
     have:=congrArg (λl=>l[0]?) hd;simpa using this
    simpa using this
   have EZ:full.toList.drop (i0+1)=l:=by
    have:=congrArg (λl=>l.drop 1) hd;simpa[uX,yv]using this
   have main:∀v0 H1 t0 KC,Gv P aa full o fr H v0 H1 t0->(∀x∈log,x∈KC)->(t0≠.no->(i0,t0)∈KC)->(∀j u,(j,u)∈log->dJ t0 u->jL full i0 j t0 u)->aM P aa (.dr full l (i0+1) KC::k) (iF o.dst v0 fr) H1 Q->∃F Hs v ts,F i0=fr/\Hs i0=H/\TR P aa full F Hs v ts i0/\(∀m j u,i0<=m->m<full.size->(j,u)∈log->dJ (ts m) u->jL full m j (ts m) u)/\aM P aa k (F full.size) (Hs full.size) Q:=by
    intro v0 H1 t0 KC hg Ko Od aR h2;obtain⟨F,Hs,v,ts,e1,e2,qn,aay,SO⟩:=ih (i0+1) KC _ _ aL EZ h2;refine⟨λx=>if x=i0 then fr else F x,λx=>if x=i0 then H else Hs x,λx=>if x=i0 then v0 else v x,λx=>if x=i0 then t0 else ts x,by simp,by simp,⟨λm h1 h3=>?_,λm j h1 h3 h4 hc=>?_⟩,λm j u h1 h3 hm hc=>?_,?_⟩
    .by_cases e:m=i0
     .subst e;refine⟨o,ho,?_,?_⟩
      .simp only[if_true];rw[if_neg ω,e2];exact hg
      .simp only[if_true];rw[if_neg ω,e1]
     .obtain⟨o',g1,g2,g3⟩:=qn.step m ω h3;refine⟨o',g1,?_,?_⟩
      .simp only[if_neg e];rw[if_neg ω];exact g2
      .simp only[if_neg e];rw[if_neg ω];exact g3
    .have hm:m≠i0:=ω
     simp only[if_neg hm]at hc|-;by_cases e:j=i0
     .subst e;simp only[if_true]at hc|-;refine aay m j t0 ω h4 (Od ?_) hc;rintro rfl;cases hh:ts m<;>rw[hh]at hc<;>simp[dJ]at hc
     .simp only[if_neg e]at hc|-;exact qn.tie m j ω h3 h4 hc
    .by_cases e:m=i0
     .subst e;simp only[if_true]at hc|-;exact aR j u hm hc
     .simp only[if_neg e]at hc|-;exact aay m j u ω h3 (Ko _ hm) hc
    .simp only[if_neg (show full.size≠i0 by omega)];exact SO
   rw[MW]at h;split at h
   .rename_i hg;split at h
    .rename_i v H' h1;exact main v H' _ _ (.go v H' (.inl hg) h1) OZ.1 OZ.2 (abH h.1) h.2
    .exact h.elim
   .rename_i j want hg;split at h
    .rename_i q nP;split at h
     .rename_i e;subst e;split at h
      .rename_i v H' h1;exact main v H' _ _ (.go v H' (.inr ⟨j,q,hg,nP⟩) h1) OZ.1 OZ.2 (abH h.1) h.2
      .exact h.elim
     .rename_i e;exact main _ _ _ log (.no j want _ hg nP (by simpa using e)) (λ_ h=>h) (λh=>(h rfl).elim) (λ_ _ _ h=>by simp[dJ]at h) h
    .rename_i nP;exact main _ _ _ log (.no j want _ hg nP (by simp)) (λ_ h=>h) (λh=>(h rfl).elim) (λ_ _ _ h=>by simp[dJ]at h) h
    .exact h.elim
theorem aeS{full:Array Oper}{S:Nat->Prop}(hS:∀j o,full[j]?=some o->S j->∀e∈o.after,Region.binds .any e=true->S e.on){m j:Nat}(h:jU full m j=true)(hm:S m):S j:=by
 have key:∀k l,(∀x∈l,S x)->∀x∈MR full k l,S x:=by
  intro k;induction k with
 |zero=>intro l hl x hx;exact hl x hx|succ k ih=>
    intro l hl x hx;simp only[MR]at hx;refine ih _ ?_ x hx;intro y hy;split at hy
    .rename_i hk;rcases xj.1 hy with hy|hy
     .have hSk:S k:=hl k (by simpa using hk);unfold ups at hy;split at hy
      .rename_i o ho;simp only[List.mem_map,List.mem_filter]at hy;obtain⟨e,⟨he,hb⟩,rfl⟩:=hy;exact hS k o ho hSk e (by simpa using he) hb
      .simp at hy
     .exact hl y hy
    .exact hl y hy
 unfold jU at h;exact key _ [m] (by simpa using hm) j (by simpa using h)
end Go.Am

/- Regions that draw their order: any order comes to what the text's order comes to. -/
namespace Go.Am
variable {P:Program}{aa:je}{N:Nat}
def zQ(full:Array Oper)(v:Nat->AV)(fr:Fr)(S:Nat->Prop)(fm:Fr):Prop:=∀s,(∀j,S j->jZ full j=some s->Am.get fm s=v j)/\((∀j,S j->jZ full j≠some s)->Am.get fm s=Am.get fr s)
variable {full:Array Oper}{fr fm:Fr}{S:Nat->Prop}{i:Nat}{o:Oper}
theorem zQ.put{v:Nat->AV}(h:zQ full v fr S fm)(hi:full[i]?=some o)(amZ:∀d,o.dst=some d->∀j,S j->jZ full j≠some d):zQ full v fr (λj=>S j\/j=i) (iF o.dst (v i) fm):=by
 have hd:jZ full i=o.dst:=by simp[jZ,hi]
 intro s;cases ho:o.dst with
 |none=>
   simp only[iF];refine⟨?_,λhs=>(h s).2 λj hj=>hs j (.inl hj)⟩;rintro j(hj|rfl)hs
   .exact(h s).1 j hj hs
   .rw[hd,ho]at hs;simp at hs|some d=>
   rw[ho]at hd;simp only[iF,Am.get];constructor
   .rintro j(hj|rfl)hs
    .have:d≠s:=by rintro rfl;exact amZ d ho j hj hs
     rw[if_neg this];exact(h s).1 j hj hs
    .rw[hd]at hs;simp at hs;rw[if_pos hs]
   .intro hs;have:d≠s:=by rintro rfl;exact hs i (.inr rfl) hd
    rw[if_neg this];exact(h s).2 λj hj=>hs j (.inl hj)
theorem zQ.get_eq{v:Nat->AV}{kH:Fr}{S':Nat->Prop}(h:zQ full v fr S fm)(h':zQ full v fr S' kH)(hS:∀j,S j↔S' j)(s:Nat):Am.get fm s=Am.get kH s:=by
 by_cases hx:∃j,S j/\jZ full j=some s
 .obtain⟨j,h1,h2⟩:=hx;rw[(h s).1 j h1 h2,(h' s).1 j ((hS j).1 h1) h2]
 .have h1:∀j,S j->jZ full j≠some s:=λj hj e=>hx ⟨j,hj,e⟩;rw[(h s).2 h1,(h' s).2 λj hj=>h1 j ((hS j).2 hj)]
theorem JE(h:vY full=true)(hi:full[i]?=some o):(∀e∈o.after,Region.binds .any e=true->e.on<i)/\∀j<full.size,∀d,jZ full j=some d->(i≠j->o.dst≠some d)/\(d∈looks full o->i≠j/\(j<i->G3 full i j=true)/\(i<j->G3 full j i=true)):=by
 have aL:i<full.size:=by
  rcases cU i full.size with h|h
  .exact h
  .rw[qB h]at hi;simp at hi
 unfold vY at h;have:=cD.1 h i (by simpa using aL);rw[hi]at this;simp only[aQ]at this;obtain⟨h3,h4⟩:=this;refine⟨λe he hb=>?_,λj hj d hd=>?_⟩
 .have:=afs.1 h3 e he;simpa[hb]using this
 .have:=cD.1 h4 j (by simpa using hj);rw[hd]at this;simp only[aQ,fR,beq_iff_eq,bne_iff_ne,gD]at this;refine⟨λcW=>?_,λhl=>?_⟩
  .rcases this.1 with h|h
   .exact(cW h).elim
   .simpa using h
  .rcases this.2 with h|⟨h,h'⟩
   .exfalso;simp at h;exact h hl
   .refine⟨h,λwx=>?_,λoF=>?_⟩
    .rw[if_pos wx]at h';exact h'
    .rw[if_neg ω]at h';exact h'
variable {j:Nat}
theorem ZM(h:G3 full i j=true):∃o,full[i]?=some o/\∃e∈o.after,e.on=j/\Region.binds .any e=true:=by
 unfold G3 at h;split at h
 .rename_i o ho;obtain⟨e,he,hp⟩:=Array.any_eq_true'.1 h;simp at hp;exact⟨o,ho,e,he,hp⟩
 .simp at h
theorem ajo(p q:Nat->Bool)(i:Nat)(hp:p i=true)(hq:q i=false)(h:∀j,j≠i->q j=p j):∀n,(i<n->(oR n).countP q+1=(oR n).countP p)/\(n<=i->(oR n).countP q=(oR n).countP p):=by
 intro n;induction n with
 |zero=>simp|succ n ih=>
   rw[List.range_succ,List.countP_append,List.countP_append];simp only[List.countP_cons,List.countP_nil,oU];by_cases hn:n=i
   .subst hn;rw[hp,hq,ih.2 (aC _)];simp
   .rw[h n hn];constructor
    .intro hi;have:=ih.1 ω;omega
    .intro hi;have:=ih.2 ω;omega
noncomputable def hp(ts:Nat->Tc)(Hs:Nat->AH)(S:Nat->Bool)(n:Nat):AH:=(oR (Hs n).length).map λp=>val ts Hs S p n
variable {Hs:Nat->AH}{n:Nat}
theorem tJ{ts:Nat->Tc}{S:Nat->Bool}:(hp ts Hs S n).length=(Hs n).length:=by simp[hp]
structure TF(full:Array Oper)(Hs:Nat->AH)(ts:Nat->Tc):Prop where
 mono:∀m,m<full.size->(Hs m).length<=(Hs (m+1)).length
 obj:∀m,m<full.size->∀p,hg (Hs (m+1)) p=gE (ts m) (Hs m) (Hs (m+1)) p (hg (Hs m) p)KL:∀m,m<full.size->ts m=.mk->(Hs (m+1)).length=(Hs m).length+1
 st:∀m,m<full.size->∀id a n,ts m=.st id a n->id<(Hs m).length/\(Hs (m+1)).length=(Hs m).length
 quiet:∀m,m<full.size->(ts m).quiet=true->Hs (m+1)=Hs m
 cl:∀m,m<full.size->∀A B,ts m=.cl A B->Hs m=A/\Hs (m+1)=B
variable {a b p:Nat}
section facts
variable {full:Array Oper}{Hs:Nat->AH}{ts:Nat->Tc}{S:Nat->Bool}
theorem TF.lens(h:TF full Hs ts)(N5:a<=b)(hb:b<=full.size):(Hs a).length<=(Hs b).length:=by induction b with
 | zero=>obtain rfl:a=0:=ω
         exact aC _|succ b ih=>
   rcases cU a (b+1)with h'|h'
   .exact GD (ih ω ω) (h.mono b ω)
   .obtain rfl:a=b+1:=ω
    exact aC _
theorem TF.azV(h:TF full Hs ts)(hp:(Hs full.size).length<=p):∀m,m<=full.size->val ts Hs S p m=.dead:=by
 intro m;induction m with
 |zero=>intro _;exact tG _ (GD (h.lens (fM _) (aC _)) hp)|succ m ih=>
   intro hm;have:=ih ω;have hl:=h.lens hm (aC _);simp only[val];split
   .rw[this];cases hh:ts m with
 |mk=>simp only[gE];split<;>first|rfl|exact tG _ ω
 |st id a n=>simp only[gE];split<;>rfl|iX=>exact tG _ ω|cl A B=>
 simp only[gE];split
 .rfl
 .obtain⟨e1,e2⟩:=h.cl m ω A B hh;subst e1;subst e2;exact tG _ ω|_=>rfl
   .exact this
theorem TF.qP(h:TF full Hs ts)(p:Nat):hg (hp ts Hs S full.size) p=val ts Hs S p full.size:=by
 rcases cU p (Hs full.size).length with h'|h'
 .unfold hg hp;simp[b9,h']
 .rw[tG _ (by rw[tJ];exact h'),h.azV h' _ (aC _)]
theorem TF.Ms(h:TF full Hs ts)(p:Nat):∀m,m<=full.size->val ts Hs (λj=>decide (j<i)) p m=hg (Hs (min i m)) p:=by
 intro m;induction m with
 |zero=>intro _;simp[val]|succ m ih=>
   intro hm;simp only[val,ih ω,decide_eq_true_eq];split
   .rename_i aL;rw[Nat.min_eq_right ω,Nat.min_eq_right ω,<-h.obj m ω]
   .rename_i nO;rw[yw ω,yw ω]
end facts
theorem amW{o:ae}(h:o.hd=ae.dead.hd):o=.dead:=by cases o<;>simp[ae.hd]at h<;>rfl
theorem TR.tf{F:Nat->Fr}{v:Nat->AV}{ts:Nat->Tc}(ht:jw P aa)(h:TR P aa full F Hs v ts 0):TF full Hs ts:=by
 refine⟨λm hm=>?_,λm hm p=>?_,λm hm e=>?_,λm hm id a n e=>?_,λm hm e=>?_,λm hm A B e=>?_⟩
 .obtain⟨o,_,h2,_⟩:=h.step m (fM _) hm;exact afD ht h2
 .obtain⟨o,_,h2,_⟩:=h.step m (fM _) hm;exact afF h2 p
 .obtain⟨o,_,h2,_⟩:=h.step m (fM _) hm;rw[e]at h2;obtain⟨ob,e2⟩:=XQ h2;rw[e2];simp
 .obtain⟨o,_,h2,_⟩:=h.step m (fM _) hm;rw[e]at h2;obtain⟨_,_,_,_,_,_,_,_,_,_,_,e2,dg,_⟩:=XS h2;exact⟨dU (ae.nC dg),by rw[e2];simp⟩
 .obtain⟨o,_,h2,_⟩:=h.step m (fM _) hm;exact XR h2 e
 .obtain⟨o,_,h2,_⟩:=h.step m (fM _) hm;rw[e]at h2;exact XP h2
variable {H0:AH}
theorem agB{t:Tc}(h:vQ t H0 p a n)(hm:t≠.mk):dJ t (.ld p a n)/\dJ (.ld p a n) t/\dJ t (.st p a n)/\dJ (.st p a n) t:=by cases t with|cl A B=>simp only[vQ]at h;exact⟨h,h,trivial,trivial⟩|_=>simp[vQ]at h hm<;>simp[dJ]<;>omega
structure Inv(full:Array Oper)(N:Nat)(w0:World)(M:Fx)(F0:Fr)(Hs:Nat->AH)(v:Nat->AV)(ts:Nat->Tc)(B S:Nat->Bool)(fm:Fr)(ρ:Ro)(a:Act)(w:World):Prop where
 mix:zQ full v F0 (λj=>B j=true) fm
 st:St N w0 M ρ fm (hp ts Hs S full.size) a w
 un:∀m,m<full.size->S m=false->∀p,(Hs m).length<=p->p<(Hs (m+1)).length->ρ p=none
 sk:∀m,m<full.size->S m=true->∀id b n,ts m=.st id b n->∀j,j<full.size->S j=false->¬((Hs j).length<=id/\id<(Hs (j+1)).length)
variable {R:Act->World->Prop}{H H':AH}{d m:Nat}{vc:Value}{E:Nat->Bool}{bk:Nat->Nat}{u:Tc}
section step
variable {w0:World}{M:Fx}{full:Array Oper}{F:Nat->Fr}{Hs:Nat->AH}{v v':Nat->AV}{ts:Nat->Tc}{B C S T:Nat->Bool}{fm:Fr}{ρ:Ro}{a:Act}{w:World}{i:Nat}
theorem RX(eu:TF full Hs ts)(hi:i<full.size)(sA:S i=false)(hT:∀m,T m=(S m||decide (m=i)))(rz:∀m,i<m->S m=true->¬dJ (ts m) (ts i))(B5:∀m,m<full.size->S m=true->∀id b n,ts m=.st id b n->∀j,j<full.size->S j=false->¬((Hs j).length<=id/\id<(Hs (j+1)).length)):∀p,val ts Hs T p full.size=gE (ts i) (Hs i) (Hs (i+1)) p (val ts Hs S p full.size):=by
 intro p;refine azW sA hT _ hi λm h1 h2 h3 c=>al4 (rz m h1 h3) (λe1 e2 e=>?_) (λid b n e1 e2 e=>?_) (λid b n e1 e2 e=>?_)
 .have:=eu.KL i hi e2;have:=eu.lens (a:=i+1) (b:=m) h1 ω;omega
 .refine B5 m h2 h3 id b n e1 i hi sA ?_;have:=eu.KL i hi e2;omega
 .have:=(eu.st i hi id b n e2).1;have:=eu.lens (a:=i) (b:=m) ω ω;omega
theorem akM{Q:Exit->Act->World->Prop}(ht:jw P aa)(qn:TR P aa full F Hs v ts 0)(hi:i<full.size)(ho:full[i]?=some o)(aR:xB N o.dst=true)(Tm:v' i=v i)(sA:S i=false)(hT:∀m,T m=(S m||decide (m=i)))(hC:∀m,C m=(B m||decide (m=i)))(vo:∀m,S m=true->m<full.size)(yQ:∀t∈looks full o,Am.get fm t=Am.get (F i) t)(vr:∀m,m<i->S m=false->¬dJ (ts i) (ts m))(rz:∀m,i<m->S m=true->¬dJ (ts m) (ts i))(yR:∀d,o.dst=some d->∀j,B j=true->jZ full j≠some d)(hI:Inv full N w0 M (F 0) Hs v' ts B S fm ρ a w)(hK:∀kH bh a' w',Inv full N w0 M (F 0) Hs v' ts C T kH bh a' w'->R a' w'):(Region.wanted o (yielded full a.tmps)=true->o.wp P a w R Q)/\(Region.wanted o (yielded full a.tmps)=false->R (a.put o.dst undef) w):=by
 have eu:=qn.tf ht;obtain⟨o',j3,nP,_⟩:=qn.step i (fM _) hi;obtain rfl:o=o':=by rw[ho]at j3;simpa using j3
 have kL:=abf yQ;have hTi:T i=true:=by rw[hT];simp
 have hTs:∀m,m≠i->T m=S m:=by intro m hm;rw[hT];simp[hm]
 have JZ:∀m,T m=false->S m=false/\m≠i:=by intro m hm;rw[hT]at hm;simpa using hm
 have np:zQ full v' (F 0) (λj=>C j=true) (iF o.dst (v i) fm):=by
  have:=hI.mix.put ho yR;rw[Tm]at this;intro s;obtain⟨g1,g2⟩:=this s;exact⟨λj hj=>g1 j (by have hj:C j=true:=hj;rw[hC]at hj;simpa using hj),λh=>g2 λj hj=>h j (by show C j=true;rw[hC];simpa using hj)⟩
 have C7:=RX eu hi sA hT rz hI.sk;have rB:(hp ts Hs T full.size).length=(hp ts Hs S full.size).length:=by rw[tJ,tJ]
 have Ol:(ts i).quiet=true->hp ts Hs T full.size=hp ts Hs S full.size:=by
  intro hq;refine Oa rB λp=>?_;rw[eu.qP,eu.qP,C7,CT hq]
 have aBm:(ts i).quiet=true->(Hs (i+1)).length=(Hs i).length:=λhq=>by rw[eu.quiet i hi hq]
 have B5:(∀id b n,ts i=.st id b n->∀j,j<full.size->S j=false->¬((Hs j).length<=id/\id<(Hs (j+1)).length))->∀m,m<full.size->T m=true->∀id b n,ts m=.st id b n->∀j,j<full.size->T j=false->¬((Hs j).length<=id/\id<(Hs (j+1)).length):=by
  intro dW m hm As id b n e j hj hTj;obtain⟨h1,_⟩:=JZ j hTj;by_cases SZ:m=i
  .subst SZ;exact dW id b n e j hj h1
  .rw[hTs m SZ]at As;exact hI.sk m hm As id b n e j hj h1
 have Oo:∀m,m<full.size->T m=false->∀p,(Hs m).length<=p->p<(Hs (m+1)).length->ρ p=none:=λm hm As=>hI.un m hm (JZ m As).1;have aaw:∀p,(∃L,ρ p=some L)->∀j,j<full.size->S j=false->¬((Hs j).length<=p/\p<(Hs (j+1)).length):=by
  rintro p⟨L,hL⟩j hj ES⟨h1,h2⟩;rw[hI.un j hj ES p h1 h2]at hL;simp at hL
 have aaD:∀id b aX r,(bI o.op).map (ev fm)=.c (.p id b aX)::r->∃L,ρ id=some L:=by
  intro id b aX r e;have:=HU hI.st (bI o.op);rw[e]at this;cases cu:(bI o.op).map a.eval with|nil=>rw[cu]at this;cases this|cons y ys=>rw[cu]at this;cases this with|cons h _=>obtain⟨L,_,h1,_⟩:=(show jR ρ id b aX _ from h);exact⟨L,h1⟩
 have aaE:∀id b n,id<(Hs i).length->(∃L,ρ id=some L)->(ts i=.ld id b n\/ts i=.st id b n)->(val ts Hs S id full.size).hd=(hg (Hs i) id).hd/\∀k,b<=k->k<b+n->(val ts Hs S id full.size).cells.getD k .any=(hg (Hs i) id).cells.getD k .any:=by
  intro id b n aL hL eI;have e:=eu.Ms (i:=i) id full.size (aC _);rw[yw ω]at e;rw[<-e];refine ae6 full.size λm hm cW Av=>?_;by_cases tH:ts m=.mk
  .rw[tH]at Av;simp only[vQ]at Av;have BY:=eu.KL m hm tH;by_cases jz:S m=true
   .have nO:¬m<i:=by simpa[jz]using cW
    have:=eu.lens (a:=i) (b:=m) ω ω;omega
   .exact aaw id hL m hm (by simpa using jz) ⟨ω,ω⟩
  .obtain⟨c1,c2,c3,c4⟩:=agB Av tH;by_cases jz:S m=true
   .have nO:¬m<i:=by simpa[jz]using cW
    have E7:i<m:=by
     rcases cU i m with h|h
     .exact h
     .obtain rfl:i=m:=ω
      rw[sA]at jz;simp at jz
    have:=rz m E7 jz;rcases eI with e|e<;>rw[e]at this
    .exact this c1
    .exact this c3
   .have yP:S m=false:=by simpa using jz
    have SY:m<i:=by simpa[yP]using cW
    have:=vr m SY yP;rcases eI with e|e<;>rw[e]at this
    .exact this c2
    .exact this c4
 have EW:(ts i=.rd\/∃A B,ts i=.cl A B)->(∀m,m<full.size->S m≠decide (m<i)->ts m=.no\/∃b c d,ts m=.ld b c d\/(ts m=.rd))/\∀p,val ts Hs S p full.size=hg (Hs i) p:=by
  intro eI;have h1:∀m,m<full.size->S m≠decide (m<i)->ts m=.no\/∃b c d,ts m=.ld b c d\/(ts m=.rd):=by
   intro m hm cW;have hc:¬dJ (ts i) (ts m)\/¬dJ (ts m) (ts i):=by
    by_cases jz:S m=true
    .have nO:¬m<i:=by simpa[jz]using cW
     have E7:i<m:=by
      rcases cU i m with h|h
      .exact h
      .obtain rfl:i=m:=ω
       rw[sA]at jz;simp at jz
     exact .inr (rz m E7 jz)
    .have yP:S m=false:=by simpa using jz
     exact .inl (vr m (by simpa[yP]using cW) yP)
   rcases eI with e|⟨A,B,e⟩<;>rw[e]at hc<;>cases hh:ts m<;>rw[hh]at hc<;>simp[dJ]at hc|-
  refine⟨h1,λp=>?_⟩;have e:=eu.Ms (i:=i) p full.size (aC _);rw[yw ω]at e;rw[<-e];refine Xl full.size λm hm cW=>?_;rcases h1 m hm cW with e|⟨_,_,_,e|e⟩<;>rw[e]<;>rfl
 generalize hvi:v i=vi at nP np;generalize JY:Hs (i+1)=Hn at nP;generalize eI:ts i=ti at nP;cases nP with
 |no j q r tF h2 h3=>
   have hy:=JV (by rw[TX yQ j q tF];exact h2) hI.st.fr;refine⟨λhw=>?_,λ_=>?_⟩
   .exfalso;simp[Region.wanted,tF,hy]at hw;exact h3 hw
   .refine hK _ ρ _ w ⟨np,?_,Oo,B5 λid b n e=>by rw[eI]at e;simp at e⟩;rw[Ol (by rw[eI];rfl)];exact hI.st.put aR rfl|go _ _ tF h=>
   refine⟨λ_=>?_,λhw=>?_⟩;rotate_left
   .exfalso;rcases tF with tF|⟨j,q,tF,h2⟩
    .simp[Region.wanted,tF]at hw
    .have hy:=JV (by rw[TX yQ j q tF];exact h2) hI.st.fr;simp[Region.wanted,tF,hy]at hw
   rw[<-kL]at h eI;cases sG:cA P aa o.op ((bI o.op).map (ev fm))with
 |no=>
 rw[sG]at eI;simp only[mW]at eI;refine acw ht hI.st aR (.inl sG) ((Yj h sG).2 _) λa' w' dW=>hK _ ρ a' w' ⟨np,?_,Oo,B5 λid b n e=>by rw[eI]at e;simp at e⟩;rw[Ol (by rw[eI];rfl)];exact dW|ld id b n=>
 rw[sG]at eI;simp only[mW]at eI;obtain⟨_,aL,⟨aX,gC⟩,h4⟩:=Yi h sG;obtain⟨s1,s2⟩:=aaE id b n aL (aaD _ _ _ _ gC) (.inl eI);refine acw ht hI.st aR (.inr ⟨_,_,_,sG⟩) (h4 _ (by rw[eu.qP];exact s1) (λk g1 g2=>by rw[eu.qP];exact s2 k g1 g2)) λa' w' dW=>hK _ ρ a' w' ⟨np,?_,Oo,B5 λid b n e=>by rw[eI]at e;simp at e⟩;rw[Ol (by rw[eI];rfl)];exact dW|rd=>
     rw[sG]at eI;simp only[mW]at eI;obtain⟨h1,h2⟩:=EW (.inl eI);obtain rfl:=Yk h sG;have Ti:St N w0 M ρ fm (Hs i) a w:=by
      refine hI.st.cast (λp=>by rw[eu.qP,h2]) λp hp=>?_;rcases cU p (Hs full.size).length with aL|nO
      .obtain⟨m,xP,mz,AE,sD⟩:∃m,i<=m/\m<full.size/\(Hs m).length<=p/\p<(Hs (m+1)).length:=by
        have:∀d,i+d<=full.size->p<(Hs (i+d)).length->∃m,i<=m/\m<full.size/\(Hs m).length<=p/\p<(Hs (m+1)).length:=by
         intro d;induction d with|zero=>intro _ h;rw[rj]at h;omega|succ d ih=>
           intro hd h;rcases cU p (Hs (i+d)).length with h'|h'
           .exact ih ω h'
           .exact⟨i+d,ω,ω,h',h⟩
        exact this (full.size-i) ω (by rw[show i+(full.size-i)=full.size by omega];exact aL)
       refine hI.un m mz ?_ p AE sD;cases jz:S m with
 |false=>rfl|true=>exfalso;rcases h1 m mz (by rw[jz];simp;omega)with e|⟨_,_,_,e|e⟩<;>(have:=eu.quiet m mz (by rw[e];rfl);rw[this]at sD;omega)
      .exact hI.st.hr.fresh p (by rw[tJ];exact nO)
     refine UK ht Ti aR h λbh a' w' dW=>hK _ bh a' w' ⟨np,?_,λm hm As p g1 g2=>?_,B5 λid b n e=>by rw[eI]at e;simp at e⟩
     .rw[Ol (by rw[eI];rfl)];refine dW.cast (λp=>by rw[eu.qP,h2]) λp hp=>dW.hr.fresh p ?_;rw[tJ]at hp;have:=eu.lens (a:=i) (b:=full.size) ω (aC _);omega
     .obtain⟨jz,cW⟩:=JZ m As;rcases cU m i with aL|nO
      .exfalso;rcases h1 m hm (by rw[jz];simp;exact aL)with e|⟨_,_,_,e|e⟩<;>(have:=eu.quiet m hm (by rw[e];rfl);rw[this]at g2;omega)
      .have:=eu.lens (a:=i) (b:=m) nO ω;exact dW.hr.fresh p ω|iX=>
     rw[sG]at eI;simp only[mW]at eI;obtain⟨h1,h2⟩:=EW (.inr ⟨_,_,eI⟩);subst JY;have Ti:St N w0 M ρ fm (Hs i) a w:=by
      refine hI.st.cast (λp=>by rw[eu.qP,h2]) λp hp=>?_;rcases cU p (Hs full.size).length with aL|nO
      .obtain⟨m,xP,mz,AE,sD⟩:∃m,i<=m/\m<full.size/\(Hs m).length<=p/\p<(Hs (m+1)).length:=by
        have:∀d,i+d<=full.size->p<(Hs (i+d)).length->∃m,i<=m/\m<full.size/\(Hs m).length<=p/\p<(Hs (m+1)).length:=by
         intro d;induction d with|zero=>intro _ h;rw[rj]at h;omega|succ d ih=>
           intro hd h;rcases cU p (Hs (i+d)).length with h'|h'
           .exact ih ω h'
           .exact⟨i+d,ω,ω,h',h⟩
        exact this (full.size-i) ω (by rw[show i+(full.size-i)=full.size by omega];exact aL)
       refine hI.un m mz ?_ p AE sD;cases jz:S m with
 |false=>rfl|true=>exfalso;rcases h1 m mz (by rw[jz];simp;omega)with e|⟨_,_,_,e|e⟩<;>(have:=eu.quiet m mz (by rw[e];rfl);rw[this]at sD;omega)
      .exact hI.st.hr.fresh p (by rw[tJ];exact nO)
     refine UK ht Ti aR h λbh a' w' dW=>hK _ bh a' w' ⟨np,?_,λm hm As p g1 g2=>?_,B5 λid b n e=>by rw[eI]at e;simp at e⟩
     .have e2:∀p,gE (.cl (Hs i) (Hs (i+1))) (Hs i) (Hs (i+1)) p (val ts Hs S p full.size)=hg (Hs (i+1)) p:=by
       intro p;simp only[gE,h2];by_cases e:hg (Hs (i+1)) p=hg (Hs i) p/\(hg (Hs i) p).live=true
       .rw[if_pos e,e.1]
       .rw[if_neg e]
      refine dW.cast (λp=>by rw[eu.qP,C7,eI,e2]) λp hp=>dW.hr.fresh p ?_;rw[tJ]at hp;have:=eu.lens (a:=i+1) (b:=full.size) ω (aC _);omega
     .obtain⟨jz,cW⟩:=JZ m As;rcases cU m i with aL|nO
      .exfalso;rcases h1 m hm (by rw[jz];simp;exact aL)with e|⟨_,_,_,e|e⟩<;>(have:=eu.quiet m hm (by rw[e];rfl);rw[this]at g2;omega)
      .have:=eu.lens (a:=i+1) (b:=m) ω ω;exact dW.hr.fresh p ω|cl A B=>exact(azn sG).elim|mk=>
     rw[sG]at eI;simp only[mW]at eI;subst JY;have BY:=eu.KL i hi eI;have Oi:=eu.lens (a:=i+1) (b:=full.size) ω (aC _);have sF:ρ (Hs i).length=none:=hI.un i hi sA _ (aC _) ω;have amX:hg (hp ts Hs S full.size) (Hs i).length=.dead:=by
      rw[eu.qP];have e:=eu.Ms (i:=i) (Hs i).length full.size (aC _);rw[yw ω,tG _ (aC _)]at e;apply amW;rw[<-e];refine(ae6 (a:=0) (b:=0) full.size λm hm cW Av=>?_).1;cases hh:ts m with
 | mk =>rw[hh]at Av;simp only[vQ]at Av;have:=eu.KL m hm hh;rcases Nat.lt_trichotomy m i with h|h|h
        .have:=eu.lens (a:=m+1) (b:=i) h ω;omega
        .subst h;rw[sA]at cW;simp at cW
        .have:=eu.lens (a:=i+1) (b:=m) h ω;omega|st id b n=>rw[hh]at Av;simp[vQ]at Av|cl A B=>
        by_cases jz:S m=true
        .have nO:¬m<i:=by simpa[jz]using cW
         have E7:i<m:=by
          rcases cU i m with h|h
          .exact h
          .obtain rfl:i=m:=ω
           rw[sA]at jz;simp at jz
         refine rz m E7 jz ?_;rw[hh,eI];simp[dJ]
        .have yP:S m=false:=by simpa using jz
         refine vr m (by simpa[yP]using cW) yP ?_;rw[hh,eI];simp[dJ]|iX=>
        by_cases jz:S m=true
        .have nO:¬m<i:=by simpa[jz]using cW
         have E7:i<m:=by
          rcases cU i m with h|h
          .exact h
          .obtain rfl:i=m:=ω
           rw[sA]at jz;simp at jz
         refine rz m E7 jz ?_;rw[hh,eI];simp[dJ]
        .have yP:S m=false:=by simpa using jz
         refine vr m (by simpa[yP]using cW) yP ?_;rw[hh,eI];simp[dJ]|_=>rw[hh]at Av;simp[vQ]at Av
     rw[GK (.inl sG)]at h;obtain⟨ob,e1,w',L,he,vc,h1,h2⟩:=apa sG h (HU hI.st (bI o.op)) ⟨hI.st.hr,by rw[tJ];omega,amX,sF⟩;simp only[Oper.wp,h1,Oper.upon];have dW:=(hI.st.G4 he).put (d:=o.dst) aR h2;refine hK _ (ic ρ (Hs i).length L) _ w' ⟨np,?_,λm hm As p g1 g2=>?_,B5 λid b n e=>by rw[eI]at e;simp at e⟩
     .have e2:hp ts Hs T full.size=(hp ts Hs S full.size).set (Hs i).length ob:=by
       refine Oa (by simp[tJ]) λp=>?_;rw[ql _ _ _ _ (by rw[tJ];omega),eu.qP,eu.qP,C7,eI];simp only[gE];split
       .subst_vars;rw[e1,qj,if_pos rfl]
       .rfl
      rw[e2];exact dW
     .obtain⟨jz,cW⟩:=JZ m As;have hp0:=hI.un m hm jz p g1 g2;rw[fG _ _ ?_]
      .exact hp0
      .rintro rfl;rcases cU m i with aL|nO
       .have:=eu.lens (a:=m+1) (b:=i) aL ω;omega
       .have:=eu.lens (a:=i+1) (b:=m) ω ω;omega|st id b n=>
     rw[sG]at eI;simp only[mW]at eI;subst JY;rw[GK (.inr ⟨_,_,_,sG⟩)]at h;obtain⟨t,x,y,ax,aX,l,jt,gC,py,hn,Tm,NY,dg,AI,hlen,cJ,jm,nQ⟩:=W8 sG h;have hL:=aaD _ _ _ _ gC;have aL:=dU (ae.nC dg);obtain⟨s1,s2⟩:=aaE id b n aL hL (.inr eI);obtain⟨r1,r2,r3,r4⟩:=ae.N8 s1;have Oi:=eu.lens (a:=i) (b:=full.size) ω (aC _);have am1:jy P o.op ((bI o.op).map (ev fm)) (hp ts Hs S full.size)=some (.c .gM,(hp ts Hs S full.size).set id ((hg (hp ts Hs S full.size) id).put (wr (hg (hp ts Hs S full.size) id).cells b l))):=by
      rw[gC,jt];simp only[jy,py];rw[if_pos];rw[eu.qP,r1,r2,r3];exact⟨dg,AI,hlen,cJ,jm,nQ⟩
     obtain⟨⟨w',he,h1,_⟩,_⟩:=ayB sG am1 (HU hI.st (bI o.op)) hI.st.hr;simp only[Oper.wp,h1,Oper.upon];have dW:=(hI.st.G4 he).put (d:=o.dst) (v:=.c .gM) aR rfl;refine hK _ ρ _ w' ⟨np,?_,Oo,B5 λpA b' n' e=>?_⟩
     .have e2:hp ts Hs T full.size=(hp ts Hs S full.size).set id ((hg (hp ts Hs S full.size) id).put (wr (hg (hp ts Hs S full.size) id).cells b l)):=by
       refine Oa (by simp[tJ]) λp=>?_;rw[ql _ _ _ _ (by rw[tJ];omega)];simp only[eu.qP,C7 p,eI,gE];split
       .rename_i e0;subst e0;refine(acS (by rw[r3];exact dg) (by rw[hlen,hn]) (by rw[r2];exact jm) λk g1 g2=>?_).symm;rw[NY,ql _ _ _ _ aL,if_pos rfl];have e:=U4 dg jm;rw[e,XA jm,if_pos ⟨g1,ω⟩]
       .rfl
      rw[e2,Tm];exact dW
     .rw[eI]at e;simp at e;obtain⟨rfl,rfl,rfl⟩:=e;exact aaw id hL
theorem afE{v:AV}(h:Gv P aa full o fr H v H' .mk):∃ob,H'=H++[ob]/\ob.owned=true:=by
 generalize ht:Tc.mk=t at h;cases h with
 |no=>simp at ht|go _ _ _ h=>
   have hk:=Xf ht.symm;rw[GK (.inl hk)]at h;unfold jy at h;split at h
   .split at h<;>simp at h;exact⟨_,h.2.symm,rfl⟩
   .split at h<;>simp at h;exact⟨_,h.2.symm,rfl⟩
   .split at h<;>try(simp at h;done)
    split at h<;>try(simp at h;done)
    split at h
    .split at h<;>simp at h;exact⟨_,h.2.symm,rfl⟩
    .split at h<;>simp at h;exact⟨_,h.2.symm,rfl⟩
   .split at h<;>try(simp at h;done)
    split at h<;>try(simp at h;done)
    split at h<;>simp at h;exact⟨_,h.2.symm,rfl⟩
   .rename_i jt kL;rw[kL,jt]at hk;simp[cA,w4]at hk
   .simp at h
theorem aAm{o:Oper}{K:Act->World->Prop}{Q:Exit->Act->World->Prop}(h:o.wp P a w K Q):o.wp P a w (λa' w'=>(∃vc,a'.tmps=(a.put o.dst vc).tmps)/\K a' w') Q:=by
 unfold Oper.wp at*;generalize(execOp a.eval o).run P w=r at*;cases r with
 |ok n w'=>cases n<;>simp only[Oper.upon]at h|-<;>first
    |exact⟨⟨_,rfl⟩,h⟩|exact⟨⟨undef,by cases o.dst<;>rfl⟩,h⟩
    |exact Calls.mono h λe w'' he=>by
       cases e
       .exact⟨⟨_,rfl⟩,he⟩
       .exact he
       .exact he|exact Rows.mono h λ_ _ he=>⟨⟨_,rfl⟩,he⟩
 |halt x w'=>cases x<;>simp only[Oper.upon]at h|-<;>exact h
theorem acR{o:Option Nat}(h:o≠some d):(a.put o vc).tmps.getD d undef=a.tmps.getD d undef:=by cases o with
 |none=>rfl|some e=>
 have cW:e≠d:=λh'=>h (by rw[h']);simp[Act.put,qA,Array.getElem?_setIfInBounds_ne cW]
theorem aaP(w:World):gR w (λ_=>False) w:=⟨rfl,rfl,rfl,aC _,λ_ _ _=>rfl,λb c t f hf hm=>by
   rcases hm with hm|hm
   .rw[qB hm]at hf;simp at hf
   .exact hm.elim⟩
theorem St.here{H:AH}{fr:Fr}(h:St N w0 M ρ fr H a w):St N w ⟨kZ ρ H,H.length,ρ⟩ ρ fr H a w:=by
 refine⟨h.fr,h.sz,h.df,h.hr,⟨rfl,rfl,rfl,aC _,λ_ _ _=>rfl,λb c t f hf hm=>?_⟩,λi L h1 h2 h3=>.inl ⟨i,L,h1,h2,h3,rfl⟩,λi _ L hL=>⟨L,hL,.inl rfl⟩⟩;rcases hm with hm|⟨i,L,h1,h2,h3,rfl⟩
 .rw[qB hm]at hf;simp at hf
 .have hO:=h.hr.obj i;cases ho:hg H i with
 |own cs=>
    rw[ho]at hO;obtain⟨L',c',t',e1,_,_,_,_,e2,_⟩:=hO;obtain rfl:L=L':=by simpa[h2]using e1
    rw[e2]at hf;simp at hf;exact hf.2.2.symm|vec sz cs=>
    rw[ho]at hO;obtain⟨L',e1,_,_,_,_,e2⟩:=hO;obtain rfl:L=L':=by simpa[h2]using e1
    rw[if_neg (by rw[h3];decide)]at e2;obtain⟨c',d',t',e2,_⟩:=e2;rw[e2]at hf;simp at hf;exact hf.2.2.symm|view cs=>rw[ho]at h1;simp[ae.owned]at h1|map mq es=>
 rw[ho]at hO;obtain⟨L',tC,e1,_,_,_,_,e2,_⟩:=hO;obtain rfl:L=L':=by simpa[h2]using e1
 rw[e2]at hf;simp at hf|iter m since seen last=>
 rw[ho]at hO;obtain⟨L',b',e1,_,_,_,_,_,e2⟩:=hO;obtain rfl:L=L':=by simpa[h2]using e1
 rw[e2]at hf;simp at hf|dead=>rw[ho]at h1;simp[ae.owned]at h1
theorem ae9(h:HR ρ w H)(h1:(hg H p).live=true)(h2:(hg H p).owned=false):∃L,ρ p=some L/\L.row=0:=by
 have hO:=h.obj p;cases ho:hg H p with
 |own cs=>rw[ho]at h2;simp[ae.owned]at h2|vec sz cs=>rw[ho]at h2;simp[ae.owned]at h2|view cs=>rw[ho]at hO;obtain⟨L,e1,e2,_⟩:=hO;exact⟨L,e1,e2⟩|map mq es=>rw[ho]at h2;simp[ae.owned]at h2|iter m since seen last=>rw[ho]at h2;simp[ae.owned]at h2|dead=>rw[ho]at h1;simp[ae.live]at h1
theorem acn{o:ae}{f:List Sc->List Sc}:(o.on f).live=o.live/\(o.on f).owned=o.owned:=by cases o<;>exact⟨rfl,rfl⟩
structure Ea(full:Array Oper)(Hs:Nat->AH)(v:Nat->AV)(w0:World)(H:AH)(ρ:Ro)(a:Act)(w:World)(m b:Nat):Prop where
 ex:∃d z zc t,jZ full m=some d/\v m=.c (.p (Hs m).length 0 0)/\Hs (m+1)=Hs m++[.own z]/\a.tmps.getD d undef=.pointer (some ⟨b,0,none⟩)/\w.heap[b]?=some (.cells (zc:List Value).toArray t (0,0))/\L2 (b6 ρ) z zc
 lh:w0.heap.size<=b
 ne:∀i L,(hg H i).live=true->ρ i=some L->L.nil=false->L.dK≠b
structure Inv2(full:Array Oper)(N:Nat)(w0:World)(M:Fx)(F0:Fr)(Hs:Nat->AH)(v:Nat->AV)(ts:Nat->Tc)(S E:Nat->Bool)(bk:Nat->Nat)(fm:Fr)(ρ:Ro)(a:Act)(w:World):Prop where
 inv:Inv full N w0 M F0 Hs (λm=>if E m=true then .c .any else v m) ts S (λm=>S m&&!E m) fm ρ a w
 sub:∀m,E m=true->m<full.size/\S m=true/\ts m=.mk
 ea:∀m,E m=true->Ea full Hs v w0 (hp ts Hs (λm=>S m&&!E m) full.size) ρ a w m (bk m)inj:∀m n,E m=true->E n=true->bk m=bk n->m=n
theorem anu{Q:Exit->Act->World->Prop}(ht:jw P aa)(qn:TR P aa full F Hs v ts 0)(hi:i<full.size)(ho:full[i]?=some o)(aR:xB N o.dst=true)(sA:S i=false)(hT:∀m,T m=(S m||decide (m=i)))(vo:∀m,S m=true->m<full.size)(yQ:∀t∈looks full o,Am.get fm t=Am.get (F i) t)(vr:∀m,m<i->(S m&&!E m)=false->¬dJ (ts i) (ts m))(rz:∀m,i<m->(S m&&!E m)=true->¬dJ (ts m) (ts i))(yR:∀d,o.dst=some d->∀j,S j=true->jZ full j≠some d)(S9:∀A B,ts i=.cl A B->(∃m,E m=true)->fj A B)(hI:Inv2 full N w0 M (F 0) Hs v ts S E bk fm ρ a w)(hK:∀kH bh a' w',Inv2 full N w0 M (F 0) Hs v ts T E bk kH bh a' w'->R a' w'):(Region.wanted o (yielded full a.tmps)=true->o.wp P a w R Q)/\(Region.wanted o (yielded full a.tmps)=false->R (a.put o.dst undef) w):=by
 have eu:=qn.tf ht;have Sp:E i=false:=by cases h:E i with
 |false=>rfl|true=>have:=(hI.sub i h).2.1;rw[sA]at this;simp at this
 have tE:(S i&&!E i)=false:=by rw[sA];rfl
 have CV:∀m,(T m&&!E m)=((S m&&!E m)||decide (m=i)):=by
  intro m;rw[hT];by_cases h:m=i
  .subst h;simp[Sp]
  .simp[h]
 have amR:∀m,(S m&&!E m)=true->m<full.size:=λm h=>vo m (by simp at h;exact h.1);have am3:Inv full N w ⟨kZ ρ (hp ts Hs (λm=>S m&&!E m) full.size),(hp ts Hs (λm=>S m&&!E m) full.size).length,ρ⟩ (F 0) Hs (λm=>if E m=true then .c .any else v m) ts S (λm=>S m&&!E m) fm ρ a w:=⟨hI.inv.mix,hI.inv.st.here,hI.inv.un,hI.inv.sk⟩;have C7:=RX (T:=λm=>T m&&!E m) eu hi tE CV rz hI.inv.sk;have step:=akM (T:=λm=>T m&&!E m) (C:=T) (Q:=Q) ht qn hi ho aR (by simp[Sp]) tE CV hT amR yQ vr rz yR am3 (R:=λa' w'=>∃kH bh,Inv full N w ⟨kZ ρ (hp ts Hs (λm=>S m&&!E m) full.size),(hp ts Hs (λm=>S m&&!E m) full.size).length,ρ⟩ (F 0) Hs (λm=>if E m=true then .c .any else v m) ts T (λm=>T m&&!E m) kH bh a' w') (λkH bh a' w' h=>⟨kH,bh,h⟩);have fin:∀a' w',(∃vc,a'.tmps=(a.put o.dst vc).tmps)->(∃kH bh,Inv full N w ⟨kZ ρ (hp ts Hs (λm=>S m&&!E m) full.size),(hp ts Hs (λm=>S m&&!E m) full.size).length,ρ⟩ (F 0) Hs (λm=>if E m=true then .c .any else v m) ts T (λm=>T m&&!E m) kH bh a' w')->R a' w':=by
  rintro a' w'⟨vc,Hy⟩⟨kH,bh,h⟩;have Tj:gG ρ bh:=by
   intro p L hL;refine h.st.st p ?_ L hL;rcases cU p (hp ts Hs (λm=>S m&&!E m) full.size).length with h'|h'
   .exact h'
   .rw[hI.inv.st.hr.fresh p h']at hL;simp at hL
  have aax:gR w (kZ ρ (hp ts Hs (λm=>S m&&!E m) full.size)) w':=h.st.kp;have dg:∀b,kZ bh (hp ts Hs (λm=>T m&&!E m) full.size) b->kZ ρ (hp ts Hs (λm=>S m&&!E m) full.size) b\/w.heap.size<=b:=by rintro b⟨p,L,h1,h2,h3,rfl⟩;exact h.st.ow p L h1 h2 h3
  have dW:=hI.inv.st.call h.st.hr Tj aax dg;refine hK kH bh a' w' ⟨⟨h.mix,⟨h.st.fr,h.st.sz,h.st.df,h.st.hr,dW.kp,dW.ow,dW.st⟩,h.un,h.sk⟩,λm hm=>?_,λm hm=>?_,hI.inj⟩
  .obtain⟨e1,e2,e3⟩:=hI.sub m hm;exact⟨e1,by rw[hT,e2];rfl,e3⟩
  .obtain⟨Kf,Of,tH⟩:=hI.sub m hm;obtain⟨⟨d,z,zc,t,e1,e2,e3,e4,e5,e6⟩,e7,e8⟩:=hI.ea m hm;have hb:bk m<w.heap.size:=by
    rcases cU (bk m) w.heap.size with h'|h'
    .exact h'
    .rw[qB h']at e5;simp at e5
   have hnO:¬kZ ρ (hp ts Hs (λm=>S m&&!E m) full.size) (bk m):=by rintro⟨p,L,h1,h2,h3,h4⟩;exact e8 p L (ae.nC h1) h2 h3 h4
   refine⟨⟨d,z,zc,t,e1,e2,e3,?_,?_,e6.mono λ_ _ h=>h.mono Tj⟩,e7,λp L hl hL hn=>?_⟩
   .rw[Hy,acR λh'=>yR d h' m Of e1];exact e4
   .rw[aax.lh _ hb hnO];exact e5
   .cases kf:(hg (hp ts Hs (λm=>T m&&!E m) full.size) p).owned with
 |true=>
      rcases dg L.dK ⟨p,L,kf,hL,hn,rfl⟩with h'|h'
      .intro e;rw[e]at h';exact hnO h'
      .omega|false=>
      have hv:(hg (hp ts Hs (λm=>S m&&!E m) full.size) p).live=true/\(hg (hp ts Hs (λm=>S m&&!E m) full.size) p).owned=false:=by
       rw[eu.qP,C7]at hl kf;rw[eu.qP];obtain⟨o',_,nP,_⟩:=qn.step i (fM _) hi;cases eI:ts i with
 |no=>rw[eI]at hl kf;exact⟨hl,kf⟩|ld _ _ _=>rw[eI]at hl kf;exact⟨hl,kf⟩|rd=>rw[eI]at hl kf;exact⟨hl,kf⟩|st id b n=>
         rw[eI]at hl kf;simp only[gE]at hl kf;split at hl
         .rename_i e;rw[if_pos e]at kf;rw[acn.1]at hl;rw[acn.2]at kf;exact⟨hl,kf⟩
         .rename_i e;rw[if_neg e]at kf;exact⟨hl,kf⟩|mk=>
         rw[eI]at hl kf nP;obtain⟨ob,e1,e2⟩:=afE nP;simp only[gE]at hl kf;split at hl
         .rename_i e;rw[if_pos e,e,e1,qj,if_pos rfl,e2]at kf;simp at kf
         .rename_i e;rw[if_neg e]at kf;exact⟨hl,kf⟩|iX=>
 rw[eI]at nP;exfalso;generalize hb:Tc.iX=tt at nP;generalize v i=vi at nP;generalize Hs (i+1)=Hn at nP;cases nP with
         |no=>simp at hb|go _ _ _ _=>cases hk:cA P aa o'.op ((bI o'.op).map (ev (F i)))<;>rw[hk]at hb<;>simp[mW]at hb
       |cl A B=>
         have hn:=S9 A B eI ⟨m,hm⟩;rw[eI]at hl kf;simp only[gE]at hl kf;by_cases e:hg B p=hg A p/\(hg A p).live=true
         .rw[if_pos e]at hl kf;exact⟨hl,kf⟩
         .rw[if_neg e]at hl kf;have:=hn p hl kf;exact(e ⟨this.symm,by rw[this];exact hl⟩).elim
      obtain⟨L1,r1,r2⟩:=ae9 hI.inv.st.hr hv.1 hv.2;obtain⟨QO,r3,r4⟩:=ae9 h.st.hr hl kf;obtain rfl:L=QO:=by rw[hL]at r3;simpa using r3
      obtain⟨L3,r5,r6⟩:=Tj p L1 r1;obtain rfl:L=L3:=by rw[hL]at r5;simpa using r5
      rcases r6 with rfl|r6
      .exact e8 p L hv.1 r1 hn
      .omega
 exact⟨λhw=>Oper.wp_mono (λa' w' h=>fin a' w' h.1 h.2) (aAm (step.1 hw)),λhw=>fin _ _ ⟨undef,rfl⟩ (step.2 hw)⟩
theorem abg(h:loose full m j=true):∃o d t,full[m]?=some o/\o.dst=some d/\o.op=.alloc t/\∀k o',full[k]?=some o'->d∈looks full o'->jU full k j=true:=by
 unfold loose at h;split at h
 .rename_i o ho;split at h
  .rename_i d t hd jt;refine⟨o,d,t,ho,hd,jt,λk o' hk hl=>?_⟩;have aL:k<full.size:=by
    rcases cU k full.size with h'|h'
    .exact h'
    .rw[qB h']at hk;simp at hk
   have:=cD.1 h k (by simpa using aL);rw[hk]at this;simp only at this;have e:WN full d o'=true:=by
    unfold WN;simp only[List.contains_iff_mem];exact hl
   rw[e]at this;simpa using this
  .simp at h
 .simp at h
theorem ans{Q:Exit->Act->World->Prop}(qn:TR P aa full F Hs v ts 0)(hi:i<full.size)(ho:full[i]?=some o)(aR:xB N o.dst=true)(sA:S i=false)(hT:∀m,T m=(S m||decide (m=i)))(sB:loose full i j=true)(tH:ts i=.mk)(yQ:∀t∈looks full o,Am.get fm t=Am.get (F i) t)(yR:∀d,o.dst=some d->∀j,S j=true->jZ full j≠some d)(hI:Inv2 full N w0 M (F 0) Hs v ts S E bk fm ρ a w)(hK:∀kH Ru a' w',Inv2 full N w0 M (F 0) Hs v ts T (λm=>E m||decide (m=i)) Ru kH ρ a' w'->R a' w'):(Region.wanted o (yielded full a.tmps)=true->o.wp P a w R Q)/\(Region.wanted o (yielded full a.tmps)=false->R (a.put o.dst undef) w):=by
 obtain⟨o',j3,nP,_⟩:=qn.step i (fM _) hi;obtain rfl:o=o':=by rw[ho]at j3;simpa using j3
 obtain⟨KP,d,t,aaC,hd,jt,_⟩:=abg sB;obtain rfl:o=KP:=by rw[ho]at aaC;simpa using aaC
 have kL:=abf yQ;have Sp:E i=false:=by cases h:E i with
 |false=>rfl|true=>have:=(hI.sub i h).2.1;rw[sA]at this;simp at this
 rw[tH]at nP;generalize hvi:v i=vi at nP;generalize JY:Hs (i+1)=Hn at nP;generalize eI:Tc.mk=ti at nP;cases nP with
 |no=>simp at eI|go _ _ tF h=>
   refine⟨λ_=>?_,λhw=>?_⟩;rotate_left
   .exfalso;rcases tF with tF|⟨j,q,tF,h2⟩
    .simp[Region.wanted,tF]at hw
    .have hy:=JV (by rw[TX yQ j q tF];exact h2) hI.inv.st.fr;simp[Region.wanted,tF,hy]at hw
   have hk:=Xf eI.symm;rw[GK (.inl hk),jt]at h;simp only[bI,iW,jy]at h;split at h<;>simp at h;rename_i z hz;obtain⟨rfl,rfl⟩:=h;obtain⟨zv,zc,h1,h2,h3⟩:=Bw (ρ:=ρ) hz w;have wz:(execOp a.eval o).run P w=.ok (.value (.pointer (some ⟨w.heap.size,0,none⟩))) (w.alloc (.cells zc.toArray t)):=by simp only[execOp,jt,Instr.alloc,c9,h1,c8,newVar,newRow,h2,run_newObj,fi];rfl
   simp only[Oper.wp,wz,Oper.upon];have hS:(λm=>T m&&!(E m||decide (m=i)))=λm=>S m&&!E m:=by
    funext m;rw[hT];by_cases h:m=i
    .subst h;simp[sA]
    .simp[h]
   have hka:gR w (λ_=>False) (w.alloc (.cells zc.toArray t)):=gR.alloc (aaP w) _ _;have dW:St N w0 M ρ fm (hp ts Hs (λm=>S m&&!E m) full.size) a (w.alloc (.cells zc.toArray t)):=⟨hI.inv.st.fr,hI.inv.st.sz,hI.inv.st.df,hI.inv.st.hr.fF hka,hI.inv.st.kp.trans hka,hI.inv.st.ow,hI.inv.st.st⟩;have anc:=dW.put (d:=o.dst) (v:=.c .any) (vc:=.pointer (some ⟨w.heap.size,0,none⟩)) aR trivial;refine hK (iF o.dst (.c .any) fm) (λm=>if m=i then w.heap.size else bk m) _ _ ⟨?_,λm hm=>?_,λm hm=>?_,λm n hm hn e=>?_⟩
   .rw[hS];refine⟨?_,anc,hI.inv.un,hI.inv.sk⟩;have C6:zQ full (λm=>if(E m||decide (m=i))=true then AV.c .any else v m) (F 0) (λj=>S j=true) fm:=by
     intro s;obtain⟨g1,g2⟩:=hI.inv.mix s;refine⟨λj hj hd=>?_,g2⟩;rw[g1 j hj hd];have:j≠i:=by rintro rfl;have hj:S j=true:=hj;rw[sA]at hj;simp at hj
     simp[this]
    have:=C6.put ho yR;simp only[decide_true,Bool.or_true,if_true]at this;intro s;obtain⟨g1,g2⟩:=this s;exact⟨λj hj=>g1 j (by have hj:T j=true:=hj;rw[hT]at hj;simpa using hj),λh=>g2 λj hj=>h j (by show T j=true;rw[hT];simpa using hj)⟩
   .by_cases e:m=i
    .subst e;exact⟨hi,by rw[hT];simp,tH⟩
    .simp only[e,decide_false,uU]at hm;obtain⟨e1,e2,e3⟩:=hI.sub m hm;exact⟨e1,by rw[hT,e2];rfl,e3⟩
   .rw[hS];by_cases e:m=i
    .subst e;rw[if_pos rfl];refine⟨⟨d,z,zc,t,by simp[jZ,ho,hd],hvi,JY,?_,BG _ _,h3⟩,hI.inv.st.kp.size,λp L hl hL hn=>?_⟩
     .rw[hd]at aR|-;simp[xB]at aR;simp[Act.put,qA,hI.inv.st.sz,aR]
     .have:=(hI.inv.st.hr.obj p).xx hL hn hl;omega
    .simp only[e,decide_false,uU]at hm;rw[if_neg e];obtain⟨e1,e2,e3⟩:=hI.sub m hm;obtain⟨⟨d',z',Qr,t',g1,g2,g3,g4,g5,g6⟩,g7,g8⟩:=hI.ea m hm;have hb:bk m<w.heap.size:=by
      rcases cU (bk m) w.heap.size with h'|h'
      .exact h'
      .rw[qB h']at g5;simp at g5
     refine⟨⟨d',z',Qr,t',g1,g2,g3,?_,?_,g6⟩,g7,g8⟩
     .rw[acR λh'=>yR d' h' m e2 g1];exact g4
     .rw[zZ _ _ _ hb];exact g5
   .have lt:∀m,E m=true->bk m<w.heap.size:=by
     intro m hm;obtain⟨⟨d',z',Qr,t',g1,g2,g3,g4,g5,g6⟩,g7,g8⟩:=hI.ea m hm;rcases cU (bk m) w.heap.size with h'|h'
     .exact h'
     .rw[qB h']at g5;simp at g5
    by_cases em:m=i<;>by_cases en:n=i
    .rw[em,en]
    .simp only[en,decide_false,uU]at hn;simp only[em,en,if_true,if_false]at e;have:=lt n hn;omega
    .simp only[em,decide_false,uU]at hm;simp only[em,en,if_true,if_false]at e;have:=lt m hm;omega
    .simp only[en,decide_false,uU]at hn;simp only[em,decide_false,uU]at hm;simp only[em,en,if_false]at e;exact hI.inj m n hm hn e
theorem HR.ao0{H:AH}(h:HR ρ w H){l:List Sc}{c:List Value}(hl:L2 (b6 ρ) l c){t id b:Nat}(iD:id<H.length)(hr:ρ id=none)(hb:w.heap[b]?=some (.cells c.toArray t (0,0)))(cW:∀i L,(hg H i).live=true->ρ i=some L->L.nil=false->L.dK≠b):HR (ic ρ id ⟨b,0,0,0,false,false⟩) w (H.set id (.own l))/\gG ρ (ic ρ id ⟨b,0,0,0,false,false⟩):=by
 have dW:gG ρ (ic ρ id ⟨b,0,0,0,false,false⟩):=by
  intro i Li hi;have:i≠id:=by rintro rfl;rw[hr]at hi;simp at hi
  exact⟨Li,by rw[fG _ _ this,hi],.inl rfl⟩
 refine⟨⟨λi=>?_,λi j Li Lj oF cR cB ir eU im oG=>?_,λi hi=>?_⟩,dW⟩
 .rw[ql _ _ _ _ iD];split
  .subst_vars;exact⟨_,c,t,iP _ _ _,rfl,rfl,rfl,rfl,hb,hl.mono λ_ _ h=>h.mono dW⟩
  .rename_i am4;exact(h.obj i).fF dW (fG _ _ am4) (λ_ _ _ _=>rfl) (aC _)
 .rw[ql _ _ _ _ iD]at cR eU;by_cases h1:i=id
  .subst h1;rw[iP]at cB;simp at cB;subst cB;have h2:j≠i:=λe=>oF e.symm;rw[if_neg h2]at eU;rw[fG _ _ h2]at im;exact λe=>cW j Lj eU im oG e.symm
  .rw[if_neg h1]at cR;rw[fG _ _ h1]at cB;by_cases h2:j=id
   .subst h2;rw[iP]at im;simp at im;subst im;exact cW i Li (ae.nC cR) cB ir
   .rw[if_neg h2]at eU;rw[fG _ _ h2]at im;exact h.sep i j Li Lj oF cR cB ir eU im oG
 .simp at hi;rw[fG _ _ ω];exact h.fresh i ω
theorem anv(eu:TF full Hs ts)(hu:∀m n,m<full.size->n<full.size->∀d,jZ full m=some d->jZ full n=some d->m=n)(hm:E m=true)(vr:∀j,j<m->S j=false->ts j≠.iX/\∀A B,ts j≠.cl A B)(rz:∀j,m<j->S j=true->¬dJ (ts j) .mk)(vo:∀m,S m=true->m<full.size)(hI:Inv2 full N w0 M (F 0) Hs v ts S E bk fm ρ a w):∃kH bh,Inv2 full N w0 M (F 0) Hs v ts S (λn=>E n&&decide (n≠m)) bk kH bh a w:=by
 obtain⟨Kf,Of,tH⟩:=hI.sub m hm;obtain⟨⟨d,z,zc,t,e1,e2,e3,e4,e5,e6⟩,e7,e8⟩:=hI.ea m hm;have hlen:(Hs (m+1)).length=(Hs m).length+1:=by rw[e3];simp
 have Oi:=eu.lens (a:=m+1) (b:=full.size) ω (aC _);have tE:(S m&&!E m)=false:=by simp[hm]
 have CV:∀n,(S n&&!(E n&&decide (n≠m)))=((S n&&!E n)||decide (n=m)):=by
  intro n;by_cases h:n=m
  .subst h;simp[hm,Of]
  .simp[h]
 have C7:=RX (T:=λn=>S n&&!(E n&&decide (n≠m))) eu Kf tE CV (λj h1 h2=>by rw[tH];exact rz j h1 (by simp at h2;exact h2.1)) hI.inv.sk;have iD:(Hs m).length<(hp ts Hs (λm=>S m&&!E m) full.size).length:=by rw[tJ];omega
 have sF:ρ (Hs m).length=none:=hI.inv.un m Kf tE _ (aC _) ω;have ZJ:hp ts Hs (λn=>S n&&!(E n&&decide (n≠m))) full.size=(hp ts Hs (λm=>S m&&!E m) full.size).set (Hs m).length (.own z):=by
  refine Oa (by simp[tJ]) λp=>?_;rw[ql _ _ _ _ iD,eu.qP,eu.qP,C7,tH];simp only[gE];split
  .subst_vars;rw[e3,qj,if_pos rfl]
  .rfl
 obtain⟨h1,h2⟩:=hI.inv.st.hr.ao0 e6 iD sF e5 e8;have cW:∀n,E n=true->n≠m->bk n≠bk m:=λn hn h e=>h (hI.inj n m hn hm e);refine⟨(d,v m)::fm,ic ρ (Hs m).length ⟨bk m,0,0,0,false,false⟩,⟨⟨λs=>?_,?_,λn hn ET p g1 g2=>?_,λn hn ET id b k e j hj ES=>?_⟩,λn hn=>?_,λn hn=>?_,λn k hn hk=>hI.inj n k (by simp at hn;exact hn.1) (by simp at hk;exact hk.1)⟩⟩
 .obtain⟨g1,g2⟩:=hI.inv.mix s;simp only[Am.get];refine⟨λj hj xM=>?_,λh=>?_⟩
  .by_cases xL:d=s
   .subst xL;obtain rfl:=hu j m (vo j hj) Kf d xM e1;rw[if_pos rfl];simp
   .rw[if_neg xL,g1 j hj xM];have BU:j≠m:=by rintro rfl;rw[e1]at xM;simp at xM;exact xL xM
    simp[BU]
  .have:d≠s:=by rintro rfl;exact h m Of e1
   rw[if_neg this];exact g2 h
 .rw[ZJ];refine⟨λs=>?_,hI.inv.st.sz,hI.inv.st.df,h1,hI.inv.st.kp,λp L hl hL hn=>?_,W5 hI.inv.st.st h2⟩
  .simp only[Am.get];split
   .rename_i xL;subst xL;rw[e2,e4];exact⟨_,_,iP _ _ _,rfl,aC _,λ_=>⟨rfl,by simp,rfl⟩⟩
   .exact(hI.inv.st.fr s).mono h2
  .rw[ql _ _ _ _ iD]at hl;by_cases e:p=(Hs m).length
   .subst e;rw[iP]at hL;simp at hL;subst hL;exact .inr e7
   .rw[if_neg e]at hl;rw[fG _ _ e]at hL;exact hI.inv.st.ow p L hl hL hn
 .have Fe:n≠m:=by rintro rfl;rw[CV]at ET;simp at ET
  have amK:(S n&&!E n)=false:=by rw[CV]at ET;simpa[Fe]using ET
  rw[fG _ _ ?_]
  .exact hI.inv.un n hn amK p g1 g2
  .rintro rfl;rcases cU n m with aL|nO
   .have:=eu.lens (a:=n+1) (b:=m) aL ω;omega
   .have:=eu.lens (a:=m+1) (b:=n) ω ω;omega
 .have BU:(S j&&!E j)=false:=by rw[CV]at ES;simp only[XG]at ES;exact ES.1
  rw[CV]at ET;by_cases Fe:n=m
  .subst Fe;rw[tH]at e;simp at e
  .exact hI.inv.sk n hn (by simpa[Fe]using ET) id b k e j hj BU
 .simp at hn;exact hI.sub n hn.1
 .simp only[aQ,decide_eq_true_eq]at hn;obtain⟨⟨d',z',Qr,t',g1,g2,g3,g4,g5,g6⟩,g7,g8⟩:=hI.ea n hn.1;rw[ZJ];refine⟨⟨d',z',Qr,t',g1,g2,g3,g4,g5,g6.mono λ_ _ h=>h.mono h2⟩,g7,λp L hl hL Kg=>?_⟩;rw[ql _ _ _ _ iD]at hl;by_cases e:p=(Hs m).length
  .subst e;rw[iP]at hL;simp at hL;subst hL;exact λe=>cW n hn.1 hn.2 e.symm
  .rw[if_neg e]at hl;rw[fG _ _ e]at hL;exact g8 p L hl hL Kg
theorem ant{E':Nat->Bool}(eu:TF full Hs ts)(hu:∀m n,m<full.size->n<full.size->∀d,jZ full m=some d->jZ full n=some d->m=n)(vo:∀m,S m=true->m<full.size)(Ko:∀m,E' m=true->E m=true)(vr:∀m,E m=true->E' m=false->∀j,j<m->S j=false->ts j≠.iX/\∀A B,ts j≠.cl A B)(rz:∀m,E m=true->∀j,m<j->S j=true->¬dJ (ts j) .mk)(hI:Inv2 full N w0 M (F 0) Hs v ts S E bk fm ρ a w):∃kH bh,Inv2 full N w0 M (F 0) Hs v ts S E' bk kH bh a w:=by
 have key:∀n,∃kH bh,Inv2 full N w0 M (F 0) Hs v ts S (λm=>E m&&(decide (n<=m)||E' m)) bk kH bh a w:=by
  intro n;induction n with
 |zero=>
    refine⟨fm,ρ,?_⟩;have:(λm=>E m&&(decide (0<=m)||E' m))=E:=by funext m;simp
    rw[this];exact hI|succ n ih=>
    obtain⟨kH,bh,h⟩:=ih;by_cases hc:E n=true/\E' n=false
    .obtain⟨Sa,zM,h2⟩:=anv eu hu (m:=n) (by simp[hc.1]) (vr n hc.1 hc.2) (rz n hc.1) vo h;refine⟨Sa,zM,?_⟩;have:(λm=>E m&&(decide (n+1<=m)||E' m))=λk=>(E k&&(decide (n<=k)||E' k))&&decide (k≠n):=by
      funext m;by_cases e:m=n
      .subst e;simp[hc.2]
      .have:(n+1<=m)↔(n<=m):=ω
       simp[e,this]
     rw[this];exact h2
    .refine⟨kH,bh,?_⟩;have:(λm=>E m&&(decide (n+1<=m)||E' m))=λk=>(E k&&(decide (n<=k)||E' k)):=by
      funext m;by_cases e:m=n
      .subst e;cases h1:E m
       .simp
       .cases h2:E' m
        .exact(hc ⟨h1,h2⟩).elim
        .simp
      .have:(n+1<=m)↔(n<=m):=ω
       simp[this]
     rw[this];exact h
 obtain⟨kH,bh,h⟩:=key full.size;refine⟨kH,bh,?_⟩;have:E'=λm=>E m&&(decide (full.size<=m)||E' m):=by
  funext m;cases h1:E' m
  .cases h2:E m
   .simp
   .have:=(hI.sub m h2).1;simp;omega
  .simp[Ko m h1]
 rw[this];exact h
def Bl(ts:Nat->Tc)(S:Nat->Bool)(m:Nat):Prop:=∃j,j<m/\S j=false/\(ts j=.iX\/∃A B,ts j=.cl A B)
noncomputable def eS(full:Array Oper)(ts:Nat->Tc)(S:Nat->Bool):Nat->Bool:=λm=>@decide (m<full.size/\S m=true/\ts m=.mk/\Bl ts S m) (Classical.propDecidable _)
theorem xE:eS full ts S m=true↔m<full.size/\S m=true/\ts m=.mk/\Bl ts S m:=by unfold eS;exact@decide_eq_true_iff _ (Classical.propDecidable _)
theorem ON{t:Tc}(h:jL full m j t u):jU full m j=true\/(t=.mk/\(∃A B,u=.cl A B/\fj A B)/\loose full m j=true):=by
 unfold jL at h;split at h
 .rename_i A B;by_cases hc:loose full m j=true/\fj A B
  .exact .inr ⟨rfl,⟨A,B,rfl,hc.2⟩,hc.1⟩
  .exact .inl (h hc)
 .exact .inl h
end step
theorem ZF(ht:jw P aa)(np:P.follows .mixedOrders=true)(full:Array Oper)(hq:vY full=true)(aR:FJ N full.toList=true):QK P aa N full:=by
 intro id w0 M ρ fr H a w k Q R hs wz hK;obtain⟨F,Hs,v,ts,hF0,JX,qn,_,SO⟩:=akL full.toList 0 [] fr H (fM _) rfl wz;have eu:=qn.tf ht;have yR:∀i o,full[i]?=some o->jZ full i=o.dst:=λi o h=>by simp[jZ,h]
 subst hF0;have Hy:∀i,i<=full.size->zQ full v (F 0) (λj=>j<i) (F i):=by
  intro i;induction i with
 |zero=>intro _ s;exact⟨λj hj=>ω,λ_=>rfl⟩|succ i ih=>
    intro hi;obtain⟨o,ho,_,e⟩:=qn.step i (fM _) ω;obtain⟨_,hj⟩:=JE hq ho;rw[e];have:=(ih ω).put ho λd hd j wx e=>(hj j ω d e).1 ω hd;intro s;obtain⟨g1,g2⟩:=this s;exact⟨λj yU=>g1 j ω,λh=>g2 λj yU=>h j ω⟩
 refine wp_region_any np ?_;have key:∀(fuel:Nat)(cH:Array Bool)(fm:Fr)(ρ:Ro)(a:Act)(w:World),cH.size=full.size->((oR full.size).countP λj=>!cH.getD j true)=fuel->(∀j o,full[j]?=some o->cH.getD j false=true->∀e∈o.after,Region.binds .any e=true->cH.getD e.on false=true)->∀bk,Inv2 full N w0 M (F 0) Hs v ts (λj=>cH.getD j false) (eS full ts λj=>cH.getD j false) bk fm ρ a w->wpAny P .any full R fuel cH a w:=by
  intro fuel;induction fuel with
 |zero=>
    intro cH fm ρ a w cJ SH J7 bk hI2;have EW:∀j,j<full.size->cH.getD j false=true:=by
     intro j hj;rw[List.countP_eq_zero]at SH;have:=SH j (by simpa using hj);simp[qA,cJ,hj]at this|-;exact this
    have hE:∀m,eS full ts (λj=>cH.getD j false) m=false:=by
     intro m;cases h:eS full ts (λj=>cH.getD j false) m with
 |false=>rfl|true=>
 obtain⟨h1,_,_,j,h2,h3,_⟩:=xE.1 h;have h3:cH.getD j false=false:=h3;rw[EW j ω]at h3;simp at h3
    have hI:Inv full N w0 M (F 0) Hs v ts (λj=>cH.getD j false) (λj=>cH.getD j false) fm ρ a w:=by
     have:=hI2.inv;simp only[hE,En,cX,dC,if_false]at this;exact this
    refine⟨?_,?_⟩
    .unfold Region.ready;rw[List.filter_eq_nil_iff];intro j hj;have:=EW j (by simpa using hj);have yU:j<full.size:=by simpa using hj
     simp[qA,cJ,yU]at this|-;simp[this]
    .have dW:St N w0 M ρ fm (Hs full.size) a w:=by
      refine hI.st.cast (λp=>?_) λp hp=>hI.st.hr.fresh p (by rw[tJ];exact hp);rw[eu.qP];have e:=eu.Ms (i:=full.size) p full.size (aC _);rw[Nat.min_self]at e;rw[<-e];exact Xl full.size λm hm cW=>(cW (by rw[EW m hm];simp[hm])).elim
     refine hK _ _ SO ρ a w ⟨λs=>?_,dW.sz,dW.df,dW.hr,dW.kp,dW.ow,dW.st⟩;have:=hI.mix.get_eq (Hy full.size (aC _)) (S':=λj=>j<full.size) (λj=>⟨λh=>by
      rcases cU j full.size with h'|h'
      .exact h'
      .simp[qA,qB (show cH.size<=j by omega)]at h,λh=>EW j h⟩) s;rw[<-this];exact dW.fr s|succ fuel ih=>
    intro cH fm ρ a w cJ SH J7 bk hI;have vo:∀j,cH.getD j false=true->j<full.size:=by
     intro j h;rcases cU j full.size with h'|h'
     .exact h'
     .simp[qA,qB (show cH.size<=j by omega)]at h
    refine⟨λeH=>?_,λi hi=>?_⟩
    .exfalso;have hex:∃j,j<full.size/\cH.getD j false=false:=by
      have:0<(oR full.size).countP λj=>!cH.getD j true:=ω
      obtain⟨j,hj,hp⟩:=List.countP_pos_iff.1 this;have yU:j<full.size:=by simpa using hj
      exact⟨j,yU,by simp[qA,cJ,yU]at hp|-;exact hp⟩
     obtain⟨j,⟨hj,eU⟩,Ke⟩:∃j,(j<full.size/\cH.getD j false=false)/\∀i,i<j->¬(i<full.size/\cH.getD i false=false):=by
      obtain⟨j0,hj0⟩:=hex;induction j0 using Nat.strongRecOn with|_ j0 ihj=>
        by_cases hx:∃i,i<j0/\(i<full.size/\cH.getD i false=false)
        .obtain⟨i,h1,h2⟩:=hx;exact ihj i h1 h2
        .exact⟨j0,hj0,λi hi hc=>hx ⟨i,hi,hc⟩⟩
     have Og:j∈Region.ready .any full cH:=by
      unfold Region.ready;rw[List.mem_filter];refine⟨by simpa using hj,?_⟩;obtain⟨o,ho⟩:∃o,full[j]?=some o:=⟨full[j],by simp⟩;obtain⟨hed,_⟩:=JE hq ho;have h1:cH.getD j true=false:=by simp[qA,cJ,hj]at eU|-;exact eU
      simp only[h1,En,gv,ho,n9,Option.getD_some];rw[afs];intro e he;by_cases hb:Region.binds .any e=true
      .have aL:=hed e he hb;have:=Ke e.on aL;have:cH.getD e.on false=true:=by cases hh:cH.getD e.on false with
 |true=>rfl|false=>exact(this ⟨ω,hh⟩).elim
       simp[this]
      .simp at hb;simp[hb]
     rw[eH]at Og;simp at Og
    .unfold Region.ready at hi;rw[List.mem_filter]at hi;obtain⟨hir,hip⟩:=hi;have wv:i<full.size:=by simpa using hir
     obtain⟨o,ho⟩:∃o,full[i]?=some o:=⟨full[i],by simp⟩;simp only[aQ,gD,ho,n9,Option.getD_some]at hip;obtain⟨SU,hie⟩:=hip;have E9:cH.getD i false=false:=by simp[qA,cJ,wv]at SU|-;exact SU
     have SM:∀e∈o.after,Region.binds .any e=true->cH.getD e.on false=true:=by
      intro e he hb;have:=afs.1 hie e he;simpa[hb]using this
     obtain⟨hed,hj⟩:=JE hq ho;have Oh:∀m b,b<m->m<full.size->cH.getD m false=true->cH.getD b false=false->dJ (ts m) (ts b)->ts m=.mk/\(∃A B,ts b=.cl A B/\fj A B)/\loose full m b=true:=by
      intro m b hbm hm Kc C5 hc;rcases ON (qn.tie m b (fM _) hbm hm hc)with h|h
      .have:=aeS (S:=λj=>cH.getD j false=true) J7 h Kc;rw[C5]at this;simp at this
      .exact h
     have Oe:∀b,b<i->cH.getD b false=false->jU full i b=true->False:=by
      intro b xJ C5 h;have:=aeS (S:=λj=>cH.getD j false=true\/j=i) (λj oj B3 ES e he hb=>?_) h (.inr rfl)
      .rcases this with h|h
       .rw[C5]at h;simp at h
       .omega
      .rcases ES with h|rfl
       .exact .inl (J7 j oj B3 h e he hb)
       .rw[ho]at B3;simp at B3;subst B3;exact .inl (SM e he hb)
     have hEb:∀m,eS full ts (λj=>cH.getD j false) m=true->∃b,b<m/\cH.getD b false=false/\(∃A B,ts b=.cl A B)/\loose full m b=true:=by
      intro m hm;obtain⟨h1,h2,h3,b,h4,h5,h6⟩:=xE.1 hm;have hc:dJ (ts m) (ts b):=by rw[h3];rcases h6 with h6|⟨A,B,h6⟩<;>rw[h6]<;>simp[dJ]
      obtain⟨_,⟨A,B,e,_⟩,h7⟩:=Oh m b h4 h1 h2 h5 hc;exact⟨b,h4,h5,⟨A,B,e⟩,h7⟩
     have yQ:∀t∈looks full o,Am.get fm t=Am.get (F i) t:=by
      intro t aL;by_cases hx:∃j,j<full.size/\jZ full j=some t
      .obtain⟨j,wy,xM⟩:=hx;obtain⟨_,h3⟩:=hj j wy t xM;obtain⟨cW,vr,rz⟩:=h3 aL;rcases cU j i with wx|wx
       .obtain⟨o',j3,e,he,mP,hb⟩:=ZM (vr wx);rw[ho]at j3;simp at j3;subst j3;have rA:cH.getD j false=true:=by rw[<-mP];exact SM e he hb
        have hEj:eS full ts (λj=>cH.getD j false) j=false:=by cases h:eS full ts (λj=>cH.getD j false) j with
 |false=>rfl|true=>
           exfalso;obtain⟨b,h4,h5,_,h7⟩:=hEb j h;obtain⟨oj,d,_,g1,g2,_,g3⟩:=abg h7;have:d=t:=by rw[yR j oj g1,g2]at xM;simpa using xM
           subst this;exact Oe b ω h5 (g3 i o ho aL)
        rw[(hI.inv.mix t).1 j rA xM,(Hy i ω t).1 j wx xM,hEj];simp
       .obtain⟨o',j3,e,he,mP,hb⟩:=ZM (rz ω);have uniq:∀m,m<full.size->jZ full m=some t->m=j:=by
         intro m Kf Kd;rcases Nat.decEq m j with h|h
         .obtain⟨om,Kk⟩:∃om,full[m]?=some om:=⟨full[m],by simp⟩;obtain⟨_,BU⟩:=JE hq Kk;exact((BU j wy t xM).1 h (by rw[<-yR m om Kk,Kd])).elim
         .exact h
        have BZ:¬cH.getD j false=true:=by
         intro hl;have:=J7 j o' j3 hl e he hb;rw[mP,E9]at this;simp at this
        rw[(hI.inv.mix t).2 (λm BY Kd=>BZ (by rw[<-uniq m (vo m BY) Kd];exact BY)),(Hy i ω t).2 (λm SZ Kd=>by have:=uniq m ω Kd;omega)]
      .have Ff:∀j,j<full.size->jZ full j≠some t:=λj hj e=>hx ⟨j,hj,e⟩;rw[(hI.inv.mix t).2 (λj eU=>Ff j (vo j eU)),(Hy i ω t).2 (λj wx=>Ff j ω)]
     have Hr:xB N o.dst=true:=by
      have:=cD.1 aR o (by rw[<-Array.getElem?_toList]at ho;exact Eo ho);exact this
     have xO:∀j,(cH.setIfInBounds i true).getD j false=(cH.getD j false||decide (j=i)):=by
      intro j;simp only[qA,Array.getElem?_setIfInBounds];by_cases wx:i=j
      .subst wx;simp[cJ,wv]
      .rw[if_neg wx,decide_eq_false (λe:j=i=>wx e.symm),uU]
     have aau:((oR full.size).countP λj=>!(cH.setIfInBounds i true).getD j true)=fuel:=by
      have hc:=(ajo (λj=>!cH.getD j true) (λj=>!(cH.setIfInBounds i true).getD j true) i (by simp only[SU,En]) (by simp[qA,cJ,wv]) (λj wx=>by
 simp only[qA,Array.getElem?_setIfInBounds];rw[if_neg (λe=>wx e.symm)]) full.size).1 wv;omega
     have aav:∀j o,full[j]?=some o->(cH.setIfInBounds i true).getD j false=true->∀e∈o.after,Region.binds .any e=true->(cH.setIfInBounds i true).getD e.on false=true:=by
      intro j oj B3 rA e he hb;rw[xO]at rA|-;simp only[fR,decide_eq_true_eq]at rA|-;rcases rA with rA|rfl
      .exact .inl (J7 j oj B3 rA e he hb)
      .rw[ho]at B3;simp at B3;subst B3;exact .inl (SM e he hb)
     have anf:∀m n,m<full.size->n<full.size->∀d,jZ full m=some d->jZ full n=some d->m=n:=by
      intro m n hm hn d h1 h2;rcases Nat.decEq m n with h|h
      .obtain⟨om,Kk⟩:∃om,full[m]?=some om:=⟨full[m],by simp⟩;obtain⟨_,BU⟩:=JE hq Kk;exact((BU n hn d h2).1 h (by rw[<-yR m om Kk,h1])).elim
      .exact h
     have xL:∀d,o.dst=some d->∀j,cH.getD j false=true->jZ full j≠some d:=λd hd j eU e=>(hj j (vo j eU) d e).1 (by rintro rfl;simp only[E9]at eU;simp at eU) hd;have aaF:(Region.wanted o (yielded full a.tmps)=true->o.wp P a w (wpAny P .any full R fuel (cH.setIfInBounds i true)) R)/\(Region.wanted o (yielded full a.tmps)=false->wpAny P .any full R fuel (cH.setIfInBounds i true) (a.put o.dst undef) w):=by
      by_cases SL:ts i=.mk/\Bl ts (λj=>cH.getD j false) i
      .obtain⟨tH,b,hb,C5,py⟩:=SL;have C5:cH.getD b false=false:=C5;have hc:dJ (ts i) (ts b):=by rw[tH];rcases py with h6|⟨A,B,h6⟩<;>rw[h6]<;>simp[dJ]
       have sB:loose full i b=true:=by
        rcases ON (qn.tie i b (fM _) hb wv hc)with h|h
        .exact(Oe b hb C5 h).elim
        .exact h.2.2
       refine ans (T:=λj=>(cH.setIfInBounds i true).getD j false) qn wv ho Hr E9 xO sB tH yQ xL hI λkH Ru a' w' nN=>?_;refine ih _ kH ρ a' w' (by simpa using cJ) aau aav Ru ?_;have:(eS full ts λj=>(cH.setIfInBounds i true).getD j false)=λm=>eS full ts (λj=>cH.getD j false) m||decide (m=i):=by
        funext m;rw[Bool.eq_iff_iff,fR,xE,xE,decide_eq_true_eq];have SB:Bl ts (λj=>(cH.setIfInBounds i true).getD j false) m↔Bl ts (λj=>cH.getD j false) m:=by
         constructor
         .rintro⟨j,h1,h2,h3⟩;have h2:(cH.setIfInBounds i true).getD j false=false:=h2;rw[xO]at h2;exact⟨j,h1,(XG.1 h2).1,h3⟩
         .rintro⟨j,h1,h2,h3⟩;have h2:cH.getD j false=false:=h2;refine⟨j,h1,?_,h3⟩;show(cH.setIfInBounds i true).getD j false=false;rw[xO,h2];have:j≠i:=by rintro rfl;rw[tH]at h3;simp at h3
          simp[this]
        constructor
        .rintro⟨h1,h2,h3,h4⟩;have h2:(cH.setIfInBounds i true).getD m false=true:=h2;rw[xO]at h2;simp only[fR,decide_eq_true_eq]at h2;rcases h2 with h2|h2
         .exact .inl ⟨h1,h2,h3,SB.1 h4⟩
         .exact .inr h2
        .rintro(⟨h1,h2,h3,h4⟩|rfl)
         .have h2:cH.getD m false=true:=h2;exact⟨h1,by show(cH.setIfInBounds i true).getD m false=true;rw[xO,h2];rfl,h3,SB.2 h4⟩
         .exact⟨wv,by show(cH.setIfInBounds m true).getD m false=true;rw[xO];simp,tH,SB.2 ⟨b,hb,C5,py⟩⟩
       rw[this];exact nN
      .have So:∀m,eS full ts (λj=>cH.getD j false) m=true->∀j,m<j->j<full.size->(cH.getD j false=true\/j=i)->dJ (ts j) .mk->False:=by
        intro m hm j hmj hj rA hc;obtain⟨b,h4,h5,⟨A,B,h6⟩,_⟩:=hEb m hm;have N7:dJ (ts j) (ts b):=by rw[h6];cases hh:ts j<;>rw[hh]at hc<;>simp[dJ]at hc|-
        have Fe:ts j≠.mk:=by intro h;rw[h]at hc;simp[dJ]at hc
        rcases rA with rA|rfl
        .exact Fe (Oh j b ω hj rA h5 N7).1
        .rcases ON (qn.tie j b (fM _) ω wv N7)with h|h
         .exact Oe b ω h5 h
         .exact Fe h.1
       have vr:∀m,m<i->(cH.getD m false&&!eS full ts (λj=>cH.getD j false) m)=false->¬dJ (ts i) (ts m):=by
        intro m hm hmf hc;cases Kc:cH.getD m false with
 |false=>
          rcases ON (qn.tie i m (fM _) hm wv hc)with h|⟨h1,⟨A,B,h2,_⟩,_⟩
          .exact Oe m hm Kc h
          .exact SL ⟨h1,m,hm,Kc,.inr ⟨A,B,h2⟩⟩|true=>
          rw[Kc]at hmf;have hE:eS full ts (λj=>cH.getD j false) m=true:=by simpa using hmf
          have:=(xE.1 hE).2.2.1;rw[this]at hc;exact So m hE i hm wv (.inr rfl) hc
       have rz:∀m,i<m->(cH.getD m false&&!eS full ts (λj=>cH.getD j false) m)=true->¬dJ (ts m) (ts i):=by
        intro m hm Fb hc;simp only[aQ,gD]at Fb;obtain⟨h1,⟨A,B,h2,_⟩,_⟩:=Oh m i hm (vo m Fb.1) Fb.1 E9 hc;have:eS full ts (λj=>cH.getD j false) m=true:=xE.2 ⟨vo m Fb.1,Fb.1,h1,i,hm,E9,.inr ⟨A,B,h2⟩⟩;rw[this]at Fb;simp at Fb
       have S9:∀A B,ts i=.cl A B->(∃m,eS full ts (λj=>cH.getD j false) m=true)->fj A B:=by
        rintro A B eI⟨m,hm⟩;obtain⟨h1,h2,h3,_⟩:=xE.1 hm;rcases Nat.lt_trichotomy m i with h|h|h
        .exact(So m hm i h wv (.inr rfl) (by rw[eI];trivial)).elim
        .subst h;rw[eI]at h3;simp at h3
        .obtain⟨_,⟨A',B',e,hn⟩,_⟩:=Oh m i h h1 h2 E9 (by rw[h3,eI];trivial);rw[eI]at e;simp at e;obtain⟨rfl,rfl⟩:=e;exact hn
       refine anu (T:=λj=>(cH.setIfInBounds i true).getD j false) ht qn wv ho Hr E9 xO vo yQ vr rz xL S9 hI λkH bh a' w' nN=>?_;have Ko:∀m,eS full ts (λj=>(cH.setIfInBounds i true).getD j false) m=true->eS full ts (λj=>cH.getD j false) m=true:=by
        intro m hm;obtain⟨h1,h2,h3,j,h4,h5,h6⟩:=xE.1 hm;have h2:(cH.setIfInBounds i true).getD m false=true:=h2;have h5:(cH.setIfInBounds i true).getD j false=false:=h5;rw[xO]at h2 h5;simp only[XG]at h5;simp only[fR,decide_eq_true_eq]at h2;rcases h2 with h2|rfl
        .exact xE.2 ⟨h1,h2,h3,j,h4,h5.1,h6⟩
        .exact(SL ⟨h3,j,h4,h5.1,h6⟩).elim
       have f1:∀m,(cH.setIfInBounds i true).getD m false=true->m<full.size:=by
        intro m hm;rw[xO]at hm;simp only[fR,decide_eq_true_eq]at hm;rcases hm with hm|rfl
        .exact vo m hm
        .exact wv
       have f2:∀m,eS full ts (λj=>cH.getD j false) m=true->eS full ts (λj=>(cH.setIfInBounds i true).getD j false) m=false->∀j,j<m->(cH.setIfInBounds i true).getD j false=false->ts j≠.iX/\∀A B,ts j≠.cl A B:=by
        intro m hm jG j BU rA;obtain⟨h1,h2,h3,_⟩:=xE.1 hm;have key:¬(ts j=.iX\/∃A B,ts j=.cl A B):=by
         intro h;have:eS full ts (λj=>(cH.setIfInBounds i true).getD j false) m=true:=by
          refine xE.2 ⟨h1,?_,h3,j,BU,rA,h⟩;have h2:cH.getD m false=true:=h2;show(cH.setIfInBounds i true).getD m false=true;rw[xO,h2];rfl
         rw[this]at jG;simp at jG
        exact⟨λh=>key (.inl h),λA B h=>key (.inr ⟨A,B,h⟩)⟩
       have f3:∀m,eS full ts (λj=>cH.getD j false) m=true->∀j,m<j->(cH.setIfInBounds i true).getD j false=true->¬dJ (ts j) .mk:=by
        intro m hm j hmj rA hc;have wy:=f1 j rA;rw[xO]at rA;simp only[fR,decide_eq_true_eq]at rA;exact So m hm j hmj wy rA hc
       obtain⟨Sa,zM,h2⟩:=ant (E':=eS full ts λj=>(cH.setIfInBounds i true).getD j false) eu anf f1 Ko f2 f3 nN;exact ih _ Sa zM a' w' (by simpa using cJ) aau aav bk h2
     unfold wpOp;rw[ho];simp only;cases hw:Region.wanted o (yielded full a.tmps)with
 |true=>rw[if_pos rfl];exact .inl (aaF.1 hw)|false=>rw[if_neg (by simp)];exact aaF.2 hw
 have anb:St N w0 M ρ (F 0) H a {w with drawn:=w.drawn+1}:=⟨hs.fr,hs.sz,hs.df,hs.hr.drew,hs.kp.drew,hs.ow,hs.st⟩;have sF:∀j,(xd full.size false).getD j false=false:=by
  intro j;simp only[qA,aft];split<;>rfl
 have NX:∀m,eS full ts (λj=>(xd full.size false).getD j false) m=false:=by
  intro m;cases h:eS full ts (λj=>(xd full.size false).getD j false) m with|false=>rfl|true=>obtain⟨_,h1,_⟩:=xE.1 h;have h1:(xd full.size false).getD m false=true:=h1;rw[sF]at h1;simp at h1
 have hI0:Inv full N w0 M (F 0) Hs v ts (λj=>(xd full.size false).getD j false) (λj=>(xd full.size false).getD j false) (F 0) ρ a {w with drawn:=w.drawn+1}->Inv2 full N w0 M (F 0) Hs v ts (λj=>(xd full.size false).getD j false) (eS full ts λj=>(xd full.size false).getD j false) (λ_=>0) (F 0) ρ a {w with drawn:=w.drawn+1}:=by
  intro h;refine⟨?_,λm hm=>?_,λm hm=>?_,λm n hm=>?_⟩
  .simp only[NX,En,cX,dC,if_false];exact h
  .rw[NX]at hm;simp at hm
  .rw[NX]at hm;simp at hm
  .rw[NX]at hm;simp at hm
 refine key full.size (xd full.size false) (F 0) ρ a _ (by simp) ?_ ?_ (λ_=>0) (hI0 ⟨?_,?_,?_,?_⟩)
 .rw[List.countP_eq_length.2]
  .simp
  .intro j hj;have yU:j<full.size:=by simpa using hj
   simp[qA,yU]
 .intro j o ho hl;rw[sF]at hl;simp at hl
 .intro s;refine⟨λj hj=>?_,λ_=>rfl⟩;have hj:(xd full.size false).getD j false=true:=hj;rw[sF]at hj;simp at hj
 .refine anb.cast (λp=>?_) λp hp=>?_
  .rw[eu.qP,<-JX];have e:=eu.Ms (i:=0) p full.size (aC _);rw[Nat.zero_min]at e;rw[<-e];exact Xl full.size λm hm cW=>(cW (by rw[sF];simp)).elim
  .rw[tJ]at hp;have:=eu.lens (a:=0) (b:=full.size) (fM _) (aC _);exact hs.hr.fresh p (by rw[<-JX];omega)
 .intro m hm _ p h1 _;have:=eu.lens (a:=0) (b:=m) (fM _) ω;exact hs.hr.fresh p (by rw[<-JX];omega)
 .intro m hm hS;rw[sF]at hS;simp at hS
end Go.Am
set_option linter.all false
/- States that are covered by others; contracts, ready to use. -/
set_option maxRecDepth 100000
set_option maxHeartbeats 8000000
namespace Go.Am
variable {P:Program}{aa:je}
def Sc.aj(n:Nat):Sc->Bool|.p id _ _=>decide (id<n)|.sl id _ _ _=>decide (id<n)|.mp id=>decide (id<n)|.f _ cs=>cs.all λc=>decide (c.1<n)|_=>true
def AV.aj(n:Nat):AV->Bool|.c s=>s.aj n|.g l=>l.all (Sc.aj n)|.t l=>l.all λx=>match x with|.c s=>s.aj n|.g l=>l.all (Sc.aj n)|.t _=>true
def cut(ρ:Ro)(n:Nat):Ro:=λi=>if i<n then ρ i else none
theorem jR.cut{ρ:Ro}{id off aX n:Nat}{v:Value}(h:jR ρ id off aX v)(hb:id<n):jR (cut ρ n) id off aX v:=by obtain⟨L,a,h1,h2⟩:=h;exact⟨L,a,by simp[Am.cut,hb,h1],h2⟩
variable {ρ:Ro}{s:Sc}{n:Nat}
theorem b6.cut{v:Value}(h:b6 ρ s v)(hb:s.aj n=true):b6 (Am.cut ρ n) s v:=by
 cases s<;>try exact h
 .exact jR.cut h (by simpa[Sc.aj]using hb)
 .rename_i id off aX len;obtain⟨L,b,c,h1,h2⟩:=h;refine⟨L,b,c,?_,h2⟩;have:id<n:=by simpa[Sc.aj]using hb
  simp[Am.cut,this,h1]
 .obtain⟨cv,h1,h2⟩:=h;refine⟨cv,h1,?_⟩;simp only[Sc.aj]at hb;clear h1;induction h2 with
 |nil=>exact .nil|cons h _ ih=>simp only[bG,aQ,decide_eq_true_eq]at hb;exact .cons (jR.cut h hb.1) (ih hb.2)
 .rename_i id;obtain⟨L,b,h1,h2⟩:=h;have:id<n:=by simpa[Sc.aj]using hb
  exact⟨L,b,by simp[Am.cut,this,h1],h2⟩
variable {l:List Sc}
theorem L2.cut{c:List Value}(h:L2 (b6 ρ) l c)(hb:l.all (Sc.aj n)=true):L2 (b6 (Am.cut ρ n)) l c:=by induction h with|nil=>exact .nil|cons h _ ih=>simp only[bG,aQ]at hb;exact .cons (h.cut hb.1) (ih hb.2)
theorem bg.cut{x:AV}{v:Value}(h:bg ρ x v)(hb:x.aj n=true):bg (Am.cut ρ n) x v:=by cases x with
 |c s=>exact b6.cut h hb|g l=>obtain⟨cs,h1,h2⟩:=h;exact⟨cs,h1,h2.cut hb⟩|t l=>
 obtain⟨vs,h1,h2⟩:=h;refine⟨vs,h1,?_⟩;simp only[AV.aj]at hb;clear h1;induction h2 with
 |nil=>exact .nil|@cons a b l m h _ ih=>
 simp only[bG,aQ]at hb;refine .cons ?_ (ih hb.2);cases a with|c s=>exact b6.cut h hb.1|g l=>obtain⟨cs,h1,h2⟩:=h;exact⟨cs,h1,h2.cut hb.1⟩|t l=>exact h
theorem V1.cut{x:AV}{v:Value}(h:V1 ρ x v)(hb:x.cT.all (Sc.aj n)=true):V1 (Am.cut ρ n) x v:=by cases x with
 |c s=>simp only[AV.cT,bG,dO,cX]at hb;exact b6.cut h hb|g l=>obtain⟨cs,h1,h2⟩:=h;exact⟨cs,h1,h2.cut hb⟩|t l=>exact h.elim
variable {w:World}{i:Nat}
theorem jJ.cut{o:ae}(h:jJ ρ w i o)(hi:i<n)(hb:o.cT.all (Sc.aj n)=true):jJ (Am.cut ρ n) w i o:=by
 have hc:Am.cut ρ n i=ρ i:=by simp[Am.cut,hi]
 cases o with
 |own cs=>obtain⟨L,c,t,h1,h2,h3,h4,h5,h6,h7⟩:=h;exact⟨L,c,t,by rw[hc,h1],h2,h3,h4,h5,h6,h7.cut hb⟩|vec sz cs=>
   obtain⟨L,h1,h2,h3,h4,h5,h6⟩:=h;refine⟨L,by rw[hc,h1],h2,h3,h4,h5,?_⟩;split
   .rename_i hn;rw[if_pos hn]at h6;exact h6
   .rename_i hn;rw[if_neg hn]at h6;obtain⟨c,d,t,h7,h8,h9⟩:=h6;exact⟨c,d,t,h7,h8,h9.cut hb⟩|view cs=>
 obtain⟨L,h1,h2,h3,h4,h5,h6⟩:=h;refine⟨L,by rw[hc,h1],h2,h3,h4,h5,λj s wy=>?_⟩;obtain⟨v,h7,h8⟩:=h6 j s wy;exact⟨v,h7,h8.cut (cD.1 hb s (Eo wy))⟩|map mq es=>
   obtain⟨L,tC,h1,h2,h3,h4,h5,h6,h7⟩:=h;refine⟨L,tC,by rw[hc,h1],h2,h3,h4,h5,h6,?_⟩;simp only[ae.cT]at hb;clear h6;induction h7 with
   |nil=>exact .nil|@cons a e es tC he ht ih=>
     simp only[qC,fH,aQ]at hb;exact .cons ⟨he.1,he.2.1.cut hb.1.1,he.2.2.cut hb.1.2⟩ (ih hb.2)
 |iter m since seen last=>obtain⟨L,b,h1,h2,h3,h4,h5,h6,h7⟩:=h;simp only[ae.cT,bG,dO,cX]at hb;exact⟨L,b,by rw[hc,h1],h2,h3,h4,h5,b6.cut h6 hb,h7⟩|dead=>trivial
variable {fr:Fr}
theorem get_mem{s:Nat}:Am.get fr s=.c .any\/(s,Am.get fr s)∈fr:=by induction fr with
 |nil=>exact .inl rfl|cons p fr ih=>
   obtain⟨d,v⟩:=p;simp only[Am.get];split
   .subst_vars;exact .inr (by simp)
   .rcases ih with h|h
    .exact .inl h
    .exact .inr (by simp[h])
def pQ:AH->AH->Prop|[],_=>True|o'::r',o::r=>(o'=.dead\/o'=o)/\pQ r' r|_::_,[]=>False
variable {H' H:AH}
theorem ayF(h:pQ H' H):H'.length<=H.length/\∀i,hg H' i=.dead\/hg H' i=hg H i:=by induction H' generalizing H with|nil=>exact⟨by simp,λi=>.inl (by simp[hg])⟩|cons o' r' ih=>cases H with|nil=>exact h.elim|cons o r=>
 obtain⟨h1,h2⟩:=h;obtain⟨h3,h4⟩:=ih h2;refine⟨by simp;omega,λi=>?_⟩;cases i with|zero=>simpa[hg]using h1|succ i=>simpa[hg]using h4 i
variable {dP:Fr}
theorem Wk.wk(hn:n<=H'.length)(hf:∀p∈dP,Am.get fr p.1=p.2)(hb:(dP.all λp=>p.2.aj H'.length)=true)(hH:pQ H' H)(ho:(H'.all λo=>o.cT.all (Sc.aj H'.length))=true):Wk n fr H (dP,H'):=by
 intro ρ w tm h1 h2;obtain⟨hlen,SR⟩:=ayF hH;have dg:∀i,(hg H' i).owned=true->hg H' i=hg H i:=by
  intro i hi;rcases SR i with e|e
  .rw[e]at hi;simp[ae.owned]at hi
  .exact e
 have AD:∀i,(hg H' i).live=true->hg H' i=hg H i:=by
  intro i hi;rcases SR i with e|e
  .rw[e]at hi;simp[ae.live]at hi
  .exact e
 refine⟨Am.cut ρ H'.length,λs=>?_,⟨λi=>?_,λi j Li Lj oF cR cB ir eU im oG=>?_,λi hi=>?_⟩,λi L hi hL S3=>?_,λi hi=>by simp only[Am.cut];rw[if_pos (CG hi hn)]⟩
 .rcases get_mem (fr:=dP) (s:=s)with h|h
  .show bg _ (Am.get dP s) _;rw[h];trivial
  .show bg _ (Am.get dP s) _;have e:=hf _ h;have J3:=cD.1 hb _ h;have:=h1 s;simp only at e;rw[e]at this;exact this.cut J3
 .rcases cU i H'.length with hi|hi
  .show jJ _ _ _ (hg H' i);rcases SR i with e|e
   .rw[e];trivial
   .have hO:=h2.obj i;rw[<-e]at hO;refine hO.cut hi ?_;have:hg H' i∈H':=by unfold hg;rw[b9,cM hi];simp
    exact cD.1 ho _ this
  .show jJ _ _ _ (hg H' i);rw[tG _ hi];trivial
 .have hi:=dU (ae.nC cR);have hj:=dU eU;simp only at hi hj cR eU;rw[dg i cR]at cR;rw[AD j eU]at eU;exact h2.sep i j Li Lj oF cR (by simpa[Am.cut,hi]using cB) ir eU (by simpa[Am.cut,hj]using im) oG
 .simp only[Am.cut];rw[if_neg (by simp at hi;omega)]
 .have aL:=dU (ae.nC hi);simp only at hi aL;exact⟨i,by rw[<-dg i hi];exact hi,by simpa[Am.cut,aL]using hL⟩
theorem ayG(h:H.take H'.length=H'):pQ H' H:=by induction H' generalizing H with|nil=>trivial|cons o r ih=>cases H with|nil=>simp at h|cons x y=>simp only[cZ,GB,cK]at h;exact⟨.inr h.1.symm,ih h.2⟩
theorem Wk.drop(hf:∀p∈dP,Am.get fr p.1=p.2)(hb:(dP.all λp=>p.2.aj H'.length)=true)(hH:H.take H'.length=H')(ho:(H'.all λo=>o.cT.all (Sc.aj H'.length))=true):Wk 0 fr H (dP,H'):=Wk.wk (fM _) hf hb (ayG hH) ho
theorem Wk.trans{S T:Fr×AH}(h:Wk n fr H S)(h':Wk n S.1 S.2 T):Wk n fr H T:=by
 intro ρ w tm h1 h2;obtain⟨Qs,a1,a2,a3,a4⟩:=h ρ w tm h1 h2;obtain⟨zM,b1,b2,b3,b4⟩:=h' Qs w tm a1 a2;refine⟨zM,b1,b2,λi L hi hL hn=>?_,λi hi=>by rw[b4 i hi,a4 i hi]⟩;obtain⟨j,hj,yO⟩:=b3 i L hi hL hn;exact a3 j L hj yO hn
theorem Wk.nil(d sz:Nat)(cJ:0<sz)(hd:Am.get fr d=.c .aA)(hn:n<=H.length):Wk n fr H ((d,.c (.sl H.length 0 0 0))::fr,H++[.vec sz []]):=by
 intro ρ w tm h1 h2;have dW:gG ρ (ic ρ H.length ⟨0,0,0,0,true,true⟩):=by
  intro i Li hi;have:i≠H.length:=by rintro rfl;rw[h2.fresh _ (aC _)]at hi;simp at hi
  exact⟨Li,by rw[fG _ _ this,hi],.inl rfl⟩
 refine⟨ic ρ H.length ⟨0,0,0,0,true,true⟩,λs=>?_,⟨λi=>?_,λi j Li Lj oF cR cB ir eU im oG=>?_,λi hi=>?_⟩,λi L hi hL S3=>?_,λi hi=>fG _ _ ω⟩
 .simp only[Am.get];split
  .rename_i xL;rw[<-xL];have:=h1 d;rw[hd]at this;have e:tm d=.slice none 0 0:=this;rw[e];refine⟨_,none,0,iP _ _ _,rfl,by simp,ω,ω,aC _,λ_=>?_⟩;rw[if_pos rfl];simp
  .exact(h1 s).mono dW
 .rw[qj];split
  .subst_vars;refine⟨_,iP _ _ _,rfl,rfl,rfl,cJ,?_⟩;rw[if_pos rfl];simp
  .rename_i cW;exact(h2.obj i).fF dW (fG _ _ cW) (λ_ _ _ _=>rfl) (aC _)
 .have Kh:i≠H.length:=by rintro rfl;rw[iP]at cB;simp at cB;subst cB;simp at ir
  have aaA:j≠H.length:=by rintro rfl;rw[iP]at im;simp at im;subst im;simp at oG
  rw[qj,if_neg Kh]at cR;rw[qj,if_neg aaA]at eU;rw[fG _ _ Kh]at cB;rw[fG _ _ aaA]at im;exact h2.sep i j Li Lj oF cR cB ir eU im oG
 .simp at hi;rw[fG _ _ ω];exact h2.fresh i ω
 .have Kh:i≠H.length:=by rintro rfl;rw[iP]at hL;simp at hL;subst hL;simp at S3
  rw[qj,if_neg Kh]at hi;rw[fG _ _ Kh]at hL;exact⟨i,hi,hL⟩
variable {f:Nat}{fn:Func}{code:Code}{rs:List ResultVar}
theorem auN{s:List AV->Option AV}(np:P.follows .mixedOrders=true)(ht:jw P aa)(hf:P.funcs[f]?=some fn)(hb:fn.body=some code)(oH:fn.results=rs.toArray)(hn:fn.ntmps=n)(qQ:(fn.name== "runtime.NumGoroutine")=false)(aR:mf n vY code=true)(h:∀args v,s args=some v->args.length<=n/\args.all AV.pf=true/\v.pf=true/\aM P aa [.c code] (sd 0 args) [] (λfr H=>rG P fr H rs=some v)):cE P f s:=auM vY hf hb oH hn qQ ht (λops h1 h2=>ZF ht np ops h1 h2) aR h
variable {w':World}
theorem gR.grown(h:gR w (λ_=>False) w'):RowKit.Grown w w':=by
 refine⟨⟨h.os,h.output,λi hi=>?_⟩,λa=>?_,h.size⟩
 .rw[h.lh i hi (λf=>f)];split<;>simp_all
 .rcases cU a.block w.heap.size with hl|hg
  .simp only[World.frozen?];rw[h.lh _ hl (λf=>f)]
  .have e1:w.frozen? a=false:=by simp[World.frozen?,qB hg]
   rw[e1];unfold World.frozen?;split
   .rename_i c t lo hi heq;have:=h.free _ _ _ _ heq (.inl hg);simp at this;obtain⟨rfl,rfl⟩:=this;simp
   .rfl
theorem b6.aj{v:Value}(h:b6 ρ s v)(hf:∀i,n<=i->ρ i=none):s.aj n=true:=by
 have key:∀id L,ρ id=some L->id<n:=by
  intro id L hL;rcases cU id n with h|h
  .exact h
  .rw[hf id h]at hL;simp at hL
 cases s<;>try rfl
 .obtain⟨L,a,h1,_⟩:=(show jR _ _ _ _ _ from h);simp only[Sc.aj,decide_eq_true_eq];exact key _ _ h1
 .obtain⟨L,b,c,h1,_⟩:=(show vO _ _ _ _ _ _ from h);simp only[Sc.aj,decide_eq_true_eq];exact key _ _ h1
 .obtain⟨cv,hv,h2⟩:=h;clear hv;simp only[Sc.aj];induction h2 with
 |nil=>rfl|cons h _ ih=>
    obtain⟨L,a,h1,_⟩:=h;rw[bG,aQ];exact⟨by simpa using key _ _ h1,ih⟩
 .obtain⟨L,b,h1,_⟩:=h;simp only[Sc.aj,decide_eq_true_eq];exact key _ _ h1
theorem L2.aj{c:List Value}(h:L2 (b6 ρ) l c)(hf:∀i,n<=i->ρ i=none):l.all (Sc.aj n)=true:=by induction h with|nil=>rfl|cons h _ ih=>simp only[bG,ih,cX];exact h.aj hf
theorem bg.aj{x:AV}{v:Value}(h:bg ρ x v)(hf:∀i,n<=i->ρ i=none):x.aj n=true:=by cases x with
 |c s=>exact b6.aj h hf|g l=>obtain⟨cs,_,h2⟩:=h;exact h2.aj hf|t l=>
 obtain⟨vs,h1,h2⟩:=h;simp only[AV.aj];clear h1;induction h2 with
 |nil=>rfl|@cons a b l m h _ ih=>
 simp only[bG,ih,cX];cases a with
 |c s=>exact b6.aj h hf|g l=>obtain⟨cs,_,h2⟩:=h;exact h2.aj hf|t l=>rfl
def dk(H:AH):Bool:=H.all λo=>o.cT.all (Sc.aj H.length)
theorem HR.aj(h:HR ρ w H):dk H=true:=by
 unfold dk;rw[cD];intro o ho;obtain⟨i,hi⟩:=QD ho;have hO:=h.obj i;have e:hg H i=o:=by simp[hg,b9,hi]
 rw[e]at hO;cases o with
 |own cs=>obtain⟨L,c,t,_,_,_,_,_,_,h7⟩:=hO;exact h7.aj h.fresh|vec sz cs=>
 obtain⟨L,_,_,_,_,_,h6⟩:=hO;split at h6
 .simp only[ae.cT];simp_all
 .obtain⟨c,d,t,_,_,h9⟩:=h6;exact h9.aj h.fresh|view cs=>
 obtain⟨L,_,_,_,_,_,h6⟩:=hO;simp only[ae.cT];rw[cD];intro s hs;obtain⟨j,hj⟩:=QD hs;obtain⟨v,_,h8⟩:=h6 j s hj;exact h8.aj h.fresh|map mq es=>
   obtain⟨L,tC,_,_,_,_,_,h6,h7⟩:=hO;have hV:∀{x:AV}{v:Value},V1 ρ x v->x.cT.all (Sc.aj H.length)=true:=by
    intro x v hx;cases x with
 |c s=>simp only[AV.cT,bG,dO,cX];exact b6.aj hx h.fresh|g l=>obtain⟨cs,_,h2⟩:=hx;exact h2.aj h.fresh|t l=>rfl
   simp only[ae.cT];clear hi ho e h6;induction h7 with
   |nil=>rfl|@cons a e es tC he ht ih=>
     simp only[qC,fH,aQ];exact⟨⟨hV he.2.1,hV he.2.2⟩,ih⟩
 |iter m since seen last=>
 obtain⟨L,b,_,_,_,_,_,h6,_⟩:=hO;simp only[ae.cT,bG,dO,cX];exact b6.aj h6 h.fresh|dead=>rfl
theorem aii{o:ae}{p:Sc->Bool}(h:o.cT.all p=true):o.cells.all p=true:=by cases o<;>first|exact h|rfl
theorem HR.frozen(h:HR ρ w H):∀b c t f,w.heap[b]?=some (.cells c t f)->kZ ρ H b->f=(0,0):=by
 rintro b c t f hb⟨i,L,h1,h2,h3,rfl⟩;have hO:=h.obj i;generalize hg H i=o at hO h1;cases o with
 |own cs=>
 obtain⟨L',c',t',g1,_,_,_,_,g6,_⟩:=hO;rw[h2]at g1;simp at g1;subst g1;rw[hb]at g6;simp at g6;exact g6.2.2|vec sz cs=>
 obtain⟨L',g1,_,_,_,_,g6⟩:=hO;rw[h2]at g1;simp at g1;subst g1;rw[if_neg (by simp[h3])]at g6;obtain⟨c',d,t',g7,_,_⟩:=g6;rw[hb]at g7;simp at g7;exact g7.2.2|view cs=>simp[ae.owned]at h1|map mq es=>obtain⟨L',tC,g1,_,_,_,_,g6,_⟩:=hO;rw[h2]at g1;simp at g1;subst g1;rw[hb]at g6;simp at g6|iter m since seen last=>obtain⟨L',b',g1,_,_,_,_,_,g6⟩:=hO;rw[h2]at g1;simp at g1;subst g1;rw[hb]at g6;simp at g6|dead=>simp[ae.owned]at h1
theorem Sd{s:List AV->AH->Option (AV×AH)}(np:P.follows .mixedOrders=true)(ht:jw P aa)(hf:P.funcs[f]?=some fn)(hb:fn.body=some code)(oH:fn.results=rs.toArray)(hn:fn.ntmps=n)(qQ:(fn.name== "runtime.NumGoroutine")=false)(aR:mf n vY code=true)(hle:∀args H v H1,s args H=some (v,H1)->H.length<=H1.length)(h:∀args H v H1,s args H=some (v,H1)->(args.all (AV.aj H.length))=true->dk H=true->args.length<=n/\aM P ((1000000,.lo H.length)::aa) [.c code] (sd 0 args) H (λfr H'=>∃v',rG P fr H' rs=some v'/\Wk H.length [(0,v')] H' ([(0,v)],H1))):aZ P f s:=by
 obtain rfl:fn.results.toList=rs:=by rw[oH]
 subst hn;refine⟨λargs w=>?_,hle,λargs H v H1 hs ρ w cs cu hH=>?_⟩
 .have hn:¬fn.name= "runtime.NumGoroutine":=by simpa using qQ
  simp[callFunc,hf,hn,hb]
 .have J3:args.all (AV.aj H.length)=true:=by
   clear hs;induction cu with|nil=>rfl|cons h _ ih=>simp only[bG,ih,cX];exact h.aj hH.fresh
  obtain⟨h1,h4⟩:=h args H v H1 hs J3 hH.aj;have hlen:=cu.length;have vt:jw P ((1000000,.lo H.length)::aa):=jw.cons (e:=.lo H.length) trivial ht;refine calls_of_wp hf hb ?_;have dW:St fn.ntmps w ⟨kZ ρ H,H.length,ρ⟩ ρ (sd 0 args) H {tmps:=cs.toArray++xd (fn.ntmps-cs.toArray.size) undef,defers:=[]} w:=by
   refine⟨λx=>?_,by simp;omega,rfl,hH,gR.refl w _ hH.frozen,λi L h1 h2 h3=>.inl ⟨i,L,h1,h2,h3,rfl⟩,λi _ L hL=>⟨L,hL,.inl rfl⟩⟩;have:=aal args cs cu 0 x;rw[if_pos (fM _),Nat.sub_zero]at this;have e:(cs.toArray++xd (fn.ntmps-cs.toArray.size) undef).getD x undef=cs.getD x undef:=by
    rw[qA,b9,Array.getElem?_append];split
    .simp
    .rename_i hx;simp at hx;rw[jQ hx,aft];split<;>rfl
   rw[e];exact this
  have C3:=sound (M:=⟨kZ ρ H,H.length,ρ⟩) (aC _) vt vY (λops h1 h2=>ZF vt np ops h1 h2) (fK [.c code]) [.c code] (aC _) (by
 simp only[Cn,bG,dO,cX,xU];exact aR) _ _ h4 _ _ _ dW;refine wp_mono (show code.wp P (Kp P fn.ntmps w ⟨kZ ρ H,H.length,ρ⟩ _ []) _ w from C3) ?_;intro e a2 w2 hq;have fin:SI fn.ntmps w ⟨kZ ρ H,H.length,ρ⟩ (λfr H'=>∃v',rG P fr H' fn.results.toList=some v'/\Wk H.length [(0,v')] H' ([(0,v)],H1)) a2 w2->a2.defers=[]/\∃v',(results fn a2.tmps).run P w2=.ok v' w2/\∃vc bh,Ending.returned v'=.returned vc/\bg bh v vc/\HR bh w2 H1/\gG ρ bh/\gR w (kZ ρ H) w2/\(∀b,kZ bh H1 b->kZ ρ H b\/w.heap.size<=b):=by
   rintro⟨zM,Z5,H2,mR,v',Hv,Tn⟩;obtain⟨vc,h5,h6⟩:=adB (P:=P) Hv mR.fr mR.hr.obj;obtain⟨Qt,g1,g2,g3,g4⟩:=Tn zM w2 (λx=>if x=0 then vc else undef) (λx=>by
    simp only[Am.get];by_cases e:0=x
    .subst e;simpa using h6
    .rw[if_neg e];trivial) mR.hr;have hv:bg Qt v vc:=by have:=g1 0;simpa[Am.get]using this
   refine⟨mR.df,vc,h5,vc,Qt,rfl,hv,g2,λi L hL=>?_,mR.kp,?_⟩
   .have hi:i<H.length:=by
     rcases cU i H.length with h|h
     .exact h
     .rw[hH.fresh i h]at hL;simp at hL
    rw[g4 i hi];exact mR.st i hi L hL
   .rintro b⟨i,L,e1,e2,e3,rfl⟩;obtain⟨j,e4,e5⟩:=g3 i L e1 e2 e3;exact mR.ow j L e4 e5 e3
  cases e<;>first|exact fin hq|exact hq.elim
theorem aE(H:AH):pQ H H:=by induction H with|nil=>trivial|cons o r ih=>exact⟨.inr rfl,ih⟩
theorem aB(H X:AH):pQ H (H++X):=by induction H with|nil=>trivial|cons o r ih=>exact⟨.inr rfl,ih⟩
variable {Q:Fr->AH->Prop}
theorem agS{R:Fr->AH->Prop}(h:∀fr H,Q fr H->R fr H):∀(n:Nat)(k:List It),fK k<=n->∀fr H,aM P aa k fr H Q->aM P aa k fr H R:=by
 intro n;induction n with
 |zero=>
   intro k hk fr H hr;cases k with
   |nil=>rw[Jp]at hr|-;exact h _ _ hr|cons x k=>exfalso;cases x<;>simp[fK,It.wt]at hk;rename_i c;cases c<;>simp[ig]at hk
 |succ n ih=>
 intro k hk fr H hr;cases k with|nil=>rw[Jp]at hr|-;exact h _ _ hr|cons x k=>cases x with
 |dK id=>rw[QW]at hr|-;exact ih k (by simp[fK,It.wt]at hk|-;omega) _ _ hr|back I=>rw[QV]at hr|-;exact hr|rK=>rw[Re]at hr|-;exact ih k (by simp[fK,It.wt]at hk|-;omega) _ _ hr|yh l J=>rw[Rb]at hr|-;exact ih k (by simp[fK,It.wt]at hk|-;omega) _ _ hr|ops full l=>cases l with|nil=>rw[Q7]at hr|-;exact ih k (by simp[fK,It.wt]at hk|-;omega) _ _ hr|cons o l=>
        have go:∀fr H,aM P aa (.ops full l::k) fr H Q->aM P aa (.ops full l::k) fr H R:=λfr H hr=>ih (.ops full l::k) (by simp[fK,It.wt]at hk|-;omega) _ _ hr;rw[MX]at hr|-;split at hr
        .split at hr
         .exact go _ _ hr
         .split at hr
          .exact λv H' hm=>go _ _ (hr v H' hm)
          .exact hr.elim
        .split at hr
         .split at hr
          .rename_i e;simp only[e,if_true];split at hr
           .exact go _ _ hr
           .exact hr.elim
          .rename_i e;simp only[e,if_false];exact go _ _ hr
         .exact go _ _ hr
         .exact hr.elim|dr full l i log=>cases l with|nil=>rw[QZ]at hr|-;exact ih k (by simp[fK,It.wt]at hk|-;omega) _ _ hr|cons o l=>
        have go:∀fr H i log,aM P aa (.dr full l i log::k) fr H Q->aM P aa (.dr full l i log::k) fr H R:=λfr H i log hr=>ih (.dr full l i log::k) (by simp[fK,It.wt]at hk|-;omega) _ _ hr;rw[MW]at hr|-;split at hr
        .split at hr
         .exact⟨hr.1,go _ _ _ _ hr.2⟩
         .exact hr.elim
        .split at hr
         .split at hr
          .rename_i e;simp only[e,if_true];split at hr
           .exact⟨hr.1,go _ _ _ _ hr.2⟩
           .exact hr.elim
          .rename_i e;simp only[e,if_false];exact go _ _ _ _ hr
         .exact go _ _ _ _ hr
         .exact hr.elim|c x=>
      have tK:0<ig x:=by cases x<;>simp[ig]
      have hkk:∀fr H,aM P aa k fr H Q->aM P aa k fr H R:=λfr H hr=>ih k (by simp[fK,It.wt]at hk|-;omega) _ _ hr;cases x with
 |skip=>rw[Rg]at hr|-;exact hkk _ _ hr|region id ops d=>cases d with|false=>rw[Q8]at hr|-;exact ih (.ops ops ops.toList::k) (by simp[fK,It.wt,ig]at hk|-;omega) _ _ hr|true=>rw[Q9]at hr|-;exact ih (.dr ops ops.toList 0 []::k) (by simp[fK,It.wt,ig]at hk|-;omega) _ _ hr
 |seq a b=>rw[Rf]at hr|-;exact ih (.c a::.c b::k) (by simp[fK,It.wt,ig]at hk|-;omega) _ _ hr|cond v a b=>
        rw[QY]at hr|-;split at hr
        .split at hr
         .rename_i e;rw[if_pos e];exact ih (.c a::k) (by simp[fK,It.wt,ig]at hk|-;omega) _ _ hr
         .rename_i e;rw[if_neg e];exact ih (.c b::k) (by simp[fK,It.wt,ig]at hk|-;omega) _ _ hr
        .exact⟨ih (.c a::k) (by simp[fK,It.wt,ig]at hk|-;omega) _ _ hr.1,ih (.c b::k) (by simp[fK,It.wt,ig]at hk|-;omega) _ _ hr.2⟩
        .exact hr.elim|block id a=>rw[QX]at hr|-;exact ih (.c a::.dK id::k) (by simp[fK,It.wt,ig]at hk|-;omega) _ _ hr|loop a=>
 rw[rk]at hr|-;obtain⟨ι,F,μ,i0,h0,h1⟩:=hr;exact⟨ι,F,μ,i0,h0,λi=>ih (.c a::.back _::k) (by simp[fK,It.wt,ig]at hk|-;omega) _ _ (h1 i)⟩|exit id=>
        rw[Q0]at hr|-;split at hr
        .rename_i k' hp;have:=U0 hp;exact ih k' (by simp[fK,It.wt,ig]at hk this|-;omega) _ _ hr
        .exact hr.elim|label l=>rw[Q6]at hr|-;exact hkk _ _ hr|goto l=>rw[Q5]at hr|-;exact hr|scope a=>
        rw[Rc]at hr|-;rcases hr with hr|⟨l,rest,J,hf,h1,hle,h2⟩
        .exact .inl (ih (.c a::.rK::k) (by simp[fK,It.wt,ig]at hk|-;omega) _ _ hr)
        .exact .inr ⟨l,rest,J,hf,ih (.c a::.yh l J::k) (by simp[fK,It.wt,ig]at hk|-;omega) _ _ h1,hle,λfr H hj=>ih (.c rest::.rK::k) (by simp[fK,It.wt,ig]at hk|-;omega) _ _ (h2 fr H hj)⟩|ret=>rw[Ra]at hr|-;exact h _ _ hr|_=>rw[aM]at hr<;>first|exact hr.elim|simp
theorem Z4{code:Code}{rs:List ResultVar}{n:Nat}{s:List AV->AH->Option AV}(np:P.follows .mixedOrders=true)(ht:jw P aa)(hf:P.funcs[f]?=some fn)(hb:fn.body=some code)(oH:fn.results=rs.toArray)(hn:fn.ntmps=n)(qQ:(fn.name== "runtime.NumGoroutine")=false)(aR:mf n vY code=true)(h:∀args H v,s args H=some v->(args.all (AV.aj H.length))=true->dk H=true->args.length<=n/\v.aj H.length=true/\aM P ((1000000,.lo H.length)::aa) [.c code] (sd 0 args) H (λfr H'=>rG P fr H' rs=some v/\pQ H H')):aZ P f λargs H=>(s args H).map λv=>(v,H):=by
 refine Sd np ht hf hb oH hn qQ aR (λargs H v H1 hs=>by simp only[ef,bD]at hs;obtain⟨_,_,_,rfl⟩:=hs;exact aC _) λargs H v H1 hs bM hH=>?_;simp only[ef,bD]at hs;obtain⟨v',h1,rfl,rfl⟩:=hs;obtain⟨h2,h3,h4⟩:=h args H v' h1 bM hH;refine⟨h2,?_⟩;have key:∀fr H',(rG P fr H' rs=some v'/\pQ H H')->∃x,rG P fr H' rs=some x/\Wk H.length [(0,x)] H' ([(0,v')],H):=by
  rintro fr H'⟨e1,e2⟩;exact⟨v',e1,Wk.wk (aC _) (by simp[Am.get]) (by simp only[bG,h3];rfl) e2 hH⟩
 exact agS key _ _ (aC _) _ _ h4
theorem Rn{o:ae}(hH:dk H=true)(ho:o.cT.all (Sc.aj H.length)=true):((H.set i o).all λx=>x.cT.all (Sc.aj (H.set i o).length))=true:=by
 rw[List.length_set,cD];intro x hx;rcases List.mem_or_eq_of_mem_set hx with h|rfl
 .exact cD.1 hH x h
 .exact ho
theorem ua{o:ae}(h:hg H i=o)(hi:i<H.length):H.set i o=H:=by
 have:H[i]=o:=by rw[<-h];simp[hg,b9,hi]
 rw[<-this];exact List.set_getElem_self hi
theorem Sc.gJ{s:Sc}{m n:Nat}(h:s.aj m=true)(hmn:m<=n):s.aj n=true:=by
 cases s<;>try rfl
 .simp only[Sc.aj,decide_eq_true_eq]at h|-;omega
 .simp only[Sc.aj,decide_eq_true_eq]at h|-;omega
 .simp only[Sc.aj,cD,decide_eq_true_eq]at h|-;exact λc hc=>CG (h c hc) hmn
 .simp only[Sc.aj,decide_eq_true_eq]at h|-;omega
end Go.Am

/- A law's frame: what its arguments are, and that it answers true. -/
namespace Go.Am
variable {P:Program}
inductive K where|n(k:IntKind)|q|s
def kF:Sc->K->Prop|.i x,.n .i64=>-9223372036854775808<=x/\x<=9223372036854775807|.u _,.n .u64=>True|.k kd x,.n kd'=>kd=kd'/\kd.bits<=32/\kd.min<=x/\x<=kd.max|.b _,.q=>True|.s t,.s=>t.size<=9223372036854775807|_,_=>False
def JO(g:TypeId->Option (List K))(P:Program):List Field->Nat->Option (List K)
 |[],_=>some []|f::r,off=>if f.offset=off then match g f.type,JO g P r (off+P.cellsOf f.type)with
 |some a,some b=>if a.length=P.cellsOf f.type then some (a++b)else none|_,_=>none else none
def vj(P:Program):Nat->TypeId->Option (List K)|0,_=>none|d+1,t=>match P.underlying t with|some .bool=>some [.q]|some (.int k)=>some [.n k]|some .string=>some [.s]|some (.struct fs)=>(JO (vj P d) P fs.toList 0).bind λl=>if l.length=P.cellsOf t then some l else none|some (.array m e)=>(vj P d e).bind λl=>if l.length=P.cellsOf e/\m*l.length=P.cellsOf t then some (bE m l).flatten else none|_=>none
variable {ρ:Ro}
section
variable {H:Type}{enc:TypeId×Value->H}{w:World}{base:Nat}{sp:Nat->Bool}{held:Bool}
def Read(ρ:Ro)(cs:List Value)(ks:List K)(x:List MemPlace):Prop:=x=[]/\∃l,L2 kF l ks/\L2 (b6 ρ) l cs
theorem anr{k:IntKind}{n:Int}(h:(Lit.int k n).wf=true):∃l,L2 kF l [.n k]/\L2 (b6 ρ) l [.int k n]:=by
 simp only[Lit.wf,aQ,decide_eq_true_eq]at h;by_cases h1:k=.i64
 .subst h1;have h2:-9223372036854775808<=n/\n<=9223372036854775807:=h;exact⟨[.i n],.cons h2 .nil,.cons ⟨rfl,h2⟩ .nil⟩
 .by_cases h3:k=.u64
  .subst h3;have h2:0<=n/\n<=18446744073709551615:=h;refine⟨[.u (aw 64 n)],.cons trivial .nil,.cons ?_ .nil⟩;show Value.int .u64 n=.int .u64 _;congr 1;rw[BitVec.toNat_ofInt];omega
  .have hb:k.bits<=32:=by cases k<;>simp[IntKind.bits]at h1 h3|-
   exact⟨[.k k n],.cons ⟨rfl,hb,h.1,h.2⟩ .nil,.cons ⟨rfl,hb,h.1,h.2⟩ .nil⟩
theorem alO{ρ:Ro}{g:TypeId->Option (List K)}{r:TypeId->List Value->Option (DataW H×List MemPlace)}(hg:∀t cs x ks,g t=some ks->r t cs=some x->Read ρ cs ks x.2)(cs:List Value):∀(fs:List Field)(off:Nat)(ks:List K)(xs:List (DataW H×List MemPlace)),JO g P fs off=some ks->(fs.mapM λf=>r f.type ((cs.drop f.offset).take (P.cellsOf f.type)))=some xs->Read ρ ((cs.drop off).take ks.length) ks (xs.flatMap (·.2)):=by
 intro fs;induction fs with
 |nil=>
 intro off ks xs h1 h2;simp[JO]at h1;subst h1;simp at h2;subst h2;exact⟨rfl,[],.nil,by simp;exact .nil⟩|cons f fs ih=>
   intro off ks xs h1 h2;simp only[JO]at h1;split at h1<;>try(simp at h1;done)
   rename_i ho;split at h1<;>try(simp at h1;done)
   rename_i a b ha hb;split at h1<;>simp at h1;rename_i hl;subst h1;simp only[Gy,MG,kY,QH,ar]at h2;obtain⟨x,hx,ys,hy,rfl⟩:=h2;obtain⟨e1,l1,h3,h4⟩:=hg _ _ _ _ ha hx;obtain⟨e2,l2,h5,h6⟩:=ih _ _ _ hb hy;refine⟨by simp[e1,e2],l1++l2,h3.app h5,?_⟩;rw[cF,hl,List.take_add,uX,<-ho];rw[<-ho]at h6;exact h4.app h6
theorem alQ{ρ:Ro}{r:List Value->Option (DataW H×List MemPlace)}{ke:List K}(hg:∀cs x,r cs=some x->Read ρ cs ke x.2)(cs:List Value):∀(n i:Nat)(xs:List (DataW H×List MemPlace)),((List.range' i n).mapM λi=>r ((cs.drop (i*ke.length)).take ke.length))=some xs->Read ρ ((cs.drop (i*ke.length)).take (n*ke.length)) (bE n ke).flatten (xs.flatMap (·.2)):=by
 intro n;induction n with
 |zero=>intro i xs h;simp at h;subst h;exact⟨rfl,[],.nil,by simp;exact .nil⟩|succ n ih=>
 intro i xs h;simp only[QA,Gy,MG,kY,QH,ar]at h;obtain⟨x,hx,ys,hy,rfl⟩:=h;obtain⟨e1,l1,h3,h4⟩:=hg _ _ hx;obtain⟨e2,l2,h5,h6⟩:=ih _ _ hy;refine⟨by simp[e1,e2],l1++l2,by rw[xn,BB];exact h3.app h5,?_⟩;rw[uZ,BD,yv (n*_),List.take_add,uX];rw[uZ,BD]at h6;exact h4.app h6
theorem aeX:∀(m d:Nat)(t:TypeId)(cs:List Value)(x:DataW H×List MemPlace)(ks:List K),vj P d t=some ks->DataW.trod enc P w base sp held m t cs=some x->Read ρ cs ks x.2:=by
 intro m;induction m with
 |zero=>intro d t cs x ks _ h;simp[DataW.trod]at h|succ m ih=>
 intro d t cs x ks hk h;cases d with
 |zero=>simp[vj]at hk|succ d=>
     simp only[vj]at hk;split at hk
     .rename_i hu;simp at hk;subst hk;simp only[DataW.trod,hu]at h;split at h<;>simp_all;subst h;exact⟨rfl,[.b _],.cons trivial .nil,.cons rfl .nil⟩
     .rename_i k hu;simp at hk;subst hk;simp only[DataW.trod,hu]at h;split at h<;>simp_all;obtain⟨⟨rfl,hw⟩,rfl⟩:=h;exact⟨rfl,anr hw⟩
     .rename_i hu;simp at hk;subst hk;simp only[DataW.trod,hu]at h;split at h<;>simp_all;obtain⟨hw,rfl⟩:=h;have Hz:_<=9223372036854775807:=hw;exact⟨rfl,[.s _],.cons Hz .nil,.cons ⟨rfl,Hz⟩ .nil⟩
     .rename_i fs hu;simp only[kY]at hk;obtain⟨l,hl,hk⟩:=hk;split at hk<;>simp at hk;rename_i hlen;subst hk;simp only[DataW.trod,hu]at h;split at h
      .rename_i py;simp only[ef]at h;obtain⟨xs,hx,rfl⟩:=h;have:=alO (λt cs x ks h1 h2=>ih d t cs x ks h1 h2) cs _ _ _ _ hl hx;rw[xg,hlen,<-py,s7]at this;exact this
      .simp at h
     .rename_i n e hu;simp only[kY]at hk;obtain⟨l,hl,hk⟩:=hk;split at hk<;>simp at hk;rename_i hlen;subst hk;simp only[DataW.trod,hu]at h;split at h
      .rename_i py;simp only[ef]at h;obtain⟨xs,hx,rfl⟩:=h;rw[QB,<-hlen.1]at hx;have:=alQ (r:=λc=>DataW.trod enc P w base sp held m e c) (ke:=l) (λcs x h2=>ih d e cs x l hl h2) cs n 0 xs hx;rw[Jk,xg,hlen.2,<-py,s7]at this;exact this
      .simp at h
     .simp at hk
end
inductive zV where|fl(agg:Bool)(ks:List K)|sl(ks:List K)|Yh(n:Nat)(ks:List K)
def acB(P:Program)(t:TypeId):Option zV:=match P.underlying t with
 |some (.slice e)=>(vj P 20 e).bind λl=>if l.length=P.cellsOf e/\0<l.length then some (.sl l)else none|some (.struct _)=>(vj P 20 t).map (.fl true)|some (.array m e)=>match P.underlying e with
   |some (.slice e')=>(vj P 20 e').bind λl=>if l.length=P.cellsOf e'/\0<l.length/\P.cellsOf e=1/\P.cellsOf t=m then some (.Yh m l)else none|_=>(vj P 20 t).map (.fl true)
 |some (.int _)|some .bool|some .string=>(vj P 20 t).map (.fl false)|_=>none
def KW(P:Program):List TypeId->Option (List zV)|[]=>some []|t::r=>match acB P t,KW P r with|some a,some b=>some (a::b)|_,_=>none
def GJ(ks:List K)(s:Sc)(H:AH):Prop:=s=.aA\/∃id n,s=.sl id 0 0 n/\id<H.length/\(hg H id).row=0/\(hg H id).owned=false/\n<=9223372036854775807/\(hg H id).cells.length=n*ks.length/\L2 kF (hg H id).cells (bE n ks).flatten
variable {ks:List K}{s:Sc}{H X:AH}
theorem GJ.app(h:GJ ks s H):GJ ks s (H++X):=by
 rcases h with h|⟨id,n,h0,h1,h2,h3,h4,h5,h6⟩
 .exact .inl h
 .have e:=cL (X:=X) h1;exact .inr ⟨id,n,h0,by simp;omega,by rw[e];exact h2,by rw[e];exact h3,h4,by rw[e];exact h5,by rw[e];exact h6⟩
def kj:List zV->List AV->AH->Prop|[],[],_=>True|.fl true ks::ps,.g l::fz,H=>L2 kF l ks/\kj ps fz H|.fl false ks::ps,.c s::fz,H=>L2 kF [s] ks/\kj ps fz H|.Yh n ks::ps,.g l::fz,H=>l.length=n/\(∀s∈l,GJ ks s H)/\kj ps fz H|.sl _::ps,.c .aA::fz,H=>kj ps fz H|.sl ks::ps,.c (.sl id 0 0 n)::fz,H=>id<H.length/\(hg H id).row=0/\(hg H id).owned=false/\n<=9223372036854775807/\(hg H id).cells.length=n*ks.length/\L2 kF (hg H id).cells (bE n ks).flatten/\kj ps fz H|_,_,_=>False
theorem kj.app:∀{ps:List zV}{fz:List AV}{H:AH},kj ps fz H->kj ps fz (H++X):=by
 intro ps fz H;fun_induction kj ps fz H with
 |case1=>intro _;trivial|case2 ks ps l fz H ih=>rintro⟨h1,h2⟩;exact⟨h1,ih h2⟩|case3 ks ps l fz H ih=>rintro⟨h1,h2⟩;exact⟨h1,ih h2⟩|case4 n ks ps l fz H ih=>rintro⟨h1,h2,h3⟩;exact⟨h1,λs hs=>(h2 s hs).app,ih h3⟩|case5 ks ps fz H ih=>intro h;exact ih h|case6 ks ps id n fz H ih=>
 rintro⟨h1,h2,h3,h4,h5,h6,h7⟩;have e:=cL (X:=X) h1;exact⟨by simp;omega,by rw[e];exact h2,by rw[e];exact h3,h4,by rw[e];exact h5,by rw[e];exact h6,ih h7⟩|case7=>intro h;simp[kj]at h
variable {w:World}
theorem HR.view(h:HR ρ w H)(o:ae)(L:Loc)(ho:o.owned=false)(hO:jJ (ic ρ H.length L) w H.length o)(dg:∀i,(hg H i).owned=false):HR (ic ρ H.length L) w (H++[o])/\gG ρ (ic ρ H.length L)/\∀i,(hg (H++[o]) i).owned=false:=by
 have dW:gG ρ (ic ρ H.length L):=by
  intro i Li hi;have:i≠H.length:=by rintro rfl;rw[h.fresh _ (aC _)]at hi;simp at hi
  exact⟨Li,by rw[fG _ _ this,hi],.inl rfl⟩
 have kf:∀i,(hg (H++[o]) i).owned=false:=by
  intro i;rw[qj];split
  .exact ho
  .exact dg i
 refine⟨⟨λi=>?_,λi j Li Lj _ cR=>?_,λi hi=>?_⟩,dW,kf⟩
 .rw[qj];split
  .subst_vars;exact hO
  .rename_i cW;exact(h.obj i).fF dW (fG _ _ cW) (λ_ _ _ _=>rfl) (aC _)
 .rw[kf]at cR;simp at cR
 .simp at hi;rw[fG _ _ ω];exact h.fresh i ω
variable {n:Nat}{ke:List K}
section
variable {T:Type}{enc:TypeId×Value->T}{w:World}
theorem aih{a:Addr}{cs:List Value}(h:w.cells? 0 a n=some cs):cs.length=n/\∀i v,cs[i]?=some v->w.cell? (a.add i)=some v:=by
 simp only[World.cells?,fM,if_true]at h;have key:∀(n i0:Nat)(cs:List Value),((List.range' i0 n).mapM λi=>w.cell? (a.add i))=some cs->cs.length=n/\∀i v,cs[i]?=some v->w.cell? (a.add (i0+i))=some v:=by
  intro n;induction n with|zero=>intro i0 cs h;simp at h;subst h;simp|succ n ih=>
    intro i0 cs h;simp only[QA,Gy,MG,kY,QH,ar]at h;obtain⟨x,hx,ys,hy,rfl⟩:=h;obtain⟨e1,e2⟩:=ih _ _ hy;refine⟨by simp[e1],λi v hv=>?_⟩;cases i with|zero=>simp at hv;subst hv;exact hx|succ i=>have:=e2 i v (by simpa using hv);rw[show i0+(i+1)=i0+1+i by omega];exact this
 rw[QB]at h;obtain⟨e1,e2⟩:=key n 0 cs h;exact⟨e1,λi v hv=>by have:=e2 i v hv;rwa[oU]at this⟩
theorem add_add{a:Addr}{i j:Nat}:(a.add i).add j=a.add (i+j):=by
 simp only[Addr.add];by_cases h1:i=0
 .subst h1;simp
 .by_cases h2:j=0
  .subst h2;simp[h1]
  .simp[h1,h2,Nat.add_assoc]
theorem YT{a:Addr}{v:Value}(h:w.cell? (a.add 0)=some v)(j:Nat):w.cell? (a.add j)=w.cell? ⟨a.block,a.off+j,none⟩/\a.block<w.heap.size/\a=⟨a.block,a.off+0,none⟩:=by
 have e0:a.add 0=a:=by simp[Addr.add]
 rw[e0]at h;unfold World.cell? at h;split at h
 .rename_i c _ _ hb;split at h
  .simp at h
  .rename_i hs;have aL:a.block<w.heap.size:=by
    rcases cU a.block w.heap.size with h|h
    .exact h
    .rw[qB h]at hb;simp at hb
   have ha:a=⟨a.block,a.off,none⟩:=by cases a with|mk x y z=>cases z<;>simp at hs|-
   refine⟨?_,aL,ha⟩;have:a.add j=⟨a.block,a.off+j,none⟩:=by
    rw[ha];simp only[Addr.add];by_cases hj:j=0
    .subst hj;simp
    .rw[if_neg hj]
   rw[this]
 .simp at h
theorem aeG{m:Nat}{e:TypeId}{a:Addr}{ke:List K}(hk:vj P 20 e=some ke)(hl:ke.length=P.cellsOf e):∀(n i:Nat)(xs:List (DataW T×List MemPlace)),((List.range' i n).mapM λi=>(w.cells? 0 (a.add (i*P.cellsOf e)) (P.cellsOf e)).bind (DataW.trod enc P w 0 (λ_=>true) true m e))=some xs->∃l,l.length=n*ke.length/\L2 kF l (bE n ke).flatten/\∀j s,l[j]?=some s->∃v,w.cell? (a.add (i*ke.length+j))=some v/\b6 ρ s v:=by
 intro n;induction n with|zero=>intro i xs h;exact⟨[],by simp,.nil,by simp⟩|succ n ih=>
   intro i xs h;simp only[QA,Gy,MG,kY,QH,ar]at h;obtain⟨x,⟨cs,hc,hx⟩,ys,hy,rfl⟩:=h;obtain⟨l2,h5,h6,h7⟩:=ih (i+1) ys (by simpa only[MG]using hy);obtain⟨py,hcg⟩:=aih hc;obtain⟨_,l1,h3,h4⟩:=aeX (ρ:=ρ) m 20 e cs x ke hk hx;have AA:l1.length=ke.length:=by rw[h4.length,py,hl]
   refine⟨l1++l2,by rw[cF,AA,h5,uZ,BD,yv],by rw[xn,BB];exact h3.app h6,λj s hj=>?_⟩;rcases cU j l1.length with aL|nO
   .rw[sY aL]at hj;obtain⟨v,hv,hr⟩:=h4.get? j s hj;refine⟨v,?_,hr⟩;have:=hcg j v hv;rw[<-hl]at this;rw[<-add_add];exact this
   .rw[rV nO]at hj;obtain⟨v,hv,hr⟩:=h7 _ s hj;refine⟨v,?_,hr⟩;rw[<-hv];congr 2;rw[AA]at nO|-;rw[uZ,BD];omega
theorem ayl{t e:TypeId}{fuel:Nat}{cs:List Value}{x:DataW T×List MemPlace}(hu:P.underlying t=some (.slice e))(hk:vj P 20 e=some ke)(hl:ke.length=P.cellsOf e/\0<ke.length)(hf:DataW.trod enc P w 0 (λ_=>true) true fuel t cs=some x)(g3:HR ρ w H)(g4:∀i,(hg H i).owned=false):∃v,cs=[v]/\∃(X:AH)(bh:Ro)(s:Sc),GJ ke s (H++X)/\b6 bh s v/\HR bh w (H++X)/\gG ρ bh/\∀i,(hg (H++X) i).owned=false:=by cases fuel with|zero=>simp[DataW.trod]at hf|succ fuel=>
   have cu:cs=[.slice none 0 0]\/∃a len cap,cs=[.slice (some a) len cap]:=by
    simp only[DataW.trod,hu]at hf;split at hf;all_goals first|exact .inl rfl|exact .inr ⟨_,_,_,rfl⟩|(rename_i h0;cases h0;done)|(simp at hf;done)|(rename_i h0 _;cases h0;done)
   rcases cu with rfl|⟨a,len,cap,rfl⟩
   .exact⟨_,rfl,[],ρ,.aA,.inl rfl,rfl,by simpa using g3,gG.refl ρ,by simpa using g4⟩
   .simp only[DataW.trod,hu]at hf;split at hf
    .rename_i hc;obtain⟨_,Kb,SG⟩:=hc;have amT:cap<=9223372036854775807:=SG;simp only[kY]at hf;obtain⟨xs,hx,_⟩:=hf;rw[QB]at hx;obtain⟨l,r1,r2,r3⟩:=aeG (ρ:=ρ) hk hl.1 len 0 xs hx;refine⟨_,rfl,?_⟩;by_cases hn:len=0
     .subst hn;have Kg:l=[]:=uY (by rw[r1];simp);subst Kg;obtain⟨k1,k2,k3⟩:=g3.view .dead ⟨0,0,0,1,false,false⟩ rfl trivial g4;refine⟨[.dead],_,.sl H.length 0 0 0,?_,⟨_,_,_,iP _ _ _,rfl,by simp,ω,ω,by simp,by simp⟩,k1,k2,k3⟩;have e:hg (H++[ae.dead]) H.length=.dead:=by rw[qj,if_pos rfl]
      exact .inr ⟨H.length,0,rfl,by simp,by rw[e];rfl,by rw[e];rfl,ω,by rw[e];simp[ae.cells],by rw[e];exact .nil⟩
     .have tK:0<len*ke.length:=BC ω hl.2;obtain⟨v0,Fg,_⟩:=r3 0 l[0] (by rw[cM]);rw[Jk,oU]at Fg;have B4:=λj=>YT Fg j;obtain⟨k1,k2,k3⟩:=g3.view (.view l) ⟨a.block,a.off,cap,0,false,false⟩ rfl ⟨_,iP _ _ _,rfl,rfl,by simp,λ_=>(B4 0).2.1,λj s hj=>by
         obtain⟨v,hv,hr⟩:=r3 j s hj;rw[Jk,oU]at hv;refine⟨v,by rw[<-(B4 j).1];exact hv,hr.mono ?_⟩;intro i Li hi;have:i≠H.length:=by rintro rfl;rw[g3.fresh _ (aC _)]at hi;simp at hi
         exact⟨Li,by rw[fG _ _ this,hi],.inl rfl⟩⟩ g4;refine⟨[.view l],_,.sl H.length 0 0 len,?_,⟨_,some a,cap,iP _ _ _,rfl,by simp,Kb,ω,by simp,λ_=>?_⟩,k1,k2,k3⟩
      .have e:hg (H++[ae.view l]) H.length=.view l:=by rw[qj,if_pos rfl]
       exact .inr ⟨H.length,len,rfl,by simp,by rw[e];rfl,by rw[e];rfl,ω,by rw[e];exact r1,by rw[e];exact r2⟩
      .rw[if_neg (by simp)];exact⟨a,rfl,λ_=>(B4 0).2.2,by simp,by simp⟩
    .simp at hf
theorem ayk{t e:TypeId}(hu:P.underlying t=some (.slice e))(hk:vj P 20 e=some ke)(hl:ke.length=P.cellsOf e/\0<ke.length){fuel:Nat}{cs:List Value}:∀(n i:Nat)(xs:List (DataW T×List MemPlace)),((List.range' i n).mapM λi=>DataW.trod enc P w 0 (λ_=>true) true fuel t ((cs.drop (i*1)).take 1))=some xs->∀{ρ:Ro}{H:AH},HR ρ w H->(∀i,(hg H i).owned=false)->∃(X:AH)(bh:Ro)(l:List Sc),l.length=n/\(∀s∈l,GJ ke s (H++X))/\L2 (b6 bh) l ((cs.drop i).take n)/\HR bh w (H++X)/\gG ρ bh/\∀i,(hg (H++X) i).owned=false:=by
 intro n;induction n with|zero=>intro i xs _ ρ H g3 g4;exact⟨[],ρ,[],rfl,by simp,by simp;exact .nil,by simpa using g3,gG.refl ρ,by simpa using g4⟩|succ n ih=>
   intro i xs h ρ H g3 g4;simp only[QA,Gy,MG,kY,QH,ar]at h;obtain⟨x,hx,ys,hy,rfl⟩:=h;obtain⟨v,hv,X,Qs,s,k1,k2,k3,k4,k5⟩:=ayl hu hk hl hx g3 g4;obtain⟨Y,zM,l,m1,m2,m3,m4,m5,m6⟩:=ih (i+1) ys hy k3 k5;rw[fo]at m2 m4 m6;refine⟨X++Y,zM,s::l,by simp[m1],λu hu=>?_,?_,m4,k4.trans m5,m6⟩
   .rcases uj.1 hu with rfl|hu
    .rw[<-fo];exact k1.app
    .exact m2 u hu
   .rw[Ep]at hv;have e:(cs.drop i).take (n+1)=v::(cs.drop (i+1)).take n:=by
     have e1:cs.drop i=v::cs.drop (i+1):=by
      have:=List.take_append_drop 1 (cs.drop i);rw[hv,uX]at this;exact this.symm
     rw[e1,GB]
    rw[e];exact .cons (k2.mono m5) m3
theorem agQ:∀(ts:List TypeId)(A4:List zV)(vs:List Value)(ds:List (DataW T))(ps:List MemPlace),KW P ts=some A4->DataW.TrodAll enc P w 0 (λ_=>true) true ts vs ds ps->(∀(j:Nat)t v,ts[j]?=some t->vs[j]?=some v->∃base,Value.okWide P w .any base t v)->ds.length=A4.length/\∃H ρ fz,kj A4 fz H/\L2 (bg ρ) fz vs/\HR ρ w H/\∀i,(hg H i).owned=false:=by
 intro ts;induction ts with
 |nil=>
 intro A4 vs ds ps hp h _;simp[KW]at hp;subst hp;obtain⟨rfl,rfl,rfl⟩:=ChangeShapes.trodAll_nil h;exact⟨rfl,[],Ek,[],trivial,.nil,HR.nil w,λi=>by rw[tG _ (fM _)];rfl⟩|cons t ts ih=>
   intro A4 vs ds ps hp h aR;simp only[KW]at hp;split at hp<;>simp at hp;rename_i par auf nR hp2;subst hp;obtain⟨v,vs',d,JG,p,q,rfl,rfl,rfl,h1,h2⟩:=ChangeShapes.trodAll_cons h;obtain⟨e0,H,ρ,fz,g1,g2,g3,g4⟩:=ih _ _ _ _ hp2 h2 λj t v h1 h2=>aR (j+1) t v (by simpa using h1) (by simpa using h2);obtain⟨base,hv⟩:=aR 0 t v rfl rfl;refine⟨by simp[e0],?_⟩;obtain⟨fuel,hf⟩:=h1;unfold acB at nR;have flat:∀(b:Bool),(vj P 20 t).map (.fl b)=some par->(b=true->∃cs,v=.agg cs)->(b=false->∃u,v.cells.toList=[u]/\v=u)->∃H ρ fz,kj (par::auf) fz H/\L2 (bg ρ) fz (v::vs')/\HR ρ w H/\∀i,(hg H i).owned=false:=by
    intro b hb h1 h2;simp only[ef]at hb;obtain⟨ks,hk,rfl⟩:=hb;obtain⟨_,l,h3,h4⟩:=aeX (ρ:=ρ) fuel 20 t _ _ ks hk hf;cases b with
 |true=>
 obtain⟨cs,rfl⟩:=h1 rfl;exact⟨H,ρ,.g l::fz,⟨h3,g1⟩,.cons ⟨cs.toList,by simp,h4⟩ g2,g3,g4⟩|false=>
 obtain⟨u,e1,rfl⟩:=h2 rfl;rw[e1]at h4;cases h4 with|cons h5 h6=>cases h6;exact⟨H,ρ,.c _::fz,⟨h3,g1⟩,.cons h5 g2,g3,g4⟩
   split at nR
   .rename_i e hu;simp only[kY]at nR;obtain⟨ke,hk,nR⟩:=nR;split at nR<;>simp at nR;rename_i hl;subst nR;obtain⟨a0,len,cap,rfl⟩:=WideShapes.okWide_slice hu hv;cases fuel with|zero=>simp[DataW.trod]at hf|succ fuel=>cases a0 with|none=>cases len<;>cases cap<;>simp[DataW.trod,hu,Value.cells]at hf;exact⟨H,ρ,.c .aA::fz,g1,.cons rfl g2,g3,g4⟩|some a=>
        simp only[DataW.trod,hu,Value.cells]at hf;split at hf
        .rename_i hc;obtain⟨_,Kb,SG⟩:=hc;have amT:cap<=9223372036854775807:=SG;simp only[kY]at hf;obtain⟨xs,hx,_⟩:=hf;rw[QB]at hx;obtain⟨l,r1,r2,r3⟩:=aeG (ρ:=ρ) hk hl.1 len 0 xs hx;by_cases hn:len=0
         .subst hn;have Kg:l=[]:=uY (by rw[r1];simp);subst Kg;obtain⟨k1,k2,k3⟩:=g3.view .dead ⟨0,0,0,1,false,false⟩ rfl trivial g4;refine⟨H++[.dead],_,.c (.sl H.length 0 0 0)::fz,?_,.cons ⟨_,_,_,iP _ _ _,rfl,by simp,ω,ω,by simp,by simp⟩ (g2.mono λ_ _ h=>h.mono k2),k1,k3⟩;have e:hg (H++[ae.dead]) H.length=.dead:=by rw[qj,if_pos rfl]
          exact⟨by simp,by rw[e];rfl,by rw[e];rfl,ω,by rw[e];simp[ae.cells],by rw[e];exact .nil,g1.app⟩
         .have tK:0<len*ke.length:=BC ω hl.2;obtain⟨v0,Fg,_⟩:=r3 0 l[0] (by rw[cM]);rw[Jk,oU]at Fg;have B4:=λj=>YT Fg j;obtain⟨k1,k2,k3⟩:=g3.view (.view l) ⟨a.block,a.off,cap,0,false,false⟩ rfl ⟨_,iP _ _ _,rfl,rfl,by simp,λ_=>(B4 0).2.1,λj s hj=>by
             obtain⟨v,hv,hr⟩:=r3 j s hj;rw[Jk,oU]at hv;refine⟨v,by rw[<-(B4 j).1];exact hv,hr.mono ?_⟩;intro i Li hi;have:i≠H.length:=by rintro rfl;rw[g3.fresh _ (aC _)]at hi;simp at hi
             exact⟨Li,by rw[fG _ _ this,hi],.inl rfl⟩⟩ g4;refine⟨H++[.view l],_,.c (.sl H.length 0 0 len)::fz,?_,.cons ⟨_,some a,cap,iP _ _ _,rfl,by simp,Kb,ω,by simp,λ_=>?_⟩ (g2.mono λ_ _ h=>h.mono k2),k1,k3⟩
          .have e:hg (H++[ae.view l]) H.length=.view l:=by rw[qj,if_pos rfl]
           exact⟨by simp,by rw[e];rfl,by rw[e];rfl,ω,by rw[e];exact r1,by rw[e];exact r2,g1.app⟩
          .rw[if_neg (by simp)];exact⟨a,rfl,λ_=>(B4 0).2.2,by simp,by simp⟩
        .simp at hf
   .rename_i hu;exact flat true nR (λ_=>by simp only[Value.okWide,hu]at hv;obtain⟨cs,rfl,_⟩:=hv;exact⟨cs,rfl⟩) (by simp)
   .rename_i m e hu;obtain⟨cs,rfl⟩:∃cs,v=.agg cs:=by simp only[Value.okWide,hu]at hv;obtain⟨cs,rfl,_⟩:=hv;exact⟨cs,rfl⟩
    split at nR
    .rename_i e' hue;simp only[kY]at nR;obtain⟨ke,hk,nR⟩:=nR;split at nR<;>simp at nR;rename_i hl;obtain⟨AA,AB,BV,hl4⟩:=hl;subst nR;cases fuel with
 |zero=>simp[DataW.trod]at hf|succ fuel=>
       simp only[DataW.trod,hu,Value.cells]at hf;split at hf
       .rename_i py;simp only[ef]at hf;obtain⟨xs,hx,_⟩:=hf;rw[QB,BV]at hx;obtain⟨X,bh,l,m1,m2,m3,m4,m5,m6⟩:=ayk hue hk ⟨AA,AB⟩ m 0 xs hx g3 g4;rw[xg,List.take_of_length_le ω]at m3;exact⟨H++X,bh,.g l::fz,⟨m1,m2,g1.app⟩,.cons ⟨cs.toList,by simp,m3⟩ (g2.mono λ_ _ h=>h.mono m5),m4,m6⟩
       .simp at hf
    .exact flat true nR (λ_=>⟨cs,rfl⟩) (by simp)
   .rename_i hu;exact flat false nR (by simp) (λ_=>by obtain⟨n,rfl⟩:=WideShapes.okWide_int hu hv;exact⟨_,rfl,rfl⟩)
   .rename_i hu;exact flat false nR (by simp) (λ_=>by obtain⟨n,rfl⟩:=WideShapes.okWide_bool hu hv;exact⟨_,rfl,rfl⟩)
   .rename_i hu;exact flat false nR (by simp) (λ_=>by obtain⟨n,rfl⟩:=WideShapes.okWide_string hu hv;exact⟨_,rfl,rfl⟩)
   .simp at nR
theorem azG{W W':World}{sp':Nat->Bool}(hl:laidOutB P=true):∀{ts:List TypeId}{vs:List Value}{ds:List (DataW T)}{ps:List MemPlace},(∀t∈ts,P.readableRec t=true/\t<P.types.size)->DataW.TrodAll enc P W 0 (λ_=>true) true ts vs ds ps->(∀p∈ps,W.sameAt W' p)->(∀p∈ps,sp' p.block=true)->DataW.TrodAll enc P W' 0 sp' true ts vs ds ps:=by
 intro ts;induction ts with
 |nil=>
 intro vs ds ps _ h _ _;obtain⟨rfl,rfl,rfl⟩:=ChangeShapes.trodAll_nil h;rfl|cons t ts ih=>
 intro vs ds ps hr h hs hp;obtain⟨v,vs',d,JG,p,q,rfl,rfl,rfl,h1,h2⟩:=ChangeShapes.trodAll_cons h;obtain⟨r1,r2⟩:=hr t (List.mem_cons_self ..);exact⟨p,q,WideElems.Trod_stays hl r1 r2 h1 (λx hx=>hs x (List.mem_append_left _ hx)) (λx hx=>hp x (List.mem_append_left _ hx)),ih (λt ht=>hr t (List.mem_cons_of_mem _ ht)) h2 (λx hx=>hs x (List.mem_append_right _ hx)) (λx hx=>hp x (List.mem_append_right _ hx)),rfl⟩
end
theorem anP{H:Type}{enc:TypeId×Value->H}{C:Checked}{f:FuncId}{fn:Func}{s:ChangeSpec}{A4:List zV}{sf:List AV->AH->Option AV}{tb:TypeId}{apart fresh handsOn again:Bool}(hc:aZ C.prog f λa H=>(sf a H).map λv=>(v,H))(hs:∀fz H,kj A4 fz H->sf fz H=some (.c (.b true)))(hp:KW C.prog fn.params.toList=some A4)(hl:laidOutB C.prog=true)(hr:(fn.params.toList.all λt=>C.prog.readableRec t&&decide (t<C.prog.types.size))=true)(Hv:fn.resultTypes=#[tb])(hb:C.prog.underlying tb=some .bool)(hv:s.vars=[])(Ka:∀ds:List (DataW H),ds.length=A4.length->s.fn H ds={results:=[.lit (.bool true)],args:=ds})(W:World)(base:Nat)(args:Array Value)(ds gs:List (DataW H))(before:List MemPlace)(Tl:∀(j:Nat)t v,fn.params[j]?=some t->args[j]?=some v->Value.okWide C.prog W .any base t v)(hW:DataW.Whole enc C.prog fn.params.toList s.vars apart W args.toList ds gs before):Calls C.prog f args W λe W'=>∃v,e=.returned v/\s.post enc C.prog fn apart fresh handsOn again W args v W':=by
 have hW':=hW;obtain⟨p,q,hA,hV,rfl,hfz,Ho⟩:=hW;rw[hv]at hV;obtain⟨rfl,rfl⟩:=ChangeShapes.trodVars_none hV;obtain⟨hlen,Hh,ρ,fz,h1,h2,h3,h4⟩:=agQ (w:=W) _ _ _ _ _ hp hA λj t v e1 e2=>⟨base,Tl j t v (by simpa using e1) (by simpa using e2)⟩;have hsf:=hs fz Hh h1;have xK:=hc.runs fz Hh (.c (.b true)) Hh (by simp[hsf]) ρ W args.toList h2 h3;rw[Array.toArray_toList]at xK;refine xK.mono λe W'⟨vc,bh,he,hvc,_,_,hk,_⟩=>?_;have hvb:vc=.bool true:=hvc;subst hvb;have sF:∀b,¬kZ ρ Hh b:=by rintro b⟨i,L,o1,_⟩;rw[h4 i]at o1;simp at o1
 have qm:gR W (λ_=>False) W':=⟨hk.os,hk.tape,hk.output,hk.size,λb hb _=>hk.lh b hb (sF b),λb c t f hf hm=>hk.free b c t f hf (hm.imp (λx=>x) (λx=>x.elim))⟩;have hg:=qm.grown;have SC:∀x∈p++[],W.sameAt W' x:=λx hx=>by
  have aL:=hW'.lt x hx;exact RowKit.Below.same (w':=W') ⟨qm.os,qm.tape,qm.output,qm.size,λk iq=>qm.lh k iq (λf=>f)⟩ aL
 have Tf:∀t∈fn.params.toList,C.prog.readableRec t=true/\t<C.prog.types.size:=by
  intro t ht;have:=cD.1 hr t ht;simpa using this
 refine⟨.bool true,he,ChangeShapes.post_of_same (pa:=p) (pv:=[]) hW' ?_ ?_ ?_ rfl (hg.frame _) hg.2.1 (RowKit.ok_one Hv rfl (RowKit.okWide_bool_mk hb _))⟩
 .intro b sp hd;rw[Ka (ds++[]) (by simpa using hlen),Hv];exact trodAll_cons_mk (RowKit.shut_bool hb true) ChangeShapes.trodAll_mk0
 .intro sp hsp;rw[Ka (ds++[]) (by simpa using hlen),kD];exact azG hl Tf hA (λx hx=>SC x (by simpa using hx)) (λx hx=>hsp x (by simpa using hx))
 .intro sp _;rw[hv,Ka (ds++[]) (by simpa using hlen)];rfl
variable {f:Nat}
theorem cE.fq{s:List AV->Option AV}(h:cE P f s):aZ P f λa H=>(s a).map λv=>(v,H):=by
 refine⟨h.enters,λargs H v H' hs=>?_,λargs H v H' hs ρ w cs cu hH=>?_⟩
 .simp only[ef,bD]at hs;obtain⟨_,_,_,rfl⟩:=hs;exact aC _
 .simp only[ef,bD]at hs;obtain⟨v',h1,rfl,rfl⟩:=hs;refine(h.pure args v' h1 ρ w cs cu).mono λe w'⟨vc,he,hv,hk⟩=>?_;exact⟨vc,ρ,he,hv ρ,hH.fF hk,gG.refl ρ,⟨hk.os,hk.tape,hk.output,hk.size,λb hb _=>hk.lh b hb (λf=>f),λb c t f hf hm=>by
   rcases hm with hm|hm
   .exact hk.free b c t f hf (.inl hm)
   .rcases cU b w.heap.size with aL|nO
    .rw[hk.lh b aL (λf=>f)]at hf;exact hH.frozen b c t f hf hm
    .exact hk.free b c t f hf (.inl nO)⟩,λb hb=>.inl hb⟩
variable {fz:List AV}
theorem aya(h:kj [] fz H):fz=[]:=by cases fz with|nil=>rfl|cons a r=>simp[kj]at h
theorem aeA{ps:List zV}(h:kj (.fl true ks::ps) fz H):∃l r,fz=.g l::r/\L2 kF l ks/\kj ps r H:=by cases fz with|nil=>simp[kj]at h|cons a r=>cases a<;>simp[kj]at h;exact⟨_,r,rfl,h⟩
theorem ayc{ps:List zV}(h:kj (.sl ks::ps) fz H):∃r,kj ps r H/\(fz=.c .aA::r\/∃id n,fz=.c (.sl id 0 0 n)::r/\id<H.length/\(hg H id).row=0/\(hg H id).owned=false/\n<=9223372036854775807/\(hg H id).cells.length=n*ks.length/\L2 kF (hg H id).cells (bE n ks).flatten):=by cases fz with
 |nil=>simp[kj]at h|cons a r=>cases a with
 |c s=>cases s with
     |aA=>exact⟨r,by simpa[kj]using h,.inl rfl⟩|sl id off aX n=>
 cases off<;>cases aX<;>simp[kj]at h;obtain⟨h1,h2,h3,h4,h5,h6,h7⟩:=h;exact⟨r,h7,.inr ⟨id,n,rfl,h1,h2,h3,h4,h5,h6⟩⟩|_=>simp[kj]at h
 |g l=>simp[kj]at h|t l=>simp[kj]at h
theorem wg(h:kF s (.n .i64)):∃x,s=.i x/\-9223372036854775808<=x/\x<=9223372036854775807:=by cases s with
 |i x=>exact⟨x,rfl,h⟩|k kd x=>simp only[kF]at h;obtain⟨rfl,h,_⟩:=h;simp[IntKind.bits]at h|_=>simp[kF]at h
theorem EL(h:kF s (.n .u64)):∃x,s=.u x:=by cases s with
 |u x=>exact⟨x,rfl⟩|k kd x=>simp only[kF]at h;obtain⟨rfl,h,_⟩:=h;simp[IntKind.bits]at h|_=>simp[kF]at h
theorem NB(h:kF s .q):∃x,s=.b x:=by unfold kF at h;split at h<;>simp_all
variable {l:List Sc}
theorem mK{k:K}(h:L2 kF l (k::ks)):∃s r,l=s::r/\kF s k/\L2 kF r ks:=by cases h with|cons h1 h2=>exact⟨_,_,rfl,h1,h2⟩
theorem R5(h:L2 kF l []):l=[]:=by cases h;rfl
end Go.Am
set_option linter.all false
/- Walks: the rules as one set, and steps that are taken by hand. -/
set_option maxRecDepth 100000
set_option maxHeartbeats 8000000
namespace Go.Am
variable {P:Program}{aa:je}{k:List It}{fr:Fr}{H:AH}{Q:Fr->AH->Prop}
theorem aq{n:Int}(h1:-9223372036854775808<=n)(h2:n<=9223372036854775807):az n=n:=I6 h1 h2
theorem aK{α:Type}{c:Prop}[Decidable c]{a b:α}(h:c):(if c then a else b)=a:=if_pos h
theorem aJ{α:Type}{c:Prop}[Decidable c]{a b:α}(h:¬c):(if c then a else b)=b:=if_neg h
theorem aI{p:Prop}[Decidable p](h:p):decide p=true:=decide_eq_true h
theorem aH{p:Prop}[Decidable p](h:¬p):decide p=false:=decide_eq_false h
variable {q:Bool}
theorem vd{a b:Code}(h1:q=true->BO P aa a b k Q fr H (.c (.b true)))(h2:q=false->BO P aa a b k Q fr H (.c (.b false))):BO P aa a b k Q fr H (.c (.b q)):=by
 cases q
 .exact h2 rfl
 .exact h1 rfl
variable {full:Array Oper}{os:List Oper}{op:Op}{want:Bool}
theorem vm{d:Option Nat}(h1:q=true->wm P aa full os k Q d op want fr H (.c (.b true)))(h2:q=false->wm P aa full os k Q d op want fr H (.c (.b false))):wm P aa full os k Q d op want fr H (.c (.b q)):=by
 cases q
 .exact h2 rfl
 .exact h1 rfl
variable {i:Nat}{log:List (Nat×Tc)}
theorem vn{d:Option Nat}(h1:q=true->yM P aa full os i log k Q d op want fr H (.c (.b true)))(h2:q=false->yM P aa full os i log k Q d op want fr H (.c (.b false))):yM P aa full os i log k Q d op want fr H (.c (.b q)):=by
 cases q
 .exact h2 rfl
 .exact h1 rfl
theorem Rh{c:Code}(h:aM P aa (.c c::.rK::k) fr H Q):aM P aa (.c (.scope c)::k) fr H Q:=by rw[Rc];exact .inl h
theorem eY{c:Code}(n:Nat)(F:Nat->Fr×AH)(h0:Wk (lo aa) fr H (F 0))(h:∀i,i<=n->aM P aa (.c c::.back (λfr H=>∃j,i<j/\j<=n/\Wk (lo aa) fr H (F j))::k) (F i).1 (F i).2 Q):aM P aa (.c (.loop c)::k) fr H Q:=by
 rw[rk];refine⟨{i:Nat//i<=n},λi=>F i.1,λi=>n-i.1,⟨0,fM _⟩,h0,λi=>?_⟩;have e:(λfr H=>∃j,i.1<j/\j<=n/\Wk (lo aa) fr H (F j))=(λfr H=>∃j:{i:Nat//i<=n},n-j.1<n-i.1/\Wk (lo aa) fr H (F j.1)):=by
  funext fr H;refine propext ⟨λ⟨j,h1,h2,h3⟩=>⟨⟨j,h2⟩,by have:=i.2;simp only;omega,h3⟩,λ⟨j,h1,h3⟩=>⟨j.1,by have:=i.2;have:=j.2;omega,j.2,h3⟩⟩
 have:=h i.1 i.2;rw[e]at this;exact this
variable {r:Option (AV×AH)}{z:Option (AV->AH->Prop)}{v:AV}{H':AH}
theorem ap9{d:Option Nat}(e:r=some (v,H'))(h:zb P aa full os k Q d fr (some (v,H')) z):zb P aa full os k Q d fr r z:=by rw[e];exact h
def YG(P:Program)(t len:Nat)(is:List Nat)(m:Nat)(vs:List AV)(H:AH):Option (AV×AH):=match dT P t with
 |.sl e=>match zT P e with
   |some z=>if 0<av P e/\0<len/\len*av P e<=16777216/\z.length=av P e then match xG (λi=>some (i*av P e,av P e)) (bE len z).flatten (is.zip vs)with
 |some cs=>some (.c (.sl H.length 0 cs.length len),H++[.vec (av P e) cs])|none=>none else if 0<av P e/\len=0/\m=0 then some (.c (.sl H.length 0 0 0),H++[.vec (av P e) []])else none|none=>none
 |_=>none
theorem ahW{t len m:Nat}{is:List Nat}{vs:List AV}(_:len<=24):YF P t len is m vs H=YG P t len is m vs H:=rfl
theorem aly{l:List UInt8}(h:l.length<=9223372036854775807):ev fr (.const (.string ⟨l.toArray⟩))=.c (.s ⟨l.toArray⟩):=by
 have h2:ByteArray.size ⟨l.toArray⟩<=9223372036854775807:=h;simp only[ev,oe,lf,h2,if_true]
variable {t:Nat}
theorem aga{a b:ByteArray}:cj P .add t (.c (.s a)) (.c (.s b))=if a.size+b.size<=9223372036854775807 then some (.c (.s (a++b)))else none:=rfl
def oJ(d:D)(x:AV):Option AV:=match d,x with|.sl _,.c (.sl _ _ _ len)=>some (.c (.i len))|.sl _,.c .aA=>some (.c (.i 0))|.str,.c (.s s)=>some (.c (.i s.size))|.arr n _,_=>if n<=1048576 then some (.c (.i n))else none|_,_=>none
theorem anY{x:AV}:yW P t x=oJ (dT P t) x:=rfl
theorem an1{e id off aX n:Nat}:oJ (.sl e) (.c (.sl id off aX n))=some (.c (.i n)):=rfl
variable {e:Nat}
theorem an0:oJ (.sl e) (.c .aA)=some (.c (.i 0)):=rfl
theorem an2{s:ByteArray}:oJ .str (.c (.s s))=some (.c (.i s.size)):=rfl
variable {n:Nat}
theorem anZ{x:AV}:oJ (.arr n e) x=if n<=1048576 then some (.c (.i n))else none:=rfl
theorem ahX{l:List UInt8}:ByteArray.size ⟨l.toArray⟩=l.length:=rfl
end Go.Am

/- What every seat's walks need of heaps. -/
namespace Go.Am
variable {P:Program}{aa:je}{k:List It}{fr:Fr}{H:AH}{Q:Fr->AH->Prop}
theorem Rm(hH:dk H=true)(id:Nat):(hg H id).cT.all (Sc.aj H.length)=true:=by
 rcases cU id H.length with h|h
 .have e:hg H id=H[id]:=by simp[hg,b9,h]
  rw[e];exact cD.1 hH _ (List.getElem_mem h)
 .rw[tG H h];rfl
theorem BM(hH:dk H=true)(id:Nat):(hg H id).cells.all (Sc.aj H.length)=true:=aii (Rm hH id)
variable {i:Nat}
theorem oh{o:ae}(hH:dk H=true)(ho:o.cT.all (Sc.aj H.length)=true):dk (H.set i o)=true:=Rn hH ho
variable {X:AH}
theorem td(hH:dk H=true)(hX:∀o∈X,o.cT.all (Sc.aj (H++X).length)=true):dk (H++X)=true:=by
 unfold dk;rw[fH,aQ];refine⟨cD.2 λo ho=>cD.2 λs hs=>?_,cD.2 hX⟩;have a:=cD.1 (cD.1 hH o ho) s hs;exact Sc.gJ a (by simp)
variable {A B:AH}
theorem D8(P:AH)(h:pQ A B):pQ (P++A) (P++B):=by induction P with|nil=>exact h|cons o P ih=>exact⟨.inr rfl,ih⟩
variable {m n:Nat}
theorem fg{o:ae}(h:m≠n):hg (H.set m o) n=hg H n:=am2 (by simpa using h)
variable {v:AV}{H':AH}
theorem cV{H1:AH}(hv:v.aj H1.length=true)(hs:pQ H1 H')(hb:dk H1=true)(hn:n<=H1.length):∃v',some v=some v'/\Wk n [(0,v')] H' ([(0,v)],H1):=⟨_,rfl,Wk.wk hn (by simp[Am.get]) (by simp[hv]) hs hb⟩
def Sc.num:Sc->Bool|.i _|.u _|.k _ _|.b _|.s _=>true|_=>false
theorem Sc.abx{s:Sc}(h:s.num=true)(n:Nat):s.aj n=true:=by cases s<;>first|rfl|simp[Sc.num]at h
variable {α:Type}
theorem HK{g:α->Sc}(hg:∀x,(g x).num=true)(L:List α)(n:Nat):(L.map g).all (Sc.aj n)=true:=by rw[List.all_map,cD];intro x _;exact Sc.abx (hg x) n
theorem HL{g:α->Sc}{L:List α}{k:Nat}{x:α}(h:L[k]?=some x):(L.map g).getD k .any=g x:=by rw[b9,qf,h];rfl
variable {cs l:List Sc}{off:Nat}
theorem Gm:wr cs off l=cs.take off++l++cs.drop (off+l.length):=rfl
theorem CC{cs:List Sc}{k:Nat}{s:Sc}(h:k<cs.length):wr cs k [s]=cs.set k s:=by
 unfold wr;rw[List.set_eq_take_append_cons_drop,if_pos h];simp
theorem XB{α:Type}{g:α->Sc}{L:List α}{k:Nat}{x:α}(h:k<L.length):wr (L.map g) k [g x]=(L.set k x).map g:=by rw[CC (by simpa using h),List.map_set]
def Sc.ej(σ:Nat->Nat):Sc->Sc|.p id o v=>.p (σ id) o v|.sl id o v n=>.sl (σ id) o v n|.mp id=>.mp (σ id)|.f fn cs=>.f fn (cs.map λc=>(σ c.1,c.2))|x=>x
def AV.FM(σ:Nat->Nat):AV->AV|.c s=>.c (s.ej σ)|.g l=>.g (l.map (Sc.ej σ))|.t l=>.t l
def AV.ej(σ:Nat->Nat):AV->AV|.c s=>.c (s.ej σ)|.g l=>.g (l.map (Sc.ej σ))|.t l=>.t (l.map (AV.FM σ))
def ae.ej(σ:Nat->Nat):ae->ae|.own cs=>.own (cs.map (Sc.ej σ))|.vec z cs=>.vec z (cs.map (Sc.ej σ))|.view cs=>.view (cs.map (Sc.ej σ))|.map mq es=>.map mq (es.map λe=>(e.1,e.2.1.FM σ,e.2.2.FM σ))|.iter m since seen last=>.iter (σ m) since seen last|.dead=>.dead
variable {ρ:Ro}
theorem jR.ej{σ:Nat->Nat}{id off aX:Nat}{v:Value}(h:jR ρ (σ id) off aX v):jR (λi=>ρ (σ i)) id off aX v:=h
variable {σ:Nat->Nat}{s:Sc}
theorem b6.ej{v:Value}(h:b6 ρ (s.ej σ) v):b6 (λi=>ρ (σ i)) s v:=by cases s with
 |f fn cs=>
   obtain⟨cv,h1,h2⟩:=h;refine⟨cv,h1,?_⟩;clear h1;induction cs generalizing cv with
   |nil=>simp only[iW]at h2;cases h2;exact .nil|cons c cs ih=>
     simp only[fW]at h2;cases h2 with|cons h t=>exact .cons h (ih _ t)
 |_=>exact h
theorem L2.ej{c:List Value}(h:L2 (b6 ρ) (l.map (Sc.ej σ)) c):L2 (b6 λi=>ρ (σ i)) l c:=by induction l generalizing c with|nil=>simp only[iW]at h;cases h;exact .nil|cons s l ih=>simp only[fW]at h;cases h with|cons h t=>exact .cons h.ej (ih t)
theorem V1.ej{x:AV}{v:Value}(h:V1 ρ (x.FM σ) v):V1 (λi=>ρ (σ i)) x v:=by cases x with
 |c s=>exact b6.ej h|g l=>obtain⟨cs,h1,h2⟩:=h;exact⟨cs,h1,h2.ej⟩|t l=>exact h
theorem bg.ej{x:AV}{v:Value}(h:bg ρ (x.ej σ) v):bg (λi=>ρ (σ i)) x v:=by cases x with
 |c s=>exact b6.ej h|g l=>obtain⟨cs,h1,h2⟩:=h;exact⟨cs,h1,h2.ej⟩|t l=>
 obtain⟨vs,h1,h2⟩:=h;refine⟨vs,h1,?_⟩;clear h1;induction l generalizing vs with
 |nil=>simp only[iW]at h2;cases h2;exact .nil|cons a l ih=>simp only[fW]at h2;cases h2 with|cons h t=>exact .cons (V1.ej h) (ih _ t)
variable {w:World}
theorem jJ.ej{o:ae}(h:jJ ρ w (σ i) (o.ej σ)):jJ (λi=>ρ (σ i)) w i o:=by cases o with
 |own cs=>obtain⟨L,c,t,h1,h2,h3,h4,h5,h6,h7⟩:=h;exact⟨L,c,t,h1,h2,h3,h4,h5,h6,h7.ej⟩|vec sz cs=>
   obtain⟨L,h1,h2,h3,h4,h5,h6⟩:=h;refine⟨L,h1,h2,by simpa using h3,h4,h5,?_⟩;split
   .rename_i hn;rw[if_pos hn]at h6;exact⟨by simpa using h6.1,h6.2⟩
   .rename_i hn;rw[if_neg hn]at h6;obtain⟨c,d,t,h7,h8,h9⟩:=h6;exact⟨c,d,t,h7,h8,h9.ej⟩|view cs=>
 obtain⟨L,h1,h2,h3,h4,h5,h6⟩:=h;refine⟨L,h1,h2,h3,λe=>by simpa using h4 e,h5,λj s wy=>?_⟩;obtain⟨v,h7,h8⟩:=h6 j (s.ej σ) (by rw[qf,wy];rfl);exact⟨v,h7,h8.ej⟩|map mq es=>
   obtain⟨L,tC,h1,h2,h3,h4,h5,h6,h7⟩:=h;refine⟨L,tC,h1,h2,h3,h4,h5,h6,?_⟩;clear h6;induction es generalizing tC with
   |nil=>simp only[iW]at h7;cases h7;exact .nil|cons e es ih=>simp only[fW]at h7;cases h7 with|cons h t=>exact .cons ⟨h.1,h.2.1.ej,h.2.2.ej⟩ (ih _ t)
 |iter m since seen last=>
 obtain⟨L,b,h1,h2,h3,h4,h5,h6,h7⟩:=h;exact⟨L,b,h1,h2,h3,h4,h5,b6.ej (s:=.mp m) h6,h7⟩|dead=>trivial
theorem ae.adw{σ:Nat->Nat}{o:ae}:(o.ej σ).owned=o.owned/\(o.ej σ).live=o.live:=by cases o<;>exact⟨rfl,rfl⟩
variable {dP:Fr}
theorem Wk.ej(σ:Nat->Nat)(hn:n<=H'.length)(h0:∀i,i<n->σ i=i)(SV:∀i j,(hg H' i).live=true->(hg H' j).live=true->σ i=σ j->i=j)(hf:∀p∈dP,Am.get fr p.1=p.2.ej σ)(hb:(dP.all λp=>p.2.aj H'.length)=true)(hH:∀i,hg H' i=.dead\/(hg H' i).ej σ=hg H (σ i))(ho:dk H'=true):Wk n fr H (dP,H'):=by
 intro ρ w tm h1 h2;have dg:∀i,(hg H' i).owned=true->(hg H (σ i)).owned=true:=by
  intro i hi;rcases hH i with e|e
  .rw[e]at hi;simp[ae.owned]at hi
  .rw[<-e,ae.adw.1];exact hi
 have AD:∀i,(hg H' i).live=true->(hg H (σ i)).live=true:=by
  intro i hi;rcases hH i with e|e
  .rw[e]at hi;simp[ae.live]at hi
  .rw[<-e,ae.adw.2];exact hi
 refine⟨Am.cut (λi=>ρ (σ i)) H'.length,λs=>?_,⟨λi=>?_,λi j Li Lj oF cR cB ir eU im oG=>?_,λi hi=>?_⟩,λi L hi hL S3=>?_,λi hi=>by simp only[Am.cut];rw[if_pos (CG hi hn),h0 i hi]⟩
 .rcases get_mem (fr:=dP) (s:=s)with h|h
  .show bg _ (Am.get dP s) _;rw[h];trivial
  .show bg _ (Am.get dP s) _;have e:=hf _ h;have J3:=cD.1 hb _ h;have:=h1 s;simp only at e;rw[e]at this;exact this.ej.cut J3
 .rcases cU i H'.length with hi|hi
  .show jJ _ _ _ (hg H' i);rcases hH i with e|e
   .rw[e];trivial
   .have hO:=h2.obj (σ i);rw[<-e]at hO;exact hO.ej.cut hi (Rm ho i)
  .show jJ _ _ _ (hg H' i);rw[tG _ hi];trivial
 .have hi:=dU (ae.nC cR);have hj:=dU eU;simp only at hi hj cR eU;exact h2.sep (σ i) (σ j) Li Lj (λe=>oF (SV i j (ae.nC cR) eU e)) (dg i cR) (by simpa[Am.cut,hi]using cB) ir (AD j eU) (by simpa[Am.cut,hj]using im) oG
 .simp only[Am.cut];rw[if_neg (by simp at hi;omega)]
 .have aL:=dU (ae.nC hi);simp only at hi aL;exact⟨σ i,dg i hi,by simpa[Am.cut,aL]using hL⟩
def rN(n:Nat)(aa:List Nat)(i:Nat):Nat:=if i<n then i else n+aa.getD (i-n) 0
theorem Bq{aa:List Nat}(h:i<n):rN n aa i=i:=if_pos h
theorem ayL{n:Nat}{aa:List Nat}:rN n aa n=n+aa.getD 0 0:=by unfold rN;rw[if_neg (Nat.lt_irrefl _),CH]
theorem Qa{n k:Nat}{aa:List Nat}:rN n aa (n+k)=n+aa.getD k 0:=by unfold rN;rw[if_neg ω,s9]
theorem Sc.H8{n:Nat}{aa:List Nat}{s:Sc}(h:s.aj n=true):s.ej (rN n aa)=s:=by
 cases s<;>try rfl
 .simp only[Sc.aj,decide_eq_true_eq]at h;simp only[Sc.ej,Bq h]
 .simp only[Sc.aj,decide_eq_true_eq]at h;simp only[Sc.ej,Bq h]
 .rename_i fn cs;simp only[Sc.aj,cD,decide_eq_true_eq]at h;simp only[Sc.ej];congr 1;conv=>rhs;rw[<-List.map_id cs]
  exact ME λc hc=>by simp only[Bq (h c hc)];rfl
 .simp only[Sc.aj,decide_eq_true_eq]at h;simp only[Sc.ej,Bq h]
theorem PV{n:Nat}{aa:List Nat}{l:List Sc}(h:l.all (Sc.aj n)=true):l.map (Sc.ej (rN n aa))=l:=by
 conv=>rhs;rw[<-List.map_id l]
 exact ME λs hs=>Sc.H8 (cD.1 h s hs)
theorem ae.H8{n:Nat}{aa:List Nat}{o:ae}(h:o.cT.all (Sc.aj n)=true):o.ej (rN n aa)=o:=by cases o with
 |own cs=>simp only[ae.ej,PV (l:=cs) h]|vec z cs=>simp only[ae.ej,PV (l:=cs) h]|view cs=>simp only[ae.ej,PV (l:=cs) h]|map mq es=>
   simp only[ae.ej];congr 1;have key:∀x:AV,x.cT.all (Sc.aj n)=true->x.FM (rN n aa)=x:=by
    intro x hx;cases x with
 |c s=>simp only[AV.cT,bG,dO,cX]at hx;simp only[AV.FM,Sc.H8 hx]|g l=>simp only[AV.FM,PV (l:=l) hx]|t l=>rfl
   simp only[ae.cT,List.all_flatMap,fH]at h;conv=>rhs;rw[<-List.map_id es]
   refine ME λe he=>?_;have:=cD.1 h e he;simp only[aQ]at this;simp only[key _ this.1,key _ this.2];rfl|iter m since seen last=>simp only[ae.cT,bG,dO,cX]at h;have:=Sc.H8 (n:=n) (aa:=aa) h;simp only[Sc.ej,Sc.mp.injEq]at this;simp only[ae.ej,this]|dead=>rfl
variable {H0 Y:AH}
theorem Wk.tail(aa:List Nat)(hn:n<=H0.length)(ru:dk H0=true)(aL:aa.length=Y.length)(SV:∀i j,(hg Y i).live=true->(hg Y j).live=true->aa.getD i 0=aa.getD j 0->i=j)(hf:∀p∈dP,Am.get fr p.1=p.2.ej (rN H0.length aa))(hb:(dP.all λp=>p.2.aj (H0.length+Y.length))=true)(hY:∀i,hg Y i=.dead\/(hg Y i).ej (rN H0.length aa)=hg X (aa.getD i 0))(ho:(Y.all λo=>o.cT.all (Sc.aj (H0.length+Y.length)))=true):Wk n fr (H0++X) (dP,H0++Y):=by
 have gl:∀Z i,i<H0.length->hg (H0++Z) i=hg H0 i:=λZ i h=>cL h;have gg:∀Z k,hg (H0++Z) (H0.length+k)=hg Z k:=by
  intro Z k;unfold hg;rw[b9,b9,rV ω,s9]
 have vr:∀i,i<H0.length->(hg H0 i).live=true->rN H0.length aa i=i:=λi h _=>Bq h;refine Wk.ej (rN H0.length aa) (by simp;omega) (λi hi=>Bq ω) ?_ hf (by simpa using hb) ?_ ?_
 .intro i j hi hj he;have li:=dU hi;have lj:=dU hj;rcases cU i H0.length with h1|h1
  .rw[Bq h1]at he;rcases cU j H0.length with h2|h2
   .rw[Bq h2]at he;exact he
   .obtain⟨k,rfl⟩:∃k,j=H0.length+k:=⟨j-H0.length,ω⟩;rw[Qa]at he;omega
  .obtain⟨m,rfl⟩:∃k,i=H0.length+k:=⟨i-H0.length,ω⟩;rw[Qa]at he;rcases cU j H0.length with h2|h2
   .rw[Bq h2]at he;omega
   .obtain⟨k,rfl⟩:∃k,j=H0.length+k:=⟨j-H0.length,ω⟩;rw[Qa]at he;rw[gg]at hi hj;have:=SV m k hi hj ω;omega
 .intro i;rcases cU i H0.length with h1|h1
  .rw[gl _ _ h1,Bq h1,gl _ _ h1];exact .inr (ae.H8 (Rm ru i))
  .obtain⟨k,rfl⟩:∃k,i=H0.length+k:=⟨i-H0.length,ω⟩;rw[gg,Qa,gg];exact hY k
 .exact td ru λo j3=>by
   have:=cD.1 ho o j3;simpa using this
theorem Wk.ayN{o:ae}(k:Nat)(hn:n<=H0.length)(ru:dk H0=true)(hk:hg X k=o)(ho:o.cT.all (Sc.aj H0.length)=true)(hf:∀p∈dP,Am.get fr p.1=p.2.ej (rN H0.length [k]))(hb:(dP.all λp=>p.2.aj (H0.length+1))=true):Wk n fr (H0++X) (dP,H0++[o]):=by
 refine Wk.tail [k] hn ru rfl (λi j hi hj _=>?_) hf hb (λi=>?_) ?_
 .have:=dU hi;have:=dU hj;simp only[cZ,dY]at*;omega
 .cases i with
 |zero=>exact .inr (by show o.ej _=hg X k;rw[ae.H8 ho,hk])|succ i=>exact .inl rfl
 .simp only[bG,dO,cX];exact cD.2 λs hs=>Sc.gJ (cD.1 ho s hs) ω
variable {v':AV}
theorem alL{o:ae}(k:Nat)(hn:n<=H0.length)(ru:dk H0=true)(hk:hg X k=o)(ho:o.cT.all (Sc.aj H0.length)=true)(hv:v=v'.ej (rN H0.length [k]))(hb:v'.aj (H0.length+1)=true):∃x,some v=some x/\Wk n [(0,x)] (H0++X) ([(0,v')],H0++[o]):=⟨v,rfl,Wk.ayN k hn ru hk ho (by simp[Am.get,hv]) (by simp[hb])⟩
theorem au2{n k a b c:Nat}:(AV.c (.sl n a b c)).ej (rN n [k])=.c (.sl (n+k) a b c):=by simp[AV.ej,Sc.ej,ayL]
variable {t:Nat}
theorem vR{l:Array Operand}{ts:List Nat}(h:(oJ (.sl 0) (.c s)).isSome=true):cO P aa (.call ⟨.builtin .len,l,(t::ts).toArray⟩) [.c s] H=(yW P t (.c s)).map λv=>(v,H):=by
 refine MY ?_;cases s<;>first|rfl|simp[oJ]at h
theorem azA(h:(oJ (.sl 0) (.c s)).isSome=true):ue [.c s]=.no:=by cases s<;>first|rfl|simp[oJ]at h
def Xi(σ:Nat->Nat)(X:AH):List ae->List Nat->Prop|[],[]=>True|y::Y,k::aa=>(y=.dead\/y.ej σ=hg X k)/\Xi σ X Y aa|_,_=>False
theorem aeT{σ:Nat->Nat}{X:AH}:∀{Y:List ae}{aa:List Nat},Xi σ X Y aa->aa.length=Y.length/\∀i,hg Y i=.dead\/(hg Y i).ej σ=hg X (aa.getD i 0)
 |[],[],_=>⟨rfl,λi=>.inl rfl⟩|y::Y,k::aa,h=>by
   obtain⟨h1,h2⟩:=aeT h.2;refine⟨by simp[h1],λi=>?_⟩;cases i with
   |zero=>exact h.1|succ i=>exact h2 i
 |[],k::aa,h=>h.elim|y::Y,[],h=>h.elim
theorem Wk.tl(aa:List Nat)(hn:n<=H0.length)(ru:dk H0=true)(Ho:aa.Nodup)(hY:Xi (rN H0.length aa) X Y aa)(hf:∀p∈dP,Am.get fr p.1=p.2.ej (rN H0.length aa))(hb:(dP.all λp=>p.2.aj (H0.length+Y.length))=true)(ho:(Y.all λo=>o.cT.all (Sc.aj (H0.length+Y.length)))=true):Wk n fr (H0++X) (dP,H0++Y):=by
 obtain⟨h1,h2⟩:=aeT hY;refine Wk.tail aa hn ru h1 (λi j hi hj e=>?_) hf hb h2 ho;have li:=dU hi;have lj:=dU hj;rw[<-h1]at li lj;rw[b9,b9,cM li,cM lj]at e;exact(List.getElem_inj Ho).1 (by simpa using e)
end Go.Am

namespace Go.Am
attribute [go_sem] sd Re Rb Q6 Q5 Dr Jp QW QV Q7 Rg agU agT QZ aml axV axU aps apq apr apt apo apN apM apO amq amm amp amn amr amo ay9 azl ayQ ayU ayW azd ayX azh ayS azj ayV azi ayT azm ayZ azI azN azJ azL azM azK azb ay4 ay3 ay6 ay5 azk ay2 ay8 azz azw azy azt azx azs azu azv azA aza azc aze ay7 ay1 ay0 ayY azg azf ayR azr azH CB ar1 aq2 aqk aqn aql aqm aqj aqz aqD aqA aqB aqy aqp aqs aqq aqr aqo aqu aqx aqv aqw aqt aqf aqi aqg aqh aqe aiy aiz aiA aiB aix aiN aiQ aiO aiP aiM aiD aiG aiE aiF aiC aiI aiL aiJ aiK aiH ait aiw aiu aiv ais Rf QX Ra Q0 agR ajg ajf Za vz aqa ap8 auP auO ayx ayw JU jZ Gx amE amA amD amB amF amC atW atA atC atS atY at5 atH atL atK atJ at0 atD atE at4 atB atV atN atM atT at2 atG atF aty at1 atX atI ahj agX ahm ag0 ahf ahk ahl agY ahr ag5 ag9 ag6 ag8 ag7 EF ahb ahd ahc aho ahn ahp aha Yg Yf ahe vR ag3 CO ag4 GX Option.isSome_some ahi ahh agW ag2 agV agZ ahq ag1 YG ahW aly ahX aga List.size_toArray List.toList_toArray Ep BD Jk Nat.mul_zero oU rj ahg msA Es Gd BB List.flatten_nil alz als alu alA alr alx alw alv amy amx fW iW List.map_toArray agd agt agm agp agq age ago agu agf agh agn agl agk agj agi agr ags afR af3 afX afZ af0 afS afY afW afV afU afT af1 af2 afP afQ agb agc ahw ahu ahv ahx alC ajB ajw alB ajA ajy ajz QS QT XY af4 af7 af6 af5 af8 af9 ajC ajx n9 QG Int.toNat_natCast Int.cast_ofNat_Int and_self and_true true_and if_true if_false ite_true ite_false Option.toList_some Option.toList_none zB IY Fv C2 QU aeO Af Am.look GM xG OY NC D.agg D.is rd Dg HE HD tN anY an1 an0 an2 anZ AV.cells aqb aqc aqd at7 at9 aua atw atx atq atr ats atZ at6 Sc.one Ex Ag SQ SP me gY D4 vF List.set_set dY cZ List.nil_append kD List.cons_append fo cF Gu List.getElem?_cons_succ List.getD_cons_zero List.getD_cons_succ List.zip_cons_cons List.zip_nil_right List.zip_nil_left List.take_zero List.take_nil GB List.drop_succ_cons xg List.drop_nil bG dO cX gv List.set_cons_zero List.set_cons_succ true_or or_true false_or or_false Bool.true_or Bool.or_true Bool.false_or uU decide_true decide_false beq_self_eq_true not_true_eq_false not_false_eq_true decide_eq_true_eq gD Bool.not_true En dC Bool.not_eq_eq_eq_not decide_eq_false_iff_not imp_self false_imp_iff true_imp_iff forall_const Bool.true_eq_false eq_self Bool.true_beq Bool.false_beq Bool.and_false Bool.false_and gB rJ qI rG H9 Lb AV.flat
attribute [go_sem 500]Gm
end Go.Am
