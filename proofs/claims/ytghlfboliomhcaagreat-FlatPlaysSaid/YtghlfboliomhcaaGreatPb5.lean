/- Layer 32: a world's bytes, and memory in lines: plain laws. -/
import Derived.Test.YtghlfboliomhcaaGreatPb4
import Derived.Test.YtghlfboliomhcaaGreatPb3
set_option maxRecDepth 100000
set_option maxHeartbeats 8000000
open And renaming intro->cn
open BitVec renaming ofInt->aw,toNat_ofInt->kU,toNat_add->vJ,getLsbD->Je,eq_of_getLsbD_eq->zN,getLsbD_setWidth->XF,getLsbD_ushiftRight->Qy,ushiftRight_zero->Qz,eq_of_toNat_eq->lJ,lt_def->mY,toNat_mul->By,le_def->rT,toNat_udiv->vK,toNat_sub->yp,ofNat->j7,toNat_ofNat->uT,toInt_eq_toNat_cond->xe
open Bool renaming and_eq_true->aQ,true_and->gv,false_eq_true->dC,and_true->cX,and_false->rh,false_and->nZ,or_false->uU,and_self->Mz
open Int renaming le_refl->zO,toNat_natCast->aO,tmod_eq_emod_of_nonneg->Gq,reducePow->mG
open List renaming all_nil->dO,drop_zero->xg,all_cons->bG,getElem?_map->qf,getElem?_range->QE,mem_of_mem_drop->Jg,mem_of_mem_take->Jh,getD_eq_getElem?_getD->b9,getElem?_drop->sZ,length_take->rW,getElem?_append_left->sY,getElem?_take_of_lt->yu,getElem?_append_right->rV,getElem?_eq_none->jQ,ext_getElem?->vL,append_assoc->fo,length_append->cF,all_eq_true->cD,getElem?_set->qD,getElem?_eq_getElem->cM,map_cons->fW,append_inj->uh,all_append->fH,all_map->uW,getElem?_cons_succ->Gt,length_map->s5,set_append_left->lN,map_set->CE,set_append_right->Jj,take->bV,drop->cY,replicate->bE,take_of_length_le->bR,set_set->xo,length_cons->cZ,length_nil->dY,append_nil->kD,mem_singleton->xm,eq_nil_of_length_eq_zero->uY,all_flatMap->rU
open List.cons renaming injEq->cK
open Nat renaming add_assoc->mH,lt_or_ge->cU,zero_add->oU,add_comm->yv,add_sub_cancel_left->s9,le_refl->aC,add_zero->rj,mul_one->Ep
open Option renaming map_some->n9,map_eq_some_iff->ef
open Option.some renaming injEq->ar
open Prod.mk renaming injEq->bD
namespace Go.Proofs.YtghlfboliomhcaaGreat
open Go.Am
set_option linter.all false
noncomputable section
theorem xT(x:BitVec 64):bp x=iN x:=by rw[Um,wL]
variable {m:Int}
theorem uz{n:Nat}{x:BitVec 64}:fY (64*n) x m=hasB n x m:=by unfold fY hasB;rw[xT]
variable {a:BitVec 64}
theorem N6{n:Nat}(hn:n<=4096)(h1:1<=m)(h8:m<=8):hasB n a m=true↔∀j:Int,0<=j->j<m->hasB n (a+aw 64 j) 1=true:=by
 constructor
 .intro h j j0 j1;have e:=xS hn h j0 j1;have h':=h;rw[qM]at h';have e0:(aw 64 j).toNat=j.toNat:=by rw[kU];omega
  have e2:(a+aw 64 j).toNat=a.toNat+j.toNat:=by
   rw[vJ,e0];have:=a.isLt;rw[wL]at h';omega
  rw[qM,e,e2];omega
 .intro h;have z:=h 0 ω ω;have z1:a+aw 64 0=a:=BitVec.add_zero _;rw[z1,qM]at z;have y:=h (m-1) ω ω;rw[qM]at y;have e0:(aw 64 (m-1)).toNat=(m-1).toNat:=by rw[kU];omega
  have z':=z;rw[wL]at z';have e2:(a+aw 64 (m-1)).toNat=a.toNat+(m-1).toNat:=by
   rw[vJ,e0];have:=a.isLt;omega
  rw[wL,e2]at y;rw[qM];rw[wL]at z|-;omega
variable {B:Int->BitVec 64}{l:List Pc}
theorem X6{n:Nat}(hn:n<=4096):∀{m:Int},0<=m->xH B l m->((l.all λp=>hasB n p.a p.n)=true↔∀i:Int,m<=i->i<m+jf l->hasB n (B i) 1=true):=by induction l with
 |nil=>intro m _ _;simp only[dO,jf];exact⟨λ_ i h1 h2=>ω,λ_=>trivial⟩|cons p l ih=>
   intro m h0 h;obtain⟨a1,a2,a3,a4,a6⟩:=h;have ih:=ih ω a6;have t0:=Qd a6 0;rw[xg]at t0;have pb:=N6 hn (a:=p.a) a2 ω;rw[bG,aQ,ih,pb];simp only[jf];constructor
   .rintro⟨h1,h2⟩i i1 i2;by_cases c:i<m+p.n
    .have e:=(a4 (i-m) ω ω).1;rw[show m+(i-m)=i by omega]at e;rw[e];exact h1 _ ω ω
    .exact h2 i ω ω
   .intro h;refine⟨λj j0 j1=>?_,λi i1 i2=>h i ω ω⟩;have e:=(a4 j j0 j1).1;rw[<-e];exact h _ ω ω
variable {s:Int}
theorem J2{n:Nat}{b:BitVec 64}{c:Int}(hn:n<=4096)(h:dL c s=true):jF (64*n) a b c s=((mh a b c s).all λp=>hasB n p.a p.n):=by
 have hm:1<=s/\s<=8/\0<=c/\c<s:=by simpa[dL]using h
 have e:=X6 hn (zO 0) (Hd (a:=a) (b:=b) h);rw[(Hf (a:=a) (b:=b) h).2.1,Int.zero_add]at e;rw[Bool.eq_iff_iff,e];unfold jF;by_cases c0:c=0
 .subst c0;rw[if_pos rfl,uz,N6 hn ω ω];have q:∀i:Int,ek a b 0 i=a+aw 64 i:=λi=>by unfold ek;rw[if_neg ω]
  simp only[q]
 .rw[if_neg c0,aQ,uz,uz,N6 hn ω ω,N6 hn ω ω];constructor
  .rintro⟨h1,h2⟩i i0 i1;unfold ek;by_cases ci:c<=i
   .rw[if_pos ⟨ω,ci⟩];exact h2 _ ω ω
   .rw[if_neg ω];exact h1 _ i0 ω
  .intro h;refine⟨λj j0 j1=>?_,λj j0 j1=>?_⟩
   .have:=h j j0 ω;unfold ek at this;rwa[if_neg ω]at this
   .have:=h (c+j) ω ω;unfold ek at this;rwa[if_pos ω,show c+j-c=j by omega]at this
def qF(f:Nat->BitVec 8)(N:Nat):List Int:=(List.range N).map λj=>((f j).toNat:Int)
variable {f:Nat->BitVec 8}{N:Nat}
theorem Ev:(qF f N).length=N:=by simp[qF]
variable {j:Nat}
theorem GO(h:j<N):(qF f N)[j]?=some ((f j).toNat:Int):=by
 unfold qF;rw[qf,QE h];rfl
theorem Rz:∀x∈qF f N,0<=x/\x<=255:=λx hx=>by
 unfold qF at hx;obtain⟨j,_,rfl⟩:=List.mem_map.1 hx;have:=(f j).isLt;omega
variable {L:List Int}{i:Nat}
theorem abw(hL:∀x∈L,0<=x/\x<=255)(hi:i<64):(mB L).getLsbD i=((L.getD (i/8) 0).toNat).testBit (i%8):=by induction L generalizing i with|nil=>simp[mB]|cons b L ih=>
   have hb:=hL b (by simp);obtain⟨n,rfl⟩:∃n:Nat,b=(n:Int):=⟨b.toNat,ω⟩;have hn:n<256:=ω
   show(zD (n:Int) (mB L)).getLsbD i=_;unfold zD;have eb:(aw 64 (n:Int)).getLsbD i=n.testBit i:=by
    rw[Je,kU];congr 1;omega
   rw[BitVec.getLsbD_or,BitVec.getLsbD_shiftLeft,eb];by_cases c:i<8
   .rw[show i/8=0 by omega,show i%8=i by omega];simp[c]
   .have e0:n.testBit i=false:=by
     apply Nat.testBit_lt_two_pow;have:2^8<=2^i:=Nat.pow_le_pow_right δ ω;have e8:(2:Nat)^8=256:=rfl;omega
    obtain⟨j,rfl⟩:∃j,i=j+8:=⟨i-8,ω⟩;rw[e0,show j+8-8=j by omega,ih (λx hx=>hL x (by simp[hx])) ω,show(j+8)/8=j/8+1 by omega,show(j+8)%8=j%8 by omega];simp[c,hi]
theorem aby{o n:Nat}(h:o+n<=N)(h8:n<=8):mB (((qF f N).drop o).take n)=O6 f o n:=by
 unfold O6;refine wJ λi hi=>?_;rw[abw (λx hx=>Rz x (Jg (Jh hx))) hi,b9,List.getElem?_take];by_cases c:i/8<n
 .rw[if_pos c,sZ,GO ω,decide_eq_true ω];simp[Je]
 .rw[if_neg c,decide_eq_false ω];simp
theorem az7{n:Nat}(hn:n<=4096){M:Nat×jk}{a b:BitVec 64}{c s:Int}(hm:dL c s=true)(hp:jF (64*n) a b c s=true):mB (u6 (qF (oL M.2) (64*n)) a b c s)=Sk M.2 (ek a b c) s:=by
 have jG:1<=s/\s<=8/\0<=c/\c<s:=by simpa[dL]using hm
 unfold Sk;refine wJ λi hi=>?_;unfold jF at hp;by_cases c0:c=0
 .subst c0;rw[if_pos rfl,uz]at hp;have h':=hp;rw[qM]at h';unfold u6;rw[if_pos rfl,xT,aby ω ω];unfold O6;rw[Dk hi];by_cases ci:i/8<s.toNat
  .have e:=xS hn hp (j:=((i/8:Nat):Int)) ω ω;unfold ek;rw[if_neg ω,e,aO,decide_eq_true ω,decide_eq_true ω]
  .rw[decide_eq_false ω,decide_eq_false ω];rfl
 .rw[if_neg c0,aQ,uz,uz]at hp;obtain⟨p1,p2⟩:=hp;have h1:=p1;have h2:=p2;rw[qM]at h1 h2;unfold u6;rw[if_neg c0,xT,xT];have l1:(((qF (oL M.2) (64*n)).drop (iN a)).take c.toNat).length=c.toNat:=by rw[rW,List.length_drop,Ev];omega
  rw[abw (λx hx=>by
   rcases List.mem_append.1 hx with g|g
   .exact Rz x (Jg (Jh g))
   .exact Rz x (Jg (Jh g))) hi,b9];by_cases c1:i/8<c.toNat
  .have e:=xS hn p1 (j:=((i/8:Nat):Int)) ω ω;unfold ek;rw[sY ω,yu c1,sZ,GO ω,if_neg ω,e,aO,decide_eq_true ω];simp[Je]
  .rw[rV ω,l1];by_cases c2:i/8<s.toNat
   .have e:=xS hn p2 (j:=((i/8:Nat):Int)-c) ω ω;unfold ek;rw[yu ω,sZ,GO ω,if_pos ω,e,decide_eq_true ω,show(((i/8:Nat):Int)-c).toNat=i/8-c.toNat by omega];simp[Je]
   .rw[jQ (by rw[rW];omega),decide_eq_false ω];simp
def uR(f:Nat->BitVec 8)(A:Nat->Nat)(v:BitVec 64)(m:Nat):Nat->Nat->BitVec 8|0=>f|k+1=>λj=>if j=A (m+k)then(v>>>(8*(m+k))).setWidth 8 else uR f A v m k j
theorem Xy{f:Nat->BitVec 8}{A:Nat->Nat}{v:BitVec 64}{m k:Nat}:∀{l:Nat},uR f A v m (k+l)=uR (uR f A v m k) A v (m+k) l
 |0=>rfl|l+1=>by
   funext j;show(if j=A (m+(k+l))then(v>>>(8*(m+(k+l)))).setWidth 8 else uR f A v m (k+l) j)=(if j=A (m+k+l)then(v>>>(8*(m+k+l))).setWidth 8 else uR (uR f A v m k) A v (m+k) l j);rw[Xy (l:=l),mH]
theorem Xz{f:Nat->BitVec 8}{A:Nat->Nat}{v:BitVec 64}{m o:Nat}:∀{k:Nat},(∀i,i<k->A (m+i)=o+i)->∀j,uR f A v m k j=if o<=j/\j<o+k then(v>>>(8*(m+(j-o)))).setWidth 8 else f j
 |0,_,j=>by rw[if_neg ω];rfl|k+1,h,j=>by
   show(if j=A (m+k)then _ else uR f A v m k j)=_;rw[h k ω,Xz (λi hi=>h i ω) j];by_cases c:j=o+k
   .rw[if_pos c,if_pos ω];congr 3;omega
   .rw[if_neg c];by_cases c2:o<=j/\j<o+k
    .rw[if_pos c2,if_pos ω]
    .rw[if_neg c2,if_neg ω]
variable {v:BitVec 64}
theorem auh{n m:Int}(h1:1<=n)(h0:0<=m)(h8:m+n<=8){i:Nat}(hi:(i:Int)<n):((FK v n (8*m))>>>(8*i)).setWidth 8=(v>>>(8*(m.toNat+i))).setWidth 8:=by
 have hr:Pd n (8*m)=true:=by simp[Pd];omega
 unfold FK;rw[if_pos hr];apply zN;intro j hj;rw[XF,XF,Qy,Qy];unfold ED o7;rw[Dk ω,decide_eq_true ω];have e:(8*m+((8*i+j:Nat):Int)).toNat=8*(m.toNat+i)+j:=ω
 simp only[e,gv];rw[decide_eq_true (show(0:Int)<=8*m+((8*i+j:Nat):Int)by omega),decide_eq_true (show 8*m+((8*i+j:Nat):Int)<=63 by omega),decide_eq_true (show((8*i+j:Nat):Int)<8*n by omega)];rfl
theorem ayu(hN:N<=4096):∀{m:Int}{M:Nat×jk},0<=m->xH B l m->ki N M->(∀p∈l,hasB N p.a p.n=true)->oL (Ge M l v).2=uR (oL M.2) (λi=>iN (B i)) v m.toNat (jf l).toNat:=by induction l with|nil=>intro m M _ _ _ _;rfl|cons p l ih=>
   intro m M h0 hg hM hh;obtain⟨a1,a2,a3,a4,a6⟩:=hg;have hp:=hh p (by simp);have hp':=hp;rw[qM]at hp';have t0:=Qd a6 0;rw[xg]at t0;have w1:ki N (stM M (iN p.a) p.n.toNat (FK v p.n p.s)):=afd hM ω ω ω;have e:=ih (m:=m+p.n) (M:=stM M (iN p.a) p.n.toNat (FK v p.n p.s)) ω a6 w1 (λq hq=>hh q (by simp[hq]));have e1:oL (stM M (iN p.a) p.n.toNat (FK v p.n p.s)).2=uR (oL M.2) (λi=>iN (B i)) v m.toNat p.n.toNat:=by
    funext j;rw[ao7 hM ω ω ω,Xz (o:=iN p.a) (λi hi=>?_)]
    .by_cases c:iN p.a<=j/\j<iN p.a+p.n.toNat
     .rw[if_pos c,if_pos c,a1];exact auh a2 h0 a3 ω
     .rw[if_neg c,if_neg c]
    .have q:=(a4 (i:Int) ω ω).1;rw[show((m.toNat+i:Nat):Int)=m+(i:Int)by omega,q,xS hN hp ω ω,aO]
   show oL (Ge (stM M (iN p.a) p.n.toNat (FK v p.n p.s)) l v).2=_;rw[e,e1];show _=uR _ _ _ _ (p.n+jf l).toNat;rw[show(p.n+jf l).toNat=p.n.toNat+(jf l).toNat by omega,Xy,show(m+p.n).toNat=m.toNat+p.n.toNat by omega]
theorem TH{A:Nat->Nat}{v:BitVec 64}{N o k m:Nat}(hA:∀i,i<k->A (m+i)=o+i)(h:o+k<=N):gp (qF f N) o (iK (v>>>(8*m)) k)=qF (uR f A v m k) N:=by
 apply vL;intro j;have e:=Xz (f:=f) (v:=v) hA j;have l1:((qF f N).take o).length=o:=by rw[rW,Ev];omega
 rcases cU j N with hj|hj
 .rw[GO hj,e];unfold gp;rw[nS];by_cases c1:j<o
  .rw[if_neg ω,fo,sY ω,yu c1,GO hj]
  .by_cases c2:j<o+k
   .rw[if_pos ω,sY (by rw[cF,l1,nS];omega),rV ω,l1];unfold iK;rw[qf,QE ω];show some (mA (v>>>(8*m)) (j-o))=_;unfold mA;rw[<-BitVec.shiftRight_add,show 8*m+8*(j-o)=8*(m+(j-o))by omega]
   .rw[if_neg ω,rV (by rw[cF,l1,nS];omega),cF,l1,nS,sZ,show o+k+(j-(o+k))=j by omega,GO hj]
 .rw[jQ (by rw[AQ (by rw[nS,Ev];exact h),Ev];exact hj),jQ (by rw[Ev];exact hj)]
theorem anS{n:Nat}{b:BitVec 64}{c:Int}(hn:n<=4096)(hm:dL c s=true)(hp:jF (64*n) a b c s=true):kv (qF f (64*n)) a b c s v=qF (uR f (λi=>iN (ek a b c i)) v 0 s.toNat) (64*n):=by
 have jG:1<=s/\s<=8/\0<=c/\c<s:=by simpa[dL]using hm
 unfold jF at hp;unfold kv;by_cases c0:c=0
 .subst c0;rw[if_pos rfl,uz]at hp;have h':=hp;rw[qM]at h';rw[if_pos rfl,xT];have:=TH (f:=f) (A:=λi=>iN (ek a b 0 i)) (v:=v) (N:=64*n) (o:=iN a) (k:=s.toNat) (m:=0) (λi hi=>?_) ω
  .simpa using this
  .show iN (ek a b 0 ((0+i:Nat):Int))=_;unfold ek;rw[if_neg ω,xS hn hp ω ω,oU,aO]
 .rw[if_neg c0,aQ,uz,uz]at hp;obtain⟨p1,p2⟩:=hp;have h1:=p1;have h2:=p2;rw[qM]at h1 h2;rw[if_neg c0,xT,xT];have e1:=TH (f:=f) (A:=λi=>iN (ek a b c i)) (v:=v) (N:=64*n) (o:=iN a) (k:=c.toNat) (m:=0) (λi hi=>by
 show iN (ek a b c ((0+i:Nat):Int))=_;unfold ek;rw[if_neg ω,xS hn p1 ω ω,oU,aO]) ω;have e2:=TH (f:=uR f (λi=>iN (ek a b c i)) v 0 c.toNat) (A:=λi=>iN (ek a b c i)) (v:=v) (N:=64*n) (o:=iN b) (k:=(s-c).toNat) (m:=c.toNat) (λi hi=>by
 show iN (ek a b c ((c.toNat+i:Nat):Int))=_;unfold ek;rw[if_pos ω,xS hn p2 ω ω];omega) ω;rw[Nat.mul_zero,Qz]at e1;rw[e1,e2,show s.toNat=c.toNat+(s-c).toNat by omega,Xy,oU]
theorem anT{n:Nat}{M:Nat×jk}{b:BitVec 64}{c:Int}(hn:n<=4096)(hw:ki n M)(hm:dL c s=true)(hp:jF (64*n) a b c s=true):kv (qF (oL M.2) (64*n)) a b c s v=qF (oL (Ge M (mh a b c s) v).2) (64*n):=by
 rw[anS hn hm hp];rw[J2 hn hm]at hp;have:=ayu hn (v:=v) (zO 0) (Hd (a:=a) (b:=b) hm) hw (λp hq=>cD.1 hp p hq);rw[this,(Hf (a:=a) (b:=b) hm).2.1];rfl
variable {k:Nat}
theorem TI{m:Nat}(h:((m+k:Nat):Int)<=s)(h8:s<=8):iK ((dX v (8*s))>>>(8*m)) k=iK (v>>>(8*m)) k:=by
 unfold iK;refine List.map_congr_left λi hi=>?_;rw[List.mem_range]at hi;unfold mA;congr 2;apply zN;intro j hj;simp only[XF,Qy];unfold dX;rw[Dk ω,decide_eq_true (show((8*m+(8*i+j):Nat):Int)<8*s by omega),gv]
theorem aaZ{B:List Int}{b:BitVec 64}{c:Int}(hm:dL c s=true):kv B a b c s (dX v (8*s))=kv B a b c s v:=by
 have jG:1<=s/\s<=8/\0<=c/\c<s:=by simpa[dL]using hm
 unfold kv;by_cases c0:c=0
 .rw[if_pos c0,if_pos c0];have:=TI (v:=v) (s:=s) (m:=0) (k:=s.toNat) ω ω;simp only[Nat.mul_zero,Qz]at this;rw[this]
 .rw[if_neg c0,if_neg c0];have e1:=TI (v:=v) (s:=s) (m:=0) (k:=c.toNat) ω ω;have e2:=TI (v:=v) (s:=s) (m:=c.toNat) (k:=(s-c).toNat) ω ω;simp only[Nat.mul_zero,Qz]at e1;rw[e1,e2]
theorem AP{R:List Sl}{L:List (BitVec 64)}{bK:Int}{j:Nat}:∀{k:Nat},(fv R L bK k)[j]?=if j<k/\rE R L bK j=true/\j<R.length then some z0 else R[j]?
 |0=>by simp[fv]|k+1=>by
   have ih:=AP (R:=R) (L:=L) (bK:=bK) (k:=k) (j:=j);have hl:=Cc (R:=R) (L:=L) (bK:=bK) (k:=k);simp only[fv];split
   .rename_i hb;rw[qD];by_cases e:k=j
    .subst e;rw[if_pos rfl,hl];by_cases h2:k<R.length
     .rw[if_pos h2,if_pos ⟨ω,hb,h2⟩]
     .rw[if_neg h2,if_neg (λh=>h2 h.2.2),jQ ω]
    .rw[if_neg e,ih];by_cases h2:j<k/\rE R L bK j=true/\j<R.length
     .rw[if_pos h2,if_pos ⟨ω,h2.2⟩]
     .rw[if_neg h2,if_neg (λh=>h2 ⟨ω,h.2⟩)]
   .rename_i hb;rw[ih];by_cases h2:j<k/\rE R L bK j=true/\j<R.length
    .rw[if_pos h2,if_pos ⟨ω,h2.2⟩]
    .rw[if_neg h2,if_neg (λh=>h2 ⟨?_,h.2⟩)];rcases Nat.lt_or_eq_of_le (Nat.lt_succ_iff.1 h.1)with h3|h3
     .exact h3
     .subst h3;exact(hb h.2.1).elim
variable {R:List Sl}{bK:Int}
theorem aaS{l:BitVec 64}(hj:j<8):nA R l bK j=(!decide ((j:Int)=bK)&&((R.getD j z0).is&&decide ((R.getD j z0).ln=l))):=by
 unfold nA oE;rw[AK hj];unfold Ab;rw[if_pos (AK hj),aO];simp
theorem aaV:∀{R:List Sl},R.length=8->fv R (l.map λp=>p.a/64#64) bK 8=AO R l bK:=by induction l with
 |nil=>
 intro R hR;apply vL;intro j;rw[AP,if_neg (by simp[rE])];rfl|cons p l ih=>
   intro R hR;show _=AO (jB R (p.a/64#64) bK 8) l bK;rw[<-ih (by rw[Cd,hR])];apply vL;intro j;rw[AP,AP,Fo,Cd];by_cases hj:j<8;rotate_left
   .rw[if_neg (λc=>hj c.1),if_neg (λc=>hj c.1),if_neg (λc=>hj c.1)]
   obtain⟨x,hx⟩:∃x,R[j]?=some x:=⟨_,cM ω⟩;have gx:R.getD j z0=x:=by rw[b9,hx];rfl
   have gk:(jB R (p.a/64#64) bK 8).getD j z0=if nA R (p.a/64#64) bK j=true then z0 else x:=by
    rw[b9,Fo,hx];by_cases c:nA R (p.a/64#64) bK j=true
    .rw[if_pos ⟨hj,c,ω⟩,if_pos c];rfl
    .rw[if_neg (λh=>c h.2.1),if_neg c];rfl
   have kb:=aaS (R:=R) (l:=p.a/64#64) (bK:=bK) hj;unfold rE;rw[gx,gk,hx];rw[gx]at kb;simp only[hj,hR,true_and,and_true,fW,List.mem_cons];cases c:nA R (p.a/64#64) bK j
   .rw[c]at kb;simp only[dC,if_false];have e:(!decide ((j:Int)=bK)&&(x.is&&decide (x.ln=p.a/64#64\/x.ln∈List.map (λp=>p.a/64#64) l)))=(!decide ((j:Int)=bK)&&(x.is&&decide (x.ln∈List.map (λp=>p.a/64#64) l))):=by
     have kb:=kb.symm;by_cases e1:(j:Int)=bK
     .simp[e1]
     .by_cases e2:x.ln=p.a/64#64
      .have:x.is=false:=by simpa[e1,e2]using kb
       simp[this]
      .simp[e2]
    rw[e]
   .rw[c]at kb;have kb:=kb.symm;simp only[aQ,Bool.not_eq_true',decide_eq_false_iff_not,decide_eq_true_eq]at kb;obtain⟨e1,e2,e3⟩:=kb;simp[e1,e2,e3,z0]
structure Rel(w:Fw)(z:jX):Prop where
 h:w.h=z.h
 hh:z.h<=8
 n:z.iT.n<=4096
 wf:ki z.iT.n z.iT.M
 B:w.B=qF (oL z.iT.M.2) (64*z.iT.n)R:w.R=z.R
 l:z.R.length=8
 o:∀j:Nat,z.h<=(j:Int)->z.R.getD j z0=z0
theorem anH(hR:R.length=8)(h:R.getD j z0=z0):(AO R l bK).getD j z0=z0:=by
 rw[<-aaV hR,b9,AP];split
 .rfl
 .rw[<-b9];exact h
theorem aeu{R:List Sl}{j k:Nat}{x:Sl}(h:R.getD j z0=z0)(cW:k≠j):(R.set k x).getD j z0=z0:=by rw[b9,List.getElem?_set_ne cW,<-b9];exact h
variable {w:Fw}{z:jX}
theorem Rel.step(g:Rel w z)(h:Int)(q:Ak):iQ w h q=tg z h q/\wD w h q=dD z h q/\wG w h q=dG z h q/\Rel (w.to (wB w h q) (wR w h q)) (z.to (dM z h q) (dR z h q)):=by
 have lB:w.B.length=64*z.iT.n:=by rw[g.B,Ev]
 have xC:iQ w h q=tg z h q:=by
  unfold iQ tg pL;rw[g.h,lB];cases hf:mL q.k q.a q.c q.s q.op
  .simp
  .rw[J2 g.n (Dm (b:=q.b) hf)];simp[Bool.and_assoc]
 refine⟨xC,?_⟩;cases ok:tg z h q
 .rw[ok]at xC;have e1:ie w h q=none:=by unfold ie;rw[if_neg (by simp[xC])]
  have e2:ve z h q=none:=by unfold ve;rw[if_neg (by simp[ok])]
  have e3:wB w h q=w.B:=by unfold wB;rw[e1]
  have e4:dM z h q=z.iT.M:=by unfold dM;rw[e2]
  have e5:wR w h q=w.R:=by unfold wR;rw[if_neg (by simp[xC])]
  have e6:dR z h q=z.R:=by unfold dR;rw[if_neg (by simp[ok])]
  refine⟨by unfold wD dD;rw[if_neg (by simp[xC]),if_neg (by simp[ok])],by unfold wG dG;rw[if_neg (by simp[xC]),if_neg (by simp[ok])],?_⟩;rw[e3,e4,e5,e6];exact⟨g.h,g.hh,g.n,g.wf,g.B,g.R,g.l,g.o⟩
 .rw[ok]at xC;have k1:=ok;unfold tg at k1;simp only[aQ,decide_eq_true_eq]at k1;obtain⟨k1,h0,h1⟩:=k1;have hm:=(T5 k1).1;have hp:jF (64*z.iT.n) q.a q.b q.c q.s=true:=by
   rw[J2 g.n hm];unfold pL at k1;rw[aQ]at k1;exact k1.2
  have hh:=g.hh;obtain⟨m,rfl⟩:∃m:Nat,h=(m:Int):=⟨h.toNat,ω⟩;have m8:m<8:=ω
  have eV:wV w q=dV z q:=by unfold wV dV;rw[g.B];exact az7 g.n hm hp
  have eS:yn w m q=EG z m q:=by
   unfold yn EG oE Ab;rw[AK m8,if_pos rfl,g.R,aO,gv]
  have eL:∀v,kv w.B q.a q.b q.c q.s v=qF (oL (Ge z.iT.M q.l v).2) (64*z.iT.n):=λv=>by rw[g.B];exact anT g.n g.wf hm hp
  have eK:fv w.R (fI q.a q.b q.c q.s) m 8=AO z.R q.l m:=by rw[g.R];exact aaV g.l
  have eB:wB w m q=qF (oL (dM z m q).2) (64*z.iT.n):=by
   unfold wB ie dM ve;rw[if_pos xC,if_pos ok,eV,eS];by_cases k3:q.k=3
   .rw[if_pos k3,if_pos k3];exact eL _
   rw[if_neg k3,if_neg k3];by_cases k4:q.k=4
   .rw[if_pos k4,if_pos k4];exact eL _
   rw[if_neg k4,if_neg k4];by_cases k6:q.k=6
   .rw[if_pos k6,if_pos k6];cases EG z m q
    .exact g.B
    .rw[if_pos rfl,if_pos rfl];simp only;rw[aaZ hm];exact eL _
   rw[if_neg k6,if_neg k6];by_cases k8:q.k=8
   .rw[if_pos k8];by_cases hv:dV z q=q.o
    .rw[if_pos hv];exact eL _
    .rw[if_neg hv];exact g.B
   rw[if_neg k8];exact g.B
  have eR1:nI w m q=Aj z m q:=by
   unfold nI ie Aj ve;rw[if_pos xC,if_pos ok,eV,eS];by_cases k3:q.k=3
   .rw[if_pos k3,if_pos k3];exact eK
   rw[if_neg k3,if_neg k3];by_cases k4:q.k=4
   .rw[if_pos k4,if_pos k4];exact eK
   rw[if_neg k4,if_neg k4];by_cases k6:q.k=6
   .rw[if_pos k6,if_pos k6];cases EG z m q
    .exact g.R
    .rw[if_pos rfl,if_pos rfl];exact eK
   rw[if_neg k6,if_neg k6];by_cases k8:q.k=8
   .rw[if_pos k8];by_cases hv:dV z q=q.o
    .rw[if_pos hv];exact eK
    .rw[if_neg hv];exact g.R
   rw[if_neg k8];exact g.R
  have sT:∀(R:List Sl)(x:Sl),mV R (m:Int) x=R.set m x:=λR x=>by unfold mV;rw[if_pos (AK m8),aO]
  have eR:wR w m q=dR z m q:=by
   unfold wR dR;rw[if_pos xC,if_pos ok,eR1,g.R,sT,sT,aO]
  have oz:∀j:Nat,z.h<=(j:Int)->(Aj z m q).getD j z0=z0:=λj hj=>by
   unfold Aj;split
   .exact anH g.l (g.o j hj)
   .exact g.o j hj
  refine⟨?_,?_,⟨g.h,g.hh,g.n,Zm g.wf,eB,eR,Zp g.l,λj hj=>?_⟩⟩
  .unfold wD dD;rw[if_pos xC,if_pos ok,eV]
  .unfold wG dG;rw[if_pos xC,if_pos ok,eV,eS]
  .have yU:z.h<=(j:Int):=hj;show(dR z m q).getD j z0=z0;unfold dR;rw[if_pos ok,sT,sT];have cW:m≠j:=ω
   split
   .exact aeu (g.o j hj) cW
   .split
    .exact aeu (oz j hj) cW
    .exact oz j hj
theorem Rel.ld(g:Rel w z):AR w.B a 8=.t [.c (.u (ldU z.iT a 8)),.c (.b (TJ z.iT a 8))]:=by
 have lB:w.B.length=64*z.iT.n:=by rw[g.B,Ev]
 unfold AR ldU TJ;rw[lB,uz];cases hb:hasB z.iT.n a 8
 .rw[if_neg (by simp)];simp
 .have qN:=hb;rw[qM]at qN;rw[if_pos ⟨rfl,δ⟩,g.B,xT,aby ω δ];simp
variable {h:Int}
section
variable {H:AH}
def FZ(args:List AV)(H:AH):Option AV:=match args with|[.c (.p p 0 0),.c (.i h)]=>(EN H p).map λz=>if 0<=h/\h<z.h then .t [.c (.u (z.R.getD h.toNat z0).ln),.c (.b (z.R.getD h.toNat z0).is)]else .t [.c (.u 0#64),.c (.b false)]|_=>none
theorem awR{z:Fw}(hI:jW H z):FZ [.c (.p z.p 0 0),.c (.i h)] H=some (if 0<=h/\h<z.h then .t [.c (.u (z.R.getD h.toNat z0).ln),.c (.b (z.R.getD h.toNat z0).is)]else .t [.c (.u 0#64),.c (.b false)]):=by simp only[FZ,Sg hI,n9]
theorem arz:aZ Tryz.prog 50 (λargs H=>(FZ args H).map λv=>(v,H)):=by
 refine iR (s:=FZ) (tq Ux tn) Tryz.func50 rfl Tryz.results50 Tryz.ntmps50 ?_;intro args H v h bM hH;unfold FZ at h;split at h<;>try(simp at h;done)
 rename_i p h0;rw[ef]at h;obtain⟨z,hz,rfl⟩:=h;obtain⟨hI,rfl⟩:=Sf hz;refine⟨by simp,by split<;>rfl,?_⟩;have ht:=λX=>VK (hI.app X) (h:=h0);have On:=VK hI (h:=h0);by_cases c:0<=h0/\h0<z.h
 .rw[if_pos c];rw[decide_eq_true c.1,decide_eq_true c.2]at ht On;have hh:=hI.hh;obtain⟨m,rfl⟩:∃m:Nat,h0=(m:Int):=⟨h0.toNat,ω⟩;have m8:m<8:=ω
  have mI:(m:Int)<8:=ω
  have m0:(0:Int)<=(m:Int):=ω
  obtain⟨x,hx⟩:∃x,z.R[m]?=some x:=⟨_,cM (by rw[hI.l];exact m8)⟩;have gx:z.R.getD m z0=x:=by rw[b9,hx];rfl
  rw[aO,gx];have oo:=hI.o;have g3:=aab (s:=z) hx;have l0:=yK hI.l hI.lm;have g4:(eE z z.R).getD (5+m*2) .any=.b x.is:=by
   have:=congrArg (λl=>l.getD 0 .any) g3;simpa[b9,yj]using this
  have g5:(eE z z.R).getD (5+m*2+1) .any=.u x.ln:=by
   have:=congrArg (λl=>l.getD 1 .any) g3;simpa[b9,yj]using this
  have g6:5+m*2+1<=343:=ω
  have g7:5+m*2+1+1<=343:=ω
  simp only[go_sem,seval,ht,On,oo,l0,mI,m0,g4,g5,g6,g7,aO];exact aE _
 .rw[if_neg c];have e:(decide (0<=h0)&&decide (h0<z.h))=false:=by
   rw[<-Bool.not_eq_true];simpa using λa b=>c ⟨a,b⟩
  rw[e]at ht On;simp only[go_sem,seval,ht,On];exact aE _
end
variable {H:AH}
section
variable {α:Type}
def MH(enc:α->List Sc)(ok:α->Prop)(H:AH)(x:Sc)(a:α):Prop:=∃id A B,x=.p id A.length 0/\hg H id=.own (A++(enc a++B))/\ok a
noncomputable def GL(enc:α->List Sc)(ok:α->Prop)(H:AH)(x:Sc):Option α:=by classical exact if h:∃a,MH enc ok H x a then some h.choose else none
theorem Yl{enc:α->List Sc}{ok:α->Prop}{H:AH}{x:Sc}{a:α}(h:GL enc ok H x=some a):MH enc ok H x a:=by
 unfold GL at h;split at h
 .rename_i h1;simp only[ar]at h;rw[<-h];exact h1.choose_spec
 .simp at h
structure QL(enc:α->List Sc)(ok:α->Prop)(n:Nat):Prop where
 l:∀a,ok a->(enc a).length=n
 i:∀a b,ok a->ok b->enc a=enc b->a=b
theorem Ym{enc:α->List Sc}{ok:α->Prop}{n:Nat}(e:QL enc ok n){H:AH}{x:Sc}{a:α}(h:MH enc ok H x a):GL enc ok H x=some a:=by
 have h1:∃a,MH enc ok H x a:=⟨a,h⟩;unfold GL;rw[dif_pos h1];obtain⟨id,A,B,hx,ho,ha⟩:=h;obtain⟨pA,A',B',B6,j3,EV⟩:=h1.choose_spec;rw[hx]at B6;simp only[Sc.p.injEq,and_true]at B6;obtain⟨rfl,hl⟩:=B6;rw[ho]at j3;simp only[ae.own.injEq]at j3;obtain⟨_,h2⟩:=uh j3 hl;obtain⟨h3,_⟩:=uh h2 (by rw[e.l _ ha,e.l _ EV]);rw[e.i _ _ ha EV h3]
def setAt(enc:α->List Sc)(n:Nat)(H:AH)(x:Sc)(a:α):AH:=match x with|.p id off _=>H.set id (.own ((hg H id).cells.take off++(enc a++(hg H id).cells.drop (off+n))))|_=>H
theorem IU{enc:α->List Sc}{n:Nat}{H:AH}{x:Sc}{a:α}:(setAt enc n H x a).length=H.length:=by unfold setAt;split<;>simp
theorem D3{enc:α->List Sc}{n:Nat}{id:Nat}{A B:List Sc}{a b:α}(ho:hg H id=.own (A++(enc a++B)))(hl:(enc a).length=n):setAt enc n H (.p id A.length 0) b=H.set id (.own (A++(enc b++B))):=by
 simp only[setAt,ho,ae.cells];rw[List.take_left,<-fo A (enc a) B,List.drop_left' (by rw[cF,hl])]
theorem aeq{enc:α->List Sc}{n:Nat}{id:Nat}{A B:List Sc}{a b:α}(ho:hg H id=.own (A++(enc a++B)))(hl:(enc a).length=n)(hb:∀m,(enc b).all (Sc.aj m)=true)(hH:dk H=true):dk (setAt enc n H (.p id A.length 0) b)=true:=by
 rw[D3 ho hl];refine oh hH ?_;have aD:id<H.length:=dU (by rw[ho];rfl);have:=BM hH id;rw[ho]at this;simp only[ae.cells,ae.cT,fH,aQ]at this|-;exact⟨this.1,hb _,this.2.2⟩
end
def iA(w:BitVec 32):Sc:=.k .u32 (w.toNat:Int)
theorem Uo(w:BitVec 32):aw 32 (w.toNat:Int)=w:=by
 apply lJ;rw[kU];have:=w.isLt;omega
theorem XC(w:BitVec 32):IntKind.u32.wrap ((w.toNat:Nat):Int)=(w.toNat:Int):=by
 have:=w.isLt;simp[IntKind.wrap,IntKind.bits,IntKind.signed];omega
section
variable {P:Program}{t:Nat}{x y:Int}
theorem ah9:cj P .and t (.c (.k .u32 x)) (.c (.k .u32 y))=some (.c (.k .u32 ((aw 32 x&&&aw 32 y).toNat:Int))):=QS.trans (congrArg (λz=>some (AV.c (Sc.k .u32 z))) (XC (aw 32 x&&&aw 32 y)))
theorem aia:cj P .or t (.c (.k .u32 x)) (.c (.k .u32 y))=some (.c (.k .u32 ((aw 32 x|||aw 32 y).toNat:Int))):=QT.trans (congrArg (λz=>some (AV.c (Sc.k .u32 z))) (XC (aw 32 x|||aw 32 y)))
theorem ah8:cj P .andNot t (.c (.k .u32 x)) (.c (.k .u32 y))=some (.c (.k .u32 ((aw 32 x&&&~~~(aw 32 y)).toNat:Int))):=XY.trans (congrArg (λz=>some (AV.c (Sc.k .u32 z))) (XC (aw 32 x&&&~~~(aw 32 y))))
end
theorem amw(fr:Fr)(s:Nat):Am.get fr s=.c .any\/∃p∈fr,p.1=s/\Am.get fr s=p.2:=by induction fr with
 |nil=>exact .inl rfl|cons a r ih=>
   obtain⟨d,v⟩:=a;by_cases h:d=s
   .exact .inr ⟨(d,v),by simp,h,by simp[Am.get,h]⟩
   .have e:Am.get ((d,v)::r) s=Am.get r s:=by simp[Am.get,h]
    rw[e];rcases ih with h1|⟨p,h1,h2,h3⟩
    .exact .inl h1
    .exact .inr ⟨p,by simp[h1],h2,h3⟩
theorem Wk.fq{n:Nat}{fr dP:Fr}(hf:∀p∈dP,Am.get fr p.1=p.2):Wk n fr H (dP,H):=λρ w tm h1 h2=>⟨ρ,λs=>by
   show bg ρ (Am.get dP s) (tm s);rcases amw dP s with e|⟨p,hp,rfl,e⟩
   .rw[e];exact trivial
   .rw[e,<-hf p hp];exact h1 p.1,h2,λi _ hi hL _=>⟨i,hi,hL⟩,λ_ _=>rfl⟩
structure Ck where
 n:Int
 t:BitVec 64
 c:List (BitVec 64)s:List Bool
def aT(x:Ck):List Sc:=.i x.n::.u x.t::(x.c.map Sc.u++x.s.map Sc.b)
structure gF(x:Ck):Prop where
 c:x.c.length=8
 s:x.s.length=8
 n0:0<=x.n
 n1:x.n<=8
theorem fT{x:Ck}(h:gF x):(aT x).length=18:=by simp[aT,h.c,h.s]
theorem Fy{α β:Type}{f:α->β}(hf:∀a b,f a=f b->a=b):∀{l m:List α},l.map f=m.map f->l=m
 |[],[],_=>rfl|[],_::_,h=>by simp at h|_::_,[],h=>by simp at h|a::l,b::m,h=>by
   simp only[fW,cK]at h;rw[hf _ _ h.1,Fy hf h.2]
theorem RH:QL aT gF 18:=⟨λa h=>fT h,λa b ha hb h=>by
 simp only[aT,cK,Sc.i.injEq,Sc.u.injEq]at h;obtain⟨h1,h2,h3⟩:=h;obtain⟨h4,h5⟩:=uh h3 (by simp[ha.c,hb.c]);have h6:=Fy (λ_ _ h=>Sc.u.inj h) h4;have h7:=Fy (λ_ _ h=>Sc.b.inj h) h5;cases a;cases b;simp only at h1 h2 h6 h7;subst h1 h2 h6 h7;rfl⟩
theorem M9(x:Ck)(n:Nat):(aT x).all (Sc.aj n)=true:=by
 simp only[aT,bG,fH,uW,aQ];exact⟨rfl,rfl,cD.2 λ_ _=>rfl,cD.2 λ_ _=>rfl⟩
theorem Nb(x:Ck):(aT x).getD 0 .any=.i x.n:=rfl
theorem Nc(x:Ck):(aT x).getD 1 .any=.u x.t:=rfl
theorem Nd{x:Ck}(h:gF x)(hk:k<8):(aT x).getD (2+k) .any=.u (x.c.getD k 0#64):=by
 simp only[aT,b9,yv 2 k,Gt];rw[sY (by simp[h.c];omega),qf,cM (by have:=h.c;omega)];rfl
theorem RI{x:Ck}(h:gF x)(hk:k<8):(aT x).getD (10+k) .any=.b (x.s.getD k false):=by
 simp only[aT,b9,show 10+k=(8+k)+1+1 by omega,Gt];rw[rV (by simp[h.c]),s5,h.c,s9,qf,cM (by have:=h.s;omega)];rfl
theorem RJ(x:Ck)(v:BitVec 64):wr (aT x) 1 [.u v]=aT {x with t:=v}:=rfl
theorem RK{x:Ck}(h:gF x)(hk:k<8)(v:BitVec 64):wr (aT x) (2+k) [.u v]=aT {x with c:=x.c.set k v}:=by
 rw[CC (by rw[fT h];omega),yv];show .i x.n::.u x.t::((x.c.map Sc.u++x.s.map Sc.b).set k (.u v))=_;rw[lN _ _ (by simp[h.c];omega),<-CE];rfl
theorem YY{x:Ck}(h:gF x)(hk:k<8)(v:Bool):wr (aT x) (10+k) [.b v]=aT {x with s:=x.s.set k v}:=by
 rw[CC (by rw[fT h];omega),show 10+k=(8+k)+1+1 by omega];show .i x.n::.u x.t::((x.c.map Sc.u++x.s.map Sc.b).set (8+k) (.b v))=_;rw[Jj _ _ (by simp[h.c]),s5,h.c,s9,<-CE];rfl
theorem gF.t{x:Ck}(h:gF x)(v:BitVec 64):gF {x with t:=v}:=⟨h.c,h.s,h.n0,h.n1⟩
theorem gF.axY{x:Ck}(h:gF x)(k:Nat)(v:BitVec 64):gF {x with c:=x.c.set k v}:=⟨by simp[h.c],h.s,h.n0,h.n1⟩
theorem gF.axZ{x:Ck}(h:gF x)(k:Nat)(v:Bool):gF {x with s:=x.s.set k v}:=⟨h.c,by simp[h.s],h.n0,h.n1⟩
structure Ca where
 k:Nat
 h:Nat
 up:BitVec 64
def cb(n:Int)(off:BitVec 64)(size:Int):Ca:=if size=4/\off%4#64=0#64/\off/4#64<aw 64 n then⟨1,(off/4#64).toNat,0#64⟩else if(¬size=4/\¬size=8)\/¬off%aw 64 size=0#64 then⟨0,0,0#64⟩else if 0#64<aw 64 n/\off-off%8#64=49144#64 then⟨3,0,off%8#64*8#64⟩else if 16384#64<=off-off%8#64/\off-off%8#64<16384#64+8#64*aw 64 n then⟨2,((off-off%8#64-16384#64)/8#64).toNat,off%8#64*8#64⟩else⟨0,0,0#64⟩
variable {n:Int}
theorem Jw(n0:0<=n)(n1:n<=8)(off:BitVec 64)(size:Int):(cb n off size).h<8:=by
 have e:(aw 64 n).toNat=n.toNat:=by rw[kU];omega
 unfold cb;split
 .rename_i h;have h:=h.2.2;rw[mY,e]at h;show(off/4#64).toNat<8;omega
 .split
  .decide
  .split
   .show(0:Nat)<8;decide
   .split
    .rename_i h;obtain⟨h1,h⟩:=h;rw[mY,vJ,By,e]at h;rw[rT]at h1;have e1:(16384#64).toNat=16384:=rfl;have e2:(8#64).toNat=8:=rfl;rw[e1,e2]at h;rw[e1]at h1;show((off-off%8#64-16384#64)/8#64).toNat<8;rw[vK,yp,e1,e2];omega
    .decide
structure Pk where
 n:Int
 p:List Int
 w:BitVec 32
 q:BitVec 32
 s:BitVec 32
 e:List (BitVec 32)l:List Int
def k8(x:Int):Sc:=.k .u8 x
def eh(x:Pk):List Sc:=.i x.n::(x.p.map k8++(iA x.w::iA x.q::iA x.s::(x.e.map iA++x.l.map k8)))
structure cG(x:Pk):Prop where
 p:x.p.length=32
 e:x.e.length=16
 l:x.l.length=16
 n0:0<=x.n
 n1:x.n<=8
 p7:∀k,0<=x.p.getD k 0/\x.p.getD k 0<=7
 l7:∀k,0<=x.l.getD k 0/\x.l.getD k 0<=7
theorem zg{x:Pk}(h:cG x):(eh x).length=68:=by simp[eh,h.p,h.e,h.l]
theorem Qh(a b:BitVec 32)(h:iA a=iA b):a=b:=by
 simp only[iA,Sc.k.injEq,true_and]at h;exact lJ ω
theorem aaN(a b:Int)(h:k8 a=k8 b):a=b:=by simpa[k8]using h
theorem UY:QL eh cG 68:=⟨λa h=>zg h,λa b ha hb h=>by
 simp only[eh,cK,Sc.i.injEq]at h;obtain⟨h1,h2⟩:=h;obtain⟨h3,h4⟩:=uh h2 (by simp[ha.p,hb.p]);simp only[cK]at h4;obtain⟨h5,h6,h7,h8⟩:=h4;obtain⟨h9,oD⟩:=uh h8 (by simp[ha.e,hb.e]);have g3:=Fy aaN h3;have g9:=Fy Qh h9;have Hb:=Fy aaN oD;have g5:=Qh _ _ h5;have g6:=Qh _ _ h6;have g7:=Qh _ _ h7;clear h2 h3 h5 h6 h7 h8 h9 oD ha hb;cases a;cases b;simp only at h1 g3 g5 g6 g7 g9 Hb;subst h1 g3 g5 g6 g7 g9 Hb;rfl⟩
theorem aus(x:Pk)(n:Nat):(eh x).all (Sc.aj n)=true:=by
 simp only[eh,bG,fH,uW,aQ];exact⟨rfl,cD.2 λ_ _=>rfl,rfl,rfl,rfl,cD.2 λ_ _=>rfl,cD.2 λ_ _=>rfl⟩
theorem auz{x:Pk}(h:cG x)(hk:k<32):(eh x).getD (1+k) .any=k8 (x.p.getD k 0):=by
 simp only[eh,b9,yv 1 k,Gt];rw[sY (by simp[h.p];omega),qf,cM (by have:=h.p;omega)];rfl
theorem KX{x:Pk}(h:cG x)(k:Nat):(eh x).getD (33+k) .any=(iA x.w::iA x.q::iA x.s::(x.e.map iA++x.l.map k8)).getD k .any:=by
 simp only[eh,b9,show 33+k=(32+k)+1 by omega,Gt];rw[rV (by simp[h.p]),s5,h.p,s9]
theorem auC{x:Pk}(h:cG x):(eh x).getD 33 .any=iA x.w:=KX h 0
theorem auA{x:Pk}(h:cG x):(eh x).getD 34 .any=iA x.q:=KX h 1
theorem auB{x:Pk}(h:cG x):(eh x).getD 35 .any=iA x.s:=KX h 2
theorem auw{x:Pk}(h:cG x)(hk:k<16):(eh x).getD (36+k) .any=iA (x.e.getD k 0#32):=by
 rw[show 36+k=33+(k+1+1+1)by omega,KX h];simp only[b9,Gt];rw[sY (by simp[h.e];omega),qf,cM (by have:=h.e;omega)];rfl
theorem auy{x:Pk}(h:cG x)(hk:k<16):(eh x).getD (52+k) .any=k8 (x.l.getD k 0):=by
 rw[show 52+k=33+(16+k+1+1+1)by omega,KX h];simp only[b9,Gt];rw[rV (by simp[h.e]),s5,h.e,s9,qf,cM (by have:=h.l;omega)];rfl
theorem auF{x:Pk}(h:cG x)(hk:k<32)(v:Int):wr (eh x) (1+k) [k8 v]=eh {x with p:=x.p.set k v}:=by
 rw[CC (by rw[zg h];omega),yv];show .i x.n::((x.p.map k8++_).set k (k8 v))=_;rw[lN _ _ (by simp[h.p];omega),<-CE];rfl
theorem KY{x:Pk}(h:cG x)(hk:k<35)(v:Sc):wr (eh x) (33+k) [v]=.i x.n::(x.p.map k8++(iA x.w::iA x.q::iA x.s::(x.e.map iA++x.l.map k8)).set k v):=by
 rw[CC (by rw[zg h];omega),show 33+k=(32+k)+1 by omega];show .i x.n::((x.p.map k8++_).set (32+k) v)=_;rw[Jj _ _ (by simp[h.p]),s5,h.p,s9]
theorem auI{x:Pk}(h:cG x)(v:BitVec 32):wr (eh x) 33 [iA v]=eh {x with w:=v}:=KY (k:=0) h δ _
theorem auG{x:Pk}(h:cG x)(v:BitVec 32):wr (eh x) 34 [iA v]=eh {x with q:=v}:=KY (k:=1) h δ _
theorem auH{x:Pk}(h:cG x)(v:BitVec 32):wr (eh x) 35 [iA v]=eh {x with s:=v}:=KY (k:=2) h δ _
theorem auD{x:Pk}(h:cG x)(hk:k<16)(v:BitVec 32):wr (eh x) (36+k) [iA v]=eh {x with e:=x.e.set k v}:=by
 rw[show 36+k=33+(k+1+1+1)by omega,KY h ω];show .i x.n::(x.p.map k8++(iA x.w::iA x.q::iA x.s::((x.e.map iA++x.l.map k8).set k (iA v))))=_;rw[lN _ _ (by simp[h.e];omega),<-CE];rfl
theorem auE{x:Pk}(h:cG x)(hk:k<16)(v:Int):wr (eh x) (52+k) [k8 v]=eh {x with l:=x.l.set k v}:=by
 rw[show 52+k=33+(16+k+1+1+1)by omega,KY h ω];show .i x.n::(x.p.map k8++(iA x.w::iA x.q::iA x.s::((x.e.map iA++x.l.map k8).set (16+k) (k8 v))))=_;rw[Jj _ _ (by simp[h.e]),s5,h.e,s9,<-CE];rfl
theorem aak{l:List Int}(h:∀k,0<=l.getD k 0/\l.getD k 0<=7){i:Nat}{v:Int}(hv:0<=v/\v<=7)(k:Nat):0<=(l.set i v).getD k 0/\(l.set i v).getD k 0<=7:=by
 have:=h k;simp only[b9,qD]at this|-;split
 .split
  .exact hv
  .simp
 .exact this
theorem cG.aet{x:Pk}{v:Int}(h:cG x)(k:Nat)(hv:0<=v/\v<=7):cG {x with p:=x.p.set k v}:=⟨by simp[h.p],h.e,h.l,h.n0,h.n1,aak h.p7 hv,h.l7⟩
theorem cG.aes{x:Pk}{v:Int}(h:cG x)(k:Nat)(hv:0<=v/\v<=7):cG {x with l:=x.l.set k v}:=⟨h.p,h.e,by simp[h.l],h.n0,h.n1,h.p7,aak h.l7 hv⟩
theorem cG.Gb{x:Pk}(h:cG x)(k:Nat)(v:BitVec 32):cG {x with e:=x.e.set k v}:=⟨h.p,by simp[h.e],h.l,h.n0,h.n1,h.p7,h.l7⟩
theorem cG.qX{x:Pk}(h:cG x)(w q s:BitVec 32):cG {x with w:=w,q:=q,s:=s}:=⟨h.p,h.e,h.l,h.n0,h.n1,h.p7,h.l7⟩
def yH(p:List Int)(am:BitVec 32)(ab:Int)(i:Nat):Bool:=decide (am>>>i&&&1#32=1#32)&&decide (ab<p.getD i 0)
def jD(p:List Int)(am:BitVec 32)(ab:Int):Nat->Nat|0=>0|k+1=>if(yH p am ab (k+1)&&(decide (jD p am ab k=0)||decide (p.getD (jD p am ab k) 0<p.getD (k+1) 0)))=true then k+1 else jD p am ab k
theorem Js{p:List Int}{am:BitVec 32}{ab:Int}:∀k,jD p am ab k<=k
 |0=>aC 0|k+1=>by
   have:=Js (p:=p) (am:=am) (ab:=ab) k;unfold jD;split<;>omega
def dh(i:Nat):BitVec 32:=1#32<<<i
structure Pa where
 k:Int
 i:Nat
def bJ(n:Int)(off:BitVec 64)(size:Int):Pa:=if¬size=4\/¬off%4#64=0#64\/aw 64 (2*n)=0#64 then⟨0,0⟩else if 4#64<=off/\off<128#64 then⟨1,(off/4#64).toNat⟩else if off=4096#64 then⟨2,0⟩else if 8192#64<=off/\off<8192#64+128#64*aw 64 (2*n)/\off%128#64=0#64 then⟨3,((off-8192#64)/128#64).toNat⟩else if 2097152#64<=off/\off<2097152#64+4096#64*aw 64 (2*n)/\off%4096#64=0#64 then⟨4,((off-2097152#64)/4096#64).toNat⟩else if 2097152#64<=off/\off<2097152#64+4096#64*aw 64 (2*n)/\off%4096#64=4#64 then⟨5,((off-2097152#64)/4096#64).toNat⟩else⟨0,0⟩
variable {off:BitVec 64}
theorem T2{a b:Nat}(n0:0<=n)(n1:n<=8)(ha:a<=2097152)(hb:b=128\/b=4096)(h1:j7 64 a<=off)(h2:off<j7 64 a+j7 64 b*aw 64 (2*n)):((off-j7 64 a)/j7 64 b).toNat<16:=by
 have e:(aw 64 (2*n)).toNat=2*n.toNat:=by rw[kU];omega
 have ea:(j7 64 a).toNat=a:=by rw[uT];omega
 have eb:(j7 64 b).toNat=b:=by rw[uT];omega
 rw[mY,vJ,By,e,ea,eb]at h2;rw[rT,ea]at h1;rw[vK,yp,ea,eb];have:=off.isLt;have hn:n.toNat<=8:=ω
 rcases hb with rfl|rfl<;>omega
theorem KZ(n0:0<=n)(n1:n<=8)(off:BitVec 64)(size:Int):(bJ n off size).i<32/\((bJ n off size).k≠1->(bJ n off size).i<16):=by
 unfold bJ;split
 .exact⟨by show(0:Nat)<32;decide,λ_=>by show(0:Nat)<16;decide⟩
 split
 .rename_i h;have h:=h.2;rw[mY]at h;have e1:(128#64).toNat=128:=rfl;rw[e1]at h;refine⟨?_,λc=>absurd rfl c⟩;show(off/4#64).toNat<32;rw[vK];have e1:(4#64).toNat=4:=rfl;rw[e1];omega
 split
 .exact⟨by show(0:Nat)<32;decide,λ_=>by show(0:Nat)<16;decide⟩
 split
 .rename_i h;have:=T2 n0 n1 (a:=8192) (b:=128) δ (.inl rfl) h.1 h.2.1;exact⟨Nat.lt_trans this δ,λ_=>this⟩
 split
 .rename_i h;have:=T2 n0 n1 (a:=2097152) (b:=4096) δ (.inr rfl) h.1 h.2.1;exact⟨Nat.lt_trans this δ,λ_=>this⟩
 split
 .rename_i h;have:=T2 n0 n1 (a:=2097152) (b:=4096) δ (.inr rfl) h.1 h.2.1;exact⟨Nat.lt_trans this δ,λ_=>this⟩
 .exact⟨by show(0:Nat)<32;decide,λ_=>by show(0:Nat)<16;decide⟩
noncomputable def r9(H:AH)(x:Sc):Option Ck:=GL aT gF H x
def yF(H:AH)(x:Sc)(c:Ck):AH:=setAt aT 18 H x c
structure QJ(H:AH)(id o:Nat)(cs:List Sc)(c:Ck)(F:Ck->List Sc):Prop where
 ok:gF c
 ho:hg H id=.own cs
 aD:id<H.length
 q:o+18<=cs.length
 d0:cs.getD o .any=.i c.n
 d1:cs.getD (o+1) .any=.u c.t
 dc:∀k,k<8->cs.getD (o+2+k) .any=.u (c.c.getD k 0#64)ds:∀k,k<8->cs.getD (o+10+k) .any=.b (c.s.getD k false)w1:∀v,wr cs (o+1) [.u v]=F {c with t:=v}wc:∀k,k<8->∀v,wr cs (o+2+k) [.u v]=F {c with c:=c.c.set k v}ws:∀k,k<8->∀v,wr cs (o+10+k) [.b v]=F {c with s:=c.s.set k v}set:∀d,yF H (.p id o 0) d=H.set id (.own (F d))aj:∀d,dk H=true->dk (H.set id (.own (F d)))=true
 self:F c=cs
 enc:∀d,∃A B,o=A.length/\F d=A++(aT d++B)
variable {x:Sc}
theorem GR{c:Ck}(h:r9 H x=some c):∃id o cs F,x=.p id o 0/\QJ H id o cs c F:=by
 obtain⟨id,A,B,rfl,ho,ok⟩:=Yl h;have ll:=fT ok;refine⟨id,A.length,A++(aT c++B),λd=>A++(aT d++B),rfl,ok,ho,dU (by rw[ho];rfl),by simp only[cF,ll];omega,?_,?_,?_,?_,?_,?_,?_,λd=>D3 ho ll,λd hH=>?_,rfl,λd=>⟨A,B,rfl,rfl⟩⟩
 .have:=wj (A:=A) (M:=aT c) (B:=B) (i:=0) ω;rw[rj]at this;exact this
 .exact wj (A:=A) (M:=aT c) (B:=B) (i:=1) ω
 .intro k hk;rw[mH,wj ω,Nd ok hk]
 .intro k hk;rw[mH,wj ω,RI ok hk]
 .intro v;rw[zJ (by rw[ll];simp),RJ]
 .intro k hk v;rw[mH,zJ (by rw[ll];simp;omega),RK ok hk]
 .intro k hk v;rw[mH,zJ (by rw[ll];simp;omega),YY ok hk]
 .have:=aeq ho ll (M9 d) hH;rwa[D3 ho ll]at this
theorem RF{H:AH}{id:Nat}{A B:List Sc}{c:Ck}(ho:hg H id=.own (A++(aT c++B)))(ok:gF c):r9 H (.p id A.length 0)=some c:=Ym RH ⟨id,A,B,rfl,ho,ok⟩
theorem QJ.q'{H:AH}{id o:Nat}{cs:List Sc}{c:Ck}{F:Ck->List Sc}(h:QJ H id o cs c F){K:AH}(hk:hg K id=hg H id):r9 K (.p id o 0)=some c:=by
 obtain⟨A,B,e1,e2⟩:=h.enc c;subst e1;exact RF (by rw[hk,h.ho,<-h.self,e2]) h.ok
def jS(x:Sc)(a:Ca):Sc:=match x with|.p id o _=>if a.k=3 then .p id (o+1) 0 else if a.k=2 then .p id (o+2+a.h) 0 else .dt|_=>.dt
theorem Uq(n0:0<=n)(n1:n<=8):(aw 64 n).toNat=n.toNat:=by rw[kU];omega
theorem air(n0:0<=n)(n1:n<=8)(l:a<aw 64 n):a.toInt=(a.toNat:Int):=by
 rw[mY,Uq n0 n1]at l;rw[xe,if_pos ω]
theorem Ng(n0:0<=n)(n1:n<=8)(g:16384#64<=a)(h:a<16384#64+8#64*aw 64 n):((a-16384#64)/8#64).toNat<8:=by
 rw[mY,vJ,By,Uq n0 n1]at h;rw[rT]at g;have e1:(16384#64).toNat=16384:=rfl;have e2:(8#64).toNat=8:=rfl;rw[e1,e2]at h;rw[e1]at g;rw[vK,yp,e1,e2];omega
theorem aim{id o n:Nat}(a:Ca)(h:id<n):Sc.aj n (jS (.p id o 0) a)=true:=by
 unfold jS;dsimp only;split
 .simpa[Sc.aj]using h
 .split
  .simpa[Sc.aj]using h
  .rfl
noncomputable def Lp(args:List AV)(H:AH):Option AV:=match args with|[.c x,.c (.u off),.c (.i sz)]=>(r9 H x).map λc=>.t [.g [.i (if(cb c.n off sz).k=1 then((cb c.n off sz).h:Int)else 0),jS x (cb c.n off sz),.u (cb c.n off sz).up],.c (.b (!decide ((cb c.n off sz).k=0)))]|_=>none
variable {sz:Int}
theorem vB{c:Ck}(h:r9 H x=some c):Lp [.c x,.c (.u off),.c (.i sz)] H=some (.t [.g [.i (if(cb c.n off sz).k=1 then((cb c.n off sz).h:Int)else 0),jS x (cb c.n off sz),.u (cb c.n off sz).up],.c (.b (!decide ((cb c.n off sz).k=0)))]):=by simp only[Lp,h,n9]
theorem Uv:aZ Tryz.prog 180 (λargs H=>(Lp args H).map λv=>(v,H)):=by
 refine iR (s:=Lp) tn Tryz.func180 rfl Tryz.results180 Tryz.ntmps180 ?_;intro args H v h bM hH;unfold Lp at h;split at h
 .rename_i x off sz;rw[ef]at h;obtain⟨c,hc,rfl⟩:=h;obtain⟨id,o,cs,F,rfl,ck⟩:=GR hc;have aD:=ck.aD;have ho:=ck.ho;have q:=ck.q;have d0:=ck.d0;have fO:∀X,hg (H++X) id=.own cs:=λX=>by rw[cL aD,ho]
  refine⟨by simp,by simp only[AV.aj,bG,dO,aim _ aD];rfl,?_⟩;have hh:=Jw ck.ok.n0 ck.ok.n1 off sz;have r4:aw 64 4=4#64:=rfl;have r8:aw 64 8=8#64:=rfl;by_cases s4:sz=4
  .subst s4;rcases Classical.propComplete (off%4#64=0#64)with m4|m4
   .rcases Classical.propComplete (off/4#64<aw 64 c.n)with l|l
    .have ei:=air ck.ok.n0 ck.ok.n1 (of_eq_true l);have e:cb c.n off 4=⟨1,(off/4#64).toNat,0#64⟩:=if_pos ⟨rfl,of_eq_true m4,of_eq_true l⟩;rw[e]at hh|-;(repeat(first|simp only[go_sem,seval,ho,fO,d0,jS,m4,l]|simp(disch:=omega)only[w0]));exact⟨by rw[ei],aB _ _⟩
    .rcases Classical.propComplete (0#64<aw 64 c.n)with z|z
     .rcases Classical.propComplete (off-off%8#64=49144#64)with e|e
      ·(repeat(first|simp only[go_sem,seval,ho,fO,d0,jS,cb,r4,m4,l,z,e,true_and,and_true,false_and,and_false,or_true,true_or,or_false,false_or,not_true_eq_false,not_false_eq_true,if_true,if_false]|simp(disch:=omega)only[w0]));exact aB _ _
      .rcases Classical.propComplete (16384#64<=off-off%8#64)with g|g
       .rcases Classical.propComplete (off-off%8#64<16384#64+8#64*aw 64 c.n)with t|t
        .have ix:=Ng ck.ok.n0 ck.ok.n1 (of_eq_true g) (of_eq_true t);(repeat(first|simp only[go_sem,seval,ho,fO,d0,jS,cb,r4,m4,l,z,e,g,t,true_and,and_true,false_and,and_false,or_true,true_or,or_false,false_or,not_true_eq_false,not_false_eq_true,if_true,if_false]|simp(disch:=omega)only[w0]));exact aB _ _
        ·(repeat(first|simp only[go_sem,seval,ho,fO,d0,jS,cb,r4,m4,l,z,e,g,t,true_and,and_true,false_and,and_false,or_true,true_or,or_false,false_or,not_true_eq_false,not_false_eq_true,if_true,if_false]|simp(disch:=omega)only[w0]));exact aB _ _
       ·(repeat(first|simp only[go_sem,seval,ho,fO,d0,jS,cb,r4,m4,l,z,e,g,true_and,and_true,false_and,and_false,or_true,true_or,or_false,false_or,not_true_eq_false,not_false_eq_true,if_true,if_false]|simp(disch:=omega)only[w0]));exact aB _ _
     .rcases Classical.propComplete (16384#64<=off-off%8#64)with g|g
      .rcases Classical.propComplete (off-off%8#64<16384#64+8#64*aw 64 c.n)with t|t
       .have ix:=Ng ck.ok.n0 ck.ok.n1 (of_eq_true g) (of_eq_true t);(repeat(first|simp only[go_sem,seval,ho,fO,d0,jS,cb,r4,m4,l,z,g,t,true_and,and_true,false_and,and_false,or_true,true_or,or_false,false_or,not_true_eq_false,not_false_eq_true,if_true,if_false]|simp(disch:=omega)only[w0]));exact aB _ _
       ·(repeat(first|simp only[go_sem,seval,ho,fO,d0,jS,cb,r4,m4,l,z,g,t,true_and,and_true,false_and,and_false,or_true,true_or,or_false,false_or,not_true_eq_false,not_false_eq_true,if_true,if_false]|simp(disch:=omega)only[w0]));exact aB _ _
      ·(repeat(first|simp only[go_sem,seval,ho,fO,d0,jS,cb,r4,m4,l,z,g,true_and,and_true,false_and,and_false,or_true,true_or,or_false,false_or,not_true_eq_false,not_false_eq_true,if_true,if_false]|simp(disch:=omega)only[w0]));exact aB _ _
   ·(repeat(first|simp only[go_sem,seval,ho,fO,d0,jS,cb,r4,m4,true_and,and_true,false_and,and_false,or_true,true_or,or_false,false_or,not_true_eq_false,not_false_eq_true,if_true,if_false]|simp(disch:=omega)only[w0]));exact aB _ _
  by_cases s8:sz=8
  .subst s8;rcases Classical.propComplete (off%8#64=0#64)with m8|m8
   .rcases Classical.propComplete (0#64<aw 64 c.n)with z|z
    .rcases Classical.propComplete (off-off%8#64=49144#64)with e|e
     ·(repeat(first|simp only[go_sem,seval,ho,fO,d0,jS,cb,r8,m8,z,e,true_and,and_true,false_and,and_false,or_true,true_or,or_false,false_or,not_true_eq_false,not_false_eq_true,if_true,if_false]|simp(disch:=omega)only[w0]));exact aB _ _
     .rcases Classical.propComplete (16384#64<=off-off%8#64)with g|g
      .rcases Classical.propComplete (off-off%8#64<16384#64+8#64*aw 64 c.n)with t|t
       .have ix:=Ng ck.ok.n0 ck.ok.n1 (of_eq_true g) (of_eq_true t);(repeat(first|simp only[go_sem,seval,ho,fO,d0,jS,cb,r8,m8,z,e,g,t,true_and,and_true,false_and,and_false,or_true,true_or,or_false,false_or,not_true_eq_false,not_false_eq_true,if_true,if_false]|simp(disch:=omega)only[w0]));exact aB _ _
       ·(repeat(first|simp only[go_sem,seval,ho,fO,d0,jS,cb,r8,m8,z,e,g,t,true_and,and_true,false_and,and_false,or_true,true_or,or_false,false_or,not_true_eq_false,not_false_eq_true,if_true,if_false]|simp(disch:=omega)only[w0]));exact aB _ _
      ·(repeat(first|simp only[go_sem,seval,ho,fO,d0,jS,cb,r8,m8,z,e,g,true_and,and_true,false_and,and_false,or_true,true_or,or_false,false_or,not_true_eq_false,not_false_eq_true,if_true,if_false]|simp(disch:=omega)only[w0]));exact aB _ _
    .rcases Classical.propComplete (16384#64<=off-off%8#64)with g|g
     .rcases Classical.propComplete (off-off%8#64<16384#64+8#64*aw 64 c.n)with t|t
      .have ix:=Ng ck.ok.n0 ck.ok.n1 (of_eq_true g) (of_eq_true t);(repeat(first|simp only[go_sem,seval,ho,fO,d0,jS,cb,r8,m8,z,g,t,true_and,and_true,false_and,and_false,or_true,true_or,or_false,false_or,not_true_eq_false,not_false_eq_true,if_true,if_false]|simp(disch:=omega)only[w0]));exact aB _ _
      ·(repeat(first|simp only[go_sem,seval,ho,fO,d0,jS,cb,r8,m8,z,g,t,true_and,and_true,false_and,and_false,or_true,true_or,or_false,false_or,not_true_eq_false,not_false_eq_true,if_true,if_false]|simp(disch:=omega)only[w0]));exact aB _ _
     ·(repeat(first|simp only[go_sem,seval,ho,fO,d0,jS,cb,r8,m8,z,g,true_and,and_true,false_and,and_false,or_true,true_or,or_false,false_or,not_true_eq_false,not_false_eq_true,if_true,if_false]|simp(disch:=omega)only[w0]));exact aB _ _
   ·(repeat(first|simp only[go_sem,seval,ho,fO,d0,jS,cb,r8,m8,true_and,and_true,false_and,and_false,or_true,true_or,or_false,false_or,not_true_eq_false,not_false_eq_true,if_true,if_false]|simp(disch:=omega)only[w0]));exact aB _ _
  (repeat(first|simp only[go_sem,seval,ho,fO,d0,jS,cb,s4,s8,true_and,and_true,false_and,and_false,or_true,true_or,or_false,false_or,not_true_eq_false,not_false_eq_true,if_true,if_false]|simp(disch:=omega)only[w0]));exact aB _ _
 .simp at h
variable {cs:List Sc}
theorem qZ{m:List Sc}(h:wr cs k [x]=m):bV k cs++x::cY (k+1) cs=m:=by rw[<-h,Gm];simp
theorem Jy(n:Int)(off:BitVec 64)(sz:Int):(cb n off sz).k=0\/(cb n off sz).k=1\/(cb n off sz).k=2\/(cb n off sz).k=3:=by
 unfold cb;repeat' split
 all_goals simp
def vT(x:Ck)(a:Ca):BitVec 64:=if a.k=3 then x.t else x.c.getD a.h 0#64
def um(x:Ck)(a:Ca)(sz:Int):BitVec 64:=if a.k=0 then 0#64 else if a.k=1 then(if x.s.getD a.h false=true then 1#64 else 0#64)else if sz=8 then vT x a else vT x a>>>a.up.toNat&&&4294967295#64
def xz(x:Ck)(a:Ca)(v:BitVec 64):Ck:=if a.k=3 then{x with t:=v}else{x with c:=x.c.set a.h v}
def ka(x:Ck)(a:Ca)(sz:Int)(v:BitVec 64):Ck:=if a.k=0 then x else if a.k=1 then{x with s:=x.s.set a.h (decide (v&&&1#64=1#64))}else if sz=8 then xz x a v else xz x a (vT x a&&&~~~(4294967295#64<<<a.up.toNat)|||v<<<a.up.toNat&&&4294967295#64<<<a.up.toNat)
theorem RG{x:Ck}(h:gF x)(a:Ca)(sz:Int)(v:BitVec 64):gF (ka x a sz v):=by
 have p:∀w,gF (xz x a w):=λw=>by
  unfold xz;split
  .exact h.t _
  .exact h.axY _ _
 unfold ka;repeat' split
 .exact h
 .exact h.axZ _ _
 .exact p _
 .exact p _
noncomputable def Ik(args:List AV)(H:AH):Option AV:=match args with|[.c x,.c (.u off),.c (.i sz)]=>(r9 H x).map λc=>.t [.c (.u (um c (cb c.n off sz) sz)),.c (.b (!decide ((cb c.n off sz).k=0)))]|_=>none
theorem awt{c:Ck}(h:r9 H x=some c):Ik [.c x,.c (.u off),.c (.i sz)] H=some (.t [.c (.u (um c (cb c.n off sz) sz)),.c (.b (!decide ((cb c.n off sz).k=0)))]):=by simp only[Ik,h,n9]
theorem aq3:aZ Tryz.prog 130 (λargs H=>(Ik args H).map λv=>(v,H)):=by
 refine iR (s:=Ik) (tq Uv tn) Tryz.func130 rfl Tryz.results130 Tryz.ntmps130 ?_;intro args H v h bM hH;unfold Ik at h;split at h
 .rename_i x off sz;rw[ef]at h;obtain⟨c,hc,rfl⟩:=h;obtain⟨id,o,cs,F,rfl,ck⟩:=GR hc;have aD:=ck.aD;have ho:=ck.ho;have q:=ck.q;have d1:=ck.d1;have fO:∀X,hg (H++X) id=.own cs:=λX=>by rw[cL aD,ho]
  refine⟨by simp,rfl,?_⟩;have f0:=vB hc (off:=off) (sz:=sz);have hh:=Jw ck.ok.n0 ck.ok.n1 off sz;have hk:=Jy c.n off sz;generalize cb c.n off sz=a at*;have dc:=ck.dc a.h hh;have ds:=ck.ds a.h hh;rcases hk with k|k|k|k
  .simp only[jS,k]at f0;simp only[go_sem,seval,vB,f0,k,um];exact aB _ _
  .simp only[jS,k]at f0;cases hs:c.s.getD a.h false;all_goals rw[hs]at ds
   all_goals(repeat(first|simp only[go_sem,seval,vB,f0,k,um,ho,fO,ds,hs,aO]|simp(disch:=omega)only[w0]))
   all_goals exact aB _ _
  .simp only[jS,k]at f0;rcases Classical.propComplete (sz=8)with s8|s8;all_goals(repeat(first|simp only[go_sem,seval,vB,f0,k,um,vT,ho,fO,dc,s8]|simp(disch:=omega)only[w0]))
   all_goals exact aB _ _
  .simp only[jS,k]at f0;rcases Classical.propComplete (sz=8)with s8|s8;all_goals(repeat(first|simp only[go_sem,seval,vB,f0,k,um,vT,ho,fO,d1,s8]|simp(disch:=omega)only[w0]))
   all_goals exact aB _ _
 .simp at h
noncomputable def DE(args:List AV)(H:AH):Option (AV×AH):=match args with|[.c x,.c (.u off),.c (.i sz),.c (.u v)]=>(r9 H x).map λc=>(.c (.b (!decide ((cb c.n off sz).k=0))),yF H x (ka c (cb c.n off sz) sz v))|_=>none
theorem aww{c:Ck}(h:r9 H x=some c):DE [.c x,.c (.u off),.c (.i sz),.c (.u v)] H=some (.c (.b (!decide ((cb c.n off sz).k=0))),yF H x (ka c (cb c.n off sz) sz v)):=by simp only[DE,h,n9]
theorem an7(args:List AV)(H:AH)(v:AV)(H1:AH)(h:DE args H=some (v,H1)):H.length<=H1.length:=by
 unfold DE at h;split at h
 .rw[ef]at h;obtain⟨c,_,h⟩:=h;simp only[bD]at h;rw[<-h.2,yF,IU];exact aC _
 .simp at h
theorem aq6:aZ Tryz.prog 136 DE:=by
 refine fU (s:=DE) (tq Uv tn) Tryz.func136 rfl Tryz.results136 Tryz.ntmps136 an7 ?_;intro args H v H1 h bM hH;unfold DE at h;split at h
 .rename_i x off sz w;rw[ef]at h;obtain⟨c,hc,h⟩:=h;simp only[bD]at h;obtain⟨rfl,rfl⟩:=h;obtain⟨id,o,cs,F,rfl,ck⟩:=GR hc;have aD:=ck.aD;have ho:=ck.ho;have q:=ck.q;have d1:=ck.d1;have fO:∀X,hg (H++X) id=.own cs:=λX=>by rw[cL aD,ho]
  have sX:∀X y,(H++X).set id y=H.set id y++X:=λX y=>lN _ _ aD;refine⟨by simp,?_⟩;have f0:=vB hc (off:=off) (sz:=sz);have hh:=Jw ck.ok.n0 ck.ok.n1 off sz;have hk:=Jy c.n off sz;have hb:=λd=>ck.aj d hH;rw[ck.set];generalize cb c.n off sz=a at*;have dc:=ck.dc a.h hh;have wc:=λv=>qZ (ck.wc a.h hh v);have w1:=λv=>qZ (ck.w1 v);have ws:=λv=>qZ (ck.ws a.h hh v);rcases hk with k|k|k|k
  .have e:ka c a sz w=c:=by unfold ka;rw[if_pos k]
   rw[e,ck.self,<-ho,ua rfl aD];simp only[jS,k]at f0;simp only[go_sem,seval,vB,f0,k];exact cV rfl (aB _ _) hH (aC _)
  .simp only[jS,k]at f0;have e:ka c a sz w={c with s:=c.s.set a.h (decide (w&&&1#64=1#64))}:=by unfold ka;rw[if_neg (by rw[k];decide),if_pos k]
   rw[e];have hb:=hb {c with s:=c.s.set a.h (decide (w&&&1#64=1#64))};have ws:=ws (decide (w&&&1#64=1#64));(repeat(first|simp only[go_sem,seval,vB,f0,k,ho,fO,ws,sX,aO]|simp(disch:=omega)only[w0]));(repeat' first|apply cn|(intro c;exact absurd c ω)|(intro _;kernel_rfl)|kernel_rfl);exact cV rfl (aB _ _) hb (by simp)
  .simp only[jS,k]at f0;rcases Classical.propComplete (sz=8)with s8|s8
   .have e:ka c a sz w={c with c:=c.c.set a.h w}:=by unfold ka xz;rw[if_neg (by rw[k];decide),if_neg (by rw[k];decide),if_pos (of_eq_true s8),if_neg (by rw[k];decide)]
    rw[e];(repeat(first|simp only[go_sem,seval,vB,f0,k,ho,fO,wc,sX,s8]|simp(disch:=omega)only[w0]));(repeat' first|apply cn|(intro c;exact absurd c ω)|(intro _;kernel_rfl)|kernel_rfl);exact cV rfl (aB _ _) (hb _) (by simp)
   .have e:ka c a sz w={c with c:=c.c.set a.h (c.c.getD a.h 0#64&&&~~~(4294967295#64<<<a.up.toNat)|||w<<<a.up.toNat&&&4294967295#64<<<a.up.toNat)}:=by unfold ka xz vT;rw[if_neg (by rw[k];decide),if_neg (by rw[k];decide),if_neg (of_eq_false s8),if_neg (by rw[k];decide),if_neg (by rw[k];decide)]
    rw[e];(repeat(first|simp only[go_sem,seval,vB,f0,k,ho,fO,wc,dc,sX,s8]|simp(disch:=omega)only[w0]));(repeat' first|apply cn|(intro c;exact absurd c ω)|(intro _;kernel_rfl)|kernel_rfl);exact cV rfl (aB _ _) (hb _) (by simp)
  .simp only[jS,k]at f0;rcases Classical.propComplete (sz=8)with s8|s8
   .have e:ka c a sz w={c with t:=w}:=by unfold ka xz;rw[if_neg (by rw[k];decide),if_neg (by rw[k];decide),if_pos (of_eq_true s8),if_pos k]
    rw[e];(repeat(first|simp only[go_sem,seval,vB,f0,k,ho,fO,w1,sX,s8]|simp(disch:=omega)only[w0]));(repeat' first|apply cn|(intro c;exact absurd c ω)|(intro _;kernel_rfl)|kernel_rfl);exact cV rfl (aB _ _) (hb _) (by simp)
   .have e:ka c a sz w={c with t:=c.t&&&~~~(4294967295#64<<<a.up.toNat)|||w<<<a.up.toNat&&&4294967295#64<<<a.up.toNat}:=by unfold ka xz vT;rw[if_neg (by rw[k];decide),if_neg (by rw[k];decide),if_neg (of_eq_false s8),if_pos k,if_pos k]
    rw[e];(repeat(first|simp only[go_sem,seval,vB,f0,k,ho,fO,w1,d1,sX,s8]|simp(disch:=omega)only[w0]));(repeat' first|apply cn|(intro c;exact absurd c ω)|(intro _;kernel_rfl)|kernel_rfl);exact cV rfl (aB _ _) (hb _) (by simp)
 .simp at h
def nJ(c:Ck)(n:Int):Ck:=if 0<n/\0<c.n then{c with t:=c.t+aw 64 n}else c
theorem Na{c:Ck}(h:gF c)(n:Int):gF (nJ c n):=by
 unfold nJ;split
 .exact h.t _
 .exact h
def ko(c:Ck)(h:Int):BitVec 64:=if h<0\/c.n<=h then 0#64 else(if c.s.getD h.toNat false=true then 8#64 else 0#64)|||(if c.c.getD h.toNat 0#64<=c.t then 128#64 else 0#64)
noncomputable def DD(args:List AV)(H:AH):Option (AV×AH):=match args with|[.c x,.c (.i n)]=>(r9 H x).map λc=>(.t [],yF H x (nJ c n))|_=>none
theorem awu{c:Ck}(h:r9 H x=some c):DD [.c x,.c (.i n)] H=some (.t [],yF H x (nJ c n)):=by simp only[DD,h,n9]
theorem an6(args:List AV)(H:AH)(v:AV)(H1:AH)(h:DD args H=some (v,H1)):H.length<=H1.length:=by
 unfold DD at h;split at h
 .rw[ef]at h;obtain⟨c,_,h⟩:=h;simp only[bD]at h;rw[<-h.2,yF,IU];exact aC _
 .simp at h
theorem aq4:aZ Tryz.prog 87 DD:=by
 refine fU (s:=DD) tn Tryz.func87 rfl Tryz.results87 Tryz.ntmps87 an6 ?_;intro args H v H1 h bM hH;unfold DD at h;split at h
 .rename_i x n;rw[ef]at h;obtain⟨c,hc,h⟩:=h;simp only[bD]at h;obtain⟨rfl,rfl⟩:=h;obtain⟨id,o,cs,F,rfl,ck⟩:=GR hc;have aD:=ck.aD;have ho:=ck.ho;have q:=ck.q;have d0:=ck.d0;have d1:=ck.d1;have w1:=λv=>qZ (ck.w1 v);have hb:=λd=>ck.aj d hH;refine⟨by simp,?_⟩;rw[ck.set];by_cases hn:0<n
  .by_cases EY:0<c.n
   .have e:nJ c n={c with t:=c.t+aw 64 n}:=if_pos ⟨hn,EY⟩;rw[e];(repeat(first|simp only[go_sem,seval,ho,d0,d1,w1,hn,EY]|simp(disch:=omega)only[w0]));(repeat' first|apply cn|(intro c;exact absurd c ω)|(intro _;kernel_rfl)|kernel_rfl);exact cV rfl (aE _) (hb _) (by simp)
   .have e:nJ c n=c:=if_neg λh=>EY h.2;rw[e,ck.self,<-ho,ua rfl aD];(repeat(first|simp only[go_sem,seval,ho,d0,hn,EY]|simp(disch:=omega)only[w0]));exact cV rfl (aE _) hH (aC _)
  .have e:nJ c n=c:=if_neg λh=>hn h.1;rw[e,ck.self,<-ho,ua rfl aD];simp only[go_sem,seval,ho,d0,hn];exact cV rfl (aE _) hH (aC _)
 .simp at h
noncomputable def Il(args:List AV)(H:AH):Option AV:=match args with|[.c x]=>(r9 H x).map λc=>.c (.u c.t)|_=>none
theorem awv{c:Ck}(h:r9 H x=some c):Il [.c x] H=some (.c (.u c.t)):=by simp only[Il,h,n9]
theorem aq5:aZ Tryz.prog 163 (λargs H=>(Il args H).map λv=>(v,H)):=by
 refine iR (s:=Il) tn Tryz.func163 rfl Tryz.results163 Tryz.ntmps163 ?_;intro args H v h bM hH;unfold Il at h;split at h
 .rename_i x;rw[ef]at h;obtain⟨c,hc,rfl⟩:=h;obtain⟨id,o,cs,F,rfl,ck⟩:=GR hc;have aD:=ck.aD;have ho:=ck.ho;have q:=ck.q;have d1:=ck.d1;refine⟨by simp,rfl,?_⟩;(repeat(first|simp only[go_sem,seval,ho,d1]|simp(disch:=omega)only[w0]));exact aE _
 .simp at h
noncomputable def Ii(args:List AV)(H:AH):Option AV:=match args with|[.c x,.c (.i h)]=>(r9 H x).map λc=>.c (.u (ko c h))|_=>none
theorem awr{c:Ck}(h:r9 H x=some c):Ii [.c x,.c (.i n)] H=some (.c (.u (ko c n))):=by simp only[Ii,h,n9]
theorem aqZ:aZ Tryz.prog 139 (λargs H=>(Ii args H).map λv=>(v,H)):=by
 refine iR (s:=Ii) tn Tryz.func139 rfl Tryz.results139 Tryz.ntmps139 ?_;intro args H v h bM hH;unfold Ii at h;split at h
 .rename_i x n;rw[ef]at h;obtain⟨c,hc,rfl⟩:=h;obtain⟨id,o,cs,F,rfl,ck⟩:=GR hc;have aD:=ck.aD;have ho:=ck.ho;have q:=ck.q;have d0:=ck.d0;have d1:=ck.d1;refine⟨by simp,rfl,?_⟩;have n8:=ck.ok.n1;by_cases h0:n<0
  .simp only[go_sem,seval,ho,d0,h0,ko,true_or,if_true];exact aE _
  by_cases h1:c.n<=n
  ·(repeat(first|simp only[go_sem,seval,ho,d0,h0,h1,ko,or_true,if_true]|simp(disch:=omega)only[w0]));exact aE _
  obtain⟨k,rfl⟩:∃k:Nat,n=(k:Int):=⟨n.toNat,ω⟩;have hk:k<8:=ω
  have dc:=ck.dc k hk;have ds:=ck.ds k hk;rcases hs:c.s.getD k false with _|_<;>rcases Classical.propComplete (c.c.getD k 0#64<=c.t)with ht|ht;all_goals rw[hs]at ds
  all_goals(repeat(first|simp only[go_sem,seval,ho,d0,d1,dc,ds,hs,ht,h0,h1,ko,or_false,if_false,if_true,aO]|simp(disch:=omega)only[w0]))
  all_goals exact aE _
 .simp at h
def GS(i:Nat):List (BitVec 64):=bE i 18446744073709551615#64++bE (8-i) 0#64
def kn(h:Int)(i:Nat):Ck:=⟨h,0#64,GS i,bE 8 false⟩
def iH(h:Int):Ck:=if 1<=h/\h<=8 then kn h h.toNat else kn 0 0
theorem ai1(h:i<=8):(GS i).length=8:=by unfold GS;simp;omega
theorem Jz(h0:0<=h)(h1:h<=8)(hi:i<=8):gF (kn h i):=⟨ai1 hi,by simp[kn],h0,h1⟩
theorem JA(h:Int):gF (iH h):=by
 unfold iH;split
 .exact Jz ω ω ω
 .exact Jz δ δ δ
theorem ai2(h:i<8):(GS i).set i 18446744073709551615#64=GS (i+1):=by
 have:i=0\/i=1\/i=2\/i=3\/i=4\/i=5\/i=6\/i=7:=ω
 rcases this with rfl|rfl|rfl|rfl|rfl|rfl|rfl|rfl<;>rfl
theorem YV(h0:0<=h)(h1:h<=8)(hi:i<8):bV (2+i) (aT (kn h i))++Sc.u 18446744073709551615#64::cY (2+i+1) (aT (kn h i))=aT (kn h (i+1)):=by
 rw[qZ (RK (Jz h0 h1 ω) hi 18446744073709551615#64)];show aT ⟨h,0#64,(GS i).set i _,bE 8 false⟩=_;rw[ai2 hi];rfl
theorem RE(x:Ck):(aT x).all Sc.pf=true:=by
 simp only[aT,bG,fH,uW,aQ];exact⟨rfl,rfl,cD.2 λ_ _=>rfl,cD.2 λ_ _=>rfl⟩
theorem Wk.Z9{n:Nat}{fr:Fr}{p:Fr×AH}(e:H=p.2)(h:Wk n fr H (p.1,H)):Wk n fr H p:=by subst e;exact h
theorem na(x:Ck):(aT x).all Sc.one=true:=by
 simp only[aT,bG,fH,uW,aQ];exact⟨rfl,rfl,cD.2 λ_ _=>rfl,cD.2 λ_ _=>rfl⟩
def VG(args:List AV):Option AV:=match args with|[.c (.i h)]=>some (.g (aT (iH h)))|_=>none
theorem aws{h}:VG [.c (.i h)]=some (.g (aT (iH h))):=rfl
theorem aq1:cE Tryz.prog 61 VG:=by
 refine cN tn Tryz.func61 rfl Tryz.results61 Tryz.ntmps61 ?_;intro args v h;unfold VG at h;split at h
 .rename_i h;simp only[ar]at h;subst h;have pp:=RE (iH h);refine⟨by simp,by first|rfl|simp only[bG,dO,AV.pf,Sc.pf,cX, *],by first|rfl|simp only[bG,dO,AV.pf,Sc.pf,cX, *],?_⟩;by_cases c1:h<1
  .have e:iH h=kn 0 0:=if_neg ω;rw[e];simp only[go_sem,seval,c1];rfl
  by_cases c2:8<h
  .have e:iH h=kn 0 0:=if_neg ω;rw[e];simp only[go_sem,seval,c1,c2];rfl
  obtain⟨m,rfl⟩:∃m:Nat,h=(m:Int):=⟨h.toNat,ω⟩;have e:iH (m:Int)=kn m m:=by unfold iH;rw[if_pos ω,aO]
  rw[e];simp only[go_sem,seval,c1,c2];refine eY m (λi=>([(0,.c (.i m)),(2,.c (.p 0 0 0)),(3,.c (.p 1 0 0)),(14,.c (.i m)),(15,.c (.i i))],[.own (aT (kn 0 0)),.own (aT (kn m i))])) (Wk.Z9 rfl (Wk.fq (by simp[Am.get]))) λi hi=>?_;have ll:=fT (Jz (h:=m) ω ω (i:=i) ω);by_cases aL:i<m
  .have w:=YV (h:=m) ω ω (i:=i) ω;have e0:(i:Int)<(m:Int):=ω
   have e1:az ((i:Int)+1)=((i+1:Nat):Int):=by rw[aq ω ω];omega
   (repeat(first|simp only[go_sem,seval,e0,e1,w,aO]|simp(disch:=omega)only[w0]));exact⟨i+1,ω,ω,Wk.fq (by simp[Am.get])⟩
  .obtain rfl:i=m:=ω
   have t18:bV 18 (aT (kn i i))=aT (kn i i):=bR ω;have l0:(aT (kn 0 0)).length=18:=rfl;have one:=na (kn i i);have dn:cY 18 (aT (kn 0 0))=[]:=rfl;have r0:∀l:List Sc,l.length=18->bV 18 l=l:=λl h=>bR ω;(repeat(first|simp only[go_sem,seval,t18,ll,l0,one,dn]|simp(disch:=omega)only[w0]));done
 .simp at h
noncomputable def qz(H:AH)(x:Sc):Option Pk:=GL eh cG H x
def pN(H:AH)(x:Sc)(c:Pk):AH:=setAt eh 68 H x c
structure zX(H:AH)(id o:Nat)(cs:List Sc)(c:Pk)(F:Pk->List Sc):Prop where
 ok:cG c
 ho:hg H id=.own cs
 aD:id<H.length
 q:o+68<=cs.length
 d0:cs.getD o .any=.i c.n
 dp:∀k,k<32->cs.getD (o+1+k) .any=k8 (c.p.getD k 0)dw:cs.getD (o+33) .any=iA c.w
 dq:cs.getD (o+34) .any=iA c.q
 ds:cs.getD (o+35) .any=iA c.s
 de:∀k,k<16->cs.getD (o+36+k) .any=iA (c.e.getD k 0#32)dl:∀k,k<16->cs.getD (o+52+k) .any=k8 (c.l.getD k 0)wp:∀k,k<32->∀v,wr cs (o+1+k) [k8 v]=F {c with p:=c.p.set k v}ww:∀v,wr cs (o+33) [iA v]=F {c with w:=v}wq:∀v,wr cs (o+34) [iA v]=F {c with q:=v}ws:∀v,wr cs (o+35) [iA v]=F {c with s:=v}we:∀k,k<16->∀v,wr cs (o+36+k) [iA v]=F {c with e:=c.e.set k v}wl:∀k,k<16->∀v,wr cs (o+52+k) [k8 v]=F {c with l:=c.l.set k v}set:∀d,pN H (.p id o 0) d=H.set id (.own (F d))aj:∀d,dk H=true->dk (H.set id (.own (F d)))=true
 self:F c=cs
 enc:∃A B,o=A.length/\∀d,F d=A++(eh d++B)
variable {c:Pk}
theorem Dp(h:qz H x=some c):∃id o cs F,x=.p id o 0/\zX H id o cs c F:=by
 obtain⟨id,A,B,rfl,ho,ok⟩:=Yl h;have ll:=zg ok;have G:∀i,i<68->(A++(eh c++B)).getD (A.length+i) .any=(eh c).getD i .any:=λi hi=>wj ω;have W:∀i s,i<68->wr (A++(eh c++B)) (A.length+i) [s]=A++(wr (eh c) i [s]++B):=λi s hi=>zJ (by rw[ll];simp;omega);refine⟨id,A.length,A++(eh c++B),λd=>A++(eh d++B),rfl,ok,ho,dU (by rw[ho];rfl),by simp only[cF,ll];omega,?_,?_,?_,?_,?_,?_,?_,?_,?_,?_,?_,?_,?_,λd=>D3 ho ll,λd hH=>?_,rfl,⟨A,B,rfl,λ_=>rfl⟩⟩
 .have:=G 0 ω;rw[rj]at this;exact this
 .intro k hk;rw[mH,G _ ω,auz ok hk]
 .rw[G _ ω,auC ok]
 .rw[G _ ω,auA ok]
 .rw[G _ ω,auB ok]
 .intro k hk;rw[mH,G _ ω,auw ok hk]
 .intro k hk;rw[mH,G _ ω,auy ok hk]
 .intro k hk v;rw[mH,W _ _ ω,auF ok hk]
 .intro v;rw[W _ _ ω,auI ok]
 .intro v;rw[W _ _ ω,auG ok]
 .intro v;rw[W _ _ ω,auH ok]
 .intro k hk v;rw[mH,W _ _ ω,auD ok hk]
 .intro k hk v;rw[mH,W _ _ ω,auE ok hk]
 .have:=aeq ho ll (aus d) hH;rwa[D3 ho ll]at this
theorem OV{H:AH}{id:Nat}{A B:List Sc}{c:Pk}(ho:hg H id=.own (A++(eh c++B)))(ok:cG c):qz H (.p id A.length 0)=some c:=Ym UY ⟨id,A,B,rfl,ho,ok⟩
theorem zX.q'{H:AH}{id o:Nat}{cs:List Sc}{c:Pk}{F:Pk->List Sc}(h:zX H id o cs c F){K:AH}(hk:hg K id=hg H id):qz K (.p id o 0)=some c:=by
 obtain⟨A,B,e1,e2⟩:=h.enc;subst e1;exact OV (by rw[hk,h.ho,<-h.self,e2]) h.ok
theorem zX.nq{id o:Nat}{cs:List Sc}{c:Pk}{F:Pk->List Sc}(h:zX H id o cs c F){d:Pk}(hd:cG d):qz (H.set id (.own (F d))) (.p id o 0)=some d:=by
 obtain⟨A,B,e1,e2⟩:=h.enc;subst e1;exact OV (by rw[jj h.aD,e2]) hd
theorem zX.ns{id o:Nat}{cs:List Sc}{c:Pk}{F:Pk->List Sc}(h:zX H id o cs c F){d e:Pk}(hd:cG d):pN (H.set id (.own (F d))) (.p id o 0) e=H.set id (.own (F e)):=by
 obtain⟨A,B,e1,e2⟩:=h.enc;subst e1;unfold pN;rw[D3 (a:=d) (by rw[jj h.aD,e2]) (zg hd),xo,e2]
theorem uO{a:BitVec 64}(h:a.toNat<32):a.toInt=(a.toNat:Int):=by rw[xe,if_pos ω]
noncomputable def LK(args:List AV)(H:AH):Option AV:=match args with|[.c x,.c (.u off),.c (.i sz)]=>(qz H x).map λc=>.t [.c (.i (bJ c.n off sz).k),.c (.i ((bJ c.n off sz).i:Int))]|_=>none
theorem qW(h:qz H x=some c):LK [.c x,.c (.u off),.c (.i sz)] H=some (.t [.c (.i (bJ c.n off sz).k),.c (.i ((bJ c.n off sz).i:Int))]):=by simp only[LK,h,n9]
theorem UB:aZ Tryz.prog 181 (λargs H=>(LK args H).map λv=>(v,H)):=by
 refine iR (s:=LK) tn Tryz.func181 rfl Tryz.results181 Tryz.ntmps181 ?_;intro args H v h bM hH;unfold LK at h;split at h
 .rename_i x off sz;rw[ef]at h;obtain⟨c,hc,rfl⟩:=h;obtain⟨id,o,cs,F,rfl,ck⟩:=Dp hc;have aD:=ck.aD;have ho:=ck.ho;have q:=ck.q;have d0:=ck.d0;refine⟨by simp,rfl,?_⟩;have n0:=ck.ok.n0;have n1:=ck.ok.n1;have e2:az (2*c.n)=2*c.n:=aq ω ω;have hi:=(KZ ck.ok.n0 ck.ok.n1 off sz).1;rcases Classical.propComplete (sz=4)with s4|s4
  .rcases Classical.propComplete (off%4#64=0#64)with m4|m4
   .rcases Classical.propComplete (aw 64 (2*c.n)=0#64)with z|z
    ·(repeat(first|simp only[go_sem,seval,ho,d0,e2,bJ,s4,m4,z,true_and,and_true,false_and,and_false,or_true,true_or,or_false,false_or,not_true_eq_false,not_false_eq_true,if_true,if_false]|simp(disch:=omega)only[w0]));exact aE _
    .rcases Classical.propComplete (4#64<=off)with a|a
     .rcases Classical.propComplete (off<128#64)with b|b
      .have ei:=uO (a:=off/4#64) (by simpa only[bJ,not_true_eq_false,s4,m4,z,a,b,true_and,and_true,false_and,and_false,or_true,true_or,or_false,false_or,not_true_eq_false,not_false_eq_true,if_true,if_false]using hi);(repeat(first|simp only[go_sem,seval,ho,d0,e2,bJ,s4,m4,z,a,b,ei,true_and,and_true,false_and,and_false,or_true,true_or,or_false,false_or,not_true_eq_false,not_false_eq_true,if_true,if_false]|simp(disch:=omega)only[w0]));exact aE _
      .rcases Classical.propComplete (off=4096#64)with c1|c1
       ·(repeat(first|simp only[go_sem,seval,ho,d0,e2,bJ,s4,m4,z,a,b,c1,true_and,and_true,false_and,and_false,or_true,true_or,or_false,false_or,not_true_eq_false,not_false_eq_true,if_true,if_false]|simp(disch:=omega)only[w0]));exact aE _
       .rcases Classical.propComplete (8192#64<=off)with d|d
        .rcases Classical.propComplete (off<8192#64+128#64*aw 64 (2*c.n))with e|e
         .rcases Classical.propComplete (off%128#64=0#64)with f|f
          .have ei:=uO (a:=(off-8192#64)/128#64) (by simpa only[bJ,not_true_eq_false,s4,m4,z,a,b,c1,d,e,f,true_and,and_true,false_and,and_false,or_true,true_or,or_false,false_or,not_true_eq_false,not_false_eq_true,if_true,if_false]using hi);(repeat(first|simp only[go_sem,seval,ho,d0,e2,bJ,s4,m4,z,a,b,c1,d,e,f,ei,true_and,and_true,false_and,and_false,or_true,true_or,or_false,false_or,not_true_eq_false,not_false_eq_true,if_true,if_false]|simp(disch:=omega)only[w0]));exact aE _
          .rcases Classical.propComplete (2097152#64<=off)with g|g
           .rcases Classical.propComplete (off<2097152#64+4096#64*aw 64 (2*c.n))with h1|h1
            .rcases Classical.propComplete (off%4096#64=0#64)with i|i
             .have ei:=uO (a:=(off-2097152#64)/4096#64) (by simpa only[bJ,not_true_eq_false,s4,m4,z,a,b,c1,d,e,f,g,h1,i,true_and,and_true,false_and,and_false,or_true,true_or,or_false,false_or,not_true_eq_false,not_false_eq_true,if_true,if_false]using hi);(repeat(first|simp only[go_sem,seval,ho,d0,e2,bJ,s4,m4,z,a,b,c1,d,e,f,g,h1,i,ei,true_and,and_true,false_and,and_false,or_true,true_or,or_false,false_or,not_true_eq_false,not_false_eq_true,if_true,if_false]|simp(disch:=omega)only[w0]));exact aE _
             .rcases Classical.propComplete (off%4096#64=4#64)with j|j
              .have ei:=uO (a:=(off-2097152#64)/4096#64) (by simpa only[bJ,not_true_eq_false,s4,m4,z,a,b,c1,d,e,f,g,h1,i,j,true_and,and_true,false_and,and_false,or_true,true_or,or_false,false_or,not_true_eq_false,not_false_eq_true,if_true,if_false]using hi);(repeat(first|simp only[go_sem,seval,ho,d0,e2,bJ,s4,m4,z,a,b,c1,d,e,f,g,h1,i,j,ei,true_and,and_true,false_and,and_false,or_true,true_or,or_false,false_or,not_true_eq_false,not_false_eq_true,if_true,if_false]|simp(disch:=omega)only[w0]));exact aE _
              ·(repeat(first|simp only[go_sem,seval,ho,d0,e2,bJ,s4,m4,z,a,b,c1,d,e,f,g,h1,i,j,true_and,and_true,false_and,and_false,or_true,true_or,or_false,false_or,not_true_eq_false,not_false_eq_true,if_true,if_false]|simp(disch:=omega)only[w0]));exact aE _
            ·(repeat(first|simp only[go_sem,seval,ho,d0,e2,bJ,s4,m4,z,a,b,c1,d,e,f,g,h1,true_and,and_true,false_and,and_false,or_true,true_or,or_false,false_or,not_true_eq_false,not_false_eq_true,if_true,if_false]|simp(disch:=omega)only[w0]));exact aE _
           ·(repeat(first|simp only[go_sem,seval,ho,d0,e2,bJ,s4,m4,z,a,b,c1,d,e,f,g,true_and,and_true,false_and,and_false,or_true,true_or,or_false,false_or,not_true_eq_false,not_false_eq_true,if_true,if_false]|simp(disch:=omega)only[w0]));exact aE _
         .rcases Classical.propComplete (2097152#64<=off)with g|g
          .rcases Classical.propComplete (off<2097152#64+4096#64*aw 64 (2*c.n))with h1|h1
           .rcases Classical.propComplete (off%4096#64=0#64)with i|i
            .have ei:=uO (a:=(off-2097152#64)/4096#64) (by simpa only[bJ,not_true_eq_false,s4,m4,z,a,b,c1,d,e,g,h1,i,true_and,and_true,false_and,and_false,or_true,true_or,or_false,false_or,not_true_eq_false,not_false_eq_true,if_true,if_false]using hi);(repeat(first|simp only[go_sem,seval,ho,d0,e2,bJ,s4,m4,z,a,b,c1,d,e,g,h1,i,ei,true_and,and_true,false_and,and_false,or_true,true_or,or_false,false_or,not_true_eq_false,not_false_eq_true,if_true,if_false]|simp(disch:=omega)only[w0]));exact aE _
            .rcases Classical.propComplete (off%4096#64=4#64)with j|j
             .have ei:=uO (a:=(off-2097152#64)/4096#64) (by simpa only[bJ,not_true_eq_false,s4,m4,z,a,b,c1,d,e,g,h1,i,j,true_and,and_true,false_and,and_false,or_true,true_or,or_false,false_or,not_true_eq_false,not_false_eq_true,if_true,if_false]using hi);(repeat(first|simp only[go_sem,seval,ho,d0,e2,bJ,s4,m4,z,a,b,c1,d,e,g,h1,i,j,ei,true_and,and_true,false_and,and_false,or_true,true_or,or_false,false_or,not_true_eq_false,not_false_eq_true,if_true,if_false]|simp(disch:=omega)only[w0]));exact aE _
             ·(repeat(first|simp only[go_sem,seval,ho,d0,e2,bJ,s4,m4,z,a,b,c1,d,e,g,h1,i,j,true_and,and_true,false_and,and_false,or_true,true_or,or_false,false_or,not_true_eq_false,not_false_eq_true,if_true,if_false]|simp(disch:=omega)only[w0]));exact aE _
           ·(repeat(first|simp only[go_sem,seval,ho,d0,e2,bJ,s4,m4,z,a,b,c1,d,e,g,h1,true_and,and_true,false_and,and_false,or_true,true_or,or_false,false_or,not_true_eq_false,not_false_eq_true,if_true,if_false]|simp(disch:=omega)only[w0]));exact aE _
          ·(repeat(first|simp only[go_sem,seval,ho,d0,e2,bJ,s4,m4,z,a,b,c1,d,e,g,true_and,and_true,false_and,and_false,or_true,true_or,or_false,false_or,not_true_eq_false,not_false_eq_true,if_true,if_false]|simp(disch:=omega)only[w0]));exact aE _
        .rcases Classical.propComplete (2097152#64<=off)with g|g
         .rcases Classical.propComplete (off<2097152#64+4096#64*aw 64 (2*c.n))with h1|h1
          .rcases Classical.propComplete (off%4096#64=0#64)with i|i
           .have ei:=uO (a:=(off-2097152#64)/4096#64) (by simpa only[bJ,not_true_eq_false,s4,m4,z,a,b,c1,d,g,h1,i,true_and,and_true,false_and,and_false,or_true,true_or,or_false,false_or,not_true_eq_false,not_false_eq_true,if_true,if_false]using hi);(repeat(first|simp only[go_sem,seval,ho,d0,e2,bJ,s4,m4,z,a,b,c1,d,g,h1,i,ei,true_and,and_true,false_and,and_false,or_true,true_or,or_false,false_or,not_true_eq_false,not_false_eq_true,if_true,if_false]|simp(disch:=omega)only[w0]));exact aE _
           .rcases Classical.propComplete (off%4096#64=4#64)with j|j
            .have ei:=uO (a:=(off-2097152#64)/4096#64) (by simpa only[bJ,not_true_eq_false,s4,m4,z,a,b,c1,d,g,h1,i,j,true_and,and_true,false_and,and_false,or_true,true_or,or_false,false_or,not_true_eq_false,not_false_eq_true,if_true,if_false]using hi);(repeat(first|simp only[go_sem,seval,ho,d0,e2,bJ,s4,m4,z,a,b,c1,d,g,h1,i,j,ei,true_and,and_true,false_and,and_false,or_true,true_or,or_false,false_or,not_true_eq_false,not_false_eq_true,if_true,if_false]|simp(disch:=omega)only[w0]));exact aE _
            ·(repeat(first|simp only[go_sem,seval,ho,d0,e2,bJ,s4,m4,z,a,b,c1,d,g,h1,i,j,true_and,and_true,false_and,and_false,or_true,true_or,or_false,false_or,not_true_eq_false,not_false_eq_true,if_true,if_false]|simp(disch:=omega)only[w0]));exact aE _
          ·(repeat(first|simp only[go_sem,seval,ho,d0,e2,bJ,s4,m4,z,a,b,c1,d,g,h1,true_and,and_true,false_and,and_false,or_true,true_or,or_false,false_or,not_true_eq_false,not_false_eq_true,if_true,if_false]|simp(disch:=omega)only[w0]));exact aE _
         ·(repeat(first|simp only[go_sem,seval,ho,d0,e2,bJ,s4,m4,z,a,b,c1,d,g,true_and,and_true,false_and,and_false,or_true,true_or,or_false,false_or,not_true_eq_false,not_false_eq_true,if_true,if_false]|simp(disch:=omega)only[w0]));exact aE _
     .rcases Classical.propComplete (off=4096#64)with c1|c1
      ·(repeat(first|simp only[go_sem,seval,ho,d0,e2,bJ,s4,m4,z,a,c1,true_and,and_true,false_and,and_false,or_true,true_or,or_false,false_or,not_true_eq_false,not_false_eq_true,if_true,if_false]|simp(disch:=omega)only[w0]));exact aE _
      .rcases Classical.propComplete (8192#64<=off)with d|d
       .rcases Classical.propComplete (off<8192#64+128#64*aw 64 (2*c.n))with e|e
        .rcases Classical.propComplete (off%128#64=0#64)with f|f
         .have ei:=uO (a:=(off-8192#64)/128#64) (by simpa only[bJ,not_true_eq_false,s4,m4,z,a,c1,d,e,f,true_and,and_true,false_and,and_false,or_true,true_or,or_false,false_or,not_true_eq_false,not_false_eq_true,if_true,if_false]using hi);(repeat(first|simp only[go_sem,seval,ho,d0,e2,bJ,s4,m4,z,a,c1,d,e,f,ei,true_and,and_true,false_and,and_false,or_true,true_or,or_false,false_or,not_true_eq_false,not_false_eq_true,if_true,if_false]|simp(disch:=omega)only[w0]));exact aE _
         .rcases Classical.propComplete (2097152#64<=off)with g|g
          .rcases Classical.propComplete (off<2097152#64+4096#64*aw 64 (2*c.n))with h1|h1
           .rcases Classical.propComplete (off%4096#64=0#64)with i|i
            .have ei:=uO (a:=(off-2097152#64)/4096#64) (by simpa only[bJ,not_true_eq_false,s4,m4,z,a,c1,d,e,f,g,h1,i,true_and,and_true,false_and,and_false,or_true,true_or,or_false,false_or,not_true_eq_false,not_false_eq_true,if_true,if_false]using hi);(repeat(first|simp only[go_sem,seval,ho,d0,e2,bJ,s4,m4,z,a,c1,d,e,f,g,h1,i,ei,true_and,and_true,false_and,and_false,or_true,true_or,or_false,false_or,not_true_eq_false,not_false_eq_true,if_true,if_false]|simp(disch:=omega)only[w0]));exact aE _
            .rcases Classical.propComplete (off%4096#64=4#64)with j|j
             .have ei:=uO (a:=(off-2097152#64)/4096#64) (by simpa only[bJ,not_true_eq_false,s4,m4,z,a,c1,d,e,f,g,h1,i,j,true_and,and_true,false_and,and_false,or_true,true_or,or_false,false_or,not_true_eq_false,not_false_eq_true,if_true,if_false]using hi);(repeat(first|simp only[go_sem,seval,ho,d0,e2,bJ,s4,m4,z,a,c1,d,e,f,g,h1,i,j,ei,true_and,and_true,false_and,and_false,or_true,true_or,or_false,false_or,not_true_eq_false,not_false_eq_true,if_true,if_false]|simp(disch:=omega)only[w0]));exact aE _
             ·(repeat(first|simp only[go_sem,seval,ho,d0,e2,bJ,s4,m4,z,a,c1,d,e,f,g,h1,i,j,true_and,and_true,false_and,and_false,or_true,true_or,or_false,false_or,not_true_eq_false,not_false_eq_true,if_true,if_false]|simp(disch:=omega)only[w0]));exact aE _
           ·(repeat(first|simp only[go_sem,seval,ho,d0,e2,bJ,s4,m4,z,a,c1,d,e,f,g,h1,true_and,and_true,false_and,and_false,or_true,true_or,or_false,false_or,not_true_eq_false,not_false_eq_true,if_true,if_false]|simp(disch:=omega)only[w0]));exact aE _
          ·(repeat(first|simp only[go_sem,seval,ho,d0,e2,bJ,s4,m4,z,a,c1,d,e,f,g,true_and,and_true,false_and,and_false,or_true,true_or,or_false,false_or,not_true_eq_false,not_false_eq_true,if_true,if_false]|simp(disch:=omega)only[w0]));exact aE _
        .rcases Classical.propComplete (2097152#64<=off)with g|g
         .rcases Classical.propComplete (off<2097152#64+4096#64*aw 64 (2*c.n))with h1|h1
          .rcases Classical.propComplete (off%4096#64=0#64)with i|i
           .have ei:=uO (a:=(off-2097152#64)/4096#64) (by simpa only[bJ,not_true_eq_false,s4,m4,z,a,c1,d,e,g,h1,i,true_and,and_true,false_and,and_false,or_true,true_or,or_false,false_or,not_true_eq_false,not_false_eq_true,if_true,if_false]using hi);(repeat(first|simp only[go_sem,seval,ho,d0,e2,bJ,s4,m4,z,a,c1,d,e,g,h1,i,ei,true_and,and_true,false_and,and_false,or_true,true_or,or_false,false_or,not_true_eq_false,not_false_eq_true,if_true,if_false]|simp(disch:=omega)only[w0]));exact aE _
           .rcases Classical.propComplete (off%4096#64=4#64)with j|j
            .have ei:=uO (a:=(off-2097152#64)/4096#64) (by simpa only[bJ,not_true_eq_false,s4,m4,z,a,c1,d,e,g,h1,i,j,true_and,and_true,false_and,and_false,or_true,true_or,or_false,false_or,not_true_eq_false,not_false_eq_true,if_true,if_false]using hi);(repeat(first|simp only[go_sem,seval,ho,d0,e2,bJ,s4,m4,z,a,c1,d,e,g,h1,i,j,ei,true_and,and_true,false_and,and_false,or_true,true_or,or_false,false_or,not_true_eq_false,not_false_eq_true,if_true,if_false]|simp(disch:=omega)only[w0]));exact aE _
            ·(repeat(first|simp only[go_sem,seval,ho,d0,e2,bJ,s4,m4,z,a,c1,d,e,g,h1,i,j,true_and,and_true,false_and,and_false,or_true,true_or,or_false,false_or,not_true_eq_false,not_false_eq_true,if_true,if_false]|simp(disch:=omega)only[w0]));exact aE _
          ·(repeat(first|simp only[go_sem,seval,ho,d0,e2,bJ,s4,m4,z,a,c1,d,e,g,h1,true_and,and_true,false_and,and_false,or_true,true_or,or_false,false_or,not_true_eq_false,not_false_eq_true,if_true,if_false]|simp(disch:=omega)only[w0]));exact aE _
         ·(repeat(first|simp only[go_sem,seval,ho,d0,e2,bJ,s4,m4,z,a,c1,d,e,g,true_and,and_true,false_and,and_false,or_true,true_or,or_false,false_or,not_true_eq_false,not_false_eq_true,if_true,if_false]|simp(disch:=omega)only[w0]));exact aE _
       .rcases Classical.propComplete (2097152#64<=off)with g|g
        .rcases Classical.propComplete (off<2097152#64+4096#64*aw 64 (2*c.n))with h1|h1
         .rcases Classical.propComplete (off%4096#64=0#64)with i|i
          .have ei:=uO (a:=(off-2097152#64)/4096#64) (by simpa only[bJ,not_true_eq_false,s4,m4,z,a,c1,d,g,h1,i,true_and,and_true,false_and,and_false,or_true,true_or,or_false,false_or,not_true_eq_false,not_false_eq_true,if_true,if_false]using hi);(repeat(first|simp only[go_sem,seval,ho,d0,e2,bJ,s4,m4,z,a,c1,d,g,h1,i,ei,true_and,and_true,false_and,and_false,or_true,true_or,or_false,false_or,not_true_eq_false,not_false_eq_true,if_true,if_false]|simp(disch:=omega)only[w0]));exact aE _
          .rcases Classical.propComplete (off%4096#64=4#64)with j|j
           .have ei:=uO (a:=(off-2097152#64)/4096#64) (by simpa only[bJ,not_true_eq_false,s4,m4,z,a,c1,d,g,h1,i,j,true_and,and_true,false_and,and_false,or_true,true_or,or_false,false_or,not_true_eq_false,not_false_eq_true,if_true,if_false]using hi);(repeat(first|simp only[go_sem,seval,ho,d0,e2,bJ,s4,m4,z,a,c1,d,g,h1,i,j,ei,true_and,and_true,false_and,and_false,or_true,true_or,or_false,false_or,not_true_eq_false,not_false_eq_true,if_true,if_false]|simp(disch:=omega)only[w0]));exact aE _
           ·(repeat(first|simp only[go_sem,seval,ho,d0,e2,bJ,s4,m4,z,a,c1,d,g,h1,i,j,true_and,and_true,false_and,and_false,or_true,true_or,or_false,false_or,not_true_eq_false,not_false_eq_true,if_true,if_false]|simp(disch:=omega)only[w0]));exact aE _
         ·(repeat(first|simp only[go_sem,seval,ho,d0,e2,bJ,s4,m4,z,a,c1,d,g,h1,true_and,and_true,false_and,and_false,or_true,true_or,or_false,false_or,not_true_eq_false,not_false_eq_true,if_true,if_false]|simp(disch:=omega)only[w0]));exact aE _
        ·(repeat(first|simp only[go_sem,seval,ho,d0,e2,bJ,s4,m4,z,a,c1,d,g,true_and,and_true,false_and,and_false,or_true,true_or,or_false,false_or,not_true_eq_false,not_false_eq_true,if_true,if_false]|simp(disch:=omega)only[w0]));exact aE _
   ·(repeat(first|simp only[go_sem,seval,ho,d0,e2,bJ,s4,m4,true_and,and_true,false_and,and_false,or_true,true_or,or_false,false_or,not_true_eq_false,not_false_eq_true,if_true,if_false]|simp(disch:=omega)only[w0]));exact aE _
  ·(repeat(first|simp only[go_sem,seval,ho,d0,e2,bJ,s4,true_and,and_true,false_and,and_false,or_true,true_or,or_false,false_or,not_true_eq_false,not_false_eq_true,if_true,if_false]|simp(disch:=omega)only[w0]));exact aE _
 .simp at h
attribute [go_sem 1100]ah9 aia ah8
attribute [go_sem]Uo
def Cw(args:List AV):Option AV:=match args with|[.c (.i n)]=>if 0<=n/\n<=31 then some (.c (iA (dh n.toNat)))else none|_=>none
theorem sS{n}:Cw [.c (.i n)]=if 0<=n/\n<=31 then some (.c (iA (dh n.toNat)))else none:=rfl
theorem UA:cE Tryz.prog 142 Cw:=by
 refine cN tn Tryz.func142 rfl Tryz.results142 Tryz.ntmps142 ?_;intro args v h;unfold Cw at h;split at h
 .rename_i n;split at h
  .rename_i hc;simp only[ar]at h;subst h;refine⟨by simp only[cZ,dY];decide,rfl,rfl,?_⟩;obtain⟨c0,c1⟩:=hc;obtain⟨k,rfl⟩:∃k:Nat,n=(k:Int):=⟨n.toNat,ω⟩;have e:(aw 64 (k:Int)).toNat=k:=by rw[kU];omega
   have e5:IntKind.u32.wrap (1*2^min k 32)=((dh k).toNat:Int):=by
    have:k=0\/k=1\/k=2\/k=3\/k=4\/k=5\/k=6\/k=7\/k=8\/k=9\/k=10\/k=11\/k=12\/k=13\/k=14\/k=15\/k=16\/k=17\/k=18\/k=19\/k=20\/k=21\/k=22\/k=23\/k=24\/k=25\/k=26\/k=27\/k=28\/k=29\/k=30\/k=31:=ω
    rcases this with rfl|rfl|rfl|rfl|rfl|rfl|rfl|rfl|rfl|rfl|rfl|rfl|rfl|rfl|rfl|rfl|rfl|rfl|rfl|rfl|rfl|rfl|rfl|rfl|rfl|rfl|rfl|rfl|rfl|rfl|rfl|rfl<;>rfl
   (repeat(first|simp(maxSteps:=9^9)only[go_sem,seval,e,e5,iA,aO]|simp(disch:=omega)only[aq,aK,aJ,aI,aH]))
  .simp at h
 .simp at h
noncomputable def LJ(args:List AV)(H:AH):Option AV:=match args with|[.c x,.c (.k .u32 am),.c (.k .u8 ab)]=>if 0<=am/\am<=4294967295 then(qz H x).map λc=>.c (.i (jD c.p (aw 32 am) ab 31:Nat))else none|_=>none
theorem Bb{H:AH}{x:Sc}{c:Pk}(h:qz H x=some c){am:BitVec 32}{ab:Int}:LJ [.c x,.c (.k .u32 (am.toNat:Int)),.c (.k .u8 ab)] H=some (.c (.i (jD c.p am ab 31:Nat))):=by
 have:=am.isLt;simp only[LJ,h,n9,Uo];rw[if_pos ω]
theorem ax7(A:BitVec 32){i:Nat}(hi:i<32):((A.toNat:Int)/2^min i 32)=((A>>>i).toNat:Int):=by
 rw[Nat.min_eq_left ω,BitVec.toNat_ushiftRight,Nat.shiftRight_eq_div_pow];simp
theorem atu(A:BitVec 32):((A.toNat:Int)=1)=(A=1#32):=propext ⟨λh=>lJ (by show _=1;omega),λh=>by rw[h];rfl⟩
theorem ab2:aZ Tryz.prog 182 (λargs H=>(LJ args H).map λv=>(v,H)):=by
 refine iR (s:=LJ) tn Tryz.func182 rfl Tryz.results182 Tryz.ntmps182 ?_;intro args H v h bM hH;unfold LJ at h;split at h
 .rename_i x am ab;split at h
  .rename_i ha;rw[ef]at h;obtain⟨c,hc,rfl⟩:=h;obtain⟨A,rfl⟩:∃A:BitVec 32,am=(A.toNat:Int):=⟨aw 32 am,by rw[kU];omega⟩;rw[Uo];obtain⟨id,o,cs,F,rfl,ck⟩:=Dp hc;have aD:=ck.aD;have ho:=ck.ho;have q:=ck.q;refine⟨by simp only[cZ,dY];decide,rfl,?_⟩;(repeat(first|simp(maxSteps:=9^9)only[go_sem,seval]|simp(disch:=omega)only[aq,aK,aJ,aI,aH]));refine eY 31 (λi=>([(0,.c (.p id o 0)),(1,.c (.k .u32 (A.toNat:Int))),(2,.c (.k .u8 ab)),(7,.c (.i (jD c.p A ab i:Nat))),(8,.c (.i (i+1)))],H)) (Wk.fq (by simp[Am.get,jD])) λi hi=>?_;by_cases aL:i<31
   .have e0:(i:Int)+1<32:=ω
    have e1:az ((i:Int)+1+1)=((i+1:Nat):Int)+1:=by rw[aq ω ω];omega
    have e2:(aw 64 ((i:Int)+1)).toNat=i+1:=by rw[kU];omega
    have e3:((i:Int)+1).toNat=i+1:=ω
    have d1:cs.getD (o+1+(i+1)) .any=.k .u8 (c.p.getD (i+1) 0):=ck.dp (i+1) ω;have hb:=Js (p:=c.p) (am:=A) (ab:=ab) i;have d2:cs.getD (o+1+jD c.p A ab i) .any=.k .u8 (c.p.getD (jD c.p A ab i) 0):=ck.dp _ ω;have er:=ax7 A (i:=i+1) ω;have eb:=atu (A>>>(i+1)&&&1#32);have eS:jD c.p A ab (i+1)=if(yH c.p A ab (i+1)&&(decide (jD c.p A ab i=0)||decide (c.p.getD (jD c.p A ab i) 0<c.p.getD (i+1) 0)))=true then i+1 else jD c.p A ab i:=rfl;unfold yH at eS;have cz:((jD c.p A ab i:Int)=0)=(jD c.p A ab i=0):=propext ω;generalize hB:jD c.p A ab i=B at*;rcases Classical.propComplete (A>>>(i+1)&&&1#32=1#32)with E|E
    .rw[E]at eb;rcases Classical.propComplete (ab<c.p.getD (i+1) 0)with g|g
     .rcases Classical.propComplete (B=0)with z|z
      .rw[z]at cz;simp only[E,g,z,decide_true,gv,Bool.true_or,if_true]at eS;(repeat(first|simp(maxSteps:=9^9)only[go_sem,seval,e0,e1,e2,e3,ho,d1,er,eb,g,cz]|simp(disch:=omega)only[aq,aK,aJ,aI,aH]));exact⟨i+1,ω,ω,Wk.fq (by simp[Am.get,eS])⟩
      .rw[z]at cz;rcases Classical.propComplete (c.p.getD B 0<c.p.getD (i+1) 0)with t|t;all_goals simp only[E,g,z,t,decide_true,decide_false,gv,Bool.false_or,cX,rh,if_true,if_false,dC]at eS
       all_goals(repeat(first|simp(maxSteps:=9^9)only[go_sem,seval,e0,e1,e2,e3,ho,d1,d2,er,eb,g,cz,t,aO]|simp(disch:=omega)only[aq,aK,aJ,aI,aH]))
       all_goals exact⟨i+1,ω,ω,Wk.fq (by simp[Am.get,eS])⟩
     .simp only[E,g,decide_true,decide_false,gv,nZ,rh,if_false,dC]at eS;(repeat(first|simp(maxSteps:=9^9)only[go_sem,seval,e0,e1,e2,e3,ho,d1,er,eb,g]|simp(disch:=omega)only[aq,aK,aJ,aI,aH]));exact⟨i+1,ω,ω,Wk.fq (by simp[Am.get,eS])⟩
    .rw[E]at eb;simp only[E,decide_false,nZ,if_false,dC]at eS;(repeat(first|simp(maxSteps:=9^9)only[go_sem,seval,e0,e1,e2,e3,ho,er,eb]|simp(disch:=omega)only[aq,aK,aJ,aI,aH]));exact⟨i+1,ω,ω,Wk.fq (by simp[Am.get,eS])⟩
   .obtain rfl:i=31:=ω
    (repeat(first|simp(maxSteps:=9^9)only[go_sem,seval]|simp(disch:=omega)only[aq,aK,aJ,aI,aH]));exact aE _
  .simp at h
 .simp at h
theorem Ee{m:List Sc}(h:wr cs k [x]=m):bV k cs++x::cY (k+1) cs=m:=by rw[<-h,Gm];simp
def sV(c:Pk):Pk:={c with q:=c.q|||c.w&&&~~~c.s}
theorem WR(h:cG c):cG (sV c):=h.qX _ _ _
noncomputable def F4(args:List AV)(H:AH):Option (AV×AH):=match args with|[.c x]=>(qz H x).map λc=>(.t [],pN H x (sV c))|_=>none
theorem wU(h:qz H x=some c):F4 [.c x] H=some (.t [],pN H x (sV c)):=by simp only[F4,h,n9]
theorem aon(args:List AV)(H:AH)(v:AV)(H1:AH)(h:F4 args H=some (v,H1)):H.length<=H1.length:=by
 unfold F4 at h;split at h
 .rw[ef]at h;obtain⟨c,_,h⟩:=h;simp only[bD]at h;rw[<-h.2,pN,IU];exact aC _
 .simp at h
theorem ab3:aZ Tryz.prog 143 F4:=by
 refine fU (s:=F4) tn Tryz.func143 rfl Tryz.results143 Tryz.ntmps143 aon ?_;intro args H v H1 h bM hH;unfold F4 at h;split at h
 .rename_i x;rw[ef]at h;obtain⟨c,hc,h⟩:=h;simp only[bD]at h;obtain⟨rfl,rfl⟩:=h;obtain⟨id,o,cs,F,rfl,ck⟩:=Dp hc;have aD:=ck.aD;have ho:=ck.ho;have q:=ck.q;have dw:cs.getD (o+33) .any=.k .u32 (c.w.toNat:Int):=ck.dw;have dq:cs.getD (o+34) .any=.k .u32 (c.q.toNat:Int):=ck.dq;have ds:cs.getD (o+35) .any=.k .u32 (c.s.toNat:Int):=ck.ds;have wq:∀v:BitVec 32,bV (o+34) cs++.k .u32 (v.toNat:Int)::cY (o+34+1) cs=F {c with q:=v}:=λv=>Ee (ck.wq v);have hb:=λd=>ck.aj d hH;refine⟨by simp,?_⟩;rw[ck.set];(repeat(first|simp only[go_sem,seval,ho,dw,dq,ds,wq]|simp(disch:=omega)only[w0]));(repeat' first|apply cn|(intro c;exact absurd c ω)|(intro _;kernel_rfl)|kernel_rfl);exact cV rfl (aE _) (hb (sV c)) (by simp)
 .simp at h
def fP(c:Pk)(s:Int)(on:Bool):Pk:=if c.n=0\/s<1\/32<=s then c else if on=true then sV {c with w:=c.w|||dh s.toNat}else sV {c with w:=c.w&&&~~~(dh s.toNat)}
def pO(c:Pk)(s:Int):Bool:=!(decide (c.n=0)||(decide (s<1)||decide (32<=s)))
theorem OX(h:cG c)(s:Int)(on:Bool):cG (fP c s on):=by
 unfold fP;repeat' split
 .exact h
 .exact WR (h.qX _ _ _)
 .exact WR (h.qX _ _ _)
noncomputable def Bc(args:List AV)(H:AH):Option (AV×AH):=match args with|[.c x,.c (.i s),.c (.b on)]=>(qz H x).map λc=>(.c (.b (pO c s)),pN H x (fP c s on))|_=>none
theorem ad9{on:Bool}(h:qz H x=some c):Bc [.c x,.c (.i s),.c (.b on)] H=some (.c (.b (pO c s)),pN H x (fP c s on)):=by simp only[Bc,h,n9]
theorem aoo(args:List AV)(H:AH)(v:AV)(H1:AH)(h:Bc args H=some (v,H1)):H.length<=H1.length:=by
 unfold Bc at h;split at h
 .rw[ef]at h;obtain⟨c,_,h⟩:=h;simp only[bD]at h;rw[<-h.2,pN,IU];exact aC _
 .simp at h
theorem ar9:aZ Tryz.prog 89 Bc:=by
 refine fU (s:=Bc) (tu UA (tp ab3 tn)) Tryz.func89 rfl Tryz.results89 Tryz.ntmps89 aoo ?_;intro args H v H1 h bM hH;unfold Bc at h;split at h
 .rename_i x s on;rw[ef]at h;obtain⟨c,hc,h⟩:=h;simp only[bD]at h;obtain⟨rfl,rfl⟩:=h;obtain⟨id,o,cs,F,rfl,ck⟩:=Dp hc;have aD:=ck.aD;have ho:=ck.ho;have q:=ck.q;have d0:=ck.d0;have dw:cs.getD (o+33) .any=.k .u32 (c.w.toNat:Int):=ck.dw;have ww:∀v:BitVec 32,bV (o+33) cs++.k .u32 (v.toNat:Int)::cY (o+33+1) cs=F {c with w:=v}:=λv=>Ee (ck.ww v);have hb:=λd=>ck.aj d hH;refine⟨by simp,?_⟩;rw[ck.set];have no:(c.n=0\/s<1\/32<=s)->fP c s on=c:=λh=>if_pos h;by_cases z:c.n=0
  .rw[no (.inl z),ck.self,<-ho,ua rfl aD];have e:pO c s=false:=by simp[pO,z]
   rw[e];(repeat(first|simp only[go_sem,seval,ho,d0,z]|simp(disch:=omega)only[w0]));exact cV rfl (aE _) hH (aC _)
  by_cases s1:s<1
  .rw[no (.inr (.inl s1)),ck.self,<-ho,ua rfl aD];have e:pO c s=false:=by simp[pO,s1]
   rw[e];(repeat(first|simp only[go_sem,seval,ho,d0,z,s1]|simp(disch:=omega)only[w0]));exact cV rfl (aE _) hH (aC _)
  by_cases s2:32<=s
  .rw[no (.inr (.inr s2)),ck.self,<-ho,ua rfl aD];have e:pO c s=false:=by simp[pO,s2]
   rw[e];(repeat(first|simp only[go_sem,seval,ho,d0,z,s1,s2]|simp(disch:=omega)only[w0]));exact cV rfl (aE _) hH (aC _)
  have e:pO c s=true:=by simp[pO,z,s1,s2]
  rw[e];have eb:Cw [.c (.i s)]=some (.c (.k .u32 ((dh s.toNat).toNat:Int))):=by
   simp only[Cw];first|rfl|(rw[if_pos ω];rfl)
  cases on
  .have e1:fP c s false=sV {c with w:=c.w&&&~~~(dh s.toNat)}:=by unfold fP;rw[if_neg ω,if_neg δ]
   have zf:cG {c with w:=c.w&&&~~~(dh s.toNat)}:=ck.ok.qX _ _ _;have st:=wU (ck.nq zf);rw[ck.ns zf]at st;rw[e1];(repeat(first|simp only[go_sem,seval,sS,wU,ho,d0,dw,ww,z,s1,s2,eb,st]|simp(disch:=omega)only[w0]));(repeat' first|apply cn|(intro c;exact absurd c ω)|(intro _;kernel_rfl)|kernel_rfl);exact cV rfl (aE _) (hb _) (by simp)
  .have e1:fP c s true=sV {c with w:=c.w|||dh s.toNat}:=by unfold fP;rw[if_neg ω,if_pos rfl]
   have zf:cG {c with w:=c.w|||dh s.toNat}:=ck.ok.qX _ _ _;have st:=wU (ck.nq zf);rw[ck.ns zf]at st;rw[e1];(repeat(first|simp only[go_sem,seval,sS,wU,ho,d0,dw,ww,z,s1,s2,eb,st]|simp(disch:=omega)only[w0]));(repeat' first|apply cn|(intro c;exact absurd c ω)|(intro _;kernel_rfl)|kernel_rfl);exact cV rfl (aE _) (hb _) (by simp)
 .simp at h
theorem zX.next{H:AH}{id o:Nat}{cs:List Sc}{c:Pk}{F:Pk->List Sc}(h:zX H id o cs c F){d:Pk}(hd:cG d):zX (H.set id (.own (F d))) id o (F d) d F:=by
 obtain⟨pA,o',vW,F',hx,k⟩:=Dp (h.nq hd);simp only[Sc.p.injEq,and_true]at hx;obtain⟨rfl,rfl⟩:=hx;have e1:F'=F:=funext λe=>by
  have a:=k.set e;rw[h.ns hd,xo]at a;have b:=congrArg (λH=>hg H id) a;simp only[jj h.aD]at b;exact(ae.own.inj b).symm
 have e2:vW=F d:=by rw[<-k.self,e1]
 rw[e1,e2]at k;exact k
def kx(c:Pk)(k:Int):Bool:=decide (0<=k/\k<2*c.n)&&decide (0<jD c.p (c.q&&&c.e.getD k.toNat 0#32) (c.l.getD k.toNat 0) 31)
noncomputable def IG(args:List AV)(H:AH):Option AV:=match args with|[.c x,.c (.i k)]=>(qz H x).map λc=>.c (.b (kx c k))|_=>none
theorem aw7{k:Int}(h:qz H x=some c):IG [.c x,.c (.i k)] H=some (.c (.b (kx c k))):=by simp only[IG,h,n9]
theorem ar6:aZ Tryz.prog 140 (λargs H=>(IG args H).map λv=>(v,H)):=by
 refine iR (s:=IG) (tq ab2 tn) Tryz.func140 rfl Tryz.results140 Tryz.ntmps140 ?_;intro args H v h bM hH;unfold IG at h;split at h
 .rename_i x k;rw[ef]at h;obtain⟨c,hc,rfl⟩:=h;obtain⟨id,o,cs,F,rfl,ck⟩:=Dp hc;have aD:=ck.aD;have ho:=ck.ho;have q:=ck.q;have d0:=ck.d0;have n0:=ck.ok.n0;have n1:=ck.ok.n1;have e2:az (2*c.n)=2*c.n:=aq ω ω;refine⟨by simp,rfl,?_⟩;by_cases k0:k<0
  .have e:kx c k=false:=by unfold kx;rw[decide_eq_false ω];rfl
   rw[e];simp only[go_sem,seval,ho,d0,k0];exact aE _
  by_cases k1:2*c.n<=k
  .have e:kx c k=false:=by unfold kx;rw[decide_eq_false ω];rfl
   rw[e];(repeat(first|simp only[go_sem,seval,ho,d0,e2,k0,k1]|simp(disch:=omega)only[w0]));exact aE _
  obtain⟨m,rfl⟩:∃m:Nat,k=(m:Int):=⟨k.toNat,ω⟩;have hm:m<16:=ω
  have dq:cs.getD (o+34) .any=.k .u32 (c.q.toNat:Int):=ck.dq;have de:cs.getD (o+36+m) .any=.k .u32 ((c.e.getD m 0#32).toNat:Int):=ck.de m hm;have dl:cs.getD (o+52+m) .any=.k .u8 (c.l.getD m 0):=ck.dl m hm;have pb:=λam ab=>Bb hc (am:=am) (ab:=ab);have e:kx c m=decide (0<jD c.p (c.q&&&c.e.getD m 0#32) (c.l.getD m 0) 31):=by unfold kx;rw[decide_eq_true ω,aO];rfl
  rw[e];have ez:(0<((jD c.p (c.q&&&c.e.getD m 0#32) (c.l.getD m 0) 31:Nat):Int))=(0<jD c.p (c.q&&&c.e.getD m 0#32) (c.l.getD m 0) 31):=propext ω;(repeat(first|simp only[go_sem,seval,Bb,ho,d0,e2,k0,k1,dq,de,dl,pb,ez,aO]|simp(disch:=omega)only[w0]));exact aE _
 .simp at h
theorem K0(n:Int)(off:BitVec 64)(sz:Int):(bJ n off sz).k=0\/(bJ n off sz).k=1\/(bJ n off sz).k=2\/(bJ n off sz).k=3\/(bJ n off sz).k=4\/(bJ n off sz).k=5:=by
 unfold bJ;repeat' split
 all_goals simp
def qV(c:Pk)(i:Nat):Nat:=jD c.p (c.q&&&c.e.getD i 0#32) 0 31
def nV(c:Pk)(a:Pa):BitVec 64:=if a.k=1 then aw 64 (c.p.getD a.i 0)else if a.k=2 then aw 64 (c.q.toNat:Int)else if a.k=3 then aw 64 ((c.e.getD a.i 0#32).toNat:Int)else if a.k=4 then aw 64 (c.l.getD a.i 0)else if a.k=5 then aw 64 (qV c a.i:Int)else 0#64
def nE(c:Pk)(a:Pa):Pk:=if a.k=5/\0<qV c a.i then{c with q:=c.q&&&~~~(dh (qV c a.i)),s:=c.s|||dh (qV c a.i)}else c
theorem acG(h:cG c)(a:Pa):cG (nE c a):=by
 unfold nE;split
 .exact h.qX _ _ _
 .exact h
noncomputable def DN(args:List AV)(H:AH):Option (AV×AH):=match args with|[.c x,.c (.u off),.c (.i sz)]=>(qz H x).map λc=>(.t [.c (.u (nV c (bJ c.n off sz))),.c (.b (!decide ((bJ c.n off sz).k=0)))],pN H x (nE c (bJ c.n off sz)))|_=>none
theorem aw9(h:qz H x=some c):DN [.c x,.c (.u off),.c (.i sz)] H=some (.t [.c (.u (nV c (bJ c.n off sz))),.c (.b (!decide ((bJ c.n off sz).k=0)))],pN H x (nE c (bJ c.n off sz))):=by simp only[DN,h,n9]
theorem aom(args:List AV)(H:AH)(v:AV)(H1:AH)(h:DN args H=some (v,H1)):H.length<=H1.length:=by
 unfold DN at h;split at h
 .rw[ef]at h;obtain⟨c,_,h⟩:=h;simp only[bD]at h;rw[<-h.2,pN,IU];exact aC _
 .simp at h
theorem ar8:aZ Tryz.prog 131 DN:=by
 refine fU (s:=DN) (tq UB (tq ab2 (tu UA tn))) Tryz.func131 rfl Tryz.results131 Tryz.ntmps131 aom ?_;intro args H v H1 h bM hH;unfold DN at h;split at h
 .rename_i x off sz;rw[ef]at h;obtain⟨c,hc,h⟩:=h;simp only[bD]at h;obtain⟨rfl,rfl⟩:=h;obtain⟨id,o,cs,F,rfl,ck⟩:=Dp hc;have aD:=ck.aD;have ho:=ck.ho;have q:=ck.q;have f0:=qW hc (off:=off) (sz:=sz);have hi:=KZ ck.ok.n0 ck.ok.n1 off sz;have hk:=K0 c.n off sz;have hb:=λd=>ck.aj d hH;refine⟨by simp,?_⟩;rw[ck.set];generalize bJ c.n off sz=a at*;obtain⟨ak,ai⟩:=a;simp only at hi hk f0;have no:ak≠5->nE c ⟨ak,ai⟩=c:=λh=>if_neg λc=>h c.1;have sf:F c=cs:=ck.self;have hs:H.set id (.own cs)=H:=by rw[<-ho,ua rfl aD]
  have dq:cs.getD (o+34) .any=.k .u32 (c.q.toNat:Int):=ck.dq;rcases hk with rfl|rfl|rfl|rfl|rfl|rfl
  .rw[no δ,sf,hs];simp only[go_sem,seval,qW,Bb,sS,f0,nV];exact cV rfl (aE _) hH (aC _)
  .have dp:cs.getD (o+1+ai) .any=.k .u8 (c.p.getD ai 0):=ck.dp ai hi.1;rw[no δ,sf,hs];(repeat(first|simp only[go_sem,seval,qW,Bb,sS,f0,nV,ho,dp,aO]|simp(disch:=omega)only[w0]));exact cV rfl (aE _) hH (aC _)
  .rw[no δ,sf,hs];(repeat(first|simp only[go_sem,seval,qW,Bb,sS,f0,nV,ho,dq]|simp(disch:=omega)only[w0]));exact cV rfl (aE _) hH (aC _)
  .have i16:=hi.2 δ;have de:cs.getD (o+36+ai) .any=.k .u32 ((c.e.getD ai 0#32).toNat:Int):=ck.de ai i16;rw[no δ,sf,hs];(repeat(first|simp only[go_sem,seval,qW,Bb,sS,f0,nV,ho,de,aO]|simp(disch:=omega)only[w0]));exact cV rfl (aE _) hH (aC _)
  .have i16:=hi.2 δ;have dl:cs.getD (o+52+ai) .any=.k .u8 (c.l.getD ai 0):=ck.dl ai i16;rw[no δ,sf,hs];(repeat(first|simp only[go_sem,seval,qW,Bb,sS,f0,nV,ho,dl,aO]|simp(disch:=omega)only[w0]));exact cV rfl (aE _) hH (aC _)
  .have i16:=hi.2 δ;have de:cs.getD (o+36+ai) .any=.k .u32 ((c.e.getD ai 0#32).toNat:Int):=ck.de ai i16;have pb:=λam ab=>Bb hc (am:=am) (ab:=ab);have Yo:qV c ai<=31:=Js 31;have eB:jD c.p (c.q&&&c.e.getD ai 0#32) 0 31=qV c ai:=rfl;have eb:Cw [.c (.i (qV c ai:Int))]=some (.c (.k .u32 ((dh (qV c ai)).toNat:Int))):=by
    simp only[Cw];rw[if_pos ω,aO];rfl
   have ds:∀v:BitVec 32,(F {c with q:=v}).getD (o+35) .any=.k .u32 (c.s.toNat:Int):=λv=>((ck.next (d:={c with q:=v}) (ck.ok.qX _ _ _)).ds);have wq:∀v:BitVec 32,bV (o+34) cs++.k .u32 (v.toNat:Int)::cY (o+34+1) cs=F {c with q:=v}:=λv=>Ee (ck.wq v);have ws:∀v w:BitVec 32,bV (o+35) (F {c with q:=v})++.k .u32 (w.toNat:Int)::cY (o+35+1) (F {c with q:=v})=F {c with q:=v,s:=w}:=λv w=>Ee ((ck.next (d:={c with q:=v}) (ck.ok.qX _ _ _)).ws w);have fl:∀v:BitVec 32,o+68<=(F {c with q:=v}).length:=λv=>(ck.next (d:={c with q:=v}) (ck.ok.qX _ _ _)).q;generalize hB:qV c ai=B at*;rcases Nat.eq_zero_or_pos B with z|z
   .subst z;have e:nE c ⟨5,ai⟩=c:=if_neg λh=>by have:=h.2;rw[hB]at this;exact absurd this δ
    rw[e,sf,hs];(repeat(first|simp only[go_sem,seval,qW,Bb,sS,f0,nV,hB,ho,dq,de,pb,eB,aO]|simp(disch:=omega)only[w0]));exact cV rfl (aE _) hH (aC _)
   .have e:nE c ⟨5,ai⟩={c with q:=c.q&&&~~~(dh B),s:=c.s|||dh B}:=by unfold nE;simp only[hB];rw[if_pos ⟨trivial,z⟩]
    have e0:(0:Int)<(B:Int):=ω
    have hgs:∀y,hg (H.set id y) id=y:=λy=>jj aD;have fl1:=fl (c.q&&&~~~(dh B));have fl2:o+35+1<=(F {c with q:=c.q&&&~~~(dh B)}).length:=ω
    rw[e];(repeat(first|simp only[go_sem,seval,qW,Bb,sS,f0,nV,hB,ho,dq,de,pb,eB,eb,e0,wq,ws,ds,hgs,fl2,aO]|simp(disch:=omega)only[w0]));(repeat' first|apply cn|(intro c;exact absurd c ω)|(intro _;kernel_rfl)|kernel_rfl);exact cV rfl (aE _) (hb _) (by simp)
 .simp at h
theorem aAs(v:BitVec 64):IntKind.u32.wrap (v.toNat:Int)=((v.setWidth 32).toNat:Int):=by
 rw[BitVec.toNat_setWidth];simp[IntKind.wrap,IntKind.bits,IntKind.signed]
theorem Ya(v:BitVec 64):(v&&&7#64).toNat<=7:=by
 rw[BitVec.toNat_and];exact Nat.and_le_right
theorem aAp(v:BitVec 64):IntKind.u8.wrap ((v&&&7#64).toNat:Int)=((v&&&7#64).toNat:Int):=by
 have:=Ya v;generalize(v&&&7#64).toNat=m at*;have h:∀x:Int,IntKind.u8.wrap x=x%256:=λx=>by simp[IntKind.wrap,IntKind.bits,IntKind.signed]
 rw[h];omega
theorem aA6(A:BitVec 32):((A.toNat:Int)=0)=(A=0#32):=propext ⟨λh=>lJ (by show _=0;omega),λh=>by rw[h];rfl⟩
def A5(c:Pk)(i:Nat)(s:BitVec 32):Prop:=s.toNat<32/\¬c.e.getD i 0#32&&&c.s&&&dh s.toNat=0#32
instance {c:Pk}{i:Nat}{s:BitVec 32}:Decidable (A5 c i s):=by unfold A5;infer_instance
def iZ(c:Pk)(a:Pa)(v:BitVec 64):Pk:=if a.k=1 then{c with p:=c.p.set a.i ((v&&&7#64).toNat:Int)}else if a.k=3 then{c with e:=c.e.set a.i (v.setWidth 32&&&~~~1#32)}else if a.k=4 then{c with l:=c.l.set a.i ((v&&&7#64).toNat:Int)}else if a.k=5/\A5 c a.i (v.setWidth 32)then sV {c with s:=c.s&&&~~~(dh (v.setWidth 32).toNat)}else c
theorem UZ(h:cG c)(a:Pa)(v:BitVec 64):cG (iZ c a v):=by
 have:=Ya v;unfold iZ;repeat' split
 .exact h.aet _ ω
 .exact h.Gb _ _
 .exact h.aes _ ω
 .exact WR (h.qX _ _ _)
 .exact h
noncomputable def DO(args:List AV)(H:AH):Option (AV×AH):=match args with|[.c x,.c (.u off),.c (.i sz),.c (.u v)]=>(qz H x).map λc=>(.c (.b (!decide ((bJ c.n off sz).k=0))),pN H x (iZ c (bJ c.n off sz) v))|_=>none
theorem axa(h:qz H x=some c):DO [.c x,.c (.u off),.c (.i sz),.c (.u v)] H=some (.c (.b (!decide ((bJ c.n off sz).k=0))),pN H x (iZ c (bJ c.n off sz) v)):=by simp only[DO,h,n9]
theorem aop(args:List AV)(H:AH)(v:AV)(H1:AH)(h:DO args H=some (v,H1)):H.length<=H1.length:=by
 unfold DO at h;split at h
 .rw[ef]at h;obtain⟨c,_,h⟩:=h;simp only[bD]at h;rw[<-h.2,pN,IU];exact aC _
 .simp at h
theorem asa:aZ Tryz.prog 137 DO:=by
 refine fU (s:=DO) (tq UB (tu UA (tp ab3 tn))) Tryz.func137 rfl Tryz.results137 Tryz.ntmps137 aop ?_;intro args H v H1 h bM hH;unfold DO at h;split at h
 .rename_i x off sz v;rw[ef]at h;obtain⟨c,hc,h⟩:=h;simp only[bD]at h;obtain⟨rfl,rfl⟩:=h;obtain⟨id,o,cs,F,rfl,ck⟩:=Dp hc;have aD:=ck.aD;have ho:=ck.ho;have q:=ck.q;have f0:=qW hc (off:=off) (sz:=sz);have hi:=KZ ck.ok.n0 ck.ok.n1 off sz;have hk:=K0 c.n off sz;have hb:=λd=>ck.aj d hH;have w7:=aAp v;have sw:=aAs v;refine⟨by simp,?_⟩;rw[ck.set];generalize bJ c.n off sz=a at*;obtain⟨ak,ai⟩:=a;simp only at hi hk f0;have sf:F c=cs:=ck.self;have hs:H.set id (.own cs)=H:=by rw[<-ho,ua rfl aD]
  rcases hk with rfl|rfl|rfl|rfl|rfl|rfl
  .have e:iZ c ⟨0,ai⟩ v=c:=by simp[iZ]
   rw[e,sf,hs];simp only[go_sem,seval,qW,sS,wU,f0];exact cV rfl (aE _) hH (aC _)
  .have e:iZ c ⟨1,ai⟩ v={c with p:=c.p.set ai ((v&&&7#64).toNat:Int)}:=by simp[iZ]
   have wp:bV (o+1+ai) cs++.k .u8 ((v&&&7#64).toNat:Int)::cY (o+1+ai+1) cs=F {c with p:=c.p.set ai ((v&&&7#64).toNat:Int)}:=Ee (ck.wp ai hi.1 _);rw[e];(repeat(first|simp only[go_sem,seval,qW,sS,wU,f0,ho,w7,wp,aO]|simp(disch:=omega)only[w0]));(repeat' first|apply cn|(intro c;exact absurd c ω)|(intro _;kernel_rfl)|kernel_rfl);exact cV rfl (aE _) (hb _) (by simp)
  .have e:iZ c ⟨2,ai⟩ v=c:=by simp[iZ]
   rw[e,sf,hs];simp only[go_sem,seval,qW,sS,wU,f0];exact cV rfl (aE _) hH (aC _)
  .have i16:=hi.2 δ;have e:iZ c ⟨3,ai⟩ v={c with e:=c.e.set ai (v.setWidth 32&&&~~~1#32)}:=by simp[iZ]
   have we:bV (o+36+ai) cs++.k .u32 ((v.setWidth 32&&&~~~1#32).toNat:Int)::cY (o+36+ai+1) cs=F {c with e:=c.e.set ai (v.setWidth 32&&&~~~1#32)}:=Ee (ck.we ai i16 _);rw[e];have n1: ~~~1#32=4294967294#32:=rfl;rw[n1]at we|-;(repeat(first|simp only[go_sem,seval,qW,sS,wU,f0,ho,sw,we,aO]|simp(disch:=omega)only[w0]));(repeat' first|apply cn|(intro c;exact absurd c ω)|(intro _;kernel_rfl)|kernel_rfl);exact cV rfl (aE _) (hb _) (by simp)
  .have i16:=hi.2 δ;have e:iZ c ⟨4,ai⟩ v={c with l:=c.l.set ai ((v&&&7#64).toNat:Int)}:=by simp[iZ]
   have wl:bV (o+52+ai) cs++.k .u8 ((v&&&7#64).toNat:Int)::cY (o+52+ai+1) cs=F {c with l:=c.l.set ai ((v&&&7#64).toNat:Int)}:=Ee (ck.wl ai i16 _);rw[e];(repeat(first|simp only[go_sem,seval,qW,sS,wU,f0,ho,w7,wl,aO]|simp(disch:=omega)only[w0]));(repeat' first|apply cn|(intro c;exact absurd c ω)|(intro _;kernel_rfl)|kernel_rfl);exact cV rfl (aE _) (hb _) (by simp)
  .have i16:=hi.2 δ;have de:cs.getD (o+36+ai) .any=.k .u32 ((c.e.getD ai 0#32).toNat:Int):=ck.de ai i16;have ds:cs.getD (o+35) .any=.k .u32 (c.s.toNat:Int):=ck.ds;have ws:∀w:BitVec 32,bV (o+35) cs++.k .u32 (w.toNat:Int)::cY (o+35+1) cs=F {c with s:=w}:=λw=>Ee (ck.ws w);have e:iZ c ⟨5,ai⟩ v=if A5 c ai (v.setWidth 32)then sV {c with s:=c.s&&&~~~(dh (v.setWidth 32).toNat)}else c:=by simp[iZ]
   generalize v.setWidth 32=V at*;by_cases v32:V.toNat<32
   .have Qf:(V.toNat:Int)<32:=ω
    have eb:Cw [.c (.i (V.toNat:Int))]=some (.c (.k .u32 ((dh V.toNat).toNat:Int))):=by
     simp only[Cw];rw[if_pos ω,aO];rfl
    have ez:=aA6 (c.e.getD ai 0#32&&&c.s&&&dh V.toNat);rcases Classical.propComplete (c.e.getD ai 0#32&&&c.s&&&dh V.toNat=0#32)with z|z
    .rw[z]at ez;rw[if_neg (λh:A5 c ai V=>h.2 (of_eq_true z))]at e;rw[e,sf,hs];(repeat(first|simp only[go_sem,seval,qW,sS,wU,f0,ho,sw,de,ds,eb,ez,Qf,aO]|simp(disch:=omega)only[w0]));exact cV rfl (aE _) hH (aC _)
    .rw[z]at ez;have zf:cG {c with s:=c.s&&&~~~(dh V.toNat)}:=ck.ok.qX _ _ _;have st:=wU (ck.nq zf);rw[ck.ns zf]at st;rw[if_pos (show A5 c ai V from⟨v32,of_eq_false z⟩)]at e;rw[e];(repeat(first|simp only[go_sem,seval,qW,sS,wU,f0,ho,sw,de,ds,eb,ez,Qf,ws,st,aO]|simp(disch:=omega)only[w0]));(repeat' first|apply cn|(intro c;exact absurd c ω)|(intro _;kernel_rfl)|kernel_rfl);exact cV rfl (aE _) (hb _) (by simp)
   .have Qf:¬(V.toNat:Int)<32:=ω
    rw[if_neg (λh:A5 c ai V=>v32 h.1)]at e;rw[e,sf,hs];simp only[go_sem,seval,qW,sS,wU,f0,ho,sw,Qf,aO];exact cV rfl (aE _) hH (aC _)
 .simp at h
def uH(n:Int):Pk:=⟨n,bE 32 0,0#32,0#32,0#32,bE 16 0#32,bE 16 0⟩
def iE(h:Int):Pk:=if 1<=h/\h<=8 then uH h else uH 0
theorem adx(n k:Nat):(bE n (0:Int)).getD k 0=0:=by
 rw[b9,List.getElem?_replicate];split<;>rfl
theorem UX(h0:0<=n)(h1:n<=8):cG (uH n):=⟨rfl,rfl,rfl,h0,h1,λk=>by
 show 0<=(bE 32 (0:Int)).getD k 0/\(bE 32 (0:Int)).getD k 0<=7;rw[adx];decide,λk=>by
 show 0<=(bE 16 (0:Int)).getD k 0/\(bE 16 (0:Int)).getD k 0<=7;rw[adx];decide⟩
theorem UW(h:Int):cG (iE h):=by
 unfold iE;split
 .exact UX ω ω
 .exact UX δ δ
theorem ain(x:Sc)(a:Ca):Sc.one (jS x a)=true:=by
 unfold jS;split
 .split
  .rfl
  .split<;>rfl
 .rfl
def VE(args:List AV):Option AV:=match args with|[.c (.i h),.c (.u off),.c (.i sz)]=>some (.c (.b (!decide ((cb (iH h).n off sz).k=0))))|_=>none
theorem aqY:cE Tryz.prog 133 VE:=by
 refine cN (tu aq1 (tq Uv tn)) Tryz.func133 rfl Tryz.results133 Tryz.ntmps133 ?_;intro args v h;unfold VE at h;split at h
 .rename_i h off sz;simp only[ar]at h;subst h;refine⟨by simp,rfl,rfl,?_⟩;have ok:=JA h;have q0:r9 [.own (aT (iH h))] (.p 0 0 0)=some (iH h):=RF (A:=[]) (B:=[]) (id:=0) (by rw[kD];rfl) ok;have f0:=vB q0 (off:=off) (sz:=sz);have ll:=fT ok;have one:=na (iH h);have o1:=ain (.p 0 0 0) (cb (iH h).n off sz);generalize jS (.p 0 0 0) (cb (iH h).n off sz)=P at*;generalize(if(cb (iH h).n off sz).k=1 then((cb (iH h).n off sz).h:Int)else 0)=J at*;unfold Sc.one at o1;simp only[go_sem,seval,aws,vB,f0,ll,one,o1]
 .simp at h
theorem aut(x:Pk):(eh x).all Sc.pf=true:=by
 simp only[eh,bG,fH,uW,aQ];exact⟨rfl,cD.2 λ_ _=>rfl,rfl,rfl,rfl,cD.2 λ_ _=>rfl,cD.2 λ_ _=>rfl⟩
theorem acE(x:Pk):(eh x).all Sc.one=true:=by
 simp only[eh,bG,fH,uW,aQ];exact⟨rfl,cD.2 λ_ _=>rfl,rfl,rfl,rfl,cD.2 λ_ _=>rfl,cD.2 λ_ _=>rfl⟩
def Wh(args:List AV):Option AV:=match args with|[.c (.i h)]=>some (.g (eh (iE h)))|_=>none
theorem aw8{h}:Wh [.c (.i h)]=some (.g (eh (iE h))):=rfl
theorem ar7:cE Tryz.prog 62 Wh:=by
 refine cN tn Tryz.func62 rfl Tryz.results62 Tryz.ntmps62 ?_;intro args v h;unfold Wh at h;split at h
 .rename_i h;simp only[ar]at h;subst h;have pp:=aut (iE h);refine⟨by simp,by first|rfl|simp only[bG,dO,AV.pf,Sc.pf,cX, *],by first|rfl|simp only[bG,dO,AV.pf,Sc.pf,cX, *],?_⟩;have e0:eh (uH 0)=eh (uH 0):=rfl;by_cases c1:h<1
  .have e:iE h=uH 0:=if_neg ω;rw[e];simp only[go_sem,seval,c1];rfl
  by_cases c2:8<h
  .have e:iE h=uH 0:=if_neg ω;rw[e];simp only[go_sem,seval,c1,c2];rfl
  have e:iE h=uH h:=by unfold iE;rw[if_pos ω]
  rw[e];simp only[go_sem,seval,c1,c2];rfl
 .simp at h
def Wg(args:List AV):Option AV:=match args with|[.c (.i h),.c (.u off),.c (.i sz)]=>some (.c (.b (!decide ((bJ (iE h).n off sz).k=0))))|_=>none
theorem ar4:cE Tryz.prog 134 Wg:=by
 refine cN (tu ar7 (tq UB tn)) Tryz.func134 rfl Tryz.results134 Tryz.ntmps134 ?_;intro args v h;unfold Wg at h;split at h
 .rename_i h off sz;simp only[ar]at h;subst h;refine⟨by simp,rfl,rfl,?_⟩;have ok:=UW h;have q0:qz [.own (eh (iE h))] (.p 0 0 0)=some (iE h):=OV (A:=[]) (B:=[]) (id:=0) (by rw[kD];rfl) ok;have f0:=qW q0 (off:=off) (sz:=sz);have ll:=zg ok;have one:=acE (iE h);simp only[go_sem,seval,aw8,qW,f0,ll,one]
 .simp at h
section
variable {P:Program}{aa:je}{f:Nat}{fn:Func}{code:Code}{rs:List ResultVar}{n:Nat}{args:List AV}{H:AH}{v:AV}{H1:AH}
def XT(P:Program)(aa:je)(f:Nat)(args:List AV)(H:AH)(v:AV)(H1:AH):Prop:=∀fn code,P.funcs[f]?=some fn->fn.body=some code->(args.all (AV.aj H.length))=true->dk H=true->args.length<=fn.ntmps/\aM P ((1000000,.lo H.length)::aa) [.c code] (sd 0 args) H (λfr H'=>∃v',rG P fr H' fn.results.toList=some v'/\Wk H.length [(0,v')] H' ([(0,v)],H1))
def Lf(R:AV->AH->Prop):Option (AV×AH):=by classical exact if h:∃r:AV×AH,R r.1 r.2 then some h.choose else none
theorem adW{R:AV->AH->Prop}(h:Lf R=some (v,H1)):R v H1:=by
 unfold Lf at h;split at h
 .rename_i h1;simp only[ar]at h;have:=h1.choose_spec;rw[h]at this;exact this
 .simp at h
theorem avr{R:AV->AH->Prop}(h:R v H1):∃v H1,Lf R=some (v,H1)/\R v H1:=by
 have h1:∃r:AV×AH,R r.1 r.2:=⟨(v,H1),h⟩;refine⟨h1.choose.1,h1.choose.2,?_,h1.choose_spec⟩;unfold Lf;rw[dif_pos h1]
def uw(P:Program)(aa:je)(f:Nat)(post:List AV->AH->AV->AH->Prop)(args:List AV)(H:AH):Option (AV×AH):=Lf λv H1=>XT P aa f args H v H1/\H.length<=H1.length/\post args H v H1
variable {post:List AV->AH->AV->AH->Prop}
theorem al1(args:List AV)(H:AH)(v:AV)(H1:AH)(h:uw P aa f post args H=some (v,H1)):H.length<=H1.length:=(adW h).2.1
theorem aBj(np:P.follows .mixedOrders=true)(ht:jw P aa)(hf:P.funcs[f]?=some fn)(hb:fn.body=some code)(oH:fn.results=rs.toArray)(hn:fn.ntmps=n)(qQ:(fn.name== "runtime.NumGoroutine")=false)(aR:mf n vY code=true):aZ P f (uw P aa f post):=by
 refine Sd (s:=uw P aa f post) (aa:=aa) np ht hf hb oH hn qQ aR al1 ?_;intro args H v H1 h ha hH;have:=(adW h).1 fn code hf hb ha hH;rw[hn,oH]at this;exact this
theorem ik(hf:P.funcs[f]?=some fn)(hb:fn.body=some code)(oH:fn.results=rs.toArray)(hn:fn.ntmps=n)(hl:args.length<=n)(h:(args.all (AV.aj H.length))=true->dk H=true->aM P ((1000000,.lo H.length)::aa) [.c code] (sd 0 args) H (λfr H'=>∃v',rG P fr H' rs=some v'/\Wk H.length [(0,v')] H' ([(0,v)],H1)))(hlen:H.length<=H1.length)(hp:post args H v H1):∃v H1,uw P aa f post args H=some (v,H1)/\H.length<=H1.length/\post args H v H1:=by
 obtain⟨v,H1,h1,_,h2,h3⟩:=avr (R:=λv H1=>XT P aa f args H v H1/\H.length<=H1.length/\post args H v H1) ⟨λfn' aji e1 e2 ha hH=>by
 rw[hf]at e1;simp only[ar]at e1;subst e1;rw[hb]at e2;simp only[ar]at e2;subst e2;rw[hn,oH];exact⟨hl,h ha hH⟩,hlen,hp⟩;exact⟨v,H1,h1,h2,h3⟩
def XU(P:Program)(aa:je)(f:Nat)(args:List AV)(H:AH)(v:AV):Prop:=∀fn code,P.funcs[f]?=some fn->fn.body=some code->(args.all (AV.aj H.length))=true->dk H=true->args.length<=fn.ntmps/\v.aj H.length=true/\aM P ((1000000,.lo H.length)::aa) [.c code] (sd 0 args) H (λfr H'=>rG P fr H' fn.results.toList=some v/\pQ H H')
def Lg(R:AV->Prop):Option AV:=by classical exact if h:∃r:AV,R r then some h.choose else none
theorem avt{R:AV->Prop}(h:Lg R=some v):R v:=by
 unfold Lg at h;split at h
 .rename_i h1;simp only[ar]at h;have:=h1.choose_spec;rw[h]at this;exact this
 .simp at h
theorem avu{R:AV->Prop}(h:R v):∃v,Lg R=some v/\R v:=by
 have h1:∃r:AV,R r:=⟨v,h⟩;refine⟨h1.choose,?_,h1.choose_spec⟩;unfold Lg;rw[dif_pos h1]
def lg(P:Program)(aa:je)(f:Nat)(post:List AV->AH->AV->Prop)(args:List AV)(H:AH):Option AV:=Lg λv=>XU P aa f args H v/\post args H v
variable {HX:List AV->AH->AV->Prop}
theorem aBi(np:P.follows .mixedOrders=true)(ht:jw P aa)(hf:P.funcs[f]?=some fn)(hb:fn.body=some code)(oH:fn.results=rs.toArray)(hn:fn.ntmps=n)(qQ:(fn.name== "runtime.NumGoroutine")=false)(aR:mf n vY code=true):aZ P f (λargs H=>(lg P aa f HX args H).map λv=>(v,H)):=by
 refine Z4 (s:=lg P aa f HX) (aa:=aa) np ht hf hb oH hn qQ aR ?_;intro args H v h ha hH;have:=(avt h).1 fn code hf hb ha hH;rw[hn,oH]at this;exact this
theorem mu(hf:P.funcs[f]?=some fn)(hb:fn.body=some code)(oH:fn.results=rs.toArray)(hn:fn.ntmps=n)(hl:args.length<=n)(hv:(args.all (AV.aj H.length))=true->dk H=true->v.aj H.length=true)(h:(args.all (AV.aj H.length))=true->dk H=true->aM P ((1000000,.lo H.length)::aa) [.c code] (sd 0 args) H (λfr H'=>rG P fr H' rs=some v/\pQ H H'))(hp:HX args H v):∃v,lg P aa f HX args H=some v/\HX args H v:=by
 obtain⟨v,h1,_,h3⟩:=avu (R:=λv=>XU P aa f args H v/\HX args H v) ⟨λfn' aji e1 e2 ha hH=>by
 rw[hf]at e1;simp only[ar]at e1;subst e1;rw[hb]at e2;simp only[ar]at e2;subst e2;rw[hn,oH];exact⟨hl,hv ha hH,h ha hH⟩,hp⟩;exact⟨v,h1,h3⟩
end
structure Po where
 e:Int
 l:Int
 m:Int
 s:Int
 dl:Int
 dm:Int
 ff:Bool
 lo:Bool
 em:Bool
 x:Sc
 y:Sc
def iy(p:Po):List Sc:=[.k .u8 p.e,.k .u8 p.l,.k .u8 p.m,.k .u8 p.s,.k .u8 p.dl,.k .u8 p.dm,.b p.ff,.b p.lo,.b p.em,p.x,p.y]
def mS:ae->Option Po|.own [.k .u8 e,.k .u8 l,.k .u8 m,.k .u8 s,.k .u8 dl,.k .u8 dm,.b ff,.b lo,.b em,x,y]=>some ⟨e,l,m,s,dl,dm,ff,lo,em,x,y⟩|_=>none
variable {o:ae}{p:Po}
theorem sL(h:mS o=some p):o=.own [.k .u8 p.e,.k .u8 p.l,.k .u8 p.m,.k .u8 p.s,.k .u8 p.dl,.k .u8 p.dm,.b p.ff,.b p.lo,.b p.em,p.x,p.y]:=by
 unfold mS at h;split at h
 .simp only[ar]at h;subst h;rfl
 .simp at h
def AS:Sc->Option Nat|.aA=>some 0|.sl _ _ _ n=>some n|_=>none
theorem OA{s:Sc}{n:Nat}(h:AS s=some n):(s=.aA/\n=0)\/∃i o v,s=.sl i o v n:=by
 unfold AS at h;split at h
 .simp at h;exact .inl ⟨rfl,h.symm⟩
 .simp at h;exact .inr ⟨_,_,_,by rw[h]⟩
 .simp at h
def cd(a b:Int):Int:=IntKind.u8.wrap ((aw 8 a&&&aw 8 b).toNat)
def AZ(a b:Int):Int:=IntKind.u8.wrap ((aw 8 a|||aw 8 b).toNat)
variable {P:Program}
theorem afL{t:Nat}{x y:Int}:cj P .and t (.c (.k .u8 x)) (.c (.k .u8 y))=some (.c (.k .u8 (cd x y))):=QS
theorem afM{t:Nat}{x y:Int}:cj P .or t (.c (.k .u8 x)) (.c (.k .u8 y))=some (.c (.k .u8 (AZ x y))):=QT
attribute [go_sem 1100]afL afM
def vS(p:Po)(n:Nat):Int:=if cd p.e 4≠0/\p.lo=true then 6 else if cd p.e 1≠0/\0<n then 4 else if cd p.e 2≠0/\p.em=true then 2 else 1
def Ma(args:List AV)(H:AH):Option AV:=match args with
 |[.c (.p id 0 0)]=>match mS (hg H id)with
   |some p=>match AS p.x with
     |some n=>some (.c (.k .u8 (vS p n)))|none=>none
   |none=>none
 |_=>none
theorem aem{id:Nat}{H:AH}{p:Po}{n:Nat}(h:mS (hg H id)=some p)(hn:AS p.x=some n):Ma [.c (.p id 0 0)] H=some (.c (.k .u8 (vS p n))):=by simp only[Ma,h,hn]
theorem ach:aZ Tryz.prog 144 (λargs H=>(Ma args H).map λv=>(v,H)):=by
 refine iR (s:=Ma) tn Tryz.func144 rfl Tryz.results144 Tryz.ntmps144 ?_;intro args H v h bM hH;unfold Ma at h;split at h
 .rename_i id;split at h
  .rename_i p hp;split at h
   .rename_i n hn;have hm:=sL hp;simp only[ar]at h;subst h;refine⟨by simp,rfl,?_⟩;obtain⟨e,l,m,s,dl,dm,ff,lo,em,x,y⟩:=p;simp only at hm hn|-;unfold vS;by_cases h4:cd e 4=0<;>by_cases h1:cd e 1=0<;>by_cases h2:cd e 2=0<;>cases lo<;>cases em;all_goals rcases OA hn with⟨rfl,rfl⟩|⟨i,o,v,rfl⟩
    rotate_left;all_goals first|(by_cases hz:0<n<;>(repeat(first|simp only[go_sem,seval,hm,h4,h1,h2,hz]|simp(disch:=omega)only[w0])))|(repeat(first|simp(maxSteps:=9^9)only[go_sem,seval,hm,h4,h1,h2]|simp(disch:=omega)only[aq,aK,aJ,aI,aH]))
    all_goals first|exact aE _|exact⟨by simp,aE _⟩
   .simp at h
  .simp at h
 .simp at h
def FP(p:Po):Int:=if p.ff=true then 16 else 1
def Me(args:List AV)(H:AH):Option AV:=match args with
 |[.c (.p id 0 0)]=>match mS (hg H id)with
   |some p=>some (.c (.i (FP p)))|none=>none
 |_=>none
theorem axE{id:Nat}{H:AH}{p:Po}(h:mS (hg H id)=some p):Me [.c (.p id 0 0)] H=some (.c (.i (FP p))):=by simp only[Me,h]
theorem as8:aZ Tryz.prog 189 (λargs H=>(Me args H).map λv=>(v,H)):=by
 refine iR (s:=Me) tn Tryz.func189 rfl Tryz.results189 Tryz.ntmps189 ?_;intro args H v h bM hH;unfold Me at h;split at h
 .rename_i id;split at h
  .rename_i p hp;have hm:=sL hp;simp only[ar]at h;subst h;refine⟨by simp,rfl,?_⟩;obtain⟨e,l,m,s,dl,dm,ff,lo,em,x,y⟩:=p;simp only at hm|-;cases ff;all_goals simp only[go_sem,seval,hm,FP]
   all_goals first|exact aE _|exact⟨rfl,aE _⟩
  .simp at h
 .simp at h
theorem K7{H:AH}(hH:dk H=true){id:Nat}{p:Po}(h:mS (hg H id)=some p):p.x.aj H.length=true/\p.y.aj H.length=true:=by
 have a:=BM hH id;rw[sL h]at a;simp[ae.cells,ae.cT,Sc.aj]at a;exact a
theorem Dq{n:Nat}(hx:p.x.aj n=true)(hy:p.y.aj n=true):(iy p).all (Sc.aj n)=true:=by
 simp only[iy,bG,dO,Sc.aj,gv,cX];change(p.x.aj n&&p.y.aj n)=true;rw[hx,hy];rfl
def wP(H:AH)(x b:Sc):Option (Sc×AH):=match x with
 |.aA=>some (.sl (H.length+1) 0 1 1,H++[.dead,.vec 1 [b]])|.sl i 0 v n=>match hg H i with
   |.vec 1 cs=>if v=cs.length/\cs.length=n/\n<=1000000 then some (.sl i 0 (n+1) (n+1),H.set i (.vec 1 (cs++[b])))else none|_=>none
 |_=>none
def vD(args:List AV)(H:AH):Option (AV×AH):=match args with
 |[.c (.p id 0 0),.c (.k .u8 b)]=>match mS (hg H id)with
   |some p=>match AS p.x with
     |some n=>if FP p<=n then some (.c (.b false),H.set id (.own (iy {p with lo:=true})))else match wP H p.x (.k .u8 b)with
        |some (x',H1)=>some (.c (.b true),H1.set id (.own (iy {p with x:=x'})))|none=>none
     |none=>none
   |none=>none
 |_=>none
variable {x':Sc}
theorem acN{o v n:Nat}{b:Sc}{H2:AH}(h:wP H (.sl i o v n) b=some (x',H2)):∃cs,o=0/\hg H i=.vec 1 cs/\v=cs.length/\cs.length=n/\n<=1000000/\x'=.sl i 0 (n+1) (n+1)/\H2=H.set i (.vec 1 (cs++[b])):=by
 unfold wP at h;split at h
 .rename_i hq;simp at hq
 .rename_i i' v' n' hq;simp only[Sc.sl.injEq]at hq;obtain⟨rfl,rfl,rfl,rfl⟩:=hq;split at h
  .rename_i cs hi;split at h
   .rename_i hc;simp only[ar,bD]at h;exact⟨cs,rfl,hi,hc.1,hc.2.1,hc.2.2,h.1.symm,h.2.symm⟩
   .simp at h
  .simp at h
 .simp at h
variable {H1:AH}
theorem acO{b:Sc}(h:wP H x b=some (x',H1)):H.length<=H1.length:=by
 unfold wP at h;repeat' split at h
 all_goals simp at h
 all_goals rw[<-h.2]
 all_goals simp
theorem TM(args:List AV)(H:AH)(v:AV)(H1:AH)(h:vD args H=some (v,H1)):H.length<=H1.length:=by
 unfold vD at h;repeat' split at h
 all_goals simp at h
 .rw[<-h.2];simp
 .rename_i hp;rw[<-h.2];simpa using acO hp
theorem aci:aZ Tryz.prog 141 vD:=by
 refine fU (s:=vD) (tq as8 tn) Tryz.func141 rfl Tryz.results141 Tryz.ntmps141 TM ?_;intro args H v H1 h bM hH;unfold vD at h;split at h
 .rename_i id b;split at h
  .rename_i p hp;have hm:=sL hp;have aD:id<H.length:=dU (by rw[hm];rfl);have r0:=axE hp;generalize FP p=R at h r0;obtain⟨bx,ot⟩:=K7 hH hp;obtain⟨e,l,m,s,dl,dm,ff,lo,em,x,y⟩:=p;simp only at hm bx ot r0 h;have gx:∀X,hg (H++X) id=_:=λX=>(cL aD).trans hm;have sx:∀X o,(H++X).set id o=H.set id o++X:=λX o=>lN _ _ aD;split at h
   .rename_i n hn;split at h
    .rename_i hr;simp only[ar,bD]at h;obtain⟨rfl,rfl⟩:=h;refine⟨by simp,?_⟩;have bb:dk (H.set id (.own (iy ⟨e,l,m,s,dl,dm,ff,true,em,x,y⟩)))=true:=oh hH (Dq (p:=⟨e,l,m,s,dl,dm,ff,true,em,x,y⟩) bx ot);rcases OA hn with⟨rfl,rfl⟩|⟨i,o,v,rfl⟩
     ·(repeat(first|simp only[go_sem,seval,hm,r0,hr]|simp(disch:=omega)only[w0]));apply cV
      .rfl
      .exact aE _
      .exact bb
      .simp
     .simp only[go_sem,seval,hm,r0,hr];apply cV
      .rfl
      .exact aE _
      .exact bb
      .simp
    .rename_i hr;split at h
     .rename_i x' H2 rB;simp only[ar,bD]at h;obtain⟨rfl,rfl⟩:=h;refine⟨by simp,?_⟩;rcases OA hn with⟨rfl,rfl⟩|⟨i,o,v,rfl⟩
      .simp[wP]at rB;obtain⟨rfl,rfl⟩:=rB;(repeat(first|simp only[go_sem,seval,hm,r0,hr,gx,sx]|simp(disch:=omega)only[w0]));apply cV
       .rfl
       .exact D8 _ ⟨.inl rfl,.inr rfl,trivial⟩
       .rw[<-sx];refine oh (td hH (by simp[ae.cells,ae.cT,Sc.aj])) (Dq (p:=⟨e,l,m,s,dl,dm,ff,lo,em,_,y⟩) ?_ ?_)
        .simp[Sc.aj]
        .exact Sc.gJ ot (by simp)
       .simp
      .obtain⟨cs,rfl,hi,c1,c2,c3,rfl,rfl⟩:=acN rB;have li:i<H.length:=dU (by rw[hi];rfl);have ne:i≠id:=λe=>by rw[e,hm]at hi;simp at hi
       have gi:∀X,hg (H++X) i=_:=λX=>(cL li).trans hi;have si:∀X o,(H++X).set i o=H.set i o++X:=λX o=>lN _ _ li;have gs:∀X o,hg (H.set i o++X) id=_:=λX o=>(cL (by simpa using aD)).trans ((fg ne).trans hm);have ss:∀X o o',(H.set i o++X).set id o'=(H.set i o).set id o'++X:=λX o o'=>lN _ _ (by simpa using aD);have c4:n<=1099511627775:=ω
       simp only[go_sem,seval,hm,r0,hr,gx,sx,gi,si,gs,ss,c1,c2,c4];have bi:=BM hH i;rw[hi]at bi;apply cV
       .rfl
       .exact aB _ _
       .refine oh (oh hH ?_) (Dq (p:=⟨e,l,m,s,dl,dm,ff,lo,em,_,y⟩) ?_ ?_)
        .simp only[ae.cells,ae.cT,fH,bG,dO,cX,Sc.aj]at bi|-;exact bi
        .simpa[Sc.aj]using li
        .simpa using ot
       .simp
     .simp at h
   .simp at h
  .simp at h
 .simp at h
def o8(H:AH)(x:Sc):Option (Sc×AH):=match x with|.aA=>some (.sl H.length 0 0 0,H++[.vec 1 []])|.sl i o v n=>if v=(hg H i).row/\o+n<=(hg H i).cells.length/\(((hg H i).cells.drop o).take n).all Sc.one=true/\n<=1000000 then some (.sl H.length 0 n n,H++[.vec 1 (((hg H i).cells.drop o).take n)])else none|_=>none
def Ga(args:List AV)(H:AH):Option (AV×AH):=match args with|[.c x]=>(o8 H x).map λr=>(.c r.1,r.2)|_=>none
theorem RM(h:o8 H x=some (x',H1)):H.length<=H1.length:=by
 unfold o8 at h;repeat' split at h
 all_goals simp at h
 all_goals rw[<-h.2]
 all_goals simp
theorem aoC(args:List AV)(H:AH)(v:AV)(H1:AH)(h:Ga args H=some (v,H1)):H.length<=H1.length:=by
 unfold Ga at h;split at h
 .rw[ef]at h;obtain⟨r,h1,h2⟩:=h;simp only[bD]at h2;rw[<-h2.2];exact RM h1
 .simp at h
theorem Mb(h:o8 H x=some (x',H1)):Ga [.c x] H=some (.c x',H1):=by simp only[Ga,h,n9]
theorem ZY{n:Nat}(hb:dk H=true)(hn:n<=H.length):∃v',some (AV.c .aA)=some v'/\Wk n [(0,v')] H ([(0,.c (.sl H.length 0 0 0))],H++[.vec 1 []]):=⟨_,rfl,Wk.trans (Wk.nil 0 1 δ rfl hn) (Wk.wk (by simp;omega) (by simp[Am.get]) (by simp[AV.aj,Sc.aj]) (aE _) (td hb (by simp[ae.cells,ae.cT])))⟩
theorem OR:aZ Tryz.prog 52 Ga:=by
 refine fU (s:=Ga) tn Tryz.func52 rfl Tryz.results52 Tryz.ntmps52 aoC ?_;intro args H v H1 h bM hH;unfold Ga at h;split at h
 .rename_i x;rw[ef]at h;obtain⟨⟨x',H2⟩,h1,h2⟩:=h;simp only[bD]at h2;obtain⟨rfl,rfl⟩:=h2;refine⟨by simp,?_⟩;unfold o8 at h1;split at h1
  .simp only[ar,bD]at h1;obtain⟨rfl,rfl⟩:=h1;simp only[go_sem,seval];exact ZY hH (aC _)
  .rename_i i o v n;split at h1
   .rename_i hc;obtain⟨c1,c2,c3,c4⟩:=hc;simp only[ar,bD]at h1;obtain⟨rfl,rfl⟩:=h1;have li:i<H.length:=by simpa[AV.aj,Sc.aj]using bM
    have gi:∀X,hg (H++X) i=hg H i:=λX=>cL li;have c5:n<=1099511627776:=ω
    generalize hq:((hg H i).cells.drop o).take n=q at c3|-;have lq:q.length=n:=by rw[<-hq];simp;omega
    have bq:q.all (Sc.aj H.length)=true:=by
     have:=BM hH i;rw[<-hq];exact cD.2 λs hs=>cD.1 this s (Jg (Jh hs))
    have fin:∃v',some (AV.c (.sl H.length 0 n n))=some v'/\Wk H.length [(0,v')] (H++[.vec 1 q]) ([(0,.c (.sl H.length 0 n n))],H++[.vec 1 q]):=by
     apply cV
     .simp[AV.aj,Sc.aj]
     .exact aE _
     .refine td hH ?_;simp only[xm,forall_eq,ae.cells,ae.cT];exact cD.2 λs hs=>Sc.gJ (cD.1 bq s hs) (by simp)
     .simp
    by_cases hz:n=0
    .subst hz;obtain rfl:q=[]:=uY lq;(repeat(first|simp only[go_sem,seval,Za,c1,c2,c3,c5,gi,hq,lq]|simp(disch:=omega)only[w0]));exact⟨ZY hH (aC _),fin⟩
    .simp only[go_sem,seval,c1,c2,c3,c5,gi,hq,lq,hz];exact fin
   .simp at h1
  .simp at h1
 .simp at h
theorem aiY(hH:dk H=true)(h:o8 H x=some (x',H1)):dk H1=true/\x'.aj H1.length=true/\∃q,H1=H++[.vec 1 q]:=by
 unfold o8 at h;split at h
 .simp only[ar,bD]at h;obtain⟨rfl,rfl⟩:=h;exact⟨td hH (by simp[ae.cells,ae.cT]),by simp[Sc.aj],_,rfl⟩
 .rename_i i o v n;split at h
  .simp only[ar,bD]at h;obtain⟨rfl,rfl⟩:=h;refine⟨td hH ?_,by simp[Sc.aj],_,rfl⟩;simp only[xm,forall_eq,ae.cells,ae.cT];exact cD.2 λs hs=>Sc.gJ (cD.1 (BM hH i) s (Jg (Jh hs))) (by simp)
  .simp at h
 .simp at h
def yf(args:List AV)(H:AH):Option (AV×AH):=match args with
 |[.c (.p id 0 0)]=>match mS (hg H id)with
   |some p=>match p.x with
     |.aA=>some (.c (.k .u8 0),H)|.sl _ 0 _ 0=>some (.c (.k .u8 0),H)|.sl i 0 v (n+1)=>match(hg H i).cells with
       |.k .u8 b::_=>match o8 H (.sl i 1 v n)with
         |some (x',H1)=>some (.c (.k .u8 b),H1.set id (.own (iy {p with x:=x'})))|none=>none
       |_=>none
     |_=>none
   |none=>none
 |_=>none
theorem aa7(args:List AV)(H:AH)(v:AV)(H1:AH)(h:yf args H=some (v,H1)):H.length<=H1.length:=by
 unfold yf at h;repeat' split at h
 all_goals simp at h
 .rw[<-h.2];exact aC _
 .rw[<-h.2];exact aC _
 .rename_i hp;rw[<-h.2];simpa using RM hp
theorem atc:aZ Tryz.prog 183 yf:=by
 refine fU (s:=yf) (tp OR tn) Tryz.func183 rfl Tryz.results183 Tryz.ntmps183 aa7 ?_;intro args H v H1 h bM hH;unfold yf at h;split at h
 .rename_i id;split at h
  .rename_i p hp;have hm:=sL hp;have aD:id<H.length:=dU (by rw[hm];rfl);obtain⟨bx,ot⟩:=K7 hH hp;obtain⟨e,l,m,s,dl,dm,ff,lo,em,x,y⟩:=p;simp only at hm bx ot h;have gx:∀X,hg (H++X) id=_:=λX=>(cL aD).trans hm;have sx:∀X o,(H++X).set id o=H.set id o++X:=λX o=>lN _ _ aD;split at h
   .simp only[ar,bD]at h;obtain⟨rfl,rfl⟩:=h;refine⟨by simp,?_⟩;simp only[go_sem,seval,hm];exact cV rfl (aE _) hH (aC _)
   .simp only[ar,bD]at h;obtain⟨rfl,rfl⟩:=h;refine⟨by simp,?_⟩;simp only[go_sem,seval,hm];exact cV rfl (aE _) hH (aC _)
   .rename_i i v n;split at h
    .rename_i b cs cu;split at h
     .rename_i x' H2 hc;simp only[ar,bD]at h;obtain⟨rfl,rfl⟩:=h;refine⟨by simp,?_⟩;have cq:=Mb hc;obtain⟨bH,Rx,q,rfl⟩:=aiY hH hc;have c1:v=(hg H i).row/\1+n<=(hg H i).cells.length/\x'=.sl H.length 0 n n:=by
       unfold o8 at hc;simp only at hc;split at hc
       .rename_i h;simp only[ar,bD]at hc;exact⟨h.1,h.2.1,hc.1.symm⟩
       .simp at hc
      obtain⟨c1,c2,rfl⟩:=c1;rw[cu]at c2;rw[c1]at cq;have e1:n.succ-1=n:=rfl;(repeat(first|simp only[go_sem,seval,hm,c1,c2,cu,gx,sx,e1,cq]|simp(disch:=omega)only[w0]));apply cV
      .rfl
      .exact aE _
      .rw[<-sx];exact oh (o:=.own (iy ⟨e,l,m,s,dl,dm,ff,lo,em,_,y⟩)) bH (Dq (p:=⟨e,l,m,s,dl,dm,ff,lo,em,_,y⟩) Rx (Sc.gJ ot (by simp)))
      .simp
     .simp at h
    .simp at h
   .simp at h
  .simp at h
 .simp at h
def yg(args:List AV)(H:AH):Option (AV×AH):=match args with
 |[.c (.p id 0 0)]=>match mS (hg H id)with
   |some p=>match AS p.x with
     |some n=>some (.c (.k .u8 (if p.ff=true then AZ (vS p n) 192 else vS p n)),if vS p n=2 then H.set id (.own (iy {p with em:=false}))else H)|none=>none
   |none=>none
 |_=>none
theorem aa8(args:List AV)(H:AH)(v:AV)(H1:AH)(h:yg args H=some (v,H1)):H.length<=H1.length:=by
 unfold yg at h;repeat' split at h
 all_goals simp at h
 all_goals rw[<-h.2];first|(split<;>simp)|simp
theorem atd:aZ Tryz.prog 184 yg:=by
 refine fU (s:=yg) (tq ach tn) Tryz.func184 rfl Tryz.results184 Tryz.ntmps184 aa8 ?_;intro args H v H1 h bM hH;unfold yg at h;split at h
 .rename_i id;split at h
  .rename_i p hp;split at h
   .rename_i n hn;have hm:=sL hp;have aD:id<H.length:=dU (by rw[hm];rfl);obtain⟨bx,ot⟩:=K7 hH hp;have cc:=aem hp hn;generalize vS p n=c at h cc;obtain⟨e,l,m,s,dl,dm,ff,lo,em,x,y⟩:=p;simp only at hm bx ot h;simp only[ar,bD]at h;obtain⟨rfl,rfl⟩:=h;refine⟨by simp,?_⟩;have bb:dk (H.set id (.own (iy ⟨e,l,m,s,dl,dm,ff,lo,false,x,y⟩)))=true:=oh hH (Dq (p:=⟨e,l,m,s,dl,dm,ff,lo,false,x,y⟩) bx ot);by_cases h2:c=2
    .subst h2;cases ff;all_goals simp only[go_sem,seval,hm,cc,jj aD]
     all_goals apply cV
     all_goals first|exact bb|exact aE _|simp[AV.aj,Sc.aj]
    .cases ff;all_goals simp only[go_sem,seval,hm,cc,h2]
     all_goals apply cV
     all_goals first|exact hH|exact aE _|simp[AV.aj,Sc.aj]
   .simp at h
  .simp at h
 .simp at h
def stateT(lo:Bool)(n:Nat):Int:=if lo=true then AZ (if 0<n then AZ 96 1 else 96) 2 else(if 0<n then AZ 96 1 else 96)
def ye(args:List AV)(H:AH):Option (AV×AH):=match args with
 |[.c (.p id 0 0)]=>match mS (hg H id)with
   |some p=>match AS p.x with
     |some n=>some (.c (.k .u8 (stateT p.lo n)),if p.lo=true then H.set id (.own (iy {p with lo:=false}))else H)|none=>none
   |none=>none
 |_=>none
theorem aa6(args:List AV)(H:AH)(v:AV)(H1:AH)(h:ye args H=some (v,H1)):H.length<=H1.length:=by
 unfold ye at h;repeat' split at h
 all_goals simp at h
 all_goals rw[<-h.2];first|(split<;>simp)|simp
theorem atb:aZ Tryz.prog 185 ye:=by
 refine fU (s:=ye) tn Tryz.func185 rfl Tryz.results185 Tryz.ntmps185 aa6 ?_;intro args H v H1 h bM hH;unfold ye at h;split at h
 .rename_i id;split at h
  .rename_i p hp;split at h
   .rename_i n hn;have hm:=sL hp;have aD:id<H.length:=dU (by rw[hm];rfl);obtain⟨bx,ot⟩:=K7 hH hp;obtain⟨e,l,m,s,dl,dm,ff,lo,em,x,y⟩:=p;simp only at hm bx ot h hn;simp only[ar,bD]at h;obtain⟨rfl,rfl⟩:=h;refine⟨by simp,?_⟩;have bb:dk (H.set id (.own (iy ⟨e,l,m,s,dl,dm,ff,false,em,x,y⟩)))=true:=oh hH (Dq (p:=⟨e,l,m,s,dl,dm,ff,false,em,x,y⟩) bx ot);rcases OA hn with⟨rfl,rfl⟩|⟨i,o,v,rfl⟩
    .cases lo
     .simp only[go_sem,seval,hm];exact cV rfl (aE _) hH (aC _)
     .simp only[go_sem,seval,hm];exact cV rfl (aE _) bb (by simp)
    .by_cases hz:0<n;all_goals cases lo
     all_goals(repeat(first|simp only[go_sem,seval,hm,hz,stateT]|simp(disch:=omega)only[w0]))
     all_goals apply cV
     all_goals first|exact hH|exact bb|exact aE _|simp[AV.aj,Sc.aj]
   .simp at h
  .simp at h
 .simp at h
def Mm(a:Int)(n:Nat):Int:=IntKind.u8.wrap (a*2^(min n 8))
def P2(a:Int)(n:Nat):Int:=a/2^(min n 8)
section
variable {P:Program}{t:Nat}{x:Int}{y:BitVec 64}
theorem afN:cj P .shl t (.c (.k .u8 x)) (.c (.u y))=some (.c (.k .u8 (Mm x y.toNat))):=rfl
theorem afO:cj P .shr t (.c (.k .u8 x)) (.c (.u y))=some (.c (.k .u8 (P2 x y.toNat))):=rfl
end
attribute [go_sem 1100]afN afO
def Cf(m:Int):Int:=if cd m 16=0 then 176 else AZ (AZ (AZ (Mm (cd (P2 m 1) 1) 4) (Mm (cd m 1) 5)) (Mm (cd (P2 m 2) 1) 6)) (Mm (cd (P2 m 3) 1) 7)
def Mc(args:List AV)(H:AH):Option AV:=match args with
 |[.c (.p id 0 0)]=>match mS (hg H id)with
   |some p=>some (.c (.k .u8 (Cf p.m)))|none=>none
 |_=>none
theorem axD{id:Nat}{H:AH}{p:Po}(h:mS (hg H id)=some p):Mc [.c (.p id 0 0)] H=some (.c (.k .u8 (Cf p.m))):=by simp only[Mc,h]
theorem as3:aZ Tryz.prog 186 (λargs H=>(Mc args H).map λv=>(v,H)):=by
 refine iR (s:=Mc) tn Tryz.func186 rfl Tryz.results186 Tryz.ntmps186 ?_;intro args H v h bM hH;unfold Mc at h;split at h
 .rename_i id;split at h
  .rename_i p hp;have hm:=sL hp;simp only[ar]at h;subst h;refine⟨by simp,rfl,?_⟩;obtain⟨e,l,m,s,dl,dm,ff,lo,em,x,y⟩:=p;simp only at hm|-;by_cases h0:cd m 16=0;all_goals simp only[go_sem,seval,hm,Cf,h0]
   all_goals first|exact aE _|exact⟨rfl,aE _⟩
  .simp at h
 .simp at h
theorem aN{n:Nat}{v:AV}:∃v',some v=some v'/\Wk n [(0,v')] H ([(0,v)],H):=⟨_,rfl,λρ _ _ h1 h2=>⟨ρ,h1,h2,λi _ hi hL _=>⟨i,hi,hL⟩,λ_ _=>rfl⟩⟩
theorem OM(off:BitVec 64):7#64<off\/off=0#64\/off=1#64\/off=2#64\/off=3#64\/off=4#64\/off=5#64\/off=6#64\/off=7#64:=by
 have k:∀n:Nat,n<18446744073709551616->off.toNat=n->off=j7 64 n:=λn hn h=>by apply lJ;rw[uT];omega
 rcases cU 7 off.toNat with h|h
 .left;exact h
 .right;have:off.toNat=0\/off.toNat=1\/off.toNat=2\/off.toNat=3\/off.toNat=4\/off.toNat=5\/off.toNat=6\/off.toNat=7:=ω
  rcases this with h|h|h|h|h|h|h|h;all_goals have:=k _ δ h
  all_goals simp[this]
def okB(r:Option (AV×AH)):Option (AV×AH):=match r with|some (.c s,H1)=>some (.t [.c s,.c (.b true)],H1)|_=>none
variable {r:Option (AV×AH)}
theorem Ur{v:AV}(h:okB r=some (v,H1)):∃s,r=some (.c s,H1)/\v=.t [.c s,.c (.b true)]:=by
 unfold okB at h;split at h
 .simp only[ar,bD]at h;obtain⟨rfl,rfl⟩:=h;exact⟨_,rfl,rfl⟩
 .simp at h
theorem Us{a:List AV}{f:List AV->AH->Option (AV×AH)}(hf:∀a H v H1,f a H=some (v,H1)->H.length<=H1.length){H H1:AH}{v:AV}(h:okB (f a H)=some (v,H1)):H.length<=H1.length:=by
 obtain⟨s,h1,_⟩:=Ur h;exact hf _ _ _ _ h1
def Bj(args:List AV)(H:AH):Option (AV×AH):=match args with
 |[.c .dt,.c (.u _)]=>some (.t [.c (.k .u8 0),.c (.b false)],H)|[.c (.p id 0 0),.c (.u off)]=>if 7#64<off then some (.t [.c (.k .u8 0),.c (.b false)],H)else match mS (hg H id)with
   |none=>none|some p=>if off=0#64 then(if cd p.l 128=0 then okB (yf [.c (.p id 0 0)] H)else some (.t [.c (.k .u8 p.dl),.c (.b true)],H))else if off=1#64 then some (.t [.c (.k .u8 (if cd p.l 128=0 then p.e else p.dm)),.c (.b true)],H)else if off=2#64 then okB (yg [.c (.p id 0 0)] H)else if off=3#64 then some (.t [.c (.k .u8 p.l),.c (.b true)],H)else if off=4#64 then some (.t [.c (.k .u8 p.m),.c (.b true)],H)else if off=5#64 then okB (ye [.c (.p id 0 0)] H)else if off=6#64 then some (.t [.c (.k .u8 (Cf p.m)),.c (.b true)],H)else some (.t [.c (.k .u8 p.s),.c (.b true)],H)
 |_=>none
theorem aoE(args:List AV)(H:AH)(v:AV)(H1:AH)(h:Bj args H=some (v,H1)):H.length<=H1.length:=by
 unfold Bj at h;repeat' split at h
 all_goals first
 |exact Us aa7 h|exact Us aa8 h|exact Us aa6 h|(simp at h;done)|(simp at h;rw[<-h.2];exact aC _)
theorem as7:aZ Tryz.prog 132 Bj:=by
 refine fU (s:=Bj) (tp atc (tp atd (tp atb (tq as3 tn)))) Tryz.func132 rfl Tryz.results132 Tryz.ntmps132 aoE ?_;intro args H v H1 h bM hH;unfold Bj at h;split at h
 .rename_i off;simp only[ar,bD]at h;obtain⟨rfl,rfl⟩:=h;refine⟨by simp,?_⟩;simp only[go_sem,seval];exact aN
 .rename_i id off;refine⟨by simp,?_⟩;rcases OM off with h7|h7
  .rw[if_pos h7]at h;simp only[ar,bD]at h;obtain⟨rfl,rfl⟩:=h;simp only[go_sem,seval,h7];exact aN
  .have n7:¬7#64<off:=by rcases h7 with rfl|rfl|rfl|rfl|rfl|rfl|rfl|rfl<;>decide
   rw[if_neg n7]at h;split at h
   .simp at h
   .rename_i p hp;have hm:=sL hp;have aD:id<H.length:=dU (by rw[hm];rfl);have mo:=axD hp;obtain⟨e,l,m,s,dl,dm,ff,lo,em,x,y⟩:=p;simp only at hm mo h;by_cases hl:cd l 128=0;all_goals rcases h7 with rfl|rfl|rfl|rfl|rfl|rfl|rfl|rfl
    all_goals simp[hl]at h
    all_goals first|(obtain⟨rfl,rfl⟩:=h;simp only[go_sem,seval,hm,mo,hl];first|exact aN|skip)|(obtain⟨v',h1,rfl⟩:=Ur h;simp only[go_sem,seval,hm,mo,hl,h1];first|exact aN|skip)
 .simp at h
def yd(args:List AV)(H:AH):Option (AV×AH):=match args with
 |[.c (.p id 0 0),.c (.k .u8 b)]=>match mS (hg H id)with
   |some p=>if cd p.m 16=0 then match wP H p.y (.k .u8 b)with|some (y',H1)=>some (.t [],H1.set id (.own (iy {p with y:=y',em:=true})))|none=>none else match vD [.c (.p id 0 0),.c (.k .u8 b)] H with
      |some (_,H1)=>match mS (hg H1 id)with|some p1=>some (.t [],H1.set id (.own (iy {p1 with em:=true})))|none=>none
      |none=>none
   |none=>none
 |_=>none
theorem aa5(args:List AV)(H:AH)(v:AV)(H1:AH)(h:yd args H=some (v,H1)):H.length<=H1.length:=by
 unfold yd at h;repeat' split at h
 all_goals simp at h
 .rename_i hp;rw[<-h.2];simpa using acO hp
 .rename_i hp _ _ _;rw[<-h.2];simpa using TM _ _ _ _ hp
theorem ata:aZ Tryz.prog 187 yd:=by
 refine fU (s:=yd) (tp aci tn) Tryz.func187 rfl Tryz.results187 Tryz.ntmps187 aa5 ?_;intro args H v H1 h bM hH;unfold yd at h;split at h
 .rename_i id b;split at h
  .rename_i p hp;have hm:=sL hp;have aD:id<H.length:=dU (by rw[hm];rfl);obtain⟨bx,ot⟩:=K7 hH hp;obtain⟨e,l,m,s,dl,dm,ff,lo,em,x,y⟩:=p;simp only at hm bx ot h;have gx:∀X,hg (H++X) id=_:=λX=>(cL aD).trans hm;have sx:∀X o,(H++X).set id o=H.set id o++X:=λX o=>lN _ _ aD;refine⟨by simp,?_⟩;split at h
   .rename_i C6;split at h
    .rename_i y' H2 rB;simp only[ar,bD]at h;obtain⟨rfl,rfl⟩:=h;have cases:y=.aA\/∃i o v n,y=.sl i o v n:=by
      unfold wP at rB;split at rB
      .exact .inl rfl
      .exact .inr ⟨_,_,_,_,rfl⟩
      .simp at rB
     rcases cases with rfl|⟨i,o,v,n,rfl⟩
     .simp[wP]at rB;obtain⟨rfl,rfl⟩:=rB;have gh:∀X o,hg (H.set id o++X) id=o:=λX o=>(cL (by simpa using aD)).trans (jj aD);have sh:∀X o o',(H.set id o++X).set id o'=H.set id o'++X:=λX o o'=>by rw[lN _ _ (by simpa using aD),xo]
      simp only[go_sem,seval,hm,C6,gx,sx,gh,sh];apply cV
      .rfl
      .exact D8 _ ⟨.inl rfl,.inr rfl,trivial⟩
      .rw[<-sx];refine oh (td hH (by simp[ae.cells,ae.cT,Sc.aj])) (Dq (p:=⟨e,l,m,s,dl,dm,ff,lo,true,x,_⟩) ?_ ?_)
       .exact Sc.gJ bx (by simp)
       .simp[Sc.aj]
      .simp
     .obtain⟨cs,rfl,hi,c1,c2,c3,rfl,rfl⟩:=acN rB;have li:i<H.length:=dU (by rw[hi];rfl);have ne:i≠id:=λe=>by rw[e,hm]at hi;simp at hi
      have gi:∀X,hg (H++X) i=_:=λX=>(cL li).trans hi;have si:∀X o,(H++X).set i o=H.set i o++X:=λX o=>lN _ _ li;have gs:∀X o,hg (H.set i o++X) id=_:=λX o=>(cL (by simpa using aD)).trans ((fg ne).trans hm);have ss:∀X o o',(H.set i o++X).set id o'=(H.set i o).set id o'++X:=λX o o'=>lN _ _ (by simpa using aD);have gg:∀X o o',hg ((H.set i o).set id o'++X) id=o':=λX o o'=>(cL (by simpa using aD)).trans (jj (by simpa using aD));have sg:∀X o o' KP,((H.set i o).set id o'++X).set id KP=(H.set i o).set id KP++X:=λX o o' KP=>by rw[lN _ _ (by simpa using aD),xo]
      have c4:n<=1099511627775:=ω
      simp only[go_sem,seval,hm,C6,gx,sx,gi,si,gs,ss,gg,sg,c1,c2,c4];have bi:=BM hH i;rw[hi]at bi;apply cV
      .rfl
      .exact aB _ _
      .refine oh (oh hH ?_) (Dq (p:=⟨e,l,m,s,dl,dm,ff,lo,true,x,_⟩) ?_ ?_)
       .simp only[ae.cells,ae.cT,fH,bG,dO,cX,Sc.aj]at bi|-;exact bi
       .simpa using bx
       .simpa[Sc.aj]using li
      .simp
    .simp at h
   .rename_i C6;split at h
    .rename_i w H2 hc;split at h
     .rename_i p1 nR;simp only[ar,bD]at h;obtain⟨rfl,rfl⟩:=h;have xP:=sL nR;simp only[go_sem,seval,hm,C6,hc,xP];exact aN
     .simp at h
    .simp at h
  .simp at h
 .simp at h
def zx(args:List AV)(H:AH):Option (AV×AH):=match args with
 |[.c (.p id 0 0),.c (.k .u8 b)]=>match mS (hg H id)with
   |some p=>if(decide (¬cd b 1=0)==p.ff)=true/\cd b 2=0 then some (.t [],H.set id (.own (iy {p with ff:=decide (¬cd b 1=0)})))else some (.t [],H.set id (.own (iy {p with ff:=decide (¬cd b 1=0),x:=.aA})))|none=>none
 |_=>none
theorem aa4(args:List AV)(H:AH)(v:AV)(H1:AH)(h:zx args H=some (v,H1)):H.length<=H1.length:=by
 unfold zx at h;repeat' split at h
 all_goals simp at h
 all_goals rw[<-h.2];simp
theorem as6:aZ Tryz.prog 188 zx:=by
 refine fU (s:=zx) tn Tryz.func188 rfl Tryz.results188 Tryz.ntmps188 aa4 ?_;intro args H v H1 h bM hH;unfold zx at h;split at h
 .rename_i id b;split at h
  .rename_i p hp;have hm:=sL hp;have aD:id<H.length:=dU (by rw[hm];rfl);obtain⟨e,l,m,s,dl,dm,ff,lo,em,x,y⟩:=p;simp only at hm h;refine⟨by simp,?_⟩;have gg:∀o,hg (H.set id o) id=o:=λo=>jj aD;by_cases h1:cd b 1=0<;>by_cases h2:cd b 2=0<;>cases ff;all_goals simp[h1,h2]at h
   all_goals obtain⟨rfl,rfl⟩:=h
   all_goals simp only[go_sem,seval,hm,h1,h2,gg]
   all_goals exact aN
  .simp at h
 .simp at h
def Qm(p:Po)(off:BitVec 64)(b:Int):Po:=if off=0#64 then{p with dl:=b}else if off=1#64 then(if cd p.l 128=0 then{p with em:=p.em||(decide (¬cd b 2=0)&&decide (cd p.e 2=0)),e:=cd b 15}else{p with dm:=b})else if off=3#64 then{p with l:=b}else if off=4#64 then{p with m:=cd b 31}else{p with s:=b}
def HS(r:Option (AV×AH)):Option (AV×AH):=match r with|some (_,H1)=>some (.c (.b true),H1)|_=>none
theorem Uu{v:AV}(h:HS r=some (v,H1)):∃w,r=some (w,H1)/\v=.c (.b true):=by
 unfold HS at h;split at h
 .simp only[ar,bD]at h;obtain⟨rfl,rfl⟩:=h;exact⟨_,rfl,rfl⟩
 .simp at h
theorem abF{a:List AV}{f:List AV->AH->Option (AV×AH)}(hf:∀a H v H1,f a H=some (v,H1)->H.length<=H1.length){H H1:AH}{v:AV}(h:HS (f a H)=some (v,H1)):H.length<=H1.length:=by
 obtain⟨s,h1,_⟩:=Uu h;exact hf _ _ _ _ h1
def Bk(args:List AV)(H:AH):Option (AV×AH):=match args with
 |[.c .dt,.c (.u _),.c (.k .u8 _)]=>some (.c (.b false),H)|[.c (.p id 0 0),.c (.u off),.c (.k .u8 b)]=>if 7#64<off then some (.c (.b false),H)else match mS (hg H id)with
   |none=>none|some p=>if off=0#64/\cd p.l 128=0 then HS (yd [.c (.p id 0 0),.c (.k .u8 b)] H)else if off=2#64 then HS (zx [.c (.p id 0 0),.c (.k .u8 b)] H)else if off=5#64\/off=6#64 then some (.c (.b true),H)else some (.c (.b true),H.set id (.own (iy (Qm p off b))))
 |_=>none
theorem aoF(args:List AV)(H:AH)(v:AV)(H1:AH)(h:Bk args H=some (v,H1)):H.length<=H1.length:=by
 unfold Bk at h;repeat' split at h
 all_goals first
 |exact abF aa5 h|exact abF aa4 h|(simp at h;done)|(simp at h;rw[<-h.2];exact aC _)|(simp at h;rw[<-h.2];simp)
theorem atf:aZ Tryz.prog 138 Bk:=by
 refine fU (s:=Bk) (tp ata (tp as6 tn)) Tryz.func138 rfl Tryz.results138 Tryz.ntmps138 aoF ?_;intro args H v H1 h bM hH;unfold Bk at h;split at h
 .rename_i off b;simp only[ar,bD]at h;obtain⟨rfl,rfl⟩:=h;refine⟨by simp,?_⟩;simp only[go_sem,seval];apply Rh;simp only[go_sem,seval];exact aN
 .rename_i id off b;refine⟨by simp,?_⟩;rcases OM off with h7|h7
  .rw[if_pos h7]at h;simp only[ar,bD]at h;obtain⟨rfl,rfl⟩:=h;simp only[go_sem,seval,h7];apply Rh;simp only[go_sem,seval,h7];exact aN
  .have n7:¬7#64<off:=by rcases h7 with rfl|rfl|rfl|rfl|rfl|rfl|rfl|rfl<;>decide
   rw[if_neg n7]at h;split at h
   .simp at h
   .rename_i p hp;have hm:=sL hp;have aD:id<H.length:=dU (by rw[hm];rfl);have gg:∀o,hg (H.set id o) id=o:=λo=>jj aD;obtain⟨e,l,m,s,dl,dm,ff,lo,em,x,y⟩:=p;simp only at hm h;simp only[go_sem,seval];apply Rh;by_cases hl:cd l 128=0;all_goals rcases h7 with rfl|rfl|rfl|rfl|rfl|rfl|rfl|rfl
    all_goals simp[hl,Qm]at h
    all_goals first|(obtain⟨rfl,rfl⟩:=h;by_cases h2:cd b 2=0<;>by_cases h3:cd e 2=0<;>simp only[go_sem,seval,hm,hl,gg,h2,h3,decide_true,decide_false,cX,rh,Bool.or_true,uU,not_true,not_false_eq_true,Mz]<;>exact aN)|(obtain⟨v',h1,rfl⟩:=Uu h;simp only[go_sem,seval,hm,hl,h1];exact aN)
 .simp at h
def Bi(args:List AV)(H:AH):Option (AV×AH):=match args with
 |[.c .dt,.c (.k .u8 _)]=>some (.c (.b false),H)|[.c (.p id 0 0),.c (.k .u8 b)]=>match mS (hg H id)with
   |none=>none|some p=>if cd p.m 16=0 then vD [.c (.p id 0 0),.c (.k .u8 b)] H else some (.c (.b false),H)
 |_=>none
theorem aoD(args:List AV)(H:AH)(v:AV)(H1:AH)(h:Bi args H=some (v,H1)):H.length<=H1.length:=by
 unfold Bi at h;repeat' split at h
 all_goals first|exact TM _ _ _ _ h|(simp at h;done)|(simp at h;rw[<-h.2];exact aC _)
theorem ajl{id:Nat}{b:Int}{H H1:AH}{v:AV}(h:vD [.c (.p id 0 0),.c (.k .u8 b)] H=some (v,H1)):∃q,v=.c (.b q):=by
 unfold vD at h;repeat' split at h
 all_goals simp at h
 .exact⟨_,h.1.symm⟩
 .exact⟨_,h.1.symm⟩
theorem as1:aZ Tryz.prog 88 Bi:=by
 refine fU (s:=Bi) (tp aci tn) Tryz.func88 rfl Tryz.results88 Tryz.ntmps88 aoD ?_;intro args H v H1 h bM hH;unfold Bi at h;split at h
 .rename_i b;simp only[ar,bD]at h;obtain⟨rfl,rfl⟩:=h;refine⟨by simp,?_⟩;simp only[go_sem,seval];exact aN
 .rename_i id b;refine⟨by simp,?_⟩;split at h
  .simp at h
  .rename_i p hp;have hm:=sL hp;split at h
   .rename_i hz;obtain⟨q,rfl⟩:=ajl h;simp only[go_sem,seval,hm,hz,h];exact aN
   .rename_i hz;simp only[ar,bD]at h;obtain⟨rfl,rfl⟩:=h;simp only[go_sem,seval,hm,hz];exact aN
 .simp at h
def Cy(args:List AV)(H:AH):Option AV:=match args with
 |[.c .dt]=>some (.c (.b false))|[.c (.p id 0 0)]=>match mS (hg H id)with
   |some p=>match AS p.x with
     |some n=>some (.c (.b (!decide (vS p n=1))))|none=>none
   |none=>none
 |_=>none
theorem axC{id:Nat}{H:AH}{p:Po}{n:Nat}(h:mS (hg H id)=some p)(hn:AS p.x=some n):Cy [.c (.p id 0 0)] H=some (.c (.b (!decide (vS p n=1)))):=by simp only[Cy,h,hn]
theorem as2:aZ Tryz.prog 90 (λargs H=>(Cy args H).map λv=>(v,H)):=by
 refine iR (s:=Cy) (tq ach tn) Tryz.func90 rfl Tryz.results90 Tryz.ntmps90 ?_;intro args H v h bM hH;unfold Cy at h;split at h
 .simp only[ar]at h;subst h;refine⟨by simp,rfl,?_⟩;simp only[go_sem,seval];first|exact aE _|exact⟨rfl,aE _⟩
 .rename_i id;split at h
  .rename_i p hp;split at h
   .rename_i n hn;have cc:=aem hp hn;simp only[ar]at h;subst h;refine⟨by simp,rfl,?_⟩;simp only[go_sem,seval,cc];first|exact aE _|exact⟨rfl,aE _⟩
   .simp at h
  .simp at h
 .simp at h
def DZ(args:List AV)(H:AH):Option (AV×AH):=match args with
 |[.c .dt]=>some (.c .aA,H)|[.c (.p id 0 0)]=>match mS (hg H id)with
   |some p=>(o8 H p.x).map λr=>(.c r.1,r.2)|none=>none
 |_=>none
theorem YZ{v:AV}(h:((o8 H x).map λr=>(AV.c r.1,r.2))=some (v,H1)):H.length<=H1.length:=by
 rw[ef]at h;obtain⟨r,h1,h2⟩:=h;simp only[bD]at h2;rw[<-h2.2];exact RM h1
theorem aa9(args:List AV)(H:AH)(v:AV)(H1:AH)(h:DZ args H=some (v,H1)):H.length<=H1.length:=by
 unfold DZ at h;repeat' split at h
 all_goals first|exact YZ h|(simp at h;done)|(simp at h;rw[<-h.2];exact aC _)
theorem ate:aZ Tryz.prog 165 DZ:=by
 refine fU (s:=DZ) (tp OR tn) Tryz.func165 rfl Tryz.results165 Tryz.ntmps165 aa9 ?_;intro args H v H1 h bM hH;unfold DZ at h;split at h
 .simp only[ar,bD]at h;obtain⟨rfl,rfl⟩:=h;refine⟨by simp,?_⟩;simp only[go_sem,seval];exact aN
 .rename_i id;split at h
  .rename_i p hp;have hm:=sL hp;rw[ef]at h;obtain⟨⟨x',H2⟩,h1,h2⟩:=h;simp only[bD]at h2;obtain⟨rfl,rfl⟩:=h2;have cq:=Mb h1;refine⟨by simp,?_⟩;simp only[go_sem,seval,hm,cq];exact aN
  .simp at h
 .simp at h
def DY(args:List AV)(H:AH):Option (AV×AH):=match args with
 |[.c .dt]=>some (.c .aA,H)|[.c (.p id 0 0)]=>match mS (hg H id)with
   |some p=>(o8 H p.y).map λr=>(.c r.1,r.2)|none=>none
 |_=>none
theorem aa3(args:List AV)(H:AH)(v:AV)(H1:AH)(h:DY args H=some (v,H1)):H.length<=H1.length:=by
 unfold DY at h;repeat' split at h
 all_goals first|exact YZ h|(simp at h;done)|(simp at h;rw[<-h.2];exact aC _)
theorem as5:aZ Tryz.prog 164 DY:=by
 refine fU (s:=DY) (tp OR tn) Tryz.func164 rfl Tryz.results164 Tryz.ntmps164 aa3 ?_;intro args H v H1 h bM hH;unfold DY at h;split at h
 .simp only[ar,bD]at h;obtain⟨rfl,rfl⟩:=h;refine⟨by simp,?_⟩;simp only[go_sem,seval];exact aN
 .rename_i id;split at h
  .rename_i p hp;have hm:=sL hp;rw[ef]at h;obtain⟨⟨x',H2⟩,h1,h2⟩:=h;simp only[bD]at h2;obtain⟨rfl,rfl⟩:=h2;have cq:=Mb h1;refine⟨by simp,?_⟩;simp only[go_sem,seval,hm,cq];exact aN
  .simp at h
 .simp at h
def Cp:Po:=⟨0,0,0,0,0,0,false,false,false,.aA,.aA⟩

def dE (x:Int):List Sc:=[.k .u8 x]
def iJ:List Sc->Option Int
 | [.k .u8 x]=>some x
 | _=>none
theorem EI (x:Int):iJ (dE x)=some x:=rfl
theorem EH (cs:List Sc) (x:Int) (h:iJ cs=some x):cs=dE x:=by unfold iJ at h;split at h <;> simp_all [dE]
theorem Al (x:Int):(dE x).length=1:=rfl
theorem nj (A:List Int):(A.flatMap dE).length=A.length:=by rw [qK Al,Ep]
theorem G2 (A:List Int):(A.flatMap dE).all Sc.one=true:=by
 rw [rU];exact cD.2 λ_ _=>rfl
theorem akQ (A:List Int) (n:Nat):(A.flatMap dE).all (Sc.aj n)=true:=by
 rw [rU];exact cD.2 λ_ _=>rfl
def aW:Sc->Option Nat
 | .sl i _ _ _=>some i
 | _=>none
def u5 (K:AH) (x:Sc) (A:List Int):Prop:=(x=.aA/\A=[])\/∃i,x=.sl i 0 A.length A.length/\hg K i=.vec 1 (A.flatMap dE)
theorem M5 {K:AH} {x:Sc} {A:List Int} (h:u5 K x A):AS x=some A.length:=by
 rcases h with ⟨rfl,rfl⟩ | ⟨i,rfl,_⟩ <;> rfl
theorem qi {K:AH} {x:Sc} {A:List Int} {i:Nat} (h:u5 K x A) (hi:aW x=some i):i < K.length/\hg K i=.vec 1 (A.flatMap dE):=by
 rcases h with ⟨rfl,rfl⟩ | ⟨j,rfl,hj⟩
 .simp [aW] at hi
 .simp only [aW,ar] at hi
  subst hi
  exact ⟨dU (by rw [hj];rfl),hj⟩
theorem Ad {K K':AH} {x:Sc} {A:List Int} (h:u5 K x A) (hk:∀i,aW x=some i->hg K' i=hg K i):u5 K' x A:=by
 rcases h with ⟨rfl,rfl⟩ | ⟨j,rfl,hj⟩
 .exact .inl ⟨rfl,rfl⟩
 .exact .inr ⟨j,rfl,by rw [hk j rfl,hj]⟩
theorem M6 {K:AH} {x:Sc} {A:List Int} (h:u5 K x A):fL 1 iJ K x=some A:=by
 rcases h with ⟨rfl,rfl⟩ | ⟨j,rfl,hj⟩
 .rfl
 .exact D6 Al EI (by rw [hj];simp only [ae.row,nj]) rfl (by rw [hj];rfl)
theorem mO {K X:AH} {k:Nat} (h:k < K.length):hg (K++X) k=hg K k:=cL h
theorem acP {K:AH} {x:Sc} {A:List Int} (b:Int) (h:u5 K x A) (hs:A.length<=1000000) :
 ∃x' K',wP K x (.k .u8 b)=some (x',K')/\u5 K' x' (A++[b])/\K.length<=K'.length/\(∀k,k < K.length->aW x≠some k->hg K' k=hg K k)/\(∀i,aW x'=some i->aW x=some i\/K.length<=i):=by
 rcases h with ⟨rfl,rfl⟩ | ⟨i,rfl,hi⟩
 .refine ⟨_,_,rfl,.inr ⟨K.length+1,rfl,?_⟩,by simp,λk hk _=>mO hk,λi hi=>.inr ?_⟩
  .simp [hg,b9,dE]
  .simp only [aW,ar] at hi;omega
 .have li:i < K.length:=dU (by rw [hi];rfl)
  refine ⟨.sl i 0 (A.length+1) (A.length+1),K.set i (.vec 1 (A.flatMap dE++[.k .u8 b])),?_,.inr ⟨i,by simp,?_⟩,by simp,λk hk cW=>?_,λj hj=>.inl hj⟩
  .simp only [wP,hi,nj]
   rw [if_pos ⟨trivial,trivial,hs⟩]
  .rw [jj li,ND];rfl
  .exact fg λe=>cW (by rw [e];rfl)
theorem Y1 {K:AH} {x:Sc} {A:List Int} (h:u5 K x A) (hs:A.length<=1000000) :
 o8 K x=some (.sl K.length 0 A.length A.length,K++[.vec 1 (A.flatMap dE)]):=by
 rcases h with ⟨rfl,rfl⟩ | ⟨i,rfl,hi⟩
 .rfl
 .have e:(A.flatMap dE).take A.length=A.flatMap dE:=bR (by rw [nj];exact aC _)
  simp only [o8,hi,ae.row,ae.cells,ae.cT,nj,xg,e]
  rw [if_pos ⟨trivial,ω,G2 A,hs⟩]
theorem aiZ {K:AH} {i:Nat} {a:Int} {A:List Int} (hi:hg K i=.vec 1 ((a::A).flatMap dE)) (hs:A.length<=1000000) :
 o8 K (.sl i 1 (A.length+1) A.length)=some (.sl K.length 0 A.length A.length,K++[.vec 1 (A.flatMap dE)]):=by
 have e:(A.flatMap dE).take A.length=A.flatMap dE:=bR (by rw [nj];exact aC _)
 have e2:((a::A).flatMap dE).drop 1=A.flatMap dE:=rfl
 simp only [o8,hi,ae.row,ae.cells,ae.cT,nj,e2,e,cZ]
 rw [if_pos ⟨trivial,ω,G2 A,hs⟩]
structure Pt where
 e:Int
 l:Int
 m:Int
 s:Int
 dl:Int
 dm:Int
 ff:Bool
 lo:Bool
 em:Bool
 A:List Int
 B:List Int
def iz (t:Pt) (x y:Sc):Po:=⟨t.e,t.l,t.m,t.s,t.dl,t.dm,t.ff,t.lo,t.em,x,y⟩
structure PI (K:AH) (h:Nat) (t:Pt) (x y:Sc):Prop where
 hp:hg K h=.own (iy (iz t x y))
 hx:u5 K x t.A
 hy:u5 K y t.B
 ne:∀i,aW x=some i->aW y=some i->False
structure Kp (K K':AH) (h:Nat) (x y x' y':Sc):Prop where
 len:K.length<=K'.length
 fF:∀k,k < K.length->k≠h->aW x≠some k->aW y≠some k->hg K' k=hg K k
 fx:∀i,aW x'=some i->aW x=some i\/K.length<=i
 fy:∀i,aW y'=some i->aW y=some i\/K.length<=i
theorem Kp.wT {K:AH} {h:Nat} {x y:Sc}:Kp K K h x y x y:=⟨aC _,λ_ _ _ _ _=>rfl,λ_ h=>.inl h,λ_ h=>.inl h⟩
theorem PI.lt {K:AH} {h:Nat} {t:Pt} {x y:Sc} (hP:PI K h t x y):h < K.length:=dU (by rw [hP.hp];rfl)
theorem PI.nx {K:AH} {h:Nat} {t:Pt} {x y:Sc} (hP:PI K h t x y) {i:Nat} (hi:aW x=some i):i≠h:=λe=>by
 have:=(qi hP.hx hi).2;rw [e,hP.hp] at this;simp at this
theorem PI.ny {K:AH} {h:Nat} {t:Pt} {x y:Sc} (hP:PI K h t x y) {i:Nat} (hi:aW y=some i):i≠h:=λe=>by
 have:=(qi hP.hy hi).2;rw [e,hP.hp] at this;simp at this
theorem PI.po {K:AH} {h:Nat} {t:Pt} {x y:Sc} (hP:PI K h t x y):mS (hg K h)=some (iz t x y):=by rw [hP.hp];rfl
theorem HW {K:AH} {h:Nat} {t:Pt} {x y:Sc} (hP:PI K h t x y) (t':Pt) (hA:t'.A=t.A) (hB:t'.B=t.B):PI (K.set h (.own (iy (iz t' x y)))) h t' x y/\Kp K (K.set h (.own (iy (iz t' x y)))) h x y x y:=by
 refine ⟨⟨jj hP.lt,?_,?_,hP.ne⟩,by simp,λk _ hk _ _=>fg (Ne.symm hk),λ_ h=>.inl h,λ_ h=>.inl h⟩
 .rw [hA];exact Ad hP.hx λi hi=>fg (Ne.symm (hP.nx hi))
 .rw [hB];exact Ad hP.hy λi hi=>fg (Ne.symm (hP.ny hi))
theorem UT {K K1:AH} {h:Nat} {t:Pt} {x y x':Sc} (hP:PI K h t x y) (t':Pt) (hB:t'.B=t.B) (B6:u5 K1 x' t'.A) (hl:K.length<=K1.length)
 (hk:∀k,k < K.length->aW x≠some k->hg K1 k=hg K k) (hf:∀i,aW x'=some i->aW x=some i\/K.length<=i) :
 PI (K1.set h (.own (iy (iz t' x' y)))) h t' x' y/\Kp K (K1.set h (.own (iy (iz t' x' y)))) h x y x' y:=by
 have lt:=hP.lt
 have nx:∀i,aW x'=some i->i≠h:=λi hi=>by
  rcases hf i hi with e | e
  .exact hP.nx e
  .omega
 refine ⟨⟨jj ω,?_,?_,λi h1 h2=>?_⟩,by simpa using hl,λk vq iq xN _=>?_,hf,λ_ h=>.inl h⟩
 .exact Ad B6 λi hi=>fg (Ne.symm (nx i hi))
 .rw [hB]
  refine Ad hP.hy λi hi=>?_
  rw [fg (Ne.symm (hP.ny hi))]
  exact hk i (qi hP.hy hi).1 λe=>hP.ne i e hi
 .rcases hf i h1 with e | e
  .exact hP.ne i e h2
  .have:=(qi hP.hy h2).1;omega
 .rw [fg (Ne.symm iq)]
  exact hk k vq xN
theorem aur {K K1:AH} {h:Nat} {t:Pt} {x y y':Sc} (hP:PI K h t x y) (t':Pt) (hA:t'.A=t.A) (hy':u5 K1 y' t'.B) (hl:K.length<=K1.length)
 (hk:∀k,k < K.length->aW y≠some k->hg K1 k=hg K k) (hf:∀i,aW y'=some i->aW y=some i\/K.length<=i) :
 PI (K1.set h (.own (iy (iz t' x y')))) h t' x y'/\Kp K (K1.set h (.own (iy (iz t' x y')))) h x y x y':=by
 have lt:=hP.lt
 have ny:∀i,aW y'=some i->i≠h:=λi hi=>by
  rcases hf i hi with e | e
  .exact hP.ny e
  .omega
 refine ⟨⟨jj ω,?_,?_,λi h1 h2=>?_⟩,by simpa using hl,λk vq iq _ xN=>?_,λ_ h=>.inl h,hf⟩
 .rw [hA]
  refine Ad hP.hx λi hi=>?_
  rw [fg (Ne.symm (hP.nx hi))]
  exact hk i (qi hP.hx hi).1 λe=>hP.ne i hi e
 .exact Ad hy' λi hi=>fg (Ne.symm (ny i hi))
 .rcases hf i h2 with e | e
  .exact hP.ne i h1 e
  .have:=(qi hP.hx h1).1;omega
 .rw [fg (Ne.symm iq)]
  exact hk k vq xN
def Ct (t:Pt):Nat:=if t.ff=true then 16 else 1
def dI (t:Pt):Int:=vS (iz t .aA .aA) t.A.length
variable {y:Sc}
theorem aic{t:Pt}{n:Nat} (h:n=t.A.length):vS (iz t x y) n=dI t:=by subst h;rfl
def iY (t:Pt) (b:Int):Pt × Bool:=if Ct t<=t.A.length then ({t with lo:=true},false) else ({t with A:=t.A++[b]},true)
theorem Zc {K:AH} {h:Nat} {t:Pt} {x y:Sc} (hP:PI K h t x y) (b:Int) (hs:t.A.length<=1000000) :
 ∃K' x',vD [.c (.p h 0 0),.c (.k .u8 b)] K=some (.c (.b (iY t b).2),K')/\PI K' h (iY t b).1 x' y/\Kp K K' h x y x' y:=by
 have hl:=M5 hP.hx
 have er:FP (iz t x y)=(Ct t:Int):=by unfold FP Ct iz;split <;> rfl
 unfold iY
 by_cases hr:Ct t<=t.A.length
 .have:=HW hP {t with lo:=true} rfl rfl
  rw [if_pos hr]
  refine ⟨_,x,?_,this.1,this.2⟩
  simp only [vD,hP.po]
  rw [show (iz t x y).x=x from rfl,hl]
  simp only [er]
  rw [if_pos ω]
  rfl
 .obtain ⟨x',K1,h1,h2,h3,h4,h5⟩:=acP b hP.hx hs
  have:=UT hP {t with A:=t.A++[b]} rfl h2 h3 h4 h5
  rw [if_neg hr]
  refine ⟨_,x',?_,this.1,this.2⟩
  simp only [vD,hP.po]
  rw [show (iz t x y).x=x from rfl,hl]
  simp only [er]
  rw [if_neg ω,h1]
  rfl
def sW (t:Pt):Pt × Int:=match t.A with
 | []=>(t,0)
 | a::A=>({t with A:=A},a)
theorem ayP {K:AH} {h:Nat} {t:Pt} {x y:Sc} (hP:PI K h t x y) (hs:t.A.length<=1000000) :
 ∃K' x',yf [.c (.p h 0 0)] K=some (.c (.k .u8 (sW t).2),K')/\PI K' h (sW t).1 x' y/\Kp K K' h x y x' y:=by
 unfold sW
 cases hA:t.A with
 | nil =>
   refine ⟨K,x,?_,hP,Kp.wT⟩
   simp only [yf,hP.po]
   rw [show (iz t x y).x=x from rfl]
   have:=hP.hx
   rw [hA] at this
   rcases this with ⟨rfl,_⟩ | ⟨i,rfl,_⟩ <;> rfl
 | cons a A =>
   have hx:=hP.hx
   rw [hA] at hx hs
   rcases hx with ⟨_,h0⟩ | ⟨i,hx,hi⟩
   .simp at h0
   .have hc:=aiZ hi (by simp at hs;omega)
    have lc:(K++[ae.vec 1 (A.flatMap dE)]).length=K.length+1:=by simp
    have gn:hg (K++[ae.vec 1 (A.flatMap dE)]) K.length=.vec 1 (A.flatMap dE):=by simp [hg,b9]
    have:=UT (K1:=K++[.vec 1 (A.flatMap dE)]) (x':=.sl K.length 0 A.length A.length) hP {t with A:=A} rfl (.inr ⟨_,rfl,gn⟩) ω (λk hk _=>mO hk)
     (λj hj=>.inr (by simp only [aW,ar] at hj;omega))
    refine ⟨_,_,?_,this.1,this.2⟩
    simp only [yf,hP.po]
    rw [show (iz t x y).x=x from rfl,hx]
    simp only [cZ,hi,ae.cells,ae.cT]
    rw [show (a::A).flatMap dE=.k .u8 a::A.flatMap dE from rfl]
    simp only [hc]
    rfl
def w5 (t:Pt):Pt × Int:=(if dI t=2 then {t with em:=false} else t,if t.ff=true then AZ (dI t) 192 else dI t)
theorem azC {K:AH} {h:Nat} {t:Pt} {x y:Sc} (hP:PI K h t x y) :
 ∃K',yg [.c (.p h 0 0)] K=some (.c (.k .u8 (w5 t).2),K')/\PI K' h (w5 t).1 x y/\Kp K K' h x y x y:=by
 have hl:=M5 hP.hx
 have e:yg [.c (.p h 0 0)] K=some (.c (.k .u8 (w5 t).2),if dI t=2 then K.set h (.own (iy (iz {t with em:=false} x y))) else K):=by
  simp only [yg,hP.po]
  rw [show (iz t x y).x=x from rfl,hl]
  simp only [aic rfl]
  rfl
 rw [e]
 unfold w5
 by_cases h2:dI t=2
 .rw [if_pos h2,if_pos h2]
  have:=HW hP {t with em:=false} rfl rfl
  exact ⟨_,rfl,this.1,this.2⟩
 .rw [if_neg h2,if_neg h2]
  exact ⟨_,rfl,hP,Kp.wT⟩
def zE (t:Pt):Pt × Int:=({t with lo:=false},stateT t.lo t.A.length)
theorem ayy {K:AH} {h:Nat} {t:Pt} {x y:Sc} (hP:PI K h t x y) :
 ∃K',ye [.c (.p h 0 0)] K=some (.c (.k .u8 (zE t).2),K')/\PI K' h (zE t).1 x y/\Kp K K' h x y x y:=by
 have hl:=M5 hP.hx
 have e:ye [.c (.p h 0 0)] K=some (.c (.k .u8 (zE t).2),if t.lo=true then K.set h (.own (iy (iz {t with lo:=false} x y))) else K):=by
  simp only [ye,hP.po]
  rw [show (iz t x y).x=x from rfl,hl]
  rfl
 rw [e]
 by_cases h2:t.lo=true
 .rw [if_pos h2]
  have:=HW hP {t with lo:=false} rfl rfl
  exact ⟨_,rfl,this.1,this.2⟩
 .rw [if_neg h2]
  have:(zE t).1=t:=by unfold zE;simp at h2;cases t;simp_all
  rw [this]
  exact ⟨_,rfl,hP,Kp.wT⟩
def fC (t:Pt) (off:BitVec 64):Pt × Int × Bool :=
 if 7#64 < off then (t,0,false)
 else if off=0#64 then (if cd t.l 128=0 then ((sW t).1,(sW t).2,true) else (t,t.dl,true))
 else if off=1#64 then (t,(if cd t.l 128=0 then t.e else t.dm),true)
 else if off=2#64 then ((w5 t).1,(w5 t).2,true)
 else if off=3#64 then (t,t.l,true)
 else if off=4#64 then (t,t.m,true)
 else if off=5#64 then ((zE t).1,(zE t).2,true)
 else if off=6#64 then (t,Cf t.m,true)
 else (t,t.s,true)
theorem au0 {K:AH} {h:Nat} {t:Pt} {x y:Sc} (hP:PI K h t x y) (off:BitVec 64) (hs:t.A.length<=1000000) :
 ∃K' x',Bj [.c (.p h 0 0),.c (.u off)] K=some (.t [.c (.k .u8 (fC t off).2.1),.c (.b (fC t off).2.2)],K')/\PI K' h (fC t off).1 x' y/\Kp K K' h x y x' y:=by
 unfold fC
 simp only [Bj]
 split
 .exact ⟨K,x,rfl,hP,Kp.wT⟩
 rw [hP.po]
 simp only
 split
 .rw [show (iz t x y).l=t.l from rfl]
  split
  .obtain ⟨K',x',h1,h2,h3⟩:=ayP hP hs
   rw [h1]
   exact ⟨K',x',rfl,h2,h3⟩
  .exact ⟨K,x,rfl,hP,Kp.wT⟩
 split
 .exact ⟨K,x,rfl,hP,Kp.wT⟩
 split
 .obtain ⟨K',h1,h2,h3⟩:=azC hP
  rw [h1]
  exact ⟨K',x,rfl,h2,h3⟩
 split
 .exact ⟨K,x,rfl,hP,Kp.wT⟩
 split
 .exact ⟨K,x,rfl,hP,Kp.wT⟩
 split
 .obtain ⟨K',h1,h2,h3⟩:=ayy hP
  rw [h1]
  exact ⟨K',x,rfl,h2,h3⟩
 split
 .exact ⟨K,x,rfl,hP,Kp.wT⟩
 .exact ⟨K,x,rfl,hP,Kp.wT⟩
def Bn (t:Pt) (b:Int):Pt:=if cd t.m 16=0 then {t with B:=t.B++[b],em:=true} else {(iY t b).1 with em:=true}
theorem axW {K:AH} {h:Nat} {t:Pt} {x y:Sc} (hP:PI K h t x y) (b:Int) (hs:t.A.length<=1000000) (mR:t.B.length<=1000000) :
 ∃K' x' y' w,yd [.c (.p h 0 0),.c (.k .u8 b)] K=some (w,K')/\PI K' h (Bn t b) x' y'/\Kp K K' h x y x' y':=by
 unfold Bn
 by_cases hm:cd t.m 16=0
 .rw [if_pos hm]
  obtain ⟨y',K1,h1,h2,h3,h4,h5⟩:=acP b hP.hy mR
  have:=aur hP {t with B:=t.B++[b],em:=true} rfl h2 h3 h4 h5
  refine ⟨_,x,y',.t [],?_,this.1,this.2⟩
  simp only [yd,hP.po]
  rw [show (iz t x y).m=t.m from rfl,if_pos hm,show (iz t x y).y=y from rfl,h1]
  rfl
 .rw [if_neg hm]
  obtain ⟨K1,x',h1,h2,h3⟩:=Zc hP b hs
  obtain ⟨a1,a2⟩:=HW h2 {(iY t b).1 with em:=true} rfl rfl
  refine ⟨_,x',y,.t [],?_,a1,?_⟩
  .simp only [yd,hP.po]
   rw [show (iz t x y).m=t.m from rfl,if_neg hm,h1]
   simp only [h2.po]
   rfl
  .refine ⟨Nat.le_trans h3.len a2.len,λk k1 k2 k3 k4=>?_,h3.fx,h3.fy⟩
   rw [fg (Ne.symm k2)]
   exact h3.fF k k1 k2 k3 k4
def xY (t:Pt) (b:Int):Pt :=
 if (decide (¬cd b 1=0) == t.ff)=true/\cd b 2=0 then {t with ff:=decide (¬cd b 1=0)} else {t with ff:=decide (¬cd b 1=0),A:=[]}
theorem auS {K:AH} {h:Nat} {t:Pt} {x y:Sc} (hP:PI K h t x y) (b:Int) :
 ∃K' x' w,zx [.c (.p h 0 0),.c (.k .u8 b)] K=some (w,K')/\PI K' h (xY t b) x' y/\Kp K K' h x y x' y:=by
 unfold xY
 simp only [zx,hP.po]
 rw [show (iz t x y).ff=t.ff from rfl]
 split
 .have:=HW hP {t with ff:=decide (¬cd b 1=0)} rfl rfl
  exact ⟨_,x,_,rfl,this.1,this.2⟩
 .have:=UT (K1:=K) (x':=.aA) hP {t with ff:=decide (¬cd b 1=0),A:=[]} rfl (.inl ⟨rfl,rfl⟩) (aC _) (λ_ _ _=>rfl) (λi hi=>by simp [aW] at hi)
  exact ⟨_,.aA,_,rfl,this.1,this.2⟩
def zI (t:Pt) (off:BitVec 64) (b:Int):Pt :=
 if off=0#64 then {t with dl:=b}
 else if off=1#64 then (if cd t.l 128=0 then {t with em:=t.em || (decide (¬cd b 2=0) && decide (cd t.e 2=0)),e:=cd b 15} else {t with dm:=b})
 else if off=3#64 then {t with l:=b}
 else if off=4#64 then {t with m:=cd b 31}
 else {t with s:=b}
theorem Qo (t:Pt) (x y:Sc) (off:BitVec 64) (b:Int):Qm (iz t x y) off b=iz (zI t off b) x y/\(zI t off b).A=t.A/\(zI t off b).B=t.B:=by
 unfold Qm zI
 split
 .exact ⟨rfl,rfl,rfl⟩
 split
 .rw [show (iz t x y).l=t.l from rfl]
  split <;> exact ⟨rfl,rfl,rfl⟩
 split
 .exact ⟨rfl,rfl,rfl⟩
 split <;> exact ⟨rfl,rfl,rfl⟩
def fQ (t:Pt) (off:BitVec 64) (b:Int):Pt × Bool :=
 if 7#64 < off then (t,false)
 else if off=0#64/\cd t.l 128=0 then (Bn t b,true)
 else if off=2#64 then (xY t b,true)
 else if off=5#64\/off=6#64 then (t,true)
 else (zI t off b,true)
theorem aAt {K:AH} {h:Nat} {t:Pt} {x y:Sc} (hP:PI K h t x y) (off:BitVec 64) (b:Int) (hs:t.A.length<=1000000) (mR:t.B.length<=1000000) :
 ∃K' x' y',Bk [.c (.p h 0 0),.c (.u off),.c (.k .u8 b)] K=some (.c (.b (fQ t off b).2),K')/\PI K' h (fQ t off b).1 x' y'/\Kp K K' h x y x' y':=by
 unfold fQ
 simp only [Bk]
 split
 .exact ⟨K,x,y,rfl,hP,Kp.wT⟩
 rw [hP.po]
 simp only
 rw [show (iz t x y).l=t.l from rfl]
 split
 .obtain ⟨K',x',y',w,h1,h2,h3⟩:=axW hP b hs mR
  rw [h1]
  exact ⟨K',x',y',rfl,h2,h3⟩
 split
 .obtain ⟨K',x',w,h1,h2,h3⟩:=auS hP b
  rw [h1]
  exact ⟨K',x',y,rfl,h2,h3⟩
 split
 .exact ⟨K,x,y,rfl,hP,Kp.wT⟩
 .obtain ⟨w1,w2,w3⟩:=Qo t x y off b
  have:=HW hP (zI t off b) w2 w3
  rw [w1]
  exact ⟨_,x,y,rfl,this.1,this.2⟩
def oI (t:Pt) (b:Int):Pt × Bool:=if cd t.m 16=0 then iY t b else (t,false)
theorem anm {K:AH} {h:Nat} {t:Pt} {x y:Sc} (hP:PI K h t x y) (b:Int) (hs:t.A.length<=1000000) :
 ∃K' x',Bi [.c (.p h 0 0),.c (.k .u8 b)] K=some (.c (.b (oI t b).2),K')/\PI K' h (oI t b).1 x' y/\Kp K K' h x y x' y:=by
 unfold oI
 simp only [Bi,hP.po]
 rw [show (iz t x y).m=t.m from rfl]
 split
 .exact Zc hP b hs
 .exact ⟨K,x,rfl,hP,Kp.wT⟩
theorem aoR {K:AH} {h:Nat} {t:Pt} {x y:Sc} (hP:PI K h t x y):Cy [.c (.p h 0 0)] K=some (.c (.b (!decide (dI t=1)))):=by
 rw [axC hP.po (M5 hP.hx)];rfl
theorem az8 {K:AH} {h:Nat} {t:Pt} {x y:Sc} (hP:PI K h t x y) (hs:t.A.length<=1000000):DZ [.c (.p h 0 0)] K=some (.c (.sl K.length 0 t.A.length t.A.length),K++[.vec 1 (t.A.flatMap dE)]):=by
 simp only [DZ,hP.po]
 rw [show (iz t x y).x=x from rfl,Y1 hP.hx hs];rfl
theorem aub {K:AH} {h:Nat} {t:Pt} {x y:Sc} (hP:PI K h t x y) (hs:t.B.length<=1000000):DY [.c (.p h 0 0)] K=some (.c (.sl K.length 0 t.B.length t.B.length),K++[.vec 1 (t.B.flatMap dE)]):=by
 simp only [DY,hP.po]
 rw [show (iz t x y).y=y from rfl,Y1 hP.hy hs];rfl
theorem UR {K X:AH} {h:Nat} {t:Pt} {x y:Sc} (hP:PI K h t x y):PI (K++X) h t x y :=
 ⟨by rw [mO hP.lt];exact hP.hp,Ad hP.hx λi hi=>mO (qi hP.hx hi).1,Ad hP.hy λi hi=>mO (qi hP.hy hi).1,hP.ne⟩
def fJ:Pt:=⟨0,0,0,0,0,0,false,false,false,[],[]⟩
theorem acD (K:AH):PI (K++[.own (iy Cp)]) K.length fJ .aA .aA:=by
 refine ⟨?_,.inl ⟨rfl,rfl⟩,.inl ⟨rfl,rfl⟩,λi h=>by simp [aW] at h⟩
 simp [hg,b9];rfl
theorem amv(fr:Fr)(s:Nat):Am.get fr s=.c .any\/∃p∈fr,p.1=s/\Am.get fr s=p.2:=by induction fr with
 |nil=>exact .inl rfl|cons a r ih=>
   obtain⟨d,v⟩:=a;by_cases h:d=s
   .exact .inr ⟨(d,v),by simp,h,by simp[Am.get,h]⟩
   .have e:Am.get ((d,v)::r) s=Am.get r s:=by simp[Am.get,h]
    rw[e];rcases ih with h1|⟨p,h1,h2,h3⟩
    .exact .inl h1
    .exact .inr ⟨p,by simp[h1],h2,h3⟩
theorem Wk.fr{n:Nat}{fr dP:Fr}{H:AH}(hf:∀p∈dP,Am.get fr p.1=p.2):Wk n fr H (dP,H):=λρ w tm h1 h2=>⟨ρ,λs=>by
   show bg ρ (Am.get dP s) (tm s);rcases amv dP s with e|⟨p,hp,rfl,e⟩
   .rw[e];exact trivial
   .rw[e,<-hf p hp];exact h1 p.1,h2,λi _ hi hL _=>⟨i,hi,hL⟩,λ_ _=>rfl⟩
theorem aeQ{H K:AH}(hl:H.length<=K.length)(h:∀k,k<H.length->hg K k=hg H k):pQ H K:=by induction H generalizing K with
 |nil=>exact trivial|cons o r ih=>cases K with|nil=>simp at hl|cons o' r'=>
     refine⟨.inr ?_,ih (by simpa using hl) λk hk=>?_⟩
     .have:=h 0 (by simp);simpa[hg]using this.symm
     .have:=h (k+1) (by simpa using hk);simpa[hg]using this
def Bh(args:List AV)(H:AH):Option AV:=match args with
 |[.c x,.c y]=>match fL 1 iJ H x,fL 1 iJ H y with
   |some L,some M=>if L.length<=1000000/\M.length<=1000000 then some (.c (.b (decide (L=M))))else none|_,_=>none
 |_=>none
theorem PO{M:List Int}(h1:fL 1 iJ H x=some L)(h2:fL 1 iJ H y=some M)(h3:L.length<=1000000)(h4:M.length<=1000000):Bh [.c x,.c y] H=some (.c (.b (decide (L=M)))):=by simp only[Bh,h1,h2];rw[if_pos ⟨h3,h4⟩]
theorem acg:aZ Tryz.prog 45 (λargs H=>(Bh args H).map λv=>(v,H)):=by
 refine iR (s:=Bh) tn Tryz.func45 rfl Tryz.results45 Tryz.ntmps45 ?_;intro args H v h bM hH;unfold Bh at h;split at h
 .rename_i x y;split at h
  .rename_i L M hL hM;split at h
   .rename_i hc;obtain⟨c1,c2⟩:=hc;simp only[ar]at h;subst h;refine⟨by simp,rfl,?_⟩;by_cases hlen:L.length=M.length;rotate_left
    .have ne:decide (L=M)=false:=decide_eq_false λe=>hlen (by rw[e]);rw[ne];have hi:((L.length:Int)=(M.length:Int))=False:=eq_false ω;rcases CA EH hL with⟨rfl,rfl⟩|⟨i,v,rfl,hv,cu⟩<;>rcases CA EH hM with⟨rfl,rfl⟩|⟨j,w,rfl,hw,jA⟩
     .exact absurd rfl hlen
     .have BT:((0:Int)=(M.length:Int))=False:=eq_false (by simp only[dY]at hlen;omega);simp only[go_sem,seval,BT];first|exact aE _|exact⟨rfl,aE _⟩
     .have BT:((L.length:Int)=0)=False:=eq_false (by simp only[dY]at hlen;omega);simp only[go_sem,seval,BT];first|exact aE _|exact⟨rfl,aE _⟩
     .simp only[go_sem,seval,hi];first|exact aE _|exact⟨rfl,aE _⟩
    .have hi:((L.length:Int)=(M.length:Int))=True:=eq_true ω;rcases Nat.eq_zero_or_pos L.length with h0|tK
     .have l0:=uY h0;have m0:=uY (hlen▸h0);subst l0;subst m0;rcases CA EH hL with⟨rfl,_⟩|⟨i,v,rfl,hv,cu⟩<;>rcases CA EH hM with⟨rfl,_⟩|⟨j,w,rfl,hw,jA⟩
      .try simp only[dY]at*
       simp only[go_sem,seval];refine eY 0 (λk=>([(0,.c .aA),(1,.c .aA),(4,.c (.b false)),(5,.c (.i 0))],H)) (Wk.fr (by simp[Am.get])) λk hk=>?_;simp only[go_sem,seval];first|exact aE _|exact⟨rfl,aE _⟩
      .try simp only[dY]at*
       simp only[go_sem,seval];refine eY 0 (λk=>([(0,.c .aA),(1,.c (.sl j 0 w 0)),(4,.c (.b false)),(5,.c (.i 0))],H)) (Wk.fr (by simp[Am.get])) λk hk=>?_;simp only[go_sem,seval];first|exact aE _|exact⟨rfl,aE _⟩
      .try simp only[dY]at*
       simp only[go_sem,seval];refine eY 0 (λk=>([(0,.c (.sl i 0 v 0)),(1,.c .aA),(4,.c (.b false)),(5,.c (.i 0))],H)) (Wk.fr (by simp[Am.get])) λk hk=>?_;simp only[go_sem,seval];first|exact aE _|exact⟨rfl,aE _⟩
      .try simp only[dY]at*
       simp only[go_sem,seval];refine eY 0 (λk=>([(0,.c (.sl i 0 v 0)),(1,.c (.sl j 0 w 0)),(4,.c (.b false)),(5,.c (.i 0))],H)) (Wk.fr (by simp[Am.get])) λk hk=>?_;simp only[go_sem,seval];first|exact aE _|exact⟨rfl,aE _⟩
     .rcases CA EH hL with⟨rfl,rfl⟩|⟨i,v,rfl,hv,cu⟩
      .simp at tK
      rcases CA EH hM with⟨rfl,rfl⟩|⟨j,w,rfl,hw,jA⟩
      .rw[hlen]at tK;simp at tK
      simp only[go_sem,seval,hi];rw[rk];refine⟨{k:Nat//k<=L.length/\L.take k=M.take k},λk=>([(0,.c (.sl i 0 v L.length)),(1,.c (.sl j 0 w M.length)),(4,.c (.b false)),(5,.c (.i k.1))],H),λk=>L.length-k.1,⟨0,ω,rfl⟩,Wk.fr (by simp[Am.get]),?_⟩;rintro⟨k,hk,Tb⟩;by_cases aL:k<L.length
      .have e1:az ((k:Int)+1)=((k+1:Nat):Int):=by rw[j6 ω];omega
       obtain⟨a,ha⟩:∃a,L[k]?=some a:=⟨_,cM aL⟩;obtain⟨b,hb⟩:∃b,M[k]?=some b:=⟨_,cM ω⟩;have g1:=NF Al (L:=L) (k:=k) aL;have g2:=NF Al (L:=M) (k:=k) ω;have g3:=G9 (f:=dE) (g:=Sc.k .u8) (λ_=>rfl) ha;have g4:=G9 (f:=dE) (g:=Sc.k .u8) (λ_=>rfl) hb;rw[<-cu]at g1 g3;rw[<-jA]at g2 g4;rw[Ep]at g1 g2;have BW:(k:Int)<(L.length:Int):=ω
       have aaz:(k:Int)<(M.length:Int):=ω
       have k0:(0:Int)<=(k:Int):=ω
       by_cases N5:a=b
       .subst N5;simp only[go_sem,seval,e1,g1,g2,g3,g4,BW,aaz,k0,hv.symm,hw.symm];refine⟨⟨k+1,ω,?_⟩,by simp only;omega,Wk.fr (by simp[Am.get])⟩;rw[List.take_add_one,List.take_add_one,Tb,ha,hb]
       .have ne:decide (L=M)=false:=decide_eq_false λe=>N5 (by rw[e,hb]at ha;simpa using ha.symm);simp only[go_sem,seval,e1,g1,g2,g3,g4,BW,aaz,k0,hv.symm,hw.symm,N5,ne];first|exact aE _|exact⟨rfl,aE _⟩
      .obtain rfl:k=L.length:=ω
       have ee:decide (L=M)=true:=by
        rw[List.take_length]at Tb;rw[decide_eq_true_eq];rw[Tb];exact bR ω
       (repeat(first|simp only[go_sem,seval,aL,ee]|simp(disch:=omega)only[w0]));first|exact aE _|exact⟨rfl,aE _⟩
   .simp at h
  .simp at h
 .simp at h
structure zP(H K:AH)(t:Pt)(x y:Sc):Prop where
 pi:PI K H.length t x y
 fF:∀k,k<H.length->hg K k=hg H k
 nx:∀i,aW x=some i->H.length<i
 ny:∀i,aW y=some i->H.length<i
theorem zP.new(H:AH):zP H (H++[.own (iy Cp)]) fJ .aA .aA:=⟨acD H,λk hk=>mO hk,λi h=>by simp[aW]at h,λi h=>by simp[aW]at h⟩
theorem zP.step{H K K':AH}{t t':Pt}{x y x' y':Sc}(h:zP H K t x y)(hP:PI K' H.length t' x' y')(hk:Kp K K' H.length x y x' y'):zP H K' t' x' y':=by
 have lt:=h.pi.lt;refine⟨hP,λk vq=>?_,λi hi=>?_,λi hi=>?_⟩
 .rw[hk.fF k ω ω (λe=>by have:=h.nx k e;omega) (λe=>by have:=h.ny k e;omega)];exact h.fF k vq
 .rcases hk.fx i hi with e|e
  .exact h.nx i e
  .omega
 .rcases hk.fy i hi with e|e
  .exact h.ny i e
  .omega
theorem zP.app{H K X:AH}{t:Pt}{x y:Sc}(h:zP H K t x y):zP H (K++X) t x y:=⟨UR h.pi,λk hk=>by rw[mO (by have:=h.pi.lt;omega)];exact h.fF k hk,h.nx,h.ny⟩
theorem zP.sub{H K:AH}{t:Pt}{x y:Sc}(h:zP H K t x y):pQ H K:=aeQ (by have:=h.pi.lt;omega) h.fF
def ptQ:Pt:={fJ with ff:=true}
def tI(L:List Int)(i:Nat):Pt:={ptQ with A:=L.take (min i 16),lo:=decide (16<i)}
def tO(L M:List Int)(j:Nat):Pt:={tI L L.length with B:=M.take j,em:=decide (0<j)}
def tR(L M:List Int)(i:Nat):Pt:={tO L M M.length with lo:=false,A:=(L.take 16).drop i}
theorem ayg{α:Type}{w:Nat}{dc:List Sc->Option α}{H K:AH}{y:Sc}{M:List α}(h:fL w dc H y=some M)(hk:∀k,k<H.length->hg K k=hg H k)(hb:y.aj H.length=true):fL w dc K y=some M:=by
 unfold fL at h|-;split at h
 .exact h
 .rename_i id v n;have aD:id<H.length:=by simpa[Sc.aj]using hb
  simp only[hk id aD];exact h
 .simp at h
theorem amL(n:Int)(j:Nat):n/2^j/2=n/2^(j+1):=by rw[Int.ediv_ediv_of_nonneg (Int.pow_nonneg δ),Int.pow_succ]
theorem aar{n:Int}(h:0<=n/\n<=255)(j:Nat):0<=n/2^j/\n/2^j<=255:=by
 have p:(0:Int)<2^j:=Int.pow_pos δ;exact⟨Int.ediv_nonneg h.1 ω,Int.le_trans (Int.ediv_le_self _ h.1) h.2⟩
def Wl(args:List AV):Option AV:=match args with|[.c (.i n),.c (.i k)]=>if 0<=n/\n<=255/\0<=k/\k<=7 then some (.c (.i (n/2^k.toNat%2)))else none|_=>none
theorem lk{n k}:Wl [.c (.i n),.c (.i k)]=if 0<=n/\n<=255/\0<=k/\k<=7 then some (.c (.i (n/2^k.toNat%2)))else none:=rfl
theorem OQ:cE Tryz.prog 157 Wl:=by
 refine cN tn Tryz.func157 rfl Tryz.results157 Tryz.ntmps157 ?_;intro args v h;unfold Wl at h;split at h
 .rename_i n k;split at h
  .rename_i hc;simp only[ar]at h;subst h;refine⟨by simp only[cZ,dY];decide,rfl,rfl,?_⟩;obtain⟨h1,h2,h3,h4⟩:=hc;obtain⟨m,rfl⟩:=Int.eq_ofNat_of_zero_le h3;rw[aO];(repeat(first|simp(maxSteps:=9^9)only[go_sem,seval]|simp(disch:=omega)only[aq,aK,aJ,aI,aH]));refine eY m (λj=>([(0,.c (.i (n/2^j))),(1,.c (.i m)),(4,.c (.i 0)),(5,.c (.i j))],[])) (Wk.fr (by simp[Am.get])) λj hj=>?_;have e1:az ((j:Int)+1)=((j+1:Nat):Int):=by rw[j6 ω];omega
   obtain⟨r1,r2⟩:=aar ⟨h1,h2⟩ j;have e2:(n/2^j).tdiv 2=n/2^(j+1):=by rw[Int.tdiv_eq_ediv_of_nonneg r1,amL]
   obtain⟨r3,r4⟩:=aar ⟨h1,h2⟩ (j+1);have e3:az (n/2^(j+1))=n/2^(j+1):=j6 ω;by_cases aL:j<m
   .have hI:(j:Int)<(m:Int):=ω
    (repeat(first|simp(maxSteps:=9^9)only[go_sem,seval,e1,e2,e3,hI]|simp(disch:=omega)only[aq,aK,aJ,aI,aH]));exact⟨j+1,ω,ω,Wk.fr (by simp[Am.get])⟩
   .obtain rfl:j=m:=ω
    have e4:(n/2^j).tmod 2=n/2^j%2:=Gq r1;(repeat(first|simp only[go_sem,seval,e4]|simp(disch:=omega)only[w0]))
  .simp at h
 .simp at h
theorem yC:∀n:Nat,n<256->(decide ((n:Int)/2^0%2=1)=decide (¬cd n 1=0))/\(decide ((n:Int)/2^1%2=1)=decide (¬cd n 2=0))/\(decide ((n:Int)/2^2%2=1)=decide (¬cd n 4=0))/\(decide ((n:Int)/2^4%2=1)=decide (¬cd n 16=0))/\(decide ((n:Int)/2^7%2=1)=decide (¬cd n 128=0))/\(decide ((n:Int)/2^1%2=0)=decide (cd n 2=0))/\(n:Int)%16=cd n 15/\(n:Int)%32=cd n 31/\(decide ((n:Int)%2=1)=decide (¬cd n 1=0))/\(decide ((n:Int)/2^4%2=0)=decide (cd n 16=0))/\16*((n:Int)/2^1%2)+32*((n:Int)/2^0%2)+64*((n:Int)/2^2%2)+128*((n:Int)/2^3%2)=(if cd n 16=0 then 16*((n:Int)/2^1%2)+32*((n:Int)/2^0%2)+64*((n:Int)/2^2%2)+128*((n:Int)/2^3%2)else Cf n):=by decide+kernel
def ft(n:Int):Prop:=0<=n/\n<=255
instance (n:Int):Decidable (ft n):=inferInstanceAs(Decidable (0<=n/\n<=255))
theorem yD(h:ft n):∃k:Nat,k<256/\n=(k:Int):=⟨n.toNat,by unfold ft at h;omega,by unfold ft at h;omega⟩
theorem bq0(h:ft n):(n/2^0%2=1)=(¬cd n 1=0):=by obtain⟨k,hk,rfl⟩:=yD h;exact propext (decide_eq_decide.1 (yC k hk).1)
theorem YB(h:ft n):(n/2^1%2=1)=(¬cd n 2=0):=by obtain⟨k,hk,rfl⟩:=yD h;exact propext (decide_eq_decide.1 (yC k hk).2.1)
theorem bq2(h:ft n):(n/2^2%2=1)=(¬cd n 4=0):=by obtain⟨k,hk,rfl⟩:=yD h;exact propext (decide_eq_decide.1 (yC k hk).2.2.1)
theorem YC(h:ft n):(n/2^4%2=1)=(¬cd n 16=0):=by obtain⟨k,hk,rfl⟩:=yD h;exact propext (decide_eq_decide.1 (yC k hk).2.2.2.1)
theorem YD(h:ft n):(n/2^7%2=1)=(¬cd n 128=0):=by obtain⟨k,hk,rfl⟩:=yD h;exact propext (decide_eq_decide.1 (yC k hk).2.2.2.2.1)
theorem bz1(h:ft n):(n/2^1%2=0)=(cd n 2=0):=by obtain⟨k,hk,rfl⟩:=yD h;exact propext (decide_eq_decide.1 (yC k hk).2.2.2.2.2.1)
theorem bz4(h:ft n):(n/2^4%2=0)=(cd n 16=0):=by obtain⟨k,hk,rfl⟩:=yD h;exact propext (decide_eq_decide.1 (yC k hk).2.2.2.2.2.2.2.2.2.1)
theorem m16(h:ft n):n.tmod 16=cd n 15:=by obtain⟨k,hk,rfl⟩:=yD h;rw[Gq ω];exact(yC k hk).2.2.2.2.2.2.1
theorem m32(h:ft n):n.tmod 32=cd n 31:=by obtain⟨k,hk,rfl⟩:=yD h;rw[Gq ω];exact(yC k hk).2.2.2.2.2.2.2.1
theorem m2q(h:ft n):(n.tmod 2=1)=(¬cd n 1=0):=by obtain⟨k,hk,rfl⟩:=yD h;rw[Gq ω];exact propext (decide_eq_decide.1 (yC k hk).2.2.2.2.2.2.2.2.1)
theorem mdm(h:ft n)(h0:¬cd n 16=0):16*(n/2^1%2)+32*(n/2^0%2)+64*(n/2^2%2)+128*(n/2^3%2)=Cf n:=by
 obtain⟨k,hk,rfl⟩:=yD h;have:=(yC k hk).2.2.2.2.2.2.2.2.2.2;rw[if_neg h0]at this;exact this
def aU(t:Pt)(x y:Sc):List Sc:=[.i t.e,.i t.l,.i t.m,.i t.s,.i t.dl,.i t.dm,.b t.ff,.b t.lo,.b t.em,x,y]
def zj(H:AH):List Sc->Option (Pt×Sc×Sc)
 |[.i e,.i l,.i m,.i s,.i dl,.i dm,.b ff,.b lo,.b em,x,y]=>match fL 1 iJ H x,fL 1 iJ H y with
   |some A,some B=>if ft e/\ft l/\ft m/\ft s/\ft dl/\ft dm/\A.length<=1000000/\B.length<=1000000 then some (⟨e,l,m,s,dl,dm,ff,lo,em,A,B⟩,x,y)else none|_,_=>none
 |_=>none
structure jd(H:AH)(t:Pt)(x y:Sc):Prop where
 hx:fL 1 iJ H x=some t.A
 hy:fL 1 iJ H y=some t.B
 e:ft t.e
 l:ft t.l
 m:ft t.m
 s:ft t.s
 dl:ft t.dl
 dm:ft t.dm
 la:t.A.length<=1000000
 lb:t.B.length<=1000000
theorem FQ{c:List Sc}{t:Pt}(h:zj H c=some (t,x,y)):c=aU t x y/\jd H t x y:=by
 unfold zj at h;split at h
 .split at h
  .rename_i A B hA hB;split at h
   .rename_i hc;simp only[ar,bD]at h;obtain⟨rfl,rfl,rfl⟩:=h;exact⟨rfl,hA,hB,hc.1,hc.2.1,hc.2.2.1,hc.2.2.2.1,hc.2.2.2.2.1,hc.2.2.2.2.2.1,hc.2.2.2.2.2.2.1,hc.2.2.2.2.2.2.2⟩
   .simp at h
  .simp at h
 .simp at h
theorem Dz{t:Pt}(h:jd H t x y):zj H (aU t x y)=some (t,x,y):=by
 unfold zj aU;simp only[h.hx,h.hy];rw[if_pos ⟨h.e,h.l,h.m,h.s,h.dl,h.dm,h.la,h.lb⟩]
variable {A:List Int}
theorem dx(h:fL 1 iJ H x=some A):(x=.aA/\A=[])\/∃i v,x=.sl i 0 v A.length/\v=(hg H i).row/\(hg H i).cells=A.flatMap dE:=CA EH h
theorem ayh(h:fL 1 iJ H x=some A):∀e,oJ (.sl e) (.c x)=some (.c (.i A.length)):=by
 intro e;rcases dx h with⟨rfl,rfl⟩|⟨i,v,rfl,_,_⟩<;>rfl
theorem jO(h:fL 1 iJ H x=some A):Sc.one x=true:=by rcases dx h with⟨rfl,rfl⟩|⟨i,v,rfl,_,_⟩<;>rfl
def F8(args:List AV)(H:AH):Option AV:=match args with
 |[.g c]=>match zj H c with
   |some (t,_,_)=>some (.c (.i (dI t)))|none=>none
 |_=>none
theorem aef{t:Pt}(h:jd H t x y):F8 [.g (aU t x y)] H=some (.c (.i (dI t))):=by simp only[F8,Dz h]
theorem ab7:aZ Tryz.prog 107 (λargs H=>(F8 args H).map λv=>(v,H)):=by
 refine iR (s:=F8) (tu OQ tn) Tryz.func107 rfl Tryz.results107 Tryz.ntmps107 ?_;intro args H v h bM hH;unfold F8 at h;split at h
 .rename_i c;split at h
  .rename_i t x y hr;obtain⟨rfl,ok⟩:=FQ hr;simp only[ar]at h;subst h;refine⟨by simp,rfl,?_⟩;have b2:=bq2 ok.e;have b0:=bq0 ok.e;have b1:=YB ok.e;have b2':(t.e/4%2=1)=¬cd t.e 4=0:=b2;have b1':(t.e/2%2=1)=¬cd t.e 2=0:=b1;have Yn:(t.e/1%2=1)=¬cd t.e 1=0:=b0;have ahA:(t.e%2=1)=¬cd t.e 1=0:=by rw[<-Yn,Int.ediv_one]
   have r:0<=t.e/\t.e<=255:=ok.e;have xl:=ayh ok.hx;have n2:(2:Int).toNat=2:=rfl;have n0:(0:Int).toNat=0:=rfl;have n1:(1:Int).toNat=1:=rfl;have ox:=jO ok.hx;have oy:=jO ok.hy;unfold dI vS iz;by_cases h4:cd t.e 4=0<;>by_cases h1:cd t.e 1=0<;>by_cases h2:cd t.e 2=0<;>cases sB:t.lo<;>cases SN:t.em<;>by_cases hz:0<t.A.length;all_goals have AJ:(0:Int)<(t.A.length:Int)↔0<t.A.length:=ω
   all_goals(repeat(first|simp only[go_sem,seval,aU,lk,r.1,r.2,n2,n0,n1,b2,b0,b1,b2',b1',Yn,ahA,h4,h1,h2,sB,SN,hz,AJ,xl,ox,oy]|simp(disch:=omega)only[w0]))
   all_goals first|exact aB _ _|exact⟨by simp,aB _ _⟩
  .simp at h
 .simp at h
theorem Ie{H:AH}{t:Pt}{x y:Sc}(h:(aU t x y).all (Sc.aj H.length)=true):x.aj H.length=true/\y.aj H.length=true:=by
 simp only[aU,bG,dO,cX,aQ]at h;exact⟨h.2.2.2.2.2.2.2.2.2.1,h.2.2.2.2.2.2.2.2.2.2⟩
variable {b:Int}
theorem w8(h:ft b):IntKind.u8.wrap b=b:=by
 unfold ft at h;simp only[IntKind.wrap,IntKind.bits,IntKind.signed,nZ];simp;omega
def yc(args:List AV)(H:AH):Option (AV×AH):=match args with
 |[.g c,.c (.i b)]=>match zj H c with
   |some (t,x,y)=>if ft b then(if(iY t b).2=false then some (.t [.g (aU (iY t b).1 x y),.c (.b false)],H++[.own (aU (iY t b).1 x y),.own (aU (iY t b).1 x y)])else some (.t [.g (aU (iY t b).1 (.sl (H.length+2) 0 (t.A.length+1) (t.A.length+1)) y),.c (.b true)],H++[.own (aU (iY t b).1 (.sl (H.length+2) 0 (t.A.length+1) (t.A.length+1)) y),.own (aU (iY t b).1 (.sl (H.length+2) 0 (t.A.length+1) (t.A.length+1)) y),.vec 1 (t.A.flatMap dE++[.k .u8 b]),.vec 1 [.k .u8 b]]))else none|none=>none
 |_=>none
theorem TK(args:List AV)(H:AH)(v:AV)(H1:AH)(h:yc args H=some (v,H1)):H.length<=H1.length:=by
 unfold yc at h;repeat' split at h
 all_goals simp at h
 all_goals rw[<-h.2];simp
theorem ab8:aZ Tryz.prog 159 yc:=by
 refine fU (s:=yc) tn Tryz.func159 rfl Tryz.results159 Tryz.ntmps159 TK ?_;intro args H v H1 h bM hH;unfold yc at h;split at h
 .rename_i c b;split at h
  .rename_i t x y hr;obtain⟨rfl,ok⟩:=FQ hr;split at h
   .rename_i hb;refine⟨by simp,?_⟩;have Aw:(aU t x y).all (Sc.aj H.length)=true:=by simp only[bG,AV.aj,aQ]at bM;exact bM.1
    obtain⟨bx,bY⟩:=Ie Aw;have la:=ok.la;have wb:=w8 hb;have one:=G2 t.A;have len:=nj t.A;have tk:(t.A.flatMap dE).take t.A.length=t.A.flatMap dE:=bR (by rw[nj];exact aC _);have el:(t.A++[b]).flatMap dE=t.A.flatMap dE++[.k .u8 b]:=by rw[ND];rfl
    have Fs:t.A.length<=1099511627775:=ω
    have TS:t.A.length<=1099511627776:=ω
    rcases dx ok.hx with⟨rfl,hA⟩|⟨i,v',rfl,hv,cu⟩<;>rcases dx ok.hy with⟨rfl,hB⟩|⟨i2,v2,rfl,jn,jA⟩;all_goals first
 |(have li:i<H.length:=(by simpa[Sc.aj]using bx);have gi:∀X,hg (H++X) i=hg H i:=(λX=>mO li);have hv:=hv.symm)|(have li:True:=trivial;have gi:True:=trivial;have hv:True:=trivial;have cu:True:=trivial)
    all_goals cases hf:t.ff
    all_goals by_cases uB:Ct t<=t.A.length
    all_goals unfold iY at h
    all_goals simp only[uB,if_true,if_false,Bool.true_eq_false]at h
    all_goals simp only[ar,bD]at h
    all_goals obtain⟨rfl,rfl⟩:=h
    all_goals unfold Ct at uB
    all_goals simp only[hf,if_true,dC,if_false]at uB
    all_goals first|(simp only[hA,dY]at uB one len tk el;omega)|skip
    all_goals first|(rw[hA]at el|-;simp only[go_sem,seval,aU,hf,wb,uB,dY,List.flatMap_nil])|(repeat(first|simp only[go_sem,seval,aU,hf,wb,one,len,el,gi,hv,cu,tk,uB,Fs,TS]|simp(disch:=omega)only[w0]))
    all_goals first|exact aN
   .simp at h
  .simp at h
 .simp at h
variable {X:AH}
theorem rM(h:fL 1 iJ H x=some A)(hb:x.aj H.length=true):fL 1 iJ (H++X) x=some A:=ayg h (λ_ hk=>mO hk) hb
theorem Cu{t:Pt}(h:jd H t x y)(hx:x.aj H.length=true)(hy:y.aj H.length=true):jd (H++X) t x y:=⟨rM h.hx hx,rM h.hy hy,h.e,h.l,h.m,h.s,h.dl,h.dm,h.la,h.lb⟩
def sM(t:Pt)(off:BitVec 64):Bool:=decide (off=0#64)&&decide (cd t.l 128=0)&&decide (0<t.A.length)
def Bf(args:List AV)(H:AH):Option (AV×AH):=match args with
 |[.g c,.c (.u off)]=>match zj H c with
   |some (t,x,y)=>if sM t off=true then some (.t [.g (aU (fC t off).1 (.sl (H.length+2) 0 (t.A.length-1) (t.A.length-1)) y),.c (.i (fC t off).2.1),.c (.b (fC t off).2.2)],H++[.own (aU (fC t off).1 (.sl (H.length+2) 0 (t.A.length-1) (t.A.length-1)) y),.own (aU (fC t off).1 (.sl (H.length+2) 0 (t.A.length-1) (t.A.length-1)) y),.vec 1 (t.A.tail.flatMap dE)])else some (.t [.g (aU (fC t off).1 x y),.c (.i (fC t off).2.1),.c (.b (fC t off).2.2)],H++[.own (aU (fC t off).1 x y),.own (aU (fC t off).1 x y)])|none=>none
 |_=>none
theorem aox(args:List AV)(H:AH)(v:AV)(H1:AH)(h:Bf args H=some (v,H1)):H.length<=H1.length:=by
 unfold Bf at h;repeat' split at h
 all_goals simp at h
 all_goals rw[<-h.2];simp
theorem aid(t:Pt):dI t=6\/dI t=4\/dI t=2\/dI t=1:=by
 unfold dI vS;repeat' split
 all_goals simp
theorem azD(t:Pt):AZ (dI t) 192=az (dI t+192):=by rcases aid t with h|h|h|h<;>rw[h]<;>decide
theorem ayz(lo:Bool)(n:Nat):stateT lo n=(if lo=true then az ((if 0<n then az (96+1)else 96)+2)else(if 0<n then az (96+1)else 96)):=by
 unfold stateT;by_cases h:0<n
 .rw[if_pos h,if_pos h];cases lo<;>decide
 .rw[if_neg h,if_neg h];cases lo<;>decide
theorem asM:aZ Tryz.prog 99 Bf:=by
 refine fU (s:=Bf) (tu OQ (tq ab7 tn)) Tryz.func99 rfl Tryz.results99 Tryz.ntmps99 aox ?_;intro args H v H1 h bM hH;unfold Bf at h;split at h
 .rename_i c off;split at h
  .rename_i t x y hr;obtain⟨rfl,ok⟩:=FQ hr;refine⟨by simp,?_⟩;have Aw:(aU t x y).all (Sc.aj H.length)=true:=by simp only[bG,AV.aj,aQ]at bM;exact bM.1
   obtain⟨bx,bY⟩:=Ie Aw;have la:=ok.la;have ca:∀X,F8 [.g (aU t x y)] (H++X)=some (.c (.i (dI t))):=λX=>aef (Cu ok bx bY);have b7:=YD ok.l;have b4:=bz4 ok.m;have rl:0<=t.l/\t.l<=255:=ok.l;have rm:0<=t.m/\t.m<=255:=ok.m;have n7:(7:Int).toNat=7:=rfl;have n4:(4:Int).toNat=4:=rfl;have n3:(3:Int).toNat=3:=rfl;have n2:(2:Int).toNat=2:=rfl;have n0:(0:Int).toNat=0:=rfl;have n1:(1:Int).toNat=1:=rfl;have ts:=azD t;have ss:=ayz t.lo t.A.length;generalize hcp:dI t=cp at ca ts;have len:=nj t.A;have h0l:(0:Int)<(t.A.length:Int)↔0<t.A.length:=ω
   have h0e:((t.A.length:Int)=0)=¬0<t.A.length:=by apply propext;omega
   simp only[aU]at ca;rcases OM off with h7|rfl|rfl|rfl|rfl|rfl|rfl|rfl|rfl
   .have rx:sM t off=false:=by
     unfold sM;have:¬off=0#64:=λe=>by rw[e]at h7;exact absurd h7 δ
     rw[decide_eq_false this];rfl
    have rp:fC t off=(t,0,false):=if_pos h7;have e0:(off=0#64)=False:=eq_false λe=>by rw[e]at h7;exact absurd h7 δ
    have e1:(off=1#64)=False:=eq_false λe=>by rw[e]at h7;exact absurd h7 δ
    have e2:(off=2#64)=False:=eq_false λe=>by rw[e]at h7;exact absurd h7 δ
    have e3:(off=3#64)=False:=eq_false λe=>by rw[e]at h7;exact absurd h7 δ
    have e4:(off=4#64)=False:=eq_false λe=>by rw[e]at h7;exact absurd h7 δ
    have e5:(off=5#64)=False:=eq_false λe=>by rw[e]at h7;exact absurd h7 δ
    have e6:(off=6#64)=False:=eq_false λe=>by rw[e]at h7;exact absurd h7 δ
    have e7:(off=7#64)=False:=eq_false λe=>by rw[e]at h7;exact absurd h7 δ
    rw[rx,rp]at h;simp only[dC,if_false,if_true,ar,bD]at h;obtain⟨rfl,rfl⟩:=h;rcases dx ok.hx with⟨rfl,hA⟩|⟨i,v',rfl,hv,cu⟩<;>rcases dx ok.hy with⟨rfl,hB⟩|⟨i2,v2,rfl,jn,jA⟩;all_goals simp only[go_sem,seval,-mG,aU,lk,rl,n7,b7,e0,e1,e2,e3,e4,e5,e6,e7]
    all_goals first|exact aN|exact⟨⟨λe=>absurd e ω,λe=>absurd e ω⟩,aN⟩|exact⟨λe=>absurd e ω,aN⟩|exact⟨by(repeat' apply cn)<;>(intro e;omega),aN⟩
   .by_cases hl:cd t.l 128=0;rotate_left
    .have rx:sM t 0#64=false:=by unfold sM;rw[decide_eq_false hl];rfl
     have rp:fC t 0#64=(t,t.dl,true):=by unfold fC;rw[if_neg δ,if_pos rfl,if_neg hl]
     rw[rx,rp]at h;simp only[dC,if_false,ar,bD]at h;obtain⟨rfl,rfl⟩:=h;rcases dx ok.hx with⟨rfl,hA⟩|⟨i,v',rfl,hv,cu⟩<;>rcases dx ok.hy with⟨rfl,hB⟩|⟨i2,v2,rfl,jn,jA⟩;all_goals simp only[go_sem,seval,-mG,aU,lk,rl,n7,b7,hl]
     all_goals first|exact aN|exact⟨⟨λe=>absurd e ω,λe=>absurd e ω⟩,aN⟩|exact⟨λe=>absurd e ω,aN⟩|exact⟨by(repeat' apply cn)<;>(intro e;omega),aN⟩
    have rp:fC t 0#64=((sW t).1,(sW t).2,true):=by unfold fC;rw[if_neg δ,if_pos rfl,if_pos hl]
    have rx:sM t 0#64=decide (0<t.A.length):=by unfold sM;rw[decide_eq_true hl];simp
    rw[rx,rp]at h;by_cases hz:0<t.A.length;rotate_left
    .have tk:sW t=(t,0):=by
      have:t.A=[]:=uY ω;unfold sW;rw[this]
     rw[decide_eq_false hz,tk]at h;simp only[dC,if_false,ar,bD]at h;obtain⟨rfl,rfl⟩:=h;have HB:((t.A.length:Int)=0)=True:=eq_true ω;rcases dx ok.hx with⟨rfl,hA⟩|⟨i,v',rfl,hv,cu⟩<;>rcases dx ok.hy with⟨rfl,hB⟩|⟨i2,v2,rfl,jn,jA⟩;all_goals simp only[go_sem,seval,-mG,aU,lk,rl,n7,b7,hl,HB]
     all_goals first|exact aN|exact⟨⟨λe=>absurd e ω,λe=>absurd e ω⟩,aN⟩|exact⟨λe=>absurd e ω,aN⟩|exact⟨by(repeat' apply cn)<;>(intro e;omega),aN⟩
    obtain⟨a,A',ER⟩:∃a A',t.A=a::A':=by cases hh:t.A with
 |nil=>rw[hh]at hz;simp at hz|cons a A'=>exact⟨a,A',rfl⟩
    have tk:sW t=({t with A:=A'},a):=by unfold sW;rw[ER]
    rw[decide_eq_true hz,tk]at h;simp only[if_true,ar,bD]at h;obtain⟨rfl,rfl⟩:=h;have ll:t.A.length=A'.length+1:=by rw[ER];rfl
    rcases dx ok.hx with⟨rfl,hA⟩|⟨i,v',rfl,hv,cu⟩
    .rw[hA]at hz;simp at hz
    have li:i<H.length:=by simpa[Sc.aj]using bx
    have gi:∀X,hg (H++X) i=hg H i:=λX=>mO li;rw[ER]at cu;have amU:(hg H i).cells=.k .u8 a::A'.flatMap dE:=cu;have hv:=hv.symm;have nX:(A'.flatMap dE).take A'.length=A'.flatMap dE:=bR (by rw[nj];exact aC _);have l2:=nj A';have o2:=G2 A';have Fs:A'.length<=1099511627776:=ω
    have ez:((A'.length:Int)+1=0)=False:=eq_false ω;rw[ER];rw[ll]at*;rcases dx ok.hy with⟨rfl,hB⟩|⟨i2,v2,rfl,jn,jA⟩;all_goals(repeat(first|simp only[go_sem,seval,-mG,aU,lk,rl,n7,b7,hl,ez,gi,hv,amU,nX,l2,o2,Fs,List.tail_cons,Nat.add_sub_cancel]|simp(disch:=omega)only[w0]))
    all_goals first|exact aN|exact⟨⟨λe=>absurd e ω,λe=>absurd e ω⟩,aN⟩|exact⟨λe=>absurd e ω,aN⟩|exact⟨by(repeat' apply cn)<;>(intro e;omega),aN⟩
   .have rx:sM t 1#64=false:=rfl;have rp:fC t 1#64=(t,(if cd t.l 128=0 then t.e else t.dm),true):=rfl;rw[rx,rp]at h;simp only[dC,if_false,if_true,ar,bD]at h;obtain⟨rfl,rfl⟩:=h;by_cases hl:cd t.l 128=0;all_goals rcases dx ok.hx with⟨rfl,hA⟩|⟨i,v',rfl,hv,cu⟩<;>rcases dx ok.hy with⟨rfl,hB⟩|⟨i2,v2,rfl,jn,jA⟩
    all_goals simp only[go_sem,seval,-mG,aU,lk,rl,n7,b7,hl]
    all_goals first|exact aN|exact⟨⟨λe=>absurd e ω,λe=>absurd e ω⟩,aN⟩|exact⟨λe=>absurd e ω,aN⟩|exact⟨by(repeat' apply cn)<;>(intro e;omega),aN⟩
   .have rx:sM t 2#64=false:=rfl;have rp:fC t 2#64=(if cp=2 then{t with em:=false}else t,if t.ff=true then az (cp+192)else cp,true):=by
     have:fC t 2#64=((w5 t).1,(w5 t).2,true):=rfl;rw[this];unfold w5;rw[hcp,ts]
    rw[rx,rp]at h;by_cases h2:cp=2<;>cases hf:t.ff;all_goals rw[hf]at ca
    all_goals simp only[h2,hf,dC,if_false,if_true,ar,bD]at h
    all_goals obtain⟨rfl,rfl⟩:=h
    all_goals rcases dx ok.hx with⟨rfl,hA⟩|⟨i,v',rfl,hv,cu⟩<;>rcases dx ok.hy with⟨rfl,hB⟩|⟨i2,v2,rfl,jn,jA⟩
    all_goals simp only[go_sem,seval,-mG,aU,lk,rl,n7,b7,ca,h2,hf]
    all_goals first|exact aN|exact⟨⟨λe=>absurd e ω,λe=>absurd e ω⟩,aN⟩|exact⟨λe=>absurd e ω,aN⟩|exact⟨by(repeat' apply cn)<;>(intro e;omega),aN⟩
   .have rx:sM t 3#64=false:=rfl;have rp:fC t 3#64=(t,t.l,true):=rfl;rw[rx,rp]at h;simp only[dC,if_false,if_true,ar,bD]at h;obtain⟨rfl,rfl⟩:=h;rcases dx ok.hx with⟨rfl,hA⟩|⟨i,v',rfl,hv,cu⟩<;>rcases dx ok.hy with⟨rfl,hB⟩|⟨i2,v2,rfl,jn,jA⟩;all_goals simp only[go_sem,seval,-mG,aU,lk,rl,n7,b7]
    all_goals first|exact aN|exact⟨⟨λe=>absurd e ω,λe=>absurd e ω⟩,aN⟩|exact⟨λe=>absurd e ω,aN⟩|exact⟨by(repeat' apply cn)<;>(intro e;omega),aN⟩
   .have rx:sM t 4#64=false:=rfl;have rp:fC t 4#64=(t,t.m,true):=rfl;rw[rx,rp]at h;simp only[dC,if_false,if_true,ar,bD]at h;obtain⟨rfl,rfl⟩:=h;rcases dx ok.hx with⟨rfl,hA⟩|⟨i,v',rfl,hv,cu⟩<;>rcases dx ok.hy with⟨rfl,hB⟩|⟨i2,v2,rfl,jn,jA⟩;all_goals simp only[go_sem,seval,-mG,aU,lk,rl,n7,b7]
    all_goals first|exact aN|exact⟨⟨λe=>absurd e ω,λe=>absurd e ω⟩,aN⟩|exact⟨λe=>absurd e ω,aN⟩|exact⟨by(repeat' apply cn)<;>(intro e;omega),aN⟩
   .have rx:sM t 5#64=false:=rfl;have rp:fC t 5#64=({t with lo:=false},stateT t.lo t.A.length,true):=rfl;rw[rx,rp,ss]at h;by_cases hz:0<t.A.length<;>cases hf:t.lo;all_goals simp only[hz,hf,dC,if_false,if_true,ar,bD]at h
    all_goals obtain⟨rfl,rfl⟩:=h
    all_goals have HB:((0:Int)<(t.A.length:Int))=(0<t.A.length):=by apply propext;omega
    all_goals rcases dx ok.hx with⟨rfl,hA⟩|⟨i,v',rfl,hv,cu⟩
    all_goals first
 |(rw[hA]at hz;simp at hz;done)|skip
    all_goals rcases dx ok.hy with⟨rfl,hB⟩|⟨i2,v2,rfl,jn,jA⟩
    all_goals simp only[go_sem,seval,-mG,aU,lk,rl,n7,b7,hz,HB,hf]
    all_goals first|exact aN|exact⟨⟨λe=>absurd e ω,λe=>absurd e ω⟩,aN⟩|exact⟨λe=>absurd e ω,aN⟩|exact⟨by(repeat' apply cn)<;>(intro e;omega),aN⟩
   .have rx:sM t 6#64=false:=rfl;have rp:fC t 6#64=(t,Cf t.m,true):=rfl;rw[rx,rp]at h;simp only[dC,if_false,if_true,ar,bD]at h;obtain⟨rfl,rfl⟩:=h;by_cases NR:cd t.m 16=0
    .have m0:Cf t.m=176:=if_pos NR;rw[m0];rcases dx ok.hx with⟨rfl,hA⟩|⟨i,v',rfl,hv,cu⟩<;>rcases dx ok.hy with⟨rfl,hB⟩|⟨i2,v2,rfl,jn,jA⟩;all_goals simp only[go_sem,seval,-mG,aU,lk,rl,rm,n7,n4,b7,b4,NR]
     all_goals first|exact aN|exact⟨⟨λe=>absurd e ω,λe=>absurd e ω⟩,aN⟩|exact⟨λe=>absurd e ω,aN⟩|exact⟨by(repeat' apply cn)<;>(intro e;omega),aN⟩
    .have md:=mdm ok.m NR;have q:∀k:Nat,0<=t.m/2^k%2/\t.m/2^k%2<=1:=λk=>by omega
     obtain⟨q1,q1'⟩:=q 1;obtain⟨q0,q0'⟩:=q 0;obtain⟨q2,q2'⟩:=q 2;obtain⟨q3,q3'⟩:=q 3;rw[<-md];generalize hq1:t.m/2^1%2=p1 at*;generalize hq0:t.m/2^0%2=p0 at*;generalize hq2:t.m/2^2%2=p2 at*;generalize Ok:t.m/2^3%2=p3 at*;rcases dx ok.hx with⟨rfl,hA⟩|⟨i,v',rfl,hv,cu⟩<;>rcases dx ok.hy with⟨rfl,hB⟩|⟨i2,v2,rfl,jn,jA⟩;all_goals(repeat(first|simp only[go_sem,seval,-mG,aU,lk,rl,rm,n7,n4,n3,n2,n1,n0,b7,b4,NR,hq1,hq0,hq2,Ok]|simp(disch:=omega)only[w0]))
     all_goals first|exact aN|exact⟨⟨λe=>absurd e ω,λe=>absurd e ω⟩,aN⟩|exact⟨λe=>absurd e ω,aN⟩|exact⟨by(repeat' apply cn)<;>(intro e;omega),aN⟩
   .have rx:sM t 7#64=false:=rfl;have rp:fC t 7#64=(t,t.s,true):=rfl;rw[rx,rp]at h;simp only[dC,if_false,if_true,ar,bD]at h;obtain⟨rfl,rfl⟩:=h;rcases dx ok.hx with⟨rfl,hA⟩|⟨i,v',rfl,hv,cu⟩<;>rcases dx ok.hy with⟨rfl,hB⟩|⟨i2,v2,rfl,jn,jA⟩;all_goals simp only[go_sem,seval,-mG,aU,lk,rl,n7,b7]
    all_goals first|exact aN|exact⟨⟨λe=>absurd e ω,λe=>absurd e ω⟩,aN⟩|exact⟨λe=>absurd e ω,aN⟩|exact⟨by(repeat' apply cn)<;>(intro e;omega),aN⟩
  .simp at h
 .simp at h
theorem Nj{t:Pt}(ok:jd H t x y)(hb:ft b)(bx:x.aj H.length=true)(bY:y.aj H.length=true)(P Q:ae):∃x' X,yc [.g (aU t x y),.c (.i b)] (H++[P,Q])=some (.t [.g (aU (iY t b).1 x' y),.c (.b (iY t b).2)],H++(P::Q::X))/\(x'=x\/∃i v n,x'=.sl i 0 v n/\H.length<=i)/\fL 1 iJ (H++(P::Q::X)) x'=some (iY t b).1.A/\Sc.one x'=true/\x'.aj (H++(P::Q::X)).length=true:=by
 have ok':=Cu (X:=[P,Q]) ok bx bY;have lH:(H++[P,Q]).length=H.length+2:=by simp
 by_cases hr:Ct t<=t.A.length
 .have e:iY t b=({t with lo:=true},false):=if_pos hr;refine⟨x,[.own (aU {t with lo:=true} x y),.own (aU {t with lo:=true} x y)],?_,.inl rfl,?_,jO ok.hx,Sc.gJ bx (by simp)⟩
  .simp only[yc,Dz ok',e];rw[if_pos hb,if_pos trivial];simp
  .rw[e];exact rM ok.hx bx
 .have e:iY t b=({t with A:=t.A++[b]},true):=if_neg hr;refine⟨.sl (H.length+4) 0 (t.A.length+1) (t.A.length+1),[.own (aU {t with A:=t.A++[b]} (.sl (H.length+4) 0 (t.A.length+1) (t.A.length+1)) y),.own (aU {t with A:=t.A++[b]} (.sl (H.length+4) 0 (t.A.length+1) (t.A.length+1)) y),.vec 1 (t.A.flatMap dE++[.k .u8 b]),.vec 1 [.k .u8 b]],?_,.inr ⟨_,_,_,rfl,ω⟩,?_,rfl,by simp[Sc.aj]⟩
  .simp only[yc,Dz ok',e];rw[if_pos hb,if_neg (by simp),lH];simp
  .rw[e];have g:∀P Q R S V W:ae,hg (H++[P,Q,R,S,V,W]) (H.length+4)=V:=λP Q R S V W=>by simp[hg,b9]
   refine D6 Al EI (L:=t.A++[b]) ?_ (by simp) ?_
   .rw[g];simp only[ae.row,cF,nj,cZ,dY]
   .rw[g,ND];rfl
def Be(args:List AV)(H:AH):Option (AV×AH):=match args with
 |[.g c,.c (.i b)]=>match zj H c with
   |some (t,x,y)=>if ft b then(if cd t.m 16=0 then match yc [.g c,.c (.i b)] (H++[.own c,.own (aU fJ .aA .aA)])with|some (.t [.g c',.c (.b q)],K)=>some (.t [.g c',.c (.b q)],K.set (H.length+1) (.own c'))|_=>none else some (.t [.g c,.c (.b false)],H++[.own c,.own c]))else none|none=>none
 |_=>none
theorem aow(args:List AV)(H:AH)(v:AV)(H1:AH)(h:Be args H=some (v,H1)):H.length<=H1.length:=by
 unfold Be at h;repeat' split at h
 all_goals simp at h
 .rename_i hc;have:=TK _ _ _ _ hc;rw[<-h.2];simp at this|-;omega
 .rw[<-h.2];simp
theorem asE:aZ Tryz.prog 105 Be:=by
 refine fU (s:=Be) (tu OQ (tp ab8 tn)) Tryz.func105 rfl Tryz.results105 Tryz.ntmps105 aow ?_;intro args H v H1 h bM hH;unfold Be at h;split at h
 .rename_i c b;split at h
  .rename_i t x y hr;obtain⟨rfl,ok⟩:=FQ hr;split at h
   .rename_i hb;refine⟨by simp,?_⟩;have Aw:(aU t x y).all (Sc.aj H.length)=true:=by simp only[bG,AV.aj,aQ]at bM;exact bM.1
    obtain⟨bx,bY⟩:=Ie Aw;have b4:=YC ok.m;have rm:0<=t.m/\t.m<=255:=ok.m;have n4:(4:Int).toNat=4:=rfl;split at h
    .rename_i hm;obtain⟨x',X,e1,e2,e3,e4⟩:=Nj ok hb bx bY (.own (aU t x y)) (.own (aU fJ .aA .aA));rw[e1]at h;simp only[ar,bD]at h;obtain⟨rfl,rfl⟩:=h;have ox:=jO ok.hx;simp only[aU,fJ]at e1;have sx:x'=.aA\/∃i v n,x'=.sl i 0 v n:=by
      rcases dx e3 with⟨rfl,_⟩|⟨i,v,rfl,_,_⟩
      .exact .inl rfl
      .exact .inr ⟨_,_,_,rfl⟩
     rcases dx ok.hx with⟨rfl,hA⟩|⟨i,v',rfl,hv,cu⟩<;>rcases dx ok.hy with⟨rfl,hB⟩|⟨i2,v2,rfl,jn,jA⟩<;>rcases sx with rfl|⟨i3,v3,n3,rfl⟩;all_goals simp only[go_sem,seval,-mG,aU,lk,rm,n4,b4,hm,e1]
     all_goals first|exact aN
    .rename_i hm;simp only[ar,bD]at h;obtain⟨rfl,rfl⟩:=h;rcases dx ok.hx with⟨rfl,hA⟩|⟨i,v',rfl,hv,cu⟩<;>rcases dx ok.hy with⟨rfl,hB⟩|⟨i2,v2,rfl,jn,jA⟩;all_goals simp only[go_sem,seval,-mG,aU,lk,rm,n4,b4,hm]
     all_goals first|exact aN
   .simp at h
  .simp at h
 .simp at h
def HY(t:Pt)(b:Int):Bool:=(decide (¬cd b 1=0)==t.ff)&&decide (cd b 2=0)
def Bg(args:List AV)(H:AH):Option (AV×AH):=match args with
 |[.g c,.c (.u off),.c (.i b)]=>match zj H c with
   |some (t,x,y)=>if ft b then(if off=0#64/\cd t.l 128=0 then(if cd t.m 16=0 then some (.t [.g (aU (fQ t off b).1 x (.sl (H.length+2) 0 (t.B.length+1) (t.B.length+1))),.c (.b true)],H++[.own (aU (fQ t off b).1 x (.sl (H.length+2) 0 (t.B.length+1) (t.B.length+1))),.own (aU (fQ t off b).1 x (.sl (H.length+2) 0 (t.B.length+1) (t.B.length+1))),.vec 1 (t.B.flatMap dE++[.k .u8 b]),.vec 1 [.k .u8 b]])else match yc [.g c,.c (.i b)] (H++[.own c,.own (aU fJ .aA .aA)])with|some (.t [.g c',.c (.b _)],K)=>some (.t [.g (c'.set 8 (.b true)),.c (.b true)],((K++[ae.own c']).set H.length (.own (c'.set 8 (.b true)))).set (H.length+1) (.own (c'.set 8 (.b true))))|_=>none)else if off=2#64/\HY t b=false then some (.t [.g (aU (fQ t off b).1 .aA y),.c (.b true)],H++[.own (aU (fQ t off b).1 .aA y),.own (aU (fQ t off b).1 .aA y)])else some (.t [.g (aU (fQ t off b).1 x y),.c (.b (fQ t off b).2)],H++[.own (aU (fQ t off b).1 x y),.own (aU (fQ t off b).1 x y)]))else none|none=>none
 |_=>none
theorem aoz(args:List AV)(H:AH)(v:AV)(H1:AH)(h:Bg args H=some (v,H1)):H.length<=H1.length:=by
 unfold Bg at h;repeat' split at h
 all_goals simp at h
 all_goals rw[<-h.2]
 all_goals first
 |(simp;done)|(rename_i hc;have:=TK _ _ _ _ hc;simp at this|-;omega)
theorem asT:aZ Tryz.prog 102 Bg:=by
 refine fU (s:=Bg) (tu OQ (tp ab8 tn)) Tryz.func102 rfl Tryz.results102 Tryz.ntmps102 aoz ?_;intro args H v H1 h bM hH;unfold Bg at h;split at h
 .rename_i c off b;split at h
  .rename_i t x y hr;obtain⟨rfl,ok⟩:=FQ hr;split at h
   .rename_i hb;refine⟨by simp,?_⟩;have Aw:(aU t x y).all (Sc.aj H.length)=true:=by simp only[bG,AV.aj,aQ]at bM;exact bM.1
    obtain⟨bx,bY⟩:=Ie Aw;have b7:=YD ok.l;have b4:=YC ok.m;have Yw:=YB hb;have be1:=bz1 ok.e;have b16:=m16 hb;have b32:=m32 hb;have b2q:=m2q hb;have wb:=w8 hb;have rb:0<=b/\b<=255:=hb;have re:0<=t.e/\t.e<=255:=ok.e;have rm:0<=t.m/\t.m<=255:=ok.m;have rl:0<=t.l/\t.l<=255:=ok.l;have n7:(7:Int).toNat=7:=rfl;have n4:(4:Int).toNat=4:=rfl;have n1:(1:Int).toNat=1:=rfl;rcases OM off with h7|rfl|rfl|rfl|rfl|rfl|rfl|rfl|rfl
    .have e0:(off=0#64)=False:=eq_false λe=>by rw[e]at h7;exact absurd h7 δ
     have e1:(off=1#64)=False:=eq_false λe=>by rw[e]at h7;exact absurd h7 δ
     have e2:(off=2#64)=False:=eq_false λe=>by rw[e]at h7;exact absurd h7 δ
     have e3:(off=3#64)=False:=eq_false λe=>by rw[e]at h7;exact absurd h7 δ
     have e4:(off=4#64)=False:=eq_false λe=>by rw[e]at h7;exact absurd h7 δ
     have e5:(off=5#64)=False:=eq_false λe=>by rw[e]at h7;exact absurd h7 δ
     have e6:(off=6#64)=False:=eq_false λe=>by rw[e]at h7;exact absurd h7 δ
     have e7:(off=7#64)=False:=eq_false λe=>by rw[e]at h7;exact absurd h7 δ
     have wp:fQ t off b=(t,false):=if_pos h7;rw[if_neg (by rw[e0];simp),if_neg (by rw[e2];simp),wp]at h;simp only[ar,bD]at h;obtain⟨rfl,rfl⟩:=h;rcases dx ok.hx with⟨rfl,hA⟩|⟨i,v',rfl,hv,cu⟩<;>rcases dx ok.hy with⟨rfl,hB⟩|⟨i2,v2,rfl,jn,jA⟩;all_goals simp only[go_sem,seval,-mG,aU,lk,rl,n7,b7,e0,e1,e2,e3,e4,e5,e6,e7]
     all_goals first|exact aN|exact⟨⟨λe=>absurd e ω,λe=>absurd e ω⟩,aN⟩|exact⟨λe=>absurd e ω,aN⟩|exact⟨by(repeat' apply cn)<;>(intro e;omega),aN⟩
    .by_cases hl:cd t.l 128=0;rotate_left
     .have wp:fQ t 0#64 b=({t with dl:=b},true):=by unfold fQ;rw[if_neg δ,if_neg (by simp[hl]),if_neg δ,if_neg δ];rfl
      rw[if_neg (by simp[hl]),if_neg (by simp),wp]at h;simp only[ar,bD]at h;obtain⟨rfl,rfl⟩:=h;rcases dx ok.hx with⟨rfl,hA⟩|⟨i,v',rfl,hv,cu⟩<;>rcases dx ok.hy with⟨rfl,hB⟩|⟨i2,v2,rfl,jn,jA⟩;all_goals simp only[go_sem,seval,-mG,aU,lk,rl,n7,b7,hl]
      all_goals first|exact aN|exact⟨⟨λe=>absurd e ω,λe=>absurd e ω⟩,aN⟩|exact⟨λe=>absurd e ω,aN⟩|exact⟨by(repeat' apply cn)<;>(intro e;omega),aN⟩
     rw[if_pos ⟨rfl,hl⟩]at h;have wp:fQ t 0#64 b=(Bn t b,true):=by unfold fQ;rw[if_neg δ,if_pos ⟨rfl,hl⟩]
     rw[wp]at h;by_cases hm:cd t.m 16=0
     .rw[if_pos hm]at h;have sp:Bn t b={t with B:=t.B++[b],em:=true}:=if_pos hm;rw[sp]at h;simp only[ar,bD]at h;obtain⟨rfl,rfl⟩:=h;have lb:=ok.lb;have one:=G2 t.B;have len:=nj t.B;have tk:(t.B.flatMap dE).take t.B.length=t.B.flatMap dE:=bR (by rw[nj];exact aC _);have Fs:t.B.length<=1099511627775:=ω
      have TS:t.B.length<=1099511627776:=ω
      rcases dx ok.hy with⟨rfl,hB⟩|⟨i2,v2,rfl,jn,jA⟩
      .rw[hB];rcases dx ok.hx with⟨rfl,hA⟩|⟨i,v',rfl,hv,cu⟩;all_goals simp only[go_sem,seval,-mG,aU,lk,rl,rm,n7,n4,b7,b4,hl,hm,wb,dY,List.flatMap_nil]
       all_goals first|exact aN|exact⟨⟨λe=>absurd e ω,λe=>absurd e ω⟩,aN⟩|exact⟨λe=>absurd e ω,aN⟩|exact⟨by(repeat' apply cn)<;>(intro e;omega),aN⟩
      .have li:i2<H.length:=by simpa[Sc.aj]using bY
       have gi:∀X,hg (H++X) i2=hg H i2:=λX=>mO li;have jn:=jn.symm;rcases dx ok.hx with⟨rfl,hA⟩|⟨i,v',rfl,hv,cu⟩;all_goals(repeat(first|simp only[go_sem,seval,-mG,aU,lk,rl,rm,n7,n4,b7,b4,hl,hm,wb,one,len,gi,jn,jA,tk,Fs,TS]|simp(disch:=omega)only[w0]))
       all_goals first|exact aN|exact⟨⟨λe=>absurd e ω,λe=>absurd e ω⟩,aN⟩|exact⟨λe=>absurd e ω,aN⟩|exact⟨by(repeat' apply cn)<;>(intro e;omega),aN⟩
     .rw[if_neg hm]at h;obtain⟨x',X,e1,e2,e3,e4⟩:=Nj ok hb bx bY (.own (aU t x y)) (.own (aU fJ .aA .aA));have hs:∀P Q R c:ae,(((H++(P::Q::X))++[R]).set H.length c).set (H.length+1) c=H++(c::c::(X++[R])):=λP Q R c=>by simp[List.set_append]
      rw[e1]at h;simp only[hs,ar,bD]at h;obtain⟨rfl,rfl⟩:=h;simp only[aU,fJ]at e1;have sx:x'=.aA\/∃i v n,x'=.sl i 0 v n:=by
       rcases dx e3 with⟨rfl,_⟩|⟨i,v,rfl,_,_⟩
       .exact .inl rfl
       .exact .inr ⟨_,_,_,rfl⟩
      rcases dx ok.hx with⟨rfl,hA⟩|⟨i,v',rfl,hv,cu⟩<;>rcases dx ok.hy with⟨rfl,hB⟩|⟨i2,v2,rfl,jn,jA⟩<;>rcases sx with rfl|⟨i3,v3,n3,rfl⟩;all_goals simp only[go_sem,seval,-mG,aU,lk,rl,rm,n7,n4,b7,b4,hl,hm,e1]
      all_goals first|exact aN|exact⟨⟨λe=>absurd e ω,λe=>absurd e ω⟩,aN⟩|exact⟨λe=>absurd e ω,aN⟩|exact⟨by(repeat' apply cn)<;>(intro e;omega),aN⟩
    .rw[if_neg (by simp),if_neg (by simp)]at h;by_cases hl:cd t.l 128=0
     .have wp:fQ t 1#64 b=({t with em:=t.em||(decide (¬cd b 2=0)&&decide (cd t.e 2=0)),e:=cd b 15},true):=by
       have:fQ t 1#64 b=(zI t 1#64 b,true):=rfl;rw[this];unfold zI;rw[if_neg δ,if_pos rfl,if_pos hl]
      rw[wp]at h;simp only[ar,bD]at h;obtain⟨rfl,rfl⟩:=h;by_cases h2:cd b 2=0<;>by_cases h3:cd t.e 2=0<;>cases SN:t.em;all_goals rcases dx ok.hx with⟨rfl,hA⟩|⟨i,v',rfl,hv,cu⟩<;>rcases dx ok.hy with⟨rfl,hB⟩|⟨i2,v2,rfl,jn,jA⟩
      all_goals simp only[go_sem,seval,-mG,aU,lk,rl,rb,re,n7,n1,b7,Yw,be1,b16,hl,h2,h3,SN,decide_true,decide_false,not_true,not_false_eq_true,Mz,Bool.true_or,Bool.false_or,Bool.or_true,uU,cX,rh]
      all_goals first|exact aN|exact⟨⟨λe=>absurd e ω,λe=>absurd e ω⟩,aN⟩|exact⟨λe=>absurd e ω,aN⟩|exact⟨by(repeat' apply cn)<;>(intro e;omega),aN⟩
     .have wp:fQ t 1#64 b=({t with dm:=b},true):=by
       have:fQ t 1#64 b=(zI t 1#64 b,true):=rfl;rw[this];unfold zI;rw[if_neg δ,if_pos rfl,if_neg hl]
      rw[wp]at h;simp only[ar,bD]at h;obtain⟨rfl,rfl⟩:=h;rcases dx ok.hx with⟨rfl,hA⟩|⟨i,v',rfl,hv,cu⟩<;>rcases dx ok.hy with⟨rfl,hB⟩|⟨i2,v2,rfl,jn,jA⟩;all_goals simp only[go_sem,seval,-mG,aU,lk,rl,n7,b7,hl]
      all_goals first|exact aN|exact⟨⟨λe=>absurd e ω,λe=>absurd e ω⟩,aN⟩|exact⟨λe=>absurd e ω,aN⟩|exact⟨by(repeat' apply cn)<;>(intro e;omega),aN⟩
    .have wp:fQ t 2#64 b=(xY t b,true):=rfl;rw[if_neg (by simp),wp]at h;by_cases h1:cd b 1=0<;>by_cases h2:cd b 2=0<;>cases hf:t.ff;all_goals simp[xY,HY,h1,h2,hf]at h
     all_goals obtain⟨rfl,rfl⟩:=h
     all_goals rcases dx ok.hx with⟨rfl,hA⟩|⟨i,v',rfl,hv,cu⟩<;>rcases dx ok.hy with⟨rfl,hB⟩|⟨i2,v2,rfl,jn,jA⟩
     all_goals simp only[go_sem,seval,-mG,aU,lk,rl,rb,n7,n1,b7,Yw,b2q,h1,h2,hf]
     all_goals first|exact aN|exact⟨⟨λe=>absurd e ω,λe=>absurd e ω⟩,aN⟩|exact⟨λe=>absurd e ω,aN⟩|exact⟨by(repeat' apply cn)<;>(intro e;omega),aN⟩
    .have wp:fQ t 3#64 b=({t with l:=b},true):=rfl;rw[if_neg (by simp),if_neg (by simp),wp]at h;simp only[ar,bD]at h;obtain⟨rfl,rfl⟩:=h;rcases dx ok.hx with⟨rfl,hA⟩|⟨i,v',rfl,hv,cu⟩<;>rcases dx ok.hy with⟨rfl,hB⟩|⟨i2,v2,rfl,jn,jA⟩;all_goals simp only[go_sem,seval,-mG,aU,lk,rl,n7,b7]
     all_goals first|exact aN|exact⟨⟨λe=>absurd e ω,λe=>absurd e ω⟩,aN⟩|exact⟨λe=>absurd e ω,aN⟩|exact⟨by(repeat' apply cn)<;>(intro e;omega),aN⟩
    .have wp:fQ t 4#64 b=({t with m:=cd b 31},true):=rfl;rw[if_neg (by simp),if_neg (by simp),wp]at h;simp only[ar,bD]at h;obtain⟨rfl,rfl⟩:=h;rcases dx ok.hx with⟨rfl,hA⟩|⟨i,v',rfl,hv,cu⟩<;>rcases dx ok.hy with⟨rfl,hB⟩|⟨i2,v2,rfl,jn,jA⟩;all_goals simp only[go_sem,seval,-mG,aU,lk,rl,n7,b7,b32]
     all_goals first|exact aN|exact⟨⟨λe=>absurd e ω,λe=>absurd e ω⟩,aN⟩|exact⟨λe=>absurd e ω,aN⟩|exact⟨by(repeat' apply cn)<;>(intro e;omega),aN⟩
    .have wp:fQ t 5#64 b=(t,true):=rfl;rw[if_neg (by simp),if_neg (by simp),wp]at h;simp only[ar,bD]at h;obtain⟨rfl,rfl⟩:=h;rcases dx ok.hx with⟨rfl,hA⟩|⟨i,v',rfl,hv,cu⟩<;>rcases dx ok.hy with⟨rfl,hB⟩|⟨i2,v2,rfl,jn,jA⟩;all_goals simp only[go_sem,seval,-mG,aU,lk,rl,n7,b7]
     all_goals first|exact aN|exact⟨⟨λe=>absurd e ω,λe=>absurd e ω⟩,aN⟩|exact⟨λe=>absurd e ω,aN⟩|exact⟨by(repeat' apply cn)<;>(intro e;omega),aN⟩
    .have wp:fQ t 6#64 b=(t,true):=rfl;rw[if_neg (by simp),if_neg (by simp),wp]at h;simp only[ar,bD]at h;obtain⟨rfl,rfl⟩:=h;rcases dx ok.hx with⟨rfl,hA⟩|⟨i,v',rfl,hv,cu⟩<;>rcases dx ok.hy with⟨rfl,hB⟩|⟨i2,v2,rfl,jn,jA⟩;all_goals simp only[go_sem,seval,-mG,aU,lk,rl,n7,b7]
     all_goals first|exact aN|exact⟨⟨λe=>absurd e ω,λe=>absurd e ω⟩,aN⟩|exact⟨λe=>absurd e ω,aN⟩|exact⟨by(repeat' apply cn)<;>(intro e;omega),aN⟩
    .have wp:fQ t 7#64 b=({t with s:=b},true):=rfl;rw[if_neg (by simp),if_neg (by simp),wp]at h;simp only[ar,bD]at h;obtain⟨rfl,rfl⟩:=h;rcases dx ok.hx with⟨rfl,hA⟩|⟨i,v',rfl,hv,cu⟩<;>rcases dx ok.hy with⟨rfl,hB⟩|⟨i2,v2,rfl,jn,jA⟩;all_goals simp only[go_sem,seval,-mG,aU,lk,rl,n7,b7]
     all_goals first|exact aN|exact⟨⟨λe=>absurd e ω,λe=>absurd e ω⟩,aN⟩|exact⟨λe=>absurd e ω,aN⟩|exact⟨by(repeat' apply cn)<;>(intro e;omega),aN⟩
   .simp at h
  .simp at h
 .simp at h
def VL(args:List AV):Option AV:=match args with|[.c (.u off),.c (.i n)]=>some (.c (.b (decide (off<8#64)&&decide (n=1))))|_=>none
theorem awI{off n}:VL [.c (.u off),.c (.i n)]=some (.c (.b (decide (off<8#64)&&decide (n=1)))):=rfl
theorem arl:cE Tryz.prog 135 VL:=by
 refine cN tn Tryz.func135 rfl Tryz.results135 Tryz.ntmps135 ?_;intro args v h;unfold VL at h;split at h
 .rename_i off n;simp only[ar]at h;subst h;refine⟨by simp,rfl,rfl,?_⟩;by_cases h:off<8#64<;>by_cases h1:n=1;all_goals simp only[go_sem,seval,h,h1]
  all_goals rfl
 .simp at h
def wO(H:AH)(id:Nat):Option (Pt×Sc×Sc):=match mS (hg H id)with
 |some p=>match fL 1 iJ H p.x,fL 1 iJ H p.y with
   |some A,some B=>some (⟨p.e,p.l,p.m,p.s,p.dl,p.dm,p.ff,p.lo,p.em,A,B⟩,p.x,p.y)|_,_=>none
 |none=>none
theorem auJ{h:Nat}{t:Pt}(hP:PI H h t x y):wO H h=some (t,x,y):=by
 unfold wO;rw[hP.po];simp only;rw[show(iz t x y).x=x from rfl,show(iz t x y).y=y from rfl,M6 hP.hx,M6 hP.hy];rfl
theorem O0{H:AH}{id:Nat}{t:Pt}{x y:Sc}(h:wO H id=some (t,x,y)):hg H id=.own (iy (iz t x y))/\fL 1 iJ H x=some t.A/\fL 1 iJ H y=some t.B:=by
 unfold wO at h;split at h
 .rename_i p hp;split at h
  .rename_i A B hA hB;simp only[ar,bD]at h;obtain⟨rfl,rfl,rfl⟩:=h;exact⟨sL hp,hA,hB⟩
  .simp at h
 .simp at h
theorem Wk.NI{n:Nat}{fr dP:Fr}{H H':AH}(hh:H=H')(hf:∀p∈dP,Am.get fr p.1=p.2):Wk n fr H (dP,H'):=by subst hh;exact Wk.fr hf
def f1(q:Bool):Int:=if q=true then 1 else 0
def OJ(t:Pt):List Sc:=[.k .u8 t.e,.k .u8 t.l,.k .u8 t.m,.k .u8 t.s,.k .u8 t.dl,.k .u8 t.dm,.k .u8 (f1 t.ff),.k .u8 (f1 t.lo),.k .u8 (f1 t.em)]
def Md(args:List AV)(H:AH):Option AV:=match args with
 |[.c (.p id 0 0)]=>match wO H id with
   |some (t,_,_)=>some (.g (OJ t))|none=>none
 |_=>none
theorem aen{id:Nat}{H:AH}{t:Pt}{x y:Sc}(h:wO H id=some (t,x,y)):Md [.c (.p id 0 0)] H=some (.g (OJ t)):=by simp only[Md,h]
def HP(t:Pt)(k:Nat):List Sc:=[.k .u8 t.e,.k .u8 t.l,.k .u8 t.m,.k .u8 t.s,.k .u8 t.dl,.k .u8 t.dm,.k .u8 (if 0<k then f1 t.ff else 0),.k .u8 (if 1<k then f1 t.lo else 0),.k .u8 (if 2<k then f1 t.em else 0)]
theorem as4:aZ Tryz.prog 166 (λargs H=>(Md args H).map λv=>(v,H)):=by
 refine iR (s:=Md) tn Tryz.func166 rfl Tryz.results166 Tryz.ntmps166 ?_;intro args H v h bM hH;unfold Md at h;split at h
 .rename_i id;split at h
  .rename_i t x y ht;obtain⟨hm,hA,hB⟩:=O0 ht;simp only[ar]at h;subst h;refine⟨by simp,rfl,?_⟩;have aD:id<H.length:=dU (by rw[hm];rfl);have gx:∀X,hg (H++X) id=_:=λX=>(mO aD).trans hm;simp only[iy,iz]at gx hm;rcases dx hA with⟨rfl,ER⟩|⟨i,v',rfl,hv,cu⟩<;>rcases dx hB with⟨rfl,NT⟩|⟨i2,v2,rfl,jn,jA⟩;all_goals simp only[go_sem,seval,gx,hm]
   all_goals refine⟨by(repeat' apply cn)<;>(intro e;omega),?_⟩
   all_goals refine eY 3 (λk=>([(0,.c (.p id 0 0)),(2,.c (.p H.length 0 0)),(3,.c (.p (H.length+1) 0 0)),(43,.g [.b t.ff,.b t.lo,.b t.em]),(44,.c (.i k))],H++[.own [.k .u8 0,.k .u8 0,.k .u8 0,.k .u8 0,.k .u8 0,.k .u8 0,.k .u8 0,.k .u8 0,.k .u8 0],.own (HP t k)])) (Wk.NI (by simp[HP]) (by simp[Am.get])) λk hk=>?_
   all_goals rcases(by omega:k=0\/k=1\/k=2\/k=3)with rfl|rfl|rfl|rfl
   all_goals cases hf:t.ff<;>cases hl:t.lo<;>cases he:t.em
   all_goals(repeat(first|simp only[go_sem,seval,HP,f1,hf,hl,he,Nat.lt_irrefl]|simp(disch:=omega)only[w0]))
   all_goals first
 |exact aB _ _|exact⟨by simp[OJ,f1,hf,hl,he],aB _ _⟩|exact⟨1,ω,ω,Wk.NI (by simp[HP,f1,hf,hl,he]) (by simp[Am.get])⟩|exact⟨2,ω,ω,Wk.NI (by simp[HP,f1,hf,hl,he]) (by simp[Am.get])⟩|exact⟨3,ω,ω,Wk.NI (by simp[HP,f1,hf,hl,he]) (by simp[Am.get])⟩
  .simp at h
 .simp at h
def jg(A:List Int):Bool:=A.all λn=>decide (ft n)
theorem YL(A:List Int):Go.Am.Ae (A.flatMap dE)=some A:=by induction A with
 |nil=>rfl|cons a A ih=>show(Go.Am.Ae (A.flatMap dE)).map (a::·)=_;rw[ih];rfl
theorem azO{a:Int}(ha:ft a)(hb:ft b)(h:UInt8.ofNat a.toNat=UInt8.ofNat b.toNat):a=b:=by
 unfold ft at ha hb;have:=congrArg UInt8.toNat h;rw[UInt8.toNat_ofNat',UInt8.toNat_ofNat']at this;omega
theorem ayC:∀{A B:List Int},jg A=true->jg B=true->(D7 A=D7 B)=(A=B):=by
 intro A B hA hB;apply propext;constructor
 .intro h;have h2:(A.map λn=>UInt8.ofNat n.toNat)=B.map λn=>UInt8.ofNat n.toNat:=by
   have:=congrArg (λs=>s.data.toList) h;simpa[D7]using this
  induction A generalizing B with
 |nil=>cases B with|nil=>rfl|cons b B=>simp at h2
 |cons a A ih=>cases B with
 |nil=>simp at h2|cons b B=>simp only[fW,cK]at h2;simp only[jg,bG,aQ,decide_eq_true_eq]at hA hB;rw[azO hA.1 hB.1 h2.1,ih hA.2 hB.2 (by unfold D7;rw[h2.2]) h2.2]
 .intro h;rw[h]
def Ig(args:List AV)(H:AH):Option AV:=match args with
 |[.c x,.c y]=>match fL 1 iJ H x,fL 1 iJ H y with
   |some A,some B=>if jg A=true/\jg B=true then some (.c (.b (decide (A=B))))else none|_,_=>none
 |_=>none
theorem Vz{B:List Int}(h1:fL 1 iJ H x=some A)(h2:fL 1 iJ H y=some B)(h3:jg A=true)(h4:jg B=true):Ig [.c x,.c y] H=some (.c (.b (decide (A=B)))):=by simp only[Ig,h1,h2];rw[if_pos ⟨h3,h4⟩]
theorem abM:aZ Tryz.prog 55 (λargs H=>(Ig args H).map λv=>(v,H)):=by
 refine iR (s:=Ig) tn Tryz.func55 rfl Tryz.results55 Tryz.ntmps55 ?_;intro args H v h bM hH;unfold Ig at h;split at h
 .rename_i x y;split at h
  .rename_i A B hA hB;split at h
   .rename_i hc;simp only[ar]at h;subst h;refine⟨by simp,rfl,?_⟩;have inj:=ayC hc.1 hc.2;have lA:=nj A;have lB:=nj B;have bA:=YL A;have bB:=YL B;have tA:(A.flatMap dE).take A.length=A.flatMap dE:=bR (by rw[nj];exact aC _);have tB:(B.flatMap dE).take B.length=B.flatMap dE:=bR (by rw[nj];exact aC _);have b0:Go.Am.Ae []=some []:=rfl;rcases dx hA with⟨rfl,rfl⟩|⟨i,v',rfl,hv,cu⟩<;>rcases dx hB with⟨rfl,rfl⟩|⟨i2,v2,rfl,jn,jA⟩
    .simp only[go_sem,seval,b0,inj];first|exact aE _|exact⟨by simp,aE _⟩
    .have jn:=jn.symm;(repeat(first|simp only[go_sem,seval,b0,inj,jn,jA,lB,bB,tB]|simp(disch:=omega)only[w0]));first|exact aE _|exact⟨by simp,aE _⟩
    .have hv:=hv.symm;(repeat(first|simp only[go_sem,seval,b0,inj,hv,cu,lA,bA,tA]|simp(disch:=omega)only[w0]));first|exact aE _|exact⟨by simp,aE _⟩
    .have hv:=hv.symm;have jn:=jn.symm;(repeat(first|simp only[go_sem,seval,inj,hv,cu,lA,bA,tA,jn,jA,lB,bB,tB]|simp(disch:=omega)only[w0]));first|exact aE _|exact⟨by simp,aE _⟩
   .simp at h
  .simp at h
 .simp at h
def KO(t u:Pt):Bool:=decide (t.e=u.e)&&(decide (t.l=u.l)&&(decide (t.m=u.m)&&(decide (t.s=u.s)&&(decide (t.dl=u.dl)&&(decide (t.dm=u.dm)&&(decide (f1 t.ff=f1 u.ff)&&(decide (f1 t.lo=f1 u.lo)&&decide (f1 t.em=f1 u.em))))))))
def Bm(t u:Pt):Bool:=KO t u&&(decide (t.A=u.A)&&decide (t.B=u.B))
def IQ(args:List AV)(H:AH):Option AV:=match args with
 |[.c (.p i 0 0),.c (.p j 0 0)]=>match wO H i,wO H j with
   |some (t,_,_),some (u,_,_)=>if jg t.A=true/\jg t.B=true/\jg u.A=true/\jg u.B=true then some (.c (.b (Bm t u)))else none|_,_=>none
 |_=>none
variable {u:Pt}{y':Sc}
theorem axF{t:Pt}(h1:wO H i=some (t,x,y))(h2:wO H j=some (u,x',y'))(h3:jg t.A=true/\jg t.B=true/\jg u.A=true/\jg u.B=true):IQ [.c (.p i 0 0),.c (.p j 0 0)] H=some (.c (.b (Bm t u))):=by simp only[IQ,h1,h2];rw[if_pos h3]
theorem as9:aZ Tryz.prog 114 (λargs H=>(IQ args H).map λv=>(v,H)):=by
 refine iR (s:=IQ) (tq as4 (tq abM tn)) Tryz.func114 rfl Tryz.results114 Tryz.ntmps114 ?_;intro args H v h bM hH;unfold IQ at h;split at h
 .rename_i i j;split at h
  .rename_i t x y u x' y' ht hu;split at h
   .rename_i hc;obtain⟨c1,c2,c3,c4⟩:=hc;simp only[ar]at h;subst h;refine⟨by simp,rfl,?_⟩;have n1:=aen ht;have n2:=aen hu;obtain⟨hm,hA,hB⟩:=O0 ht;obtain⟨mz,hA2,Hg⟩:=O0 hu;have q1:=Vz hA hA2 c1 c3;have q2:=Vz hB Hg c2 c4;simp only[iy,iz]at hm mz;simp only[OJ]at n1 n2;have ne:KO t u=(decide (t.e=u.e)&&(decide (t.l=u.l)&&(decide (t.m=u.m)&&(decide (t.s=u.s)&&(decide (t.dl=u.dl)&&(decide (t.dm=u.dm)&&(decide (f1 t.ff=f1 u.ff)&&(decide (f1 t.lo=f1 u.lo)&&decide (f1 t.em=f1 u.em))))))))):=rfl;unfold Bm;have ox:=jO hA;have oy:=jO hB;have ox2:=jO hA2;have oy2:=jO Hg;cases hn:KO t u;all_goals rw[hn]at ne
    all_goals by_cases Sn:t.A=u.A
    all_goals by_cases NU:t.B=u.B
    all_goals simp only[go_sem,seval,hm,mz,n1,n2,<-ne,q1,q2,Sn,NU,nZ,gv]
    all_goals first|exact aE _|exact⟨by simp,aE _⟩
   .simp at h
  .simp at h
 .simp at h
theorem Y2(h:fL 1 iJ H x=some A)(hb:x.aj H.length=true)(hs:A.length<=1000000):o8 (H++X) x=some (.sl (H.length+X.length) 0 A.length A.length,H++(X++[.vec 1 (A.flatMap dE)])):=by
 rcases dx h with⟨rfl,rfl⟩|⟨i,v,rfl,hv,hc⟩
 .simp[o8]
 .have li:i<H.length:=by simpa[Sc.aj]using hb
  have e:(A.flatMap dE).take A.length=A.flatMap dE:=bR (by rw[nj];exact aC _);simp only[o8,mO li,hc,nj,xg,e];rw[if_pos ⟨hv,ω,G2 A,hs⟩];simp
def DX(args:List AV)(H:AH):Option (AV×AH):=match args with
 |[.c (.p id 0 0)]=>match wO H id with
   |some (t,x,y)=>if t.A.length<=1000000/\t.B.length<=1000000 then some (.c (.p H.length 0 0),H++[.own (iy (iz t (.sl (H.length+1) 0 t.A.length t.A.length) (.sl (H.length+2) 0 t.B.length t.B.length))),.vec 1 (t.A.flatMap dE),.vec 1 (t.B.flatMap dE)])else none|none=>none
 |_=>none
theorem axB{id:Nat}{H:AH}{t:Pt}{x y:Sc}(h:wO H id=some (t,x,y))(h2:t.A.length<=1000000/\t.B.length<=1000000):DX [.c (.p id 0 0)] H=some (.c (.p H.length 0 0),H++[.own (iy (iz t (.sl (H.length+1) 0 t.A.length t.A.length) (.sl (H.length+2) 0 t.B.length t.B.length))),.vec 1 (t.A.flatMap dE),.vec 1 (t.B.flatMap dE)]):=by simp only[DX,h];rw[if_pos h2]
theorem aoB(args:List AV)(H:AH)(v:AV)(H1:AH)(h:DX args H=some (v,H1)):H.length<=H1.length:=by
 unfold DX at h;repeat' split at h
 all_goals simp at h
 rw[<-h.2];simp
theorem as0:aZ Tryz.prog 112 DX:=by
 refine fU (s:=DX) (tp OR tn) Tryz.func112 rfl Tryz.results112 Tryz.ntmps112 aoB ?_;intro args H v H1 h bM hH;unfold DX at h;split at h
 .rename_i id;split at h
  .rename_i t x y ht;split at h
   .rename_i hc;obtain⟨c1,c2⟩:=hc;simp only[ar,bD]at h;obtain⟨rfl,rfl⟩:=h;refine⟨by simp,?_⟩;obtain⟨hm,hA,hB⟩:=O0 ht;have aD:id<H.length:=dU (by rw[hm];rfl);have aj:=BM hH id;rw[hm]at aj;have bx:x.aj H.length=true:=by simp only[ae.cells,ae.cT,iy,iz,bG,aQ]at aj;exact aj.2.2.2.2.2.2.2.2.2.1
    have bY:y.aj H.length=true:=by simp only[ae.cells,ae.cT,iy,iz,bG,aQ]at aj;exact aj.2.2.2.2.2.2.2.2.2.2.1
    have q1:=λX=>Mb (Y2 (X:=X) hA bx c1);have q2:=λX=>Mb (Y2 (X:=X) hB bY c2);have gx:∀X,hg (H++X) id=_:=λX=>(mO aD).trans hm;simp only[iy,iz]at gx hm;rcases dx hA with⟨rfl,ER⟩|⟨i,v',rfl,hv,cu⟩<;>rcases dx hB with⟨rfl,NT⟩|⟨i2,v2,rfl,jn,jA⟩;all_goals simp only[go_sem,seval,hm,gx,q1,q2]
    all_goals first|simp only[ER,NT]|skip
    all_goals refine⟨?_,?_,?_,aN⟩
    all_goals(repeat' apply cn)<;>first|kernel_rfl|(intro e;omega)|(intro _;kernel_rfl)
   .simp at h
  .simp at h
 .simp at h
def sU(t u:Pt):Bool:=decide (t.e=u.e)&&decide (t.l=u.l)&&decide (t.m=u.m)&&decide (t.s=u.s)&&decide (t.dl=u.dl)&&decide (t.dm=u.dm)&&(t.ff==u.ff)&&(t.lo==u.lo)&&(t.em==u.em)&&decide (t.A=u.A)&&decide (t.B=u.B)
def IM(args:List AV)(H:AH):Option AV:=match args with
 |[.g c,.g d]=>match zj H c,zj H d with
   |some (t,_,_),some (u,_,_)=>some (.c (.b (sU t u)))|_,_=>none
 |_=>none
theorem axz{t:Pt}(h1:jd H t x y)(h2:jd H u x' y'):IM [.g (aU t x y),.g (aU u x' y')] H=some (.c (.b (sU t u))):=by simp only[IM,Dz h1,Dz h2]
theorem asN:aZ Tryz.prog 115 (λargs H=>(IM args H).map λv=>(v,H)):=by
 refine iR (s:=IM) (tq acg tn) Tryz.func115 rfl Tryz.results115 Tryz.ntmps115 ?_
 intro args H v h bM hH
 unfold IM at h
 split at h
 .rename_i c d
  split at h
  .rename_i t x y u x' y' ht hu
   obtain ⟨rfl,ok⟩:=FQ ht
   obtain ⟨rfl,Dl⟩:=FQ hu
   simp only [ar] at h
   subst h
   refine ⟨by simp only [cZ,dY];decide,rfl,?_⟩
   have Aw:(aU t x y).all (Sc.aj H.length)=true/\(aU u x' y').all (Sc.aj H.length)=true:=by
    simp only [bG,AV.aj,aQ] at bM;exact ⟨bM.1,bM.2.1⟩
   obtain ⟨bx,bY⟩:=Ie Aw.1
   obtain ⟨Rx,bY'⟩:=Ie Aw.2
   have q1:∀X,Bh [.c x,.c x'] (H++X)=_:=λX=>PO (rM ok.hx bx) (rM Dl.hx Rx) ok.la Dl.la
   have q2:∀X,Bh [.c y,.c y'] (H++X)=_:=λX=>PO (rM ok.hy bY) (rM Dl.hy bY') ok.lb Dl.lb
   by_cases Au:t.e=u.e
   rotate_left
   ·(repeat (first | simp (maxSteps:=9^9) only [go_sem,seval,aU,Au] | simp (disch:=omega) only [aq,aK,aJ,aI,aH]))
    first | exact aB _ _ | exact ⟨by simp [sU, *],aB _ _⟩
   by_cases BR:t.l=u.l
   rotate_left
   ·(repeat (first | simp (maxSteps:=9^9) only [go_sem,seval,aU,Au,BR] | simp (disch:=omega) only [aq,aK,aJ,aI,aH]))
    first | exact aB _ _ | exact ⟨by simp [sU, *],aB _ _⟩
   by_cases CW:t.m=u.m
   rotate_left
   ·(repeat (first | simp (maxSteps:=9^9) only [go_sem,seval,aU,Au,BR,CW] | simp (disch:=omega) only [aq,aK,aJ,aI,aH]))
    first | exact aB _ _ | exact ⟨by simp [sU, *],aB _ _⟩
   by_cases EU:t.s=u.s
   rotate_left
   ·(repeat (first | simp (maxSteps:=9^9) only [go_sem,seval,aU,Au,BR,CW,EU] | simp (disch:=omega) only [aq,aK,aJ,aI,aH]))
    first | exact aB _ _ | exact ⟨by simp [sU, *],aB _ _⟩
   by_cases Hi:t.dl=u.dl
   rotate_left
   ·(repeat (first | simp (maxSteps:=9^9) only [go_sem,seval,aU,Au,BR,CW,EU,Hi] | simp (disch:=omega) only [aq,aK,aJ,aI,aH]))
    first | exact aB _ _ | exact ⟨by simp [sU, *],aB _ _⟩
   by_cases J1:t.dm=u.dm
   rotate_left
   ·(repeat (first | simp (maxSteps:=9^9) only [go_sem,seval,aU,Au,BR,CW,EU,Hi,J1] | simp (disch:=omega) only [aq,aK,aJ,aI,aH]))
    first | exact aB _ _ | exact ⟨by simp [sU, *],aB _ _⟩
   by_cases aap:t.ff=u.ff
   rotate_left
   .have JS:(t.ff == u.ff)=false:=by simpa using aap
    (repeat (first | simp (maxSteps:=9^9) only [go_sem,seval,aU,Au,BR,CW,EU,Hi,J1,JS] | simp (disch:=omega) only [aq,aK,aJ,aI,aH]))
    first | exact aB _ _ | exact ⟨by simp [sU, *],aB _ _⟩
   have JS:(t.ff == u.ff)=true:=by simpa using aap
   by_cases aaq:t.lo=u.lo
   rotate_left
   .have NO:(t.lo == u.lo)=false:=by simpa using aaq
    (repeat (first | simp (maxSteps:=9^9) only [go_sem,seval,aU,Au,BR,CW,EU,Hi,J1,JS,NO] | simp (disch:=omega) only [aq,aK,aJ,aI,aH]))
    first | exact aB _ _ | exact ⟨by simp [sU, *],aB _ _⟩
   have NO:(t.lo == u.lo)=true:=by simpa using aaq
   by_cases aao:t.em=u.em
   rotate_left
   .have Si:(t.em == u.em)=false:=by simpa using aao
    (repeat (first | simp (maxSteps:=9^9) only [go_sem,seval,aU,Au,BR,CW,EU,Hi,J1,JS,NO,Si] | simp (disch:=omega) only [aq,aK,aJ,aI,aH]))
    first | exact aB _ _ | exact ⟨by simp [sU, *],aB _ _⟩
   have Si:(t.em == u.em)=true:=by simpa using aao
   by_cases Sn:t.A=u.A <;> by_cases NU:t.B=u.B
   all_goals simp only [Sn,NU,decide_true,decide_false] at q1 q2
   all_goals simp only [aU] at *
   all_goals (repeat (first | simp (maxSteps:=9^9) only [go_sem,seval,Au,BR,CW,EU,Hi,J1,JS,NO,Si,q1,q2] | simp (disch:=omega) only [aq,aK,aJ,aI,aH]))
   all_goals first | exact aB _ _ | exact ⟨by simp [sU, *],aB _ _⟩
  .simp at h
 .simp at h

def HN(H:AH)(x x':Sc):Prop:=x'=x\/x'=.aA\/∃i v n,x'=.sl i 0 v n/\H.length<=i
theorem Mn{H K:AH}{x:Sc}{A:List Int}(h:fL 1 iJ H x=some A)(hk:∀i,aW x=some i->hg K i=hg H i):fL 1 iJ K x=some A:=by
 unfold fL at h|-;split at h
 .exact h
 .rename_i id v n;simp only[hk id rfl];exact h
 .simp at h
theorem ayi(h:fL 1 iJ H x=some A):x=.aA\/∃i v n,x=.sl i 0 v n:=by
 rcases dx h with⟨rfl,_⟩|⟨i,v,rfl,_,_⟩
 .exact .inl rfl
 .exact .inr ⟨_,_,_,rfl⟩
structure nb(t:Pt):Prop where
 e:ft t.e
 l:ft t.l
 m:ft t.m
 s:ft t.s
 dl:ft t.dl
 dm:ft t.dm
theorem jd.nb{H:AH}{t:Pt}{x y:Sc}(h:jd H t x y):nb t:=⟨h.e,h.l,h.m,h.s,h.dl,h.dm⟩
theorem agF(h:ft b):ft (cd b 15):=by rw[<-m16 h,Gq h.1];unfold ft at*;omega
theorem agG(h:ft b):ft (cd b 31):=by rw[<-m32 h,Gq h.1];unfold ft at*;omega
theorem abt{t:Pt}(h:nb t):nb (iY t b).1:=by unfold iY;split<;>exact⟨h.e,h.l,h.m,h.s,h.dl,h.dm⟩
theorem apl{t:Pt}(h:nb t):nb (oI t b).1:=by
 unfold oI;split
 .exact abt h
 .exact h
theorem apm{t:Pt}(h:nb t):nb (fC t off).1:=by
 have h':∀A,nb {t with A:=A}:=λA=>⟨h.e,h.l,h.m,h.s,h.dl,h.dm⟩;have h2:nb {t with em:=false}:=⟨h.e,h.l,h.m,h.s,h.dl,h.dm⟩;have h3:nb {t with lo:=false}:=⟨h.e,h.l,h.m,h.s,h.dl,h.dm⟩;unfold fC sW w5 zE;repeat' split
 all_goals first|exact h|exact h' _|exact h2|exact h3
theorem apn{t:Pt}(h:nb t)(hb:ft b):nb (fQ t off b).1:=by
 have c:=abt (b:=b) h;unfold fQ Bn xY zI;repeat' split
 all_goals first
 |exact h|exact⟨c.e,c.l,c.m,c.s,c.dl,c.dm⟩|exact⟨agF hb,h.l,h.m,h.s,h.dl,h.dm⟩|exact⟨h.e,hb,h.m,h.s,h.dl,h.dm⟩|exact⟨h.e,h.l,agG hb,h.s,h.dl,h.dm⟩|exact⟨h.e,h.l,h.m,hb,h.dl,h.dm⟩|exact⟨h.e,h.l,h.m,h.s,hb,h.dm⟩|exact⟨h.e,h.l,h.m,h.s,h.dl,hb⟩|exact⟨h.e,h.l,h.m,h.s,h.dl,h.dm⟩
theorem avj{K:AH}{t:Pt}{x y:Sc}(ok:jd K t x y)(bx:x.aj K.length=true)(off:BitVec 64):∃x' X,Bf [.g (aU t x y),.c (.u off)] K=some (.t [.g (aU (fC t off).1 x' y),.c (.i (fC t off).2.1),.c (.b (fC t off).2.2)],K++X)/\HN K x x'/\fL 1 iJ (K++X) x'=some (fC t off).1.A/\(fC t off).1.B=t.B/\x'.aj (K++X).length=true:=by
 simp only[Bf,Dz ok];have hB:(fC t off).1.B=t.B:=by
  unfold fC sW w5 zE;repeat' split
  all_goals rfl
 cases hx:sM t off
 .have hA:(fC t off).1.A=t.A:=by
   unfold sM at hx;unfold fC sW w5 zE;repeat' split
   all_goals first
 |rfl|(simp_all;done)
  refine⟨x,_,rfl,.inl rfl,?_,hB,Sc.gJ bx (by simp)⟩;rw[hA];exact rM ok.hx bx
 .have B7:off=0#64/\cd t.l 128=0/\0<t.A.length:=by unfold sM at hx;simp at hx;exact⟨hx.1.1,hx.1.2,hx.2⟩
  obtain⟨rfl,h2,h3⟩:=B7;have hA:(fC t 0#64).1.A=t.A.tail:=by
   unfold fC sW;rw[if_neg δ,if_pos rfl,if_pos h2];cases hh:t.A with
 |nil=>rw[hh]at h3;simp at h3|cons a A=>rfl
  refine⟨.sl (K.length+2) 0 (t.A.length-1) (t.A.length-1),_,rfl,.inr (.inr ⟨_,_,_,rfl,ω⟩),?_,hB,by simp[Sc.aj]⟩;rw[hA];have g:∀P Q V:ae,hg (K++[P,Q,V]) (K.length+2)=V:=λP Q V=>by simp[hg,b9]
  refine D6 Al EI (L:=t.A.tail) ?_ (by simp) ?_
  .rw[g];simp only[ae.row,nj,List.length_tail]
  .rw[g];rfl
theorem au7{K:AH}{t:Pt}{x y:Sc}(ok:jd K t x y)(bx:x.aj K.length=true)(bY:y.aj K.length=true){b:Int}(hb:ft b):∃x' X,Be [.g (aU t x y),.c (.i b)] K=some (.t [.g (aU (oI t b).1 x' y),.c (.b (oI t b).2)],K++X)/\HN K x x'/\fL 1 iJ (K++X) x'=some (oI t b).1.A/\(oI t b).1.B=t.B/\x'.aj (K++X).length=true:=by
 simp only[Be,Dz ok];rw[if_pos hb];unfold oI;split
 .obtain⟨x',X,e1,e2,e3,e4⟩:=Nj ok hb bx bY (.own (aU t x y)) (.own (aU fJ .aA .aA));have hs:∀P Q c:ae,(K++(P::Q::X)).set (K.length+1) c=K++(P::c::X):=λP Q c=>by simp[List.set_append]
  rw[e1];simp only[hs];have hB:(iY t b).1.B=t.B:=by unfold iY;split<;>rfl
  refine⟨x',_,rfl,?_,?_,hB,by simpa using e4.2⟩
  .rcases e2 with h|⟨i,v,n,h1,h2⟩
   .exact .inl h
   .exact .inr (.inr ⟨i,v,n,h1,h2⟩)
  .refine Mn e3 λi hi=>?_;have ne:i≠K.length+1:=λe=>by
    rcases e2 with h|⟨j,v,n,h1,h2⟩
    .rw[h]at hi;rcases dx ok.hx with⟨rfl,_⟩|⟨j,v,rfl,_,_⟩
     .simp[aW]at hi
     .simp only[aW,ar]at hi;have:j<K.length:=by simpa[Sc.aj]using bx
      omega
    .subst h1;simp only[aW,ar]at hi;rcases dx e3 with⟨h,_⟩|⟨j',v',h,_,cu⟩
     .simp at h
     .simp only[Sc.sl.injEq]at h;obtain⟨h,_⟩:=h;subst h;rw[hi,e]at cu;have g:hg (K++(ae.own (aU t x y)::ae.own (aU fJ .aA .aA)::X)) (K.length+1)=.own (aU fJ .aA .aA):=by simp[hg,b9]
      rw[g]at cu;have:=akQ (iY t b).1.A 0;rw[<-cu]at this;have l1:=congrArg (λl=>List.head? l) cu;simp[ae.cells,ae.cT,aU]at l1;cases hq:(iY t b).1.A with
 |nil=>rw[hq]at l1;simp at l1|cons a A=>rw[hq]at l1;simp[dE]at l1
   rw[<-hs (.own (aU t x y)) (.own (aU fJ .aA .aA)),fg (Ne.symm ne)]
 .exact⟨x,_,rfl,.inl rfl,rM ok.hx bx,rfl,Sc.gJ bx (by simp)⟩
theorem avq{K:AH}{t:Pt}{x y:Sc}(ok:jd K t x y)(bx:x.aj K.length=true)(bY:y.aj K.length=true)(off:BitVec 64){b:Int}(hb:ft b):∃x' y' X,Bg [.g (aU t x y),.c (.u off),.c (.i b)] K=some (.t [.g (aU (fQ t off b).1 x' y'),.c (.b (fQ t off b).2)],K++X)/\HN K x x'/\HN K y y'/\fL 1 iJ (K++X) x'=some (fQ t off b).1.A/\fL 1 iJ (K++X) y'=some (fQ t off b).1.B/\x'.aj (K++X).length=true/\y'.aj (K++X).length=true:=by
 simp only[Bg,Dz ok];rw[if_pos hb];split
 .rename_i h0;obtain⟨rfl,hl⟩:=h0;have wp:fQ t 0#64 b=(Bn t b,true):=by unfold fQ;rw[if_neg δ,if_pos ⟨rfl,hl⟩]
  rw[wp];split
  .rename_i hm;have sp:Bn t b={t with B:=t.B++[b],em:=true}:=if_pos hm;rw[sp];refine⟨x,_,_,rfl,.inl rfl,.inr (.inr ⟨_,_,_,rfl,ω⟩),rM ok.hx bx,?_,Sc.gJ bx (by simp),by simp[Sc.aj]⟩;have g:∀P Q V W:ae,hg (K++[P,Q,V,W]) (K.length+2)=V:=λP Q V W=>by simp[hg,b9]
   refine D6 Al EI (L:=t.B++[b]) ?_ (by simp) ?_
   .rw[g];simp only[ae.row,cF,nj,cZ,dY]
   .rw[g,ND];rfl
  .rename_i hm;have sp:Bn t b={(iY t b).1 with em:=true}:=if_neg hm;rw[sp];obtain⟨x',X,e1,e2,e3,e4⟩:=Nj ok hb bx bY (.own (aU t x y)) (.own (aU fJ .aA .aA));have hs:∀P Q R c:ae,(((K++(P::Q::X))++[R]).set K.length c).set (K.length+1) c=K++(c::c::(X++[R])):=λP Q R c=>by simp[List.set_append]
   rw[e1];simp only[hs];have hB:(iY t b).1.B=t.B:=by unfold iY;split<;>rfl
   refine⟨x',y,_,rfl,?_,.inl rfl,?_,?_,Sc.gJ e4.2 (by simp),Sc.gJ bY (by simp)⟩
   .rcases e2 with h|⟨i,v,n,h1,h2⟩
    .exact .inl h
    .exact .inr (.inr ⟨i,v,n,h1,h2⟩)
   .show fL 1 iJ _ x'=some (iY t b).1.A;refine Mn e3 λi hi=>?_;have ne:i≠K.length/\i≠K.length+1:=by
     rcases dx e3 with⟨h,_⟩|⟨j',v',h,_,cu⟩
     .rw[h]at hi;simp[aW]at hi
     .rw[h]at hi;simp only[aW,ar]at hi;subst hi;have bad:∀c:Pt,∀a b':Sc,aU c a b'≠(iY t b).1.A.flatMap dE:=λc a b' hh=>by
       have l1:=congrArg (λl=>List.head? l) hh;cases hq:(iY t b).1.A with|nil=>rw[hq]at l1;simp[aU]at l1|cons a A=>rw[hq]at l1;simp[dE,aU]at l1
      constructor
      .intro e;rw[e]at cu;have g:hg (K++(ae.own (aU t x y)::ae.own (aU fJ .aA .aA)::X)) K.length=.own (aU t x y):=by simp[hg,b9]
       rw[g]at cu;exact bad _ _ _ cu
      .intro e;rw[e]at cu;have g:hg (K++(ae.own (aU t x y)::ae.own (aU fJ .aA .aA)::X)) (K.length+1)=.own (aU fJ .aA .aA):=by simp[hg,b9]
       rw[g]at cu;exact bad _ _ _ cu
    have h1:=hs (.own (aU t x y)) (.own (aU fJ .aA .aA)) (.own (aU (iY t b).1 x' y)) (.own ((aU (iY t b).1 x' y).set 8 (.b true)));rw[<-h1,fg (Ne.symm ne.2),fg (Ne.symm ne.1)];have li:i<(K++(ae.own (aU t x y)::ae.own (aU fJ .aA .aA)::X)).length:=by
     rcases dx e3 with⟨h,_⟩|⟨j',v',h,hv,cu⟩
     .rw[h]at hi;simp[aW]at hi
     .rw[h]at hi;simp only[aW,ar]at hi;subst hi;rcases e2 with h5|⟨j,v,n,h5,h6⟩
      .rw[h5]at h;rw[h]at bx;have:j'<K.length:=by simpa[Sc.aj]using bx
       simp;omega
      .rcases cU j' (K++(ae.own (aU t x y)::ae.own (aU fJ .aA .aA)::X)).length with hh|hh
       .exact hh
       .exfalso;rw[tG _ hh]at cu hv;have:(iY t b).1.A=[]:=by cases hq:(iY t b).1.A with
 |nil=>rfl|cons a A=>rw[hq]at cu;simp[ae.cells,ae.cT,dE]at cu
        have nz:0<(iY t b).1.A.length:=by
         unfold iY;split
         .have e9:iY t b=({t with lo:=true},false):=if_pos ‹_›;rw[e9]at this;have rp:0<Ct t:=by unfold Ct;split<;>decide
          have:t.A.length=0:=by simp at this;simp[this]
          omega
         .simp
        rw[this]at nz;simp at nz
    rw[mO li]
   .show fL 1 iJ _ y=some (iY t b).1.B;rw[hB];exact rM ok.hy bY
 .rename_i h0;split
  .rename_i h2;obtain⟨rfl,hq⟩:=h2;have wp:fQ t 2#64 b=(xY t b,true):=rfl;have qp:xY t b={t with ff:=decide (¬cd b 1=0),A:=[]}:=by
    unfold xY;rw[if_neg];intro hh;unfold HY at hq;rw[hh.1,decide_eq_true hh.2]at hq;exact absurd hq δ
   rw[wp,qp];exact⟨.aA,y,_,rfl,.inr (.inl rfl),.inl rfl,rfl,rM ok.hy bY,rfl,Sc.gJ bY (by simp)⟩
  .rename_i h2;have hA:(fQ t off b).1.A=t.A/\(fQ t off b).1.B=t.B:=by
    unfold fQ;rw[if_neg h0];split
    .exact⟨rfl,rfl⟩
    split
    .rename_i h3;have hk:HY t b=true:=by
      cases hq:HY t b
      .exact absurd ⟨h3,hq⟩ h2
      .rfl
     unfold HY at hk;simp only[aQ,decide_eq_true_eq]at hk;have qp:xY t b={t with ff:=decide (¬cd b 1=0)}:=by
      unfold xY;rw[if_pos ⟨hk.1,hk.2⟩]
     rw[qp];exact⟨rfl,rfl⟩
    split
    .exact⟨rfl,rfl⟩
    .exact(Qo t .aA .aA off b).2
   refine⟨x,y,_,rfl,.inl rfl,.inl rfl,?_,?_,Sc.gJ bx (by simp),Sc.gJ bY (by simp)⟩
   .rw[hA.1];exact rM ok.hx bx
   .rw[hA.2];exact rM ok.hy bY
structure aA7(H:AH)(id:Nat)(t:Pt)(x y u v:Sc):Prop where
 pi:PI H id t x y
 rp:jd H t u v
 bu:u.aj H.length=true
 bv:v.aj H.length=true
 su:∀i,aW u=some i->i≠id/\aW x≠some i/\aW y≠some i
 sv:∀i,aW v=some i->i≠id/\aW x≠some i/\aW y≠some i
def zr:List Sc:=aU fJ .aA .aA
open Classical in
theorem nB(H:AH):fj H H:=λ_ _ _=>rfl
theorem iw{A B C:AH}(h:fj A B)(h':fj B C):fj A C:=λi h1 h2=>by
 have e:=h' i h1 h2;rw[<-e]at h1 h2;exact(h i h1 h2).trans e
theorem ap2(h:o.live=true->o.owned=true):fj H (H++[o]):=λi h1 h2=>by
 rw[qj]at h1 h2|-;split at h1
 .rename_i e;rw[if_pos e]at h2;rw[h h1]at h2;simp at h2
 .rename_i e;rw[if_neg e]
theorem ap3:∀{X:AH},(∀o∈X,o.live=true->o.owned=true)->fj H (H++X):=by
 intro X;induction X generalizing H with
 |nil=>intro _;rw[kD];exact nB H|cons o X ih=>
 intro h;rw[show H++o::X=(H++[o])++X by simp];exact iw (ap2 (h o (by simp))) (ih λo' ho=>h o' (by simp[ho]))
theorem jT{n:Nat}(h:o.live=true->o.owned=true):fj H (H.set n o):=λi h1 h2=>by
 by_cases e:i=n
 .subst e;rcases cU i H.length with hl|hl
  .rw[jj hl]at h1 h2;rw[h h1]at h2;simp at h2
  .rw[List.set_eq_of_length_le hl]
 .rw[fg (Ne.symm e)]
theorem jr(h:(X.all λo=>o.live=false||o.owned)=true):fj H (H++X):=ap3 λo ho hl=>by
 have:=cD.1 h o ho;simp[hl]at this;exact this
theorem qT{p:Prop}{full:Array Oper}{i j:Nat}{A B:AH}(h:fj A B)(hl:loose full i j=true):¬(loose full i j=true/\fj A B)->p:=λk=>absurd ⟨hl,h⟩ k
theorem abA{H K:AH}{x b x':Sc}(h:wP H x b=some (x',K)):fj H K:=by
 unfold wP at h;repeat' split at h
 all_goals simp at h
 all_goals rw[<-h.2]
 .exact jr rfl
 .exact jT (λ_=>rfl)
theorem ap4{H K:AH}{x x':Sc}(h:o8 H x=some (x',K)):fj H K:=by
 unfold o8 at h;repeat' split at h
 all_goals simp at h
 all_goals rw[<-h.2]
 all_goals exact jr rfl
theorem Ut{a:List AV}{f:List AV->AH->Option (AV×AH)}(hf:∀a H v H1,f a H=some (v,H1)->fj H H1){v:AV}(h:okB (f a H)=some (v,H1)):fj H H1:=by
 obtain⟨s,h1,_⟩:=Ur h;exact hf _ _ _ _ h1
theorem abG{a:List AV}{f:List AV->AH->Option (AV×AH)}(hf:∀a H v H1,f a H=some (v,H1)->fj H H1){v:AV}(h:HS (f a H)=some (v,H1)):fj H H1:=by
 obtain⟨s,h1,_⟩:=Uu h;exact hf _ _ _ _ h1
variable {args:List AV}
theorem abz{H K:AH}{v:AV}(h:vD args H=some (v,K)):fj H K:=by
 unfold vD at h;repeat' split at h
 all_goals simp at h
 .rw[<-h.2];exact jT λ_=>rfl
 .rename_i hp;rw[<-h.2];exact iw (abA hp) (jT λ_=>rfl)
theorem apZ{H K:AH}{v:AV}(h:yf args H=some (v,K)):fj H K:=by
 unfold yf at h;repeat' split at h
 all_goals simp at h
 .rw[<-h.2];exact nB _
 .rw[<-h.2];exact nB _
 .rename_i hp;rw[<-h.2];exact iw (ap4 hp) (jT λ_=>rfl)
theorem ap0{H K:AH}{v:AV}(h:yg args H=some (v,K)):fj H K:=by
 unfold yg at h;repeat' split at h
 all_goals simp at h
 all_goals rw[<-h.2];first|(split<;>first|exact nB _|exact jT λ_=>rfl)|exact nB _|exact jT λ_=>rfl
theorem apY{H K:AH}{v:AV}(h:ye args H=some (v,K)):fj H K:=by
 unfold ye at h;repeat' split at h
 all_goals simp at h
 all_goals rw[<-h.2];first|(split<;>first|exact nB _|exact jT λ_=>rfl)|exact nB _|exact jT λ_=>rfl
theorem apW{H K:AH}{v:AV}(h:Bj args H=some (v,K)):fj H K:=by
 unfold Bj at h;repeat' split at h
 all_goals first
 |exact Ut (f:=yf) (λ_ _ _ _=>apZ) h|exact Ut (f:=yg) (λ_ _ _ _=>ap0) h|exact Ut (f:=ye) (λ_ _ _ _=>apY) h|(simp at h;done)|(simp at h;rw[<-h.2];exact nB _)
theorem apX{H K:AH}{v:AV}(h:yd args H=some (v,K)):fj H K:=by
 unfold yd at h;repeat' split at h
 all_goals simp at h
 .rename_i hp;rw[<-h.2];exact iw (abA hp) (jT λ_=>rfl)
 .rename_i hp _ _ _;rw[<-h.2];exact iw (abz hp) (jT λ_=>rfl)
theorem apV{H K:AH}{v:AV}(h:zx args H=some (v,K)):fj H K:=by
 unfold zx at h;repeat' split at h
 all_goals simp at h
 all_goals rw[<-h.2];exact jT λ_=>rfl
theorem ap1{H K:AH}{v:AV}(h:Bk args H=some (v,K)):fj H K:=by
 unfold Bk at h;repeat' split at h
 all_goals first
 |exact abG (f:=yd) (λ_ _ _ _=>apX) h|exact abG (f:=zx) (λ_ _ _ _=>apV) h|(simp at h;done)|(simp at h;rw[<-h.2];exact nB _)|(simp at h;rw[<-h.2];exact jT λ_=>rfl)
theorem apU{H K:AH}{v:AV}(h:Bi args H=some (v,K)):fj H K:=by
 unfold Bi at h;repeat' split at h
 all_goals first|exact abz h|(simp at h;done)|(simp at h;rw[<-h.2];exact nB _)
theorem Uh{H K:AH}{v:AV}(h:yc args H=some (v,K)):fj H K:=by
 unfold yc at h;repeat' split at h
 all_goals simp at h
 all_goals rw[<-h.2];exact jr rfl
theorem apS{H K:AH}{v:AV}(h:Bf args H=some (v,K)):fj H K:=by
 unfold Bf at h;repeat' split at h
 all_goals simp at h
 all_goals rw[<-h.2];exact jr rfl
theorem apR{H K:AH}{v:AV}(h:Be args H=some (v,K)):fj H K:=by
 unfold Be at h;repeat' split at h
 all_goals simp at h
 .rename_i hc;rw[<-h.2];exact iw (jr rfl) (iw (Uh hc) (jT λ_=>rfl))
 .rw[<-h.2];exact jr rfl
theorem apT{H K:AH}{v:AV}(h:Bg args H=some (v,K)):fj H K:=by
 unfold Bg at h;repeat' split at h
 all_goals simp at h
 all_goals rw[<-h.2]
 all_goals first
 | exact jr rfl
 | (rename_i hc;exact iw (jr rfl) (iw (Uh hc) (iw (jr (X:=[_]) rfl) (iw (jT λ_=>rfl) (jT λ_=>rfl)))))
 |(rename_i hc;refine iw (jr (X:=[_,_]) rfl) (iw (Uh hc) ?_);rw[<-fo];exact iw (jr (X:=[_]) rfl) (iw (jT λ_=>rfl) (jT λ_=>rfl)))
def ZB(t:Pt)(kd:Int)(off:BitVec 64)(b:Int):Pt:=if kd=0 then(fC t off).1 else if kd=1 then(fQ t off b).1 else(oI t b).1
def vZ(t t':Pt):Prop:=t'.A.length<=t.A.length+1/\t'.B.length<=t.B.length+1/\(jg t.A=true->jg t.B=true->jg t'.A=true/\jg t'.B=true)
theorem Ns(t:Pt):vZ t t:=⟨ω,ω,λa b=>⟨a,b⟩⟩
theorem Nt{t t':Pt}(hA:t'.A=t.A)(hB:t'.B=t.B):vZ t t':=⟨by rw[hA];omega,by rw[hB];omega,λa b=>⟨by rw[hA];exact a,by rw[hB];exact b⟩⟩
theorem X5(h:jg A=true)(hb:ft b):jg (A++[b])=true:=by unfold jg at*;simp[h,hb,fH]
theorem ZC{t:Pt}(hb:ft b):vZ t (iY t b).1:=by
 unfold iY;split
 .exact Nt rfl rfl
 .exact⟨by simp,by simp,λa c=>⟨X5 a hb,c⟩⟩
theorem akG(t:Pt):vZ t (sW t).1:=by
 unfold sW;cases h:t.A with|nil=>exact Ns t|cons a A=>
   refine⟨?_,?_,λe f=>⟨?_,f⟩⟩
   .rw[h];simp<;>omega
   .simp
   .rw[h]at e;unfold jg at*;simp only[bG,aQ]at e;exact e.2
theorem G1{t:Pt}{kd:Int}(hb:ft b):vZ t (ZB t kd off b):=by
 unfold ZB;split
 .unfold fC w5 zE;repeat' split
  all_goals first|exact akG t|exact Nt rfl rfl
 split
 .unfold fQ Bn xY;repeat' split
  all_goals first
 |exact Nt rfl rfl|exact⟨by simp,by simp,λa c=>⟨a,X5 c hb⟩⟩|exact ZC hb|exact⟨by simp,by simp,λa c=>⟨rfl,c⟩⟩|exact Nt (Qo t .aA .aA off b).2.1 (Qo t .aA .aA off b).2.2
 .unfold oI;split
  .exact ZC hb
  .exact Ns t
theorem Vr{K:AH}{t:Pt}{x y:Sc}(n:nb t)(hx:fL 1 iJ K x=some t.A)(hy:fL 1 iJ K y=some t.B)(la:t.A.length<=1000000)(lb:t.B.length<=1000000):jd K t x y:=⟨hx,hy,n.e,n.l,n.m,n.s,n.dl,n.dm,la,lb⟩
def Cg(H:AH)(u u':Sc):Prop:=∀i,aW u'=some i->aW u=some i\/H.length<=i
theorem apB{H K:AH}{u u':Sc}(h:HN K u u')(hl:H.length<=K.length):Cg H u u':=by
 rintro i hi;rcases h with rfl|rfl|⟨j,v,n,rfl,hj⟩
 .exact .inl hi
 .simp[aW]at hi
 .simp only[aW,ar]at hi;right;omega
theorem rL{u:Sc}(h:fL 1 iJ H u=some A)(hb:u.aj H.length=true)(hi:aW u=some i):i<H.length:=by
 rcases ayi h with rfl|⟨j,v,n,rfl⟩
 .simp[aW]at hi
 .simp only[aW,ar]at hi;subst hi;simpa[Sc.aj]using hb
theorem axO(t u:Pt):Bm u t=sU t u:=by
 have f:∀a b:Bool,decide (f1 a=f1 b)=(b==a):=by intro a b;cases a<;>cases b<;>rfl
 have c:∀a b:Int,decide (a=b)=decide (b=a):=λa b=>decide_eq_decide.2 eq_comm;have d:∀a b:List Int,decide (a=b)=decide (b=a):=λa b=>decide_eq_decide.2 eq_comm;unfold Bm sU KO;rw[f,f,f,c u.e,c u.l,c u.m,c u.s,c u.dl,c u.dm,d u.A,d u.B];simp only[Bool.and_assoc]
theorem axQ(t:Pt):Bm t t=true:=by unfold Bm KO;simp
end
end Go.Proofs.YtghlfboliomhcaaGreat
