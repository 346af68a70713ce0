/- An abstract machine for the model, part 1: its operations, and that they are the model's: no conditions. -/
import Derived.WalkKit
import Derived.Laws.BytesString
set_option linter.all false
/-
 An abstract machine for the model's Go: definitions. A frame is a list of slots with abstract values,a heap a list of abstract objects;
 'xop' runs one operation,'arun' a list of items;the next texts prove that whatever 'arun' says holds of the model.
-/
set_option maxRecDepth 100000
set_option maxHeartbeats 8000000
open Array renaming ext'->p9,getElem?_eq_none->qB,toList_map->Qv
open BitVec renaming ofInt->aw,toNat_ofInt->kU,eq_of_toNat_eq->lJ,lt_def->mY,le_def->rT
open Bool renaming true_and->gv,eq_iff_iff->Gp,false_eq_true->dC,not_false->En
open Int renaming tmod_eq_emod_of_nonneg->Gq,fdiv_eq_ediv_of_nonneg->afw
open List renaming replicate->bE,getElem?_eq_none->jQ,getElem?_toArray->Gx,getElem?_append_left->sY,all_eq_true->cD,length_cons->cZ,getD_eq_getElem?_getD->b9,eq_nil_of_length_eq_zero->uY,cons_append->kX,foldl_cons->XH,mem_cons->uj,length_drop->ui,length_append->cF,drop_drop->uX,replicate_succ->xn,flatten_cons->BB,take_succ_eq_append_getElem->GC,getElem?_map->qf,map_cons->fW,map_nil->iW,nil_append->jV,append_nil->kD,getElem?_set->qD,take_append_of_le_length->CF,length_nil->dY,getElem?_cons_zero->Gu
open List.cons renaming injEq->cK
open Nat renaming lt_or_ge->cU,zero_add->oU,add_assoc->mH,le_refl->aC,add_mul->uZ,one_mul->BD,min_eq_left->yw,add_zero->rj,lt_of_lt_of_le->CG,mul_pos->BC,le_mul_of_pos_right->XK
open Option renaming bind_eq_some_iff->kY,bind_some->QG,map_eq_some_iff->ef,toList->QI
open Option.some renaming injEq->ar
open Prod.mk renaming injEq->bD
open Go.Result renaming andThen_ok->c8
open Go.Sem renaming run_bind->c9,run_pure->fi
namespace Go.Am
theorem ω{p:Prop}(h:p:=by omega):p:=h
theorem δ{p:Prop}(h:p:=by decide):p:=h
theorem κ{p:Prop}(h:p:=by kernel_rfl):p:=h
inductive Sc where|i(n:Int)|u(x:BitVec 64)|k(kd:IntKind)(n:Int)|b(q:Bool)|qq|s(s:ByteArray)|dt|p(id off aX:Nat)|aA|sl(id off aX len:Nat)|f(fn:Nat)(Ex:List (Nat×Nat×Nat))|FD|HO|mp(id:Nat)|gM|AN|any
inductive AV where|c(s:Sc)|g(l:List Sc)|t(l:List AV)
inductive ae where|own(cs:List Sc)|vec(sz:Nat)(cs:List Sc)|view(cs:List Sc)|map(mq:Nat)(es:List (Nat×AV×AV))|iter(m since:Nat)(seen:List Nat)(last:Nat)|dead
def ae.row:ae->Nat|.vec _ cs=>cs.length|_=>0
def ae.cells:ae->List Sc|.own cs|.vec _ cs|.view cs=>cs|.map _ _|.iter _ _ _ _|.dead=>[]
def AV.cT:AV->List Sc|.c s=>[s]|.g l=>l|.t _=>[]
def ae.cT:ae->List Sc|.own cs|.vec _ cs|.view cs=>cs|.map _ es=>es.flatMap λe=>e.2.1.cT++e.2.2.cT|.iter m _ _ _=>[.mp m]|.dead=>[]
def ae.owned:ae->Bool|.own _|.vec _ _|.map _ _|.iter _ _ _ _=>true|_=>false
def ae.live:ae->Bool|.dead=>false|_=>true
def ae.put(o:ae)(cs:List Sc):ae:=match o with|.own _=>.own cs|.vec z _=>.vec z cs|o=>o
abbrev Fr:=List (Nat×AV)
abbrev AH:=List ae
def get:Fr->Nat->AV|[],_=>.c .any|(d,v)::r,s=>if d=s then v else get r s
def hg(H:AH)(i:Nat):ae:=H.getD i .dead
def lf:Value->Sc|.int .i64 n=>if-9223372036854775808<=n/\n<=9223372036854775807 then .i n else .AN|.int .u64 n=>if 0<=n/\n<=18446744073709551615 then .u (aw 64 n)else .AN|.int k n=>if k.min<=n/\n<=k.max then .k k n else .AN|.bool q=>.b q|.string s=>if s.size<=9223372036854775807 then .s s else .AN|.pointer none=>.dt|.slice none 0 0=>.aA|.nilFunc=>.FD|.map none=>.HO|.agg _=>.any|.tuple _=>.any|_=>.AN
def oe:Value->AV|.agg cs=>.g (cs.toList.map lf)|.func (.func f) ⟨[]⟩ ⟨[]⟩=>.c (.f f [])|v=>.c (lf v)
def ev(fr:Fr):Operand->AV|.tmp t=>get fr t|.const v=>oe v|.func f=>.c (.f f [])|.global _=>.c .any
inductive D where|int(k:IntKind)|bool|str|ptr(e:Nat)|sl(e:Nat)|arr(n e:Nat)|st(fs:List (Nat×Nat))|other|OI
def av(P:Program)(t:Nat):Nat:=((P.info? t).map (·.size)).getD 0
def dT(P:Program)(t:Nat):D:=match P.underlying t with|some (.int k)=>.int k|some .bool=>.bool|some .string=>.str|some (.pointer e)=>.ptr e|some (.slice e)=>.sl e|some (.array n e)=>if 0<av P e then .arr n e else .OI|some (.struct fs)=>if fs.toList.all (λf=>decide (0<av P f.type))then .st (fs.toList.map λf=>(f.offset,f.type))else .OI|some _=>.other|none=>.OI
def lY(P:Program)(t:Nat):Nat:=((P.info? t).map (·.bytes)).getD 0
def D.agg:D->Bool|.st _|.arr _ _=>true|_=>false
def D.is:D->Bool|.OI=>false|_=>true
def zT(P:Program)(t:Nat):Option (List Sc):=match(P.info? t).bind (·.zero)with|some (.agg cs)=>some (cs.toList.map lf)|some v=>some [lf v]|none=>none
def AV.cells:AV->Option (List Sc)|.c .any=>none|.c .gM=>none|.c s=>some [s]|.g l=>some l|.t _=>none
def Sc.one:Sc->Bool|.any|.gM=>false|_=>true
def az(n:Int):Int:=IntKind.i64.wrap n
def EB(op:BinOp)(x y:Int):Option AV:=match op with|.eql=>some (.c (.b (decide (x=y))))|.neq=>some (.c (.b (!decide (x=y))))|.lss=>some (.c (.b (decide (x<y))))|.leq=>some (.c (.b (decide (x<=y))))|.gtr=>some (.c (.b (decide (y<x))))|.geq=>some (.c (.b (decide (y<=x))))|_=>none
def Rr(op:BinOp)(x y:BitVec 64):Option AV:=match op with|.add=>some (.c (.u (x+y)))|.sub=>some (.c (.u (x-y)))|.mul=>some (.c (.u (x*y)))|.quo=>if y=0#64 then none else some (.c (.u (x/y)))|.rem=>if y=0#64 then none else some (.c (.u (x%y)))|.and=>some (.c (.u (x&&&y)))|.or=>some (.c (.u (x|||y)))|.xor=>some (.c (.u (x^^^y)))|.andNot=>some (.c (.u (x&&&~~~y)))|.eql=>some (.c (.b (decide (x=y))))|.neq=>some (.c (.b (!decide (x=y))))|.lss=>some (.c (.b (decide (x<y))))|.leq=>some (.c (.b (decide (x<=y))))|.gtr=>some (.c (.b (decide (y<x))))|.geq=>some (.c (.b (decide (y<=x))))|_=>none
def yB(op:BinOp)(x y:Int):Option AV:=match op with|.add=>some (.c (.i (az (x+y))))|.sub=>some (.c (.i (az (x-y))))|.mul=>some (.c (.i (az (x*y))))|.quo=>if y=0 then none else some (.c (.i (az (x.tdiv y))))|.rem=>if y=0 then none else some (.c (.i (x.tmod y)))|.and=>some (.c (.i (az ((aw 64 x&&&aw 64 y).toNat))))|.or=>some (.c (.i (az ((aw 64 x|||aw 64 y).toNat))))|op=>EB op x y
def xt(op:BinOp)(k:IntKind)(x y:Int):Option AV:=match op with|.add=>some (.c (.k k (k.wrap (x+y))))|.sub=>some (.c (.k k (k.wrap (x-y))))|.mul=>some (.c (.k k (k.wrap (x*y))))|.rem=>if 0<=x/\0<y then some (.c (.k k (x.tmod y)))else none|.and=>some (.c (.k k (k.wrap ((aw k.bits x&&&aw k.bits y).toNat))))|.or=>some (.c (.k k (k.wrap ((aw k.bits x|||aw k.bits y).toNat))))|.xor=>some (.c (.k k (k.wrap ((aw k.bits x^^^aw k.bits y).toNat))))|.andNot=>some (.c (.k k (k.wrap ((aw k.bits x&&&~~~(aw k.bits y)).toNat))))|op=>EB op x y
def Jq(op:BinOp)(x y:Bool):Option AV:=match op with|.eql=>some (.c (.b (x==y)))|.neq=>some (.c (.b (!(x==y))))|_=>none
def oA:Sc->Option Nat|.u y=>some y.toNat|.i n=>if 0<=n then some n.toNat else none|.k _ n=>if 0<=n then some n.toNat else none|_=>none
def P1(op:BinOp)(x:BitVec 64)(n:Nat):Option AV:=match op with|.shl=>some (.c (.u (x<<<n)))|.shr=>some (.c (.u (x>>>n)))|_=>none
def PZ(op:BinOp)(x:Int)(n:Nat):Option AV:=match op with|.shl=>some (.c (.i (az (x*2^(min n 64)))))|.shr=>some (.c (.i (x/2^(min n 64))))|_=>none
def P0(op:BinOp)(k:IntKind)(x:Int)(n:Nat):Option AV:=match op with|.shl=>some (.c (.k k (k.wrap (x*2^(min n k.bits)))))|.shr=>some (.c (.k k (x/2^(min n k.bits))))|_=>none
def Rp(op:BinOp)(x y:ByteArray):Option AV:=match op with|.eql=>some (.c (.b (decide (x=y))))|.neq=>some (.c (.b (!decide (x=y))))|.add=>if x.size+y.size<=9223372036854775807 then some (.c (.s (x++y)))else none|_=>none
inductive Tg where|n|q|s
def rJ:Tg->Sc->Sc->Option Bool|.n,.i x,.i y=>some (decide (x=y))|.n,.u x,.u y=>some (decide (x=y))|.n,.k k x,.k k' y=>if k=k' then some (decide (x=y))else none|.q,.b x,.b y=>some (x==y)|.s,.s x,.s y=>some (decide (x=y))|_,_,_=>none
def gB:List Tg->List Sc->List Sc->Option Bool
 |[],[],[]=>some true|g::gs,x::xs,y::ys=>match rJ g x y,gB gs xs ys with|some a,some c=>some (a&&c)|_,_=>none
 |_,_,_=>none
def iV(P:Program):Nat->Nat->Option (List Tg)|0,_=>none|d+1,t=>let r:Option (List Tg):=match P.underlying t with|some (.int _)=>some [.n]|some .bool=>some [.q]|some .string=>some [.s]|some (.struct fs)=>if P.stoodInHeld t then none else fs.toList.foldl (λ(o:Option (List Tg))f=>o.bind λl=>if f.offset=l.length/\f.name≠ "_"then(iV P d f.type).map λm=>l++m else none) (some [])|some (.array n e)=>(iV P d e).map λm=>(bE n m).flatten|_=>none;r.bind λl=>if l.length=av P t/\0<av P t/\(dT P t).is=true then some l else none
def qI(op:BinOp)(q:Bool):Option AV:=match op with|.eql=>some (.c (.b q))|.neq=>some (.c (.b (!q)))|_=>none
def cj(P:Program)(op:BinOp)(t:Nat)(x y:AV):Option AV:=match op,x,y with|.shl,.c (.u x),.c n=>(oA n).bind (P1 .shl x)|.shr,.c (.u x),.c n=>(oA n).bind (P1 .shr x)|.shl,.c (.i x),.c n=>(oA n).bind (PZ .shl x)|.shr,.c (.i x),.c n=>(oA n).bind (PZ .shr x)|.shl,.c (.k k x),.c n=>(oA n).bind (P0 .shl k x)|.shr,.c (.k k x),.c n=>(oA n).bind (P0 .shr k x)|op,.c (.u x),.c (.u y)=>Rr op x y|op,.c (.i x),.c (.i y)=>yB op x y|op,.c (.k k x),.c (.k k' y)=>if k=k' then xt op k x y else none|op,.c (.b x),.c (.b y)=>if(dT P t matches .bool)then Jq op x y else none|op,.c (.s x),.c (.s y)=>Rp op x y|op,.g x,.g y=>if(dT P t).agg=false then none else(iV P 12 t).bind λg=>(gB g x y).bind (qI op)|op,.c (.p _ _ _),.c .dt=>if(dT P t matches .ptr _)then qI op false else none|op,.c .dt,.c .dt=>if(dT P t matches .ptr _)then qI op true else none|op,.c (.sl _ _ _ n),.c .aA=>if(dT P t matches .sl _)then(if n=0 then((qI op false).map λ_=>.c .qq)else qI op false)else none|op,.c .aA,.c .aA=>if(dT P t matches .sl _)then qI op true else none|op,.c (.f _ _),.c .FD=>if(P.underlying t matches some (.func _ _ _))then qI op false else none|op,.c .FD,.c .FD=>if(P.underlying t matches some (.func _ _ _))then qI op true else none|_,_,_=>none
def BJ(op:UnOp)(x:AV):Option AV:=match op,x with|.not,.c (.b q)=>some (.c (.b (!q)))|.neg,.c (.i n)=>some (.c (.i (az (-n))))|.neg,.c (.u x)=>some (.c (.u (-x)))|.xor,.c (.u x)=>some (.c (.u (~~~x)))|_,_=>none
def mi(P:Program)(dst:Nat)(x:AV):Option AV:=match dT P dst,x with|.int .i64,.c (.i n)=>some (.c (.i n))|.int .i64,.c (.u x)=>some (.c (.i x.toInt))|.int .i64,.c (.k _ n)=>some (.c (.i n))|.int .u64,.c (.i n)=>some (.c (.u (aw 64 n)))|.int .u64,.c (.u x)=>some (.c (.u x))|.int .u64,.c (.k _ n)=>some (.c (.u (aw 64 n)))|.int k,.c (.i n)=>some (.c (.k k (k.wrap n)))|.int k,.c (.u x)=>some (.c (.k k (k.wrap x.toNat)))|.int k,.c (.k _ n)=>some (.c (.k k (k.wrap n)))|.str,.c (.s s)=>some (.c (.s s))|_,_=>none
def rd(ag:Bool)(cs:List Sc)(off n:Nat):AV:=if ag then .g ((cs.drop off).take n)else .c (cs.getD off .any)
def wr(cs:List Sc)(off:Nat)(l:List Sc):List Sc:=cs.take off++l++cs.drop (off+l.length)
def xG(place:Nat->Option (Nat×Nat)):List Sc->List (Nat×AV)->Option (List Sc)|cs,[]=>some cs|cs,(i,v)::r=>match place i,v.cells with|some (off,n),some l=>if l.length=n/\off+n<=cs.length then xG place (wr cs off l) r else none|_,_=>none
def OY(P:Program)(d:D)(i:Nat):Option (Nat×Nat):=match d with|.st fs=>(fs[i]?).map λf=>(f.1,av P f.2)|.arr _ e=>some (i*av P e,av P e)|_=>none
def GM(P:Program)(t:Nat)(ps:List (Nat×AV)):Option AV:=match zT P t,(dT P t).agg with|some z,true=>(xG (OY P (dT P t)) z ps).map .g|_,_=>none
def Ex:List AV->Option (List (Nat×Nat×Nat))|[]=>some []|.c (.p a b c)::r=>(Ex r).map ((a,b,c)::·)|_=>none
def tN:AV->Option Int|.c (.i n)=>some n|.c (.u x)=>some x.toNat|.c (.k _ n)=>some n|_=>none
def HE(P:Program)(t:Nat)(x ix:AV):Option AV:=match dT P t,x,tN ix with|.arr n e,.c (.p id off aX),some i=>if 0<=i/\i<n/\0<av P e then some (.c (.p id (off+i.toNat*av P e) aX))else none|.sl e,.c (.sl id off aX len),some i=>if 0<=i/\i<len/\0<av P e then some (.c (.p id (off+i.toNat*av P e) aX))else none|_,_,_=>none
def HD(P:Program)(t:Nat)(x ix:AV):Option AV:=match dT P t,x,tN ix with|.arr n e,.g l,some i=>if 0<=i/\i<n/\0<av P e/\(dT P e).is/\i.toNat*av P e+av P e<=l.length then some (rd (dT P e).agg l (i.toNat*av P e) (av P e))else none|.str,.c (.s s),some i=>if 0<=i/\i<s.size then some (.c (.k .u8 ((s.data.getD i.toNat 0).toNat)))else none|_,_,_=>none
def Fv:Option AV->Option Int|none=>some 0|some v=>tN v
def C2(n:Nat):Option AV->Option Int|none=>some n|some v=>tN v
def zB(P:Program)(t:Nat)(x:AV)(lo hi:Option AV):Option AV:=match dT P t,x with
 |.sl e,.c (.sl id off aX len)=>match Fv lo,C2 len hi with|some l,some h=>if 0<=l/\l<=h/\h<=len/\0<av P e then some (.c (.sl id (off+l.toNat*av P e) aX (h.toNat-l.toNat)))else none|_,_=>none
 |.sl e,.c .aA=>match Fv lo,C2 0 hi with|some l,some h=>if l=0/\h=0/\0<av P e then some (.c .aA)else none|_,_=>none
 |.arr n e,.c (.p id off aX)=>match Fv lo,C2 n hi with|some l,some h=>if 0<=l/\l<h/\h<=n/\n<=1048576/\0<av P e/\aX=0 then some (.c (.sl id (off+l.toNat*av P e) aX (h.toNat-l.toNat)))else none|_,_=>none
 |.str,.c (.s s)=>match Fv lo,C2 s.size hi with|some l,some h=>if 0<=l/\l<=h/\h<=s.size then some (.c (.s (s.extract l.toNat h.toNat)))else none|_,_=>none
 |_,_=>none
def IY(P:Program)(t:Nat)(x lo hi mx:AV):Option AV:=match dT P t,x with
 |.sl e,.c (.sl id off aX len)=>match tN lo,tN hi,tN mx with|some l,some h,some m=>if 0<=l/\l<h/\h<=m/\m<=len/\0<av P e then some (.c (.sl id (off+l.toNat*av P e) aX (h.toNat-l.toNat)))else none|_,_,_=>none
 |_,_=>none
def yW(P:Program)(t:Nat)(x:AV):Option AV:=match dT P t,x with|.sl _,.c (.sl _ _ _ len)=>some (.c (.i len))|.sl _,.c .aA=>some (.c (.i 0))|.str,.c (.s s)=>some (.c (.i s.size))|.arr n _,_=>if n<=1048576 then some (.c (.i n))else none|_,_=>none
def min2(mx:Bool):AV->AV->Option AV|.c (.i x),.c (.i y)=>some (.c (.i (if mx then max x y else min x y)))|_,_=>none
def OF(mx:Bool):List AV->Option AV|[x,y]=>min2 mx x y|_=>none
def mT(P:Program)(t:Nat):Option (Nat×Nat):=match P.underlying t with|some (.map k e)=>some (k,e)|_=>none
def kA(P:Program)(kt:Nat):Option Bool:=match dT P kt with|.int _=>some false|.st fs=>if fs.all (λf=>(match dT P f.2 with|.int _|.bool|.str=>true|_=>false)&&decide (0<av P f.2/\f.1+av P f.2<=av P kt))&&(iV P 12 kt).isSome then some true else none|_=>none
def kEq(P:Program)(kt:Nat)(x y:AV):Option Bool:=match kA P kt,x,y with|some false,.c (.i a),.c (.i b)=>some (decide (a=b))|some false,.c (.u a),.c (.u b)=>some (decide (a=b))|some false,.c (.k k a),.c (.k k' b)=>if k=k' then some (decide (a=b))else none|some true,.g l,.g m=>(iV P 12 kt).bind λg=>gB g l m|_,_,_=>none
def kOk(P:Program)(kt:Nat)(x:AV):Bool:=match kA P kt,x with|some false,.c (.i _)|some false,.c (.u _)|some false,.c (.k _ _)=>true|some true,.g l=>decide (l.length=av P kt)|_,_=>false
def ZZ(P:Program)(kt:Nat)(k:AV):List (Nat×AV×AV)->Nat->Option (Option (Nat×AV))|[],_=>some none|e::es,i=>match kEq P kt k e.2.1 with|some true=>some (some (i,e.2.2))|some false=>ZZ P kt k es (i+1)|none=>none
def AV.aBh:AV->Bool|.t _=>false|_=>true
def zA(P:Program)(t:Nat):Option AV:=((P.info? t).bind (·.zero)).map oe
def Uc(ok:Bool)(v:AV)(q:Bool):AV:=if ok then .t [v,.c (.b q)]else v
def aBs(P:Program)(t:Nat)(m k:AV)(ok:Bool)(H:AH):Option AV:=match mT P t with
 |some (kt,et)=>if kOk P kt k=true then match m with
 |.c .HO=>(zA P et).map λz=>Uc ok z false|.c (.mp id)=>match hg H id with
      |.map _ es=>match ZZ P kt k es 0 with|some (some (_,v))=>some (Uc ok v true)|some none=>(zA P et).map λz=>Uc ok z false|none=>none
      |_=>none
 |_=>none else none|none=>none
def CO(P:Program)(t:Nat)(x:AV)(H:AH):Option AH:=match dT P t,x with
 |.sl e,.c .aA=>some H|.sl e,.c (.sl id off aX n)=>match zT P e with|some z=>if n=0 then some H else if(hg H id).owned=true/\aX=(hg H id).row/\0<av P e/\z.length=av P e/\off+n*av P e<=(hg H id).cells.length/\z.all Sc.one=true then some (H.set id ((hg H id).put (wr (hg H id).cells off (bE n z).flatten)))else none|none=>none
 |_,_=>none
def Gd(H:AH)(sz:Nat)(y:AV):Option (List Sc×Nat):=match y with|.c .aA=>some ([],0)|.c (.sl id off aX n)=>if aX=(hg H id).row/\off+n*sz<=(hg H id).cells.length then some (((hg H id).cells.drop off).take (n*sz),n)else none|_=>none
def GX(P:Program)(t:Nat)(x y:AV)(H:AH):Option (AV×AH):=match dT P t,x with
 |.sl e,.c (.sl id off aX len)=>match Gd H (av P e) y with|some (new,n)=>if 0<av P e/\n<=len then if n=0 then some (.c (.i 0),H)else if(hg H id).owned=true/\aX=(hg H id).row/\off+new.length<=(hg H id).cells.length/\new.all Sc.one=true then some (.c (.i n),H.set id ((hg H id).put (wr (hg H id).cells off new)))else none else none|none=>none
 |_,_=>none
def aBf(id:Nat)(H:AH):Option AV:=match hg H id with
 |.iter m _ seen last=>match hg H m with|.map mq es=>if mq=last then match seen.getLast? with|some b=>(es.find? λe=>e.1==b).map λe=>.t [e.2.1,e.2.2]|none=>none else none|_=>none
 |_=>none
def Tv(_:Op)(_:List AV)(_:AH):Option (List (AV×AH)):=none
def sI:Op->List AV->Bool|.call ⟨.builtin .clear,_,_⟩,_|.call ⟨.builtin .copy,_,_⟩,_=>true|_,_=>false
def HM(P:Program)(op:Op)(vs:List AV)(H:AH):Option (AV×AH):=match op,vs with|.call ⟨.builtin .clear,_,ts⟩,[x]=>(ts[0]?).bind λt=>(CO P t x H).map λH'=>(.t [],H')|.call ⟨.builtin .copy,_,ts⟩,[x,y]=>(ts[0]?).bind λt=>GX P t x y H|_,_=>none
def iS(P:Program)(op:Op)(vs:List AV)(os:List ae):Option AV:=match op,vs with
 |.move _,[v]=>some v|.assign _,[v]=>some v|.pick _ _ _,[.c (.b q),x,y]=>some (if q then x else y)|.build t ps,vs=>GM P t ((ps.toList.map (·.1)).zip vs)|.load t _,[.c (.p _ off aX)]=>match os with|[o]=>if aX=o.row/\off+av P t<=o.cells.length/\0<av P t/\(dT P t).is/\((dT P t).agg=false->av P t=1)then some (rd (dT P t).agg o.cells off (av P t))else none|_=>none
 |.nilCheck _,[.c (.p id off aX)]=>some (.c (.p id off aX))|.nilCheck _,[.c (.f f cs)]=>some (.c (.f f cs))|.binOp op t _ _ _,[x,y]=>cj P op t x y|.unOp op _ _,[x]=>BJ op x|.convert src dst _,[x]=>if(dT P src).is then mi P dst x else none|.makeFunc (.func f) fs _,vs=>if fs.size=0 then(Ex vs).map λl=>.c (.f f l)else none|.fieldAddr t _ k,[.c (.p id off aX)]=>match dT P t with
   |.st fs=>match fs[k]? with|some f=>if 0<av P f.2 then some (.c (.p id (off+f.1) aX))else none|none=>none
   |_=>none
 |.field t _ k,[.g l]=>match dT P t with
   |.st fs=>match fs[k]? with|some f=>if 0<av P f.2/\(dT P f.2).is/\f.1+av P f.2<=l.length then some (rd (dT P f.2).agg l f.1 (av P f.2))else none|none=>none
   |_=>none
 |.indexAddr t _ _,[x,ix]=>HE P t x ix|.index t _ _,[x,ix]=>HD P t x ix|.slice t _ lo hi none,x::r=>match lo,hi,r with|none,none,[]=>zB P t x none none|some _,none,[l]=>zB P t x (some l) none|none,some _,[h]=>zB P t x none (some h)|some _,some _,[l,h]=>zB P t x (some l) (some h)|_,_,_=>none
 |.slice t _ (some _) (some _) (some _),[x,l,h,m]=>IY P t x l h m|.extract _ k,[.t l]=>l[k]?|.call ⟨.builtin .len,_,ts⟩,[x]=>match ts[0]? with|some t=>yW P t x|none=>none
 |.call ⟨.builtin .min,_,_⟩,vs=>OF false vs|.call ⟨.builtin .max,_,_⟩,vs=>OF true vs|_,_=>none
end Go.Am

/- The relation between abstract and concrete states, and the quiet operations: what 'qop' says the model's operation does. -/
namespace Go.Am
inductive L2{α β:Type}(R:α->β->Prop):List α->List β->Prop|nil:L2 R [] []|cons{a b l m}(h:R a b)(t:L2 R l m):L2 R (a::l) (b::m)
namespace L2
variable {α β:Type}{R:α->β->Prop}
theorem length{l:List α}{m:List β}(h:L2 R l m):l.length=m.length:=by induction h with|nil=>rfl|cons _ _ ih=>simp[ih]
theorem mono{R':α->β->Prop}{l:List α}{m:List β}(h:L2 R l m)(hr:∀a b,R a b->R' a b):L2 R' l m:=by induction h with|nil=>exact .nil|cons h _ ih=>exact .cons (hr _ _ h) ih
theorem get?{l:List α}{m:List β}(h:L2 R l m):∀(i:Nat)(a:α),l[i]?=some a->∃b,m[i]?=some b/\R a b:=by induction h with|nil=>intro i a h;simp at h|cons h _ ih=>intro i x hx;cases i with|zero=>simp at hx;subst hx;exact⟨_,by simp,h⟩|succ i=>simpa using ih i x (by simpa using hx)
theorem app{l l':List α}{m m':List β}(h:L2 R l m)(h':L2 R l' m'):L2 R (l++l') (m++m'):=by induction h with|nil=>simpa using h'|cons h _ ih=>exact .cons h ih
theorem take{l:List α}{m:List β}(h:L2 R l m):∀n,L2 R (l.take n) (m.take n):=by induction h with|nil=>intro n;simp;exact .nil|cons h _ ih=>intro n;cases n with|zero=>simp;exact .nil|succ n=>simpa using .cons h (ih n)
theorem drop{l:List α}{m:List β}(h:L2 R l m):∀n,L2 R (l.drop n) (m.drop n):=by induction h with|nil=>intro n;simp;exact .nil|cons h t ih=>intro n;cases n with|zero=>simpa using .cons h t|succ n=>simpa using ih n
theorem map{γ δ:Type}{f:γ->α}{g:δ->β}{l:List γ}{m:List δ}(h:L2 (λa b=>R (f a) (g b)) l m):L2 R (l.map f) (m.map g):=by induction h with|nil=>exact .nil|cons h _ ih=>exact .cons h ih
theorem adv{l:List α}{S:α->α->Prop}(h:∀a∈l,S a a):L2 S l l:=by induction l with|nil=>exact .nil|cons x l ih=>exact .cons (h x (by simp)) (ih λa ha=>h a (by simp[ha]))
theorem split{l1 l2:List α}{m:List β}(h:L2 R (l1++l2) m):∃m1 m2,m=m1++m2/\L2 R l1 m1/\L2 R l2 m2:=by induction l1 generalizing m with|nil=>exact⟨[],m,rfl,.nil,by simpa using h⟩|cons x l ih=>cases h with|cons h t=>obtain⟨m1,m2,rfl,a,b⟩:=ih t;exact⟨_::m1,m2,rfl,.cons h a,b⟩
end L2
structure Loc where
 dK:Nat
 off:Nat
 cap:Nat
 row:Nat
 nil:Bool
 vec:Bool
abbrev Ro:=Nat->Option Loc
def jR(ρ:Ro)(id off aX:Nat)(v:Value):Prop:=∃L a,ρ id=some L/\v=.pointer (some a)/\aX<=L.row/\(aX=L.row->L.nil=false/\(L.vec=true->0<L.row)/\a=⟨L.dK,L.off+off,none⟩)
def vO(ρ:Ro)(id off aX len:Nat)(v:Value):Prop:=∃L base cap,ρ id=some L/\v=.slice base len cap/\(base=none->len=0/\cap=0)/\len<=cap/\len<=9223372036854775807/\aX<=L.row/\(aX=L.row->if L.nil=true then base=none/\off=0/\len=0/\cap=0 else∃a,base=some a/\((off=0\/0<len)->a=⟨L.dK,L.off+off,none⟩)/\(off=0->L.vec=true->cap<=L.cap)/\(0<len->L.vec=true->0<L.row))
def b6(ρ:Ro):Sc->Value->Prop|.i n,v=>v=.int .i64 n/\-9223372036854775808<=n/\n<=9223372036854775807|.u x,v=>v=.int .u64 (x.toNat:Int)|.k kd n,v=>v=.int kd n/\kd.bits<=32/\kd.min<=n/\n<=kd.max|.b q,v=>v=.bool q|.qq,v=>∃q,v=.bool q|.s s,v=>v=.string s/\s.size<=9223372036854775807|.dt,v=>v=.pointer none|.p id off aX,v=>jR ρ id off aX v|.aA,v=>v=.slice none 0 0|.sl id off aX len,v=>vO ρ id off aX len v|.f fn cs,v=>∃cv:List Value,v=.func (.func fn) #[] cv.toArray/\L2 (λ(c:Nat×Nat×Nat)v=>jR ρ c.1 c.2.1 c.2.2 v) cs cv|.FD,v=>v=.nilFunc|.HO,v=>v=.map none|.mp id,v=>∃L b,ρ id=some L/\v=.map (some b)/\(L.row=0->b=L.dK)|.gM,v=>v=undef|.AN,v=>v.oneCell'=true|.any,_=>True
def V1(ρ:Ro):AV->Value->Prop|.c s,v=>b6 ρ s v|.g l,v=>∃cs:List Value,v=.agg cs.toArray/\L2 (b6 ρ) l cs|.t _,_=>False
def bg(ρ:Ro):AV->Value->Prop|.c s,v=>b6 ρ s v|.g l,v=>∃cs:List Value,v=.agg cs.toArray/\L2 (b6 ρ) l cs|.t l,v=>∃vs:List Value,v=.tuple vs.toArray/\L2 (V1 ρ) l vs
variable {ρ:Ro}{x:AV}
theorem V1.az2{v:Value}(h:V1 ρ x v):bg ρ x v:=by cases x<;>first|exact h|exact h.elim
variable {s:Sc}
theorem b6.one{v:Value}(h:b6 ρ s v)(h1:s≠.any)(h2:s≠.gM):v.oneCell'=true/\v.cells=#[v]:=by cases s with|i n=>obtain⟨rfl,_⟩:=h;exact⟨rfl,rfl⟩|u x=>cases h;exact⟨rfl,rfl⟩|k kd n=>obtain⟨rfl,_⟩:=h;exact⟨rfl,rfl⟩|b q=>cases h;exact⟨rfl,rfl⟩|qq=>obtain⟨q,rfl⟩:=h;exact⟨rfl,rfl⟩|s s=>obtain⟨rfl,_⟩:=h;exact⟨rfl,rfl⟩|dt=>cases h;exact⟨rfl,rfl⟩|p id off aX=>obtain⟨L,a,_,rfl,_⟩:=h;exact⟨rfl,rfl⟩|aA=>cases h;exact⟨rfl,rfl⟩|sl id off aX len=>obtain⟨L,a,c,_,rfl,_⟩:=h;exact⟨rfl,rfl⟩|f fn cs=>obtain⟨cv,rfl,_⟩:=h;exact⟨rfl,rfl⟩|FD=>cases h;exact⟨rfl,rfl⟩|HO=>cases h;exact⟨rfl,rfl⟩|mp id=>obtain⟨L,b,_,rfl,_⟩:=h;exact⟨rfl,rfl⟩|gM=>exact(h2 rfl).elim|AN=>have h:v.oneCell'=true:=h;refine⟨h,?_⟩;cases v<;>simp_all[Value.oneCell',Value.cells]|any=>exact(h1 rfl).elim
variable {l:List Sc}
theorem bg.cells{v:Value}(h:bg ρ x v)(hc:x.cells=some l):∃cs:List Value,v.cells=cs.toArray/\L2 (b6 ρ) l cs/\(∀s,x=.c s->cs=[v]):=by cases x with
 |c s=>
   change b6 ρ s v at h;have h1:s≠.any:=by rintro rfl;simp[AV.cells]at hc
   have h2:s≠.gM:=by rintro rfl;simp[AV.cells]at hc
   obtain rfl:l=[s]:=by cases s<;>simp_all[AV.cells]
   exact⟨[v],(b6.one h h1 h2).2,.cons h .nil,λ_ _=>rfl⟩|g l'=>simp[AV.cells]at hc;subst hc;obtain⟨cs,rfl,h2⟩:=h;exact⟨cs,rfl,h2,λ_ h=>by cases h⟩|t l'=>simp[AV.cells]at hc
theorem M3{kd:IntKind}(h:kd≠.i64)(h':kd≠.u64):kd.bits<=32:=by cases kd<;>simp_all[IntKind.bits]
theorem att{v:Value}(h1:∀cs,v=.agg cs->False)(h2:∀cs,v=.tuple cs->False):v.oneCell'=true:=by cases v<;>first|rfl|exact(h1 _ rfl).elim|exact(h2 _ rfl).elim
theorem MO(ρ:Ro)(v:Value):b6 ρ (lf v) v:=by
 unfold lf;split
 .split
  .exact⟨rfl,ω,ω⟩
  .rfl
 .split
  .rename_i n h;show Value.int .u64 n=.int .u64 _;have:((aw 64 n).toNat:Int)=n:=by rw[kU];omega
   rw[this]
  .rfl
 .rename_i kd n h1 h2;split
  .refine⟨rfl,M3 (λe=>?_) (λe=>?_),ω,ω⟩
   .subst e;exact h1 rfl
   .subst e;exact h2 rfl
  .rfl
 .rfl
 .split
  .exact⟨rfl,ω⟩
  .rfl
 .rfl
 .rfl
 .rfl
 .rfl
 .trivial
 .trivial
 .exact att (by assumption) (by assumption)
theorem agw(ρ:Ro)(v:Value):bg ρ (oe v) v:=by
 unfold oe;split
 .rename_i cs;refine⟨cs.toList,by simp,?_⟩;have:L2 (λa b=>b6 ρ (lf a) b) cs.toList cs.toList:=L2.adv λa _=>MO ρ a;simpa using L2.map (f:=lf) (g:=id) this
 .exact⟨[],rfl,.nil⟩
 .exact MO ρ v
theorem G6{fr:Fr}{a:Act}(h:∀s,bg ρ (get fr s) (a.tmps.getD s undef))(x:Operand):bg ρ (ev fr x) (a.eval x):=by cases x with|tmp t=>exact h t|const v=>exact agw ρ v|global g=>trivial|func f=>exact⟨[],rfl,.nil⟩
def jJ(ρ:Ro)(w:World)(i:Nat):ae->Prop|.own cs=>∃(L:Loc)(c:List Value)(t:Nat),ρ i=some L/\L.off=0/\L.row=0/\L.nil=false/\L.vec=false/\w.heap[L.dK]?=some (.cells c.toArray t (0,0))/\L2 (b6 ρ) cs c|.vec sz cs=>∃(L:Loc),ρ i=some L/\L.off=0/\L.row=cs.length/\L.vec=true/\0<sz/\if L.nil=true then cs=[]/\L.cap=0 else∃(c d:List Value)(t:Nat),w.heap[L.dK]?=some (.cells (c++d).toArray t (0,0))/\L.cap*sz=(c++d).length/\L2 (b6 ρ) cs c|.view cs=>∃(L:Loc),ρ i=some L/\L.row=0/\L.vec=false/\(L.nil=true->cs=[])/\(L.nil=false->L.dK<w.heap.size)/\∀j s,cs[j]?=some s->∃v,w.cell? ⟨L.dK,L.off+j,none⟩=some v/\b6 ρ s v|.map mq es=>∃(L:Loc)(tC:List MapEntry),ρ i=some L/\L.off=0/\L.row=0/\L.nil=false/\L.vec=false/\w.heap[L.dK]?=some (.map tC.toArray mq)/\L2 (λ(a:Nat×AV×AV)(e:MapEntry)=>e.born=a.1/\V1 ρ a.2.1 e.key/\V1 ρ a.2.2 e.val) es tC|.iter m since seen last=>∃(L:Loc)(b:Nat),ρ i=some L/\L.off=0/\L.row=0/\L.nil=false/\L.vec=false/\b6 ρ (.mp m) (.map (some b))/\w.heap[L.dK]?=some (.mapIter (some b) since seen.toArray last)|.dead=>True
variable {w:World}{i:Nat}{o:ae}{L:Loc}
theorem jJ.cell{j:Nat}(h:jJ ρ w i o)(hL:ρ i=some L)(hs:o.cells[j]?=some s):∃v,w.cell? ⟨L.dK,L.off+j,none⟩=some v/\b6 ρ s v:=by cases o with
 |own cs=>
 obtain⟨L',c,t,h1,h2,_,_,_,h3,h4⟩:=h;obtain rfl:L=L':=by simpa[hL]using h1
 obtain⟨v,hv,hr⟩:=h4.get? j s hs;exact⟨v,by simp[World.cell?,h3,h2,hv],hr⟩|vec sz cs=>
   obtain⟨L',h1,h2,h3,_,_,h4⟩:=h;obtain rfl:L=L':=by simpa[hL]using h1
   split at h4
   .obtain⟨rfl,_⟩:=h4;simp[ae.cells]at hs
   .obtain⟨c,d,t,h5,_,h6⟩:=h4;obtain⟨v,hv,hr⟩:=h6.get? j s hs;refine⟨v,?_,hr⟩;have hj:j<c.length:=by
     rcases cU j c.length with h'|h'
     .exact h'
     .simp[jQ h']at hv
    simp only[World.cell?,h5,h2,oU,Gx,sY hj,hv];rfl|view cs=>
 obtain⟨L',h1,_,_,_,_,h4⟩:=h;obtain rfl:L=L':=by simpa[hL]using h1
 exact h4 j s hs|map mq es=>simp[ae.cells]at hs|iter m since seen last=>simp[ae.cells]at hs|dead=>simp[ae.cells]at hs
theorem jJ.row(h:jJ ρ w i o)(hL:ρ i=some L)(hl:o.live=true):L.row=o.row:=by cases o with
 | own cs=>obtain⟨L',c,t,h1,_,h2,_⟩:=h;obtain rfl:L=L':=by simpa[hL]using h1
           exact h2
 | vec sz cs=>obtain⟨L',h1,_,h2,_⟩:=h;obtain rfl:L=L':=by simpa[hL]using h1
              exact h2
 | view cs=>obtain⟨L',h1,h2,_⟩:=h;obtain rfl:L=L':=by simpa[hL]using h1
            exact h2
 | map mq es=>obtain⟨L',tC,h1,_,h2,_⟩:=h;obtain rfl:L=L':=by simpa[hL]using h1
              exact h2
 | iter m since seen last=>obtain⟨L',b,h1,_,h2,_⟩:=h;obtain rfl:L=L':=by simpa[hL]using h1
                           exact h2|dead=>simp[ae.live]at hl
end Go.Am

/- The quiet operations: what 'qop' says is what the model's operation does. -/
namespace Go.Am
variable {P:Program}{ρ:Ro}
def bI:Op->List Operand|.move x|.assign x|.box _ x|.load _ x|.nilCheck x|.unOp _ _ x|.convert _ _ x|.fieldAddr _ x _|.field _ x _|.extract x _|.range _ x|.next x _|.entry x=>[x]|.pick c a b=>[c,a,b]|.build _ ps|.buildSlice _ _ ps=>ps.toList.map (·.2)|.store _ a v|.binOp _ _ a v _|.makeSlice _ a v|.indexAddr _ a v|.index _ a v|.lookup _ a v _=>[a,v]|.makeMap _ r=>r.toList|.mapUpdate _ m k v|.insert _ m k v=>[m,k,v]|.makeFunc _ _ cs=>cs.toList|.slice _ x l h m=>x::(l.toList++h.toList++m.toList)|.call ⟨.value f,as,_⟩=>f::as.toList|.call ⟨.builtin _,as,_⟩=>as.toList|_=>[]
def uf:Op->List AV->List Nat|.load _ _,.c (.p id _ _)::_=>[id]|.store _ _ _,.c (.p id _ _)::_=>[id]|.call ⟨.builtin .append,_,_⟩,[.c (.sl id _ _ _),.c (.sl pA _ _ _)]=>[id,pA]|.call ⟨.builtin .append,_,_⟩,[.c .aA,.c (.sl pA _ _ _)]=>[pA]|.call ⟨.builtin .append,_,_⟩,[.c (.sl id _ _ _),.c .aA]=>[id]|_,_=>[]
variable {t:Nat}{k:IntKind}
theorem Br(h:dT P t=.int k):P.underlying t=some (.int k):=by unfold dT at h;split at h<;>(try split at h)<;>simp_all
theorem azQ(h:dT P t=.bool):P.underlying t=some .bool:=by unfold dT at h;split at h<;>(try split at h)<;>simp_all
theorem Mr(h:dT P t=.str):P.underlying t=some .string:=by unfold dT at h;split at h<;>(try split at h)<;>simp_all
variable {e:Nat}
theorem ae4(h:dT P t=.ptr e):P.underlying t=some (.pointer e):=by unfold dT at h;split at h<;>(try split at h)<;>simp_all
theorem mE(h:dT P t=.sl e):P.underlying t=some (.slice e):=by unfold dT at h;split at h<;>(try split at h)<;>simp_all
variable {n:Nat}
theorem Mq(h:dT P t=.arr n e):P.underlying t=some (.array n e)/\0<av P e:=by unfold dT at h;split at h<;>(try split at h)<;>simp_all
variable {fs:List (Nat×Nat)}
theorem Xk(h:dT P t=.st fs):∃gs,P.underlying t=some (.struct gs)/\(∀f∈gs.toList,0<av P f.type)/\fs=gs.toList.map λf=>(f.offset,f.type):=by unfold dT at h;cases hu:P.underlying t with|none=>simp[hu]at h|some x=>
   rw[hu]at h;cases x;case struct gs=>
    simp only at h;split at h
    .rename_i hc;simp only[D.st.injEq]at h;exact⟨gs,rfl,λf hf=>by simpa using cD.1 hc f hf,h.symm⟩
    .simp at h
   case array n e=>simp only at h;split at h<;>simp at h
   all_goals simp at h
theorem Qe(h:(dT P t).is=true):∃d,P.underlying t=some d/\((dT P t).agg=true↔(d matches .struct _|.array _ _)=true):=by unfold dT at*;cases hu:P.underlying t with|none=>simp[hu,D.is]at h|some x=>
   rw[hu]at h;cases x<;>simp[D.agg]
   .rename_i n e;simp only at h|-;split at h
    .rename_i hc;simp[hc]
    .simp[D.is]at h
   .rename_i fs;simp only at h|-;split at h
    .rename_i hc;simp at hc;simp[hc]
    .simp[D.is]at h
theorem Kr(h:0<av P t):∃i,P.info? t=some i/\i.size=av P t:=by unfold av at*;cases hi:P.info? t with|none=>simp[hi]at h|some i=>exact⟨i,rfl,by simp⟩
theorem mC(h:0<av P t)(w:World):(sizeOf t).run P w=.ok (av P t) w:=by obtain⟨i,hi,hs⟩:=Kr h;simp[sizeOf,typeInfo,hi,hs]
theorem adT(h:(dT P t).is=true)(w:World):(isAgg t).run P w=.ok (dT P t).agg w:=by obtain⟨d,hd,hq⟩:=Qe h;simp only[isAgg,c9,run_underlying hd,c8];cases h2:(dT P t).agg<;>simp only[h2]at hq<;>cases d<;>simp at hq|-
theorem run_loadCellsFrom(w:World)(a:Addr)(vs:List Value):∀(i:Nat)(acc:Array Value),(∀j v,vs[j]?=some v->w.cell? (a.add (i+j))=some v)->(loadCellsFrom a i vs.length acc).run P w=.ok (acc++vs.toArray) w:=by induction vs with|nil=>intro i acc _;simp[loadCellsFrom]|cons v vs ih=>
   intro i acc h;have h0:w.cell? (a.add i)=some v:=by simpa using h 0 v (by simp)
   simp only[cZ,loadCellsFrom,c9,run_load,h0,c8];rw[ih (i+1) (acc.push v) (λj u hu=>by have:=h (j+1) u (by simpa using hu);rwa[show i+1+j=i+(j+1)by omega])];simp
theorem Addr.BF(b o n:Nat):(⟨b,o,none⟩:Addr).add n=⟨b,o+n,none⟩:=by
 unfold Addr.add;split
 .subst_vars;rfl
 .rfl
variable {α:Type}
theorem ZG(l:List α)(o n j:Nat)(a:α)(h:((l.drop o).take n)[j]?=some a):l[o+j]?=some a:=by
 rw[List.getElem?_take]at h;split at h
 .simpa using h
 .simp at h
variable {w:World}{i off:Nat}{o:ae}{L:Loc}
theorem abe(ho:jJ ρ w i o)(hL:ρ i=some L)(hlen:off+av P t<=o.cells.length)(cJ:0<av P t)(Az:(dT P t).is=true)(nQ:(dT P t).agg=false->av P t=1):∃v,(loadVar t ⟨L.dK,L.off+off,none⟩).run P w=.ok v w/\bg ρ (rd (dT P t).agg o.cells off (av P t)) v:=by have Hk:=λ(j:Nat)(s:Sc)(hs:o.cells[j]?=some s)=>ho.cell hL hs;simp only[loadVar,c9,adT Az,c8];cases qL:(dT P t).agg with
 |true=>
   have key:∀(l:List Sc)(p:Nat),(∀j s,l[j]?=some s->o.cells[p+j]?=some s)->∃vs:List Value,L2 (b6 ρ) l vs/\∀j v,vs[j]?=some v->w.cell? ⟨L.dK,L.off+(p+j),none⟩=some v:=by intro l;induction l with|nil=>intro p _;exact⟨[],.nil,by simp⟩|cons s l ih=>intro p h;obtain⟨v,hv,hr⟩:=Hk p s (by simpa using h 0 s (by simp));obtain⟨vs,h1,h2⟩:=ih (p+1) (λj s' uC=>by have:=h (j+1) s' (by simpa using uC);rwa[show p+1+j=p+(j+1)by omega]);refine⟨v::vs,.cons hr h1,λj u hu=>?_⟩;cases j with|zero=>simp at hu;subst hu;exact hv|succ j=>have:=h2 j u (by simpa using hu);rwa[show p+(j+1)=p+1+j by omega]
   obtain⟨vs,h1,h2⟩:=key ((o.cells.drop off).take (av P t)) off (λj s hs=>ZG _ _ _ _ _ hs);have hl:vs.length=av P t:=by rw[<-h1.length];simp;omega
   refine⟨.agg vs.toArray,?_,vs,rfl,h1⟩;simp only[if_true,c9,mC cJ,c8,loadCells];rw[<-hl,run_loadCellsFrom w _ vs 0 #[] (λj v hv=>by rw[Addr.BF,oU,mH];exact h2 j v hv)];simp|false=>
 have h1:=nQ qL;have aL:off<o.cells.length:=ω
 obtain⟨v,hv,hr⟩:=Hk off o.cells[off] (by simp[aL]);refine⟨v,by simp[hv],?_⟩;show b6 ρ (o.cells.getD off .any) v;rw[b9];simp[aL,hr]
theorem uF(x:BitVec 64):aw 64 (x.toNat:Int)=x:=by simp
theorem I9(n:Int):IntKind.u64.wrap n=((aw 64 n).toNat:Int):=by rw[IntKind.wrap_u64,kU];omega
theorem Ef(n:Int):-9223372036854775808<=az n/\az n<=9223372036854775807:=by unfold az;simp only[IntKind.wrap,IntKind.bits,IntKind.signed,gv];split<;>simp at*<;>omega
theorem I6{n:Int}(h:-9223372036854775808<=n)(h':n<=9223372036854775807):az n=n:=by unfold az;simp only[IntKind.wrap,IntKind.bits,IntKind.signed,gv];split<;>simp at*<;>omega
theorem zK(k:IntKind)(n:Int):k.min<=k.wrap n/\k.wrap n<=k.max:=by cases k<;>simp only[IntKind.wrap,IntKind.bits,IntKind.signed,IntKind.min,IntKind.max,gv,Bool.false_and]<;>(try split)<;>simp at*<;>omega
theorem aAq(x:BitVec 64):IntKind.i64.wrap (x.toNat:Int)=x.toInt:=by have h:=x.isLt;rw[BitVec.toInt_eq_toNat_cond];simp only[IntKind.wrap,IntKind.bits,IntKind.signed,gv];split<;>split<;>simp at*<;>omega
end Go.Am

/- Binary and unary operations, conversions. -/
namespace Go.Am
variable {P:Program}{ρ:Ro}
theorem Le{t off:Nat}{cs:List Value}(Az:(dT P t).is=true)(cJ:0<av P t)(w:World)(hlen:off+av P t<=cs.length):(part t cs.toArray off).run P w=.ok (if(dT P t).agg=true then .agg ((cs.drop off).take (av P t)).toArray else cs.getD off .nilIface) w:=by simp only[part,c9,adT Az,c8];cases qL:(dT P t).agg with
 |true=>simp only[if_true,c9,mC cJ,c8,fi,Result.ok.injEq,Value.agg.injEq,and_true];apply p9;simp[List.extract_eq_take_drop]|false=>
 have:off<cs.length:=ω
 simp[this]
def yZ(P:Program)(t:Nat)(cs:List Value):Value:=if(dT P t).agg=true then .agg cs.toArray else cs.getD 0 .nilIface
theorem bytes_beq(a b:ByteArray):(a==b)=decide (a=b):=by rw[beq_toListBytes,ByteArray.toList_eq,ByteArray.toList_eq];obtain⟨⟨x⟩⟩:=a;obtain⟨⟨y⟩⟩:=b;rw[Gp];simp
variable {y:Value}{q:Bool}
theorem WM{g:Tg}{a b:Sc}{x:Value}(h:rJ g a b=some q)(hx:b6 ρ a x)(hy:b6 ρ b y):(g=.n/\∃k m n,x=.int k m/\y=.int k n/\q=(m==n))\/(g=.q/\∃m n,x=.bool m/\y=.bool n/\q=(m==n))\/(g=.s/\∃m n,x=.string m/\y=.string n/\q=(m==n)):=by
 unfold rJ at h;split at h
 .simp at h;obtain⟨rfl,_⟩:=hx;obtain⟨rfl,_⟩:=hy;exact .inl ⟨rfl,_,_,_,rfl,rfl,by rw[<-h];rfl⟩
 .simp at h;cases hx;cases hy;refine .inl ⟨rfl,_,_,_,rfl,rfl,?_⟩;rw[<-h,Gp];simp[BitVec.toNat_eq];omega
 .split at h
  .simp at h;obtain⟨rfl,_⟩:=hx;obtain⟨rfl,_⟩:=hy;subst_vars;exact .inl ⟨rfl,_,_,_,rfl,rfl,rfl⟩
  .simp at h
 .simp at h;cases hx;cases hy;exact .inr (.inl ⟨rfl,_,_,rfl,rfl,h.symm⟩)
 .simp at h;obtain⟨rfl,_⟩:=hx;obtain⟨rfl,_⟩:=hy;exact .inr (.inr ⟨rfl,_,_,rfl,rfl,by rw[<-h,bytes_beq]⟩)
 .simp at h
variable {g:List Tg}{a b:List Sc}
theorem Nk(h:gB g a b=some q):a.length=g.length/\b.length=g.length:=by induction g generalizing a b q with|nil=>unfold gB at h;split at h<;>simp_all|cons t g ih=>match a,b,h with
 |x::a,y::b,h=>
 simp only[gB]at h;split at h
 .rename_i p r hp hr;have:=ih hr;simp[this]
 .simp at h|[],_,h=>simp[gB]at h|_::_,[],h=>simp[gB]at h
theorem Zd(h:gB [] a b=some q):q=true:=by obtain⟨h1,h2⟩:=Nk h;rw[uY (l:=a) h1,uY (l:=b) h2]at h;simpa[gB]using h.symm
theorem Ze{g1 g2:List Tg}(h:gB (g1++g2) a b=some q):∃q1 q2,gB g1 (a.take g1.length) (b.take g1.length)=some q1/\gB g2 (a.drop g1.length) (b.drop g1.length)=some q2/\q=(q1&&q2):=by induction g1 generalizing a b q with|nil=>exact⟨true,q,rfl,by simpa using h,by simp⟩|cons t g1 ih=>match a,b,h with
 |x::a,y::b,h=>
 simp only[kX,gB]at h;split at h
 .rename_i p r hp hr;obtain⟨q1,q2,h1,h2,rfl⟩:=ih hr;simp at h;exact⟨p&&q1,q2,by simp[gB,hp,h1],by simpa using h2,by rw[<-h];cases p<;>cases q1<;>rfl⟩
 .simp at h
variable {d t:Nat}
theorem Mp(h:iV P d t=some g):g.length=av P t/\0<av P t:=by cases d with|zero=>simp[iV]at h|succ d=>
 unfold iV at h;simp only[kY]at h;obtain⟨l,_,h⟩:=h;split at h
 .rename_i hc;simp at h;subst h;exact⟨hc.1,hc.2.1⟩
 .simp at h
theorem I4(h:iV P d t=some g):(dT P t).is=true:=by cases d with|zero=>simp[iV]at h|succ d=>
 unfold iV at h;simp only[kY]at h;obtain⟨l,_,h⟩:=h;split at h
 .rename_i hc;exact hc.2.2
 .simp at h
variable {n e:Nat}
theorem X3(hu:P.underlying t=some (.array n e))(h:(dT P t).is=true):(dT P t).agg=true:=by obtain⟨d,hd,hq⟩:=Qe h;rw[hu]at hd;simp at hd;subst hd;simpa using hq
theorem X4{fs:Array Field}(hu:P.underlying t=some (.struct fs))(h:(dT P t).is=true):(dT P t).agg=true:=by obtain⟨d,hd,hq⟩:=Qe h;rw[hu]at hd;simp at hd;subst hd;simpa using hq
theorem ayM(h:iV P d t=some g)(ha:(dT P t).agg=false):av P t=1:=by obtain⟨hl,_⟩:=Mp h;cases d with|zero=>simp[iV]at h|succ d=>
   unfold iV at h;simp only[kY]at h;obtain⟨l,h,h2⟩:=h;split at h2
   .simp at h2;subst h2;cases hu:P.underlying t with|none=>simp[hu]at h|some x=>
 cases x;case struct fs=>rename_i hc;rw[X4 hu hc.2.2]at ha;simp at ha
 case array n e=>rename_i hc;rw[X3 hu hc.2.2]at ha;simp at ha
 all_goals(unfold dT at ha;rw[hu]at h ha;simp[D.agg]at h ha<;>(subst h;rw[<-hl];rfl))
   .simp at h2
variable {α β:Type}
theorem Z3(f:α->β->Option α)(l:List β):l.foldl (λ(o:Option α)x=>o.bind λn=>f n x) none=none:=by induction l with|nil=>rfl|cons x l ih=>simpa using ih
def G7(P:Program)(d:Nat)(l:List Tg)(f:Field):Option (List Tg):=if f.offset=l.length/\f.name≠ "_"then(iV P d f.type).map λm=>l++m else none
theorem aeR:∀(fs:List Field)(l g:List Tg),fs.foldl (λ(o:Option (List Tg))f=>o.bind λl=>G7 P d l f) (some l)=some g->(∃r,g=l++r)/\∀f∈fs,∃m,iV P d f.type=some m:=by intro fs;induction fs with|nil=>intro l g h;simp at h;subst h;exact⟨⟨[],by simp⟩,by simp⟩|cons f fs ih=>intro l g h;simp only[XH,QG]at h;cases hf:G7 P d l f with|none=>rw[hf,Z3]at h;simp at h|some l'=>
 rw[hf]at h;obtain⟨⟨r,rfl⟩,h2⟩:=ih _ _ h;unfold G7 at hf;split at hf
 .simp only[ef]at hf;obtain⟨m,hm,rfl⟩:=hf;exact⟨⟨m++r,by simp⟩,by simp only[uj,forall_eq_or_imp];exact⟨⟨m,hm⟩,h2⟩⟩
 .simp at hf
theorem alR:∀(d:Nat)(t:Nat)(g:List Tg),iV P d t=some g->∀E,d<=E->P.eqGuardType E t=false:=by intro d;induction d with|zero=>intro t g h;simp[iV]at h|succ d ih=>intro t g h E hE;obtain⟨E,rfl⟩:∃F,E=F+1:=⟨E-1,ω⟩;unfold iV at h;simp only[kY]at h;obtain⟨l,h,_⟩:=h;unfold Program.eqGuardType;cases hu:P.underlying t with|none=>simp[hu]at h|some x=>rw[hu]at h;cases x with
 |array n e=>simp only[ef]at h;obtain⟨m,hm,_⟩:=h;exact ih _ _ hm E ω|struct fs=>
       simp only at h;split at h
       .simp at h
       .obtain⟨_,h2⟩:=aeR fs.toList _ _ h;simp only[Array.any_eq_false];intro i hi hn;obtain⟨m,hm⟩:=h2 fs[i] (by simp);have:=ih _ _ hm E ω;simp[this]at hn|_=>simp at h|-
def QM(P:Program)(ρ:Ro)(d E:Nat):Prop:=∀t g,iV P d t=some g->∀lx ly cx cy q,L2 (b6 ρ) lx cx->L2 (b6 ρ) ly cy->gB g lx ly=some q->∀w,(Op.equalIn E t (yZ P t cx) (yZ P t cy)).run P w=.ok q w
theorem abo(h:iV P d e=some g)(zs:List Value)(o:Nat):(if(dT P e).agg=true then Value.agg ((zs.drop o).take (av P e)).toArray else zs.getD o .nilIface)=yZ P e ((zs.drop o).take (av P e)):=by
 unfold yZ;split
 .rfl
 .rename_i qL;have:=ayM h (by simpa using qL);rw[this];simp[b9]
theorem ak4(E:Nat)(xs ys:List Value)(lx ly:List Sc)(hx:L2 (b6 ρ) lx xs)(hy:L2 (b6 ρ) ly ys)(ih:QM P ρ d E):∀(fs:List Field)(l g:List Tg)(q:Bool)(w:World),fs.foldl (λ(o:Option (List Tg))f=>o.bind λl=>G7 P d l f) (some l)=some g->gB (g.drop l.length) (lx.drop l.length) (ly.drop l.length)=some q->(Op.eqFields E xs.toArray ys.toArray fs).run P w=.ok q w:=by intro fs;induction fs with|nil=>intro l g q w hn hq;simp at hn;subst hn;rw[List.drop_of_length_le (aC _)]at hq;obtain rfl:=Zd hq;simp[Op.eqFields]|cons f fs ihf=>intro l g q w hn hq;simp only[XH,QG]at hn;cases hf:G7 P d l f with|none=>rw[hf,Z3]at hn;simp at hn|some l'=>
     rw[hf]at hn;unfold G7 at hf;split at hf
     .rename_i hc;obtain⟨jm,qQ⟩:=hc;simp only[ef]at hf;obtain⟨m,hm,rfl⟩:=hf;obtain⟨⟨r,rfl⟩,_⟩:=aeR _ _ _ hn;obtain⟨BY,hz⟩:=Mp hm;have e0:((l++m)++r).drop l.length=m++r:=by simp
      rw[e0]at hq;obtain⟨q1,q2,h1,h2,rfl⟩:=Ze hq;obtain⟨AA,AB⟩:=Nk hq;have hxl:=hx.length;have hyl:=hy.length;simp only[ui,cF]at AA AB;rw[BY]at h1;have r1:=ih f.type m hm _ _ _ _ _ ((hx.drop l.length).take (av P f.type)) ((hy.drop l.length).take (av P f.type)) h1;have Td:=λw=>Le (P:=P) (cs:=xs) (off:=l.length) (I4 hm) hz w ω;have Te:=λw=>Le (P:=P) (cs:=ys) (off:=l.length) (I4 hm) hz w ω;simp only[Op.eqFields,qQ,ne_eq,not_false_eq_true,if_true,c9,jm,Td,Te,abo hm,c8,r1];cases q1
      .simp
      .simp only[Bool.not_true,dC,if_false,gv];refine ihf _ _ _ w hn ?_;have e1:((l++m)++r).drop (l++m).length=r:=by simp
       rw[e1];simpa[uX]using h2
     .simp at hf
theorem ak2(E e:Nat)(m:List Tg)(hm:iV P d e=some m)(xs ys:List Value)(lx ly:List Sc)(hx:L2 (b6 ρ) lx xs)(hy:L2 (b6 ρ) ly ys)(ih:QM P ρ d E)(w:World):∀(k s:Nat)(q:Bool),gB (bE k m).flatten (lx.drop (s*av P e)) (ly.drop (s*av P e))=some q->(forIn (List.range' s k) (none,()) (λi(_:Option Bool×Unit)=>do let a<-part e xs.toArray (i*av P e)let b<-part e ys.toArray (i*av P e)let r<-Op.equalIn E e a b if(!r)=true then pure (ForInStep.done (some false,()))else pure (ForInStep.yield (none,())))).run P w=.ok (if q then(none,())else(some false,())) w:=by obtain⟨BY,hz⟩:=Mp hm;have hxl:=hx.length;have hyl:=hy.length;intro k;induction k with|zero=>intro s q hq;obtain rfl:=Zd (by simpa using hq);simp|succ k Oq=>
   intro s q hq;have hs:(s+1)*av P e=s*av P e+av P e:=by rw[uZ,BD]
   rw[xn,BB]at hq;obtain⟨q1,q2,g1,g2,rfl⟩:=Ze hq;obtain⟨AA,AB⟩:=Nk hq;simp only[ui,cF]at AA AB;rw[BY]at g1;have r1:=ih e m hm _ _ _ _ _ ((hx.drop (s*av P e)).take (av P e)) ((hy.drop (s*av P e)).take (av P e)) g1;have Td:=λw=>Le (P:=P) (cs:=xs) (off:=s*av P e) (I4 hm) hz w ω;have Te:=λw=>Le (P:=P) (cs:=ys) (off:=s*av P e) (I4 hm) hz w ω;rw[List.range'_succ,List.forIn_cons];simp only[c9,Td,Te,abo hm,c8,r1];cases q1
   .simp
   .simp only[Bool.not_true,dC,if_false,fi,c8,gv];refine Oq (s+1) q2 ?_;rw[hs,<-uX,<-uX];rw[BY]at g2;exact g2
theorem alb:∀(d E:Nat),d<=E->QM P ρ d E:=by intro d;induction d with|zero=>intro E hE t g h;simp[iV]at h|succ d ih=>
   intro E hE t g h lx ly cx cy q hx hy hq w;obtain⟨E,rfl⟩:∃F,E=F+1:=⟨E-1,ω⟩;have HC:=ih E ω;obtain⟨hlen,hz⟩:=Mp h;have h0:=h;unfold iV at h;simp only[kY]at h;obtain⟨l,h,h2⟩:=h;split at h2;case isFalse=>simp at h2
   simp at h2;subst h2;have SA:∀g0,l=[g0]->(dT P t).agg=false->∃a b x y,b6 ρ a x/\b6 ρ b y/\rJ g0 a b=some q/\yZ P t cx=x/\yZ P t cy=y:=by intro g0 hg qL;subst hg;obtain⟨AA,AB⟩:=Nk hq;match lx,ly,AA,AB with|[a],[b],_,_=>cases hx with|cons ha ta=>cases ta with|nil=>cases hy with|cons hb tb=>cases tb with|nil=>
              refine⟨a,b,_,_,ha,hb,?_,by simp[yZ,qL],by simp[yZ,qL]⟩;simp only[gB]at hq;split at hq
              .rename_i p r hp hr;simp at hr;subst hr;simpa[hp]using hq
              .simp at hq
   cases hu:P.underlying t with|none=>simp[hu]at h|some x=>rw[hu]at h;cases x with|bool=>simp at h;obtain⟨a,b,x,y,ha,hb,hs,e1,e2⟩:=SA _ h.symm (by simp[dT,hu,D.agg]);rw[e1,e2];rcases WM hs ha hb with⟨hg,k,m,n,rfl,rfl,rfl⟩|⟨hg,m,n,rfl,rfl,rfl⟩|⟨hg,m,n,rfl,rfl,rfl⟩<;>simp at hg;exact run_equalIn_bool w E t m n hu|int k=>simp at h;obtain⟨a,b,x,y,ha,hb,hs,e1,e2⟩:=SA _ h.symm (by simp[dT,hu,D.agg]);rw[e1,e2];rcases WM hs ha hb with⟨hg,k',m,n,rfl,rfl,rfl⟩|⟨hg,m,n,rfl,rfl,rfl⟩|⟨hg,m,n,rfl,rfl,rfl⟩<;>simp at hg;exact run_equalIn_int w E t k' k m n hu|string=>simp at h;obtain⟨a,b,x,y,ha,hb,hs,e1,e2⟩:=SA _ h.symm (by simp[dT,hu,D.agg]);rw[e1,e2];rcases WM hs ha hb with⟨hg,k',m,n,rfl,rfl,rfl⟩|⟨hg,m,n,rfl,rfl,rfl⟩|⟨hg,m,n,rfl,rfl,rfl⟩<;>simp at hg;rw[beq_toListBytes];exact run_equalIn_string w E t m n hu|struct fs=>
       simp only at h;split at h
       .simp at h
       rename_i dW;have qL:(dT P t).agg=true:=X4 hu (I4 h0);simp only[yZ,qL,if_true];have hfs:P.fieldsOf t=fs:=by simp[Program.fieldsOf,hu]
       rw[run_equalIn_struct w E t _ _ (by rw[hfs];exact hu) (by simpa using dW),hfs];exact ak4 E cx cy lx ly hx hy HC fs.toList [] l q w h (by simpa using hq)|array n e=>simp only[ef]at h;obtain⟨m,hm,rfl⟩:=h;have qL:(dT P t).agg=true:=X3 hu (I4 h0);simp only[yZ,qL,if_true];have AJ:=(Mp hm).2;have key:=ak2 E e m hm cx cy lx ly hx hy HC w n 0 q (by simpa using hq);simp only[Op.equalIn,c9,run_underlying hu,c8,mC AJ];rw[Std.Legacy.Range.forIn_eq_forIn_range'];simp only[Std.Legacy.Range.size,Nat.sub_zero,Nat.add_sub_cancel,Nat.div_one,key,c8];cases q<;>rfl|_=>simp at h
end Go.Am

/- Binary and unary operations, conversions: the model's runs. -/
namespace Go.Am
variable {P:Program}{ρ:Ro}
variable {op:BinOp}{v:AV}
theorem Y9{x y:Int}(h:EB op x y=some v)(w:World):∃vc,(Op.intCmp op x y).run P w=.ok vc w/\bg ρ v vc:=by cases op<;>simp[EB]at h<;>subst h<;>refine⟨_,rfl,?_⟩<;>rfl
variable {q:Bool}
theorem CP(h:qI op q=some v):(op=.eql/\bg ρ v (.bool q))\/(op=.neq/\bg ρ v (.bool (!q))):=by
 cases op<;>simp[qI]at h<;>subst h
 .exact .inl ⟨rfl,rfl⟩
 .exact .inr ⟨rfl,rfl⟩
theorem aeV(x y:BitVec 64):((x.toNat:Int)=y.toNat)↔x=y:=by
 constructor
 .intro h;apply lJ;omega
 .rintro rfl;rfl
theorem ahQ{x y:BitVec 64}(h:Rr op x y=some v)(t:Nat)(w:World):∃vc,(binOp op t (.int .u64 x.toNat) (.int .u64 y.toNat)).run P w=.ok vc w/\bg ρ v vc:=by
 have hx:=x.isLt;have hy:=y.isLt;have e:∀n:Int,IntKind.u64.wrap n=((aw 64 n).toNat:Int):=I9;cases op<;>simp[Rr]at h;case add=>subst h;refine⟨_,rfl,?_⟩;show Value.int .u64 _=.int .u64 _;rw[e,BitVec.ofInt_add];simp
 case sub=>subst h;refine⟨_,rfl,?_⟩;show Value.int .u64 _=.int .u64 _;rw[e,Int.sub_eq_add_neg,BitVec.ofInt_add,BitVec.ofInt_neg];simp[BitVec.sub_eq_add_neg]
 case mul=>subst h;refine⟨_,rfl,?_⟩;show Value.int .u64 _=.int .u64 _;rw[e,BitVec.ofInt_mul];simp
 case quo=>
  obtain⟨hz,rfl⟩:=h;have AJ:(y.toNat:Int)≠0:=λh=>hz (lJ (by simpa using h));refine⟨.int .u64 (IntKind.u64.wrap ((x.toNat:Int).tdiv y.toNat)),?_,?_⟩
  .simp only[binOp,Op.intDiv,ne_eq,not_true_eq_false,if_false,AJ];rfl
  .show Value.int .u64 _=.int .u64 _;rw[e,Int.tdiv_eq_ediv_of_nonneg ω];have:((x.toNat:Int)/y.toNat)=((x.toNat/y.toNat:Nat):Int):=by simp
   rw[this];have h2:x.toNat/y.toNat<=x.toNat:=Nat.div_le_self _ _;simp only[BitVec.ofInt_natCast,BitVec.toNat_ofNat,BitVec.toNat_udiv];rw[Nat.mod_eq_of_lt ω]
 case rem=>
  obtain⟨hz,rfl⟩:=h;have AJ:(y.toNat:Int)≠0:=λh=>hz (lJ (by simpa using h));refine⟨.int .u64 ((x.toNat:Int).tmod y.toNat),?_,?_⟩
  .simp only[binOp,Op.intDiv,ne_eq,not_true_eq_false,if_false,AJ];rfl
  .show Value.int .u64 _=.int .u64 _;rw[Gq ω];simp
 case and=>subst h;refine⟨_,rfl,?_⟩;show Value.int .u64 (IntKind.u64.wrap ((aw 64 _&&&aw 64 _).toNat))=.int .u64 _;rw[e,uF,uF,uF]
 case or=>subst h;refine⟨_,rfl,?_⟩;show Value.int .u64 (IntKind.u64.wrap ((aw 64 _|||aw 64 _).toNat))=.int .u64 _;rw[e,uF,uF,uF]
 case xor=>subst h;refine⟨_,rfl,?_⟩;show Value.int .u64 (IntKind.u64.wrap ((aw 64 _^^^aw 64 _).toNat))=.int .u64 _;rw[e,uF,uF,uF]
 case andNot=>subst h;refine⟨_,rfl,?_⟩;show Value.int .u64 (IntKind.u64.wrap ((aw 64 _&&&~~~aw 64 _).toNat))=.int .u64 _;rw[e,uF,uF,uF]
 all_goals subst h;refine⟨_,rfl,?_⟩;show Value.bool _=.bool _;first|(rw[Value.bool.injEq,Gp];simp[aeV,mY,rT];done)|(rw[Value.bool.injEq,Gp];simp[mY,rT];rw[<-aeV];simp)
theorem azB{x y:Int}(hx:-9223372036854775808<=x/\x<=9223372036854775807):-9223372036854775808<=x.tmod y/\x.tmod y<=9223372036854775807:=by
 have h:=Int.natAbs_tmod x y;have h2:x.natAbs%y.natAbs<=x.natAbs:=Nat.mod_le _ _;rcases Int.le_total 0 x with h3|h3
 .have:=Int.tmod_nonneg y h3;omega
 .have h4:=Int.tmod_nonneg (a:=-x) y ω;rw[Int.neg_tmod]at h4;omega
theorem ahO{x y:Int}(h:yB op x y=some v)(hx:-9223372036854775808<=x/\x<=9223372036854775807)(t:Nat)(w:World):∃vc,(binOp op t (.int .i64 x) (.int .i64 y)).run P w=.ok vc w/\bg ρ v vc:=by
 cases op;case add=>simp[yB]at h;subst h;exact⟨_,rfl,rfl,Ef _⟩
 case sub=>simp[yB]at h;subst h;exact⟨_,rfl,rfl,Ef _⟩
 case mul=>simp[yB]at h;subst h;exact⟨_,rfl,rfl,Ef _⟩
 case quo=>simp[yB]at h;obtain⟨hz,rfl⟩:=h;exact⟨.int .i64 (IntKind.i64.wrap (x.tdiv y)),by simp[binOp,Op.intDiv,hz],rfl,Ef _⟩
 case rem=>simp[yB]at h;obtain⟨hz,rfl⟩:=h;exact⟨.int .i64 (x.tmod y),by simp[binOp,Op.intDiv,hz],rfl,azB hx⟩
 case and=>simp[yB]at h;subst h;exact⟨_,rfl,rfl,Ef _⟩
 case or=>simp[yB]at h;subst h;exact⟨_,rfl,rfl,Ef _⟩
 all_goals first|(simp[yB,EB]at h;done)|(simp only[yB]at h;obtain⟨vc,h1,h2⟩:=Y9 (P:=P) (ρ:=ρ) h w;exact⟨vc,by simpa[binOp]using h1,h2⟩)
theorem anL(k:IntKind):k.min<=0:=by cases k<;>decide
variable {k:IntKind}
theorem ahP{x y:Int}(h:xt op k x y=some v)(hk:k.bits<=32)(hx:k.min<=x/\x<=k.max)(t:Nat)(w:World):∃vc,(binOp op t (.int k x) (.int k y)).run P w=.ok vc w/\bg ρ v vc:=by
 cases op;case add=>simp[xt]at h;subst h;exact⟨.int k (k.wrap (x+y)),by simp[binOp,Op.intArith],rfl,hk,zK _ _⟩
 case sub=>simp[xt]at h;subst h;exact⟨.int k (k.wrap (x-y)),by simp[binOp,Op.intArith],rfl,hk,zK _ _⟩
 case mul=>simp[xt]at h;subst h;exact⟨.int k (k.wrap (x*y)),by simp[binOp,Op.intArith],rfl,hk,zK _ _⟩
 case rem=>
  simp only[xt]at h;split at h
  .rename_i hc;simp only[ar]at h;subst h;have hz:y≠0:=ω
   refine⟨.int k (x.tmod y),by simp[binOp,Op.intDiv,hz],rfl,hk,?_,?_⟩
   .have:=anL k;have:=Int.tmod_nonneg y hc.1;omega
   .rw[Gq hc.1];have h1:=Int.emod_nonneg x hz;have h2:x%y<=x:=by
     rcases Int.lt_or_le x y with c|c
     .rw[Int.emod_eq_of_lt hc.1 c];omega
     .have:=Int.emod_lt_of_pos x hc.2;omega
    omega
  .simp at h
 case and=>simp[xt]at h;subst h;exact⟨.int k (k.wrap ((aw k.bits x&&&aw k.bits y).toNat)),by simp[binOp,Op.intBits],rfl,hk,zK _ _⟩
 case or=>simp[xt]at h;subst h;exact⟨.int k (k.wrap ((aw k.bits x|||aw k.bits y).toNat)),by simp[binOp,Op.intBits],rfl,hk,zK _ _⟩
 case xor=>simp[xt]at h;subst h;exact⟨.int k (k.wrap ((aw k.bits x^^^aw k.bits y).toNat)),by simp[binOp,Op.intBits],rfl,hk,zK _ _⟩
 case andNot=>simp only[xt,ar]at h;subst h;exact⟨.int k (k.wrap ((aw k.bits x&&&~~~(aw k.bits y)).toNat)),by simp[binOp,Op.intBits],rfl,hk,zK _ _⟩
 all_goals first|(simp[xt,EB]at h;done)|(simp only[xt]at h;obtain⟨vc,h1,h2⟩:=Y9 (P:=P) (ρ:=ρ) h w;exact⟨vc,by simpa[binOp]using h1,h2⟩)
variable {s:Sc}{n:Nat}
theorem G8{v:Value}(h:oA s=some n)(hv:b6 ρ s v):∃k m,v=.int k m/\0<=m/\m.toNat=n:=by
 cases s<;>simp[oA]at h
 .obtain⟨rfl,_⟩:=hv;exact⟨_,_,rfl,h.1,h.2⟩
 .cases hv;exact⟨_,_,rfl,ω,by simpa using h⟩
 .obtain⟨rfl,_⟩:=hv;exact⟨_,_,rfl,h.1,h.2⟩
variable {m:Int}
theorem aex{x:BitVec 64}(h:P1 op x n=some v)(t:Nat)(k:IntKind)(hm:0<=m)(hn:m.toNat=n)(w:World):∃vc,(binOp op t (.int .u64 x.toNat) (.int k m)).run P w=.ok vc w/\bg ρ v vc:=by
 subst hn;have hx:=x.isLt;have jG:¬m<0:=ω
 cases op<;>simp[P1]at h
 .subst h;refine⟨.int .u64 (IntKind.u64.wrap (x.toNat*2^(min m.toNat 64))),by simp[binOp,Op.shift,jG,IntKind.bits],?_⟩;show Value.int .u64 _=.int .u64 _;congr 1;rw[IntKind.wrap_u64,BitVec.toNat_shiftLeft,Nat.shiftLeft_eq];have:((x.toNat:Int)*2^(min m.toNat 64))=((x.toNat*2^(min m.toNat 64):Nat):Int):=by simp
  rw[this];rcases Nat.le_total m.toNat 64 with hle|hle
  .rw[yw hle];omega
  .rw[Nat.min_eq_right hle];obtain⟨d,hd⟩:=Nat.exists_eq_add_of_le hle;have e1:x.toNat*2^m.toNat=x.toNat*2^d*18446744073709551616:=by rw[hd,Nat.pow_add,Nat.mul_comm (2^64),<-Nat.mul_assoc]
   rw[e1];simp only[Nat.reducePow];omega
 .subst h;refine⟨.int .u64 ((x.toNat:Int).fdiv (2^(min m.toNat 64))),by simp[binOp,Op.shift,jG,IntKind.bits],?_⟩;show Value.int .u64 _=.int .u64 _;congr 1;have hp:(0:Int)<=2^(min m.toNat 64):=Int.le_of_lt (Int.pow_pos ω);rw[afw _ hp,BitVec.toNat_ushiftRight,Nat.shiftRight_eq_div_pow];have:((2:Int)^(min m.toNat 64))=((2^(min m.toNat 64):Nat):Int):=by simp
  rw[this,<-Int.natCast_ediv];congr 1;rcases Nat.le_total m.toNat 64 with hle|hle
  .rw[yw hle]
  .rw[Nat.min_eq_right hle];have h1:2^64<=2^m.toNat:=Nat.pow_le_pow_right ω hle;rw[Nat.div_eq_of_lt hx,Nat.div_eq_of_lt ω]
theorem ZN{x a b:Int}(n:Nat)(ha:a<=x)(hb:x<=b)(ha0:a<=0)(ru:0<=b):a<=x/2^n/\x/2^n<=b:=by
 have hp:(1:Int)<=2^n:=by have:(0:Int)<2^n:=Int.pow_pos ω;omega
 generalize(2:Int)^n=p at hp;constructor
 .rw[Int.le_ediv_iff_mul_le ω];have:a*p<=a*1:=Int.mul_le_mul_of_nonpos_left ha0 ω;omega
 .have h1:x/p<=b/p:=Int.ediv_le_ediv ω hb;have h2:b/p<=b:=Int.ediv_le_self _ ru;omega
theorem aev{x:Int}(h:PZ op x n=some v)(hx:-9223372036854775808<=x/\x<=9223372036854775807)(t:Nat)(k:IntKind)(hm:0<=m)(hn:m.toNat=n)(w:World):∃vc,(binOp op t (.int .i64 x) (.int k m)).run P w=.ok vc w/\bg ρ v vc:=by
 subst hn;have jG:¬m<0:=ω
 cases op<;>simp[PZ]at h<;>subst h
 .exact⟨.int .i64 (IntKind.i64.wrap (x*2^(min m.toNat 64))),by simp[binOp,Op.shift,jG,IntKind.bits],rfl,Ef _⟩
 .refine⟨.int .i64 (x.fdiv (2^(min m.toNat 64))),by simp[binOp,Op.shift,jG,IntKind.bits],?_,?_⟩
  .rw[afw _ (Int.le_of_lt (Int.pow_pos ω))]
  .exact ZN _ hx.1 hx.2 ω ω
theorem aaW(k:IntKind):k.min<=0/\0<=k.max:=by cases k<;>simp[IntKind.min,IntKind.max,IntKind.signed,IntKind.bits]
theorem aew{kd:IntKind}{x:Int}(h:P0 op kd x n=some v)(hk:kd.bits<=32)(hx:kd.min<=x/\x<=kd.max)(t:Nat)(k:IntKind)(hm:0<=m)(hn:m.toNat=n)(w:World):∃vc,(binOp op t (.int kd x) (.int k m)).run P w=.ok vc w/\bg ρ v vc:=by
 subst hn;have jG:¬m<0:=ω
 cases op<;>simp[P0]at h<;>subst h
 .exact⟨.int kd (kd.wrap (x*2^(min m.toNat kd.bits))),by simp[binOp,Op.shift,jG],rfl,hk,zK _ _⟩
 .refine⟨.int kd (x.fdiv (2^(min m.toNat kd.bits))),by simp[binOp,Op.shift,jG],?_,hk,?_⟩
  .rw[afw _ (Int.le_of_lt (Int.pow_pos ω))]
  .exact ZN _ hx.1 hx.2 (aaW kd).1 (aaW kd).2
variable {y:Value}
theorem amH{x:Value}(op:BinOp)(t:TypeId)(X Y:Operand)(hx:b6 ρ s x)(h1:s≠.any)(h2:s≠.gM)(h4:s≠.AN):eqGuard op t X Y x y=pure ():=by
 have h:=(b6.one hx h1 h2).1;have h3:x≠.nilIface:=by rintro rfl;cases s<;>simp[b6,jR,vO]at hx<;>simp_all
 cases op<;>first|rfl|(cases x<;>first|rfl|(simp[Value.oneCell']at h;done)|exact(h3 rfl).elim)
variable {t:Nat}
theorem ahT{x y:Bool}(ht:dT P t=.bool)(h:Jq op x y=some v)(w:World):∃vc,(binOp op t (.bool x) (.bool y)).run P w=.ok vc w/\bg ρ v vc:=by
 have hu:=azQ ht;cases op<;>simp[Jq]at h<;>subst h
 .exact⟨.bool (x==y),by simp[binOp,Op.equal,Op.maxDepth,run_equalIn_bool w 9999 t x y hu],rfl⟩
 .exact⟨.bool (!(x==y)),by simp[binOp,Op.equal,Op.maxDepth,run_equalIn_bool w 9999 t x y hu],rfl⟩
theorem ayD{x y:ByteArray}(t:Nat)(h:Rp op x y=some v)(w:World):∃vc,(binOp op t (.string x) (.string y)).run P w=.ok vc w/\bg ρ v vc:=by
 have BX:IntKind.i64.max=9223372036854775807:=by decide
 cases op<;>simp[Rp]at h
 .obtain⟨hl,rfl⟩:=h;have:¬(((x.size+y.size:Nat):Int)>IntKind.i64.max):=by rw[BX];omega
  refine⟨.string (x++y),?_,rfl,by simpa using hl⟩;simp only[binOp,Op.stringOp,this,if_false,fi]
 .subst h;refine⟨_,rfl,?_⟩;show Value.bool _=.bool _;rw[<-beq_toListBytes,bytes_beq]
 .subst h;refine⟨_,rfl,?_⟩;show Value.bool _=.bool _;rw[<-beq_toListBytes,bytes_beq]
variable {e:Nat}
theorem ZT(hu:P.underlying t=some (.pointer e))(a:Addr)(d:Nat)(w:World):(Op.equalIn (d+1) t (.pointer (some a)) (.pointer none)).run P w=.ok false w:=by simp only[Op.equalIn,c9,run_underlying hu,c8];rfl
theorem ZS(hu:P.underlying t=some (.pointer e))(d:Nat)(w:World):(Op.equalIn (d+1) t (.pointer none) (.pointer none)).run P w=.ok true w:=by simp only[Op.equalIn,c9,run_underlying hu,c8];rfl
theorem ZR{a b:Array TypeId}{c:Bool}(hu:P.underlying t=some (.func a b c))(f:Fn)(x y:Array Value)(d:Nat)(w:World):(Op.equalIn (d+1) t (.func f x y) .nilFunc).run P w=.ok false w:=by simp only[Op.equalIn,c9,run_underlying hu,c8];rfl
theorem ZQ{a b:Array TypeId}{c:Bool}(hu:P.underlying t=some (.func a b c))(d:Nat)(w:World):(Op.equalIn (d+1) t .nilFunc .nilFunc).run P w=.ok true w:=by simp only[Op.equalIn,c9,run_underlying hu,c8];rfl
theorem Nz{c:Nat}{a:Addr}(hu:P.underlying t=some (.slice e))(d:Nat)(w:World):(Op.equalIn (d+1) t (.slice (some a) n c) (.slice none 0 0)).run P w=.ok false w:=by simp only[Op.equalIn,c9,run_underlying hu,c8];rfl
theorem Ny(hu:P.underlying t=some (.slice e))(d:Nat)(w:World):(Op.equalIn (d+1) t (.slice none 0 0) (.slice none 0 0)).run P w=.ok true w:=by simp only[Op.equalIn,c9,run_underlying hu,c8];rfl
variable {w:World}
theorem CQ{x:Value}(hb:binOp .eql t x y=(do pure (.bool (<-Op.equal t x y))))(h:(Op.equalIn (9999+1) t x y).run P w=.ok q w):(binOp .eql t x y).run P w=.ok (.bool q) w:=by rw[hb];simp only[Op.equal,Op.maxDepth,c9];rw[show(10000:Nat)=9999+1 from rfl,h];rfl
theorem Di{x:Value}(hb:binOp .neq t x y=(do pure (.bool (!(<-Op.equal t x y)))))(h:(Op.equalIn (9999+1) t x y).run P w=.ok q w):(binOp .neq t x y).run P w=.ok (.bool (!q)) w:=by rw[hb];simp only[Op.equal,Op.maxDepth,c9];rw[show(10000:Nat)=9999+1 from rfl,h];rfl
variable {x:AV}{cx cy:Value}
theorem agv{y:AV}(h:cj P op t x y=some v)(hx:bg ρ x cx)(hy:bg ρ y cy)(X Y:Operand)(w:World):∃vc,(do eqGuard op t X Y cx cy;binOp op t cx cy).run P w=.ok vc w/\bg ρ v vc:=by
 have amY:12<=P.depth:=by simp only[Program.depth,Made.depth];omega
 have gs:∀{s:Sc},b6 ρ s cx->s≠.any->s≠.gM->s≠.AN->eqGuard op t X Y cx cy=pure ():=λh h1 h2 h4=>amH op t X Y h h1 h2 h4;have fin:∀{s:Sc},bg ρ (.c s) cx->s≠.any->s≠.gM->s≠.AN->(∃vc,(binOp op t cx cy).run P w=.ok vc w/\bg ρ v vc)->∃vc,(do eqGuard op t X Y cx cy;binOp op t cx cy).run P w=.ok vc w/\bg ρ v vc:=by intro s h1 h2 h3 h6⟨vc,h4,h5⟩;exact⟨vc,by simp[gs h1 h2 h3 h6,h4],h5⟩
 unfold cj at h;split at h;case h_12=>
  rename_i l m;split at h
  .simp at h
  rename_i qL;rw[kY]at h;obtain⟨g,hg,h⟩:=h;rw[kY]at h;obtain⟨q,hq,h⟩:=h;obtain⟨cs,rfl,cu⟩:=hx;obtain⟨ds,rfl,xL⟩:=hy;have qL:(dT P t).agg=true:=by simpa using qL
  have hr:=alb (P:=P) (ρ:=ρ) 12 10000 ω t g hg _ _ _ _ _ cu xL hq w;simp only[yZ,qL,if_true]at hr;have Ob:(eqGuard op t X Y (.agg cs.toArray) (.agg ds.toArray)).run P w=.ok () w:=run_eqGuard_agg w op t X Y _ _ (alR 12 t g hg _ amY);rcases CP (ρ:=ρ) h with⟨rfl,hv⟩|⟨rfl,hv⟩
  .exact⟨_,by simp only[c9,Ob,c8,run_eql_struct,hr],hv⟩
  .exact⟨_,by simp only[c9,Ob,c8,run_neq_struct,hr],hv⟩
 case h_1=>rw[kY]at h;obtain⟨n,hn,h⟩:=h;obtain⟨k,m,rfl,h1,h2⟩:=G8 hn hy;refine fin hx (by simp) (by simp) (by simp) ?_;cases hx;exact aex h t k h1 h2 w
 case h_2=>rw[kY]at h;obtain⟨n,hn,h⟩:=h;obtain⟨k,m,rfl,h1,h2⟩:=G8 hn hy;refine fin hx (by simp) (by simp) (by simp) ?_;cases hx;exact aex h t k h1 h2 w
 case h_3=>rw[kY]at h;obtain⟨n,hn,h⟩:=h;obtain⟨k,m,rfl,h1,h2⟩:=G8 hn hy;refine fin hx (by simp) (by simp) (by simp) ?_;obtain⟨rfl,hb⟩:=hx;exact aev h hb t k h1 h2 w
 case h_4=>rw[kY]at h;obtain⟨n,hn,h⟩:=h;obtain⟨k,m,rfl,h1,h2⟩:=G8 hn hy;refine fin hx (by simp) (by simp) (by simp) ?_;obtain⟨rfl,hb⟩:=hx;exact aev h hb t k h1 h2 w
 case h_5=>rw[kY]at h;obtain⟨n,hn,h⟩:=h;obtain⟨k,m,rfl,h1,h2⟩:=G8 hn hy;refine fin hx (by simp) (by simp) (by simp) ?_;obtain⟨rfl,hk,hb⟩:=hx;exact aew h hk hb t k h1 h2 w
 case h_6=>rw[kY]at h;obtain⟨n,hn,h⟩:=h;obtain⟨k,m,rfl,h1,h2⟩:=G8 hn hy;refine fin hx (by simp) (by simp) (by simp) ?_;obtain⟨rfl,hk,hb⟩:=hx;exact aew h hk hb t k h1 h2 w
 case h_7=>refine fin hx (by simp) (by simp) (by simp) ?_;cases hx;cases hy;exact ahQ h t w
 case h_8=>refine fin hx (by simp) (by simp) (by simp) ?_;obtain⟨rfl,hb⟩:=hx;obtain⟨rfl,_⟩:=hy;exact ahO h hb t w
 case h_9=>
  split at h
  .subst_vars;refine fin hx (by simp) (by simp) (by simp) ?_;obtain⟨rfl,hk,hb⟩:=hx;obtain⟨rfl,_⟩:=hy;exact ahP h hk hb t w
  .simp at h
 case h_10=>
  split at h
  .rename_i ht;have vt:dT P t=.bool:=by revert ht;cases dT P t<;>simp
   refine fin hx (by simp) (by simp) (by simp) ?_;cases hx;cases hy;exact ahT vt h w
  .simp at h
 case h_11=>refine fin hx (by simp) (by simp) (by simp) ?_;obtain⟨rfl,_⟩:=hx;obtain⟨rfl,_⟩:=hy;exact ayD t h w
 case h_13=>
  split at h
  .rename_i ht;obtain⟨e,vt⟩:∃e,dT P t=.ptr e:=by revert ht;cases dT P t<;>simp
   have hu:=ae4 vt;refine fin hx (by simp) (by simp) (by simp) ?_;obtain⟨L,a,_,rfl,_⟩:=hx;cases hy;rcases CP (ρ:=ρ) h with⟨rfl,hv⟩|⟨rfl,hv⟩
   .exact⟨.bool false,CQ rfl (ZT hu _ _ _),hv⟩
   .exact⟨.bool true,Di rfl (ZT hu _ _ _),hv⟩
  .simp at h
 case h_14=>
  split at h
  .rename_i ht;obtain⟨e,vt⟩:∃e,dT P t=.ptr e:=by revert ht;cases dT P t<;>simp
   have hu:=ae4 vt;refine fin hx (by simp) (by simp) (by simp) ?_;cases hx;cases hy;rcases CP (ρ:=ρ) h with⟨rfl,hv⟩|⟨rfl,hv⟩
   .exact⟨.bool true,CQ rfl (ZS hu _ _),hv⟩
   .exact⟨.bool false,Di rfl (ZS hu _ _),hv⟩
  .simp at h
 case h_15=>
  by_cases ht:(match dT P t with|.sl _=>true|_=>false)=true
  .obtain⟨e,vt⟩:∃e,dT P t=.sl e:=by revert ht;cases dT P t<;>simp
   simp only[vt,if_true]at h;have hu:=mE vt;refine fin hx (by simp) (by simp) (by simp) ?_;obtain⟨L,base,cap,g1,rfl,gn,g2,g3,g4,g5⟩:=hx;cases hy;split at h
   .rw[ef]at h;obtain⟨x,B6,rfl⟩:=h;subst_vars;rcases CP (ρ:=ρ) B6 with⟨rfl,_⟩|⟨rfl,_⟩;all_goals cases base with
 |none=>obtain⟨_,rfl⟩:=gn rfl;first|exact⟨.bool true,CQ rfl (Ny hu _ _),true,rfl⟩|exact⟨.bool false,Di rfl (Ny hu _ _),false,rfl⟩
 |some a=>first|exact⟨.bool false,CQ rfl (Nz hu _ _),false,rfl⟩|exact⟨.bool true,Di rfl (Nz hu _ _),true,rfl⟩
   .cases base with|none=>have:=(gn rfl).1;contradiction|some a=>
      rcases CP (ρ:=ρ) h with⟨rfl,hv⟩|⟨rfl,hv⟩
      .exact⟨.bool false,CQ rfl (Nz hu _ _),hv⟩
      .exact⟨.bool true,Di rfl (Nz hu _ _),hv⟩
  .simp at h;exact(ht h.1).elim
 case h_16=>
  by_cases ht:(match dT P t with|.sl _=>true|_=>false)=true
  .obtain⟨e,vt⟩:∃e,dT P t=.sl e:=by revert ht;cases dT P t<;>simp
   simp only[vt,if_true]at h;have hu:=mE vt;refine fin hx (by simp) (by simp) (by simp) ?_;cases hx;cases hy;rcases CP (ρ:=ρ) h with⟨rfl,hv⟩|⟨rfl,hv⟩
   .exact⟨.bool true,CQ rfl (Ny hu _ _),hv⟩
   .exact⟨.bool false,Di rfl (Ny hu _ _),hv⟩
  .simp at h;exact(ht h.1).elim
 case h_17=>
  split at h
  .rename_i ht;obtain⟨a,b,c,hu⟩:∃a b c,P.underlying t=some (.func a b c):=by revert ht;cases hu:P.underlying t with|none=>simp|some x=>cases x<;>simp
   refine fin hx (by simp) (by simp) (by simp) ?_;obtain⟨cv,rfl,_⟩:=hx;cases hy;rcases CP (ρ:=ρ) h with⟨rfl,hv⟩|⟨rfl,hv⟩
   .exact⟨.bool false,CQ rfl (ZR hu _ _ _ _ _),hv⟩
   .exact⟨.bool true,Di rfl (ZR hu _ _ _ _ _),hv⟩
  .simp at h
 case h_18=>
  split at h
  .rename_i ht;obtain⟨a,b,c,hu⟩:∃a b c,P.underlying t=some (.func a b c):=by revert ht;cases hu:P.underlying t with|none=>simp|some x=>cases x<;>simp
   refine fin hx (by simp) (by simp) (by simp) ?_;cases hx;cases hy;rcases CP (ρ:=ρ) h with⟨rfl,hv⟩|⟨rfl,hv⟩
   .exact⟨.bool true,CQ rfl (ZQ hu _ _),hv⟩
   .exact⟨.bool false,Di rfl (ZQ hu _ _),hv⟩
  .simp at h
 case h_19=>simp at h
theorem ahy{op:UnOp}(h:BJ op x=some v)(hx:bg ρ x cx)(w:World):∃vc,(Op.unary op cx).run P w=.ok vc w/\bg ρ v vc:=by
 unfold BJ at h;split at h<;>simp at h<;>subst h
 .cases hx;exact⟨_,rfl,rfl⟩
 .obtain⟨rfl,hb⟩:=hx;refine⟨.int .i64 (IntKind.i64.wrap (0-_)),rfl,?_,?_⟩
  .rw[Int.zero_sub];rfl
  .exact Ef _
 .cases hx;rename_i x;refine⟨.int .u64 (IntKind.u64.wrap (0-_)),rfl,?_⟩;show Value.int .u64 _=.int .u64 _;rw[I9,Int.zero_sub,BitVec.ofInt_neg];simp
 .cases hx;rename_i x;refine⟨_,rfl,?_⟩;show Value.int .u64 (IntKind.u64.wrap ((aw 64 _^^^aw 64 _).toNat))=.int .u64 _;rw[I9,uF,uF];have:aw 64 (if IntKind.u64.signed=true then-1 else IntKind.u64.max)=BitVec.allOnes 64:=by decide
  rw[this,BitVec.allOnes_xor]
theorem agA{dst src:Nat}(h:mi P dst x=some v)(hx:bg ρ x cx)(hs:(dT P src).is=true)(w:World):∃vc,(convert src dst cx).run P w=.ok vc w/\bg ρ v vc:=by
 obtain⟨d,hd,_⟩:=Qe hs;unfold mi at h;split at h;case h_11=>simp at h
 case h_10=>rename_i s qO;simp at h;subst h;obtain⟨rfl,hb⟩:=hx;exact⟨_,by simp[convert,run_underlying hd,run_underlying (Mr qO)],rfl,hb⟩
 case h_1=>rename_i n qO;simp at h;subst h;obtain⟨rfl,hb⟩:=hx;exact⟨.int .i64 (IntKind.i64.wrap n),by simp[convert,run_underlying hd,run_underlying (Br qO),Conv.intToInt],by rw[show IntKind.i64.wrap n=n from I6 hb.1 hb.2];exact⟨rfl,hb⟩⟩
 case h_2=>rename_i x qO;simp at h;subst h;cases hx;exact⟨.int .i64 (IntKind.i64.wrap x.toNat),by simp[convert,run_underlying hd,run_underlying (Br qO),Conv.intToInt],by rw[aAq];exact⟨rfl,by have:=BitVec.le_toInt x;omega,by have:=BitVec.toInt_lt (x:=x);omega⟩⟩
 case h_3=>
  rename_i k n qO;simp at h;subst h;obtain⟨rfl,hk,hb⟩:=hx;have hr:-9223372036854775808<=n/\n<=9223372036854775807:=by cases k<;>simp[IntKind.min,IntKind.max,IntKind.signed,IntKind.bits]at hb hk<;>omega
  exact⟨.int .i64 (IntKind.i64.wrap n),by simp[convert,run_underlying hd,run_underlying (Br qO),Conv.intToInt],by rw[show IntKind.i64.wrap n=n from I6 hr.1 hr.2];exact⟨rfl,hr⟩⟩
 case h_4=>rename_i n qO;simp at h;subst h;obtain⟨rfl,hb⟩:=hx;exact⟨.int .u64 (IntKind.u64.wrap n),by simp[convert,run_underlying hd,run_underlying (Br qO),Conv.intToInt],by rw[I9];rfl⟩
 case h_5=>rename_i x qO;simp at h;subst h;cases hx;exact⟨.int .u64 (IntKind.u64.wrap x.toNat),by simp[convert,run_underlying hd,run_underlying (Br qO),Conv.intToInt],by rw[I9,uF];rfl⟩
 case h_6=>rename_i k n qO;simp at h;subst h;obtain⟨rfl,hk,hb⟩:=hx;exact⟨.int .u64 (IntKind.u64.wrap n),by simp[convert,run_underlying hd,run_underlying (Br qO),Conv.intToInt],by rw[I9];rfl⟩
 case h_7=>rename_i k n h1 h2 qO;simp at h;subst h;obtain⟨rfl,hb⟩:=hx;exact⟨.int k (k.wrap n),by simp[convert,run_underlying hd,run_underlying (Br qO),Conv.intToInt],rfl,M3 h1 h2,zK _ _⟩
 case h_8=>rename_i k x h1 h2 qO;simp at h;subst h;cases hx;exact⟨.int k (k.wrap x.toNat),by simp[convert,run_underlying hd,run_underlying (Br qO),Conv.intToInt],rfl,M3 h1 h2,zK _ _⟩
 case h_9=>rename_i k k' n h1 h2 qO;simp at h;subst h;obtain⟨rfl,hk,hb⟩:=hx;exact⟨.int k (k.wrap n),by simp[convert,run_underlying hd,run_underlying (Br qO),Conv.intToInt],rfl,M3 h1 h2,zK _ _⟩
end Go.Am

/- The quiet operations: runs. -/
namespace Go.Am
variable {P:Program}{ρ:Ro}
theorem alU(cells:Array Value)(off:Nat):∀(vs:List Value)(j:Nat),off+j+vs.length<=cells.size->((vs.zipIdx j).foldl (λcs(x:Value×Nat)=>cs.setIfInBounds (off+x.2) x.1) cells).toList=cells.toList.take (off+j)++vs++cells.toList.drop (off+j+vs.length):=by intro vs;induction vs generalizing cells with|nil=>intro j h;simp|cons v vs ih=>
   intro j h;simp only[cZ]at h;simp only[List.zipIdx_cons,XH];rw[ih (cells.setIfInBounds (off+j) v) (j+1) (by simp;omega)];have aL:off+j<cells.toList.length:=by simp;omega
   have e1:(cells.setIfInBounds (off+j) v).toList=cells.toList.set (off+j) v:=by simp
   rw[e1];have e2:(cells.toList.set (off+j) v).take (off+(j+1))=cells.toList.take (off+j)++[v]:=by rw[show off+(j+1)=off+j+1 by omega,GC (by simpa using aL)];simp only[List.take_set,List.getElem_set_self];rw[List.set_eq_of_length_le (by simp;omega)]
   have e3:(cells.toList.set (off+j) v).drop (off+(j+1)+vs.length)=cells.toList.drop (off+j+(vs.length+1)):=by rw[List.drop_set_of_lt ω];congr 1;omega
   rw[e2,e3];simp
theorem NA(place:Nat->Option (Nat×Nat)):∀(ps:List (Nat×AV))(cs:List (Nat×Value)),L2 (λa b=>a.1=b.1/\bg ρ a.2 b.2) ps cs->∀(z:List Sc)(zc:List Value)(r:List Sc),L2 (b6 ρ) z zc->xG place z ps=some r->∃rc:List Value,Instr.fill place zc.toArray cs=some rc.toArray/\L2 (b6 ρ) r rc:=by intro ps cs h;induction h with|nil=>intro z zc r hz hf;simp[xG]at hf;subst hf;exact⟨zc,rfl,hz⟩|@cons a b ps cs h _ ih=>
   intro z zc r hz hf;obtain⟨i,v⟩:=a;obtain⟨i',vc⟩:=b;obtain⟨hi,hv⟩:=h;simp only at hi hv;subst hi;simp only[xG]at hf;split at hf
   .rename_i off n l hp hl;split at hf
    .rename_i hc;obtain⟨vW,cu,hrel,_⟩:=hv.cells hl;have hlen:=hrel.length;have qo:=hz.length;have cJ:¬(vc.cells.size≠n||off+vc.cells.size>zc.toArray.size)=true:=by rw[cu];simp;omega
     have HB:L2 (b6 ρ) (wr z off l) (zc.take off++vW++zc.drop (off+vW.length)):=by unfold wr;rw[<-hlen];exact((hz.take off).app hrel).app (hz.drop _)
     obtain⟨rc,h1,h2⟩:=ih _ _ _ HB hf;refine⟨rc,?_,h2⟩;simp only[Instr.fill,hp];rw[if_neg cJ];have e:(vc.cells.zipIdx.foldl (λcs(c,j)=>cs.setIfInBounds (off+j) c) zc.toArray)=(zc.take off++vW++zc.drop (off+vW.length)).toArray:=by apply p9;rw[cu,<-Array.foldl_toList];have:=alU zc.toArray off vW 0 (by simp;omega);simpa using this
     rw[e];exact h1
    .simp at hf
   .simp at hf
variable {t:Nat}{z:List Sc}
theorem Bw(h:zT P t=some z)(w:World):∃v zc,(zeroValue t).run P w=.ok v w/\v.cells=(zc:List Value).toArray/\L2 (b6 ρ) z zc:=by unfold zT at h;cases hi:P.info? t with|none=>simp[hi]at h|some i=>rw[hi]at h;simp only[QG]at h;cases hz:i.zero with|none=>simp[hz]at h|some v=>
     rw[hz]at h;have hr:(zeroValue t).run P w=.ok v w:=by simp[zeroValue,typeInfo,hi,hz]
     cases v with|agg cs=>simp at h;subst h;refine⟨_,cs.toList,hr,by simp[Value.cells],?_⟩;have:L2 (λa b=>b6 ρ (lf a) b) cs.toList cs.toList:=L2.adv λa _=>MO ρ a;simpa using L2.map (f:=lf) (g:=id) this|_=>simp at h;subst h;exact⟨_,[_],hr,rfl,.cons (MO ρ _) .nil⟩
theorem ao1(w:World):∀(fs:List Field),(∀f∈fs,∃i,P.info? f.type=some i)->(fs.mapM λf=>(do pure (f.offset,<-sizeOf f.type):Sem (Nat×Nat))).run P w=.ok (fs.map λf=>(f.offset,av P f.type)) w:=by intro fs;induction fs with|nil=>intro _;simp|cons f fs ih=>
   intro h;obtain⟨i,hi⟩:=h f (by simp);have hs:∀w:World,(sizeOf f.type).run P w=.ok (av P f.type) w:=λw=>by simp[sizeOf,typeInfo,hi,av]
   simp only[List.mapM_cons,c9,hs,c8,fi];rw[ih λg hg=>h g (by simp[hg])];simp
variable {v:AV}
theorem ah1{ps:List (Nat×AV)}{cs:List (Nat×Value)}(h:GM P t ps=some v)(hp:L2 (λa b=>a.1=b.1/\bg ρ a.2 b.2) ps cs)(w:World):∃vc,(Instr.build t cs.toArray).run P w=.ok vc w/\bg ρ v vc:=by
 unfold GM at h;split at h
 .rename_i z hz qL;obtain⟨zv,zc,h1,h2,h3⟩:=Bw (ρ:=ρ) hz w;simp only[ef]at h;obtain⟨r,hr,rfl⟩:=h;cases hd:dT P t with|st fs=>
    obtain⟨gs,hu,tK,rfl⟩:=Xk hd;rw[hd]at hr;have B4:(OY P (.st (gs.toList.map λf=>(f.offset,f.type))))=λi=>((gs.toList.map λf=>(f.offset,av P f.type)).toArray)[i]?:=by funext i;simp only[OY,qf,Gx];cases gs.toList[i]?<;>rfl
    rw[B4]at hr;obtain⟨rc,h4,h5⟩:=NA _ _ _ hp _ _ _ h3 hr;refine⟨.agg rc.toArray,?_,rc,rfl,h5⟩;have hm:=ao1 (P:=P) w gs.toList (λf hf=>by obtain⟨i,hi,_⟩:=Kr (tK f hf);exact⟨i,hi⟩);simp only[Instr.build,c9,h1,c8,run_underlying hu];rw[Array.mapM_eq_mapM_toList];simp only[Sem.run_map,hm,c8,h2];rw[h4];rfl|arr n e=>
 obtain⟨hu,B8⟩:=Mq hd;rw[hd]at hr;obtain⟨rc,h4,h5⟩:=NA _ _ _ hp _ _ _ h3 hr;refine⟨.agg rc.toArray,?_,rc,rfl,h5⟩
 .simp only[Instr.build,c9,h1,c8,run_underlying hu,mC B8,h2];have h4':Instr.fill (λi=>some (i*av P e,av P e)) zc.toArray cs=some rc.toArray:=h4;rw[h4'];rfl|_=>rw[hd]at qL;simp[D.agg]at qL
 .simp at h
theorem aib:∀(vs:List AV)(cs:List Value)(l:List (Nat×Nat×Nat)),Ex vs=some l->L2 (bg ρ) vs cs->L2 (λ(c:Nat×Nat×Nat)v=>jR ρ c.1 c.2.1 c.2.2 v) l cs:=by intro vs;induction vs with|nil=>intro cs l h hr;simp[Ex]at h;subst h;cases hr;exact .nil|cons v vs ih=>intro cs l h hr;cases hr with|cons h1 h2=>match v,h,h1 with|.c (.p a b c),h,h1=>simp only[Ex,ef]at h;obtain⟨m,h3,rfl⟩:=h;exact .cons h1 (ih _ _ h3 h2)
variable {x:AV}
theorem AM{v:Value}{n:Int}(h:tN x=some n)(hv:bg ρ x v):∃k,v=.int k n:=by
 unfold tN at h;split at h<;>simp at h<;>subst h
 .obtain⟨rfl,_⟩:=hv;exact⟨_,rfl⟩
 .cases hv;exact⟨_,rfl⟩
 .obtain⟨rfl,_⟩:=hv;exact⟨_,rfl⟩
theorem jR.add{id off aX:Nat}{v:Value}(h:jR ρ id off aX v)(n:Nat):∃a,v=.pointer (some a)/\jR ρ id (off+n) aX (.pointer (some (a.add n))):=by obtain⟨L,a,h1,rfl,h2,h3⟩:=h;refine⟨a,rfl,L,a.add n,h1,rfl,h2,λe=>⟨(h3 e).1,(h3 e).2.1,?_⟩⟩;rw[(h3 e).2.2,Addr.BF,mH]
variable {fs:List (Nat×Nat)}{f:Nat×Nat}
theorem alJ{k:Nat}{id off aX:Nat}{v:Value}(hd:dT P t=.st fs)(hf:fs[k]?=some f)(hz:0<av P f.2)(hv:jR ρ id off aX v)(w:World):∃vc,(Instr.fieldAt t v k).run P w=.ok vc w/\jR ρ id (off+f.1) aX vc:=by
 obtain⟨gs,hu,tK,rfl⟩:=Xk hd;simp only[qf,ef]at hf;obtain⟨g,hg,rfl⟩:=hf;obtain⟨a,rfl,h2⟩:=hv.add g.offset;refine⟨_,?_,h2⟩;have yS:gs[k]?=some g:=by rw[<-Array.getElem?_toList];exact hg
 have AJ:¬av P g.type=0:=by simp only at hz;omega
 simp only[Instr.fieldAt,c9,run_underlying hu,c8,yS,Instr.sureAddr,fi,fieldPlace,mC hz,AJ,if_false]
variable {l:List Sc}{cs:List Value}
theorem b6.getD(h:L2 (b6 ρ) l cs)(o:Nat)(ho:o<l.length):b6 ρ (l.getD o .any) (cs.getD o .nilIface):=by obtain⟨b,hb,hr⟩:=h.get? o l[o] (by simp[ho]);rw[b9,b9,hb];simpa[ho]using hr
variable {off:Nat}
theorem acC(hl:L2 (b6 ρ) l cs)(Az:(dT P t).is=true)(cJ:0<av P t)(w:World)(hlen:off+av P t<=l.length):∃vc,(part t cs.toArray off).run P w=.ok vc w/\bg ρ (rd (dT P t).agg l off (av P t)) vc:=by refine⟨_,Le Az cJ w (by rw[<-hl.length];exact hlen),?_⟩;cases qL:(dT P t).agg with|true=>exact⟨_,rfl,(hl.drop off).take _⟩|false=>exact b6.getD hl off ω
theorem alK{k:Nat}{v:Value}(hd:dT P t=.st fs)(hf:fs[k]?=some f)(hz:0<av P f.2)(Az:(dT P f.2).is=true)(hlen:f.1+av P f.2<=l.length)(hv:bg ρ (.g l) v)(w:World):∃vc,(Instr.field t v k).run P w=.ok vc w/\bg ρ (rd (dT P f.2).agg l f.1 (av P f.2)) vc:=by
 obtain⟨gs,hu,tK,rfl⟩:=Xk hd;simp only[qf,ef]at hf;obtain⟨g,hg,rfl⟩:=hf;obtain⟨cs,rfl,cu⟩:=hv;obtain⟨vc,h1,h2⟩:=acC cu Az hz w hlen;refine⟨vc,?_,h2⟩;have yS:gs[k]?=some g:=by rw[<-Array.getElem?_toList];exact hg
 simp only[Instr.field,c9,run_underlying hu,c8,yS,asAgg,fi,h1]
variable {ix:AV}{cx ci:Value}
theorem ank(h:HE P t x ix=some v)(hx:bg ρ x cx)(hi:bg ρ ix ci)(w:World):∃vc,(Instr.indexAt t cx ci).run P w=.ok vc w/\bg ρ v vc:=by
 unfold HE at h;split at h
 .rename_i n e id off aX i hd Ay;split at h<;>simp at h;rename_i hc;obtain⟨k,rfl⟩:=AM Ay hi;obtain⟨a,rfl,h2⟩:=jR.add (show jR ρ id off aX cx from hx) (i.toNat*av P e);subst h;refine⟨_,?_,h2⟩;obtain⟨hu,_⟩:=Mq hd;simp only[Instr.indexAt,asIntOf,c9,fi,c8,run_underlying hu,Instr.sureAddr,hc.1,hc.2.1,and_self,if_true,mC hc.2.2]
 .rename_i e id off aX len i hd Ay;split at h<;>simp at h;rename_i hc;obtain⟨k,rfl⟩:=AM Ay hi;obtain⟨L,base,cap,h1,rfl,hn,h2,h3,h4,h5⟩:=(show vO ρ id off aX len cx from hx);subst h;have hu:=mE hd;have hlen:0<len:=ω
  cases base with|none=>have:=hn rfl;omega|some a=>
    refine⟨.pointer (some (a.add (i.toNat*av P e))),?_,L,_,h1,rfl,h4,λe=>?_⟩
    .simp only[Instr.indexAt,asIntOf,c9,fi,c8,run_underlying hu,hc.1,hc.2.1,and_self,if_true,mC hc.2.2]
    .have:=h5 e;split at this
     .simp at this
     .rename_i eH;obtain⟨a',e1,e2,_,e3⟩:=this;simp at e1;subst e1;refine⟨by simpa using eH,e3 hlen,?_⟩;rw[e2 (.inr hlen),Addr.BF,mH]
 .simp at h
end Go.Am

/- The quiet operations: indexing, slicing, and the sum of them all. -/
namespace Go.Am
variable {P:Program}{ρ:Ro}
variable {t:Nat}{x ix v:AV}{cx ci:Value}
theorem anl(h:HD P t x ix=some v)(hx:bg ρ x cx)(hi:bg ρ ix ci)(w:World):∃vc,(Instr.index t cx ci).run P w=.ok vc w/\bg ρ v vc:=by
 unfold HD at h;split at h
 .rename_i n e l i hd Ay;split at h<;>simp at h;rename_i hc;obtain⟨k,rfl⟩:=AM Ay hi;obtain⟨cs,rfl,cu⟩:=hx;obtain⟨hu,_⟩:=Mq hd;subst h;obtain⟨vc,h1,h2⟩:=acC cu hc.2.2.2.1 hc.2.2.1 w hc.2.2.2.2;refine⟨vc,?_,h2⟩;simp only[Instr.index,asIntOf,c9,fi,c8,run_underlying hu,hc.1,hc.2.1,and_self,if_true,mC hc.2.2.1,h1]
 .rename_i s i hd Ay;split at h<;>simp at h;rename_i hc;obtain⟨k,rfl⟩:=AM Ay hi;obtain⟨rfl,hs⟩:=hx;have hu:=Mr hd;subst h;have aL:i.toNat<s.size:=ω
  have hg:s[i.toNat]?=some s.data[i.toNat]:=by simp[getElem?_pos,aL];rfl
  refine⟨.int .u8 (s.data[i.toNat].toNat),?_,?_⟩
  .simp only[Instr.index,asIntOf,c9,fi,c8,run_underlying hu,hc.1,if_true,hg]
  .have hb:=s.data[i.toNat].toNat_lt;have SY:i.toNat<s.data.size:=aL;have Ob:s.data[i.toNat]?.getD 0=s.data[i.toNat]:=by rw[Array.getElem?_eq_getElem SY];rfl
   rw[Ob];refine⟨rfl,δ,?_,?_⟩
   .simp[IntKind.min,IntKind.signed]
   .simp[IntKind.max,IntKind.signed,IntKind.bits];omega
 .simp at h
inductive GI(ρ:Ro):Option AV->Option Value->Prop|none:GI ρ none none|some{a v}(h:bg ρ a v):GI ρ (some a) (some v)
variable {len cap:Nat}{hi:Option AV}{lc hc:Option Value}
theorem M4{b:Bool}{lo:Option AV}{l h:Int}(sB:GI ρ lo lc)(BS:GI ρ hi hc)(h1:Fv lo=some l)(h2:C2 len hi=some h)(h3:0<=l)(h4:l<=h)(h5:h<=len)(h6:len<=cap)(w:World):(Instr.sliceBounds b len cap lc hc none).run P w=.ok (l.toNat,h.toNat,cap) w:=by
 have sb:∀(k:IntKind)(n:Int)(y:Nat)(c:BoundsCode),0<=n->n<=y->(Instr.sliceBound (.int k n) y c).run P w=.ok n.toNat w:=by intro k n y c a b;simp[Instr.sliceBound,asIntOf,a,b]
 cases sB with
 |none=>simp[Fv]at h1;subst h1;cases BS with|none=>simp[C2]at h2;subst h2;simp[Instr.sliceBounds]|some hv=>obtain⟨k,rfl⟩:=AM (show tN _=some h from h2) hv;simp[Instr.sliceBounds,sb k h cap _ ω ω]
 |some lv=>obtain⟨k,rfl⟩:=AM (show tN _=some l from h1) lv;cases BS with|none=>simp[C2]at h2;subst h2;simp[Instr.sliceBounds,sb k l len _ ω ω]|some hv=>obtain⟨k',rfl⟩:=AM (show tN _=some h from h2) hv;simp[Instr.sliceBounds,sb k' h cap _ ω ω,sb k l h.toNat _ ω ω]
theorem P5{x:Value}{lo hi mx:Option Value}{d:TypeDesc}(hu:P.underlying t=some d)(cW:∀n e,d≠.array n e)(w:World):(Instr.sliceAt t x lo hi mx).run P w=(Instr.slice t x lo hi mx).run P w:=by simp only[Instr.sliceAt,c9,run_underlying hu,c8]
theorem P6{lo:Option AV}(h:zB P t x lo hi=some v)(hx:bg ρ x cx)(sB:GI ρ lo lc)(BS:GI ρ hi hc)(w:World):∃vc,(Instr.sliceAt t cx lc hc none).run P w=.ok vc w/\bg ρ v vc:=by
 unfold zB at h;split at h
 .rename_i e id off aX len hd;split at h
  .rename_i l hh e1 e2;split at h<;>simp at h;rename_i mM;subst h;have hu:=mE hd;obtain⟨L,base,cap,h1,rfl,hn,h2,h3,h4,h5⟩:=(show vO ρ id off aX len cx from hx);have hb:=M4 (P:=P) (b:=true) (cap:=cap) sB BS e1 e2 mM.1 mM.2.1 mM.2.2.1 h2 w;refine⟨.slice (if cap=l.toNat then base else base.map (·.add (l.toNat*av P e))) (hh.toNat-l.toNat) (cap-l.toNat),?_,?_⟩
   .rw[P5 hu (by simp)];simp only[Instr.slice,c9,run_underlying hu,c8,hb,mC mM.2.2.2,fi]
   .refine⟨L,_,_,h1,rfl,?_,ω,ω,h4,λe'=>?_⟩
    .intro sF;have:base=none:=by
      split at sF
      .exact sF
      .simpa using sF
     have:=hn this;omega
    .have:=h5 e';split
     .rename_i eH;rw[if_pos eH]at this;obtain⟨rfl,rfl,rfl,rfl⟩:=this;have C4:l.toNat=0:=ω
      simp[C4];omega
     .rename_i eH;rw[if_neg eH]at this;obtain⟨a,rfl,g1,g2,g3⟩:=this;have hmul:l.toNat*av P e=0↔l.toNat=0:=by
       constructor
       .intro hz;rcases Nat.mul_eq_zero.1 hz with h|h
        .exact h
        .omega
       .intro hz;simp[hz]
      by_cases py:cap=l.toNat
      .refine⟨a,by simp[py],?_,?_,λhp=>g3 ω⟩
       .intro ho;have C4:l.toNat=0:=ω
        rw[C4];simp only[Nat.zero_mul,rj];refine g1 ?_;left;omega
       .intro ho hv;have C4:l.toNat=0:=ω
        have:=g2 ω hv;omega
      .refine⟨a.add (l.toNat*av P e),by simp[py],?_,?_,λhp=>g3 ω⟩
       .intro ho;have:a=⟨L.dK,L.off+off,none⟩:=g1 ω;rw[this,Addr.BF,mH]
       .intro ho hv;have C4:l.toNat=0:=ω
        have:=g2 ω hv;omega
  .simp at h
 .rename_i e hd;split at h
  .rename_i l hh e1 e2;split at h<;>simp at h;rename_i mM;obtain⟨rfl,rfl,hz⟩:=mM;subst h;have hu:=mE hd;cases hx;have hb:=M4 (P:=P) (b:=true) (len:=0) (cap:=0) sB BS e1 e2 ω ω ω ω w;rw[P5 hu (by simp)];refine⟨.slice none 0 0,?_,rfl⟩;simp only[Instr.slice,c9,run_underlying hu,c8,hb,mC hz,fi];rfl
  .simp at h
 .rename_i n e id off aX hd;split at h
  .rename_i l hh e1 e2;split at h<;>simp at h;rename_i mM;subst h;obtain⟨hu,_⟩:=Mq hd;obtain⟨L,a,h1,rfl,h4,h5⟩:=(show jR ρ id off aX cx from hx);have hb:=M4 (P:=P) (b:=false) (len:=n) (cap:=n) sB BS e1 e2 mM.1 ω mM.2.2.1 ω w;refine⟨.slice (some (a.add (l.toNat*av P e))) (hh.toNat-l.toNat) (n-l.toNat),?_,?_⟩
   .have cW:¬n=l.toNat:=ω
    simp only[Instr.sliceAt,c9,run_underlying hu,c8,Instr.sureAddr,hb,mC mM.2.2.2.2.1,fi,cW,if_false]
   .refine⟨L,_,_,h1,rfl,by simp,ω,ω,h4,λe'=>?_⟩;obtain⟨g1,g2,g3⟩:=h5 e';rw[if_neg (by simp[g1])];refine⟨_,rfl,λ_=>by rw[g3,Addr.BF,mH],λ_ hv=>?_,λ_=>g2⟩;have:=g2 hv;omega
  .simp at h
 .rename_i s hd;split at h
  .rename_i l hh e1 e2;split at h<;>simp at h;rename_i mM;subst h;have hu:=Mr hd;obtain⟨rfl,hs⟩:=hx;have hb:=M4 (P:=P) (b:=false) (len:=s.size) (cap:=s.size) sB BS e1 e2 mM.1 mM.2.1 mM.2.2 ω w;refine⟨.string (s.extract l.toNat hh.toNat),?_,rfl,?_⟩
   .rw[P5 hu (by simp)];simp[Instr.slice,run_underlying hu,hb]
   .simp;omega
  .simp at h
 .simp at h
variable {ts:Array TypeId}
theorem TL(h:yW P t x=some v)(ht:ts[0]?=some t)(hx:bg ρ x cx)(ty:Nat)(w:World):∃vc,(Builtin.len_ ts ty #[cx]).run P w=.ok vc w/\bg ρ v vc:=by
 unfold yW at h;split at h
 .rename_i e id off aX len hd;simp at h;subst h;obtain⟨L,base,cap,h1,rfl,hn,h2,h3,h4,h5⟩:=(show vO ρ id off aX len cx from hx);exact⟨.int .i64 len,by simp[Builtin.len_,ht,run_underlying (mE hd),goInt],rfl,ω,ω⟩
 .rename_i e hd;simp at h;subst h;cases hx;exact⟨.int .i64 0,by simp[Builtin.len_,ht,run_underlying (mE hd),goInt],rfl,ω,ω⟩
 .rename_i s hd;simp at h;subst h;obtain⟨rfl,hs⟩:=hx;exact⟨.int .i64 s.size,by simp[Builtin.len_,ht,run_underlying (Mr hd),goInt],rfl,ω,ω⟩
 .rename_i n e hd;split at h<;>simp at h;subst h;exact⟨.int .i64 n,by simp[Builtin.len_,ht,run_underlying (Mq hd).1,goInt],rfl,ω,ω⟩
 .simp at h
theorem L2.one{α β:Type}{R:α->β->Prop}{a:α}{l:List β}(h:L2 R [a] l):∃b,l=[b]/\R a b:=by cases h with|cons h t=>cases t;exact⟨_,rfl,h⟩
theorem L2.two{α β:Type}{R:α->β->Prop}{a b:α}{l:List β}(h:L2 R [a,b] l):∃x y,l=[x,y]/\R a x/\R b y:=by cases h with|cons h t=>obtain⟨y,rfl,h2⟩:=t.one;exact⟨_,_,rfl,h,h2⟩
theorem ahU{len cap:Nat}{cl ch cm lo hi mx:Value}{l h m:Int}{al ah am:AV}(r1:bg ρ al cl)(r2:bg ρ ah ch)(r3:bg ρ am cm)(h1:tN al=some l)(h2:tN ah=some h)(h3:tN am=some m)(g0:0<=l)(g1:l<h)(g2:h<=m)(g3:m<=cap)(w:World):(Instr.sliceBounds true len cap (some cl) (some ch) (some cm)).run P w=.ok (l.toNat,h.toNat,m.toNat) w:=by
 have sb:∀(k:IntKind)(n:Int)(y:Nat)(c:BoundsCode),0<=n->n<=y->(Instr.sliceBound (.int k n) y c).run P w=.ok n.toNat w:=by intro k n y c a b;simp[Instr.sliceBound,asIntOf,a,b]
 obtain⟨k1,rfl⟩:=AM h1 r1;obtain⟨k2,rfl⟩:=AM h2 r2;obtain⟨k3,rfl⟩:=AM h3 r3;simp[Instr.sliceBounds,sb k3 m cap _ ω ω,sb k2 h m.toNat _ ω ω,sb k1 l h.toNat _ ω ω]
theorem ayj{lo hi mx:AV}{lc hc mc:Value}(h:IY P t x lo hi mx=some v)(hx:bg ρ x cx)(sB:bg ρ lo lc)(BS:bg ρ hi hc)(Oi:bg ρ mx mc)(w:World):∃vc,(Instr.sliceAt t cx (some lc) (some hc) (some mc)).run P w=.ok vc w/\bg ρ v vc:=by
 unfold IY at h;split at h
 .rename_i e id off aX len hd;split at h
  .rename_i l hh m e1 e2 e3;split at h<;>simp at h;rename_i mM;obtain⟨c1,c2,c3,c4,c5⟩:=mM;subst h;have hu:=mE hd;obtain⟨L,base,cap,h1,rfl,hn,h2,h3,h4,h5⟩:=(show vO ρ id off aX len cx from hx);have hb:=ahU (P:=P) (len:=len) (cap:=cap) (lo:=lc) (hi:=hc) (mx:=mc) sB BS Oi e1 e2 e3 c1 c2 c3 ω w;have cW:¬m.toNat=l.toNat:=ω
   refine⟨.slice (base.map (·.add (l.toNat*av P e))) (hh.toNat-l.toNat) (m.toNat-l.toNat),?_,?_⟩
   .rw[P5 hu (by simp)];simp only[Instr.slice,c9,run_underlying hu,c8,hb,mC c5,fi,if_neg cW]
   .refine⟨L,_,_,h1,rfl,?_,ω,ω,h4,λe'=>?_⟩
    .intro sF;have:base=none:=by simpa using sF
     have:=hn this;omega
    .have:=h5 e';split
     .rename_i eH;rw[if_pos eH]at this;obtain⟨rfl,rfl,rfl,rfl⟩:=this;omega
     .rename_i eH;rw[if_neg eH]at this;obtain⟨a,rfl,g1,g2,g3⟩:=this;refine⟨a.add (l.toNat*av P e),by simp,?_,?_,λhp=>g3 ω⟩
      .intro ho;have:a=⟨L.dK,L.off+off,none⟩:=g1 ω;rw[this,Addr.BF,mH]
      .intro ho hv;have:=g2 ω hv;omega
  .simp at h
 .simp at h
theorem L2.three{α β:Type}{R:α->β->Prop}{a b c:α}{l:List β}(h:L2 R [a,b,c] l):∃x y z,l=[x,y,z]/\R a x/\R b y/\R c z:=by cases h with|cons h t=>obtain⟨y,z,rfl,h2,h3⟩:=t.two;exact⟨_,_,_,rfl,h,h2,h3⟩
theorem L2.four{α β:Type}{R:α->β->Prop}{a b c d:α}{l:List β}(h:L2 R [a,b,c,d] l):∃x y z u,l=[x,y,z,u]/\R a x/\R b y/\R c z/\R d u:=by cases h with|cons h t=>obtain⟨x,y,z,rfl,h2,h3,h4⟩:=t.three;exact⟨_,_,_,_,rfl,h,h2,h3,h4⟩
variable {cy:Value}
theorem abn{mx:Bool}{y:AV}(h:min2 mx x y=some v)(hx:bg ρ x cx)(hy:bg ρ y cy)(w:World):∃vc,(if mx then Builtin.max_ #[] 0 #[cx,cy]else Builtin.min_ #[] 0 #[cx,cy]).run P w=.ok vc w/\bg ρ v vc:=by
 unfold min2 at h;split at h
 .rename_i a b;simp at h;subst h;obtain⟨rfl,h1⟩:=hx;obtain⟨rfl,h2⟩:=hy;cases mx
  .refine⟨.int .i64 (if b<a then b else a),by simp[Builtin.min_,Builtin.min2],?_,?_⟩
   .simp only[dC,if_false];congr 1;simp only[Int.min_def];split<;>split<;>omega
   .simp only[dC,if_false];omega
  .refine⟨.int .i64 (if a<b then b else a),by simp[Builtin.max_,Builtin.max2],?_,?_⟩
   .simp only[if_true];congr 1;simp only[Int.max_def];split<;>split<;>omega
   .simp only[if_true];omega
 .simp at h
end Go.Am

/- All quiet operations. -/
namespace Go.Am
variable {P:Program}{ρ:Ro}
theorem afr{a:Act}:∀(ps:List (Nat×Operand))(vs:List AV),L2 (bg ρ) vs (ps.map λp=>a.eval p.2)->L2 (λ(x:Nat×AV)(y:Nat×Value)=>x.1=y.1/\bg ρ x.2 y.2) ((ps.map (·.1)).zip vs) (ps.map λp=>(p.1,a.eval p.2)):=by intro ps;induction ps with|nil=>intro vs h;cases h;exact .nil|cons p ps ih=>intro vs h;cases h with|cons h1 h2=>exact .cons ⟨rfl,h1⟩ (ih _ h2)
theorem ado{o:Oper}{a:Act}{H:AH}{vs:List AV}{v:AV}{w:World}(h:iS P o.op vs ((uf o.op vs).map (hg H))=some v)(hv:L2 (bg ρ) vs ((bI o.op).map a.eval))(hO:∀i,jJ ρ w i (hg H i)):∃vc,(execOp a.eval o).run P w=.ok (.value vc) w/\bg ρ v vc:=by
 obtain⟨dst,op,ty,pos,after,guard⟩:=o;simp only at h hv;have fin:∀(s:Sem Value),(∃vc,s.run P w=.ok vc w/\bg ρ v vc)->∃vc,(do pure (.value (<-s)):Sem Next).run P w=.ok (.value vc) w/\bg ρ v vc:=by rintro s⟨vc,h1,h2⟩;exact⟨vc,by simp[h1],h2⟩
 unfold iS at h;split at h
 .simp at h;subst h;obtain⟨x,hx,h1⟩:=hv.one;simp only[bI,fW,iW,cK,and_true]at hx;subst hx;exact⟨_,rfl,h1⟩
 .simp at h;subst h;obtain⟨x,hx,h1⟩:=hv.one;simp only[bI,fW,iW,cK,and_true]at hx;subst hx;exact⟨_,rfl,h1⟩
 .rename_i c x y q ax ay;simp at h;subst h;obtain⟨vc,vx,vy,hx,h1,h2,h3⟩:=hv.three;simp only[bI,fW,iW,cK,and_true]at hx;obtain⟨rfl,rfl,rfl⟩:=hx;have NQ:a.eval c=.bool q:=h1;refine⟨if q then a.eval x else a.eval y,by simp[execOp,NQ,asBool],?_⟩;cases q
  .exact h3
  .exact h2
 .rename_i t ps;refine fin _ ?_;obtain⟨vc,h1,h2⟩:=ah1 h (afr (a:=a) ps.toList _ (by simpa[bI,Function.comp_def]using hv)) w;refine⟨vc,?_,h2⟩;rw[<-h1];congr 1;congr 1;apply p9;simp
 .rename_i t x id off aX;split at h
  .rename_i o ho;simp only[uf,fW,iW,cK,and_true]at ho;subst ho;split at h<;>simp at h;rename_i hc;subst h;obtain⟨y,hy,h1⟩:=hv.one;simp only[bI,fW,iW,cK,and_true]at hy;subst hy;obtain⟨L,ad,h2,h3,h4,h5⟩:=(show jR ρ id off aX _ from h1);have AD:(hg H id).live=true:=by cases hh:hg H id with|dead=>rw[hh]at hc;simp[ae.cells]at hc;omega|_=>rfl
   have mQ:=(hO id).row h2 AD;obtain⟨_,_,rfl⟩:=h5 (by rw[mQ];exact hc.1);obtain⟨vc,h6,h7⟩:=abe (hO id) h2 hc.2.1 hc.2.2.1 hc.2.2.2.1 hc.2.2.2.2;exact fin _ ⟨vc,by simp[Instr.loadAt,h3,Instr.sureAddr,h6],h7⟩
  .simp at h
 .rename_i x id off aX;simp at h;subst h;obtain⟨y,hy,h1⟩:=hv.one;simp only[bI,fW,iW,cK,and_true]at hy;subst hy;obtain⟨L,ad,h2,h3,h4⟩:=(show jR ρ id off aX _ from h1);exact⟨_,by simp[execOp,h3],L,ad,h2,rfl,h4⟩
 .rename_i x f cs;simp at h;subst h;obtain⟨y,hy,h1⟩:=hv.one;simp only[bI,fW,iW,cK,and_true]at hy;subst hy;obtain⟨cv,h2,h3⟩:=h1;exact⟨_,by simp[execOp,h2],cv,rfl,h3⟩
 .rename_i bop t x y yt ax ay;obtain⟨cx,cy,hx,h1,h2⟩:=hv.two;simp only[bI,fW,iW,cK,and_true]at hx;obtain⟨rfl,rfl⟩:=hx;exact fin _ (agv h h1 h2 x y w)
 .rename_i uop t x ax;obtain⟨y,hy,h1⟩:=hv.one;simp only[bI,fW,iW,cK,and_true]at hy;subst hy;exact fin _ (ahy h h1 w)
 .rename_i src dst x ax;split at h
  .rename_i hs;obtain⟨y,hy,h1⟩:=hv.one;simp only[bI,fW,iW,cK,and_true]at hy;subst hy;exact fin _ (agA h h1 hs w)
  .simp at h
 .rename_i f first captured;split at h
  .rename_i hz;simp only[ef]at h;obtain⟨l,hl,rfl⟩:=h;refine fin _ ⟨_,rfl,captured.toList.map a.eval,?_,aib _ _ _ hl hv⟩;obtain rfl:first=#[]:=Array.eq_empty_of_size_eq_zero hz;simp only[List.map_toArray,iW];congr 1;apply p9;simp
  .simp at h
 .rename_i t x k id off aX;split at h
  .rename_i fs hd;split at h
   .rename_i f hf;split at h<;>simp at h;rename_i hz;subst h;obtain⟨y,hy,h1⟩:=hv.one;simp only[bI,fW,iW,cK,and_true]at hy;subst hy;exact fin _ (alJ hd hf hz h1 w)
   .simp at h
  .simp at h
 .rename_i t x k l;split at h
  .rename_i fs hd;split at h
   .rename_i f hf;split at h<;>simp at h;rename_i hz;subst h;obtain⟨y,hy,h1⟩:=hv.one;simp only[bI,fW,iW,cK,and_true]at hy;subst hy;exact fin _ (alK hd hf hz.1 hz.2.1 hz.2.2 h1 w)
   .simp at h
  .simp at h
 .obtain⟨cx,cy,hx,h1,h2⟩:=hv.two;simp only[bI,fW,iW,cK,and_true]at hx;obtain⟨rfl,rfl⟩:=hx;exact fin _ (ank h h1 h2 w)
 .obtain⟨cx,cy,hx,h1,h2⟩:=hv.two;simp only[bI,fW,iW,cK,and_true]at hx;obtain⟨rfl,rfl⟩:=hx;exact fin _ (anl h h1 h2 w)
 .rename_i t x lo hi ax r;split at h
  .obtain⟨y,hy,h1⟩:=hv.one;simp only[bI,QI,jV,kD,fW,iW,cK,and_true]at hy;subst hy;exact fin _ (P6 h h1 .none .none w)
  .obtain⟨y,z,hy,h1,h2⟩:=hv.two;simp only[bI,QI,kD,fW,iW,cK,and_true]at hy;obtain⟨rfl,rfl⟩:=hy;exact fin _ (P6 h h1 (.some h2) .none w)
  .obtain⟨y,z,hy,h1,h2⟩:=hv.two;simp only[bI,QI,jV,kD,fW,iW,cK,and_true]at hy;obtain⟨rfl,rfl⟩:=hy;exact fin _ (P6 h h1 .none (.some h2) w)
  .obtain⟨y,z,z',hy,h1,h2,h3⟩:=hv.three;simp only[bI,QI,kX,jV,kD,fW,iW,cK,and_true]at hy;obtain⟨rfl,rfl,rfl⟩:=hy;exact fin _ (P6 h h1 (.some h2) (.some h3) w)
  .simp at h
 .obtain⟨y,z,z',z'',hy,h1,h2,h3,h4⟩:=hv.four;simp only[bI,QI,kX,jV,kD,fW,iW,cK,and_true]at hy;obtain⟨rfl,rfl,rfl,rfl⟩:=hy;exact fin _ (ayj h h1 h2 h3 h4 w)
 .rename_i x k l;obtain⟨y,hy,h1⟩:=hv.one;simp only[bI,fW,iW,cK,and_true]at hy;subst hy;obtain⟨vs,h2,h3⟩:=(show∃vs:List Value,_/\_ from h1);obtain⟨vc,h4,h5⟩:=h3.get? k v h;refine fin _ ⟨vc,?_,h5.az2⟩;simp[h2,Instr.extract,h4]
 .rename_i as ts x;split at h
  .rename_i t ht;obtain⟨y,hy,h1⟩:=hv.one;simp only[bI]at hy;obtain⟨vc,h2,h3⟩:=TL h ht h1 ty w;have has:as.map a.eval=#[y]:=by apply p9;simpa using hy
   refine⟨vc,?_,h3⟩;simp only[execOp,resolve,c9,fi,c8,invoke,builtin,has,h2]
  .simp at h
 .rename_i as ts;unfold OF at h;split at h
  .obtain⟨y,z,hy,h1,h2⟩:=hv.two;simp only[bI]at hy;obtain⟨vc,h3,h4⟩:=abn h h1 h2 w;have has:as.map a.eval=#[y,z]:=by apply p9;simpa using hy
   refine⟨vc,?_,h4⟩;simp only[dC,if_false]at h3;have h3':(Builtin.min_ ts ty #[y,z]).run P w=.ok vc w:=h3;simp only[execOp,resolve,c9,fi,c8,invoke,builtin,has,h3']
  .simp at h
 .rename_i as ts;unfold OF at h;split at h
  .obtain⟨y,z,hy,h1,h2⟩:=hv.two;simp only[bI]at hy;obtain⟨vc,h3,h4⟩:=abn h h1 h2 w;have has:as.map a.eval=#[y,z]:=by apply p9;simpa using hy
   refine⟨vc,?_,h4⟩;simp only[if_true]at h3;have h3':(Builtin.max_ ts ty #[y,z]).run P w=.ok vc w:=h3;simp only[execOp,resolve,c9,fi,c8,invoke,builtin,has,h3']
  .simp at h
 .simp at h
end Go.Am

/- Heaps: the relation, and what a new block and a store do to it. -/
namespace Go.Am
variable {P:Program}{ρ bh:Ro}
def gG(ρ bh:Ro):Prop:=∀i L,ρ i=some L->∃L',bh i=some L'/\(L'=L\/L.row<L'.row)
theorem gG.refl(ρ:Ro):gG ρ ρ:=λ_ L h=>⟨L,h,.inl rfl⟩
theorem gG.trans{a b c:Ro}(h:gG a b)(h':gG b c):gG a c:=by
 intro i L hL;obtain⟨L1,h1,h2⟩:=h i L hL;obtain⟨L2,h3,h4⟩:=h' i L1 h1;refine⟨L2,h3,?_⟩;rcases h2 with rfl|h2<;>rcases h4 with rfl|h4
 .exact .inl rfl
 .exact .inr h4
 .exact .inr h2
 .exact .inr ω
theorem jR.mono{id off aX:Nat}{v:Value}(h:jR ρ id off aX v)(hs:gG ρ bh):jR bh id off aX v:=by
 obtain⟨L,a,h1,rfl,h2,h3⟩:=h;obtain⟨L',h4,h5⟩:=hs id L h1;rcases h5 with rfl|h5
 .exact⟨L',a,h4,rfl,h2,h3⟩
 .exact⟨L',a,h4,rfl,ω,λe=>ω⟩
variable {s:Sc}
theorem b6.mono{v:Value}(h:b6 ρ s v)(hs:gG ρ bh):b6 bh s v:=by cases s with
 |p id off aX=>exact jR.mono h hs|sl id off aX len=>
 obtain⟨L,b,c,h1,rfl,hn,h2,h3,h6,h7⟩:=(show vO ρ id off aX len v from h);obtain⟨L',h4,h5⟩:=hs id L h1;rcases h5 with rfl|h5
 .exact⟨L',b,c,h4,rfl,hn,h2,h3,h6,h7⟩
 .exact⟨L',b,c,h4,rfl,hn,h2,h3,ω,λe=>ω⟩|f fn cs=>obtain⟨cv,h1,h2⟩:=h;exact⟨cv,h1,h2.mono λ_ _ h=>jR.mono h hs⟩|mp id=>
 obtain⟨L,b,h1,h2,h3⟩:=h;obtain⟨L',h4,h5⟩:=hs id L h1;rcases h5 with rfl|h5
 .exact⟨L',b,h4,h2,h3⟩
 .exact⟨L',b,h4,h2,λe=>ω⟩|_=>exact h
variable {x:AV}
theorem V1.mono{v:Value}(h:V1 ρ x v)(hs:gG ρ bh):V1 bh x v:=by cases x with|c s=>exact b6.mono h hs|g l=>obtain⟨cs,h1,h2⟩:=h;exact⟨cs,h1,h2.mono λ_ _ h=>b6.mono h hs⟩|t l=>exact h
theorem bg.mono{v:Value}(h:bg ρ x v)(hs:gG ρ bh):bg bh x v:=by cases x with|c s=>exact b6.mono h hs|g l=>obtain⟨cs,h1,h2⟩:=h;exact⟨cs,h1,h2.mono λ_ _ h=>b6.mono h hs⟩|t l=>obtain⟨cs,h1,h2⟩:=h;exact⟨cs,h1,h2.mono λ_ _ h=>V1.mono h hs⟩
theorem aif{w w':World}{b:Nat}(h:w'.heap[b]?=w.heap[b]?)(o:Nat)(s:Option Nat):w'.cell? ⟨b,o,s⟩=w.cell? ⟨b,o,s⟩:=by simp[World.cell?,h]
variable {w w':World}{i:Nat}{o:ae}
theorem jJ.fF(h:jJ ρ w i o)(hs:gG ρ bh)(hi:bh i=ρ i)(hb:∀L,ρ i=some L->L.nil=false->o.live=true->w'.heap[L.dK]?=w.heap[L.dK]?)(hz:w.heap.size<=w'.heap.size):jJ bh w' i o:=by cases o with
 |own cs=>obtain⟨L,c,t,h1,h2,h3,h4,h5,h6,h7⟩:=h;exact⟨L,c,t,by rw[hi,h1],h2,h3,h4,h5,by rw[hb L h1 h4 rfl,h6],h7.mono λ_ _ h=>h.mono hs⟩|vec sz cs=>
   obtain⟨L,h1,h2,h3,h4,h5,h6⟩:=h;refine⟨L,by rw[hi,h1],h2,h3,h4,h5,?_⟩;split
   .rename_i hn;rw[if_pos hn]at h6;exact h6
   .rename_i hn;rw[if_neg hn]at h6;obtain⟨c,d,t,h7,h8,h9⟩:=h6;exact⟨c,d,t,by rw[hb L h1 (by simpa using hn) rfl,h7],h8,h9.mono λ_ _ h=>h.mono hs⟩|view cs=>
   obtain⟨L,h1,h2,h3,h4,h5,h6⟩:=h;refine⟨L,by rw[hi,h1],h2,h3,h4,λe=>CG (h5 e) hz,λj s wy=>?_⟩;obtain⟨v,h7,h8⟩:=h6 j s wy;have hn:L.nil=false:=by cases hn:L.nil with|false=>rfl|true=>rw[h4 hn]at wy;simp at wy
   exact⟨v,by rw[aif (hb L h1 hn rfl),h7],h8.mono hs⟩|map mq es=>obtain⟨L,tC,h1,h2,h3,h4,h5,h6,h7⟩:=h;exact⟨L,tC,by rw[hi,h1],h2,h3,h4,h5,by rw[hb L h1 h4 rfl,h6],h7.mono λ_ _ h=>⟨h.1,h.2.1.mono hs,h.2.2.mono hs⟩⟩|iter m since seen last=>obtain⟨L,b,h1,h2,h3,h4,h5,h6,h7⟩:=h;exact⟨L,b,by rw[hi,h1],h2,h3,h4,h5,b6.mono h6 hs,by rw[hb L h1 h4 rfl,h7]⟩|dead=>trivial
variable {L:Loc}
theorem jJ.xx(h:jJ ρ w i o)(hL:ρ i=some L)(hn:L.nil=false)(hl:o.live=true):L.dK<w.heap.size:=by cases o with
 |own cs=>
 obtain⟨L',c,t,h1,_,_,_,_,h6,_⟩:=h;obtain rfl:L=L':=by simpa[hL]using h1
 rcases cU L.dK w.heap.size with h|h
 .exact h
 .rw[qB h]at h6;simp at h6|vec sz cs=>
   obtain⟨L',h1,_,_,_,_,h6⟩:=h;obtain rfl:L=L':=by simpa[hL]using h1
   rw[if_neg (by rw[hn];decide)]at h6;obtain⟨c,d,t,h7,_⟩:=h6;rcases cU L.dK w.heap.size with h|h
   .exact h
   .rw[qB h]at h7;simp at h7|view cs=>
 obtain⟨L',h1,_,_,_,h5,_⟩:=h;obtain rfl:L=L':=by simpa[hL]using h1
 exact h5 hn|map mq es=>
 obtain⟨L',tC,h1,_,_,_,_,h6,_⟩:=h;obtain rfl:L=L':=by simpa[hL]using h1
 rcases cU L.dK w.heap.size with h|h
 .exact h
 .rw[qB h]at h6;simp at h6|iter m since seen last=>
 obtain⟨L',b,h1,_,_,_,_,_,h6⟩:=h;obtain rfl:L=L':=by simpa[hL]using h1
 rcases cU L.dK w.heap.size with h|h
 .exact h
 .rw[qB h]at h6;simp at h6|dead=>simp[ae.live]at hl
structure HR(ρ:Ro)(w:World)(H:AH):Prop where
 obj:∀i,jJ ρ w i (hg H i)sep:∀i j Li Lj,i≠j->(hg H i).owned=true->ρ i=some Li->Li.nil=false->(hg H j).live=true->ρ j=some Lj->Lj.nil=false->Li.dK≠Lj.dK
 fresh:∀i,H.length<=i->ρ i=none
structure gR(w0:World)(M:Nat->Prop)(w:World):Prop where
 os:w.os=w0.os
 tape:w.tape=w0.tape
 output:w.output=w0.output
 size:w0.heap.size<=w.heap.size
 lh:∀b,b<w0.heap.size->¬M b->w.heap[b]?=w0.heap[b]?
 free:∀(b:Nat)c t f,w.heap[b]?=some (.cells c t f)->(w0.heap.size<=b\/M b)->f=(0,0)
theorem ae.nC{o:ae}(h:o.owned=true):o.live=true:=by cases o<;>simp_all[ae.owned,ae.live]
theorem qj(H:AH)(o:ae)(i:Nat):hg (H++[o]) i=if i=H.length then o else hg H i:=by
 unfold hg;simp only[b9];split
 .subst_vars;simp
 .rename_i h;rcases cU i H.length with h'|h'
  .rw[sY h']
  .rw[jQ (by simp;omega),jQ h']
theorem tG(H:AH)(h:H.length<=i):hg H i=.dead:=by unfold hg;rw[b9,jQ h];rfl
theorem ql(H:AH)(n:Nat)(o:ae)(i:Nat)(_:n<H.length):hg (H.set n o) i=if i=n then o else hg H i:=by
 unfold hg;simp only[b9,qD];split
 .subst_vars;rw[if_pos rfl];simp
 .rename_i h;rw[if_neg (λe=>h e.symm)]
variable {H:AH}
theorem dU(h:(hg H i).live=true):i<H.length:=by
 rcases cU i H.length with h'|h'
 .exact h'
 .rw[tG H h']at h;simp[ae.live]at h
def ic(ρ:Ro)(n:Nat)(L:Loc):Ro:=λi=>if i=n then some L else ρ i
theorem iP(ρ:Ro)(n:Nat)(L:Loc):ic ρ n L n=some L:=by simp[ic]
variable {n:Nat}
theorem fG(ρ:Ro)(L:Loc)(h:i≠n):ic ρ n L i=ρ i:=by simp[ic,h]
theorem zZ(w:World)(o:Obj)(b:Nat)(h:b<w.heap.size):(w.alloc o).heap[b]?=w.heap[b]?:=by show(w.heap.push o)[b]?=_;rw[Array.getElem?_push,if_neg ω]
theorem BG(w:World)(o:Obj):(w.alloc o).heap[w.heap.size]?=some o:=by show(w.heap.push o)[w.heap.size]?=_;simp
variable {l:List Sc}{c:List Value}
theorem HR.alloc(h:HR ρ w H)(hl:L2 (b6 ρ) l c)(t:Nat)(o:ae)(L:Loc)(hb:L.dK=w.heap.size)(jm:L.off=0)(eH:L.nil=false)(mQ:L.row=o.row)(ho:(o=.own l/\L.vec=false)\/(∃sz,o=.vec sz l/\L.vec=true/\0<sz/\L.cap*sz=c.length)):HR (ic ρ H.length L) (w.alloc (.cells c.toArray t)) (H++[o])/\gG ρ (ic ρ H.length L):=by
 have dW:gG ρ (ic ρ H.length L):=by
  intro i Li hi;have:i≠H.length:=by rintro rfl;rw[h.fresh _ (aC _)]at hi;simp at hi
  exact⟨Li,by rw[fG _ _ this,hi],.inl rfl⟩
 have yV:L2 (b6 (ic ρ H.length L)) l c:=hl.mono λ_ _ h=>h.mono dW;refine⟨⟨?_,?_,?_⟩,dW⟩
 .intro i;rw[qj];split
  .subst_vars;rcases ho with⟨rfl,hv⟩|⟨sz,rfl,hv,cJ,ry⟩
   .exact⟨L,c,t,iP _ _ _,jm,mQ,eH,hv,by rw[hb];exact BG _ _,yV⟩
   .refine⟨L,iP _ _ _,jm,mQ,hv,cJ,?_⟩;rw[if_neg (by simp[eH])];exact⟨c,[],t,by rw[hb];simpa using BG w _,by simpa using ry,yV⟩
  .rename_i cW;refine(h.obj i).fF dW (fG _ _ cW) (λLi hi hn Fa=>?_) (by simp);exact zZ _ _ _ ((h.obj i).xx hi hn Fa)
 .intro i j Li Lj oF cR cB ir eU im oG;rw[qj]at cR eU;by_cases h1:i=H.length
  .subst h1;rw[iP]at cB;simp at cB;subst cB;have h2:j≠H.length:=λe=>oF e.symm;rw[if_neg h2]at eU;rw[fG _ _ h2]at im;have:=(h.obj j).xx im oG eU;omega
  .rw[if_neg h1]at cR;rw[fG _ _ h1]at cB;by_cases h2:j=H.length
   .subst h2;rw[iP]at im;simp at im;subst im;have:=(h.obj i).xx cB ir (ae.nC cR);omega
   .rw[if_neg h2]at eU;rw[fG _ _ h2]at im;exact h.sep i j Li Lj oF cR cB ir eU im oG
 .intro i hi;simp at hi;rw[fG _ _ ω];exact h.fresh i ω
variable {w0:World}{M:Nat->Prop}
theorem gR.aA8(h:gR w0 M w)(es:Array MapEntry)(mq:Nat):gR w0 M (w.alloc (.map es mq)):=by
 refine⟨h.os,h.tape,h.output,by simp;have:=h.size;omega,λb hb hm=>?_,λb c' t' f hf hm=>?_⟩
 .rw[zZ _ _ _ (CG hb h.size)];exact h.lh b hb hm
 .by_cases e:b=w.heap.size
  .subst e;rw[BG]at hf;simp at hf
  .rcases cU b w.heap.size with h'|h'
   .rw[zZ _ _ _ h']at hf;exact h.free b c' t' f hf hm
   .rw[qB (by simp;omega)]at hf;simp at hf
theorem gR.alloc(h:gR w0 M w)(c:Array Value)(t:Nat):gR w0 M (w.alloc (.cells c t)):=by
 refine⟨h.os,h.tape,h.output,by simp;have:=h.size;omega,λb hb hm=>?_,λb c' t' f hf hm=>?_⟩
 .rw[zZ _ _ _ (CG hb h.size)];exact h.lh b hb hm
 .by_cases e:b=w.heap.size
  .subst e;rw[BG]at hf;simp at hf;exact hf.2.2.symm
  .rcases cU b w.heap.size with h'|h'
   .rw[zZ _ _ _ h']at hf;exact h.free b c' t' f hf hm
   .rw[qB (by simp;omega)]at hf;simp at hf
structure CK(w w':World)(b:Nat)(o:Obj):Prop where
 os:w'.os=w.os
 tape:w'.tape=w.tape
 output:w'.output=w.output
 size:w'.heap.size=w.heap.size
 this:w'.heap[b]?=some o
 other:∀k,k≠b->w'.heap[k]?=w.heap[k]?
variable {t:Nat}
theorem gR.aer{b:Nat}{c:Array Value}(h:gR w0 M w)(hs:CK w w' b (.cells c t (0,0)))(hm:M b\/w0.heap.size<=b):gR w0 M w':=by
 refine⟨hs.os.trans h.os,hs.tape.trans h.tape,hs.output.trans h.output,by rw[hs.size];exact h.size,λk hk hn=>?_,λk c' t' f hf hk=>?_⟩
 .have:k≠b:=by
   rintro rfl;rcases hm with hm|hm
   .exact hn hm
   .omega
  rw[hs.other k this];exact h.lh k hk hn
 .by_cases e:k=b
  .subst e;rw[hs.this]at hf;simp at hf;exact hf.2.2.symm
  .rw[hs.other k e]at hf;exact h.free k c' t' f hf hk
theorem gR.Ml{b mq:Nat}{es:Array MapEntry}(h:gR w0 M w)(hs:CK w w' b (.map es mq))(hm:M b\/w0.heap.size<=b):gR w0 M w':=by
 refine⟨hs.os.trans h.os,hs.tape.trans h.tape,hs.output.trans h.output,by rw[hs.size];exact h.size,λk hk hn=>?_,λk c' t' f hf hk=>?_⟩
 .have:k≠b:=by
   rintro rfl;rcases hm with hm|hm
   .exact hn hm
   .omega
  rw[hs.other k this];exact h.lh k hk hn
 .by_cases e:k=b
  .subst e;rw[hs.this]at hf;simp at hf
  .rw[hs.other k e]at hf;exact h.free k c' t' f hf hk
theorem gR.PX{b b' c0:Nat}{a:Option Nat}{sn:Array Nat}(h:gR w0 M w)(hs:CK w w' b (.mapIter a b' sn c0))(hm:M b\/w0.heap.size<=b):gR w0 M w':=by
 refine⟨hs.os.trans h.os,hs.tape.trans h.tape,hs.output.trans h.output,by rw[hs.size];exact h.size,λk hk hn=>?_,λk c' t' f hf hk=>?_⟩
 .have:k≠b:=by
   rintro rfl;rcases hm with hm|hm
   .exact hn hm
   .omega
  rw[hs.other k this];exact h.lh k hk hn
 .by_cases e:k=b
  .subst e;rw[hs.this]at hf;simp at hf
  .rw[hs.other k e]at hf;exact h.free k c' t' f hf hk
theorem Vt(t b:Nat):∀(vs:List Value)(w:World)(c:List Value)(i off:Nat),w.heap[b]?=some (.cells c.toArray t (0,0))->(∀v∈vs,v.oneCell'=true)->off+i+vs.length<=c.length->∃w',(storeCells ⟨b,off,none⟩ vs i).run P w=.ok () w'/\CK w w' b (.cells (c.take (off+i)++vs++c.drop (off+i+vs.length)).toArray t (0,0)):=by intro vs;induction vs with|nil=>intro w c i off hw _ _;exact⟨w,by simp[storeCells],rfl,rfl,rfl,rfl,by simpa using hw,λ_ _=>rfl⟩|cons v vs ih=>
   intro w c i off hw nQ hlen;simp only[cZ]at hlen;have aL:off+i<c.length:=ω
   have Hk:w.cell? ⟨b,off+i,none⟩=some c[off+i]:=by simp[World.cell?,hw,aL]
   have hfz:w.frozen? ⟨b,off+i,none⟩=false:=by simp[World.frozen?,hw]
   have hw1:(w.setCell ⟨b,off+i,none⟩ v).heap[b]?=some (.cells (c.set (off+i) v).toArray t (0,0)):=by simp[World.setCell,Array.getElem?_modify,hw]
   obtain⟨w',h1,h2⟩:=ih (w.setCell ⟨b,off+i,none⟩ v) (c.set (off+i) v) (i+1) off hw1 (λu hu=>nQ u (by simp[hu])) (by simp;omega);refine⟨w',?_,h2.os,h2.tape,h2.output,by rw[h2.size];simp,?_,λk hk=>?_⟩
   .simp only[storeCells,c9,Addr.BF,run_store P w _ v _ (nQ v (by simp)),Hk,hfz,dC,if_false,c8,h1]
   .rw[h2.this];have e2:(c.set (off+i) v).take (off+(i+1))=c.take (off+i)++[v]:=by rw[show off+(i+1)=off+i+1 by omega,GC (by simpa using aL)];simp only[List.take_set,List.getElem_set_self];rw[List.set_eq_of_length_le (by simp;omega)]
    have e3:(c.set (off+i) v).drop (off+(i+1)+vs.length)=c.drop (off+i+(vs.length+1)):=by rw[List.drop_set_of_lt ω];congr 1;omega
    rw[e2,e3];simp
   .rw[h2.other k hk];simp only[World.setCell,Array.getElem?_modify];rw[if_neg (λe=>hk e.symm)]
end Go.Am

/- Operations that make objects or change them. -/
namespace Go.Am
variable {P:Program}{ρ:Ro}
def jy(P:Program)(op:Op)(vs:List AV)(H:AH):Option (AV×AH):=match op,vs with
 |.alloc t,[]=>match zT P t with|some z=>some (.c (.p H.length 0 0),H++[.own z])|none=>none
 |.box _ _,[x]=>match x.cells with|some l=>some (.c (.p H.length 0 0),H++[.own l])|none=>none
 |.buildSlice t len ps,vs=>match dT P t with
   |.sl e=>match zT P e with|some z=>if 0<av P e/\0<len/\len*av P e<=16777216/\z.length=av P e then match xG (λi=>some (i*av P e,av P e)) (bE len z).flatten ((ps.toList.map (·.1)).zip vs)with|some cs=>some (.c (.sl H.length 0 cs.length len),H++[.vec (av P e) cs])|none=>none else if 0<av P e/\len=0/\ps.size=0 then some (.c (.sl H.length 0 0 0),H++[.vec (av P e) []])else none|none=>none
   |_=>none
 |.makeSlice t _ _,[.c (.i l),.c (.i c)]=>match dT P t with
   |.sl e=>match zT P e with|some z=>if l=c/\0<=l/\l<=1048576/\0<av P e/\lY P e<=1048576/\z.length=av P e then some (.c (.sl H.length 0 (l.toNat*av P e) l.toNat),H++[.vec (av P e) (bE l.toNat z).flatten])else none|none=>none
   |_=>none
 |.store t _ _,[.c (.p id off aX),x]=>match x.cells with|some l=>if(hg H id).owned=true/\aX=(hg H id).row/\l.length=av P t/\0<av P t/\off+l.length<=(hg H id).cells.length/\l.all Sc.one=true then some (.c .gM,H.set id ((hg H id).put (wr (hg H id).cells off l)))else none|none=>none
 |_,_=>none
structure jc(ρ:Ro)(w:World)(H:AH)(w':World)(bh:Ro)(H':AH):Prop where
 hr:HR bh w' H'
 st:gG ρ bh
 kp:∀w0 M,gR w0 M w->(∀i L,(hg H i).owned=true->ρ i=some L->L.nil=false->(M L.dK\/w0.heap.size<=L.dK))->gR w0 M w'/\(∀i L,(hg H' i).owned=true->bh i=some L->L.nil=false->(M L.dK\/w0.heap.size<=L.dK))len:H.length<=H'.length
 mv:∀i L,(hg H i).owned=false->ρ i=some L->bh i=some L
variable {w:World}{H:AH}{l:List Sc}{c:List Value}
theorem jc.alloc(h:HR ρ w H)(hl:L2 (b6 ρ) l c)(t:Nat)(o:ae)(L:Loc)(hb:L.dK=w.heap.size)(jm:L.off=0)(eH:L.nil=false)(mQ:L.row=o.row)(ho:(o=.own l/\L.vec=false)\/(∃sz,o=.vec sz l/\L.vec=true/\0<sz/\L.cap*sz=c.length)):jc ρ w H (w.alloc (.cells c.toArray t)) (ic ρ H.length L) (H++[o]):=by
 obtain⟨h1,h2⟩:=h.alloc hl t o L hb jm eH mQ ho;refine⟨h1,h2,λw0 M hk hm=>⟨hk.alloc _ _,λi Li cR cB ir=>?_⟩,by simp,λi Li _ cB=>?_⟩
 .by_cases e:i=H.length
  .subst e;rw[iP]at cB;simp at cB;subst cB;exact .inr (by rw[hb];exact hk.size)
  .rw[fG _ _ e]at cB;rw[qj,if_neg e]at cR;exact hm i Li cR cB ir
 .have:i≠H.length:=by rintro rfl;rw[h.fresh _ (aC _)]at cB;simp at cB
  rw[fG _ _ this,cB]
def MI(P:Program)(ρ:Ro)(H:AH)(w:World)(s:Sem Next)(v:AV)(H':AH):Prop:=∃w' bh,jc ρ w H w' bh H'/\((∃vc,s.run P w=.ok (.value vc) w'/\bg bh v vc)\/(s.run P w=.ok .skip w'/\v=.c .gM))
theorem acz(h:HR ρ w H)(hl:L2 (b6 ρ) l c)(t:Nat):jc ρ w H (w.alloc (.cells c.toArray t)) (ic ρ H.length ⟨w.heap.size,0,0,0,false,false⟩) (H++[.own l])/\bg (ic ρ H.length ⟨w.heap.size,0,0,0,false,false⟩) (.c (.p H.length 0 0)) (.pointer (some ⟨w.heap.size,0,none⟩)):=⟨jc.alloc h hl t _ _ rfl rfl rfl rfl (.inl ⟨rfl,rfl⟩),⟨_,_,iP _ _ _,rfl,aC _,λ_=>⟨rfl,by simp,rfl⟩⟩⟩
theorem Xm(h:HR ρ w H)(hl:L2 (b6 ρ) l c)(t sz n:Nat)(cJ:0<sz)(hn:n*sz=c.length)(Fc:n<=9223372036854775807):jc ρ w H (w.alloc (.cells c.toArray t)) (ic ρ H.length ⟨w.heap.size,0,n,l.length,false,true⟩) (H++[.vec sz l])/\bg (ic ρ H.length ⟨w.heap.size,0,n,l.length,false,true⟩) (.c (.sl H.length 0 l.length n)) (.slice (some ⟨w.heap.size,0,none⟩) n n):=by refine⟨jc.alloc h hl t _ _ rfl rfl rfl rfl (.inr ⟨sz,rfl,rfl,cJ,hn⟩),_,_,_,iP _ _ _,rfl,by simp,aC _,Fc,aC _,λ_=>?_⟩;rw[if_neg (by simp)];refine⟨_,rfl,λ_=>rfl,λ_ _=>aC _,λh0 _=>?_⟩;show 0<l.length;rw[hl.length,<-hn];exact BC h0 cJ
theorem Ld{z:List Value}(n sz:Nat)(hz:z.length=sz):(Array.range (n*sz)).map (λx=>z.toArray[x%z.toArray.size]!)=(bE n z).flatten.toArray:=by apply p9;simp only[Qv,Array.toList_range,List.size_toArray];induction n with|zero=>simp|succ n ih=>
   have e1:(n+1)*sz=n*sz+sz:=by rw[uZ,BD]
   rw[e1,List.range_add,List.map_append,ih,List.replicate_succ',List.flatten_append];congr 1;simp only[List.map_map,BB,List.flatten_nil,kD];apply List.ext_getElem (by simp[hz]);intro i h1 h2;simp at h1;have:(n*sz+i)%z.length=i:=by rw[hz,Nat.mul_comm,Nat.mul_add_mod];exact Nat.mod_eq_of_lt h1
   simp[this,h2]
theorem L2.rep{α β:Type}{R:α->β->Prop}{l:List α}{m:List β}(h:L2 R l m)(n:Nat):L2 R (bE n l).flatten (bE n m).flatten:=by induction n with|zero=>exact .nil|succ n ih=>simp only[xn,BB];exact h.app ih
theorem ZX(place:Nat->Option (Nat×Nat)):∀(ps:List (Nat×AV))(z r:List Sc),xG place z ps=some r->r.length=z.length:=by intro ps;induction ps with|nil=>intro z r h;simp[xG]at h;rw[h]|cons p ps ih=>
   intro z r h;obtain⟨i,v⟩:=p;simp only[xG]at h;split at h
   .split at h
    .rename_i hc;rw[ih _ _ h];simp[wr];omega
    .simp at h
   .simp at h
variable {w':World}
theorem HR.set(h:HR ρ w H){id:Nat}{L:Loc}{ob:Obj}{o':ae}(dg:(hg H id).owned=true)(hL:ρ id=some L)(eH:L.nil=false)(hs:CK w w' L.dK ob)(j3:jJ ρ w' id o'):HR ρ w' (H.set id o'):=by
 have iD:=dU (ae.nC dg);refine⟨λi=>?_,λi j Li Lj oF cR cB ir eU im oG=>?_,λi hi=>h.fresh i (by simpa using hi)⟩
 .rw[ql _ _ _ _ iD];split
  .subst_vars;exact j3
  .rename_i cW;refine(h.obj i).fF (gG.refl ρ) rfl (λLi hi hn hl=>?_) (by rw[hs.size];omega);exact hs.other _ (λe=>h.sep id i L Li (λe=>cW e.symm) dg hL eH hl hi hn e.symm)
 .have SW:(hg H i).owned=true:=by
   rw[ql _ _ _ _ iD]at cR;split at cR
   .subst_vars;exact dg
   .exact cR
  have SX:(hg H j).live=true:=by
   rw[ql _ _ _ _ iD]at eU;split at eU
   .subst_vars;exact ae.nC dg
   .exact eU
  exact h.sep i j Li Lj oF SW cB ir SX im oG
theorem jc.set{H:AH}(h:HR ρ w H){id:Nat}{L:Loc}{c:Array Value}{t:Nat}{o':ae}(dg:(hg H id).owned=true)(hL:ρ id=some L)(eH:L.nil=false)(hs:CK w w' L.dK (.cells c t (0,0)))(j3:jJ ρ w' id o'):jc ρ w H w' ρ (H.set id o'):=by
 have iD:=dU (ae.nC dg);refine⟨h.set dg hL eH hs j3,gG.refl ρ,λw0 M hk hm=>⟨hk.aer hs (hm id L dg hL eH),λi Li cR cB ir=>?_⟩,by simp,λ_ _ _ h=>h⟩;rw[ql _ _ _ _ iD]at cR;split at cR
 .subst_vars;exact hm _ _ dg cB ir
 .exact hm _ _ cR cB ir
theorem UI(h:L2 (b6 ρ) l c)(ho:l.all Sc.one=true):∀v∈c,v.oneCell'=true:=by induction h with|nil=>simp|@cons s v l c hs _ ih=>
   simp only[List.all_cons,Bool.and_eq_true]at ho;intro u hu;rcases uj.1 hu with rfl|hu
   .exact(b6.one hs (by rintro rfl;simp[Sc.one]at ho) (by rintro rfl;simp[Sc.one]at ho)).1
   .exact ih ho.2 u hu
theorem afh{cs:List Sc}{v:List Value}(h:L2 (b6 ρ) cs c)(hl:L2 (b6 ρ) l v)(off:Nat):L2 (b6 ρ) (wr cs off l) (c.take off++v++c.drop (off+v.length)):=by unfold wr;rw[<-hl.length];exact((h.take off).app hl).app (h.drop _)
theorem P8{w:World}{H:AH}(hH:HR ρ w H){id off:Nat}{L:Loc}{l:List Sc}{cs:List Value}(dg:(hg H id).owned=true)(hL:ρ id=some L)(eH:L.nil=false)(hl:L2 (b6 ρ) l cs)(jm:off+l.length<=(hg H id).cells.length)(nQ:l.all Sc.one=true)(tK:0<l.length):∃w',(storeCells ⟨L.dK,L.off+off,none⟩ cs).run P w=.ok () w'/\jc ρ w H w' ρ (H.set id ((hg H id).put (wr (hg H id).cells off l))):=by have hO:=hH.obj id;have Hm:=hl.length;cases hh:hg H id with
 |own os=>
   rw[hh]at hO jm dg;obtain⟨L',c,t,h1,h2,h3,h4,h5,h6,h7⟩:=hO;obtain rfl:L=L':=by simpa[hL]using h1
   have py:=h7.length;simp only[ae.cells]at jm;obtain⟨w',h8,h9⟩:=Vt (P:=P) t L.dK cs w c 0 off h6 (UI hl nQ) ω;rw[h2,oU];refine⟨w',h8,jc.set hH (by rw[hh];rfl) hL eH h9 ?_⟩;exact⟨L,_,t,hL,h2,h3,h4,h5,h9.this,by simpa[ae.cells]using afh h7 hl off⟩|vec sz os=>
   rw[hh]at hO jm dg;obtain⟨L',h1,h2,h3,h4,h5,h6⟩:=hO;obtain rfl:L=L':=by simpa[hL]using h1
   rw[if_neg (by rw[eH];simp)]at h6;obtain⟨c,d,t,h6,ry,h7⟩:=h6;have py:=h7.length;simp only[ae.cells]at jm;obtain⟨w',h8,h9⟩:=Vt (P:=P) t L.dK cs w (c++d) 0 off h6 (UI hl nQ) (by simp;omega);rw[h2,oU];refine⟨w',h8,jc.set hH (by rw[hh];rfl) hL eH h9 ?_⟩;have e:(c++d).take (off+0)++cs++(c++d).drop (off+0+cs.length)=(c.take off++cs++c.drop (off+cs.length))++d:=by rw[CF ω,List.drop_append_of_le_length ω];simp
   rw[e]at h9;refine⟨L,hL,h2,?_,h4,h5,?_⟩
   .rw[h3];simp[wr,ae.cells];omega
   .rw[if_neg (by rw[eH];simp)];exact⟨_,d,t,h9.this,by rw[ry];simp;omega,afh h7 hl off⟩|view os=>rw[hh]at dg;simp[ae.owned]at dg|map mq es=>rw[hh]at jm;simp only[ae.cells,dY]at jm;omega|iter m since seen last=>rw[hh]at jm;simp only[ae.cells,dY]at jm;omega|dead=>rw[hh]at dg;simp[ae.owned]at dg
theorem afq{a:Act}(ps:Array (Nat×Operand)){vs:List AV}(hv:L2 (bg ρ) vs ((ps.toList.map (·.2)).map a.eval)):L2 (λ(x:Nat×AV)(y:Nat×Value)=>x.1=y.1/\bg ρ x.2 y.2) ((ps.toList.map (·.1)).zip vs) ((ps.map λp=>(p.1,a.eval p.2)).toList):=by have:=afr (ρ:=ρ) (a:=a) ps.toList vs (by simpa[Function.comp_def]using hv);simpa using this
theorem akY{o:Oper}{a:Act}{H H':AH}{vs:List AV}{v:AV}{w:World}(h:jy P o.op vs H=some (v,H'))(hv:L2 (bg ρ) vs ((bI o.op).map a.eval))(hH:HR ρ w H):MI P ρ H w (execOp a.eval o) v H':=by
 obtain⟨dst,op,ty,pos,after,guard⟩:=o;simp only at h hv;have fin:∀(s:Sem Value),(∃w' bh vc,jc ρ w H w' bh H'/\s.run P w=.ok vc w'/\bg bh v vc)->MI P ρ H w (do pure (.value (<-s)):Sem Next) v H':=by rintro s⟨w',bh,vc,h1,h2,h3⟩;exact⟨w',bh,h1,.inl ⟨vc,by simp[h2],h3⟩⟩
 unfold jy at h;split at h
 .rename_i t;split at h<;>simp at h;rename_i z hz;obtain⟨rfl,rfl⟩:=h;obtain⟨zv,zc,h1,h2,h3⟩:=Bw (ρ:=ρ) hz w;obtain⟨h4,h5⟩:=acz hH h3 t;refine fin _ ⟨_,_,_,h4,?_,h5⟩;simp only[Instr.alloc,c9,h1,c8,newVar,newRow,h2,run_newObj,fi];rfl
 .rename_i t x ax;split at h<;>simp at h;rename_i l hc;obtain⟨rfl,rfl⟩:=h;obtain⟨y,hy,h1⟩:=hv.one;simp only[bI,fW,iW,cK,and_true]at hy;subst hy;obtain⟨cs,h2,h3,_⟩:=h1.cells hc;obtain⟨h4,h5⟩:=acz hH h3 t;refine fin _ ⟨_,_,_,h4,?_,h5⟩;simp only[Instr.box,newVar,newRow,h2,c9,run_newObj,c8,fi];rfl
 .rename_i t len ps;split at h<;>try(simp at h;done)
  rename_i e hd;have hu:=mE hd;split at h<;>try(simp at h;done)
  rename_i z hz;split at h
  .rename_i hc;obtain⟨cJ,hl,BX,qo⟩:=hc;split at h<;>simp at h;rename_i cs hf;obtain⟨rfl,rfl⟩:=h;obtain⟨zv,zc,h1,h2,h3⟩:=Bw (ρ:=ρ) hz w;obtain⟨rc,h4,h5⟩:=NA _ _ _ (afq ps hv) _ _ _ (h3.rep len) hf;have hlen:len*av P e=rc.length:=by rw[<-h5.length,ZX _ _ _ _ hf];simp[qo]
   obtain⟨h6,h7⟩:=Xm hH h5 e (av P e) len cJ hlen (by have:len<=len*av P e:=XK _ cJ;omega);refine fin _ ⟨_,_,_,h6,?_,h7⟩;have tL:zc.length=av P e:=by rw[<-h3.length,qo]
   have cW:¬len*av P e=0:=by have:=BC hl cJ;omega
   have S5:¬len*av P e>2^24:=ω
   simp only[Instr.buildSlice,c9,run_underlying hu,c8,mC cJ,S5,if_false,cW,fi,h1,h2,Ld len _ tL];simp only[Qv]at h4|-;rw[h4];simp only[newRow,c9,run_newObj,c8,fi];rfl
  .split at h<;>simp at h;rename_i hc;obtain⟨cJ,rfl,rB⟩:=hc;obtain⟨rfl,rfl⟩:=h;obtain rfl:ps=#[]:=Array.eq_empty_of_size_eq_zero rB;obtain⟨h6,h7⟩:=Xm hH (l:=[]) (c:=[]) .nil e (av P e) 0 cJ (by simp) ω;refine fin _ ⟨_,_,_,h6,?_,h7⟩;have e0:Array.range 0=#[]:=by apply p9;simp
   simp[Instr.buildSlice,run_underlying hu,mC cJ,Instr.fill,newRow,e0]
 .rename_i t x y l c;split at h<;>try(simp at h;done)
  rename_i e hd;have hu:=mE hd;split at h<;>try(simp at h;done)
  rename_i z hz;split at h<;>simp at h;rename_i hc;obtain⟨rfl,h0,BX,cJ,wu,qo⟩:=hc;obtain⟨rfl,rfl⟩:=h;obtain⟨cx,cy,hx,h1,h2⟩:=hv.two;simp only[bI,fW,iW,cK,and_true]at hx;obtain⟨rfl,rfl⟩:=hx;obtain⟨h1,_⟩:=h1;obtain⟨h2,_⟩:=h2;obtain⟨zv,zc,h3,h4,h5⟩:=Bw (ρ:=ρ) hz w;obtain⟨i,hi,Az⟩:=Kr cJ;have tL:zc.length=av P e:=by rw[<-h5.length,qo]
  have Hm:l.toNat*av P e=((bE l.toNat z).flatten).length:=by simp[qo]
  have h8:=Xm hH (h5.rep l.toNat) e (av P e) l.toNat cJ (by simp[tL]) ω;rw[<-Hm]at h8;obtain⟨h6,h7⟩:=h8;refine fin _ ⟨_,_,_,h6,?_,h7⟩;have hw:IntKind.i64.wrap l=l:=I6 ω ω;have SE:lY P e=i.bytes:=by simp[lY,hi]
  have hb:¬((i.bytes:Int)*l>2^48):=by rw[<-SE];have:(lY P e:Int)*l<=1048576*1048576:=Int.mul_le_mul ω BX h0 ω;omega
  have hn:¬l<0:=ω
  have Fc:¬l>l:=ω
  have qN:decide ((i.bytes:Int)*l>2^48)=false:=decide_eq_false hb;simp only[Instr.makeSlice,c9,run_underlying hu,c8,h1,h2,asInt,asIntOf,fi,typeInfo,run_program,hi,hw,qN,Bool.false_or,hn,Fc,decide_false,Bool.or_self,dC,if_false,run_askRoom,mC cJ];by_cases B8:l.toNat*av P e=0
  .simp only[B8,if_true,fi,c8,newRow,c9,run_newObj];have e1:(bE l.toNat zc).flatten=[]:=uY (by simp[tL,B8]);have e0:Array.range 0=#[]:=by apply p9;simp
   rw[e1,e0];simp
  .simp only[B8,if_false,c9,fi,h3,c8,h4,Ld _ _ tL,newRow,run_newObj];rfl
 .rename_i t x y id off aX ax;split at h<;>try(simp at h;done)
  rename_i l hl;split at h<;>simp at h;rename_i hc;obtain⟨dg,AI,hlen,cJ,jm,nQ⟩:=hc;obtain⟨rfl,rfl⟩:=h;obtain⟨cx,cy,hx,h1,h2⟩:=hv.two;simp only[bI,fW,iW,cK,and_true]at hx;obtain⟨rfl,rfl⟩:=hx;obtain⟨cs,h3,h4,_⟩:=h2.cells hl;obtain⟨L,ad,h5,h6,h7,h8⟩:=(show jR ρ id off aX _ from h1);have mQ:=(hH.obj id).row h5 (ae.nC dg);obtain⟨eH,_,rfl⟩:=h8 (by rw[mQ];exact AI);obtain⟨w',h9,oD⟩:=P8 (P:=P) hH dg h5 eH h4 jm nQ ω;refine⟨w',ρ,oD,.inr ⟨?_,rfl⟩⟩;have cu:cs.toArray.size=av P t:=by simp[<-h4.length,hlen]
  simp only[execOp,c9,Instr.storeAt,h6,Instr.sureAddr,fi,c8,storeVar,mC cJ,h3,cu,ne_eq,not_true_eq_false,if_false,h9]
 .simp at h
end Go.Am

/- append -/
namespace Go.Am
variable {P:Program}{ρ:Ro}
variable {w:World}{i off n:Nat}{o:ae}{L:Loc}
theorem YU(ho:jJ ρ w i o)(hL:ρ i=some L)(hlen:off+n<=o.cells.length):∃vs:List Value,vs.length=n/\L2 (b6 ρ) ((o.cells.drop off).take n) vs/\∀w':World,(∀j,w'.cell? ⟨L.dK,j,none⟩=w.cell? ⟨L.dK,j,none⟩)->(loadCells ⟨L.dK,L.off+off,none⟩ n).run P w'=.ok vs.toArray w':=by
 have Hk:=λ(j:Nat)(s:Sc)(hs:o.cells[j]?=some s)=>ho.cell hL hs;have key:∀(l:List Sc)(p:Nat),(∀j s,l[j]?=some s->o.cells[p+j]?=some s)->∃vs:List Value,L2 (b6 ρ) l vs/\∀j v,vs[j]?=some v->w.cell? ⟨L.dK,L.off+(p+j),none⟩=some v:=by intro l;induction l with|nil=>intro p _;exact⟨[],.nil,by simp⟩|cons s l ih=>intro p h;obtain⟨v,hv,hr⟩:=Hk p s (by simpa using h 0 s (by simp));obtain⟨vs,h1,h2⟩:=ih (p+1) (λj s' uC=>by have:=h (j+1) s' (by simpa using uC);rwa[show p+1+j=p+(j+1)by omega]);refine⟨v::vs,.cons hr h1,λj u hu=>?_⟩;cases j with|zero=>simp at hu;subst hu;exact hv|succ j=>have:=h2 j u (by simpa using hu);rwa[show p+(j+1)=p+1+j by omega]
 obtain⟨vs,h1,h2⟩:=key ((o.cells.drop off).take n) off (λj s hs=>ZG _ _ _ _ _ hs);have hl:vs.length=n:=by rw[<-h1.length];simp;omega
 refine⟨vs,hl,h1,λw' Hz=>?_⟩;simp only[loadCells];rw[<-hl,run_loadCellsFrom w' _ vs 0 #[] (λj v hv=>by rw[Addr.BF,oU,mH,Hz];exact h2 j v hv)];simp
theorem amG(FB:Nat):∀(r c:Nat),Builtin.growBy FB r c<=max c (2*FB+1000):=by intro r;induction r with|zero=>intro c;simp only[Builtin.growBy];omega|succ r ih=>
   intro c;simp only[Builtin.growBy];split
   .omega
   .have:=ih (c+(c+768)/4);omega
theorem apE(FB cap:Nat)(h:cap<FB):Builtin.nextslicecap FB cap<=2*FB+1000:=by
 unfold Builtin.nextslicecap;split
 .omega
 .split
  .omega
  .have:=amG FB 4 cap;omega
def Es(P:Program)(ts:Array TypeId)(vs:List AV)(H:AH):Option (AV×AH):=match ts[0]?,ts[1]? with
 |some t0,some t1=>match dT P t0,dT P t1,vs with
   |.sl e,.sl _,[x,y]=>match Gd H (av P e) y,zT P e with|some (new,n),some z=>if 0<av P e/\0<lY P e/\lY P e<=1048576/\z.length=av P e/\new.all Sc.one=true then match x with
 |.c (.sl id off aX len)=>match hg H id with|.vec sz cs=>if off=0/\aX=cs.length/\sz=av P e/\cs.length=len*av P e/\(len+n)*lY P e<=1099511627776 then some (.c (.sl id 0 (cs.length+new.length) (len+n)),H.set id (.vec sz (cs++new)))else none|_=>none
 |.c .aA=>if 0<n/\n*lY P e<=1099511627776 then some (.c (.sl H.length 0 new.length n),H++[.vec (av P e) new])else none|_=>none else none|_,_=>none
   |_,_,_=>none
 |_,_=>none
variable {e:Nat}
theorem ah7{i:TypeInfo}(h:P.info? e=some i):lY P e=i.bytes:=by simp[lY,h]
variable {H:AH}{cy:Value}
theorem WZ{sz:Nat}{y:AV}{new:List Sc}(hH:HR ρ w H)(h:Gd H sz y=some (new,n))(hy:bg ρ y cy):∃vs:List Value,vs.length=n*sz/\L2 (b6 ρ) new vs/\(Builtin.lenOf cy).run P w=.ok n w/\n<=9223372036854775807/\∀w':World,(∀b j,b<w.heap.size->w'.cell? ⟨b,j,none⟩=w.cell? ⟨b,j,none⟩)->(Builtin.firstCells sz n cy).run P w'=.ok vs.toArray w':=by
 unfold Gd at h;split at h
 .simp at h;obtain⟨rfl,rfl⟩:=h;cases hy;exact⟨[],by simp,.nil,by simp[Builtin.lenOf],ω,λw' _=>by simp[Builtin.firstCells]⟩
 .rename_i id off aX m;split at h<;>simp at h;rename_i hc;obtain⟨rfl,rfl⟩:=h;obtain⟨L,base,cap,h1,rfl,hn,h2,h3,h4,h5⟩:=(show vO ρ id off aX m cy from hy);by_cases hm:m*sz=0
  .refine⟨[],by simp[hm],by rw[hm];simp;exact .nil,by simp[Builtin.lenOf],h3,λw' _=>?_⟩;cases base with|none=>simp[Builtin.firstCells]|some a=>simp[Builtin.firstCells,hm,loadCells,loadCellsFrom]
  .have C6:0<m:=by rcases Nat.eq_zero_or_pos m with h|h;subst h;simp at hm;exact h
   have AD:(hg H id).live=true:=by cases hh:hg H id with|dead=>rw[hh]at hc;simp[ae.cells]at hc;omega|_=>rfl
   have mQ:=(hH.obj id).row h1 AD;have h6:=h5 (by rw[mQ];exact hc.1);by_cases eH:L.nil=true
   .rw[if_pos eH]at h6;omega
   rw[if_neg eH]at h6;obtain⟨a,rfl,h7,_,_⟩:=h6;obtain rfl:=h7 (.inr C6);obtain⟨vs,h8,h9,oD⟩:=YU (P:=P) (hH.obj id) h1 hc.2;have SC:=(hH.obj id).xx h1 (by simpa using eH) AD;exact⟨vs,h8,h9,by simp[Builtin.lenOf],h3,λw' Hz=>by simp only[Builtin.firstCells];exact oD w' λj=>Hz _ _ SC⟩
 .simp at h
variable {w0:World}{M:Nat->Prop}
theorem gR.drew(h:gR w0 M w):gR w0 M w.drew:=⟨h.os,h.tape,h.output,h.size,h.lh,h.free⟩
theorem jJ.drew(h:jJ ρ w i o):jJ ρ w.drew i o:=h.fF (gG.refl ρ) rfl (λ_ _ _ _=>rfl) (aC _)
theorem HR.drew(h:HR ρ w H):HR ρ w.drew H:=⟨λi=>(h.obj i).drew,h.sep,h.fresh⟩
variable {H':AH}{l:List Sc}{c:List Value}
theorem HR.new{d:List Value}(h:HR ρ w H)(hl:L2 (b6 ρ) l c)(t id sz:Nat)(L:Loc)(hb:L.dK=w.heap.size)(jm:L.off=0)(eH:L.nil=false)(mQ:L.row=l.length)(ang:L.vec=true)(cJ:0<sz)(ry:L.cap*sz=(c++d).length)(dW:gG ρ (ic ρ id L))(NY:∀i,hg H' i=if i=id then .vec sz l else hg H i)(hlen:H.length<=H'.length)(iD:id<H'.length):HR (ic ρ id L) (w.alloc (.cells (c++d).toArray t)) H':=by
 have yV:L2 (b6 (ic ρ id L)) l c:=hl.mono λ_ _ h=>h.mono dW;refine⟨?_,?_,?_⟩
 .intro i;rw[NY];split
  .subst_vars;refine⟨L,iP _ _ _,jm,mQ,ang,cJ,?_⟩;rw[if_neg (by rw[eH];simp)];exact⟨c,d,t,by rw[hb];exact BG w _,ry,yV⟩
  .rename_i cW;refine(h.obj i).fF dW (fG _ _ cW) (λLi hi hn Fa=>?_) (by simp);exact zZ _ _ _ ((h.obj i).xx hi hn Fa)
 .intro i j Li Lj oF cR cB ir eU im oG;rw[NY]at cR eU;by_cases h1:i=id
  .subst h1;rw[iP]at cB;simp at cB;subst cB;have h2:j≠i:=λe=>oF e.symm;rw[if_neg h2]at eU;rw[fG _ _ h2]at im;have:=(h.obj j).xx im oG eU;omega
  .rw[if_neg h1]at cR;rw[fG _ _ h1]at cB;by_cases h2:j=id
   .subst h2;rw[iP]at im;simp at im;subst im;have:=(h.obj i).xx cB ir (ae.nC cR);omega
   .rw[if_neg h2]at eU;rw[fG _ _ h2]at im;exact h.sep i j Li Lj oF cR cB ir eU im oG
 .intro i hi;rw[fG _ _ ω];exact h.fresh i ω
theorem aA5(z:Array Value)(n:Nat):(Builtin.zeroCells z n).size=n*z.size:=by simp[Builtin.zeroCells]
variable {ts:Array TypeId}{ty t0 t1 e1 len cap:Nat}{cx:Value}{z:List Sc}
theorem Ye{base:Option Addr}{lh new:List Value}(h0:ts[0]?=some t0)(h1:ts[1]?=some t1)(CY:dT P t0=.sl e)(CZ:dT P t1=.sl e1)(hx:cx=.slice base len cap)(cJ:0<av P e)(wu:0<lY P e)(SD:lY P e<=1048576)(hz:zT P e=some z)(qo:z.length=av P e)(hlen:(Builtin.lenOf cy).run P w=.ok n w)(ry:¬len+n<=cap)(hb:(len+n)*lY P e<=1099511627776)(hold:(Builtin.firstCells (av P e) len cx).run P w.drew=.ok lh.toArray w.drew)(Hp:(Builtin.firstCells (av P e) n cy).run P w.drew=.ok new.toArray w.drew):∃(C:Nat)(rest:List Value),len+n<=C/\rest.length=(C-(len+n))*av P e/\(Builtin.append_ ts ty #[cx,cy]).run P w=.ok (.slice (some ⟨w.heap.size,0,none⟩) (len+n) C) (w.drew.alloc (.cells (lh++new++rest).toArray e)):=by
 subst hx;have Kq:=mE CY;have fZ:=mE CZ;obtain⟨i,hi,Az⟩:=Kr cJ;have xJ:=ah7 hi;obtain⟨zv,zc,h3,h4,h5⟩:=Bw (P:=P) (ρ:=λ_=>none) hz w.drew;have tL:zc.length=av P e:=by rw[<-h5.length,qo]
 have S6:len+n<=(len+n)*lY P e:=XK _ wu;have BX:IntKind.i64.max=9223372036854775807:=by decide
 have vp:¬((((len+n:Nat):Int)>IntKind.i64.max)/\(False\/i.bytes=0)):=by rw[BX];omega
 have N7:¬(Builtin.nextslicecap (len+n) cap*i.bytes>2^48):=by
  have a1:=apE (len+n) cap ω;rw[<-xJ];have a2:Builtin.nextslicecap (len+n) cap*lY P e<=(2*(len+n)+1000)*lY P e:=Nat.mul_le_mul_right _ a1;have a3:(2*(len+n)+1000)*lY P e=2*((len+n)*lY P e)+1000*lY P e:=by rw[uZ,Nat.mul_assoc]
  omega
 refine⟨(len+n)+w.tape w.drawn (.appendCap (len+n) cap e)%(2^63-(len+n)),(Builtin.zeroCells zc.toArray (w.tape w.drawn (.appendCap (len+n) cap e)%(2^63-(len+n)))).toList,ω,?_,?_⟩
 .simp[aA5,tL]
 .have e0:(#[Value.slice base len cap,cy]:Array Value)[0]?=some (.slice base len cap):=rfl;have e1:(#[Value.slice base len cap,cy]:Array Value)[1]?=some cy:=rfl;simp only[Builtin.append_,h0,h1,e0,e1,c9,run_underlying Kq,run_underlying fZ,c8,mC cJ,fi,dC,if_false,hlen,ry];have eI:∀w:World,(typeInfo e).run P w=.ok i w:=λw=>by simp[typeInfo,hi]
  have hfo:(Question.appendCap (len+n) cap e).forced=false:=rfl;have HB:zc.length=zc.toArray.size:=by simp
  simp only[eI,c8,vp,if_false,c9,N7,run_choose,hfo,dC,run_askRoom,World.drew_eq,hold,En,if_true,Hp,h3,h4,newRow,run_newObj,fi,Question.cut];congr 2
  .rw[Nat.add_sub_cancel_left];congr 2;apply p9;simp
variable {w':World}
theorem agP{a:Addr}{new:List Value}(h0:ts[0]?=some t0)(h1:ts[1]?=some t1)(CY:dT P t0=.sl e)(CZ:dT P t1=.sl e1)(cJ:0<av P e)(hlen:(Builtin.lenOf cy).run P w=.ok n w)(ry:len+n<=cap)(Hp:(Builtin.firstCells (av P e) n cy).run P w=.ok new.toArray w)(dW:(storeCells (a.add (len*av P e)) new).run P w=.ok () w'):(Builtin.append_ ts ty #[.slice (some a) len cap,cy]).run P w=.ok (.slice (some a) (len+n) cap) w':=by have Kq:=mE CY;have fZ:=mE CZ;have e0:(#[Value.slice (some a) len cap,cy]:Array Value)[0]?=some (.slice (some a) len cap):=rfl;have e1:(#[Value.slice (some a) len cap,cy]:Array Value)[1]?=some cy:=rfl;simp only[Builtin.append_,h0,h1,e0,e1,c9,run_underlying Kq,run_underlying fZ,c8,mC cJ,fi,dC,if_false,hlen,ry,if_true,En,Hp,dW]
variable {cs:List Value}{v:AV}
theorem agO{vs:List AV}(h:Es P ts vs H=some (v,H'))(hv:L2 (bg ρ) vs cs)(hH:HR ρ w H):∃w' bh vc,jc ρ w H w' bh H'/\(Builtin.append_ ts ty cs.toArray).run P w=.ok vc w'/\bg bh v vc:=by
 unfold Es at h;split at h<;>try(simp at h;done)
 rename_i t0 t1 h0 h1;split at h<;>try(simp at h;done)
 rename_i e e1 x y CY CZ;split at h<;>try(simp at h;done)
 rename_i new n z C8 hz;split at h<;>try(simp at h;done)
 rename_i hc;obtain⟨cJ,wu,SD,qo,nQ⟩:=hc;obtain⟨cx,cy,rfl,hx,hy⟩:=hv.two;obtain⟨nv,BZ,Hq,hlen,aBo,Hp⟩:=WZ (P:=P) hH C8 hy;have hnw:=Hp w λ_ _ _=>rfl;have aaB:=Hp w.drew λ_ _ _=>rfl;have S6:∀k,k<=k*lY P e:=λk=>XK _ wu;split at h
 .rename_i id off aX len;split at h<;>try(simp at h;done)
  rename_i sz os Kj;split at h<;>simp at h;rename_i hc;obtain⟨rfl,rfl,rfl,Ta,hb⟩:=hc;obtain⟨rfl,rfl⟩:=h;obtain⟨L,base,cap,g1,rfl,gn,g2,g3,g4,g5⟩:=(show vO ρ id 0 os.length len cx from hx);have hO:=hH.obj id;rw[Kj]at hO;obtain⟨L',k1,k2,k3,k4,k5,k6⟩:=hO;obtain rfl:L=L':=by simpa[g1]using k1
  have g6:=g5 k3.symm;have dg:(hg H id).owned=true:=by rw[Kj];rfl
  have iD:=dU (ae.nC dg);have Ki:=Hq.length;have hk:=S6 (len+n);have Th:(os++new).length=os.length+new.length:=by simp
  have dW:∀L':Loc,L'.row=os.length+new.length->(new.length=0->L'=L)->gG ρ (ic ρ id L'):=by
   intro L' hr he i Li hi;by_cases Ay:i=id
   .subst Ay;refine⟨L',iP _ _ _,?_⟩;obtain rfl:L=Li:=by simpa[g1]using hi
    rcases Nat.eq_zero_or_pos new.length with hz|hz
    .exact .inl (he hz)
    .right;omega
   .exact⟨Li,by rw[fG _ _ Ay,hi],.inl rfl⟩
  have Km:∀i,hg (H.set id (.vec (av P e) (os++new))) i=if i=id then .vec (av P e) (os++new)else hg H i:=λi=>ql _ _ _ _ iD;by_cases Om:len+n<=cap
  .by_cases eH:L.nil=true
   .rw[if_pos eH]at g6 k6;obtain⟨rfl,_,rfl,rfl⟩:=g6;obtain⟨rfl,_⟩:=k6;have Oj:n=0:=ω
    subst Oj;have am5:new=[]:=uY (by rw[Ki,BZ];simp);subst am5;have JX:H.set id (.vec (av P e) ([]++[]))=H:=by
     apply List.ext_getElem?;intro i;rw[qD];split
     .subst_vars;have:H[i]?=some (hg H i):=by unfold hg;rw[b9];simp[iD]
      rw[this,Kj];simp
     .rfl
    rw[JX];refine⟨w,ρ,.slice none 0 0,⟨hH,gG.refl ρ,λ_ _ a b=>⟨a,b⟩,aC _,λ_ _ _ h=>h⟩,?_,?_⟩
    .have Kq:=mE CY;have fZ:=mE CZ;have e0:(#[Value.slice none 0 0,cy]:Array Value)[0]?=some (.slice none 0 0):=rfl;have e2:(#[Value.slice none 0 0,cy]:Array Value)[1]?=some cy:=rfl;simp only[Builtin.append_,h0,h1,e0,e2,c9,run_underlying Kq,run_underlying fZ,c8,mC cJ,fi,dC,if_false,hlen,aC,if_true,En,hnw]
    .exact⟨L,none,0,g1,rfl,by simp,ω,ω,by simp,λ_=>by rw[if_pos eH];simp⟩
   .rw[if_neg eH]at g6 k6;have S7:L.nil=false:=by simpa using eH
    obtain⟨a,rfl,g7,g8,_⟩:=g6;obtain rfl:=g7 (.inl rfl);have ry:=g8 rfl k4;obtain⟨c,d,t,k7,k8,k9⟩:=k6;have py:=k9.length;have Hj:len*av P e+nv.length<=(c++d).length:=by rw[BZ,<-uZ,<-k8];exact Nat.mul_le_mul_right _ (Nat.le_trans Om ry)
    obtain⟨w',m1,m2⟩:=Vt (P:=P) t L.dK nv w (c++d) 0 (len*av P e) k7 (UI Hq nQ) ω;have e3:(c++d).take (len*av P e+0)++nv++(c++d).drop (len*av P e+0+nv.length)=(c++nv)++d.drop nv.length:=by
     have:len*av P e=c.length:=ω
     rw[this,rj,CF (aC _),List.take_length,List.drop_append];simp
    rw[e3]at m2;have yO:=dW {L with row:=os.length+new.length} rfl (λhz=>by simp only[hz,rj,<-k3]);refine⟨w',ic ρ id {L with row:=os.length+new.length},_,⟨⟨?_,?_,?_⟩,yO,?_,by simp,?_⟩,agP (ty:=ty) h0 h1 CY CZ cJ hlen Om hnw (by rw[Addr.BF,k2];simpa using m1),?_⟩
    .intro i;rw[Km];split
     .subst_vars;refine⟨_,iP _ _ _,k2,by simp,k4,k5,?_⟩;rw[if_neg eH];refine⟨c++nv,d.drop nv.length,t,m2.this,?_,?_⟩
      .show L.cap*av P e=_;rw[k8];simp at Hj|-;omega
      .exact(k9.mono λ_ _ h=>b6.mono h yO).app (Hq.mono λ_ _ h=>b6.mono h yO)
     .rename_i cW;refine(hH.obj i).fF yO (fG _ _ cW) (λLi hi hn Fa=>?_) (by rw[m2.size];omega);exact m2.other _ (λe=>hH.sep id i L Li (λe=>cW e.symm) dg g1 S7 Fa hi hn e.symm)
    .intro i j Li Lj oF cR cB ir eU im oG;rw[Km]at cR eU;have tr:∀(k:Nat)(Lk:Loc),ic ρ id {L with row:=os.length+new.length} k=some Lk->∃QP,ρ k=some QP/\QP.dK=Lk.dK/\QP.nil=Lk.nil:=by
      intro k Lk hk;by_cases e:k=id
      .subst e;rw[iP]at hk;simp at hk;subst hk;exact⟨L,g1,rfl,rfl⟩
      .rw[fG _ _ e]at hk;exact⟨Lk,hk,rfl,rfl⟩
     obtain⟨Mi,a1,a2,a3⟩:=tr i Li cB;obtain⟨Mj,b1,b2,b3⟩:=tr j Lj im;rw[<-a2,<-b2];have SW:(hg H i).owned=true:=by split at cR;subst_vars;exact dg;exact cR
     have SX:(hg H j).live=true:=by split at eU;subst_vars;exact ae.nC dg;exact eU
     exact hH.sep i j Mi Mj oF SW a1 (by rw[a3,ir]) SX b1 (by rw[b3,oG])
    .intro i hi;simp at hi;rw[fG _ _ ω];exact hH.fresh i hi
    .intro w0 M hk hm;refine⟨hk.aer m2 (hm id L dg g1 S7),λi Li cR cB ir=>?_⟩;rw[Km]at cR;by_cases e:i=id
     .subst e;rw[iP]at cB;simp at cB;subst cB;exact hm _ L dg g1 S7
     .rw[if_neg e]at cR;rw[fG _ _ e]at cB;exact hm _ _ cR cB ir
    .intro i Li cR cB;have:i≠id:=by rintro rfl;rw[dg]at cR;simp at cR
     rw[fG _ _ this,cB]
    .refine⟨_,_,_,iP _ _ _,rfl,by simp,Om,ω,aC _,λ_=>?_⟩;rw[if_neg eH];refine⟨_,rfl,λ_=>rfl,λ_ _=>ry,λhp _=>?_⟩;show 0<os.length+new.length;rw[Ta,Ki,BZ,<-uZ];exact BC hp cJ
  .obtain⟨ov,o1,o2,o3⟩:∃ov:List Value,ov.length=len*av P e/\L2 (b6 ρ) os ov/\(Builtin.firstCells (av P e) len (.slice base len cap)).run P w.drew=.ok ov.toArray w.drew:=by
    by_cases eH:L.nil=true
    .rw[if_pos eH]at g6 k6;obtain⟨rfl,_,rfl,rfl⟩:=g6;obtain⟨rfl,_⟩:=k6;exact⟨[],by simp,.nil,by simp[Builtin.firstCells]⟩
    .rw[if_neg eH]at g6;obtain⟨a,rfl,g7,g8,_⟩:=g6;obtain rfl:=g7 (.inl rfl);obtain⟨vs,h8,h9,oD⟩:=YU (P:=P) (off:=0) (n:=len*av P e) (hH.obj id) g1 (by rw[Kj];simp[ae.cells,Ta]);rw[Kj]at h9;have e4:((ae.vec (av P e) os).cells.drop 0).take (len*av P e)=os:=by simp[ae.cells,<-Ta]
     rw[e4]at h9;exact⟨vs,h8,h9,by simp only[Builtin.firstCells];exact oD w.drew λ_=>rfl⟩
   obtain⟨C,rest,c1,c2,c3⟩:=Ye (ty:=ty) h0 h1 CY CZ rfl cJ wu SD hz qo hlen Om hb o3 aaB;have am6:0<n:=ω
   have aBn:0<new.length:=by rw[Ki,BZ];exact BC am6 cJ
   have yO:=dW ⟨w.heap.size,0,C,os.length+new.length,false,true⟩ rfl (λhz=>ω);have hrel:L2 (b6 ρ) (os++new) (ov++nv):=o2.app Hq;have ry:C*av P e=((ov++nv)++rest).length:=by simp only[cF,o1,BZ,c2];rw[<-uZ,<-uZ];congr 1;omega
   have hr:=HR.new hH.drew hrel e id (av P e) ⟨w.heap.size,0,C,os.length+new.length,false,true⟩ rfl rfl rfl (by simp) rfl cJ ry yO Km (by simp) (by simpa using iD);refine⟨_,_,_,⟨hr,yO,λw0 M hk hm=>⟨hk.drew.alloc _ _,λi Li cR cB ir=>?_⟩,by simp,λi Li cR cB=>?_⟩,c3,?_⟩
   .rw[Km]at cR;by_cases e:i=id
    .subst e;rw[iP]at cB;simp at cB;subst cB;exact .inr hk.size
    .rw[if_neg e]at cR;rw[fG _ _ e]at cB;exact hm _ _ cR cB ir
   .have:i≠id:=by rintro rfl;rw[dg]at cR;simp at cR
    rw[fG _ _ this,cB]
   .refine⟨_,_,_,iP _ _ _,rfl,by simp,c1,ω,aC _,λ_=>?_⟩;rw[if_neg (by simp)];exact⟨_,rfl,λ_=>rfl,λ_ _=>aC _,λ_ _=>by show 0<os.length+new.length;omega⟩
 .split at h<;>simp at h;rename_i hc;obtain⟨Oj,hb⟩:=hc;obtain⟨rfl,rfl⟩:=h;cases hx;obtain⟨C,rest,c1,c2,c3⟩:=Ye (ty:=ty) (base:=none) (len:=0) (cap:=0) (n:=n) (lh:=[]) h0 h1 CY CZ rfl cJ wu SD hz qo hlen ω (by simpa using hb) (by simp[Builtin.firstCells]) aaB;have dW:gG ρ (ic ρ H.length ⟨w.heap.size,0,C,new.length,false,true⟩):=by
   intro i Li hi;have:i≠H.length:=by rintro rfl;rw[hH.fresh _ (aC _)]at hi;simp at hi
   exact⟨Li,by rw[fG _ _ this,hi],.inl rfl⟩
  have Ki:=Hq.length;have ry:C*av P e=(nv++rest).length:=by simp only[cF,BZ,c2];rw[<-uZ];congr 1;omega
  have hr:=HR.new hH.drew Hq e H.length (av P e) ⟨w.heap.size,0,C,new.length,false,true⟩ rfl rfl rfl rfl rfl cJ ry dW (qj H _) (by simp) (by simp);rw[oU,jV]at c3;have hk:=S6 n;refine⟨_,_,_,⟨hr,dW,λw0 M hk hm=>⟨hk.drew.alloc _ _,λi Li cR cB ir=>?_⟩,by simp,λi Li cR cB=>?_⟩,c3,?_⟩
  .rw[qj]at cR;by_cases e:i=H.length
   .subst e;rw[iP]at cB;simp at cB;subst cB;exact .inr hk.size
   .rw[if_neg e]at cR;rw[fG _ _ e]at cB;exact hm _ _ cR cB ir
  .have:i≠H.length:=by rintro rfl;rw[hH.fresh _ (aC _)]at cB;simp at cB
   rw[fG _ _ this,cB]
  .refine⟨_,_,_,iP _ _ _,rfl,by simp,ω,ω,aC _,λ_=>?_⟩;rw[if_neg (by simp)];refine⟨_,rfl,λ_=>rfl,λ_ _=>aC _,λhp _=>?_⟩;show 0<new.length;rw[Ki,BZ];exact BC hp cJ
 .simp at h
def Ae:List Sc->Option (List Int)|[]=>some []|.k .u8 n::r=>(Ae r).map (n::·)|_=>none
def D7(l:List Int):ByteArray:=⟨(l.map λn=>UInt8.ofNat n.toNat).toArray⟩
def EF(P:Program)(s d:Nat)(x:AV)(H:AH):Option AV:=match dT P s,dT P d with
 |.sl e,.str=>match dT P e,Gd H 1 x with|.int .u8,some (new,_)=>(Ae new).map λl=>.c (.s (D7 l))|_,_=>none
 |_,_=>none
theorem ah6:∀{new:List Sc}{l:List Int}{vs:List Value},Ae new=some l->L2 (b6 ρ) new vs->vs=l.map (Value.int .u8)/\new.length=l.length:=by intro new;induction new with|nil=>intro l vs h h2;simp[Ae]at h;subst h;cases h2;exact⟨rfl,rfl⟩|cons a r ih=>intro l vs h h2;cases h2 with|cons h3 h4=>
 unfold Ae at h;split at h
 .simp_all
 .rename_i n r' heq;simp only[cK]at heq;obtain⟨rfl,rfl⟩:=heq;rw[ef]at h;obtain⟨l',h5,rfl⟩:=h;obtain⟨e1,e2⟩:=ih h5 h4;obtain⟨rfl,_⟩:=h3;exact⟨by rw[e1];rfl,by simp[e2]⟩
 .simp at h
variable {d:Nat}{x:AV}
theorem Zk{s:Nat}(hH:HR ρ w H)(h:EF P s d x H=some v)(hx:bg ρ x cx):∃vc,(convert s d cx).run P w=.ok vc w/\bg ρ v vc:=by
 unfold EF at h;split at h
 .rename_i e hs hd;split at h
  .rename_i new n he C8;rw[ef]at h;obtain⟨l,hl,rfl⟩:=h;obtain⟨vs,h1,h2,h3,h4,h5⟩:=WZ (P:=P) hH C8 hx;obtain⟨e1,e2⟩:=ah6 hl h2;have Fs:l.length<=9223372036854775807:=by
    have:vs.length=l.length:=by rw[e1];simp
    omega
   have sz:(D7 l).size<=9223372036854775807:=by simpa[D7,ByteArray.size]using Fs
   refine⟨.string (D7 l),?_,rfl,sz⟩;have h6:=h5 w (λ_ _ _=>rfl);have shape:(∃i o vv m,x=.c (.sl i o vv m))\/x=.c .aA:=by
    unfold Gd at C8;split at C8
    .exact .inr rfl
    .exact .inl ⟨_,_,_,_,rfl⟩
    .simp at C8
   have hcx:∃b ln cp,cx=.slice b ln cp:=by
    rcases shape with⟨i,o,vv,m,rfl⟩|rfl
    .obtain⟨L,base,cap,_,rfl,_⟩:=(show vO ρ i o vv m cx from hx);exact⟨_,_,_,rfl⟩
    .cases hx;exact⟨_,_,_,rfl⟩
   obtain⟨b,ln,cp,rfl⟩:=hcx;rw[run_convert_bytes_string w s d e b ln cp (mE hs) (Br he) (Mr hd)];have hn:n=ln:=by simp[Builtin.lenOf]at h3;exact h3.symm
   subst hn;cases b with|none=>
 have:vs=[]:=by have h7:=h6;simp only[Builtin.firstCells,fi,Result.ok.injEq]at h7;have:=congrArg Array.toList h7.1;simpa using this.symm
 rw[this]at e1;have:l=[]:=by have e3:=congrArg List.length e1;rw[List.length_map]at e3;exact uY e3.symm
 subst this;simp only[Conv.bytesToString];rfl|some a=>
     simp only[Builtin.firstCells,Nat.mul_one]at h6;rw[e1]at h6;rw[run_bytesToString w a n cp l h6];have fold:∀(ns:List Int)(s:ByteArray),ns.foldl (λr n=>r.push (UInt8.ofNat n.toNat)) s=⟨s.data++(ns.map λn=>UInt8.ofNat n.toNat).toArray⟩:=by intro ns;induction ns with|nil=>intro s;simp|cons n ns ih=>intro s;rw[XH,ih];simp[ByteArray.push]
     rw[fold];have:ByteArray.empty.data++(List.map (λn=>UInt8.ofNat n.toNat) l).toArray=(List.map (λn=>UInt8.ofNat n.toNat) l).toArray:=by show(#[]:Array UInt8)++_=_;simp
     rw[this];rfl
  .simp at h
 .simp at h
def QN(ρ:Ro)(es:List MapEntry)(i0:Nat):Option (Nat×AV)->Option (Nat×Value)->Prop|none,none=>True|some (i,v),some (j,x)=>i=j/\V1 ρ v x/\i0<=i/\∃e,es[i-i0]?=some e/\e.val=x|_,_=>False
theorem QN.shift{e:MapEntry}{es:List MapEntry}{r:Option (Nat×AV)}{r':Option (Nat×Value)}(h:QN ρ es (i+1) r r'):QN ρ (e::es) i r r':=by cases r with
 |none=>cases r' with|none=>trivial|some y=>exact h.elim
 |some x=>cases r' with|none=>exact h.elim|some y=>obtain⟨h1,h2,h3,e',h4,h5⟩:=h;refine⟨h1,h2,ω,e',?_,h5⟩;rw[show x.1-i=(x.1-(i+1))+1 by omega];simpa using h4
theorem jc.Ml{H:AH}(h:HR ρ w H){id:Nat}{L:Loc}{c:Array MapEntry}{t:Nat}{o':ae}(dg:(hg H id).owned=true)(hL:ρ id=some L)(eH:L.nil=false)(hs:CK w w' L.dK (.map c t))(j3:jJ ρ w' id o'):jc ρ w H w' ρ (H.set id o'):=by
 have iD:=dU (ae.nC dg);refine⟨h.set dg hL eH hs j3,gG.refl ρ,λw0 M hk hm=>⟨hk.Ml hs (hm id L dg hL eH),λi Li cR cB ir=>?_⟩,by simp,λ_ _ _ h=>h⟩;rw[ql _ _ _ _ iD]at cR;split at cR
 .subst_vars;exact hm _ _ dg cB ir
 .exact hm _ _ cR cB ir
theorem jc.PX{w w':World}{H:AH}(h:HR ρ w H){id:Nat}{L:Loc}{x:Option Nat}{b':Nat}{sn:Array Nat}{c0:Nat}{o':ae}(dg:(hg H id).owned=true)(hL:ρ id=some L)(eH:L.nil=false)(hs:CK w w' L.dK (.mapIter x b' sn c0))(j3:jJ ρ w' id o'):jc ρ w H w' ρ (H.set id o'):=by
 have iD:=dU (ae.nC dg);refine⟨h.set dg hL eH hs j3,gG.refl ρ,λw0 M hk hm=>⟨hk.PX hs (hm id L dg hL eH),λi Li cR cB ir=>?_⟩,by simp,λ_ _ _ h=>h⟩;rw[ql _ _ _ _ iD]at cR;split at cR
 .subst_vars;exact hm _ _ dg cB ir
 .exact hm _ _ cR cB ir
theorem jc.refl(h:HR ρ w H):jc ρ w H w ρ H:=⟨h,gG.refl ρ,λ_ _ a b=>⟨a,b⟩,aC _,λ_ _ _ h=>h⟩
variable {α β:Type}
theorem L2.Ml{R:α->β->Prop}{l:List α}{m:List β}(h:L2 R l m):∀(i:Nat)(a:α)(f:β->β),(∀b,m[i]?=some b->R a (f b))->L2 R (l.set i a) (m.modify i f):=by induction h with|nil=>intro i a f _;simp;exact .nil|@cons x y l m hx _ ih=>intro i a f hf;cases i with|zero=>simp only[List.set_cons_zero,List.modify_zero_cons];exact .cons (hf y (by simp)) (by assumption)|succ i=>simp only[List.set_cons_succ,List.modify_succ_cons];exact .cons hx (ih i a f λb hb=>hf b (by simpa using hb))
theorem ai0{w:World}{H H':AH}(hH:HR ρ w H){t ty:Nat}{x:AV}{cx:Value}{ts:Array TypeId}(ht:ts[0]?=some t)(h:CO P t x H=some H')(hx:bg ρ x cx):∃w',(Builtin.clear_ ts ty #[cx]).run P w=.ok (.tuple #[]) w'/\jc ρ w H w' ρ H':=by
  unfold CO at h;split at h<;>try(simp at h;done)
  .rename_i e hd;simp at h;subst h;obtain rfl:cx=.slice none 0 0:=hx;refine⟨w,?_,jc.refl hH⟩;simp only[Builtin.clear_,ht,c9,run_underlying (mE hd),c8,Gx,Gu,fi]
  · rename_i e id off aX n hd;split at h<;>try(simp at h;done)
    rename_i z hz;obtain⟨L,base,cap,h1,rfl,ru,Kb,hl9,AI,J4⟩:=(show vO ρ id off aX n cx from hx);split at h
    .subst_vars;simp at h;subst h;refine⟨w,?_,jc.refl hH⟩;cases base with
 |none=>simp only[Builtin.clear_,ht,c9,run_underlying (mE hd),c8,Gx,Gu,fi]|some a=>simp only[Builtin.clear_,ht,c9,run_underlying (mE hd),c8,Gx,Gu,fi]
    · rename_i Oj;split at h<;>try(simp at h;done)
      rename_i hc;obtain⟨dg,hv,cJ,qo,hlen,nQ⟩:=hc;simp at h;subst h;have mQ:=(hH.obj id).row h1 (ae.nC dg);have cu:=J4 (by rw[mQ];exact hv);split at cu
      .omega
      · rename_i eH;obtain⟨a,rfl,ha,_,_⟩:=cu;obtain rfl:=ha (.inr ω);obtain⟨zv,zc,g1,g2,g3⟩:=Bw (ρ:=ρ) hz w;have tL:zc.length=av P e:=by rw[<-g3.length,qo]
        have Th:((bE n z).flatten).length=n*av P e:=by simp[qo]
        have tK:0<n*av P e:=BC ω cJ;obtain⟨w',h9,oD⟩:=P8 (P:=P) hH dg h1 (by simpa using eH) (g3.rep n) (by rw[Th];exact hlen) (by rw[cD]at nQ|-;intro s hs;simp only[List.mem_flatten,List.mem_replicate]at hs;obtain⟨l,⟨_,rfl⟩,hm⟩:=hs;exact nQ s hm) (by rw[Th];exact tK);refine⟨w',?_,oD⟩;have To:(Builtin.zeroCells zv.cells n).toList=(bE n zc).flatten:=by
          have:=Ld n _ tL;have e2:zc.toArray.size=av P e:=by simpa using tL
          rw[g2];unfold Builtin.zeroCells;rw[e2];rw[e2]at this;rw[this]
        have hnn:∃n',n=n'+1:=⟨n-1,ω⟩;obtain⟨n',rfl⟩:=hnn;simp only[Builtin.clear_,ht,c9,run_underlying (mE hd),c8,Gx,Gu,g1,To,h9,fi]
theorem ajn{w:World}{H H':AH}(hH:HR ρ w H){t ty:Nat}{x y v:AV}{cx cy:Value}{ts:Array TypeId}(ht:ts[0]?=some t)(h:GX P t x y H=some (v,H'))(hx:bg ρ x cx)(hy:bg ρ y cy):∃w' vc,(Builtin.copy_ ts ty #[cx,cy]).run P w=.ok vc w'/\bg ρ v vc/\jc ρ w H w' ρ H':=by
  unfold GX at h;split at h<;>try(simp at h;done)
  rename_i e id off aX len hd;split at h<;>try(simp at h;done)
  rename_i new n hs;split at h<;>try(simp at h;done)
  rename_i hc;obtain⟨cJ,hle⟩:=hc;obtain⟨L,base,cap,h1,rfl,ru,Kb,hl9,AI,J4⟩:=(show vO ρ id off aX len cx from hx);obtain⟨vs,g1,g2,g3,g4,g5⟩:=WZ (P:=P) hH hs hy;have hf:=g5 w λ_ _ _=>rfl;have Ke:Nat.min n len=n:=yw hle;have e0:(#[Value.slice base len cap,cy]:Array Value)[0]?=some (.slice base len cap):=rfl;have e1:(#[Value.slice base len cap,cy]:Array Value)[1]?=some cy:=rfl;split at h
  .rename_i hn;subst hn;simp only[ar,bD]at h;obtain⟨rfl,rfl⟩:=h;have Fg:vs=[]:=uY (by rw[g1];simp);subst Fg;refine⟨w,goInt 0,?_,⟨rfl,δ,δ⟩,jc.refl hH⟩;cases base with
 |none=>simp only[Builtin.copy_,ht,e0,e1,c9,run_underlying (mE hd),c8,g3,mC cJ,Ke,hf,fi];rfl|some a=>simp only[Builtin.copy_,ht,e0,e1,c9,run_underlying (mE hd),c8,g3,mC cJ,Ke,hf,fi,storeCells];rfl
  · rename_i Oj;split at h<;>try(simp at h;done)
    rename_i hc;obtain⟨dg,hv,hlen,nQ⟩:=hc;simp only[ar,bD]at h;obtain⟨rfl,rfl⟩:=h;have mQ:=(hH.obj id).row h1 (ae.nC dg);have cu:=J4 (by rw[mQ];exact hv);split at cu
    .omega
    · rename_i eH;obtain⟨a,rfl,ha,_,_⟩:=cu;obtain rfl:=ha (.inr ω);have tK:0<new.length:=by rw[g2.length,g1];exact BC ω cJ
      obtain⟨w',h9,oD⟩:=P8 (P:=P) hH dg h1 (by simpa using eH) g2 hlen nQ tK;refine⟨w',goInt n,?_,?_,oD⟩
      .simp only[Builtin.copy_,ht,e0,e1,c9,run_underlying (mE hd),c8,g3,mC cJ,Ke,hf,h9,fi]
      .refine⟨?_,ω,ω⟩;simp[goInt]
theorem ape{o:Oper}{a:Act}{H H':AH}{vs:List AV}{v:AV}{w:World}(h:HM P o.op vs H=some (v,H'))(hv:L2 (bg ρ) vs ((bI o.op).map a.eval))(hH:HR ρ w H):MI P ρ H w (execOp a.eval o) v H':=by
  obtain⟨dst,op,ty,pos,after,guard⟩:=o;simp only at h hv;unfold HM at h;split at h
  · rename_i as ts x;rw[kY]at h;obtain⟨t,ht,h⟩:=h;rw[ef]at h;obtain⟨v',h1,h2⟩:=h;simp only[bD]at h2;obtain⟨rfl,rfl⟩:=h2;obtain⟨cm,hx,h3⟩:=hv.one;obtain⟨w',h5,h6⟩:=ai0 (ty:=ty) hH ht h1 h3;have has:#[cm]=as.map a.eval:=by apply p9;simp only[bI]at hx;rw[Qv,hx]
    refine⟨w',ρ,h6,.inl ⟨.tuple #[],?_,[],rfl,.nil⟩⟩;rw[has]at h5;simp only[execOp,resolve,c9,fi,c8,invoke,builtin,h5]
  · rename_i as ts x y;rw[kY]at h;obtain⟨t,ht,h1⟩:=h;obtain⟨cm,ck,hx,h3,h4⟩:=hv.two;obtain⟨w',vc,h5,h6,h7⟩:=ajn (ty:=ty) hH ht h1 h3 h4;have has:#[cm,ck]=as.map a.eval:=by apply p9;simp only[bI]at hx;rw[Qv,hx]
    refine⟨w',ρ,h7,.inl ⟨vc,?_,h6⟩⟩;rw[has]at h5;simp only[execOp,resolve,c9,fi,c8,invoke,builtin,h5]
  .simp at h
theorem apd{op:Op}{H H':AH}{vs:List AV}{v:AV}(h:HM P op vs H=some (v,H')):H.length<=H'.length:=by
  have hc:∀{t:Nat}{x:AV}{H1:AH},CO P t x H=some H1->H.length<=H1.length:=by
    intro t x H1 h;unfold CO at h;split at h<;>try(simp at h;done)
    .simp at h;subst h;exact aC _
    · split at h<;>try(simp at h;done)
      split at h
      .simp at h;subst h;exact aC _
      .split at h<;>simp at h;subst h;simp
  unfold HM at h;split at h
  .rw[kY]at h;obtain⟨_,_,h⟩:=h;rw[ef]at h;obtain⟨_,h1,h2⟩:=h;simp only[bD]at h2;obtain⟨_,rfl⟩:=h2;exact hc h1
  · rw[kY]at h;obtain⟨_,_,h⟩:=h;unfold GX at h;repeat' split at h
    all_goals simp at h
    all_goals obtain⟨_,rfl⟩:=h
    all_goals simp
  .simp at h
end Go.Am

/- The runs: 'arun', and calls of functions whose contracts a table holds. -/
namespace Go.Am
inductive MJ where|pu(s:List AV->Option AV)|fp(s:List AV->AH->Option (AV×AH))|fq(s:List AV->AH->Option AV)|fr(s:List AV->AH->Option (AV->AH->Prop))|lo(n:Nat)
abbrev je:=List (Nat×MJ)
def look:je->Nat->Option MJ|[],_=>none|(g,e)::r,f=>if g=f then some e else look r f
def lo:je->Nat|[]=>0|(_,.lo n)::_=>n|_::r=>lo r
def Af(aa:je)(f:Nat)(args:List AV)(H:AH):Option (AV×AH):=match look aa f with|some (.pu s)=>(s args).map λv=>(v,H)|some (.fp s)=>s args H|some (.fq s)=>(s args H).map λv=>(v,H)|_=>none
def Ag(c:Nat×Nat×Nat):AV:=.c (.p c.1 c.2.1 c.2.2)
def cO(P:Program)(aa:je)(op:Op)(vs:List AV)(H:AH):Option (AV×AH):=match op,vs with|.call ⟨.value _,_,_⟩,.c (.f fn cs)::args=>Af aa fn (args++cs.map Ag) H|.call ⟨.value _,_,_⟩,_=>none|.call ⟨.builtin .append,_,ts⟩,vs=>Es P ts vs H|.convert s d _,[.c (.sl i o v n)]=>(EF P s d (.c (.sl i o v n)) H).map λv=>(v,H)|.convert s d _,[.c .aA]=>(EF P s d (.c .aA) H).map λv=>(v,H)|op,vs=>if sI op vs=true then HM P op vs H else match iS P op vs ((uf op vs).map (hg H))with|some v=>some (v,H)|none=>jy P op vs H
def KK(aa:je)(op:Op)(vs:List AV)(H:AH):Option (AV->AH->Prop):=match op,vs with
 |.call ⟨.value _,_,_⟩,.c (.f fn cs)::args=>match look aa fn with|some (.fr s)=>s (args++cs.map Ag) H|_=>none
 |op,vs=>(Tv op vs H).map λl v H'=>(v,H')∈l
inductive Tc where|no|ld(id off n:Nat)|st(id off n:Nat)|mk|rd|iX|cl(H H':AH)
def WX:Operand->Option Nat|.tmp t=>some t|_=>none
def qk:Op->Bool|.move _|.assign _|.pick _ _ _|.build _ _|.nilCheck _|.binOp _ _ _ _ _|.unOp _ _ _|.convert _ _ _|.makeFunc _ _ _|.fieldAddr _ _ _|.field _ _ _|.indexAddr _ _ _|.index _ _ _|.slice _ _ _ _ _|.extract _ _=>true|.call ⟨.builtin .min,_,_⟩|.call ⟨.builtin .max,_,_⟩=>true|_=>false
def ue:List AV->Tc|[.c (.mp _)]=>.iX|[.c .HO]=>.iX|_=>.no
def D9(n:Nat):List AV->Tc|[.c (.p id off _)]=>.ld id off n|_=>.iX
def w4(n:Nat):List AV->Tc|[.c (.p id off _),_]=>.st id off n|_=>.iX
def CB(aa:je):List AV->Tc
 |.c (.f fn _)::_=>match look aa fn with|some (.pu _)=>.no|some (.fq _)=>.rd|_=>.iX
 |_=>.iX
def rO:List AV->Tc|[.c (.sl _ _ _ _)]=>.iX|[.c .aA]=>.iX|_=>.no
def cA(P:Program)(aa:je)(op:Op)(vs:List AV):Tc:=match op with|.load t _=>D9 (av P t) vs|.store t _ _=>w4 (av P t) vs|.alloc _|.box _ _|.buildSlice _ _ _|.makeSlice _ _ _=>.mk|.call ⟨.value _,_,_⟩=>CB aa vs|.convert _ _ _=>rO vs|.call ⟨.builtin .len,_,_⟩=>ue vs|op=>if qk op then .no else .iX
def mW(t:Tc)(H H':AH):Tc:=match t with|.iX|.cl _ _=>.cl H H'|t=>t
def dJ:Tc->Tc->Prop|.no,_=>False|_,.no=>False|.iX,_=>True|_,.iX=>True|.cl A B,.ld i _ _=>¬(hg B i=hg A i/\(hg A i).live=true)|.ld i _ _,.cl A B=>¬(hg B i=hg A i/\(hg A i).live=true)|.cl _ _,_=>True|_,.cl _ _=>True|.mk,.rd=>True|.rd,.mk=>True|.st _ _ _,.rd=>True|.rd,.st _ _ _=>True|.st i a n,.st j b m=>i=j/\a<b+m/\b<a+n|.st i a n,.ld j b m=>i=j/\a<b+m/\b<a+n|.ld i a n,.st j b m=>i=j/\a<b+m/\b<a+n|_,_=>False
def ups(full:Array Oper)(k:Nat):List Nat:=match full[k]? with|some o=>(o.after.toList.filter λe=>Region.binds .any e).map (·.on)|none=>[]
def MR(full:Array Oper):Nat->List Nat->List Nat|0,l=>l|k+1,l=>MR full k (if l.contains k then ups full k++l else l)
def jU(full:Array Oper)(i j:Nat):Bool:=(MR full (i+1) [i]).contains j
def WN(full:Array Oper)(d:Nat)(o:Oper):Bool:=((bI o.op).filterMap WX++(match o.guard with|some (j,_)=>((full[j]?).bind (·.dst)).toList|none=>[])).contains d
def loose(full:Array Oper)(i j:Nat):Bool:=match full[i]? with
 |some o=>match o.dst,o.op with
   |some d,.alloc _=>(List.range full.size).all λk=>match full[k]? with|some o'=>!WN full d o'||jU full k j|none=>false
   |_,_=>false
 |none=>false
def fj(A B:AH):Prop:=∀i,(hg B i).live=true->(hg B i).owned=false->hg A i=hg B i
def jL(full:Array Oper)(i j:Nat)(t u:Tc):Prop:=match t,u with|.mk,.cl A B=>¬(loose full i j=true/\fj A B)->jU full i j=true|_,_=>jU full i j=true
def qx(full:Array Oper)(i:Nat)(t:Tc):List (Nat×Tc)->Prop|[]=>True|(j,u)::r=>(dJ t u->jL full i j t u)/\qx full i t r
def Cq(i:Nat)(t:Tc)(l:List (Nat×Tc)):List (Nat×Tc):=match t with|.no=>l|t=>(i,t)::l
inductive It where|c(c:Code)|ops(full:Array Oper)(l:List Oper)|dr(full:Array Oper)(l:List Oper)(i:Nat)(log:List (Nat×Tc))|dK(id:Nat)|back(I:Fr->AH->Prop)|rK|yh(l:Nat)(J:Fr->AH->Prop)
def ig:Code->Nat|.region _ ops _=>ops.size+3|.seq a b=>ig a+ig b+1|.cond _ a b=>ig a+ig b+1|.block _ c=>ig c+2|.loop c=>ig c+2|.scope c=>ig c+3|_=>1
def It.wt:It->Nat|.c x=>ig x|.ops _ l=>l.length+1|.dr _ l _ _=>l.length+1|_=>1
def fK(k:List It):Nat:=(k.map It.wt).sum
def vz(id:Nat):List It->Option (List It)|[]=>none|.dK i::k=>if i=id then some k else vz id k|_::k=>vz id k
def Dr(l:Nat):List It->Option (Fr->AH->Prop)|[]=>none|.rK::_=>none|.yh l' J::_=>if l'=l then some J else none|_::k=>Dr l k
theorem U0{id:Nat}{k k':List It}(h:vz id k=some k'):fK k'<fK k+1:=by induction k with|nil=>simp[vz]at h|cons x k ih=>
   cases x<;>simp only[vz]at h;case dK i=>
 split at h
 .simp at h;subst h;simp[fK,It.wt];omega
 .have:=ih h;simp[fK,It.wt]at this|-;omega
   all_goals(have:=ih h;simp[fK]at this|-;omega)
def wo(full:Array Oper)(fr:Fr)(j:Nat):Option (Option Bool):=match(full[j]?).bind (·.dst)with|none=>some none|some d=>match get fr d with|.c (.b q)=>some (some q)|.c .gM=>some none|_=>none
def iF(d:Option Nat)(v:AV)(fr:Fr):Fr:=match d with|some d=>(d,v)::fr|none=>fr
def Wk(n:Nat)(fr:Fr)(H:AH)(S:Fr×AH):Prop:=∀(ρ:Ro)(w:World)(tm:Nat->Value),(∀s,bg ρ (get fr s) (tm s))->HR ρ w H->∃bh,(∀s,bg bh (get S.1 s) (tm s))/\HR bh w S.2/\(∀i L,(hg S.2 i).owned=true->bh i=some L->L.nil=false->∃j,(hg H j).owned=true/\ρ j=some L)/\(∀i,i<n->bh i=ρ i)
set_option linter.unusedVariables false in def aM(P:Program)(aa:je)(k:List It)(fr:Fr)(H:AH)(Q:Fr->AH->Prop):Prop:=match k with
 |[]=>Q fr H|.dK _::k=>aM P aa k fr H Q|.back I::_=>I fr H|.rK::k=>aM P aa k fr H Q|.yh _ _::k=>aM P aa k fr H Q|.ops _ []::k=>aM P aa k fr H Q|.ops full (o::os)::k=>match o.guard with
   |none=>match cO P aa o.op ((bI o.op).map (ev fr)) H with|some (v,H')=>aM P aa (.ops full os::k) (iF o.dst v fr) H' Q|none=>match KK aa o.op ((bI o.op).map (ev fr)) H with|some R=>∀v H',R v H'->aM P aa (.ops full os::k) (iF o.dst v fr) H' Q|none=>False
   |some (j,want)=>match wo full fr j with|some (some q)=>if q=want then match cO P aa o.op ((bI o.op).map (ev fr)) H with|some (v,H')=>aM P aa (.ops full os::k) (iF o.dst v fr) H' Q|none=>False else aM P aa (.ops full os::k) (iF o.dst (.c .gM) fr) H Q|some none=>aM P aa (.ops full os::k) (iF o.dst (.c .gM) fr) H Q|none=>False
 |.dr _ [] _ _::k=>aM P aa k fr H Q|.dr full (o::os) i log::k=>match o.guard with
   |none=>match cO P aa o.op ((bI o.op).map (ev fr)) H with|some (v,H')=>qx full i (mW (cA P aa o.op ((bI o.op).map (ev fr))) H H') log/\aM P aa (.dr full os (i+1) (Cq i (mW (cA P aa o.op ((bI o.op).map (ev fr))) H H') log)::k) (iF o.dst v fr) H' Q|none=>False
   |some (j,want)=>match wo full fr j with|some (some q)=>if q=want then match cO P aa o.op ((bI o.op).map (ev fr)) H with|some (v,H')=>qx full i (mW (cA P aa o.op ((bI o.op).map (ev fr))) H H') log/\aM P aa (.dr full os (i+1) (Cq i (mW (cA P aa o.op ((bI o.op).map (ev fr))) H H') log)::k) (iF o.dst v fr) H' Q|none=>False else aM P aa (.dr full os (i+1) log::k) (iF o.dst (.c .gM) fr) H Q|some none=>aM P aa (.dr full os (i+1) log::k) (iF o.dst (.c .gM) fr) H Q|none=>False
 |.c .skip::k=>aM P aa k fr H Q|.c (.region _ ops false)::k=>aM P aa (.ops ops ops.toList::k) fr H Q|.c (.region _ ops true)::k=>aM P aa (.dr ops ops.toList 0 []::k) fr H Q|.c (.seq a b)::k=>aM P aa (.c a::.c b::k) fr H Q|.c (.cond x a b)::k=>match ev fr x with|.c (.b q)=>if q=true then aM P aa (.c a::k) fr H Q else aM P aa (.c b::k) fr H Q|.c .qq=>aM P aa (.c a::k) fr H Q/\aM P aa (.c b::k) fr H Q|_=>False
 |.c (.block id c)::k=>aM P aa (.c c::.dK id::k) fr H Q|.c (.loop c)::k=>∃(ι:Type)(F:ι->Fr×AH)(μ:ι->Nat)(i0:ι),Wk (lo aa) fr H (F i0)/\∀i,aM P aa (.c c::.back (λfr H=>∃j,μ j<μ i/\Wk (lo aa) fr H (F j))::k) (F i).1 (F i).2 Q|.c (.exit id)::k=>match h:vz id k with|some k'=>aM P aa k' fr H Q|none=>False
 |.c (.label _)::k=>aM P aa k fr H Q|.c (.scope c)::k=>aM P aa (.c c::.rK::k) fr H Q\/∃(l:Nat)(rest:Code)(J:Fr->AH->Prop),findLabel c l=some rest/\aM P aa (.c c::.yh l J::k) fr H Q/\∃_:ig rest<=ig c,∀fr H,J fr H->aM P aa (.c rest::.rK::k) fr H Q|.c (.goto l)::k=>match Dr l k with|some J=>J fr H|none=>False
 |.c .ret::_=>Q fr H|.c _::_=>False termination_by fK k decreasing_by
 all_goals simp_wf
 all_goals first|(simp[fK,It.wt,ig];done)|(simp[fK,It.wt,ig];omega)|(have hh:=U0 ‹_›;simp[fK,It.wt,ig]at hh|-;omega)
end Go.Am
