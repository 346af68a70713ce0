/- An abstract machine for the model, part 1: its operations, and that they are the model's: no conditions. -/
import Derived.WalkKit
import Derived.Laws.BytesString
set_option linter.all false
set_option maxRecDepth 100000
set_option maxHeartbeats 8000000
open Array renaming ext'->qK,getElem?_eq_none->rn,toList_map->Rz
open BitVec renaming ofInt->aw,toNat_ofInt->mf,eq_of_toNat_eq->mB,lt_def->nP,le_def->sY
open Bool renaming true_and->gG,eq_iff_iff->Hd,false_eq_true->dL,not_false->Fb
open Int renaming tmod_eq_emod_of_nonneg->He,fdiv_eq_ediv_of_nonneg->agV
open List renaming replicate->bD,getElem?_eq_none->kf,getElem?_toArray->Hk,getElem?_append_left->uh,all_eq_true->cE,length_cons->cT,getD_eq_getElem?_getD->bX,eq_nil_of_length_eq_zero->vG,cons_append->lf,foldl_cons->Y9,mem_cons->uT,length_drop->uS,length_append->cj,drop_drop->uR,replicate_succ->yc,flatten_cons->Ce,take_succ_eq_append_getElem->Hp,getElem?_map->qL,map_cons->gz,map_nil->jf,nil_append->jW,append_nil->m7,getElem?_set->rq,take_append_of_le_length->Dr,length_nil->fa,getElem?_cons_zero->Hi
open List.cons renaming injEq->cL
open Nat renaming lt_or_ge->cX,zero_add->oF,add_assoc->m9,le_refl->aB,add_mul->vI,one_mul->Cg,min_eq_left->ye,add_zero->ru,lt_of_lt_of_le->Dv,mul_pos->Cf,le_mul_of_pos_right->Zb
open Option renaming bind_eq_some_iff->mh,bind_some->RK,map_eq_some_iff->eE,toList->RM
open Option.some renaming injEq->ar
open Prod.mk renaming injEq->bE
open Go.Result renaming andThen_ok->c9
open Go.Sem renaming run_bind->dg,run_pure->fF
namespace Go.Am
theorem ω{p:Prop}(h:p:=by omega):p:=h
theorem δ{p:Prop}(h:p:=by decide):p:=h
theorem κ{p:Prop}(h:p:=by kernel_rfl):p:=h
inductive Sc where|i(n:Int)|u(x:BitVec 64)|k(kd:IntKind)(n:Int)|b(q:Bool)|qq|s(s:ByteArray)|dk|p(id off aX:Nat)|az|sl(id off aX len:Nat)|f(fn:Nat)(Fj:List (Nat×Nat×Nat))|Gn|IG|mp(id:Nat)|ig|BB|any
inductive AV where|c(s:Sc)|g(l:List Sc)|t(l:List AV)
inductive ae where|own(cs:List Sc)|vec(sz:Nat)(cs:List Sc)|view(cs:List Sc)|map(mL:Nat)(es:List (Nat×AV×AV))|iter(m since:Nat)(seen:List Nat)(last:Nat)|dead
def ae.row:ae->Nat|.vec _ cs=>cs.length|_=>0
def ae.cells:ae->List Sc|.own cs|.vec _ cs|.view cs=>cs|.map _ _|.iter _ _ _ _|.dead=>[]
def AV.cW:AV->List Sc|.c s=>[s]|.g l=>l|.t _=>[]
def ae.cW:ae->List Sc|.own cs|.vec _ cs|.view cs=>cs|.map _ es=>es.flatMap λe=>e.2.1.cW++e.2.2.cW|.iter m _ _ _=>[.mp m]|.dead=>[]
def ae.owned:ae->Bool|.own _|.vec _ _|.map _ _|.iter _ _ _ _=>true|_=>false
def ae.live:ae->Bool|.dead=>false|_=>true
def ae.put(o:ae)(cs:List Sc):ae:=match o with|.own _=>.own cs|.vec z _=>.vec z cs|o=>o
abbrev Fr:=List (Nat×AV)
abbrev AH:=List ae
def get:Fr->Nat->AV|[],_=>.c .any|(d,v)::r,s=>if d=s then v else get r s
def hg(H:AH)(i:Nat):ae:=H.getD i .dead
def mj:Value->Sc|.int .i64 n=>if-9223372036854775808<=n/\n<=9223372036854775807 then .i n else .BB|.int .u64 n=>if 0<=n/\n<=18446744073709551615 then .u (aw 64 n)else .BB|.int k n=>if k.min<=n/\n<=k.max then .k k n else .BB|.bool q=>.b q|.string s=>if s.size<=9223372036854775807 then .s s else .BB|.pointer none=>.dk|.slice none 0 0=>.az|.nilFunc=>.Gn|.map none=>.IG|.agg _=>.any|.tuple _=>.any|_=>.BB
def pq:Value->AV|.agg cs=>.g (cs.toList.map mj)|.func (.func f) ⟨[]⟩ ⟨[]⟩=>.c (.f f [])|v=>.c (mj v)
def ev(fr:Fr):Operand->AV|.tmp t=>get fr t|.const v=>pq v|.func f=>.c (.f f [])|.global _=>.c .any
inductive D where|int(k:IntKind)|bool|str|ptr(e:Nat)|sl(e:Nat)|arr(n e:Nat)|st(fs:List (Nat×Nat))|other|PK
def av(P:Program)(t:Nat):Nat:=((P.info? t).map (·.size)).getD 0
def dT(P:Program)(t:Nat):D:=match P.underlying t with|some (.int k)=>.int k|some .bool=>.bool|some .string=>.str|some (.pointer e)=>.ptr e|some (.slice e)=>.sl e|some (.array n e)=>if 0<av P e then .arr n e else .PK|some (.struct fs)=>if fs.toList.all (λf=>decide (0<av P f.type))then .st (fs.toList.map λf=>(f.offset,f.type))else .PK|some _=>.other|none=>.PK
def mr(P:Program)(t:Nat):Nat:=((P.info? t).map (·.bytes)).getD 0
def D.agg:D->Bool|.st _|.arr _ _=>true|_=>false
def D.is:D->Bool|.PK=>false|_=>true
def zT(P:Program)(t:Nat):Option (List Sc):=match(P.info? t).bind (·.zero)with|some (.agg cs)=>some (cs.toList.map mj)|some v=>some [mj v]|none=>none
def AV.cells:AV->Option (List Sc)|.c .any=>none|.c .ig=>none|.c s=>some [s]|.g l=>some l|.t _=>none
def Sc.one:Sc->Bool|.any|.ig=>false|_=>true
def aA(n:Int):Int:=IntKind.i64.wrap n
def Ct(op:BinOp)(x y:Int):Option AV:=match op with|.eql=>some (.c (.b (decide (x=y))))|.neq=>some (.c (.b (!decide (x=y))))|.lss=>some (.c (.b (decide (x<y))))|.leq=>some (.c (.b (decide (x<=y))))|.gtr=>some (.c (.b (decide (y<x))))|.geq=>some (.c (.b (decide (y<=x))))|_=>none
def Sw(op:BinOp)(x y:BitVec 64):Option AV:=match op with|.add=>some (.c (.u (x+y)))|.sub=>some (.c (.u (x-y)))|.mul=>some (.c (.u (x*y)))|.quo=>if y=0#64 then none else some (.c (.u (x/y)))|.rem=>if y=0#64 then none else some (.c (.u (x%y)))|.and=>some (.c (.u (x&&&y)))|.or=>some (.c (.u (x|||y)))|.xor=>some (.c (.u (x^^^y)))|.andNot=>some (.c (.u (x&&&~~~y)))|.eql=>some (.c (.b (decide (x=y))))|.neq=>some (.c (.b (!decide (x=y))))|.lss=>some (.c (.b (decide (x<y))))|.leq=>some (.c (.b (decide (x<=y))))|.gtr=>some (.c (.b (decide (y<x))))|.geq=>some (.c (.b (decide (y<=x))))|_=>none
def zB(op:BinOp)(x y:Int):Option AV:=match op with|.add=>some (.c (.i (aA (x+y))))|.sub=>some (.c (.i (aA (x-y))))|.mul=>some (.c (.i (aA (x*y))))|.quo=>if y=0 then none else some (.c (.i (aA (x.tdiv y))))|.rem=>if y=0 then none else some (.c (.i (x.tmod y)))|.and=>some (.c (.i (aA ((aw 64 x&&&aw 64 y).toNat))))|.or=>some (.c (.i (aA ((aw 64 x|||aw 64 y).toNat))))|op=>Ct op x y
def yh(op:BinOp)(k:IntKind)(x y:Int):Option AV:=match op with|.add=>some (.c (.k k (k.wrap (x+y))))|.sub=>some (.c (.k k (k.wrap (x-y))))|.mul=>some (.c (.k k (k.wrap (x*y))))|.rem=>if 0<=x/\0<y then some (.c (.k k (x.tmod y)))else none|.and=>some (.c (.k k (k.wrap ((aw k.bits x&&&aw k.bits y).toNat))))|.or=>some (.c (.k k (k.wrap ((aw k.bits x|||aw k.bits y).toNat))))|.xor=>some (.c (.k k (k.wrap ((aw k.bits x^^^aw k.bits y).toNat))))|.andNot=>some (.c (.k k (k.wrap ((aw k.bits x&&&~~~(aw k.bits y)).toNat))))|op=>Ct op x y
def Km(op:BinOp)(x y:Bool):Option AV:=match op with|.eql=>some (.c (.b (x==y)))|.neq=>some (.c (.b (!(x==y))))|_=>none
def pE:Sc->Option Nat|.u y=>some y.toNat|.i n=>if 0<=n then some n.toNat else none|.k _ n=>if 0<=n then some n.toNat else none|_=>none
def QV(op:BinOp)(x:BitVec 64)(n:Nat):Option AV:=match op with|.shl=>some (.c (.u (x<<<n)))|.shr=>some (.c (.u (x>>>n)))|_=>none
def QT(op:BinOp)(x:Int)(n:Nat):Option AV:=match op with|.shl=>some (.c (.i (aA (x*2^(min n 64)))))|.shr=>some (.c (.i (x/2^(min n 64))))|_=>none
def QU(op:BinOp)(k:IntKind)(x:Int)(n:Nat):Option AV:=match op with|.shl=>some (.c (.k k (k.wrap (x*2^(min n k.bits)))))|.shr=>some (.c (.k k (x/2^(min n k.bits))))|_=>none
def Sv(op:BinOp)(x y:ByteArray):Option AV:=match op with|.eql=>some (.c (.b (decide (x=y))))|.neq=>some (.c (.b (!decide (x=y))))|.add=>if x.size+y.size<=9223372036854775807 then some (.c (.s (x++y)))else none|_=>none
inductive Tg where|n|q|s
def vw:Tg->Sc->Sc->Option Bool|.n,.i x,.i y=>some (decide (x=y))|.n,.u x,.u y=>some (decide (x=y))|.n,.k k x,.k k' y=>if k=k' then some (decide (x=y))else none|.q,.b x,.b y=>some (x==y)|.s,.s x,.s y=>some (decide (x=y))|_,_,_=>none
def jO:List Tg->List Sc->List Sc->Option Bool
 |[],[],[]=>some true|g::gs,x::xs,y::ys=>match vw g x y,jO gs xs ys with|some a,some c=>some (a&&c)|_,_=>none
 |_,_,_=>none
def je(P:Program):Nat->Nat->Option (List Tg)|0,_=>none|d+1,t=>let r:Option (List Tg):=match P.underlying t with|some (.int _)=>some [.n]|some .bool=>some [.q]|some .string=>some [.s]|some (.struct fs)=>if P.stoodInHeld t then none else fs.toList.foldl (λ(o:Option (List Tg))f=>o.bind λl=>if f.offset=l.length/\f.name≠ "_"then(je P d f.type).map λm=>l++m else none) (some [])|some (.array n e)=>(je P d e).map λm=>(bD n m).flatten|_=>none;r.bind λl=>if l.length=av P t/\0<av P t/\(dT P t).is=true then some l else none
def rE(op:BinOp)(q:Bool):Option AV:=match op with|.eql=>some (.c (.b q))|.neq=>some (.c (.b (!q)))|_=>none
def cA(P:Program)(op:BinOp)(t:Nat)(x y:AV):Option AV:=match op,x,y with|.shl,.c (.u x),.c n=>(pE n).bind (QV .shl x)|.shr,.c (.u x),.c n=>(pE n).bind (QV .shr x)|.shl,.c (.i x),.c n=>(pE n).bind (QT .shl x)|.shr,.c (.i x),.c n=>(pE n).bind (QT .shr x)|.shl,.c (.k k x),.c n=>(pE n).bind (QU .shl k x)|.shr,.c (.k k x),.c n=>(pE n).bind (QU .shr k x)|op,.c (.u x),.c (.u y)=>Sw op x y|op,.c (.i x),.c (.i y)=>zB op x y|op,.c (.k k x),.c (.k k' y)=>if k=k' then yh op k x y else none|op,.c (.b x),.c (.b y)=>if(dT P t matches .bool)then Km op x y else none|op,.c (.s x),.c (.s y)=>Sv op x y|op,.g x,.g y=>if(dT P t).agg=false then none else(je P 12 t).bind λg=>(jO g x y).bind (rE op)|op,.c (.p _ _ _),.c .dk=>if(dT P t matches .ptr _)then rE op false else none|op,.c .dk,.c .dk=>if(dT P t matches .ptr _)then rE op true else none|op,.c (.sl _ _ _ n),.c .az=>if(dT P t matches .sl _)then(if n=0 then((rE op false).map λ_=>.c .qq)else rE op false)else none|op,.c .az,.c .az=>if(dT P t matches .sl _)then rE op true else none|op,.c (.f _ _),.c .Gn=>if(P.underlying t matches some (.func _ _ _))then rE op false else none|op,.c .Gn,.c .Gn=>if(P.underlying t matches some (.func _ _ _))then rE op true else none|_,_,_=>none
def Co(op:UnOp)(x:AV):Option AV:=match op,x with|.not,.c (.b q)=>some (.c (.b (!q)))|.neg,.c (.i n)=>some (.c (.i (aA (-n))))|.neg,.c (.u x)=>some (.c (.u (-x)))|.xor,.c (.u x)=>some (.c (.u (~~~x)))|_,_=>none
def mJ(P:Program)(dst:Nat)(x:AV):Option AV:=match dT P dst,x with|.int .i64,.c (.i n)=>some (.c (.i n))|.int .i64,.c (.u x)=>some (.c (.i x.toInt))|.int .i64,.c (.k _ n)=>some (.c (.i n))|.int .u64,.c (.i n)=>some (.c (.u (aw 64 n)))|.int .u64,.c (.u x)=>some (.c (.u x))|.int .u64,.c (.k _ n)=>some (.c (.u (aw 64 n)))|.int k,.c (.i n)=>some (.c (.k k (k.wrap n)))|.int k,.c (.u x)=>some (.c (.k k (k.wrap x.toNat)))|.int k,.c (.k _ n)=>some (.c (.k k (k.wrap n)))|.str,.c (.s s)=>some (.c (.s s))|_,_=>none
def rd(ag:Bool)(cs:List Sc)(off n:Nat):AV:=if ag then .g ((cs.drop off).take n)else .c (cs.getD off .any)
def wr(cs:List Sc)(off:Nat)(l:List Sc):List Sc:=cs.take off++l++cs.drop (off+l.length)
def vW(place:Nat->Option (Nat×Nat)):List Sc->List (Nat×AV)->Option (List Sc)|cs,[]=>some cs|cs,(i,v)::r=>match place i,v.cells with|some (off,n),some l=>if l.length=n/\off+n<=cs.length then vW place (wr cs off l) r else none|_,_=>none
def D8(P:Program)(d:D)(i:Nat):Option (Nat×Nat):=match d with|.st fs=>(fs[i]?).map λf=>(f.1,av P f.2)|.arr _ e=>some (i*av P e,av P e)|_=>none
def Cr(P:Program)(t:Nat)(ps:List (Nat×AV)):Option AV:=match zT P t,(dT P t).agg with|some z,true=>(vW (D8 P (dT P t)) z ps).map .g|_,_=>none
def Fj:List AV->Option (List (Nat×Nat×Nat))|[]=>some []|.c (.p a b c)::r=>(Fj r).map ((a,b,c)::·)|_=>none
def uC:AV->Option Int|.c (.i n)=>some n|.c (.u x)=>some x.toNat|.c (.k _ n)=>some n|_=>none
def Iv(P:Program)(t:Nat)(x ix:AV):Option AV:=match dT P t,x,uC ix with|.arr n e,.c (.p id off aX),some i=>if 0<=i/\i<n/\0<av P e then some (.c (.p id (off+i.toNat*av P e) aX))else none|.sl e,.c (.sl id off aX len),some i=>if 0<=i/\i<len/\0<av P e then some (.c (.p id (off+i.toNat*av P e) aX))else none|_,_,_=>none
def Iu(P:Program)(t:Nat)(x ix:AV):Option AV:=match dT P t,x,uC ix with|.arr n e,.g l,some i=>if 0<=i/\i<n/\0<av P e/\(dT P e).is/\i.toNat*av P e+av P e<=l.length then some (rd (dT P e).agg l (i.toNat*av P e) (av P e))else none|.str,.c (.s s),some i=>if 0<=i/\i<s.size then some (.c (.k .u8 ((s.data.getD i.toNat 0).toNat)))else none|_,_,_=>none
def Gg:Option AV->Option Int|none=>some 0|some v=>uC v
def DP(n:Nat):Option AV->Option Int|none=>some n|some v=>uC v
def AG(P:Program)(t:Nat)(x:AV)(lo hi:Option AV):Option AV:=match dT P t,x with
 |.sl e,.c (.sl id off aX len)=>match Gg lo,DP len hi with|some l,some h=>if 0<=l/\l<=h/\h<=len/\0<av P e then some (.c (.sl id (off+l.toNat*av P e) aX (h.toNat-l.toNat)))else none|_,_=>none
 |.sl e,.c .az=>match Gg lo,DP 0 hi with|some l,some h=>if l=0/\h=0/\0<av P e then some (.c .az)else none|_,_=>none
 |.arr n e,.c (.p id off aX)=>match Gg lo,DP n hi with|some l,some h=>if 0<=l/\l<h/\h<=n/\n<=1048576/\0<av P e/\aX=0 then some (.c (.sl id (off+l.toNat*av P e) aX (h.toNat-l.toNat)))else none|_,_=>none
 |.str,.c (.s s)=>match Gg lo,DP s.size hi with|some l,some h=>if 0<=l/\l<=h/\h<=s.size then some (.c (.s (s.extract l.toNat h.toNat)))else none|_,_=>none
 |_,_=>none
def JM(P:Program)(t:Nat)(x lo hi mx:AV):Option AV:=match dT P t,x with
 |.sl e,.c (.sl id off aX len)=>match uC lo,uC hi,uC mx with|some l,some h,some m=>if 0<=l/\l<h/\h<=m/\m<=len/\0<av P e then some (.c (.sl id (off+l.toNat*av P e) aX (h.toNat-l.toNat)))else none|_,_,_=>none
 |_,_=>none
def Ac(P:Program)(t:Nat)(x:AV):Option AV:=match dT P t,x with|.sl _,.c (.sl _ _ _ len)=>some (.c (.i len))|.sl _,.c .az=>some (.c (.i 0))|.str,.c (.s s)=>some (.c (.i s.size))|.arr n _,_=>if n<=1048576 then some (.c (.i n))else none|_,_=>none
def min2(mx:Bool):AV->AV->Option AV|.c (.i x),.c (.i y)=>some (.c (.i (if mx then max x y else min x y)))|_,_=>none
def PG(mx:Bool):List AV->Option AV|[x,y]=>min2 mx x y|_=>none
def mT(P:Program)(t:Nat):Option (Nat×Nat):=match P.underlying t with|some (.map k e)=>some (k,e)|_=>none
def kA(P:Program)(kt:Nat):Option Bool:=match dT P kt with|.int _=>some false|.st fs=>if fs.all (λf=>(match dT P f.2 with|.int _|.bool|.str=>true|_=>false)&&decide (0<av P f.2/\f.1+av P f.2<=av P kt))&&(je P 12 kt).isSome then some true else none|_=>none
def kEq(P:Program)(kt:Nat)(x y:AV):Option Bool:=match kA P kt,x,y with|some false,.c (.i a),.c (.i b)=>some (decide (a=b))|some false,.c (.u a),.c (.u b)=>some (decide (a=b))|some false,.c (.k k a),.c (.k k' b)=>if k=k' then some (decide (a=b))else none|some true,.g l,.g m=>(je P 12 kt).bind λg=>jO g l m|_,_,_=>none
def kOk(P:Program)(kt:Nat)(x:AV):Bool:=match kA P kt,x with|some false,.c (.i _)|some false,.c (.u _)|some false,.c (.k _ _)=>true|some true,.g l=>decide (l.length=av P kt)|_,_=>false
def abn(P:Program)(kt:Nat)(k:AV):List (Nat×AV×AV)->Nat->Option (Option (Nat×AV))|[],_=>some none|e::es,i=>match kEq P kt k e.2.1 with|some true=>some (some (i,e.2.2))|some false=>abn P kt k es (i+1)|none=>none
def AV.aCW:AV->Bool|.t _=>false|_=>true
def zA(P:Program)(t:Nat):Option AV:=((P.info? t).bind (·.zero)).map pq
def Vi(ok:Bool)(v:AV)(q:Bool):AV:=if ok then .t [v,.c (.b q)]else v
def aC8(P:Program)(t:Nat)(m k:AV)(ok:Bool)(H:AH):Option AV:=match mT P t with
 |some (kt,et)=>if kOk P kt k=true then match m with
 |.c .IG=>(zA P et).map λz=>Vi ok z false|.c (.mp id)=>match hg H id with
      |.map _ es=>match abn P kt k es 0 with|some (some (_,v))=>some (Vi ok v true)|some none=>(zA P et).map λz=>Vi ok z false|none=>none
      |_=>none
 |_=>none else none|none=>none
def DE(P:Program)(t:Nat)(x:AV)(H:AH):Option AH:=match dT P t,x with
 |.sl e,.c .az=>some H|.sl e,.c (.sl id off aX n)=>match zT P e with|some z=>if n=0 then some H else if(hg H id).owned=true/\aX=(hg H id).row/\0<av P e/\z.length=av P e/\off+n*av P e<=(hg H id).cells.length/\z.all Sc.one=true then some (H.set id ((hg H id).put (wr (hg H id).cells off (bD n z).flatten)))else none|none=>none
 |_,_=>none
def G1(H:AH)(sz:Nat)(y:AV):Option (List Sc×Nat):=match y with|.c .az=>some ([],0)|.c (.sl id off aX n)=>if aX=(hg H id).row/\off+n*sz<=(hg H id).cells.length then some (((hg H id).cells.drop off).take (n*sz),n)else none|_=>none
def HI(P:Program)(t:Nat)(x y:AV)(H:AH):Option (AV×AH):=match dT P t,x with
 |.sl e,.c (.sl id off aX len)=>match G1 H (av P e) y with|some (new,n)=>if 0<av P e/\n<=len then if n=0 then some (.c (.i 0),H)else if(hg H id).owned=true/\aX=(hg H id).row/\off+new.length<=(hg H id).cells.length/\new.all Sc.one=true then some (.c (.i n),H.set id ((hg H id).put (wr (hg H id).cells off new)))else none else none|none=>none
 |_,_=>none
def aCU(id:Nat)(H:AH):Option AV:=match hg H id with
 |.iter m _ seen last=>match hg H m with|.map mL es=>if mL=last then match seen.getLast? with|some b=>(es.find? λe=>e.1==b).map λe=>.t [e.2.1,e.2.2]|none=>none else none|_=>none
 |_=>none
def UD(_:Op)(_:List AV)(_:AH):Option (List (AV×AH)):=none
def tU:Op->List AV->Bool|.call ⟨.builtin .clear,_,_⟩,_|.call ⟨.builtin .copy,_,_⟩,_=>true|_,_=>false
def IE(P:Program)(op:Op)(vs:List AV)(H:AH):Option (AV×AH):=match op,vs with|.call ⟨.builtin .clear,_,ts⟩,[x]=>(ts[0]?).bind λt=>(DE P t x H).map λH'=>(.t [],H')|.call ⟨.builtin .copy,_,ts⟩,[x,y]=>(ts[0]?).bind λt=>HI P t x y H|_,_=>none
def jc(P:Program)(op:Op)(vs:List AV)(os:List ae):Option AV:=match op,vs with
 |.move _,[v]=>some v|.assign _,[v]=>some v|.pick _ _ _,[.c (.b q),x,y]=>some (if q then x else y)|.build t ps,vs=>Cr P t ((ps.toList.map (·.1)).zip vs)|.load t _,[.c (.p _ off aX)]=>match os with|[o]=>if aX=o.row/\off+av P t<=o.cells.length/\0<av P t/\(dT P t).is/\((dT P t).agg=false->av P t=1)then some (rd (dT P t).agg o.cells off (av P t))else none|_=>none
 |.nilCheck _,[.c (.p id off aX)]=>some (.c (.p id off aX))|.nilCheck _,[.c (.f f cs)]=>some (.c (.f f cs))|.binOp op t _ _ _,[x,y]=>cA P op t x y|.unOp op _ _,[x]=>Co op x|.convert src dst _,[x]=>if(dT P src).is then mJ P dst x else none|.makeFunc (.func f) fs _,vs=>if fs.size=0 then(Fj vs).map λl=>.c (.f f l)else none|.fieldAddr t _ k,[.c (.p id off aX)]=>match dT P t with
   |.st fs=>match fs[k]? with|some f=>if 0<av P f.2 then some (.c (.p id (off+f.1) aX))else none|none=>none
   |_=>none
 |.field t _ k,[.g l]=>match dT P t with
   |.st fs=>match fs[k]? with|some f=>if 0<av P f.2/\(dT P f.2).is/\f.1+av P f.2<=l.length then some (rd (dT P f.2).agg l f.1 (av P f.2))else none|none=>none
   |_=>none
 |.indexAddr t _ _,[x,ix]=>Iv P t x ix|.index t _ _,[x,ix]=>Iu P t x ix|.slice t _ lo hi none,x::r=>match lo,hi,r with|none,none,[]=>AG P t x none none|some _,none,[l]=>AG P t x (some l) none|none,some _,[h]=>AG P t x none (some h)|some _,some _,[l,h]=>AG P t x (some l) (some h)|_,_,_=>none
 |.slice t _ (some _) (some _) (some _),[x,l,h,m]=>JM P t x l h m|.extract _ k,[.t l]=>l[k]?|.call ⟨.builtin .len,_,ts⟩,[x]=>match ts[0]? with|some t=>Ac P t x|none=>none
 |.call ⟨.builtin .min,_,_⟩,vs=>PG false vs|.call ⟨.builtin .max,_,_⟩,vs=>PG true vs|_,_=>none
end Go.Am
namespace Go.Am
inductive L2{α β:Type}(R:α->β->Prop):List α->List β->Prop|nil:L2 R [] []|cons{a b l m}(h:R a b)(t:L2 R l m):L2 R (a::l) (b::m)
namespace L2
variable {α β:Type}{R:α->β->Prop}
theorem length{l:List α}{m:List β}(h:L2 R l m):l.length=m.length:=by induction h with|nil=>rfl|cons _ _ ih=>simp[ih]
theorem mono{R':α->β->Prop}{l:List α}{m:List β}(h:L2 R l m)(hr:∀a b,R a b->R' a b):L2 R' l m:=by induction h with|nil=>exact .nil|cons h _ ih=>exact .cons (hr _ _ h) ih
theorem get?{l:List α}{m:List β}(h:L2 R l m):∀(i:Nat)(a:α),l[i]?=some a->∃b,m[i]?=some b/\R a b:=by induction h with|nil=>intro i a h;simp at h|cons h _ ih=>intro i x hx;cases i with|zero=>simp at hx;subst hx;exact⟨_,by simp,h⟩|succ i=>simpa using ih i x (by simpa using hx)
theorem app{l l':List α}{m m':List β}(h:L2 R l m)(h':L2 R l' m'):L2 R (l++l') (m++m'):=by induction h with|nil=>simpa using h'|cons h _ ih=>exact .cons h ih
theorem take{l:List α}{m:List β}(h:L2 R l m):∀n,L2 R (l.take n) (m.take n):=by induction h with|nil=>intro n;simp;exact .nil|cons h _ ih=>intro n;cases n with|zero=>simp;exact .nil|succ n=>simpa using .cons h (ih n)
theorem drop{l:List α}{m:List β}(h:L2 R l m):∀n,L2 R (l.drop n) (m.drop n):=by induction h with|nil=>intro n;simp;exact .nil|cons h t ih=>intro n;cases n with|zero=>simpa using .cons h t|succ n=>simpa using ih n
theorem map{γ δ:Type}{f:γ->α}{g:δ->β}{l:List γ}{m:List δ}(h:L2 (λa b=>R (f a) (g b)) l m):L2 R (l.map f) (m.map g):=by induction h with|nil=>exact .nil|cons h _ ih=>exact .cons h ih
theorem aeP{l:List α}{S:α->α->Prop}(h:∀a∈l,S a a):L2 S l l:=by induction l with|nil=>exact .nil|cons x l ih=>exact .cons (h x (by simp)) (ih λa ha=>h a (by simp[ha]))
theorem split{l1 l2:List α}{m:List β}(h:L2 R (l1++l2) m):∃m1 m2,m=m1++m2/\L2 R l1 m1/\L2 R l2 m2:=by induction l1 generalizing m with|nil=>exact⟨[],m,rfl,.nil,by simpa using h⟩|cons x l ih=>cases h with|cons h t=>obtain⟨m1,m2,rfl,a,b⟩:=ih t;exact⟨_::m1,m2,rfl,.cons h a,b⟩
end L2
structure Loc where
 dW:Nat
 off:Nat
 cap:Nat
 row:Nat
 nil:Bool
 vec:Bool
abbrev Ro:=Nat->Option Loc
def kh(ρ:Ro)(id off aX:Nat)(v:Value):Prop:=∃L a,ρ id=some L/\v=.pointer (some a)/\aX<=L.row/\(aX=L.row->L.nil=false/\(L.vec=true->0<L.row)/\a=⟨L.dW,L.off+off,none⟩)
def w5(ρ:Ro)(id off aX len:Nat)(v:Value):Prop:=∃L base cap,ρ id=some L/\v=.slice base len cap/\(base=none->len=0/\cap=0)/\len<=cap/\len<=9223372036854775807/\aX<=L.row/\(aX=L.row->if L.nil=true then base=none/\off=0/\len=0/\cap=0 else∃a,base=some a/\((off=0\/0<len)->a=⟨L.dW,L.off+off,none⟩)/\(off=0->L.vec=true->cap<=L.cap)/\(0<len->L.vec=true->0<L.row))
def b6(ρ:Ro):Sc->Value->Prop|.i n,v=>v=.int .i64 n/\-9223372036854775808<=n/\n<=9223372036854775807|.u x,v=>v=.int .u64 (x.toNat:Int)|.k kd n,v=>v=.int kd n/\kd.bits<=32/\kd.min<=n/\n<=kd.max|.b q,v=>v=.bool q|.qq,v=>∃q,v=.bool q|.s s,v=>v=.string s/\s.size<=9223372036854775807|.dk,v=>v=.pointer none|.p id off aX,v=>kh ρ id off aX v|.az,v=>v=.slice none 0 0|.sl id off aX len,v=>w5 ρ id off aX len v|.f fn cs,v=>∃cv:List Value,v=.func (.func fn) #[] cv.toArray/\L2 (λ(c:Nat×Nat×Nat)v=>kh ρ c.1 c.2.1 c.2.2 v) cs cv|.Gn,v=>v=.nilFunc|.IG,v=>v=.map none|.mp id,v=>∃L b,ρ id=some L/\v=.map (some b)/\(L.row=0->b=L.dW)|.ig,v=>v=undef|.BB,v=>v.oneCell'=true|.any,_=>True
def V1(ρ:Ro):AV->Value->Prop|.c s,v=>b6 ρ s v|.g l,v=>∃cs:List Value,v=.agg cs.toArray/\L2 (b6 ρ) l cs|.t _,_=>False
def aZ(ρ:Ro):AV->Value->Prop|.c s,v=>b6 ρ s v|.g l,v=>∃cs:List Value,v=.agg cs.toArray/\L2 (b6 ρ) l cs|.t l,v=>∃vs:List Value,v=.tuple vs.toArray/\L2 (V1 ρ) l vs
variable {ρ:Ro}{x:AV}
theorem V1.aBC{v:Value}(h:V1 ρ x v):aZ ρ x v:=by cases x<;>first|exact h|exact h.elim
variable {s:Sc}
theorem b6.one{v:Value}(h:b6 ρ s v)(h1:s≠.any)(h2:s≠.ig):v.oneCell'=true/\v.cells=#[v]:=by cases s with|i n=>obtain⟨rfl,_⟩:=h;exact⟨rfl,rfl⟩|u x=>cases h;exact⟨rfl,rfl⟩|k kd n=>obtain⟨rfl,_⟩:=h;exact⟨rfl,rfl⟩|b q=>cases h;exact⟨rfl,rfl⟩|qq=>obtain⟨q,rfl⟩:=h;exact⟨rfl,rfl⟩|s s=>obtain⟨rfl,_⟩:=h;exact⟨rfl,rfl⟩|dk=>cases h;exact⟨rfl,rfl⟩|p id off aX=>obtain⟨L,a,_,rfl,_⟩:=h;exact⟨rfl,rfl⟩|az=>cases h;exact⟨rfl,rfl⟩|sl id off aX len=>obtain⟨L,a,c,_,rfl,_⟩:=h;exact⟨rfl,rfl⟩|f fn cs=>obtain⟨cv,rfl,_⟩:=h;exact⟨rfl,rfl⟩|Gn=>cases h;exact⟨rfl,rfl⟩|IG=>cases h;exact⟨rfl,rfl⟩|mp id=>obtain⟨L,b,_,rfl,_⟩:=h;exact⟨rfl,rfl⟩|ig=>exact(h2 rfl).elim|BB=>have h:v.oneCell'=true:=h;refine⟨h,?_⟩;cases v<;>simp_all[Value.oneCell',Value.cells]|any=>exact(h1 rfl).elim
variable {l:List Sc}
theorem aZ.cells{v:Value}(h:aZ ρ x v)(hc:x.cells=some l):∃cs:List Value,v.cells=cs.toArray/\L2 (b6 ρ) l cs/\(∀s,x=.c s->cs=[v]):=by cases x with
 |c s=>
   change b6 ρ s v at h;have h1:s≠.any:=by rintro rfl;simp[AV.cells]at hc
   have h2:s≠.ig:=by rintro rfl;simp[AV.cells]at hc
   obtain rfl:l=[s]:=by cases s<;>simp_all[AV.cells]
   exact⟨[v],(b6.one h h1 h2).2,.cons h .nil,λ_ _=>rfl⟩|g l'=>simp[AV.cells]at hc;subst hc;obtain⟨cs,rfl,h2⟩:=h;exact⟨cs,rfl,h2,λ_ h=>by cases h⟩|t l'=>simp[AV.cells]at hc
theorem NX{kd:IntKind}(h:kd≠.i64)(h':kd≠.u64):kd.bits<=32:=by cases kd<;>simp_all[IntKind.bits]
theorem au5{v:Value}(h1:∀cs,v=.agg cs->False)(h2:∀cs,v=.tuple cs->False):v.oneCell'=true:=by cases v<;>first|rfl|exact(h1 _ rfl).elim|exact(h2 _ rfl).elim
theorem NK(ρ:Ro)(v:Value):b6 ρ (mj v) v:=by
 unfold mj;split
 .split
  .exact⟨rfl,ω,ω⟩
  .rfl
 .split
  .rename_i n h;show Value.int .u64 n=.int .u64 _;have:((aw 64 n).toNat:Int)=n:=by rw[mf];omega
   rw[this]
  .rfl
 .rename_i kd n h1 h2;split
  .refine⟨rfl,NX (λe=>?_) (λe=>?_),ω,ω⟩
   .subst e;exact h1 rfl
   .subst e;exact h2 rfl
  .rfl
 .rfl
 .split
  .exact⟨rfl,ω⟩
  .rfl
 .rfl
 .rfl
 .rfl
 .rfl
 .trivial
 .trivial
 .exact au5 (by assumption) (by assumption)
theorem ahW(ρ:Ro)(v:Value):aZ ρ (pq v) v:=by
 unfold pq;split
 .rename_i cs;refine⟨cs.toList,by simp,?_⟩;have:L2 (λa b=>b6 ρ (mj a) b) cs.toList cs.toList:=L2.aeP λa _=>NK ρ a;simpa using L2.map (f:=mj) (g:=id) this
 .exact⟨[],rfl,.nil⟩
 .exact NK ρ v
theorem HQ{fr:Fr}{a:Act}(h:∀s,aZ ρ (get fr s) (a.tmps.getD s undef))(x:Operand):aZ ρ (ev fr x) (a.eval x):=by cases x with|tmp t=>exact h t|const v=>exact ahW ρ v|global g=>trivial|func f=>exact⟨[],rfl,.nil⟩
def jZ(ρ:Ro)(w:World)(i:Nat):ae->Prop|.own cs=>∃(L:Loc)(c:List Value)(t:Nat),ρ i=some L/\L.off=0/\L.row=0/\L.nil=false/\L.vec=false/\w.heap[L.dW]?=some (.cells c.toArray t (0,0))/\L2 (b6 ρ) cs c|.vec sz cs=>∃(L:Loc),ρ i=some L/\L.off=0/\L.row=cs.length/\L.vec=true/\0<sz/\if L.nil=true then cs=[]/\L.cap=0 else∃(c d:List Value)(t:Nat),w.heap[L.dW]?=some (.cells (c++d).toArray t (0,0))/\L.cap*sz=(c++d).length/\L2 (b6 ρ) cs c|.view cs=>∃(L:Loc),ρ i=some L/\L.row=0/\L.vec=false/\(L.nil=true->cs=[])/\(L.nil=false->L.dW<w.heap.size)/\∀j s,cs[j]?=some s->∃v,w.cell? ⟨L.dW,L.off+j,none⟩=some v/\b6 ρ s v|.map mL es=>∃(L:Loc)(uq:List MapEntry),ρ i=some L/\L.off=0/\L.row=0/\L.nil=false/\L.vec=false/\w.heap[L.dW]?=some (.map uq.toArray mL)/\L2 (λ(a:Nat×AV×AV)(e:MapEntry)=>e.born=a.1/\V1 ρ a.2.1 e.key/\V1 ρ a.2.2 e.val) es uq|.iter m since seen last=>∃(L:Loc)(b:Nat),ρ i=some L/\L.off=0/\L.row=0/\L.nil=false/\L.vec=false/\b6 ρ (.mp m) (.map (some b))/\w.heap[L.dW]?=some (.mapIter (some b) since seen.toArray last)|.dead=>True
variable {w:World}{i:Nat}{o:ae}{L:Loc}
theorem jZ.cell{j:Nat}(h:jZ ρ w i o)(hL:ρ i=some L)(hs:o.cells[j]?=some s):∃v,w.cell? ⟨L.dW,L.off+j,none⟩=some v/\b6 ρ s v:=by cases o with
 |own cs=>
 obtain⟨L',c,t,h1,h2,_,_,_,h3,h4⟩:=h;obtain rfl:L=L':=by simpa[hL]using h1
 obtain⟨v,hv,hr⟩:=h4.get? j s hs;exact⟨v,by simp[World.cell?,h3,h2,hv],hr⟩|vec sz cs=>
   obtain⟨L',h1,h2,h3,_,_,h4⟩:=h;obtain rfl:L=L':=by simpa[hL]using h1
   split at h4
   .obtain⟨rfl,_⟩:=h4;simp[ae.cells]at hs
   .obtain⟨c,d,t,h5,_,h6⟩:=h4;obtain⟨v,hv,hr⟩:=h6.get? j s hs;refine⟨v,?_,hr⟩;have hj:j<c.length:=by
     rcases cX j c.length with h'|h'
     .exact h'
     .simp[kf h']at hv
    simp only[World.cell?,h5,h2,oF,Hk,uh hj,hv];rfl|view cs=>
 obtain⟨L',h1,_,_,_,_,h4⟩:=h;obtain rfl:L=L':=by simpa[hL]using h1
 exact h4 j s hs|map mL es=>simp[ae.cells]at hs|iter m since seen last=>simp[ae.cells]at hs|dead=>simp[ae.cells]at hs
theorem jZ.row(h:jZ ρ w i o)(hL:ρ i=some L)(hl:o.live=true):L.row=o.row:=by cases o with
 | own cs=>obtain⟨L',c,t,h1,_,h2,_⟩:=h;obtain rfl:L=L':=by simpa[hL]using h1
           exact h2
 | vec sz cs=>obtain⟨L',h1,_,h2,_⟩:=h;obtain rfl:L=L':=by simpa[hL]using h1
              exact h2
 | view cs=>obtain⟨L',h1,h2,_⟩:=h;obtain rfl:L=L':=by simpa[hL]using h1
            exact h2
 | map mL es=>obtain⟨L',uq,h1,_,h2,_⟩:=h;obtain rfl:L=L':=by simpa[hL]using h1
              exact h2
 | iter m since seen last=>obtain⟨L',b,h1,_,h2,_⟩:=h;obtain rfl:L=L':=by simpa[hL]using h1
                           exact h2|dead=>simp[ae.live]at hl
end Go.Am
namespace Go.Am
variable {P:Program}{ρ:Ro}
def bI:Op->List Operand|.move x|.assign x|.box _ x|.load _ x|.nilCheck x|.unOp _ _ x|.convert _ _ x|.fieldAddr _ x _|.field _ x _|.extract x _|.range _ x|.next x _|.entry x=>[x]|.pick c a b=>[c,a,b]|.build _ ps|.buildSlice _ _ ps=>ps.toList.map (·.2)|.store _ a v|.binOp _ _ a v _|.makeSlice _ a v|.indexAddr _ a v|.index _ a v|.lookup _ a v _=>[a,v]|.makeMap _ r=>r.toList|.mapUpdate _ m k v|.insert _ m k v=>[m,k,v]|.makeFunc _ _ cs=>cs.toList|.slice _ x l h m=>x::(l.toList++h.toList++m.toList)|.call ⟨.value f,as,_⟩=>f::as.toList|.call ⟨.builtin _,as,_⟩=>as.toList|_=>[]
def uP:Op->List AV->List Nat|.load _ _,.c (.p id _ _)::_=>[id]|.store _ _ _,.c (.p id _ _)::_=>[id]|.call ⟨.builtin .append,_,_⟩,[.c (.sl id _ _ _),.c (.sl qi _ _ _)]=>[id,qi]|.call ⟨.builtin .append,_,_⟩,[.c .az,.c (.sl qi _ _ _)]=>[qi]|.call ⟨.builtin .append,_,_⟩,[.c (.sl id _ _ _),.c .az]=>[id]|_,_=>[]
variable {t:Nat}{k:IntKind}
theorem B7(h:dT P t=.int k):P.underlying t=some (.int k):=by unfold dT at h;split at h<;>(try split at h)<;>simp_all
theorem aBq(h:dT P t=.bool):P.underlying t=some .bool:=by unfold dT at h;split at h<;>(try split at h)<;>simp_all
theorem No(h:dT P t=.str):P.underlying t=some .string:=by unfold dT at h;split at h<;>(try split at h)<;>simp_all
variable {e:Nat}
theorem agq(h:dT P t=.ptr e):P.underlying t=some (.pointer e):=by unfold dT at h;split at h<;>(try split at h)<;>simp_all
theorem mY(h:dT P t=.sl e):P.underlying t=some (.slice e):=by unfold dT at h;split at h<;>(try split at h)<;>simp_all
variable {n:Nat}
theorem Nn(h:dT P t=.arr n e):P.underlying t=some (.array n e)/\0<av P e:=by unfold dT at h;split at h<;>(try split at h)<;>simp_all
variable {fs:List (Nat×Nat)}
theorem YL(h:dT P t=.st fs):∃gs,P.underlying t=some (.struct gs)/\(∀f∈gs.toList,0<av P f.type)/\fs=gs.toList.map λf=>(f.offset,f.type):=by unfold dT at h;cases hu:P.underlying t with|none=>simp[hu]at h|some x=>
   rw[hu]at h;cases x;case struct gs=>
    simp only at h;split at h
    .rename_i hc;simp only[D.st.injEq]at h;exact⟨gs,rfl,λf hf=>by simpa using cE.1 hc f hf,h.symm⟩
    .simp at h
   case array n e=>simp only at h;split at h<;>simp at h
   all_goals simp at h
theorem Re(h:(dT P t).is=true):∃d,P.underlying t=some d/\((dT P t).agg=true↔(d matches .struct _|.array _ _)=true):=by unfold dT at*;cases hu:P.underlying t with|none=>simp[hu,D.is]at h|some x=>
   rw[hu]at h;cases x<;>simp[D.agg]
   .rename_i n e;simp only at h|-;split at h
    .rename_i hc;simp[hc]
    .simp[D.is]at h
   .rename_i fs;simp only at h|-;split at h
    .rename_i hc;simp at hc;simp[hc]
    .simp[D.is]at h
theorem Lx(h:0<av P t):∃i,P.info? t=some i/\i.size=av P t:=by unfold av at*;cases hi:P.info? t with|none=>simp[hi]at h|some i=>exact⟨i,rfl,by simp⟩
theorem mW(h:0<av P t)(w:World):(sizeOf t).run P w=.ok (av P t) w:=by obtain⟨i,hi,hs⟩:=Lx h;simp[sizeOf,typeInfo,hi,hs]
theorem afd(h:(dT P t).is=true)(w:World):(isAgg t).run P w=.ok (dT P t).agg w:=by obtain⟨d,hd,hq⟩:=Re h;simp only[isAgg,dg,run_underlying hd,c9];cases h2:(dT P t).agg<;>simp only[h2]at hq<;>cases d<;>simp at hq|-
theorem run_loadCellsFrom(w:World)(a:Addr)(vs:List Value):∀(i:Nat)(acc:Array Value),(∀j v,vs[j]?=some v->w.cell? (a.add (i+j))=some v)->(loadCellsFrom a i vs.length acc).run P w=.ok (acc++vs.toArray) w:=by induction vs with|nil=>intro i acc _;simp[loadCellsFrom]|cons v vs ih=>
   intro i acc h;have h0:w.cell? (a.add i)=some v:=by simpa using h 0 v (by simp)
   simp only[cT,loadCellsFrom,dg,run_load,h0,c9];rw[ih (i+1) (acc.push v) (λj u hu=>by have:=h (j+1) u (by simpa using hu);rwa[show i+1+j=i+(j+1)by omega])];simp
theorem Addr.Cj(b o n:Nat):(⟨b,o,none⟩:Addr).add n=⟨b,o+n,none⟩:=by
 unfold Addr.add;split
 .subst_vars;rfl
 .rfl
variable {α:Type}
theorem aa3(l:List α)(o n j:Nat)(a:α)(h:((l.drop o).take n)[j]?=some a):l[o+j]?=some a:=by
 rw[List.getElem?_take]at h;split at h
 .simpa using h
 .simp at h
variable {w:World}{i off:Nat}{o:ae}{L:Loc}
theorem acD(ho:jZ ρ w i o)(hL:ρ i=some L)(hlen:off+av P t<=o.cells.length)(cO:0<av P t)(Bo:(dT P t).is=true)(oR:(dT P t).agg=false->av P t=1):∃v,(loadVar t ⟨L.dW,L.off+off,none⟩).run P w=.ok v w/\aZ ρ (rd (dT P t).agg o.cells off (av P t)) v:=by have Ia:=λ(j:Nat)(s:Sc)(hs:o.cells[j]?=some s)=>ho.cell hL hs;simp only[loadVar,dg,afd Bo,c9];cases rH:(dT P t).agg with
 |true=>
   have key:∀(l:List Sc)(p:Nat),(∀j s,l[j]?=some s->o.cells[p+j]?=some s)->∃vs:List Value,L2 (b6 ρ) l vs/\∀j v,vs[j]?=some v->w.cell? ⟨L.dW,L.off+(p+j),none⟩=some v:=by intro l;induction l with|nil=>intro p _;exact⟨[],.nil,by simp⟩|cons s l ih=>intro p h;obtain⟨v,hv,hr⟩:=Ia p s (by simpa using h 0 s (by simp));obtain⟨vs,h1,h2⟩:=ih (p+1) (λj s' rN=>by have:=h (j+1) s' (by simpa using rN);rwa[show p+1+j=p+(j+1)by omega]);refine⟨v::vs,.cons hr h1,λj u hu=>?_⟩;cases j with|zero=>simp at hu;subst hu;exact hv|succ j=>have:=h2 j u (by simpa using hu);rwa[show p+(j+1)=p+1+j by omega]
   obtain⟨vs,h1,h2⟩:=key ((o.cells.drop off).take (av P t)) off (λj s hs=>aa3 _ _ _ _ _ hs);have hl:vs.length=av P t:=by rw[<-h1.length];simp;omega
   refine⟨.agg vs.toArray,?_,vs,rfl,h1⟩;simp only[if_true,dg,mW cO,c9,loadCells];rw[<-hl,run_loadCellsFrom w _ vs 0 #[] (λj v hv=>by rw[Addr.Cj,oF,m9];exact h2 j v hv)];simp|false=>
 have h1:=oR rH;have aG:off<o.cells.length:=ω
 obtain⟨v,hv,hr⟩:=Ia off o.cells[off] (by simp[aG]);refine⟨v,by simp[hv],?_⟩;show b6 ρ (o.cells.getD off .any) v;rw[bX];simp[aG,hr]
theorem vj(x:BitVec 64):aw 64 (x.toNat:Int)=x:=by simp
theorem JV(n:Int):IntKind.u64.wrap n=((aw 64 n).toNat:Int):=by rw[IntKind.wrap_u64,mf];omega
theorem EW(n:Int):-9223372036854775808<=aA n/\aA n<=9223372036854775807:=by unfold aA;simp only[IntKind.wrap,IntKind.bits,IntKind.signed,gG];split<;>simp at*<;>omega
theorem JR{n:Int}(h:-9223372036854775808<=n)(h':n<=9223372036854775807):aA n=n:=by unfold aA;simp only[IntKind.wrap,IntKind.bits,IntKind.signed,gG];split<;>simp at*<;>omega
theorem AP(k:IntKind)(n:Int):k.min<=k.wrap n/\k.wrap n<=k.max:=by cases k<;>simp only[IntKind.wrap,IntKind.bits,IntKind.signed,IntKind.min,IntKind.max,gG,Bool.false_and]<;>(try split)<;>simp at*<;>omega
theorem aBY(x:BitVec 64):IntKind.i64.wrap (x.toNat:Int)=x.toInt:=by have h:=x.isLt;rw[BitVec.toInt_eq_toNat_cond];simp only[IntKind.wrap,IntKind.bits,IntKind.signed,gG];split<;>split<;>simp at*<;>omega
end Go.Am
namespace Go.Am
variable {P:Program}{ρ:Ro}
theorem Mm{t off:Nat}{cs:List Value}(Bo:(dT P t).is=true)(cO:0<av P t)(w:World)(hlen:off+av P t<=cs.length):(part t cs.toArray off).run P w=.ok (if(dT P t).agg=true then .agg ((cs.drop off).take (av P t)).toArray else cs.getD off .nilIface) w:=by simp only[part,dg,afd Bo,c9];cases rH:(dT P t).agg with
 |true=>simp only[if_true,dg,mW cO,c9,fF,Result.ok.injEq,Value.agg.injEq,and_true];apply qK;simp[List.extract_eq_take_drop]|false=>
 have:off<cs.length:=ω
 simp[this]
def Ae(P:Program)(t:Nat)(cs:List Value):Value:=if(dT P t).agg=true then .agg cs.toArray else cs.getD 0 .nilIface
theorem bytes_beq(a b:ByteArray):(a==b)=decide (a=b):=by rw[beq_toListBytes,ByteArray.toList_eq,ByteArray.toList_eq];obtain⟨⟨x⟩⟩:=a;obtain⟨⟨y⟩⟩:=b;rw[Hd];simp
variable {y:Value}{q:Bool}
theorem Yg{g:Tg}{a b:Sc}{x:Value}(h:vw g a b=some q)(hx:b6 ρ a x)(hy:b6 ρ b y):(g=.n/\∃k m n,x=.int k m/\y=.int k n/\q=(m==n))\/(g=.q/\∃m n,x=.bool m/\y=.bool n/\q=(m==n))\/(g=.s/\∃m n,x=.string m/\y=.string n/\q=(m==n)):=by
 unfold vw at h;split at h
 .simp at h;obtain⟨rfl,_⟩:=hx;obtain⟨rfl,_⟩:=hy;exact .inl ⟨rfl,_,_,_,rfl,rfl,by rw[<-h];rfl⟩
 .simp at h;cases hx;cases hy;refine .inl ⟨rfl,_,_,_,rfl,rfl,?_⟩;rw[<-h,Hd];simp[BitVec.toNat_eq];omega
 .split at h
  .simp at h;obtain⟨rfl,_⟩:=hx;obtain⟨rfl,_⟩:=hy;subst_vars;exact .inl ⟨rfl,_,_,_,rfl,rfl,rfl⟩
  .simp at h
 .simp at h;cases hx;cases hy;exact .inr (.inl ⟨rfl,_,_,rfl,rfl,h.symm⟩)
 .simp at h;obtain⟨rfl,_⟩:=hx;obtain⟨rfl,_⟩:=hy;exact .inr (.inr ⟨rfl,_,_,rfl,rfl,by rw[<-h,bytes_beq]⟩)
 .simp at h
variable {g:List Tg}{a b:List Sc}
theorem Of(h:jO g a b=some q):a.length=g.length/\b.length=g.length:=by induction g generalizing a b q with|nil=>unfold jO at h;split at h<;>simp_all|cons t g ih=>match a,b,h with
 |x::a,y::b,h=>
 simp only[jO]at h;split at h
 .rename_i p r hp hr;have:=ih hr;simp[this]
 .simp at h|[],_,h=>simp[jO]at h|_::_,[],h=>simp[jO]at h
theorem aaB(h:jO [] a b=some q):q=true:=by obtain⟨h1,h2⟩:=Of h;rw[vG (l:=a) h1,vG (l:=b) h2]at h;simpa[jO]using h.symm
theorem aaC{g1 g2:List Tg}(h:jO (g1++g2) a b=some q):∃q1 q2,jO g1 (a.take g1.length) (b.take g1.length)=some q1/\jO g2 (a.drop g1.length) (b.drop g1.length)=some q2/\q=(q1&&q2):=by induction g1 generalizing a b q with|nil=>exact⟨true,q,rfl,by simpa using h,by simp⟩|cons t g1 ih=>match a,b,h with
 |x::a,y::b,h=>
 simp only[lf,jO]at h;split at h
 .rename_i p r hp hr;obtain⟨q1,q2,h1,h2,rfl⟩:=ih hr;simp at h;exact⟨p&&q1,q2,by simp[jO,hp,h1],by simpa using h2,by rw[<-h];cases p<;>cases q1<;>rfl⟩
 .simp at h
variable {d t:Nat}
theorem Nm(h:je P d t=some g):g.length=av P t/\0<av P t:=by cases d with|zero=>simp[je]at h|succ d=>
 unfold je at h;simp only[mh]at h;obtain⟨l,_,h⟩:=h;split at h
 .rename_i hc;simp at h;subst h;exact⟨hc.1,hc.2.1⟩
 .simp at h
theorem JP(h:je P d t=some g):(dT P t).is=true:=by cases d with|zero=>simp[je]at h|succ d=>
 unfold je at h;simp only[mh]at h;obtain⟨l,_,h⟩:=h;split at h
 .rename_i hc;exact hc.2.2
 .simp at h
variable {n e:Nat}
theorem Zr(hu:P.underlying t=some (.array n e))(h:(dT P t).is=true):(dT P t).agg=true:=by obtain⟨d,hd,hq⟩:=Re h;rw[hu]at hd;simp at hd;subst hd;simpa using hq
theorem Zs{fs:Array Field}(hu:P.underlying t=some (.struct fs))(h:(dT P t).is=true):(dT P t).agg=true:=by obtain⟨d,hd,hq⟩:=Re h;rw[hu]at hd;simp at hd;subst hd;simpa using hq
theorem aAn(h:je P d t=some g)(ha:(dT P t).agg=false):av P t=1:=by obtain⟨hl,_⟩:=Nm h;cases d with|zero=>simp[je]at h|succ d=>
   unfold je at h;simp only[mh]at h;obtain⟨l,h,h2⟩:=h;split at h2
   .simp at h2;subst h2;cases hu:P.underlying t with|none=>simp[hu]at h|some x=>
 cases x;case struct fs=>rename_i hc;rw[Zs hu hc.2.2]at ha;simp at ha
 case array n e=>rename_i hc;rw[Zr hu hc.2.2]at ha;simp at ha
 all_goals(unfold dT at ha;rw[hu]at h ha;simp[D.agg]at h ha<;>(subst h;rw[<-hl];rfl))
   .simp at h2
variable {α β:Type}
theorem abr(f:α->β->Option α)(l:List β):l.foldl (λ(o:Option α)x=>o.bind λn=>f n x) none=none:=by induction l with|nil=>rfl|cons x l ih=>simpa using ih
def HS(P:Program)(d:Nat)(l:List Tg)(f:Field):Option (List Tg):=if f.offset=l.length/\f.name≠ "_"then(je P d f.type).map λm=>l++m else none
theorem agc:∀(fs:List Field)(l g:List Tg),fs.foldl (λ(o:Option (List Tg))f=>o.bind λl=>HS P d l f) (some l)=some g->(∃r,g=l++r)/\∀f∈fs,∃m,je P d f.type=some m:=by intro fs;induction fs with|nil=>intro l g h;simp at h;subst h;exact⟨⟨[],by simp⟩,by simp⟩|cons f fs ih=>intro l g h;simp only[Y9,RK]at h;cases hf:HS P d l f with|none=>rw[hf,abr]at h;simp at h|some l'=>
 rw[hf]at h;obtain⟨⟨r,rfl⟩,h2⟩:=ih _ _ h;unfold HS at hf;split at hf
 .simp only[eE]at hf;obtain⟨m,hm,rfl⟩:=hf;exact⟨⟨m++r,by simp⟩,by simp only[uT,forall_eq_or_imp];exact⟨⟨m,hm⟩,h2⟩⟩
 .simp at hf
theorem anp:∀(d:Nat)(t:Nat)(g:List Tg),je P d t=some g->∀E,d<=E->P.eqGuardType E t=false:=by intro d;induction d with|zero=>intro t g h;simp[je]at h|succ d ih=>intro t g h E hE;obtain⟨E,rfl⟩:∃F,E=F+1:=⟨E-1,ω⟩;unfold je at h;simp only[mh]at h;obtain⟨l,h,_⟩:=h;unfold Program.eqGuardType;cases hu:P.underlying t with|none=>simp[hu]at h|some x=>rw[hu]at h;cases x with
 |array n e=>simp only[eE]at h;obtain⟨m,hm,_⟩:=h;exact ih _ _ hm E ω|struct fs=>
       simp only at h;split at h
       .simp at h
       .obtain⟨_,h2⟩:=agc fs.toList _ _ h;simp only[Array.any_eq_false];intro i hi hn;obtain⟨m,hm⟩:=h2 fs[i] (by simp);have:=ih _ _ hm E ω;simp[this]at hn|_=>simp at h|-
def RS(P:Program)(ρ:Ro)(d E:Nat):Prop:=∀t g,je P d t=some g->∀lx ly cx cy q,L2 (b6 ρ) lx cx->L2 (b6 ρ) ly cy->jO g lx ly=some q->∀w,(Op.equalIn E t (Ae P t cx) (Ae P t cy)).run P w=.ok q w
theorem acN(h:je P d e=some g)(zs:List Value)(o:Nat):(if(dT P e).agg=true then Value.agg ((zs.drop o).take (av P e)).toArray else zs.getD o .nilIface)=Ae P e ((zs.drop o).take (av P e)):=by
 unfold Ae;split
 .rfl
 .rename_i rH;have:=aAn h (by simpa using rH);rw[this];simp[bX]
theorem amz(E:Nat)(xs ys:List Value)(lx ly:List Sc)(hx:L2 (b6 ρ) lx xs)(hy:L2 (b6 ρ) ly ys)(ih:RS P ρ d E):∀(fs:List Field)(l g:List Tg)(q:Bool)(w:World),fs.foldl (λ(o:Option (List Tg))f=>o.bind λl=>HS P d l f) (some l)=some g->jO (g.drop l.length) (lx.drop l.length) (ly.drop l.length)=some q->(Op.eqFields E xs.toArray ys.toArray fs).run P w=.ok q w:=by intro fs;induction fs with|nil=>intro l g q w hn hq;simp at hn;subst hn;rw[List.drop_of_length_le (aB _)]at hq;obtain rfl:=aaB hq;simp[Op.eqFields]|cons f fs ihf=>intro l g q w hn hq;simp only[Y9,RK]at hn;cases hf:HS P d l f with|none=>rw[hf,abr]at hn;simp at hn|some l'=>
     rw[hf]at hn;unfold HS at hf;split at hf
     .rename_i hc;obtain⟨jx,oQ⟩:=hc;simp only[eE]at hf;obtain⟨m,hm,rfl⟩:=hf;obtain⟨⟨r,rfl⟩,_⟩:=agc _ _ _ hn;obtain⟨CE,hz⟩:=Nm hm;have e0:((l++m)++r).drop l.length=m++r:=by simp
      rw[e0]at hq;obtain⟨q1,q2,h1,h2,rfl⟩:=aaC hq;obtain⟨Bq,Br⟩:=Of hq;have hxl:=hx.length;have hyl:=hy.length;simp only[uS,cj]at Bq Br;rw[CE]at h1;have r1:=ih f.type m hm _ _ _ _ _ ((hx.drop l.length).take (av P f.type)) ((hy.drop l.length).take (av P f.type)) h1;have Uj:=λw=>Mm (P:=P) (cs:=xs) (off:=l.length) (JP hm) hz w ω;have Uk:=λw=>Mm (P:=P) (cs:=ys) (off:=l.length) (JP hm) hz w ω;simp only[Op.eqFields,oQ,ne_eq,not_false_eq_true,if_true,dg,jx,Uj,Uk,acN hm,c9,r1];cases q1
      .simp
      .simp only[Bool.not_true,dL,if_false,gG];refine ihf _ _ _ w hn ?_;have e1:((l++m)++r).drop (l++m).length=r:=by simp
       rw[e1];simpa[uR]using h2
     .simp at hf
theorem amx(E e:Nat)(m:List Tg)(hm:je P d e=some m)(xs ys:List Value)(lx ly:List Sc)(hx:L2 (b6 ρ) lx xs)(hy:L2 (b6 ρ) ly ys)(ih:RS P ρ d E)(w:World):∀(k s:Nat)(q:Bool),jO (bD k m).flatten (lx.drop (s*av P e)) (ly.drop (s*av P e))=some q->(forIn (List.range' s k) (none,()) (λi(_:Option Bool×Unit)=>do let a<-part e xs.toArray (i*av P e)let b<-part e ys.toArray (i*av P e)let r<-Op.equalIn E e a b if(!r)=true then pure (ForInStep.done (some false,()))else pure (ForInStep.yield (none,())))).run P w=.ok (if q then(none,())else(some false,())) w:=by obtain⟨CE,hz⟩:=Nm hm;have hxl:=hx.length;have hyl:=hy.length;intro k;induction k with|zero=>intro s q hq;obtain rfl:=aaB (by simpa using hq);simp|succ k Pn=>
   intro s q hq;have hs:(s+1)*av P e=s*av P e+av P e:=by rw[vI,Cg]
   rw[yc,Ce]at hq;obtain⟨q1,q2,g1,g2,rfl⟩:=aaC hq;obtain⟨Bq,Br⟩:=Of hq;simp only[uS,cj]at Bq Br;rw[CE]at g1;have r1:=ih e m hm _ _ _ _ _ ((hx.drop (s*av P e)).take (av P e)) ((hy.drop (s*av P e)).take (av P e)) g1;have Uj:=λw=>Mm (P:=P) (cs:=xs) (off:=s*av P e) (JP hm) hz w ω;have Uk:=λw=>Mm (P:=P) (cs:=ys) (off:=s*av P e) (JP hm) hz w ω;rw[List.range'_succ,List.forIn_cons];simp only[dg,Uj,Uk,acN hm,c9,r1];cases q1
   .simp
   .simp only[Bool.not_true,dL,if_false,fF,c9,gG];refine Pn (s+1) q2 ?_;rw[hs,<-uR,<-uR];rw[CE]at g2;exact g2
theorem amG:∀(d E:Nat),d<=E->RS P ρ d E:=by intro d;induction d with|zero=>intro E hE t g h;simp[je]at h|succ d ih=>
   intro E hE t g h lx ly cx cy q hx hy hq w;obtain⟨E,rfl⟩:∃F,E=F+1:=⟨E-1,ω⟩;have Is:=ih E ω;obtain⟨hlen,hz⟩:=Nm h;have h0:=h;unfold je at h;simp only[mh]at h;obtain⟨l,h,h2⟩:=h;split at h2;case isFalse=>simp at h2
   simp at h2;subst h2;have TM:∀g0,l=[g0]->(dT P t).agg=false->∃a b x y,b6 ρ a x/\b6 ρ b y/\vw g0 a b=some q/\Ae P t cx=x/\Ae P t cy=y:=by intro g0 hg rH;subst hg;obtain⟨Bq,Br⟩:=Of hq;match lx,ly,Bq,Br with|[a],[b],_,_=>cases hx with|cons ha ta=>cases ta with|nil=>cases hy with|cons hb tb=>cases tb with|nil=>
              refine⟨a,b,_,_,ha,hb,?_,by simp[Ae,rH],by simp[Ae,rH]⟩;simp only[jO]at hq;split at hq
              .rename_i p r hp hr;simp at hr;subst hr;simpa[hp]using hq
              .simp at hq
   cases hu:P.underlying t with|none=>simp[hu]at h|some x=>rw[hu]at h;cases x with|bool=>simp at h;obtain⟨a,b,x,y,ha,hb,hs,e1,e2⟩:=TM _ h.symm (by simp[dT,hu,D.agg]);rw[e1,e2];rcases Yg hs ha hb with⟨hg,k,m,n,rfl,rfl,rfl⟩|⟨hg,m,n,rfl,rfl,rfl⟩|⟨hg,m,n,rfl,rfl,rfl⟩<;>simp at hg;exact run_equalIn_bool w E t m n hu|int k=>simp at h;obtain⟨a,b,x,y,ha,hb,hs,e1,e2⟩:=TM _ h.symm (by simp[dT,hu,D.agg]);rw[e1,e2];rcases Yg hs ha hb with⟨hg,k',m,n,rfl,rfl,rfl⟩|⟨hg,m,n,rfl,rfl,rfl⟩|⟨hg,m,n,rfl,rfl,rfl⟩<;>simp at hg;exact run_equalIn_int w E t k' k m n hu|string=>simp at h;obtain⟨a,b,x,y,ha,hb,hs,e1,e2⟩:=TM _ h.symm (by simp[dT,hu,D.agg]);rw[e1,e2];rcases Yg hs ha hb with⟨hg,k',m,n,rfl,rfl,rfl⟩|⟨hg,m,n,rfl,rfl,rfl⟩|⟨hg,m,n,rfl,rfl,rfl⟩<;>simp at hg;rw[beq_toListBytes];exact run_equalIn_string w E t m n hu|struct fs=>
       simp only at h;split at h
       .simp at h
       rename_i ew;have rH:(dT P t).agg=true:=Zs hu (JP h0);simp only[Ae,rH,if_true];have hfs:P.fieldsOf t=fs:=by simp[Program.fieldsOf,hu]
       rw[run_equalIn_struct w E t _ _ (by rw[hfs];exact hu) (by simpa using ew),hfs];exact amz E cx cy lx ly hx hy Is fs.toList [] l q w h (by simpa using hq)|array n e=>simp only[eE]at h;obtain⟨m,hm,rfl⟩:=h;have rH:(dT P t).agg=true:=Zr hu (JP h0);simp only[Ae,rH,if_true];have CK:=(Nm hm).2;have key:=amx E e m hm cx cy lx ly hx hy Is w n 0 q (by simpa using hq);simp only[Op.equalIn,dg,run_underlying hu,c9,mW CK];rw[Std.Legacy.Range.forIn_eq_forIn_range'];simp only[Std.Legacy.Range.size,Nat.sub_zero,Nat.add_sub_cancel,Nat.div_one,key,c9];cases q<;>rfl|_=>simp at h
end Go.Am
namespace Go.Am
variable {P:Program}{ρ:Ro}
variable {op:BinOp}{v:AV}
theorem aax{x y:Int}(h:Ct op x y=some v)(w:World):∃vc,(Op.intCmp op x y).run P w=.ok vc w/\aZ ρ v vc:=by cases op<;>simp[Ct]at h<;>subst h<;>refine⟨_,rfl,?_⟩<;>rfl
variable {q:Bool}
theorem DF(h:rE op q=some v):(op=.eql/\aZ ρ v (.bool q))\/(op=.neq/\aZ ρ v (.bool (!q))):=by
 cases op<;>simp[rE]at h<;>subst h
 .exact .inl ⟨rfl,rfl⟩
 .exact .inr ⟨rfl,rfl⟩
theorem agh(x y:BitVec 64):((x.toNat:Int)=y.toNat)↔x=y:=by
 constructor
 .intro h;apply mB;omega
 .rintro rfl;rfl
theorem ajj{x y:BitVec 64}(h:Sw op x y=some v)(t:Nat)(w:World):∃vc,(binOp op t (.int .u64 x.toNat) (.int .u64 y.toNat)).run P w=.ok vc w/\aZ ρ v vc:=by
 have hx:=x.isLt;have hy:=y.isLt;have e:∀n:Int,IntKind.u64.wrap n=((aw 64 n).toNat:Int):=JV;cases op<;>simp[Sw]at h;case add=>subst h;refine⟨_,rfl,?_⟩;show Value.int .u64 _=.int .u64 _;rw[e,BitVec.ofInt_add];simp
 case sub=>subst h;refine⟨_,rfl,?_⟩;show Value.int .u64 _=.int .u64 _;rw[e,Int.sub_eq_add_neg,BitVec.ofInt_add,BitVec.ofInt_neg];simp[BitVec.sub_eq_add_neg]
 case mul=>subst h;refine⟨_,rfl,?_⟩;show Value.int .u64 _=.int .u64 _;rw[e,BitVec.ofInt_mul];simp
 case quo=>
  obtain⟨hz,rfl⟩:=h;have CK:(y.toNat:Int)≠0:=λh=>hz (mB (by simpa using h));refine⟨.int .u64 (IntKind.u64.wrap ((x.toNat:Int).tdiv y.toNat)),?_,?_⟩
  .simp only[binOp,Op.intDiv,ne_eq,not_true_eq_false,if_false,CK];rfl
  .show Value.int .u64 _=.int .u64 _;rw[e,Int.tdiv_eq_ediv_of_nonneg ω];have:((x.toNat:Int)/y.toNat)=((x.toNat/y.toNat:Nat):Int):=by simp
   rw[this];have h2:x.toNat/y.toNat<=x.toNat:=Nat.div_le_self _ _;simp only[BitVec.ofInt_natCast,BitVec.toNat_ofNat,BitVec.toNat_udiv];rw[Nat.mod_eq_of_lt ω]
 case rem=>
  obtain⟨hz,rfl⟩:=h;have CK:(y.toNat:Int)≠0:=λh=>hz (mB (by simpa using h));refine⟨.int .u64 ((x.toNat:Int).tmod y.toNat),?_,?_⟩
  .simp only[binOp,Op.intDiv,ne_eq,not_true_eq_false,if_false,CK];rfl
  .show Value.int .u64 _=.int .u64 _;rw[He ω];simp
 case and=>subst h;refine⟨_,rfl,?_⟩;show Value.int .u64 (IntKind.u64.wrap ((aw 64 _&&&aw 64 _).toNat))=.int .u64 _;rw[e,vj,vj,vj]
 case or=>subst h;refine⟨_,rfl,?_⟩;show Value.int .u64 (IntKind.u64.wrap ((aw 64 _|||aw 64 _).toNat))=.int .u64 _;rw[e,vj,vj,vj]
 case xor=>subst h;refine⟨_,rfl,?_⟩;show Value.int .u64 (IntKind.u64.wrap ((aw 64 _^^^aw 64 _).toNat))=.int .u64 _;rw[e,vj,vj,vj]
 case andNot=>subst h;refine⟨_,rfl,?_⟩;show Value.int .u64 (IntKind.u64.wrap ((aw 64 _&&&~~~aw 64 _).toNat))=.int .u64 _;rw[e,vj,vj,vj]
 all_goals subst h;refine⟨_,rfl,?_⟩;show Value.bool _=.bool _;first|(rw[Value.bool.injEq,Hd];simp[agh,nP,sY];done)|(rw[Value.bool.injEq,Hd];simp[nP,sY];rw[<-agh];simp)
theorem aBb{x y:Int}(hx:-9223372036854775808<=x/\x<=9223372036854775807):-9223372036854775808<=x.tmod y/\x.tmod y<=9223372036854775807:=by
 have h:=Int.natAbs_tmod x y;have h2:x.natAbs%y.natAbs<=x.natAbs:=Nat.mod_le _ _;rcases Int.le_total 0 x with h3|h3
 .have:=Int.tmod_nonneg y h3;omega
 .have h4:=Int.tmod_nonneg (a:=-x) y ω;rw[Int.neg_tmod]at h4;omega
theorem ajh{x y:Int}(h:zB op x y=some v)(hx:-9223372036854775808<=x/\x<=9223372036854775807)(t:Nat)(w:World):∃vc,(binOp op t (.int .i64 x) (.int .i64 y)).run P w=.ok vc w/\aZ ρ v vc:=by
 cases op;case add=>simp[zB]at h;subst h;exact⟨_,rfl,rfl,EW _⟩
 case sub=>simp[zB]at h;subst h;exact⟨_,rfl,rfl,EW _⟩
 case mul=>simp[zB]at h;subst h;exact⟨_,rfl,rfl,EW _⟩
 case quo=>simp[zB]at h;obtain⟨hz,rfl⟩:=h;exact⟨.int .i64 (IntKind.i64.wrap (x.tdiv y)),by simp[binOp,Op.intDiv,hz],rfl,EW _⟩
 case rem=>simp[zB]at h;obtain⟨hz,rfl⟩:=h;exact⟨.int .i64 (x.tmod y),by simp[binOp,Op.intDiv,hz],rfl,aBb hx⟩
 case and=>simp[zB]at h;subst h;exact⟨_,rfl,rfl,EW _⟩
 case or=>simp[zB]at h;subst h;exact⟨_,rfl,rfl,EW _⟩
 all_goals first|(simp[zB,Ct]at h;done)|(simp only[zB]at h;obtain⟨vc,h1,h2⟩:=aax (P:=P) (ρ:=ρ) h w;exact⟨vc,by simpa[binOp]using h1,h2⟩)
theorem apj(k:IntKind):k.min<=0:=by cases k<;>decide
variable {k:IntKind}
theorem aji{x y:Int}(h:yh op k x y=some v)(hk:k.bits<=32)(hx:k.min<=x/\x<=k.max)(t:Nat)(w:World):∃vc,(binOp op t (.int k x) (.int k y)).run P w=.ok vc w/\aZ ρ v vc:=by
 cases op;case add=>simp[yh]at h;subst h;exact⟨.int k (k.wrap (x+y)),by simp[binOp,Op.intArith],rfl,hk,AP _ _⟩
 case sub=>simp[yh]at h;subst h;exact⟨.int k (k.wrap (x-y)),by simp[binOp,Op.intArith],rfl,hk,AP _ _⟩
 case mul=>simp[yh]at h;subst h;exact⟨.int k (k.wrap (x*y)),by simp[binOp,Op.intArith],rfl,hk,AP _ _⟩
 case rem=>
  simp only[yh]at h;split at h
  .rename_i hc;simp only[ar]at h;subst h;have hz:y≠0:=ω
   refine⟨.int k (x.tmod y),by simp[binOp,Op.intDiv,hz],rfl,hk,?_,?_⟩
   .have:=apj k;have:=Int.tmod_nonneg y hc.1;omega
   .rw[He hc.1];have h1:=Int.emod_nonneg x hz;have h2:x%y<=x:=by
     rcases Int.lt_or_le x y with c|c
     .rw[Int.emod_eq_of_lt hc.1 c];omega
     .have:=Int.emod_lt_of_pos x hc.2;omega
    omega
  .simp at h
 case and=>simp[yh]at h;subst h;exact⟨.int k (k.wrap ((aw k.bits x&&&aw k.bits y).toNat)),by simp[binOp,Op.intBits],rfl,hk,AP _ _⟩
 case or=>simp[yh]at h;subst h;exact⟨.int k (k.wrap ((aw k.bits x|||aw k.bits y).toNat)),by simp[binOp,Op.intBits],rfl,hk,AP _ _⟩
 case xor=>simp[yh]at h;subst h;exact⟨.int k (k.wrap ((aw k.bits x^^^aw k.bits y).toNat)),by simp[binOp,Op.intBits],rfl,hk,AP _ _⟩
 case andNot=>simp only[yh,ar]at h;subst h;exact⟨.int k (k.wrap ((aw k.bits x&&&~~~(aw k.bits y)).toNat)),by simp[binOp,Op.intBits],rfl,hk,AP _ _⟩
 all_goals first|(simp[yh,Ct]at h;done)|(simp only[yh]at h;obtain⟨vc,h1,h2⟩:=aax (P:=P) (ρ:=ρ) h w;exact⟨vc,by simpa[binOp]using h1,h2⟩)
variable {s:Sc}{n:Nat}
theorem HT{v:Value}(h:pE s=some n)(hv:b6 ρ s v):∃k m,v=.int k m/\0<=m/\m.toNat=n:=by
 cases s<;>simp[pE]at h
 .obtain⟨rfl,_⟩:=hv;exact⟨_,_,rfl,h.1,h.2⟩
 .cases hv;exact⟨_,_,rfl,ω,by simpa using h⟩
 .obtain⟨rfl,_⟩:=hv;exact⟨_,_,rfl,h.1,h.2⟩
variable {m:Int}
theorem afS{x:BitVec 64}(h:QV op x n=some v)(t:Nat)(k:IntKind)(hm:0<=m)(hn:m.toNat=n)(w:World):∃vc,(binOp op t (.int .u64 x.toNat) (.int k m)).run P w=.ok vc w/\aZ ρ v vc:=by
 subst hn;have hx:=x.isLt;have jR:¬m<0:=ω
 cases op<;>simp[QV]at h
 .subst h;refine⟨.int .u64 (IntKind.u64.wrap (x.toNat*2^(min m.toNat 64))),by simp[binOp,Op.shift,jR,IntKind.bits],?_⟩;show Value.int .u64 _=.int .u64 _;congr 1;rw[IntKind.wrap_u64,BitVec.toNat_shiftLeft,Nat.shiftLeft_eq];have:((x.toNat:Int)*2^(min m.toNat 64))=((x.toNat*2^(min m.toNat 64):Nat):Int):=by simp
  rw[this];rcases Nat.le_total m.toNat 64 with hle|hle
  .rw[ye hle];omega
  .rw[Nat.min_eq_right hle];obtain⟨d,hd⟩:=Nat.exists_eq_add_of_le hle;have e1:x.toNat*2^m.toNat=x.toNat*2^d*18446744073709551616:=by rw[hd,Nat.pow_add,Nat.mul_comm (2^64),<-Nat.mul_assoc]
   rw[e1];simp only[Nat.reducePow];omega
 .subst h;refine⟨.int .u64 ((x.toNat:Int).fdiv (2^(min m.toNat 64))),by simp[binOp,Op.shift,jR,IntKind.bits],?_⟩;show Value.int .u64 _=.int .u64 _;congr 1;have hp:(0:Int)<=2^(min m.toNat 64):=Int.le_of_lt (Int.pow_pos ω);rw[agV _ hp,BitVec.toNat_ushiftRight,Nat.shiftRight_eq_div_pow];have:((2:Int)^(min m.toNat 64))=((2^(min m.toNat 64):Nat):Int):=by simp
  rw[this,<-Int.natCast_ediv];congr 1;rcases Nat.le_total m.toNat 64 with hle|hle
  .rw[ye hle]
  .rw[Nat.min_eq_right hle];have h1:2^64<=2^m.toNat:=Nat.pow_le_pow_right ω hle;rw[Nat.div_eq_of_lt hx,Nat.div_eq_of_lt ω]
theorem aa9{x a b:Int}(n:Nat)(ha:a<=x)(hb:x<=b)(ha0:a<=0)(sr:0<=b):a<=x/2^n/\x/2^n<=b:=by
 have hp:(1:Int)<=2^n:=by have:(0:Int)<2^n:=Int.pow_pos ω;omega
 generalize(2:Int)^n=p at hp;constructor
 .rw[Int.le_ediv_iff_mul_le ω];have:a*p<=a*1:=Int.mul_le_mul_of_nonpos_left ha0 ω;omega
 .have h1:x/p<=b/p:=Int.ediv_le_ediv ω hb;have h2:b/p<=b:=Int.ediv_le_self _ sr;omega
theorem afQ{x:Int}(h:QT op x n=some v)(hx:-9223372036854775808<=x/\x<=9223372036854775807)(t:Nat)(k:IntKind)(hm:0<=m)(hn:m.toNat=n)(w:World):∃vc,(binOp op t (.int .i64 x) (.int k m)).run P w=.ok vc w/\aZ ρ v vc:=by
 subst hn;have jR:¬m<0:=ω
 cases op<;>simp[QT]at h<;>subst h
 .exact⟨.int .i64 (IntKind.i64.wrap (x*2^(min m.toNat 64))),by simp[binOp,Op.shift,jR,IntKind.bits],rfl,EW _⟩
 .refine⟨.int .i64 (x.fdiv (2^(min m.toNat 64))),by simp[binOp,Op.shift,jR,IntKind.bits],?_,?_⟩
  .rw[agV _ (Int.le_of_lt (Int.pow_pos ω))]
  .exact aa9 _ hx.1 hx.2 ω ω
theorem ach(k:IntKind):k.min<=0/\0<=k.max:=by cases k<;>simp[IntKind.min,IntKind.max,IntKind.signed,IntKind.bits]
theorem afR{kd:IntKind}{x:Int}(h:QU op kd x n=some v)(hk:kd.bits<=32)(hx:kd.min<=x/\x<=kd.max)(t:Nat)(k:IntKind)(hm:0<=m)(hn:m.toNat=n)(w:World):∃vc,(binOp op t (.int kd x) (.int k m)).run P w=.ok vc w/\aZ ρ v vc:=by
 subst hn;have jR:¬m<0:=ω
 cases op<;>simp[QU]at h<;>subst h
 .exact⟨.int kd (kd.wrap (x*2^(min m.toNat kd.bits))),by simp[binOp,Op.shift,jR],rfl,hk,AP _ _⟩
 .refine⟨.int kd (x.fdiv (2^(min m.toNat kd.bits))),by simp[binOp,Op.shift,jR],?_,hk,?_⟩
  .rw[agV _ (Int.le_of_lt (Int.pow_pos ω))]
  .exact aa9 _ hx.1 hx.2 (ach kd).1 (ach kd).2
variable {y:Value}
theorem aoi{x:Value}(op:BinOp)(t:TypeId)(X Y:Operand)(hx:b6 ρ s x)(h1:s≠.any)(h2:s≠.ig)(h4:s≠.BB):eqGuard op t X Y x y=pure ():=by
 have h:=(b6.one hx h1 h2).1;have h3:x≠.nilIface:=by rintro rfl;cases s<;>simp[b6,kh,w5]at hx<;>simp_all
 cases op<;>first|rfl|(cases x<;>first|rfl|(simp[Value.oneCell']at h;done)|exact(h3 rfl).elim)
variable {t:Nat}
theorem ajm{x y:Bool}(ht:dT P t=.bool)(h:Km op x y=some v)(w:World):∃vc,(binOp op t (.bool x) (.bool y)).run P w=.ok vc w/\aZ ρ v vc:=by
 have hu:=aBq ht;cases op<;>simp[Km]at h<;>subst h
 .exact⟨.bool (x==y),by simp[binOp,Op.equal,Op.maxDepth,run_equalIn_bool w 9999 t x y hu],rfl⟩
 .exact⟨.bool (!(x==y)),by simp[binOp,Op.equal,Op.maxDepth,run_equalIn_bool w 9999 t x y hu],rfl⟩
theorem aAf{x y:ByteArray}(t:Nat)(h:Sv op x y=some v)(w:World):∃vc,(binOp op t (.string x) (.string y)).run P w=.ok vc w/\aZ ρ v vc:=by
 have CD:IntKind.i64.max=9223372036854775807:=by decide
 cases op<;>simp[Sv]at h
 .obtain⟨hl,rfl⟩:=h;have:¬(((x.size+y.size:Nat):Int)>IntKind.i64.max):=by rw[CD];omega
  refine⟨.string (x++y),?_,rfl,by simpa using hl⟩;simp only[binOp,Op.stringOp,this,if_false,fF]
 .subst h;refine⟨_,rfl,?_⟩;show Value.bool _=.bool _;rw[<-beq_toListBytes,bytes_beq]
 .subst h;refine⟨_,rfl,?_⟩;show Value.bool _=.bool _;rw[<-beq_toListBytes,bytes_beq]
variable {e:Nat}
theorem abg(hu:P.underlying t=some (.pointer e))(a:Addr)(d:Nat)(w:World):(Op.equalIn (d+1) t (.pointer (some a)) (.pointer none)).run P w=.ok false w:=by simp only[Op.equalIn,dg,run_underlying hu,c9];rfl
theorem abf(hu:P.underlying t=some (.pointer e))(d:Nat)(w:World):(Op.equalIn (d+1) t (.pointer none) (.pointer none)).run P w=.ok true w:=by simp only[Op.equalIn,dg,run_underlying hu,c9];rfl
theorem abe{a b:Array TypeId}{c:Bool}(hu:P.underlying t=some (.func a b c))(f:Fn)(x y:Array Value)(d:Nat)(w:World):(Op.equalIn (d+1) t (.func f x y) .nilFunc).run P w=.ok false w:=by simp only[Op.equalIn,dg,run_underlying hu,c9];rfl
theorem abd{a b:Array TypeId}{c:Bool}(hu:P.underlying t=some (.func a b c))(d:Nat)(w:World):(Op.equalIn (d+1) t .nilFunc .nilFunc).run P w=.ok true w:=by simp only[Op.equalIn,dg,run_underlying hu,c9];rfl
theorem Oy{c:Nat}{a:Addr}(hu:P.underlying t=some (.slice e))(d:Nat)(w:World):(Op.equalIn (d+1) t (.slice (some a) n c) (.slice none 0 0)).run P w=.ok false w:=by simp only[Op.equalIn,dg,run_underlying hu,c9];rfl
theorem Ox(hu:P.underlying t=some (.slice e))(d:Nat)(w:World):(Op.equalIn (d+1) t (.slice none 0 0) (.slice none 0 0)).run P w=.ok true w:=by simp only[Op.equalIn,dg,run_underlying hu,c9];rfl
variable {w:World}
theorem DG{x:Value}(hb:binOp .eql t x y=(do pure (.bool (<-Op.equal t x y))))(h:(Op.equalIn (9999+1) t x y).run P w=.ok q w):(binOp .eql t x y).run P w=.ok (.bool q) w:=by rw[hb];simp only[Op.equal,Op.maxDepth,dg];rw[show(10000:Nat)=9999+1 from rfl,h];rfl
theorem D4{x:Value}(hb:binOp .neq t x y=(do pure (.bool (!(<-Op.equal t x y)))))(h:(Op.equalIn (9999+1) t x y).run P w=.ok q w):(binOp .neq t x y).run P w=.ok (.bool (!q)) w:=by rw[hb];simp only[Op.equal,Op.maxDepth,dg];rw[show(10000:Nat)=9999+1 from rfl,h];rfl
variable {x:AV}{cx cy:Value}
theorem ahV{y:AV}(h:cA P op t x y=some v)(hx:aZ ρ x cx)(hy:aZ ρ y cy)(X Y:Operand)(w:World):∃vc,(do eqGuard op t X Y cx cy;binOp op t cx cy).run P w=.ok vc w/\aZ ρ v vc:=by
 have aoz:12<=P.depth:=by simp only[Program.depth,Made.depth];omega
 have gs:∀{s:Sc},b6 ρ s cx->s≠.any->s≠.ig->s≠.BB->eqGuard op t X Y cx cy=pure ():=λh h1 h2 h4=>aoi op t X Y h h1 h2 h4;have fin:∀{s:Sc},aZ ρ (.c s) cx->s≠.any->s≠.ig->s≠.BB->(∃vc,(binOp op t cx cy).run P w=.ok vc w/\aZ ρ v vc)->∃vc,(do eqGuard op t X Y cx cy;binOp op t cx cy).run P w=.ok vc w/\aZ ρ v vc:=by intro s h1 h2 h3 h6⟨vc,h4,h5⟩;exact⟨vc,by simp[gs h1 h2 h3 h6,h4],h5⟩
 unfold cA at h;split at h;case h_12=>
  rename_i l m;split at h
  .simp at h
  rename_i rH;rw[mh]at h;obtain⟨g,hg,h⟩:=h;rw[mh]at h;obtain⟨q,hq,h⟩:=h;obtain⟨cs,rfl,cu⟩:=hx;obtain⟨ds,rfl,yE⟩:=hy;have rH:(dT P t).agg=true:=by simpa using rH
  have hr:=amG (P:=P) (ρ:=ρ) 12 10000 ω t g hg _ _ _ _ _ cu yE hq w;simp only[Ae,rH,if_true]at hr;have O5:(eqGuard op t X Y (.agg cs.toArray) (.agg ds.toArray)).run P w=.ok () w:=run_eqGuard_agg w op t X Y _ _ (anp 12 t g hg _ aoz);rcases DF (ρ:=ρ) h with⟨rfl,hv⟩|⟨rfl,hv⟩
  .exact⟨_,by simp only[dg,O5,c9,run_eql_struct,hr],hv⟩
  .exact⟨_,by simp only[dg,O5,c9,run_neq_struct,hr],hv⟩
 case h_1=>rw[mh]at h;obtain⟨n,hn,h⟩:=h;obtain⟨k,m,rfl,h1,h2⟩:=HT hn hy;refine fin hx (by simp) (by simp) (by simp) ?_;cases hx;exact afS h t k h1 h2 w
 case h_2=>rw[mh]at h;obtain⟨n,hn,h⟩:=h;obtain⟨k,m,rfl,h1,h2⟩:=HT hn hy;refine fin hx (by simp) (by simp) (by simp) ?_;cases hx;exact afS h t k h1 h2 w
 case h_3=>rw[mh]at h;obtain⟨n,hn,h⟩:=h;obtain⟨k,m,rfl,h1,h2⟩:=HT hn hy;refine fin hx (by simp) (by simp) (by simp) ?_;obtain⟨rfl,hb⟩:=hx;exact afQ h hb t k h1 h2 w
 case h_4=>rw[mh]at h;obtain⟨n,hn,h⟩:=h;obtain⟨k,m,rfl,h1,h2⟩:=HT hn hy;refine fin hx (by simp) (by simp) (by simp) ?_;obtain⟨rfl,hb⟩:=hx;exact afQ h hb t k h1 h2 w
 case h_5=>rw[mh]at h;obtain⟨n,hn,h⟩:=h;obtain⟨k,m,rfl,h1,h2⟩:=HT hn hy;refine fin hx (by simp) (by simp) (by simp) ?_;obtain⟨rfl,hk,hb⟩:=hx;exact afR h hk hb t k h1 h2 w
 case h_6=>rw[mh]at h;obtain⟨n,hn,h⟩:=h;obtain⟨k,m,rfl,h1,h2⟩:=HT hn hy;refine fin hx (by simp) (by simp) (by simp) ?_;obtain⟨rfl,hk,hb⟩:=hx;exact afR h hk hb t k h1 h2 w
 case h_7=>refine fin hx (by simp) (by simp) (by simp) ?_;cases hx;cases hy;exact ajj h t w
 case h_8=>refine fin hx (by simp) (by simp) (by simp) ?_;obtain⟨rfl,hb⟩:=hx;obtain⟨rfl,_⟩:=hy;exact ajh h hb t w
 case h_9=>
  split at h
  .subst_vars;refine fin hx (by simp) (by simp) (by simp) ?_;obtain⟨rfl,hk,hb⟩:=hx;obtain⟨rfl,_⟩:=hy;exact aji h hk hb t w
  .simp at h
 case h_10=>
  split at h
  .rename_i ht;have wo:dT P t=.bool:=by revert ht;cases dT P t<;>simp
   refine fin hx (by simp) (by simp) (by simp) ?_;cases hx;cases hy;exact ajm wo h w
  .simp at h
 case h_11=>refine fin hx (by simp) (by simp) (by simp) ?_;obtain⟨rfl,_⟩:=hx;obtain⟨rfl,_⟩:=hy;exact aAf t h w
 case h_13=>
  split at h
  .rename_i ht;obtain⟨e,wo⟩:∃e,dT P t=.ptr e:=by revert ht;cases dT P t<;>simp
   have hu:=agq wo;refine fin hx (by simp) (by simp) (by simp) ?_;obtain⟨L,a,_,rfl,_⟩:=hx;cases hy;rcases DF (ρ:=ρ) h with⟨rfl,hv⟩|⟨rfl,hv⟩
   .exact⟨.bool false,DG rfl (abg hu _ _ _),hv⟩
   .exact⟨.bool true,D4 rfl (abg hu _ _ _),hv⟩
  .simp at h
 case h_14=>
  split at h
  .rename_i ht;obtain⟨e,wo⟩:∃e,dT P t=.ptr e:=by revert ht;cases dT P t<;>simp
   have hu:=agq wo;refine fin hx (by simp) (by simp) (by simp) ?_;cases hx;cases hy;rcases DF (ρ:=ρ) h with⟨rfl,hv⟩|⟨rfl,hv⟩
   .exact⟨.bool true,DG rfl (abf hu _ _),hv⟩
   .exact⟨.bool false,D4 rfl (abf hu _ _),hv⟩
  .simp at h
 case h_15=>
  by_cases ht:(match dT P t with|.sl _=>true|_=>false)=true
  .obtain⟨e,wo⟩:∃e,dT P t=.sl e:=by revert ht;cases dT P t<;>simp
   simp only[wo,if_true]at h;have hu:=mY wo;refine fin hx (by simp) (by simp) (by simp) ?_;obtain⟨L,base,cap,g1,rfl,gn,g2,g3,g4,g5⟩:=hx;cases hy;split at h
   .rw[eE]at h;obtain⟨x,zZ,rfl⟩:=h;subst_vars;rcases DF (ρ:=ρ) zZ with⟨rfl,_⟩|⟨rfl,_⟩;all_goals cases base with
 |none=>obtain⟨_,rfl⟩:=gn rfl;first|exact⟨.bool true,DG rfl (Ox hu _ _),true,rfl⟩|exact⟨.bool false,D4 rfl (Ox hu _ _),false,rfl⟩
 |some a=>first|exact⟨.bool false,DG rfl (Oy hu _ _),false,rfl⟩|exact⟨.bool true,D4 rfl (Oy hu _ _),true,rfl⟩
   .cases base with|none=>have:=(gn rfl).1;contradiction|some a=>
      rcases DF (ρ:=ρ) h with⟨rfl,hv⟩|⟨rfl,hv⟩
      .exact⟨.bool false,DG rfl (Oy hu _ _),hv⟩
      .exact⟨.bool true,D4 rfl (Oy hu _ _),hv⟩
  .simp at h;exact(ht h.1).elim
 case h_16=>
  by_cases ht:(match dT P t with|.sl _=>true|_=>false)=true
  .obtain⟨e,wo⟩:∃e,dT P t=.sl e:=by revert ht;cases dT P t<;>simp
   simp only[wo,if_true]at h;have hu:=mY wo;refine fin hx (by simp) (by simp) (by simp) ?_;cases hx;cases hy;rcases DF (ρ:=ρ) h with⟨rfl,hv⟩|⟨rfl,hv⟩
   .exact⟨.bool true,DG rfl (Ox hu _ _),hv⟩
   .exact⟨.bool false,D4 rfl (Ox hu _ _),hv⟩
  .simp at h;exact(ht h.1).elim
 case h_17=>
  split at h
  .rename_i ht;obtain⟨a,b,c,hu⟩:∃a b c,P.underlying t=some (.func a b c):=by revert ht;cases hu:P.underlying t with|none=>simp|some x=>cases x<;>simp
   refine fin hx (by simp) (by simp) (by simp) ?_;obtain⟨cv,rfl,_⟩:=hx;cases hy;rcases DF (ρ:=ρ) h with⟨rfl,hv⟩|⟨rfl,hv⟩
   .exact⟨.bool false,DG rfl (abe hu _ _ _ _ _),hv⟩
   .exact⟨.bool true,D4 rfl (abe hu _ _ _ _ _),hv⟩
  .simp at h
 case h_18=>
  split at h
  .rename_i ht;obtain⟨a,b,c,hu⟩:∃a b c,P.underlying t=some (.func a b c):=by revert ht;cases hu:P.underlying t with|none=>simp|some x=>cases x<;>simp
   refine fin hx (by simp) (by simp) (by simp) ?_;cases hx;cases hy;rcases DF (ρ:=ρ) h with⟨rfl,hv⟩|⟨rfl,hv⟩
   .exact⟨.bool true,DG rfl (abd hu _ _),hv⟩
   .exact⟨.bool false,D4 rfl (abd hu _ _),hv⟩
  .simp at h
 case h_19=>simp at h
theorem aiZ{op:UnOp}(h:Co op x=some v)(hx:aZ ρ x cx)(w:World):∃vc,(Op.unary op cx).run P w=.ok vc w/\aZ ρ v vc:=by
 unfold Co at h;split at h<;>simp at h<;>subst h
 .cases hx;exact⟨_,rfl,rfl⟩
 .obtain⟨rfl,hb⟩:=hx;refine⟨.int .i64 (IntKind.i64.wrap (0-_)),rfl,?_,?_⟩
  .rw[Int.zero_sub];rfl
  .exact EW _
 .cases hx;rename_i x;refine⟨.int .u64 (IntKind.u64.wrap (0-_)),rfl,?_⟩;show Value.int .u64 _=.int .u64 _;rw[JV,Int.zero_sub,BitVec.ofInt_neg];simp
 .cases hx;rename_i x;refine⟨_,rfl,?_⟩;show Value.int .u64 (IntKind.u64.wrap ((aw 64 _^^^aw 64 _).toNat))=.int .u64 _;rw[JV,vj,vj];have:aw 64 (if IntKind.u64.signed=true then-1 else IntKind.u64.max)=BitVec.allOnes 64:=by decide
  rw[this,BitVec.allOnes_xor]
theorem ah0{dst src:Nat}(h:mJ P dst x=some v)(hx:aZ ρ x cx)(hs:(dT P src).is=true)(w:World):∃vc,(convert src dst cx).run P w=.ok vc w/\aZ ρ v vc:=by
 obtain⟨d,hd,_⟩:=Re hs;unfold mJ at h;split at h;case h_11=>simp at h
 case h_10=>rename_i s rK;simp at h;subst h;obtain⟨rfl,hb⟩:=hx;exact⟨_,by simp[convert,run_underlying hd,run_underlying (No rK)],rfl,hb⟩
 case h_1=>rename_i n rK;simp at h;subst h;obtain⟨rfl,hb⟩:=hx;exact⟨.int .i64 (IntKind.i64.wrap n),by simp[convert,run_underlying hd,run_underlying (B7 rK),Conv.intToInt],by rw[show IntKind.i64.wrap n=n from JR hb.1 hb.2];exact⟨rfl,hb⟩⟩
 case h_2=>rename_i x rK;simp at h;subst h;cases hx;exact⟨.int .i64 (IntKind.i64.wrap x.toNat),by simp[convert,run_underlying hd,run_underlying (B7 rK),Conv.intToInt],by rw[aBY];exact⟨rfl,by have:=BitVec.le_toInt x;omega,by have:=BitVec.toInt_lt (x:=x);omega⟩⟩
 case h_3=>
  rename_i k n rK;simp at h;subst h;obtain⟨rfl,hk,hb⟩:=hx;have hr:-9223372036854775808<=n/\n<=9223372036854775807:=by cases k<;>simp[IntKind.min,IntKind.max,IntKind.signed,IntKind.bits]at hb hk<;>omega
  exact⟨.int .i64 (IntKind.i64.wrap n),by simp[convert,run_underlying hd,run_underlying (B7 rK),Conv.intToInt],by rw[show IntKind.i64.wrap n=n from JR hr.1 hr.2];exact⟨rfl,hr⟩⟩
 case h_4=>rename_i n rK;simp at h;subst h;obtain⟨rfl,hb⟩:=hx;exact⟨.int .u64 (IntKind.u64.wrap n),by simp[convert,run_underlying hd,run_underlying (B7 rK),Conv.intToInt],by rw[JV];rfl⟩
 case h_5=>rename_i x rK;simp at h;subst h;cases hx;exact⟨.int .u64 (IntKind.u64.wrap x.toNat),by simp[convert,run_underlying hd,run_underlying (B7 rK),Conv.intToInt],by rw[JV,vj];rfl⟩
 case h_6=>rename_i k n rK;simp at h;subst h;obtain⟨rfl,hk,hb⟩:=hx;exact⟨.int .u64 (IntKind.u64.wrap n),by simp[convert,run_underlying hd,run_underlying (B7 rK),Conv.intToInt],by rw[JV];rfl⟩
 case h_7=>rename_i k n h1 h2 rK;simp at h;subst h;obtain⟨rfl,hb⟩:=hx;exact⟨.int k (k.wrap n),by simp[convert,run_underlying hd,run_underlying (B7 rK),Conv.intToInt],rfl,NX h1 h2,AP _ _⟩
 case h_8=>rename_i k x h1 h2 rK;simp at h;subst h;cases hx;exact⟨.int k (k.wrap x.toNat),by simp[convert,run_underlying hd,run_underlying (B7 rK),Conv.intToInt],rfl,NX h1 h2,AP _ _⟩
 case h_9=>rename_i k k' n h1 h2 rK;simp at h;subst h;obtain⟨rfl,hk,hb⟩:=hx;exact⟨.int k (k.wrap n),by simp[convert,run_underlying hd,run_underlying (B7 rK),Conv.intToInt],rfl,NX h1 h2,AP _ _⟩
end Go.Am
namespace Go.Am
variable {P:Program}{ρ:Ro}
theorem anr(cells:Array Value)(off:Nat):∀(vs:List Value)(j:Nat),off+j+vs.length<=cells.size->((vs.zipIdx j).foldl (λcs(x:Value×Nat)=>cs.setIfInBounds (off+x.2) x.1) cells).toList=cells.toList.take (off+j)++vs++cells.toList.drop (off+j+vs.length):=by intro vs;induction vs generalizing cells with|nil=>intro j h;simp|cons v vs ih=>
   intro j h;simp only[cT]at h;simp only[List.zipIdx_cons,Y9];rw[ih (cells.setIfInBounds (off+j) v) (j+1) (by simp;omega)];have aG:off+j<cells.toList.length:=by simp;omega
   have e1:(cells.setIfInBounds (off+j) v).toList=cells.toList.set (off+j) v:=by simp
   rw[e1];have e2:(cells.toList.set (off+j) v).take (off+(j+1))=cells.toList.take (off+j)++[v]:=by rw[show off+(j+1)=off+j+1 by omega,Hp (by simpa using aG)];simp only[List.take_set,List.getElem_set_self];rw[List.set_eq_of_length_le (by simp;omega)]
   have e3:(cells.toList.set (off+j) v).drop (off+(j+1)+vs.length)=cells.toList.drop (off+j+(vs.length+1)):=by rw[List.drop_set_of_lt ω];congr 1;omega
   rw[e2,e3];simp
theorem Oz(place:Nat->Option (Nat×Nat)):∀(ps:List (Nat×AV))(cs:List (Nat×Value)),L2 (λa b=>a.1=b.1/\aZ ρ a.2 b.2) ps cs->∀(z:List Sc)(zc:List Value)(r:List Sc),L2 (b6 ρ) z zc->vW place z ps=some r->∃rc:List Value,Instr.fill place zc.toArray cs=some rc.toArray/\L2 (b6 ρ) r rc:=by intro ps cs h;induction h with|nil=>intro z zc r hz hf;simp[vW]at hf;subst hf;exact⟨zc,rfl,hz⟩|@cons a b ps cs h _ ih=>
   intro z zc r hz hf;obtain⟨i,v⟩:=a;obtain⟨i',vc⟩:=b;obtain⟨hi,hv⟩:=h;simp only at hi hv;subst hi;simp only[vW]at hf;split at hf
   .rename_i off n l hp hl;split at hf
    .rename_i hc;obtain⟨xo,cu,hrel,_⟩:=hv.cells hl;have hlen:=hrel.length;have qS:=hz.length;have cO:¬(vc.cells.size≠n||off+vc.cells.size>zc.toArray.size)=true:=by rw[cu];simp;omega
     have Ir:L2 (b6 ρ) (wr z off l) (zc.take off++xo++zc.drop (off+xo.length)):=by unfold wr;rw[<-hlen];exact((hz.take off).app hrel).app (hz.drop _)
     obtain⟨rc,h1,h2⟩:=ih _ _ _ Ir hf;refine⟨rc,?_,h2⟩;simp only[Instr.fill,hp];rw[if_neg cO];have e:(vc.cells.zipIdx.foldl (λcs(c,j)=>cs.setIfInBounds (off+j) c) zc.toArray)=(zc.take off++xo++zc.drop (off+xo.length)).toArray:=by apply qK;rw[cu,<-Array.foldl_toList];have:=anr zc.toArray off xo 0 (by simp;omega);simpa using this
     rw[e];exact h1
    .simp at hf
   .simp at hf
variable {t:Nat}{z:List Sc}
theorem Cb(h:zT P t=some z)(w:World):∃v zc,(zeroValue t).run P w=.ok v w/\v.cells=(zc:List Value).toArray/\L2 (b6 ρ) z zc:=by unfold zT at h;cases hi:P.info? t with|none=>simp[hi]at h|some i=>rw[hi]at h;simp only[RK]at h;cases hz:i.zero with|none=>simp[hz]at h|some v=>
     rw[hz]at h;have hr:(zeroValue t).run P w=.ok v w:=by simp[zeroValue,typeInfo,hi,hz]
     cases v with|agg cs=>simp at h;subst h;refine⟨_,cs.toList,hr,by simp[Value.cells],?_⟩;have:L2 (λa b=>b6 ρ (mj a) b) cs.toList cs.toList:=L2.aeP λa _=>NK ρ a;simpa using L2.map (f:=mj) (g:=id) this|_=>simp at h;subst h;exact⟨_,[_],hr,rfl,.cons (NK ρ _) .nil⟩
theorem aqz(w:World):∀(fs:List Field),(∀f∈fs,∃i,P.info? f.type=some i)->(fs.mapM λf=>(do pure (f.offset,<-sizeOf f.type):Sem (Nat×Nat))).run P w=.ok (fs.map λf=>(f.offset,av P f.type)) w:=by intro fs;induction fs with|nil=>intro _;simp|cons f fs ih=>
   intro h;obtain⟨i,hi⟩:=h f (by simp);have hs:∀w:World,(sizeOf f.type).run P w=.ok (av P f.type) w:=λw=>by simp[sizeOf,typeInfo,hi,av]
   simp only[List.mapM_cons,dg,hs,c9,fF];rw[ih λg hg=>h g (by simp[hg])];simp
variable {v:AV}
theorem aju{ps:List (Nat×AV)}{cs:List (Nat×Value)}(h:Cr P t ps=some v)(hp:L2 (λa b=>a.1=b.1/\aZ ρ a.2 b.2) ps cs)(w:World):∃vc,(Instr.build t cs.toArray).run P w=.ok vc w/\aZ ρ v vc:=by
 unfold Cr at h;split at h
 .rename_i z hz rH;obtain⟨zv,zc,h1,h2,h3⟩:=Cb (ρ:=ρ) hz w;simp only[eE]at h;obtain⟨r,hr,rfl⟩:=h;cases hd:dT P t with|st fs=>
    obtain⟨gs,hu,uz,rfl⟩:=YL hd;rw[hd]at hr;have CH:(D8 P (.st (gs.toList.map λf=>(f.offset,f.type))))=λi=>((gs.toList.map λf=>(f.offset,av P f.type)).toArray)[i]?:=by funext i;simp only[D8,qL,Hk];cases gs.toList[i]?<;>rfl
    rw[CH]at hr;obtain⟨rc,h4,h5⟩:=Oz _ _ _ hp _ _ _ h3 hr;refine⟨.agg rc.toArray,?_,rc,rfl,h5⟩;have hm:=aqz (P:=P) w gs.toList (λf hf=>by obtain⟨i,hi,_⟩:=Lx (uz f hf);exact⟨i,hi⟩);simp only[Instr.build,dg,h1,c9,run_underlying hu];rw[Array.mapM_eq_mapM_toList];simp only[Sem.run_map,hm,c9,h2];rw[h4];rfl|arr n e=>
 obtain⟨hu,CL⟩:=Nn hd;rw[hd]at hr;obtain⟨rc,h4,h5⟩:=Oz _ _ _ hp _ _ _ h3 hr;refine⟨.agg rc.toArray,?_,rc,rfl,h5⟩
 .simp only[Instr.build,dg,h1,c9,run_underlying hu,mW CL,h2];have h4':Instr.fill (λi=>some (i*av P e,av P e)) zc.toArray cs=some rc.toArray:=h4;rw[h4'];rfl|_=>rw[hd]at rH;simp[D.agg]at rH
 .simp at h
theorem ajE:∀(vs:List AV)(cs:List Value)(l:List (Nat×Nat×Nat)),Fj vs=some l->L2 (aZ ρ) vs cs->L2 (λ(c:Nat×Nat×Nat)v=>kh ρ c.1 c.2.1 c.2.2 v) l cs:=by intro vs;induction vs with|nil=>intro cs l h hr;simp[Fj]at h;subst h;cases hr;exact .nil|cons v vs ih=>intro cs l h hr;cases hr with|cons h1 h2=>match v,h,h1 with|.c (.p a b c),h,h1=>simp only[Fj,eE]at h;obtain⟨m,h3,rfl⟩:=h;exact .cons h1 (ih _ _ h3 h2)
variable {x:AV}
theorem BA{v:Value}{n:Int}(h:uC x=some n)(hv:aZ ρ x v):∃k,v=.int k n:=by
 unfold uC at h;split at h<;>simp at h<;>subst h
 .obtain⟨rfl,_⟩:=hv;exact⟨_,rfl⟩
 .cases hv;exact⟨_,rfl⟩
 .obtain⟨rfl,_⟩:=hv;exact⟨_,rfl⟩
theorem kh.add{id off aX:Nat}{v:Value}(h:kh ρ id off aX v)(n:Nat):∃a,v=.pointer (some a)/\kh ρ id (off+n) aX (.pointer (some (a.add n))):=by obtain⟨L,a,h1,rfl,h2,h3⟩:=h;refine⟨a,rfl,L,a.add n,h1,rfl,h2,λe=>⟨(h3 e).1,(h3 e).2.1,?_⟩⟩;rw[(h3 e).2.2,Addr.Cj,m9]
variable {fs:List (Nat×Nat)}{f:Nat×Nat}
theorem ane{k:Nat}{id off aX:Nat}{v:Value}(hd:dT P t=.st fs)(hf:fs[k]?=some f)(hz:0<av P f.2)(hv:kh ρ id off aX v)(w:World):∃vc,(Instr.fieldAt t v k).run P w=.ok vc w/\kh ρ id (off+f.1) aX vc:=by
 obtain⟨gs,hu,uz,rfl⟩:=YL hd;simp only[qL,eE]at hf;obtain⟨g,hg,rfl⟩:=hf;obtain⟨a,rfl,h2⟩:=hv.add g.offset;refine⟨_,?_,h2⟩;have zV:gs[k]?=some g:=by rw[<-Array.getElem?_toList];exact hg
 have CK:¬av P g.type=0:=by simp only at hz;omega
 simp only[Instr.fieldAt,dg,run_underlying hu,c9,zV,Instr.sureAddr,fF,fieldPlace,mW hz,CK,if_false]
variable {l:List Sc}{cs:List Value}
theorem b6.getD(h:L2 (b6 ρ) l cs)(o:Nat)(ho:o<l.length):b6 ρ (l.getD o .any) (cs.getD o .nilIface):=by obtain⟨b,hb,hr⟩:=h.get? o l[o] (by simp[ho]);rw[bX,bX,hb];simpa[ho]using hr
variable {off:Nat}
theorem adX(hl:L2 (b6 ρ) l cs)(Bo:(dT P t).is=true)(cO:0<av P t)(w:World)(hlen:off+av P t<=l.length):∃vc,(part t cs.toArray off).run P w=.ok vc w/\aZ ρ (rd (dT P t).agg l off (av P t)) vc:=by refine⟨_,Mm Bo cO w (by rw[<-hl.length];exact hlen),?_⟩;cases rH:(dT P t).agg with|true=>exact⟨_,rfl,(hl.drop off).take _⟩|false=>exact b6.getD hl off ω
theorem anf{k:Nat}{v:Value}(hd:dT P t=.st fs)(hf:fs[k]?=some f)(hz:0<av P f.2)(Bo:(dT P f.2).is=true)(hlen:f.1+av P f.2<=l.length)(hv:aZ ρ (.g l) v)(w:World):∃vc,(Instr.field t v k).run P w=.ok vc w/\aZ ρ (rd (dT P f.2).agg l f.1 (av P f.2)) vc:=by
 obtain⟨gs,hu,uz,rfl⟩:=YL hd;simp only[qL,eE]at hf;obtain⟨g,hg,rfl⟩:=hf;obtain⟨cs,rfl,cu⟩:=hv;obtain⟨vc,h1,h2⟩:=adX cu Bo hz w hlen;refine⟨vc,?_,h2⟩;have zV:gs[k]?=some g:=by rw[<-Array.getElem?_toList];exact hg
 simp only[Instr.field,dg,run_underlying hu,c9,zV,asAgg,fF,h1]
variable {ix:AV}{cx ci:Value}
theorem aoV(h:Iv P t x ix=some v)(hx:aZ ρ x cx)(hi:aZ ρ ix ci)(w:World):∃vc,(Instr.indexAt t cx ci).run P w=.ok vc w/\aZ ρ v vc:=by
 unfold Iv at h;split at h
 .rename_i n e id off aX i hd Bn;split at h<;>simp at h;rename_i hc;obtain⟨k,rfl⟩:=BA Bn hi;obtain⟨a,rfl,h2⟩:=kh.add (show kh ρ id off aX cx from hx) (i.toNat*av P e);subst h;refine⟨_,?_,h2⟩;obtain⟨hu,_⟩:=Nn hd;simp only[Instr.indexAt,asIntOf,dg,fF,c9,run_underlying hu,Instr.sureAddr,hc.1,hc.2.1,and_self,if_true,mW hc.2.2]
 .rename_i e id off aX len i hd Bn;split at h<;>simp at h;rename_i hc;obtain⟨k,rfl⟩:=BA Bn hi;obtain⟨L,base,cap,h1,rfl,hn,h2,h3,h4,h5⟩:=(show w5 ρ id off aX len cx from hx);subst h;have hu:=mY hd;have hlen:0<len:=ω
  cases base with|none=>have:=hn rfl;omega|some a=>
    refine⟨.pointer (some (a.add (i.toNat*av P e))),?_,L,_,h1,rfl,h4,λe=>?_⟩
    .simp only[Instr.indexAt,asIntOf,dg,fF,c9,run_underlying hu,hc.1,hc.2.1,and_self,if_true,mW hc.2.2]
    .have:=h5 e;split at this
     .simp at this
     .rename_i fh;obtain⟨a',e1,e2,_,e3⟩:=this;simp at e1;subst e1;refine⟨by simpa using fh,e3 hlen,?_⟩;rw[e2 (.inr hlen),Addr.Cj,m9]
 .simp at h
end Go.Am
namespace Go.Am
variable {P:Program}{ρ:Ro}
variable {t:Nat}{x ix v:AV}{cx ci:Value}
theorem aoW(h:Iu P t x ix=some v)(hx:aZ ρ x cx)(hi:aZ ρ ix ci)(w:World):∃vc,(Instr.index t cx ci).run P w=.ok vc w/\aZ ρ v vc:=by
 unfold Iu at h;split at h
 .rename_i n e l i hd Bn;split at h<;>simp at h;rename_i hc;obtain⟨k,rfl⟩:=BA Bn hi;obtain⟨cs,rfl,cu⟩:=hx;obtain⟨hu,_⟩:=Nn hd;subst h;obtain⟨vc,h1,h2⟩:=adX cu hc.2.2.2.1 hc.2.2.1 w hc.2.2.2.2;refine⟨vc,?_,h2⟩;simp only[Instr.index,asIntOf,dg,fF,c9,run_underlying hu,hc.1,hc.2.1,and_self,if_true,mW hc.2.2.1,h1]
 .rename_i s i hd Bn;split at h<;>simp at h;rename_i hc;obtain⟨k,rfl⟩:=BA Bn hi;obtain⟨rfl,hs⟩:=hx;have hu:=No hd;subst h;have aG:i.toNat<s.size:=ω
  have hg:s[i.toNat]?=some s.data[i.toNat]:=by simp[getElem?_pos,aG];rfl
  refine⟨.int .u8 (s.data[i.toNat].toNat),?_,?_⟩
  .simp only[Instr.index,asIntOf,dg,fF,c9,run_underlying hu,hc.1,if_true,hg]
  .have hb:=s.data[i.toNat].toNat_lt;have Ua:i.toNat<s.data.size:=aG;have O5:s.data[i.toNat]?.getD 0=s.data[i.toNat]:=by rw[Array.getElem?_eq_getElem Ua];rfl
   rw[O5];refine⟨rfl,δ,?_,?_⟩
   .simp[IntKind.min,IntKind.signed]
   .simp[IntKind.max,IntKind.signed,IntKind.bits];omega
 .simp at h
inductive Hv(ρ:Ro):Option AV->Option Value->Prop|none:Hv ρ none none|some{a v}(h:aZ ρ a v):Hv ρ (some a) (some v)
variable {len cap:Nat}{hi:Option AV}{lc hc:Option Value}
theorem NY{b:Bool}{lo:Option AV}{l h:Int}(tM:Hv ρ lo lc)(Cz:Hv ρ hi hc)(h1:Gg lo=some l)(h2:DP len hi=some h)(h3:0<=l)(h4:l<=h)(h5:h<=len)(h6:len<=cap)(w:World):(Instr.sliceBounds b len cap lc hc none).run P w=.ok (l.toNat,h.toNat,cap) w:=by
 have sb:∀(k:IntKind)(n:Int)(y:Nat)(c:BoundsCode),0<=n->n<=y->(Instr.sliceBound (.int k n) y c).run P w=.ok n.toNat w:=by intro k n y c a b;simp[Instr.sliceBound,asIntOf,a,b]
 cases tM with
 |none=>simp[Gg]at h1;subst h1;cases Cz with|none=>simp[DP]at h2;subst h2;simp[Instr.sliceBounds]|some hv=>obtain⟨k,rfl⟩:=BA (show uC _=some h from h2) hv;simp[Instr.sliceBounds,sb k h cap _ ω ω]
 |some lv=>obtain⟨k,rfl⟩:=BA (show uC _=some l from h1) lv;cases Cz with|none=>simp[DP]at h2;subst h2;simp[Instr.sliceBounds,sb k l len _ ω ω]|some hv=>obtain⟨k',rfl⟩:=BA (show uC _=some h from h2) hv;simp[Instr.sliceBounds,sb k' h cap _ ω ω,sb k l h.toNat _ ω ω]
theorem QZ{x:Value}{lo hi mx:Option Value}{d:TypeDesc}(hu:P.underlying t=some d)(cZ:∀n e,d≠.array n e)(w:World):(Instr.sliceAt t x lo hi mx).run P w=(Instr.slice t x lo hi mx).run P w:=by simp only[Instr.sliceAt,dg,run_underlying hu,c9]
theorem Q0{lo:Option AV}(h:AG P t x lo hi=some v)(hx:aZ ρ x cx)(tM:Hv ρ lo lc)(Cz:Hv ρ hi hc)(w:World):∃vc,(Instr.sliceAt t cx lc hc none).run P w=.ok vc w/\aZ ρ v vc:=by
 unfold AG at h;split at h
 .rename_i e id off aX len hd;split at h
  .rename_i l hh e1 e2;split at h<;>simp at h;rename_i nA;subst h;have hu:=mY hd;obtain⟨L,base,cap,h1,rfl,hn,h2,h3,h4,h5⟩:=(show w5 ρ id off aX len cx from hx);have hb:=NY (P:=P) (b:=true) (cap:=cap) tM Cz e1 e2 nA.1 nA.2.1 nA.2.2.1 h2 w;refine⟨.slice (if cap=l.toNat then base else base.map (·.add (l.toNat*av P e))) (hh.toNat-l.toNat) (cap-l.toNat),?_,?_⟩
   .rw[QZ hu (by simp)];simp only[Instr.slice,dg,run_underlying hu,c9,hb,mW nA.2.2.2,fF]
   .refine⟨L,_,_,h1,rfl,?_,ω,ω,h4,λe'=>?_⟩
    .intro tP;have:base=none:=by
      split at tP
      .exact tP
      .simpa using tP
     have:=hn this;omega
    .have:=h5 e';split
     .rename_i fh;rw[if_pos fh]at this;obtain⟨rfl,rfl,rfl,rfl⟩:=this;have DR:l.toNat=0:=ω
      simp[DR];omega
     .rename_i fh;rw[if_neg fh]at this;obtain⟨a,rfl,g1,g2,g3⟩:=this;have hmul:l.toNat*av P e=0↔l.toNat=0:=by
       constructor
       .intro hz;rcases Nat.mul_eq_zero.1 hz with h|h
        .exact h
        .omega
       .intro hz;simp[hz]
      by_cases qh:cap=l.toNat
      .refine⟨a,by simp[qh],?_,?_,λhp=>g3 ω⟩
       .intro ho;have DR:l.toNat=0:=ω
        rw[DR];simp only[Nat.zero_mul,ru];refine g1 ?_;left;omega
       .intro ho hv;have DR:l.toNat=0:=ω
        have:=g2 ω hv;omega
      .refine⟨a.add (l.toNat*av P e),by simp[qh],?_,?_,λhp=>g3 ω⟩
       .intro ho;have:a=⟨L.dW,L.off+off,none⟩:=g1 ω;rw[this,Addr.Cj,m9]
       .intro ho hv;have DR:l.toNat=0:=ω
        have:=g2 ω hv;omega
  .simp at h
 .rename_i e hd;split at h
  .rename_i l hh e1 e2;split at h<;>simp at h;rename_i nA;obtain⟨rfl,rfl,hz⟩:=nA;subst h;have hu:=mY hd;cases hx;have hb:=NY (P:=P) (b:=true) (len:=0) (cap:=0) tM Cz e1 e2 ω ω ω ω w;rw[QZ hu (by simp)];refine⟨.slice none 0 0,?_,rfl⟩;simp only[Instr.slice,dg,run_underlying hu,c9,hb,mW hz,fF];rfl
  .simp at h
 .rename_i n e id off aX hd;split at h
  .rename_i l hh e1 e2;split at h<;>simp at h;rename_i nA;subst h;obtain⟨hu,_⟩:=Nn hd;obtain⟨L,a,h1,rfl,h4,h5⟩:=(show kh ρ id off aX cx from hx);have hb:=NY (P:=P) (b:=false) (len:=n) (cap:=n) tM Cz e1 e2 nA.1 ω nA.2.2.1 ω w;refine⟨.slice (some (a.add (l.toNat*av P e))) (hh.toNat-l.toNat) (n-l.toNat),?_,?_⟩
   .have cZ:¬n=l.toNat:=ω
    simp only[Instr.sliceAt,dg,run_underlying hu,c9,Instr.sureAddr,hb,mW nA.2.2.2.2.1,fF,cZ,if_false]
   .refine⟨L,_,_,h1,rfl,by simp,ω,ω,h4,λe'=>?_⟩;obtain⟨g1,g2,g3⟩:=h5 e';rw[if_neg (by simp[g1])];refine⟨_,rfl,λ_=>by rw[g3,Addr.Cj,m9],λ_ hv=>?_,λ_=>g2⟩;have:=g2 hv;omega
  .simp at h
 .rename_i s hd;split at h
  .rename_i l hh e1 e2;split at h<;>simp at h;rename_i nA;subst h;have hu:=No hd;obtain⟨rfl,hs⟩:=hx;have hb:=NY (P:=P) (b:=false) (len:=s.size) (cap:=s.size) tM Cz e1 e2 nA.1 nA.2.1 nA.2.2 ω w;refine⟨.string (s.extract l.toNat hh.toNat),?_,rfl,?_⟩
   .rw[QZ hu (by simp)];simp[Instr.slice,run_underlying hu,hb]
   .simp;omega
  .simp at h
 .simp at h
variable {ts:Array TypeId}
theorem UT(h:Ac P t x=some v)(ht:ts[0]?=some t)(hx:aZ ρ x cx)(ty:Nat)(w:World):∃vc,(Builtin.len_ ts ty #[cx]).run P w=.ok vc w/\aZ ρ v vc:=by
 unfold Ac at h;split at h
 .rename_i e id off aX len hd;simp at h;subst h;obtain⟨L,base,cap,h1,rfl,hn,h2,h3,h4,h5⟩:=(show w5 ρ id off aX len cx from hx);exact⟨.int .i64 len,by simp[Builtin.len_,ht,run_underlying (mY hd),goInt],rfl,ω,ω⟩
 .rename_i e hd;simp at h;subst h;cases hx;exact⟨.int .i64 0,by simp[Builtin.len_,ht,run_underlying (mY hd),goInt],rfl,ω,ω⟩
 .rename_i s hd;simp at h;subst h;obtain⟨rfl,hs⟩:=hx;exact⟨.int .i64 s.size,by simp[Builtin.len_,ht,run_underlying (No hd),goInt],rfl,ω,ω⟩
 .rename_i n e hd;split at h<;>simp at h;subst h;exact⟨.int .i64 n,by simp[Builtin.len_,ht,run_underlying (Nn hd).1,goInt],rfl,ω,ω⟩
 .simp at h
theorem L2.one{α β:Type}{R:α->β->Prop}{a:α}{l:List β}(h:L2 R [a] l):∃b,l=[b]/\R a b:=by cases h with|cons h t=>cases t;exact⟨_,rfl,h⟩
theorem L2.two{α β:Type}{R:α->β->Prop}{a b:α}{l:List β}(h:L2 R [a,b] l):∃x y,l=[x,y]/\R a x/\R b y:=by cases h with|cons h t=>obtain⟨y,rfl,h2⟩:=t.one;exact⟨_,_,rfl,h,h2⟩
theorem ajn{len cap:Nat}{cl ch cm lo hi mx:Value}{l h m:Int}{al ah am:AV}(r1:aZ ρ al cl)(r2:aZ ρ ah ch)(r3:aZ ρ am cm)(h1:uC al=some l)(h2:uC ah=some h)(h3:uC am=some m)(g0:0<=l)(g1:l<h)(g2:h<=m)(g3:m<=cap)(w:World):(Instr.sliceBounds true len cap (some cl) (some ch) (some cm)).run P w=.ok (l.toNat,h.toNat,m.toNat) w:=by
 have sb:∀(k:IntKind)(n:Int)(y:Nat)(c:BoundsCode),0<=n->n<=y->(Instr.sliceBound (.int k n) y c).run P w=.ok n.toNat w:=by intro k n y c a b;simp[Instr.sliceBound,asIntOf,a,b]
 obtain⟨k1,rfl⟩:=BA h1 r1;obtain⟨k2,rfl⟩:=BA h2 r2;obtain⟨k3,rfl⟩:=BA h3 r3;simp[Instr.sliceBounds,sb k3 m cap _ ω ω,sb k2 h m.toNat _ ω ω,sb k1 l h.toNat _ ω ω]
theorem azV{lo hi mx:AV}{lc hc mc:Value}(h:JM P t x lo hi mx=some v)(hx:aZ ρ x cx)(tM:aZ ρ lo lc)(Cz:aZ ρ hi hc)(Pe:aZ ρ mx mc)(w:World):∃vc,(Instr.sliceAt t cx (some lc) (some hc) (some mc)).run P w=.ok vc w/\aZ ρ v vc:=by
 unfold JM at h;split at h
 .rename_i e id off aX len hd;split at h
  .rename_i l hh m e1 e2 e3;split at h<;>simp at h;rename_i nA;obtain⟨c1,c2,c3,c4,c5⟩:=nA;subst h;have hu:=mY hd;obtain⟨L,base,cap,h1,rfl,hn,h2,h3,h4,h5⟩:=(show w5 ρ id off aX len cx from hx);have hb:=ajn (P:=P) (len:=len) (cap:=cap) (lo:=lc) (hi:=hc) (mx:=mc) tM Cz Pe e1 e2 e3 c1 c2 c3 ω w;have cZ:¬m.toNat=l.toNat:=ω
   refine⟨.slice (base.map (·.add (l.toNat*av P e))) (hh.toNat-l.toNat) (m.toNat-l.toNat),?_,?_⟩
   .rw[QZ hu (by simp)];simp only[Instr.slice,dg,run_underlying hu,c9,hb,mW c5,fF,if_neg cZ]
   .refine⟨L,_,_,h1,rfl,?_,ω,ω,h4,λe'=>?_⟩
    .intro tP;have:base=none:=by simpa using tP
     have:=hn this;omega
    .have:=h5 e';split
     .rename_i fh;rw[if_pos fh]at this;obtain⟨rfl,rfl,rfl,rfl⟩:=this;omega
     .rename_i fh;rw[if_neg fh]at this;obtain⟨a,rfl,g1,g2,g3⟩:=this;refine⟨a.add (l.toNat*av P e),by simp,?_,?_,λhp=>g3 ω⟩
      .intro ho;have:a=⟨L.dW,L.off+off,none⟩:=g1 ω;rw[this,Addr.Cj,m9]
      .intro ho hv;have:=g2 ω hv;omega
  .simp at h
 .simp at h
theorem L2.three{α β:Type}{R:α->β->Prop}{a b c:α}{l:List β}(h:L2 R [a,b,c] l):∃x y z,l=[x,y,z]/\R a x/\R b y/\R c z:=by cases h with|cons h t=>obtain⟨y,z,rfl,h2,h3⟩:=t.two;exact⟨_,_,_,rfl,h,h2,h3⟩
theorem L2.four{α β:Type}{R:α->β->Prop}{a b c d:α}{l:List β}(h:L2 R [a,b,c,d] l):∃x y z u,l=[x,y,z,u]/\R a x/\R b y/\R c z/\R d u:=by cases h with|cons h t=>obtain⟨x,y,z,rfl,h2,h3,h4⟩:=t.three;exact⟨_,_,_,_,rfl,h,h2,h3,h4⟩
variable {cy:Value}
theorem acM{mx:Bool}{y:AV}(h:min2 mx x y=some v)(hx:aZ ρ x cx)(hy:aZ ρ y cy)(w:World):∃vc,(if mx then Builtin.max_ #[] 0 #[cx,cy]else Builtin.min_ #[] 0 #[cx,cy]).run P w=.ok vc w/\aZ ρ v vc:=by
 unfold min2 at h;split at h
 .rename_i a b;simp at h;subst h;obtain⟨rfl,h1⟩:=hx;obtain⟨rfl,h2⟩:=hy;cases mx
  .refine⟨.int .i64 (if b<a then b else a),by simp[Builtin.min_,Builtin.min2],?_,?_⟩
   .simp only[dL,if_false];congr 1;simp only[Int.min_def];split<;>split<;>omega
   .simp only[dL,if_false];omega
  .refine⟨.int .i64 (if a<b then b else a),by simp[Builtin.max_,Builtin.max2],?_,?_⟩
   .simp only[if_true];congr 1;simp only[Int.max_def];split<;>split<;>omega
   .simp only[if_true];omega
 .simp at h
end Go.Am
namespace Go.Am
variable {P:Program}{ρ:Ro}
theorem agQ{a:Act}:∀(ps:List (Nat×Operand))(vs:List AV),L2 (aZ ρ) vs (ps.map λp=>a.eval p.2)->L2 (λ(x:Nat×AV)(y:Nat×Value)=>x.1=y.1/\aZ ρ x.2 y.2) ((ps.map (·.1)).zip vs) (ps.map λp=>(p.1,a.eval p.2)):=by intro ps;induction ps with|nil=>intro vs h;cases h;exact .nil|cons p ps ih=>intro vs h;cases h with|cons h1 h2=>exact .cons ⟨rfl,h1⟩ (ih _ h2)
theorem aeJ{o:Oper}{a:Act}{H:AH}{vs:List AV}{v:AV}{w:World}(h:jc P o.op vs ((uP o.op vs).map (hg H))=some v)(hv:L2 (aZ ρ) vs ((bI o.op).map a.eval))(hO:∀i,jZ ρ w i (hg H i)):∃vc,(execOp a.eval o).run P w=.ok (.value vc) w/\aZ ρ v vc:=by
 obtain⟨dst,op,ty,pos,after,guard⟩:=o;simp only at h hv;have fin:∀(s:Sem Value),(∃vc,s.run P w=.ok vc w/\aZ ρ v vc)->∃vc,(do pure (.value (<-s)):Sem Next).run P w=.ok (.value vc) w/\aZ ρ v vc:=by rintro s⟨vc,h1,h2⟩;exact⟨vc,by simp[h1],h2⟩
 unfold jc at h;split at h
 .simp at h;subst h;obtain⟨x,hx,h1⟩:=hv.one;simp only[bI,gz,jf,cL,and_true]at hx;subst hx;exact⟨_,rfl,h1⟩
 .simp at h;subst h;obtain⟨x,hx,h1⟩:=hv.one;simp only[bI,gz,jf,cL,and_true]at hx;subst hx;exact⟨_,rfl,h1⟩
 .rename_i c x y q ax ay;simp at h;subst h;obtain⟨vc,vx,vy,hx,h1,h2,h3⟩:=hv.three;simp only[bI,gz,jf,cL,and_true]at hx;obtain⟨rfl,rfl,rfl⟩:=hx;have H6:a.eval c=.bool q:=h1;refine⟨if q then a.eval x else a.eval y,by simp[execOp,H6,asBool],?_⟩;cases q
  .exact h3
  .exact h2
 .rename_i t ps;refine fin _ ?_;obtain⟨vc,h1,h2⟩:=aju h (agQ (a:=a) ps.toList _ (by simpa[bI,Function.comp_def]using hv)) w;refine⟨vc,?_,h2⟩;rw[<-h1];congr 1;congr 1;apply qK;simp
 .rename_i t x id off aX;split at h
  .rename_i o ho;simp only[uP,gz,jf,cL,and_true]at ho;subst ho;split at h<;>simp at h;rename_i hc;subst h;obtain⟨y,hy,h1⟩:=hv.one;simp only[bI,gz,jf,cL,and_true]at hy;subst hy;obtain⟨L,ad,h2,h3,h4,h5⟩:=(show kh ρ id off aX _ from h1);have Bt:(hg H id).live=true:=by cases hh:hg H id with|dead=>rw[hh]at hc;simp[ae.cells]at hc;omega|_=>rfl
   have nF:=(hO id).row h2 Bt;obtain⟨_,_,rfl⟩:=h5 (by rw[nF];exact hc.1);obtain⟨vc,h6,h7⟩:=acD (hO id) h2 hc.2.1 hc.2.2.1 hc.2.2.2.1 hc.2.2.2.2;exact fin _ ⟨vc,by simp[Instr.loadAt,h3,Instr.sureAddr,h6],h7⟩
  .simp at h
 .rename_i x id off aX;simp at h;subst h;obtain⟨y,hy,h1⟩:=hv.one;simp only[bI,gz,jf,cL,and_true]at hy;subst hy;obtain⟨L,ad,h2,h3,h4⟩:=(show kh ρ id off aX _ from h1);exact⟨_,by simp[execOp,h3],L,ad,h2,rfl,h4⟩
 .rename_i x f cs;simp at h;subst h;obtain⟨y,hy,h1⟩:=hv.one;simp only[bI,gz,jf,cL,and_true]at hy;subst hy;obtain⟨cv,h2,h3⟩:=h1;exact⟨_,by simp[execOp,h2],cv,rfl,h3⟩
 .rename_i bop t x y yt ax ay;obtain⟨cx,cy,hx,h1,h2⟩:=hv.two;simp only[bI,gz,jf,cL,and_true]at hx;obtain⟨rfl,rfl⟩:=hx;exact fin _ (ahV h h1 h2 x y w)
 .rename_i uop t x ax;obtain⟨y,hy,h1⟩:=hv.one;simp only[bI,gz,jf,cL,and_true]at hy;subst hy;exact fin _ (aiZ h h1 w)
 .rename_i src dst x ax;split at h
  .rename_i hs;obtain⟨y,hy,h1⟩:=hv.one;simp only[bI,gz,jf,cL,and_true]at hy;subst hy;exact fin _ (ah0 h h1 hs w)
  .simp at h
 .rename_i f first captured;split at h
  .rename_i hz;simp only[eE]at h;obtain⟨l,hl,rfl⟩:=h;refine fin _ ⟨_,rfl,captured.toList.map a.eval,?_,ajE _ _ _ hl hv⟩;obtain rfl:first=#[]:=Array.eq_empty_of_size_eq_zero hz;simp only[List.map_toArray,jf];congr 1;apply qK;simp
  .simp at h
 .rename_i t x k id off aX;split at h
  .rename_i fs hd;split at h
   .rename_i f hf;split at h<;>simp at h;rename_i hz;subst h;obtain⟨y,hy,h1⟩:=hv.one;simp only[bI,gz,jf,cL,and_true]at hy;subst hy;exact fin _ (ane hd hf hz h1 w)
   .simp at h
  .simp at h
 .rename_i t x k l;split at h
  .rename_i fs hd;split at h
   .rename_i f hf;split at h<;>simp at h;rename_i hz;subst h;obtain⟨y,hy,h1⟩:=hv.one;simp only[bI,gz,jf,cL,and_true]at hy;subst hy;exact fin _ (anf hd hf hz.1 hz.2.1 hz.2.2 h1 w)
   .simp at h
  .simp at h
 .obtain⟨cx,cy,hx,h1,h2⟩:=hv.two;simp only[bI,gz,jf,cL,and_true]at hx;obtain⟨rfl,rfl⟩:=hx;exact fin _ (aoV h h1 h2 w)
 .obtain⟨cx,cy,hx,h1,h2⟩:=hv.two;simp only[bI,gz,jf,cL,and_true]at hx;obtain⟨rfl,rfl⟩:=hx;exact fin _ (aoW h h1 h2 w)
 .rename_i t x lo hi ax r;split at h
  .obtain⟨y,hy,h1⟩:=hv.one;simp only[bI,RM,jW,m7,gz,jf,cL,and_true]at hy;subst hy;exact fin _ (Q0 h h1 .none .none w)
  .obtain⟨y,z,hy,h1,h2⟩:=hv.two;simp only[bI,RM,m7,gz,jf,cL,and_true]at hy;obtain⟨rfl,rfl⟩:=hy;exact fin _ (Q0 h h1 (.some h2) .none w)
  .obtain⟨y,z,hy,h1,h2⟩:=hv.two;simp only[bI,RM,jW,m7,gz,jf,cL,and_true]at hy;obtain⟨rfl,rfl⟩:=hy;exact fin _ (Q0 h h1 .none (.some h2) w)
  .obtain⟨y,z,z',hy,h1,h2,h3⟩:=hv.three;simp only[bI,RM,lf,jW,m7,gz,jf,cL,and_true]at hy;obtain⟨rfl,rfl,rfl⟩:=hy;exact fin _ (Q0 h h1 (.some h2) (.some h3) w)
  .simp at h
 .obtain⟨y,z,z',z'',hy,h1,h2,h3,h4⟩:=hv.four;simp only[bI,RM,lf,jW,m7,gz,jf,cL,and_true]at hy;obtain⟨rfl,rfl,rfl,rfl⟩:=hy;exact fin _ (azV h h1 h2 h3 h4 w)
 .rename_i x k l;obtain⟨y,hy,h1⟩:=hv.one;simp only[bI,gz,jf,cL,and_true]at hy;subst hy;obtain⟨vs,h2,h3⟩:=(show∃vs:List Value,_/\_ from h1);obtain⟨vc,h4,h5⟩:=h3.get? k v h;refine fin _ ⟨vc,?_,h5.aBC⟩;simp[h2,Instr.extract,h4]
 .rename_i as ts x;split at h
  .rename_i t ht;obtain⟨y,hy,h1⟩:=hv.one;simp only[bI]at hy;obtain⟨vc,h2,h3⟩:=UT h ht h1 ty w;have has:as.map a.eval=#[y]:=by apply qK;simpa using hy
   refine⟨vc,?_,h3⟩;simp only[execOp,resolve,dg,fF,c9,invoke,builtin,has,h2]
  .simp at h
 .rename_i as ts;unfold PG at h;split at h
  .obtain⟨y,z,hy,h1,h2⟩:=hv.two;simp only[bI]at hy;obtain⟨vc,h3,h4⟩:=acM h h1 h2 w;have has:as.map a.eval=#[y,z]:=by apply qK;simpa using hy
   refine⟨vc,?_,h4⟩;simp only[dL,if_false]at h3;have H7:(Builtin.min_ ts ty #[y,z]).run P w=.ok vc w:=h3;simp only[execOp,resolve,dg,fF,c9,invoke,builtin,has,H7]
  .simp at h
 .rename_i as ts;unfold PG at h;split at h
  .obtain⟨y,z,hy,h1,h2⟩:=hv.two;simp only[bI]at hy;obtain⟨vc,h3,h4⟩:=acM h h1 h2 w;have has:as.map a.eval=#[y,z]:=by apply qK;simpa using hy
   refine⟨vc,?_,h4⟩;simp only[if_true]at h3;have H7:(Builtin.max_ ts ty #[y,z]).run P w=.ok vc w:=h3;simp only[execOp,resolve,dg,fF,c9,invoke,builtin,has,H7]
  .simp at h
 .simp at h
end Go.Am
namespace Go.Am
variable {P:Program}{ρ bg:Ro}
def ib(ρ bg:Ro):Prop:=∀i L,ρ i=some L->∃L',bg i=some L'/\(L'=L\/L.row<L'.row)
theorem ib.refl(ρ:Ro):ib ρ ρ:=λ_ L h=>⟨L,h,.inl rfl⟩
theorem ib.trans{a b c:Ro}(h:ib a b)(h':ib b c):ib a c:=by
 intro i L hL;obtain⟨L1,h1,h2⟩:=h i L hL;obtain⟨L2,h3,h4⟩:=h' i L1 h1;refine⟨L2,h3,?_⟩;rcases h2 with rfl|h2<;>rcases h4 with rfl|h4
 .exact .inl rfl
 .exact .inr h4
 .exact .inr h2
 .exact .inr ω
theorem kh.mono{id off aX:Nat}{v:Value}(h:kh ρ id off aX v)(hs:ib ρ bg):kh bg id off aX v:=by
 obtain⟨L,a,h1,rfl,h2,h3⟩:=h;obtain⟨L',h4,h5⟩:=hs id L h1;rcases h5 with rfl|h5
 .exact⟨L',a,h4,rfl,h2,h3⟩
 .exact⟨L',a,h4,rfl,ω,λe=>ω⟩
variable {s:Sc}
theorem b6.mono{v:Value}(h:b6 ρ s v)(hs:ib ρ bg):b6 bg s v:=by cases s with
 |p id off aX=>exact kh.mono h hs|sl id off aX len=>
 obtain⟨L,b,c,h1,rfl,hn,h2,h3,h6,h7⟩:=(show w5 ρ id off aX len v from h);obtain⟨L',h4,h5⟩:=hs id L h1;rcases h5 with rfl|h5
 .exact⟨L',b,c,h4,rfl,hn,h2,h3,h6,h7⟩
 .exact⟨L',b,c,h4,rfl,hn,h2,h3,ω,λe=>ω⟩|f fn cs=>obtain⟨cv,h1,h2⟩:=h;exact⟨cv,h1,h2.mono λ_ _ h=>kh.mono h hs⟩|mp id=>
 obtain⟨L,b,h1,h2,h3⟩:=h;obtain⟨L',h4,h5⟩:=hs id L h1;rcases h5 with rfl|h5
 .exact⟨L',b,h4,h2,h3⟩
 .exact⟨L',b,h4,h2,λe=>ω⟩|_=>exact h
variable {x:AV}
theorem V1.mono{v:Value}(h:V1 ρ x v)(hs:ib ρ bg):V1 bg x v:=by cases x with|c s=>exact b6.mono h hs|g l=>obtain⟨cs,h1,h2⟩:=h;exact⟨cs,h1,h2.mono λ_ _ h=>b6.mono h hs⟩|t l=>exact h
theorem aZ.mono{v:Value}(h:aZ ρ x v)(hs:ib ρ bg):aZ bg x v:=by cases x with|c s=>exact b6.mono h hs|g l=>obtain⟨cs,h1,h2⟩:=h;exact⟨cs,h1,h2.mono λ_ _ h=>b6.mono h hs⟩|t l=>obtain⟨cs,h1,h2⟩:=h;exact⟨cs,h1,h2.mono λ_ _ h=>V1.mono h hs⟩
theorem ajI{w w':World}{b:Nat}(h:w'.heap[b]?=w.heap[b]?)(o:Nat)(s:Option Nat):w'.cell? ⟨b,o,s⟩=w.cell? ⟨b,o,s⟩:=by simp[World.cell?,h]
variable {w w':World}{i:Nat}{o:ae}
theorem jZ.dj(h:jZ ρ w i o)(hs:ib ρ bg)(hi:bg i=ρ i)(hb:∀L,ρ i=some L->L.nil=false->o.live=true->w'.heap[L.dW]?=w.heap[L.dW]?)(hz:w.heap.size<=w'.heap.size):jZ bg w' i o:=by cases o with
 |own cs=>obtain⟨L,c,t,h1,h2,h3,h4,h5,h6,h7⟩:=h;exact⟨L,c,t,by rw[hi,h1],h2,h3,h4,h5,by rw[hb L h1 h4 rfl,h6],h7.mono λ_ _ h=>h.mono hs⟩|vec sz cs=>
   obtain⟨L,h1,h2,h3,h4,h5,h6⟩:=h;refine⟨L,by rw[hi,h1],h2,h3,h4,h5,?_⟩;split
   .rename_i hn;rw[if_pos hn]at h6;exact h6
   .rename_i hn;rw[if_neg hn]at h6;obtain⟨c,d,t,h7,h8,h9⟩:=h6;exact⟨c,d,t,by rw[hb L h1 (by simpa using hn) rfl,h7],h8,h9.mono λ_ _ h=>h.mono hs⟩|view cs=>
   obtain⟨L,h1,h2,h3,h4,h5,h6⟩:=h;refine⟨L,by rw[hi,h1],h2,h3,h4,λe=>Dv (h5 e) hz,λj s xC=>?_⟩;obtain⟨v,h7,h8⟩:=h6 j s xC;have hn:L.nil=false:=by cases hn:L.nil with|false=>rfl|true=>rw[h4 hn]at xC;simp at xC
   exact⟨v,by rw[ajI (hb L h1 hn rfl),h7],h8.mono hs⟩|map mL es=>obtain⟨L,uq,h1,h2,h3,h4,h5,h6,h7⟩:=h;exact⟨L,uq,by rw[hi,h1],h2,h3,h4,h5,by rw[hb L h1 h4 rfl,h6],h7.mono λ_ _ h=>⟨h.1,h.2.1.mono hs,h.2.2.mono hs⟩⟩|iter m since seen last=>obtain⟨L,b,h1,h2,h3,h4,h5,h6,h7⟩:=h;exact⟨L,b,by rw[hi,h1],h2,h3,h4,h5,b6.mono h6 hs,by rw[hb L h1 h4 rfl,h7]⟩|dead=>trivial
variable {L:Loc}
theorem jZ.ym(h:jZ ρ w i o)(hL:ρ i=some L)(hn:L.nil=false)(hl:o.live=true):L.dW<w.heap.size:=by cases o with
 |own cs=>
 obtain⟨L',c,t,h1,_,_,_,_,h6,_⟩:=h;obtain rfl:L=L':=by simpa[hL]using h1
 rcases cX L.dW w.heap.size with h|h
 .exact h
 .rw[rn h]at h6;simp at h6|vec sz cs=>
   obtain⟨L',h1,_,_,_,_,h6⟩:=h;obtain rfl:L=L':=by simpa[hL]using h1
   rw[if_neg (by rw[hn];decide)]at h6;obtain⟨c,d,t,h7,_⟩:=h6;rcases cX L.dW w.heap.size with h|h
   .exact h
   .rw[rn h]at h7;simp at h7|view cs=>
 obtain⟨L',h1,_,_,_,h5,_⟩:=h;obtain rfl:L=L':=by simpa[hL]using h1
 exact h5 hn|map mL es=>
 obtain⟨L',uq,h1,_,_,_,_,h6,_⟩:=h;obtain rfl:L=L':=by simpa[hL]using h1
 rcases cX L.dW w.heap.size with h|h
 .exact h
 .rw[rn h]at h6;simp at h6|iter m since seen last=>
 obtain⟨L',b,h1,_,_,_,_,_,h6⟩:=h;obtain rfl:L=L':=by simpa[hL]using h1
 rcases cX L.dW w.heap.size with h|h
 .exact h
 .rw[rn h]at h6;simp at h6|dead=>simp[ae.live]at hl
structure HR(ρ:Ro)(w:World)(H:AH):Prop where
 obj:∀i,jZ ρ w i (hg H i)sep:∀i j Li Lj,i≠j->(hg H i).owned=true->ρ i=some Li->Li.nil=false->(hg H j).live=true->ρ j=some Lj->Lj.nil=false->Li.dW≠Lj.dW
 fresh:∀i,H.length<=i->ρ i=none
structure ij(w0:World)(M:Nat->Prop)(w:World):Prop where
 os:w.os=w0.os
 tape:w.tape=w0.tape
 output:w.output=w0.output
 size:w0.heap.size<=w.heap.size
 jT:∀b,b<w0.heap.size->¬M b->w.heap[b]?=w0.heap[b]?
 free:∀(b:Nat)c t f,w.heap[b]?=some (.cells c t f)->(w0.heap.size<=b\/M b)->f=(0,0)
theorem ae.ou{o:ae}(h:o.owned=true):o.live=true:=by cases o<;>simp_all[ae.owned,ae.live]
theorem qO(H:AH)(o:ae)(i:Nat):hg (H++[o]) i=if i=H.length then o else hg H i:=by
 unfold hg;simp only[bX];split
 .subst_vars;simp
 .rename_i h;rcases cX i H.length with h'|h'
  .rw[uh h']
  .rw[kf (by simp;omega),kf h']
theorem ur(H:AH)(h:H.length<=i):hg H i=.dead:=by unfold hg;rw[bX,kf h];rfl
theorem qP(H:AH)(n:Nat)(o:ae)(i:Nat)(_:n<H.length):hg (H.set n o) i=if i=n then o else hg H i:=by
 unfold hg;simp only[bX,rq];split
 .subst_vars;rw[if_pos rfl];simp
 .rename_i h;rw[if_neg (λe=>h e.symm)]
variable {H:AH}
theorem eu(h:(hg H i).live=true):i<H.length:=by
 rcases cX i H.length with h'|h'
 .exact h'
 .rw[ur H h']at h;simp[ae.live]at h
def iB(ρ:Ro)(n:Nat)(L:Loc):Ro:=λi=>if i=n then some L else ρ i
theorem iZ(ρ:Ro)(n:Nat)(L:Loc):iB ρ n L n=some L:=by simp[iB]
variable {n:Nat}
theorem fN(ρ:Ro)(L:Loc)(h:i≠n):iB ρ n L i=ρ i:=by simp[iB,h]
theorem A3(w:World)(o:Obj)(b:Nat)(h:b<w.heap.size):(w.alloc o).heap[b]?=w.heap[b]?:=by show(w.heap.push o)[b]?=_;rw[Array.getElem?_push,if_neg ω]
theorem Cl(w:World)(o:Obj):(w.alloc o).heap[w.heap.size]?=some o:=by show(w.heap.push o)[w.heap.size]?=_;simp
variable {l:List Sc}{c:List Value}
theorem HR.alloc(h:HR ρ w H)(hl:L2 (b6 ρ) l c)(t:Nat)(o:ae)(L:Loc)(hb:L.dW=w.heap.size)(jx:L.off=0)(fh:L.nil=false)(nF:L.row=o.row)(ho:(o=.own l/\L.vec=false)\/(∃sz,o=.vec sz l/\L.vec=true/\0<sz/\L.cap*sz=c.length)):HR (iB ρ H.length L) (w.alloc (.cells c.toArray t)) (H++[o])/\ib ρ (iB ρ H.length L):=by
 have ew:ib ρ (iB ρ H.length L):=by
  intro i Li hi;have:i≠H.length:=by rintro rfl;rw[h.fresh _ (aB _)]at hi;simp at hi
  exact⟨Li,by rw[fN _ _ this,hi],.inl rfl⟩
 have FW:L2 (b6 (iB ρ H.length L)) l c:=hl.mono λ_ _ h=>h.mono ew;refine⟨⟨?_,?_,?_⟩,ew⟩
 .intro i;rw[qO];split
  .subst_vars;rcases ho with⟨rfl,hv⟩|⟨sz,rfl,hv,cO,sB⟩
   .exact⟨L,c,t,iZ _ _ _,jx,nF,fh,hv,by rw[hb];exact Cl _ _,FW⟩
   .refine⟨L,iZ _ _ _,jx,nF,hv,cO,?_⟩;rw[if_neg (by simp[fh])];exact⟨c,[],t,by rw[hb];simpa using Cl w _,by simpa using sB,FW⟩
  .rename_i cZ;refine(h.obj i).dj ew (fN _ _ cZ) (λLi hi hn FX=>?_) (by simp);exact A3 _ _ _ ((h.obj i).ym hi hn FX)
 .intro i j Li Lj pI cV cF iH fz iF pJ;rw[qO]at cV fz;by_cases h1:i=H.length
  .subst h1;rw[iZ]at cF;simp at cF;subst cF;have h2:j≠H.length:=λe=>pI e.symm;rw[if_neg h2]at fz;rw[fN _ _ h2]at iF;have:=(h.obj j).ym iF pJ fz;omega
  .rw[if_neg h1]at cV;rw[fN _ _ h1]at cF;by_cases h2:j=H.length
   .subst h2;rw[iZ]at iF;simp at iF;subst iF;have:=(h.obj i).ym cF iH (ae.ou cV);omega
   .rw[if_neg h2]at fz;rw[fN _ _ h2]at iF;exact h.sep i j Li Lj pI cV cF iH fz iF pJ
 .intro i hi;simp at hi;rw[fN _ _ ω];exact h.fresh i ω
variable {w0:World}{M:Nat->Prop}
theorem ij.aCF(h:ij w0 M w)(es:Array MapEntry)(mL:Nat):ij w0 M (w.alloc (.map es mL)):=by
 refine⟨h.os,h.tape,h.output,by simp;have:=h.size;omega,λb hb hm=>?_,λb c' t' f hf hm=>?_⟩
 .rw[A3 _ _ _ (Dv hb h.size)];exact h.jT b hb hm
 .by_cases e:b=w.heap.size
  .subst e;rw[Cl]at hf;simp at hf
  .rcases cX b w.heap.size with h'|h'
   .rw[A3 _ _ _ h']at hf;exact h.free b c' t' f hf hm
   .rw[rn (by simp;omega)]at hf;simp at hf
theorem ij.alloc(h:ij w0 M w)(c:Array Value)(t:Nat):ij w0 M (w.alloc (.cells c t)):=by
 refine⟨h.os,h.tape,h.output,by simp;have:=h.size;omega,λb hb hm=>?_,λb c' t' f hf hm=>?_⟩
 .rw[A3 _ _ _ (Dv hb h.size)];exact h.jT b hb hm
 .by_cases e:b=w.heap.size
  .subst e;rw[Cl]at hf;simp at hf;exact hf.2.2.symm
  .rcases cX b w.heap.size with h'|h'
   .rw[A3 _ _ _ h']at hf;exact h.free b c' t' f hf hm
   .rw[rn (by simp;omega)]at hf;simp at hf
structure Dz(w w':World)(b:Nat)(o:Obj):Prop where
 os:w'.os=w.os
 tape:w'.tape=w.tape
 output:w'.output=w.output
 size:w'.heap.size=w.heap.size
 this:w'.heap[b]?=some o
 other:∀k,k≠b->w'.heap[k]?=w.heap[k]?
variable {t:Nat}
theorem ij.afO{b:Nat}{c:Array Value}(h:ij w0 M w)(hs:Dz w w' b (.cells c t (0,0)))(hm:M b\/w0.heap.size<=b):ij w0 M w':=by
 refine⟨hs.os.trans h.os,hs.tape.trans h.tape,hs.output.trans h.output,by rw[hs.size];exact h.size,λk hk hn=>?_,λk c' t' f hf hk=>?_⟩
 .have:k≠b:=by
   rintro rfl;rcases hm with hm|hm
   .exact hn hm
   .omega
  rw[hs.other k this];exact h.jT k hk hn
 .by_cases e:k=b
  .subst e;rw[hs.this]at hf;simp at hf;exact hf.2.2.symm
  .rw[hs.other k e]at hf;exact h.free k c' t' f hf hk
theorem ij.Ni{b mL:Nat}{es:Array MapEntry}(h:ij w0 M w)(hs:Dz w w' b (.map es mL))(hm:M b\/w0.heap.size<=b):ij w0 M w':=by
 refine⟨hs.os.trans h.os,hs.tape.trans h.tape,hs.output.trans h.output,by rw[hs.size];exact h.size,λk hk hn=>?_,λk c' t' f hf hk=>?_⟩
 .have:k≠b:=by
   rintro rfl;rcases hm with hm|hm
   .exact hn hm
   .omega
  rw[hs.other k this];exact h.jT k hk hn
 .by_cases e:k=b
  .subst e;rw[hs.this]at hf;simp at hf
  .rw[hs.other k e]at hf;exact h.free k c' t' f hf hk
theorem ij.QR{b b' c0:Nat}{a:Option Nat}{sn:Array Nat}(h:ij w0 M w)(hs:Dz w w' b (.mapIter a b' sn c0))(hm:M b\/w0.heap.size<=b):ij w0 M w':=by
 refine⟨hs.os.trans h.os,hs.tape.trans h.tape,hs.output.trans h.output,by rw[hs.size];exact h.size,λk hk hn=>?_,λk c' t' f hf hk=>?_⟩
 .have:k≠b:=by
   rintro rfl;rcases hm with hm|hm
   .exact hn hm
   .omega
  rw[hs.other k this];exact h.jT k hk hn
 .by_cases e:k=b
  .subst e;rw[hs.this]at hf;simp at hf
  .rw[hs.other k e]at hf;exact h.free k c' t' f hf hk
theorem WL(t b:Nat):∀(vs:List Value)(w:World)(c:List Value)(i off:Nat),w.heap[b]?=some (.cells c.toArray t (0,0))->(∀v∈vs,v.oneCell'=true)->off+i+vs.length<=c.length->∃w',(storeCells ⟨b,off,none⟩ vs i).run P w=.ok () w'/\Dz w w' b (.cells (c.take (off+i)++vs++c.drop (off+i+vs.length)).toArray t (0,0)):=by intro vs;induction vs with|nil=>intro w c i off hw _ _;exact⟨w,by simp[storeCells],rfl,rfl,rfl,rfl,by simpa using hw,λ_ _=>rfl⟩|cons v vs ih=>
   intro w c i off hw oR hlen;simp only[cT]at hlen;have aG:off+i<c.length:=ω
   have Ia:w.cell? ⟨b,off+i,none⟩=some c[off+i]:=by simp[World.cell?,hw,aG]
   have hfz:w.frozen? ⟨b,off+i,none⟩=false:=by simp[World.frozen?,hw]
   have hw1:(w.setCell ⟨b,off+i,none⟩ v).heap[b]?=some (.cells (c.set (off+i) v).toArray t (0,0)):=by simp[World.setCell,Array.getElem?_modify,hw]
   obtain⟨w',h1,h2⟩:=ih (w.setCell ⟨b,off+i,none⟩ v) (c.set (off+i) v) (i+1) off hw1 (λu hu=>oR u (by simp[hu])) (by simp;omega);refine⟨w',?_,h2.os,h2.tape,h2.output,by rw[h2.size];simp,?_,λk hk=>?_⟩
   .simp only[storeCells,dg,Addr.Cj,run_store P w _ v _ (oR v (by simp)),Ia,hfz,dL,if_false,c9,h1]
   .rw[h2.this];have e2:(c.set (off+i) v).take (off+(i+1))=c.take (off+i)++[v]:=by rw[show off+(i+1)=off+i+1 by omega,Hp (by simpa using aG)];simp only[List.take_set,List.getElem_set_self];rw[List.set_eq_of_length_le (by simp;omega)]
    have e3:(c.set (off+i) v).drop (off+(i+1)+vs.length)=c.drop (off+i+(vs.length+1)):=by rw[List.drop_set_of_lt ω];congr 1;omega
    rw[e2,e3];simp
   .rw[h2.other k hk];simp only[World.setCell,Array.getElem?_modify];rw[if_neg (λe=>hk e.symm)]
end Go.Am
namespace Go.Am
variable {P:Program}{ρ:Ro}
def jH(P:Program)(op:Op)(vs:List AV)(H:AH):Option (AV×AH):=match op,vs with
 |.alloc t,[]=>match zT P t with|some z=>some (.c (.p H.length 0 0),H++[.own z])|none=>none
 |.box _ _,[x]=>match x.cells with|some l=>some (.c (.p H.length 0 0),H++[.own l])|none=>none
 |.buildSlice t len ps,vs=>match dT P t with
   |.sl e=>match zT P e with|some z=>if 0<av P e/\0<len/\len*av P e<=16777216/\z.length=av P e then match vW (λi=>some (i*av P e,av P e)) (bD len z).flatten ((ps.toList.map (·.1)).zip vs)with|some cs=>some (.c (.sl H.length 0 cs.length len),H++[.vec (av P e) cs])|none=>none else if 0<av P e/\len=0/\ps.size=0 then some (.c (.sl H.length 0 0 0),H++[.vec (av P e) []])else none|none=>none
   |_=>none
 |.makeSlice t _ _,[.c (.i l),.c (.i c)]=>match dT P t with
   |.sl e=>match zT P e with|some z=>if l=c/\0<=l/\l<=1048576/\0<av P e/\mr P e<=1048576/\z.length=av P e then some (.c (.sl H.length 0 (l.toNat*av P e) l.toNat),H++[.vec (av P e) (bD l.toNat z).flatten])else none|none=>none
   |_=>none
 |.store t _ _,[.c (.p id off aX),x]=>match x.cells with|some l=>if(hg H id).owned=true/\aX=(hg H id).row/\l.length=av P t/\0<av P t/\off+l.length<=(hg H id).cells.length/\l.all Sc.one=true then some (.c .ig,H.set id ((hg H id).put (wr (hg H id).cells off l)))else none|none=>none
 |_,_=>none
structure jl(ρ:Ro)(w:World)(H:AH)(w':World)(bg:Ro)(H':AH):Prop where
 hr:HR bg w' H'
 st:ib ρ bg
 kp:∀w0 M,ij w0 M w->(∀i L,(hg H i).owned=true->ρ i=some L->L.nil=false->(M L.dW\/w0.heap.size<=L.dW))->ij w0 M w'/\(∀i L,(hg H' i).owned=true->bg i=some L->L.nil=false->(M L.dW\/w0.heap.size<=L.dW))len:H.length<=H'.length
 mv:∀i L,(hg H i).owned=false->ρ i=some L->bg i=some L
variable {w:World}{H:AH}{l:List Sc}{c:List Value}
theorem jl.alloc(h:HR ρ w H)(hl:L2 (b6 ρ) l c)(t:Nat)(o:ae)(L:Loc)(hb:L.dW=w.heap.size)(jx:L.off=0)(fh:L.nil=false)(nF:L.row=o.row)(ho:(o=.own l/\L.vec=false)\/(∃sz,o=.vec sz l/\L.vec=true/\0<sz/\L.cap*sz=c.length)):jl ρ w H (w.alloc (.cells c.toArray t)) (iB ρ H.length L) (H++[o]):=by
 obtain⟨h1,h2⟩:=h.alloc hl t o L hb jx fh nF ho;refine⟨h1,h2,λw0 M hk hm=>⟨hk.alloc _ _,λi Li cV cF iH=>?_⟩,by simp,λi Li _ cF=>?_⟩
 .by_cases e:i=H.length
  .subst e;rw[iZ]at cF;simp at cF;subst cF;exact .inr (by rw[hb];exact hk.size)
  .rw[fN _ _ e]at cF;rw[qO,if_neg e]at cV;exact hm i Li cV cF iH
 .have:i≠H.length:=by rintro rfl;rw[h.fresh _ (aB _)]at cF;simp at cF
  rw[fN _ _ this,cF]
def NG(P:Program)(ρ:Ro)(H:AH)(w:World)(s:Sem Next)(v:AV)(H':AH):Prop:=∃w' bg,jl ρ w H w' bg H'/\((∃vc,s.run P w=.ok (.value vc) w'/\aZ bg v vc)\/(s.run P w=.ok .skip w'/\v=.c .ig))
theorem adU(h:HR ρ w H)(hl:L2 (b6 ρ) l c)(t:Nat):jl ρ w H (w.alloc (.cells c.toArray t)) (iB ρ H.length ⟨w.heap.size,0,0,0,false,false⟩) (H++[.own l])/\aZ (iB ρ H.length ⟨w.heap.size,0,0,0,false,false⟩) (.c (.p H.length 0 0)) (.pointer (some ⟨w.heap.size,0,none⟩)):=⟨jl.alloc h hl t _ _ rfl rfl rfl rfl (.inl ⟨rfl,rfl⟩),⟨_,_,iZ _ _ _,rfl,aB _,λ_=>⟨rfl,by simp,rfl⟩⟩⟩
theorem YN(h:HR ρ w H)(hl:L2 (b6 ρ) l c)(t sz n:Nat)(cO:0<sz)(hn:n*sz=c.length)(FZ:n<=9223372036854775807):jl ρ w H (w.alloc (.cells c.toArray t)) (iB ρ H.length ⟨w.heap.size,0,n,l.length,false,true⟩) (H++[.vec sz l])/\aZ (iB ρ H.length ⟨w.heap.size,0,n,l.length,false,true⟩) (.c (.sl H.length 0 l.length n)) (.slice (some ⟨w.heap.size,0,none⟩) n n):=by refine⟨jl.alloc h hl t _ _ rfl rfl rfl rfl (.inr ⟨sz,rfl,rfl,cO,hn⟩),_,_,_,iZ _ _ _,rfl,by simp,aB _,FZ,aB _,λ_=>?_⟩;rw[if_neg (by simp)];refine⟨_,rfl,λ_=>rfl,λ_ _=>aB _,λh0 _=>?_⟩;show 0<l.length;rw[hl.length,<-hn];exact Cf h0 cO
theorem Ml{z:List Value}(n sz:Nat)(hz:z.length=sz):(Array.range (n*sz)).map (λx=>z.toArray[x%z.toArray.size]!)=(bD n z).flatten.toArray:=by apply qK;simp only[Rz,Array.toList_range,List.size_toArray];induction n with|zero=>simp|succ n ih=>
   have e1:(n+1)*sz=n*sz+sz:=by rw[vI,Cg]
   rw[e1,List.range_add,List.map_append,ih,List.replicate_succ',List.flatten_append];congr 1;simp only[List.map_map,Ce,List.flatten_nil,m7];apply List.ext_getElem (by simp[hz]);intro i h1 h2;simp at h1;have:(n*sz+i)%z.length=i:=by rw[hz,Nat.mul_comm,Nat.mul_add_mod];exact Nat.mod_eq_of_lt h1
   simp[this,h2]
theorem L2.rep{α β:Type}{R:α->β->Prop}{l:List α}{m:List β}(h:L2 R l m)(n:Nat):L2 R (bD n l).flatten (bD n m).flatten:=by induction n with|zero=>exact .nil|succ n ih=>simp only[yc,Ce];exact h.app ih
theorem abl(place:Nat->Option (Nat×Nat)):∀(ps:List (Nat×AV))(z r:List Sc),vW place z ps=some r->r.length=z.length:=by intro ps;induction ps with|nil=>intro z r h;simp[vW]at h;rw[h]|cons p ps ih=>
   intro z r h;obtain⟨i,v⟩:=p;simp only[vW]at h;split at h
   .split at h
    .rename_i hc;rw[ih _ _ h];simp[wr];omega
    .simp at h
   .simp at h
variable {w':World}
theorem HR.set(h:HR ρ w H){id:Nat}{L:Loc}{ob:Obj}{o':ae}(dt:(hg H id).owned=true)(hL:ρ id=some L)(fh:L.nil=false)(hs:Dz w w' L.dW ob)(kv:jZ ρ w' id o'):HR ρ w' (H.set id o'):=by
 have iO:=eu (ae.ou dt);refine⟨λi=>?_,λi j Li Lj pI cV cF iH fz iF pJ=>?_,λi hi=>h.fresh i (by simpa using hi)⟩
 .rw[qP _ _ _ _ iO];split
  .subst_vars;exact kv
  .rename_i cZ;refine(h.obj i).dj (ib.refl ρ) rfl (λLi hi hn hl=>?_) (by rw[hs.size];omega);exact hs.other _ (λe=>h.sep id i L Li (λe=>cZ e.symm) dt hL fh hl hi hn e.symm)
 .have T8:(hg H i).owned=true:=by
   rw[qP _ _ _ _ iO]at cV;split at cV
   .subst_vars;exact dt
   .exact cV
  have T9:(hg H j).live=true:=by
   rw[qP _ _ _ _ iO]at fz;split at fz
   .subst_vars;exact ae.ou dt
   .exact fz
  exact h.sep i j Li Lj pI T8 cF iH T9 iF pJ
theorem jl.set{H:AH}(h:HR ρ w H){id:Nat}{L:Loc}{c:Array Value}{t:Nat}{o':ae}(dt:(hg H id).owned=true)(hL:ρ id=some L)(fh:L.nil=false)(hs:Dz w w' L.dW (.cells c t (0,0)))(kv:jZ ρ w' id o'):jl ρ w H w' ρ (H.set id o'):=by
 have iO:=eu (ae.ou dt);refine⟨h.set dt hL fh hs kv,ib.refl ρ,λw0 M hk hm=>⟨hk.afO hs (hm id L dt hL fh),λi Li cV cF iH=>?_⟩,by simp,λ_ _ _ h=>h⟩;rw[qP _ _ _ _ iO]at cV;split at cV
 .subst_vars;exact hm _ _ dt cF iH
 .exact hm _ _ cV cF iH
theorem VR(h:L2 (b6 ρ) l c)(ho:l.all Sc.one=true):∀v∈c,v.oneCell'=true:=by induction h with|nil=>simp|@cons s v l c hs _ ih=>
   simp only[List.all_cons,Bool.and_eq_true]at ho;intro u hu;rcases uT.1 hu with rfl|hu
   .exact(b6.one hs (by rintro rfl;simp[Sc.one]at ho) (by rintro rfl;simp[Sc.one]at ho)).1
   .exact ih ho.2 u hu
theorem agE{cs:List Sc}{v:List Value}(h:L2 (b6 ρ) cs c)(hl:L2 (b6 ρ) l v)(off:Nat):L2 (b6 ρ) (wr cs off l) (c.take off++v++c.drop (off+v.length)):=by unfold wr;rw[<-hl.length];exact((h.take off).app hl).app (h.drop _)
theorem Q6{w:World}{H:AH}(hH:HR ρ w H){id off:Nat}{L:Loc}{l:List Sc}{cs:List Value}(dt:(hg H id).owned=true)(hL:ρ id=some L)(fh:L.nil=false)(hl:L2 (b6 ρ) l cs)(jx:off+l.length<=(hg H id).cells.length)(oR:l.all Sc.one=true)(uz:0<l.length):∃w',(storeCells ⟨L.dW,L.off+off,none⟩ cs).run P w=.ok () w'/\jl ρ w H w' ρ (H.set id ((hg H id).put (wr (hg H id).cells off l))):=by have hO:=hH.obj id;have Ic:=hl.length;cases hh:hg H id with
 |own os=>
   rw[hh]at hO jx dt;obtain⟨L',c,t,h1,h2,h3,h4,h5,h6,h7⟩:=hO;obtain rfl:L=L':=by simpa[hL]using h1
   have qh:=h7.length;simp only[ae.cells]at jx;obtain⟨w',h8,h9⟩:=WL (P:=P) t L.dW cs w c 0 off h6 (VR hl oR) ω;rw[h2,oF];refine⟨w',h8,jl.set hH (by rw[hh];rfl) hL fh h9 ?_⟩;exact⟨L,_,t,hL,h2,h3,h4,h5,h9.this,by simpa[ae.cells]using agE h7 hl off⟩|vec sz os=>
   rw[hh]at hO jx dt;obtain⟨L',h1,h2,h3,h4,h5,h6⟩:=hO;obtain rfl:L=L':=by simpa[hL]using h1
   rw[if_neg (by rw[fh];simp)]at h6;obtain⟨c,d,t,h6,sB,h7⟩:=h6;have qh:=h7.length;simp only[ae.cells]at jx;obtain⟨w',h8,h9⟩:=WL (P:=P) t L.dW cs w (c++d) 0 off h6 (VR hl oR) (by simp;omega);rw[h2,oF];refine⟨w',h8,jl.set hH (by rw[hh];rfl) hL fh h9 ?_⟩;have e:(c++d).take (off+0)++cs++(c++d).drop (off+0+cs.length)=(c.take off++cs++c.drop (off+cs.length))++d:=by rw[Dr ω,List.drop_append_of_le_length ω];simp
   rw[e]at h9;refine⟨L,hL,h2,?_,h4,h5,?_⟩
   .rw[h3];simp[wr,ae.cells];omega
   .rw[if_neg (by rw[fh];simp)];exact⟨_,d,t,h9.this,by rw[sB];simp;omega,agE h7 hl off⟩|view os=>rw[hh]at dt;simp[ae.owned]at dt|map mL es=>rw[hh]at jx;simp only[ae.cells,fa]at jx;omega|iter m since seen last=>rw[hh]at jx;simp only[ae.cells,fa]at jx;omega|dead=>rw[hh]at dt;simp[ae.owned]at dt
theorem agP{a:Act}(ps:Array (Nat×Operand)){vs:List AV}(hv:L2 (aZ ρ) vs ((ps.toList.map (·.2)).map a.eval)):L2 (λ(x:Nat×AV)(y:Nat×Value)=>x.1=y.1/\aZ ρ x.2 y.2) ((ps.toList.map (·.1)).zip vs) ((ps.map λp=>(p.1,a.eval p.2)).toList):=by have:=agQ (ρ:=ρ) (a:=a) ps.toList vs (by simpa[Function.comp_def]using hv);simpa using this
theorem amt{o:Oper}{a:Act}{H H':AH}{vs:List AV}{v:AV}{w:World}(h:jH P o.op vs H=some (v,H'))(hv:L2 (aZ ρ) vs ((bI o.op).map a.eval))(hH:HR ρ w H):NG P ρ H w (execOp a.eval o) v H':=by
 obtain⟨dst,op,ty,pos,after,guard⟩:=o;simp only at h hv;have fin:∀(s:Sem Value),(∃w' bg vc,jl ρ w H w' bg H'/\s.run P w=.ok vc w'/\aZ bg v vc)->NG P ρ H w (do pure (.value (<-s)):Sem Next) v H':=by rintro s⟨w',bg,vc,h1,h2,h3⟩;exact⟨w',bg,h1,.inl ⟨vc,by simp[h2],h3⟩⟩
 unfold jH at h;split at h
 .rename_i t;split at h<;>simp at h;rename_i z hz;obtain⟨rfl,rfl⟩:=h;obtain⟨zv,zc,h1,h2,h3⟩:=Cb (ρ:=ρ) hz w;obtain⟨h4,h5⟩:=adU hH h3 t;refine fin _ ⟨_,_,_,h4,?_,h5⟩;simp only[Instr.alloc,dg,h1,c9,newVar,newRow,h2,run_newObj,fF];rfl
 .rename_i t x ax;split at h<;>simp at h;rename_i l hc;obtain⟨rfl,rfl⟩:=h;obtain⟨y,hy,h1⟩:=hv.one;simp only[bI,gz,jf,cL,and_true]at hy;subst hy;obtain⟨cs,h2,h3,_⟩:=h1.cells hc;obtain⟨h4,h5⟩:=adU hH h3 t;refine fin _ ⟨_,_,_,h4,?_,h5⟩;simp only[Instr.box,newVar,newRow,h2,dg,run_newObj,c9,fF];rfl
 .rename_i t len ps;split at h<;>try(simp at h;done)
  rename_i e hd;have hu:=mY hd;split at h<;>try(simp at h;done)
  rename_i z hz;split at h
  .rename_i hc;obtain⟨cO,hl,CD,qS⟩:=hc;split at h<;>simp at h;rename_i cs hf;obtain⟨rfl,rfl⟩:=h;obtain⟨zv,zc,h1,h2,h3⟩:=Cb (ρ:=ρ) hz w;obtain⟨rc,h4,h5⟩:=Oz _ _ _ (agP ps hv) _ _ _ (h3.rep len) hf;have hlen:len*av P e=rc.length:=by rw[<-h5.length,abl _ _ _ _ hf];simp[qS]
   obtain⟨h6,h7⟩:=YN hH h5 e (av P e) len cO hlen (by have:len<=len*av P e:=Zb _ cO;omega);refine fin _ ⟨_,_,_,h6,?_,h7⟩;have uA:zc.length=av P e:=by rw[<-h3.length,qS]
   have cZ:¬len*av P e=0:=by have:=Cf hl cO;omega
   have Ud:¬len*av P e>2^24:=ω
   simp only[Instr.buildSlice,dg,run_underlying hu,c9,mW cO,Ud,if_false,cZ,fF,h1,h2,Ml len _ uA];simp only[Rz]at h4|-;rw[h4];simp only[newRow,dg,run_newObj,c9,fF];rfl
  .split at h<;>simp at h;rename_i hc;obtain⟨cO,rfl,sF⟩:=hc;obtain⟨rfl,rfl⟩:=h;obtain rfl:ps=#[]:=Array.eq_empty_of_size_eq_zero sF;obtain⟨h6,h7⟩:=YN hH (l:=[]) (c:=[]) .nil e (av P e) 0 cO (by simp) ω;refine fin _ ⟨_,_,_,h6,?_,h7⟩;have e0:Array.range 0=#[]:=by apply qK;simp
   simp[Instr.buildSlice,run_underlying hu,mW cO,Instr.fill,newRow,e0]
 .rename_i t x y l c;split at h<;>try(simp at h;done)
  rename_i e hd;have hu:=mY hd;split at h<;>try(simp at h;done)
  rename_i z hz;split at h<;>simp at h;rename_i hc;obtain⟨rfl,h0,CD,cO,yB,qS⟩:=hc;obtain⟨rfl,rfl⟩:=h;obtain⟨cx,cy,hx,h1,h2⟩:=hv.two;simp only[bI,gz,jf,cL,and_true]at hx;obtain⟨rfl,rfl⟩:=hx;obtain⟨h1,_⟩:=h1;obtain⟨h2,_⟩:=h2;obtain⟨zv,zc,h3,h4,h5⟩:=Cb (ρ:=ρ) hz w;obtain⟨i,hi,Bo⟩:=Lx cO;have uA:zc.length=av P e:=by rw[<-h5.length,qS]
  have Ic:l.toNat*av P e=((bD l.toNat z).flatten).length:=by simp[qS]
  have h8:=YN hH (h5.rep l.toNat) e (av P e) l.toNat cO (by simp[uA]) ω;rw[<-Ic]at h8;obtain⟨h6,h7⟩:=h8;refine fin _ ⟨_,_,_,h6,?_,h7⟩;have hw:IntKind.i64.wrap l=l:=JR ω ω;have TQ:mr P e=i.bytes:=by simp[mr,hi]
  have hb:¬((i.bytes:Int)*l>2^48):=by rw[<-TQ];have:(mr P e:Int)*l<=1048576*1048576:=Int.mul_le_mul ω CD h0 ω;omega
  have hn:¬l<0:=ω
  have FZ:¬l>l:=ω
  have rJ:decide ((i.bytes:Int)*l>2^48)=false:=decide_eq_false hb;simp only[Instr.makeSlice,dg,run_underlying hu,c9,h1,h2,asInt,asIntOf,fF,typeInfo,run_program,hi,hw,rJ,Bool.false_or,hn,FZ,decide_false,Bool.or_self,dL,if_false,run_askRoom,mW cO];by_cases CL:l.toNat*av P e=0
  .simp only[CL,if_true,fF,c9,newRow,dg,run_newObj];have e1:(bD l.toNat zc).flatten=[]:=vG (by simp[uA,CL]);have e0:Array.range 0=#[]:=by apply qK;simp
   rw[e1,e0];simp
  .simp only[CL,if_false,dg,fF,h3,c9,h4,Ml _ _ uA,newRow,run_newObj];rfl
 .rename_i t x y id off aX ax;split at h<;>try(simp at h;done)
  rename_i l hl;split at h<;>simp at h;rename_i hc;obtain⟨dt,By,hlen,cO,jx,oR⟩:=hc;obtain⟨rfl,rfl⟩:=h;obtain⟨cx,cy,hx,h1,h2⟩:=hv.two;simp only[bI,gz,jf,cL,and_true]at hx;obtain⟨rfl,rfl⟩:=hx;obtain⟨cs,h3,h4,_⟩:=h2.cells hl;obtain⟨L,ad,h5,h6,h7,h8⟩:=(show kh ρ id off aX _ from h1);have nF:=(hH.obj id).row h5 (ae.ou dt);obtain⟨fh,_,rfl⟩:=h8 (by rw[nF];exact By);obtain⟨w',h9,pH⟩:=Q6 (P:=P) hH dt h5 fh h4 jx oR ω;refine⟨w',ρ,pH,.inr ⟨?_,rfl⟩⟩;have cu:cs.toArray.size=av P t:=by simp[<-h4.length,hlen]
  simp only[execOp,dg,Instr.storeAt,h6,Instr.sureAddr,fF,c9,storeVar,mW cO,h3,cu,ne_eq,not_true_eq_false,if_false,h9]
 .simp at h
end Go.Am
namespace Go.Am
variable {P:Program}{ρ:Ro}
variable {w:World}{i off n:Nat}{o:ae}{L:Loc}
theorem aaj(ho:jZ ρ w i o)(hL:ρ i=some L)(hlen:off+n<=o.cells.length):∃vs:List Value,vs.length=n/\L2 (b6 ρ) ((o.cells.drop off).take n) vs/\∀w':World,(∀j,w'.cell? ⟨L.dW,j,none⟩=w.cell? ⟨L.dW,j,none⟩)->(loadCells ⟨L.dW,L.off+off,none⟩ n).run P w'=.ok vs.toArray w':=by
 have Ia:=λ(j:Nat)(s:Sc)(hs:o.cells[j]?=some s)=>ho.cell hL hs;have key:∀(l:List Sc)(p:Nat),(∀j s,l[j]?=some s->o.cells[p+j]?=some s)->∃vs:List Value,L2 (b6 ρ) l vs/\∀j v,vs[j]?=some v->w.cell? ⟨L.dW,L.off+(p+j),none⟩=some v:=by intro l;induction l with|nil=>intro p _;exact⟨[],.nil,by simp⟩|cons s l ih=>intro p h;obtain⟨v,hv,hr⟩:=Ia p s (by simpa using h 0 s (by simp));obtain⟨vs,h1,h2⟩:=ih (p+1) (λj s' rN=>by have:=h (j+1) s' (by simpa using rN);rwa[show p+1+j=p+(j+1)by omega]);refine⟨v::vs,.cons hr h1,λj u hu=>?_⟩;cases j with|zero=>simp at hu;subst hu;exact hv|succ j=>have:=h2 j u (by simpa using hu);rwa[show p+(j+1)=p+1+j by omega]
 obtain⟨vs,h1,h2⟩:=key ((o.cells.drop off).take n) off (λj s hs=>aa3 _ _ _ _ _ hs);have hl:vs.length=n:=by rw[<-h1.length];simp;omega
 refine⟨vs,hl,h1,λw' Ip=>?_⟩;simp only[loadCells];rw[<-hl,run_loadCellsFrom w' _ vs 0 #[] (λj v hv=>by rw[Addr.Cj,oF,m9,Ip];exact h2 j v hv)];simp
theorem aoh(Gl:Nat):∀(r c:Nat),Builtin.growBy Gl r c<=max c (2*Gl+1000):=by intro r;induction r with|zero=>intro c;simp only[Builtin.growBy];omega|succ r ih=>
   intro c;simp only[Builtin.growBy];split
   .omega
   .have:=ih (c+(c+768)/4);omega
theorem arc(Gl cap:Nat)(h:cap<Gl):Builtin.nextslicecap Gl cap<=2*Gl+1000:=by
 unfold Builtin.nextslicecap;split
 .omega
 .split
  .omega
  .have:=aoh Gl 4 cap;omega
def Ff(P:Program)(ts:Array TypeId)(vs:List AV)(H:AH):Option (AV×AH):=match ts[0]?,ts[1]? with
 |some t0,some t1=>match dT P t0,dT P t1,vs with
   |.sl e,.sl _,[x,y]=>match G1 H (av P e) y,zT P e with|some (new,n),some z=>if 0<av P e/\0<mr P e/\mr P e<=1048576/\z.length=av P e/\new.all Sc.one=true then match x with
 |.c (.sl id off aX len)=>match hg H id with|.vec sz cs=>if off=0/\aX=cs.length/\sz=av P e/\cs.length=len*av P e/\(len+n)*mr P e<=1099511627776 then some (.c (.sl id 0 (cs.length+new.length) (len+n)),H.set id (.vec sz (cs++new)))else none|_=>none
 |.c .az=>if 0<n/\n*mr P e<=1099511627776 then some (.c (.sl H.length 0 new.length n),H++[.vec (av P e) new])else none|_=>none else none|_,_=>none
   |_,_,_=>none
 |_,_=>none
variable {e:Nat}
theorem ajA{i:TypeInfo}(h:P.info? e=some i):mr P e=i.bytes:=by simp[mr,h]
variable {H:AH}{cy:Value}
theorem Yt{sz:Nat}{y:AV}{new:List Sc}(hH:HR ρ w H)(h:G1 H sz y=some (new,n))(hy:aZ ρ y cy):∃vs:List Value,vs.length=n*sz/\L2 (b6 ρ) new vs/\(Builtin.lenOf cy).run P w=.ok n w/\n<=9223372036854775807/\∀w':World,(∀b j,b<w.heap.size->w'.cell? ⟨b,j,none⟩=w.cell? ⟨b,j,none⟩)->(Builtin.firstCells sz n cy).run P w'=.ok vs.toArray w':=by
 unfold G1 at h;split at h
 .simp at h;obtain⟨rfl,rfl⟩:=h;cases hy;exact⟨[],by simp,.nil,by simp[Builtin.lenOf],ω,λw' _=>by simp[Builtin.firstCells]⟩
 .rename_i id off aX m;split at h<;>simp at h;rename_i hc;obtain⟨rfl,rfl⟩:=h;obtain⟨L,base,cap,h1,rfl,hn,h2,h3,h4,h5⟩:=(show w5 ρ id off aX m cy from hy);by_cases hm:m*sz=0
  .refine⟨[],by simp[hm],by rw[hm];simp;exact .nil,by simp[Builtin.lenOf],h3,λw' _=>?_⟩;cases base with|none=>simp[Builtin.firstCells]|some a=>simp[Builtin.firstCells,hm,loadCells,loadCellsFrom]
  .have DT:0<m:=by rcases Nat.eq_zero_or_pos m with h|h;subst h;simp at hm;exact h
   have Bt:(hg H id).live=true:=by cases hh:hg H id with|dead=>rw[hh]at hc;simp[ae.cells]at hc;omega|_=>rfl
   have nF:=(hH.obj id).row h1 Bt;have h6:=h5 (by rw[nF];exact hc.1);by_cases fh:L.nil=true
   .rw[if_pos fh]at h6;omega
   rw[if_neg fh]at h6;obtain⟨a,rfl,h7,_,_⟩:=h6;obtain rfl:=h7 (.inr DT);obtain⟨vs,h8,h9,pH⟩:=aaj (P:=P) (hH.obj id) h1 hc.2;have TO:=(hH.obj id).ym h1 (by simpa using fh) Bt;exact⟨vs,h8,h9,by simp[Builtin.lenOf],h3,λw' Ip=>by simp only[Builtin.firstCells];exact pH w' λj=>Ip _ _ TO⟩
 .simp at h
variable {w0:World}{M:Nat->Prop}
theorem ij.drew(h:ij w0 M w):ij w0 M w.drew:=⟨h.os,h.tape,h.output,h.size,h.jT,h.free⟩
theorem jZ.drew(h:jZ ρ w i o):jZ ρ w.drew i o:=h.dj (ib.refl ρ) rfl (λ_ _ _ _=>rfl) (aB _)
theorem HR.drew(h:HR ρ w H):HR ρ w.drew H:=⟨λi=>(h.obj i).drew,h.sep,h.fresh⟩
variable {H':AH}{l:List Sc}{c:List Value}
theorem HR.new{d:List Value}(h:HR ρ w H)(hl:L2 (b6 ρ) l c)(t id sz:Nat)(L:Loc)(hb:L.dW=w.heap.size)(jx:L.off=0)(fh:L.nil=false)(nF:L.row=l.length)(aoR:L.vec=true)(cO:0<sz)(sB:L.cap*sz=(c++d).length)(ew:ib ρ (iB ρ id L))(OT:∀i,hg H' i=if i=id then .vec sz l else hg H i)(hlen:H.length<=H'.length)(iO:id<H'.length):HR (iB ρ id L) (w.alloc (.cells (c++d).toArray t)) H':=by
 have FW:L2 (b6 (iB ρ id L)) l c:=hl.mono λ_ _ h=>h.mono ew;refine⟨?_,?_,?_⟩
 .intro i;rw[OT];split
  .subst_vars;refine⟨L,iZ _ _ _,jx,nF,aoR,cO,?_⟩;rw[if_neg (by rw[fh];simp)];exact⟨c,d,t,by rw[hb];exact Cl w _,sB,FW⟩
  .rename_i cZ;refine(h.obj i).dj ew (fN _ _ cZ) (λLi hi hn FX=>?_) (by simp);exact A3 _ _ _ ((h.obj i).ym hi hn FX)
 .intro i j Li Lj pI cV cF iH fz iF pJ;rw[OT]at cV fz;by_cases h1:i=id
  .subst h1;rw[iZ]at cF;simp at cF;subst cF;have h2:j≠i:=λe=>pI e.symm;rw[if_neg h2]at fz;rw[fN _ _ h2]at iF;have:=(h.obj j).ym iF pJ fz;omega
  .rw[if_neg h1]at cV;rw[fN _ _ h1]at cF;by_cases h2:j=id
   .subst h2;rw[iZ]at iF;simp at iF;subst iF;have:=(h.obj i).ym cF iH (ae.ou cV);omega
   .rw[if_neg h2]at fz;rw[fN _ _ h2]at iF;exact h.sep i j Li Lj pI cV cF iH fz iF pJ
 .intro i hi;rw[fN _ _ ω];exact h.fresh i ω
theorem aCD(z:Array Value)(n:Nat):(Builtin.zeroCells z n).size=n*z.size:=by simp[Builtin.zeroCells]
variable {ts:Array TypeId}{ty t0 t1 e1 len cap:Nat}{cx:Value}{z:List Sc}
theorem ZD{base:Option Addr}{jT new:List Value}(h0:ts[0]?=some t0)(h1:ts[1]?=some t1)(DN:dT P t0=.sl e)(DO:dT P t1=.sl e1)(hx:cx=.slice base len cap)(cO:0<av P e)(yB:0<mr P e)(TP:mr P e<=1048576)(hz:zT P e=some z)(qS:z.length=av P e)(hlen:(Builtin.lenOf cy).run P w=.ok n w)(sB:¬len+n<=cap)(hb:(len+n)*mr P e<=1099511627776)(hold:(Builtin.firstCells (av P e) len cx).run P w.drew=.ok jT.toArray w.drew)(Ig:(Builtin.firstCells (av P e) n cy).run P w.drew=.ok new.toArray w.drew):∃(C:Nat)(rest:List Value),len+n<=C/\rest.length=(C-(len+n))*av P e/\(Builtin.append_ ts ty #[cx,cy]).run P w=.ok (.slice (some ⟨w.heap.size,0,none⟩) (len+n) C) (w.drew.alloc (.cells (jT++new++rest).toArray e)):=by
 subst hx;have Lv:=mY DN;have gD:=mY DO;obtain⟨i,hi,Bo⟩:=Lx cO;have yA:=ajA hi;obtain⟨zv,zc,h3,h4,h5⟩:=Cb (P:=P) (ρ:=λ_=>none) hz w.drew;have uA:zc.length=av P e:=by rw[<-h5.length,qS]
 have Ue:len+n<=(len+n)*mr P e:=Zb _ yB;have CD:IntKind.i64.max=9223372036854775807:=by decide
 have sA:¬((((len+n:Nat):Int)>IntKind.i64.max)/\(False\/i.bytes=0)):=by rw[CD];omega
 have O1:¬(Builtin.nextslicecap (len+n) cap*i.bytes>2^48):=by
  have a1:=arc (len+n) cap ω;rw[<-yA];have a2:Builtin.nextslicecap (len+n) cap*mr P e<=(2*(len+n)+1000)*mr P e:=Nat.mul_le_mul_right _ a1;have a3:(2*(len+n)+1000)*mr P e=2*((len+n)*mr P e)+1000*mr P e:=by rw[vI,Nat.mul_assoc]
  omega
 refine⟨(len+n)+w.tape w.drawn (.appendCap (len+n) cap e)%(2^63-(len+n)),(Builtin.zeroCells zc.toArray (w.tape w.drawn (.appendCap (len+n) cap e)%(2^63-(len+n)))).toList,ω,?_,?_⟩
 .simp[aCD,uA]
 .have e0:(#[Value.slice base len cap,cy]:Array Value)[0]?=some (.slice base len cap):=rfl;have e1:(#[Value.slice base len cap,cy]:Array Value)[1]?=some cy:=rfl;simp only[Builtin.append_,h0,h1,e0,e1,dg,run_underlying Lv,run_underlying gD,c9,mW cO,fF,dL,if_false,hlen,sB];have fj:∀w:World,(typeInfo e).run P w=.ok i w:=λw=>by simp[typeInfo,hi]
  have hfo:(Question.appendCap (len+n) cap e).forced=false:=rfl;have Ir:zc.length=zc.toArray.size:=by simp
  simp only[fj,c9,sA,if_false,dg,O1,run_choose,hfo,dL,run_askRoom,World.drew_eq,hold,Fb,if_true,Ig,h3,h4,newRow,run_newObj,fF,Question.cut];congr 2
  .rw[Nat.add_sub_cancel_left];congr 2;apply qK;simp
variable {w':World}
theorem aif{a:Addr}{new:List Value}(h0:ts[0]?=some t0)(h1:ts[1]?=some t1)(DN:dT P t0=.sl e)(DO:dT P t1=.sl e1)(cO:0<av P e)(hlen:(Builtin.lenOf cy).run P w=.ok n w)(sB:len+n<=cap)(Ig:(Builtin.firstCells (av P e) n cy).run P w=.ok new.toArray w)(ew:(storeCells (a.add (len*av P e)) new).run P w=.ok () w'):(Builtin.append_ ts ty #[.slice (some a) len cap,cy]).run P w=.ok (.slice (some a) (len+n) cap) w':=by have Lv:=mY DN;have gD:=mY DO;have e0:(#[Value.slice (some a) len cap,cy]:Array Value)[0]?=some (.slice (some a) len cap):=rfl;have e1:(#[Value.slice (some a) len cap,cy]:Array Value)[1]?=some cy:=rfl;simp only[Builtin.append_,h0,h1,e0,e1,dg,run_underlying Lv,run_underlying gD,c9,mW cO,fF,dL,if_false,hlen,sB,if_true,Fb,Ig,ew]
variable {cs:List Value}{v:AV}
theorem aie{vs:List AV}(h:Ff P ts vs H=some (v,H'))(hv:L2 (aZ ρ) vs cs)(hH:HR ρ w H):∃w' bg vc,jl ρ w H w' bg H'/\(Builtin.append_ ts ty cs.toArray).run P w=.ok vc w'/\aZ bg v vc:=by
 unfold Ff at h;split at h<;>try(simp at h;done)
 rename_i t0 t1 h0 h1;split at h<;>try(simp at h;done)
 rename_i e e1 x y DN DO;split at h<;>try(simp at h;done)
 rename_i new n z DV hz;split at h<;>try(simp at h;done)
 rename_i hc;obtain⟨cO,yB,TP,qS,oR⟩:=hc;obtain⟨cx,cy,rfl,hx,hy⟩:=hv.two;obtain⟨nv,CF,Ih,hlen,aC1,Ig⟩:=Yt (P:=P) hH DV hy;have hnw:=Ig w λ_ _ _=>rfl;have abU:=Ig w.drew λ_ _ _=>rfl;have Ue:∀k,k<=k*mr P e:=λk=>Zb _ yB;split at h
 .rename_i id off aX len;split at h<;>try(simp at h;done)
  rename_i sz os Lq;split at h<;>simp at h;rename_i hc;obtain⟨rfl,rfl,rfl,Uh,hb⟩:=hc;obtain⟨rfl,rfl⟩:=h;obtain⟨L,base,cap,g1,rfl,gn,g2,g3,g4,g5⟩:=(show w5 ρ id 0 os.length len cx from hx);have hO:=hH.obj id;rw[Lq]at hO;obtain⟨L',k1,k2,k3,k4,k5,k6⟩:=hO;obtain rfl:L=L':=by simpa[g1]using k1
  have g6:=g5 k3.symm;have dt:(hg H id).owned=true:=by rw[Lq];rfl
  have iO:=eu (ae.ou dt);have Lp:=Ih.length;have hk:=Ue (len+n);have Um:(os++new).length=os.length+new.length:=by simp
  have ew:∀L':Loc,L'.row=os.length+new.length->(new.length=0->L'=L)->ib ρ (iB ρ id L'):=by
   intro L' hr he i Li hi;by_cases Bn:i=id
   .subst Bn;refine⟨L',iZ _ _ _,?_⟩;obtain rfl:L=Li:=by simpa[g1]using hi
    rcases Nat.eq_zero_or_pos new.length with hz|hz
    .exact .inl (he hz)
    .right;omega
   .exact⟨Li,by rw[fN _ _ Bn,hi],.inl rfl⟩
  have Lt:∀i,hg (H.set id (.vec (av P e) (os++new))) i=if i=id then .vec (av P e) (os++new)else hg H i:=λi=>qP _ _ _ _ iO;by_cases Pj:len+n<=cap
  .by_cases fh:L.nil=true
   .rw[if_pos fh]at g6 k6;obtain⟨rfl,_,rfl,rfl⟩:=g6;obtain⟨rfl,_⟩:=k6;have Pf:n=0:=ω
    subst Pf;have aoG:new=[]:=vG (by rw[Lp,CF];simp);subst aoG;have KU:H.set id (.vec (av P e) ([]++[]))=H:=by
     apply List.ext_getElem?;intro i;rw[rq];split
     .subst_vars;have:H[i]?=some (hg H i):=by unfold hg;rw[bX];simp[iO]
      rw[this,Lq];simp
     .rfl
    rw[KU];refine⟨w,ρ,.slice none 0 0,⟨hH,ib.refl ρ,λ_ _ a b=>⟨a,b⟩,aB _,λ_ _ _ h=>h⟩,?_,?_⟩
    .have Lv:=mY DN;have gD:=mY DO;have e0:(#[Value.slice none 0 0,cy]:Array Value)[0]?=some (.slice none 0 0):=rfl;have e2:(#[Value.slice none 0 0,cy]:Array Value)[1]?=some cy:=rfl;simp only[Builtin.append_,h0,h1,e0,e2,dg,run_underlying Lv,run_underlying gD,c9,mW cO,fF,dL,if_false,hlen,aB,if_true,Fb,hnw]
    .exact⟨L,none,0,g1,rfl,by simp,ω,ω,by simp,λ_=>by rw[if_pos fh];simp⟩
   .rw[if_neg fh]at g6 k6;have Uf:L.nil=false:=by simpa using fh
    obtain⟨a,rfl,g7,g8,_⟩:=g6;obtain rfl:=g7 (.inl rfl);have sB:=g8 rfl k4;obtain⟨c,d,t,k7,k8,k9⟩:=k6;have qh:=k9.length;have H9:len*av P e+nv.length<=(c++d).length:=by rw[CF,<-vI,<-k8];exact Nat.mul_le_mul_right _ (Nat.le_trans Pj sB)
    obtain⟨w',m1,m2⟩:=WL (P:=P) t L.dW nv w (c++d) 0 (len*av P e) k7 (VR Ih oR) ω;have e3:(c++d).take (len*av P e+0)++nv++(c++d).drop (len*av P e+0+nv.length)=(c++nv)++d.drop nv.length:=by
     have:len*av P e=c.length:=ω
     rw[this,ru,Dr (aB _),List.take_length,List.drop_append];simp
    rw[e3]at m2;have tK:=ew {L with row:=os.length+new.length} rfl (λhz=>by simp only[hz,ru,<-k3]);refine⟨w',iB ρ id {L with row:=os.length+new.length},_,⟨⟨?_,?_,?_⟩,tK,?_,by simp,?_⟩,aif (ty:=ty) h0 h1 DN DO cO hlen Pj hnw (by rw[Addr.Cj,k2];simpa using m1),?_⟩
    .intro i;rw[Lt];split
     .subst_vars;refine⟨_,iZ _ _ _,k2,by simp,k4,k5,?_⟩;rw[if_neg fh];refine⟨c++nv,d.drop nv.length,t,m2.this,?_,?_⟩
      .show L.cap*av P e=_;rw[k8];simp at H9|-;omega
      .exact(k9.mono λ_ _ h=>b6.mono h tK).app (Ih.mono λ_ _ h=>b6.mono h tK)
     .rename_i cZ;refine(hH.obj i).dj tK (fN _ _ cZ) (λLi hi hn FX=>?_) (by rw[m2.size];omega);exact m2.other _ (λe=>hH.sep id i L Li (λe=>cZ e.symm) dt g1 Uf FX hi hn e.symm)
    .intro i j Li Lj pI cV cF iH fz iF pJ;rw[Lt]at cV fz;have tr:∀(k:Nat)(Lk:Loc),iB ρ id {L with row:=os.length+new.length} k=some Lk->∃RV,ρ k=some RV/\RV.dW=Lk.dW/\RV.nil=Lk.nil:=by
      intro k Lk hk;by_cases e:k=id
      .subst e;rw[iZ]at hk;simp at hk;subst hk;exact⟨L,g1,rfl,rfl⟩
      .rw[fN _ _ e]at hk;exact⟨Lk,hk,rfl,rfl⟩
     obtain⟨Mi,a1,a2,a3⟩:=tr i Li cF;obtain⟨Mj,b1,b2,b3⟩:=tr j Lj iF;rw[<-a2,<-b2];have T8:(hg H i).owned=true:=by split at cV;subst_vars;exact dt;exact cV
     have T9:(hg H j).live=true:=by split at fz;subst_vars;exact ae.ou dt;exact fz
     exact hH.sep i j Mi Mj pI T8 a1 (by rw[a3,iH]) T9 b1 (by rw[b3,pJ])
    .intro i hi;simp at hi;rw[fN _ _ ω];exact hH.fresh i hi
    .intro w0 M hk hm;refine⟨hk.afO m2 (hm id L dt g1 Uf),λi Li cV cF iH=>?_⟩;rw[Lt]at cV;by_cases e:i=id
     .subst e;rw[iZ]at cF;simp at cF;subst cF;exact hm _ L dt g1 Uf
     .rw[if_neg e]at cV;rw[fN _ _ e]at cF;exact hm _ _ cV cF iH
    .intro i Li cV cF;have:i≠id:=by rintro rfl;rw[dt]at cV;simp at cV
     rw[fN _ _ this,cF]
    .refine⟨_,_,_,iZ _ _ _,rfl,by simp,Pj,ω,aB _,λ_=>?_⟩;rw[if_neg fh];refine⟨_,rfl,λ_=>rfl,λ_ _=>sB,λhp _=>?_⟩;show 0<os.length+new.length;rw[Uh,Lp,CF,<-vI];exact Cf hp cO
  .obtain⟨ov,o1,o2,o3⟩:∃ov:List Value,ov.length=len*av P e/\L2 (b6 ρ) os ov/\(Builtin.firstCells (av P e) len (.slice base len cap)).run P w.drew=.ok ov.toArray w.drew:=by
    by_cases fh:L.nil=true
    .rw[if_pos fh]at g6 k6;obtain⟨rfl,_,rfl,rfl⟩:=g6;obtain⟨rfl,_⟩:=k6;exact⟨[],by simp,.nil,by simp[Builtin.firstCells]⟩
    .rw[if_neg fh]at g6;obtain⟨a,rfl,g7,g8,_⟩:=g6;obtain rfl:=g7 (.inl rfl);obtain⟨vs,h8,h9,pH⟩:=aaj (P:=P) (off:=0) (n:=len*av P e) (hH.obj id) g1 (by rw[Lq];simp[ae.cells,Uh]);rw[Lq]at h9;have e4:((ae.vec (av P e) os).cells.drop 0).take (len*av P e)=os:=by simp[ae.cells,<-Uh]
     rw[e4]at h9;exact⟨vs,h8,h9,by simp only[Builtin.firstCells];exact pH w.drew λ_=>rfl⟩
   obtain⟨C,rest,c1,c2,c3⟩:=ZD (ty:=ty) h0 h1 DN DO rfl cO yB TP hz qS hlen Pj hb o3 abU;have aoH:0<n:=ω
   have aC0:0<new.length:=by rw[Lp,CF];exact Cf aoH cO
   have tK:=ew ⟨w.heap.size,0,C,os.length+new.length,false,true⟩ rfl (λhz=>ω);have hrel:L2 (b6 ρ) (os++new) (ov++nv):=o2.app Ih;have sB:C*av P e=((ov++nv)++rest).length:=by simp only[cj,o1,CF,c2];rw[<-vI,<-vI];congr 1;omega
   have hr:=HR.new hH.drew hrel e id (av P e) ⟨w.heap.size,0,C,os.length+new.length,false,true⟩ rfl rfl rfl (by simp) rfl cO sB tK Lt (by simp) (by simpa using iO);refine⟨_,_,_,⟨hr,tK,λw0 M hk hm=>⟨hk.drew.alloc _ _,λi Li cV cF iH=>?_⟩,by simp,λi Li cV cF=>?_⟩,c3,?_⟩
   .rw[Lt]at cV;by_cases e:i=id
    .subst e;rw[iZ]at cF;simp at cF;subst cF;exact .inr hk.size
    .rw[if_neg e]at cV;rw[fN _ _ e]at cF;exact hm _ _ cV cF iH
   .have:i≠id:=by rintro rfl;rw[dt]at cV;simp at cV
    rw[fN _ _ this,cF]
   .refine⟨_,_,_,iZ _ _ _,rfl,by simp,c1,ω,aB _,λ_=>?_⟩;rw[if_neg (by simp)];exact⟨_,rfl,λ_=>rfl,λ_ _=>aB _,λ_ _=>by show 0<os.length+new.length;omega⟩
 .split at h<;>simp at h;rename_i hc;obtain⟨Pf,hb⟩:=hc;obtain⟨rfl,rfl⟩:=h;cases hx;obtain⟨C,rest,c1,c2,c3⟩:=ZD (ty:=ty) (base:=none) (len:=0) (cap:=0) (n:=n) (jT:=[]) h0 h1 DN DO rfl cO yB TP hz qS hlen ω (by simpa using hb) (by simp[Builtin.firstCells]) abU;have ew:ib ρ (iB ρ H.length ⟨w.heap.size,0,C,new.length,false,true⟩):=by
   intro i Li hi;have:i≠H.length:=by rintro rfl;rw[hH.fresh _ (aB _)]at hi;simp at hi
   exact⟨Li,by rw[fN _ _ this,hi],.inl rfl⟩
  have Lp:=Ih.length;have sB:C*av P e=(nv++rest).length:=by simp only[cj,CF,c2];rw[<-vI];congr 1;omega
  have hr:=HR.new hH.drew Ih e H.length (av P e) ⟨w.heap.size,0,C,new.length,false,true⟩ rfl rfl rfl rfl rfl cO sB ew (qO H _) (by simp) (by simp);rw[oF,jW]at c3;have hk:=Ue n;refine⟨_,_,_,⟨hr,ew,λw0 M hk hm=>⟨hk.drew.alloc _ _,λi Li cV cF iH=>?_⟩,by simp,λi Li cV cF=>?_⟩,c3,?_⟩
  .rw[qO]at cV;by_cases e:i=H.length
   .subst e;rw[iZ]at cF;simp at cF;subst cF;exact .inr hk.size
   .rw[if_neg e]at cV;rw[fN _ _ e]at cF;exact hm _ _ cV cF iH
  .have:i≠H.length:=by rintro rfl;rw[hH.fresh _ (aB _)]at cF;simp at cF
   rw[fN _ _ this,cF]
  .refine⟨_,_,_,iZ _ _ _,rfl,by simp,ω,ω,aB _,λ_=>?_⟩;rw[if_neg (by simp)];refine⟨_,rfl,λ_=>rfl,λ_ _=>aB _,λhp _=>?_⟩;show 0<new.length;rw[Lp,CF];exact Cf hp cO
 .simp at h
def A7:List Sc->Option (List Int)|[]=>some []|.k .u8 n::r=>(A7 r).map (n::·)|_=>none
def EO(l:List Int):ByteArray:=⟨(l.map λn=>UInt8.ofNat n.toNat).toArray⟩
def Ft(P:Program)(s d:Nat)(x:AV)(H:AH):Option AV:=match dT P s,dT P d with
 |.sl e,.str=>match dT P e,G1 H 1 x with|.int .u8,some (new,_)=>(A7 new).map λl=>.c (.s (EO l))|_,_=>none
 |_,_=>none
theorem ajz:∀{new:List Sc}{l:List Int}{vs:List Value},A7 new=some l->L2 (b6 ρ) new vs->vs=l.map (Value.int .u8)/\new.length=l.length:=by intro new;induction new with|nil=>intro l vs h h2;simp[A7]at h;subst h;cases h2;exact⟨rfl,rfl⟩|cons a r ih=>intro l vs h h2;cases h2 with|cons h3 h4=>
 unfold A7 at h;split at h
 .simp_all
 .rename_i n r' heq;simp only[cL]at heq;obtain⟨rfl,rfl⟩:=heq;rw[eE]at h;obtain⟨l',h5,rfl⟩:=h;obtain⟨e1,e2⟩:=ih h5 h4;obtain⟨rfl,_⟩:=h3;exact⟨by rw[e1];rfl,by simp[e2]⟩
 .simp at h
variable {d:Nat}{x:AV}
theorem aaG{s:Nat}(hH:HR ρ w H)(h:Ft P s d x H=some v)(hx:aZ ρ x cx):∃vc,(convert s d cx).run P w=.ok vc w/\aZ ρ v vc:=by
 unfold Ft at h;split at h
 .rename_i e hs hd;split at h
  .rename_i new n he DV;rw[eE]at h;obtain⟨l,hl,rfl⟩:=h;obtain⟨vs,h1,h2,h3,h4,h5⟩:=Yt (P:=P) hH DV hx;obtain⟨e1,e2⟩:=ajz hl h2;have Ge:l.length<=9223372036854775807:=by
    have:vs.length=l.length:=by rw[e1];simp
    omega
   have sz:(EO l).size<=9223372036854775807:=by simpa[EO,ByteArray.size]using Ge
   refine⟨.string (EO l),?_,rfl,sz⟩;have h6:=h5 w (λ_ _ _=>rfl);have shape:(∃i o vv m,x=.c (.sl i o vv m))\/x=.c .az:=by
    unfold G1 at DV;split at DV
    .exact .inr rfl
    .exact .inl ⟨_,_,_,_,rfl⟩
    .simp at DV
   have hcx:∃b ln cp,cx=.slice b ln cp:=by
    rcases shape with⟨i,o,vv,m,rfl⟩|rfl
    .obtain⟨L,base,cap,_,rfl,_⟩:=(show w5 ρ i o vv m cx from hx);exact⟨_,_,_,rfl⟩
    .cases hx;exact⟨_,_,_,rfl⟩
   obtain⟨b,ln,cp,rfl⟩:=hcx;rw[run_convert_bytes_string w s d e b ln cp (mY hs) (B7 he) (No hd)];have hn:n=ln:=by simp[Builtin.lenOf]at h3;exact h3.symm
   subst hn;cases b with|none=>
 have:vs=[]:=by have h7:=h6;simp only[Builtin.firstCells,fF,Result.ok.injEq]at h7;have:=congrArg Array.toList h7.1;simpa using this.symm
 rw[this]at e1;have:l=[]:=by have e3:=congrArg List.length e1;rw[List.length_map]at e3;exact vG e3.symm
 subst this;simp only[Conv.bytesToString];rfl|some a=>
     simp only[Builtin.firstCells,Nat.mul_one]at h6;rw[e1]at h6;rw[run_bytesToString w a n cp l h6];have fold:∀(ns:List Int)(s:ByteArray),ns.foldl (λr n=>r.push (UInt8.ofNat n.toNat)) s=⟨s.data++(ns.map λn=>UInt8.ofNat n.toNat).toArray⟩:=by intro ns;induction ns with|nil=>intro s;simp|cons n ns ih=>intro s;rw[Y9,ih];simp[ByteArray.push]
     rw[fold];have:ByteArray.empty.data++(List.map (λn=>UInt8.ofNat n.toNat) l).toArray=(List.map (λn=>UInt8.ofNat n.toNat) l).toArray:=by show(#[]:Array UInt8)++_=_;simp
     rw[this];rfl
  .simp at h
 .simp at h
def RT(ρ:Ro)(es:List MapEntry)(i0:Nat):Option (Nat×AV)->Option (Nat×Value)->Prop|none,none=>True|some (i,v),some (j,x)=>i=j/\V1 ρ v x/\i0<=i/\∃e,es[i-i0]?=some e/\e.val=x|_,_=>False
theorem RT.shift{e:MapEntry}{es:List MapEntry}{r:Option (Nat×AV)}{r':Option (Nat×Value)}(h:RT ρ es (i+1) r r'):RT ρ (e::es) i r r':=by cases r with
 |none=>cases r' with|none=>trivial|some y=>exact h.elim
 |some x=>cases r' with|none=>exact h.elim|some y=>obtain⟨h1,h2,h3,e',h4,h5⟩:=h;refine⟨h1,h2,ω,e',?_,h5⟩;rw[show x.1-i=(x.1-(i+1))+1 by omega];simpa using h4
theorem jl.Ni{H:AH}(h:HR ρ w H){id:Nat}{L:Loc}{c:Array MapEntry}{t:Nat}{o':ae}(dt:(hg H id).owned=true)(hL:ρ id=some L)(fh:L.nil=false)(hs:Dz w w' L.dW (.map c t))(kv:jZ ρ w' id o'):jl ρ w H w' ρ (H.set id o'):=by
 have iO:=eu (ae.ou dt);refine⟨h.set dt hL fh hs kv,ib.refl ρ,λw0 M hk hm=>⟨hk.Ni hs (hm id L dt hL fh),λi Li cV cF iH=>?_⟩,by simp,λ_ _ _ h=>h⟩;rw[qP _ _ _ _ iO]at cV;split at cV
 .subst_vars;exact hm _ _ dt cF iH
 .exact hm _ _ cV cF iH
theorem jl.QR{w w':World}{H:AH}(h:HR ρ w H){id:Nat}{L:Loc}{x:Option Nat}{b':Nat}{sn:Array Nat}{c0:Nat}{o':ae}(dt:(hg H id).owned=true)(hL:ρ id=some L)(fh:L.nil=false)(hs:Dz w w' L.dW (.mapIter x b' sn c0))(kv:jZ ρ w' id o'):jl ρ w H w' ρ (H.set id o'):=by
 have iO:=eu (ae.ou dt);refine⟨h.set dt hL fh hs kv,ib.refl ρ,λw0 M hk hm=>⟨hk.QR hs (hm id L dt hL fh),λi Li cV cF iH=>?_⟩,by simp,λ_ _ _ h=>h⟩;rw[qP _ _ _ _ iO]at cV;split at cV
 .subst_vars;exact hm _ _ dt cF iH
 .exact hm _ _ cV cF iH
theorem jl.refl(h:HR ρ w H):jl ρ w H w ρ H:=⟨h,ib.refl ρ,λ_ _ a b=>⟨a,b⟩,aB _,λ_ _ _ h=>h⟩
variable {α β:Type}
theorem L2.Ni{R:α->β->Prop}{l:List α}{m:List β}(h:L2 R l m):∀(i:Nat)(a:α)(f:β->β),(∀b,m[i]?=some b->R a (f b))->L2 R (l.set i a) (m.modify i f):=by induction h with|nil=>intro i a f _;simp;exact .nil|@cons x y l m hx _ ih=>intro i a f hf;cases i with|zero=>simp only[List.set_cons_zero,List.modify_zero_cons];exact .cons (hf y (by simp)) (by assumption)|succ i=>simp only[List.set_cons_succ,List.modify_succ_cons];exact .cons hx (ih i a f λb hb=>hf b (by simpa using hb))
theorem akr{w:World}{H H':AH}(hH:HR ρ w H){t ty:Nat}{x:AV}{cx:Value}{ts:Array TypeId}(ht:ts[0]?=some t)(h:DE P t x H=some H')(hx:aZ ρ x cx):∃w',(Builtin.clear_ ts ty #[cx]).run P w=.ok (.tuple #[]) w'/\jl ρ w H w' ρ H':=by
  unfold DE at h;split at h<;>try(simp at h;done)
  .rename_i e hd;simp at h;subst h;obtain rfl:cx=.slice none 0 0:=hx;refine⟨w,?_,jl.refl hH⟩;simp only[Builtin.clear_,ht,dg,run_underlying (mY hd),c9,Hk,Hi,fF]
  · rename_i e id off aX n hd;split at h<;>try(simp at h;done)
    rename_i z hz;obtain⟨L,base,cap,h1,rfl,sr,Le,hl9,By,K9⟩:=(show w5 ρ id off aX n cx from hx);split at h
    .subst_vars;simp at h;subst h;refine⟨w,?_,jl.refl hH⟩;cases base with
 |none=>simp only[Builtin.clear_,ht,dg,run_underlying (mY hd),c9,Hk,Hi,fF]|some a=>simp only[Builtin.clear_,ht,dg,run_underlying (mY hd),c9,Hk,Hi,fF]
    · rename_i Pf;split at h<;>try(simp at h;done)
      rename_i hc;obtain⟨dt,hv,cO,qS,hlen,oR⟩:=hc;simp at h;subst h;have nF:=(hH.obj id).row h1 (ae.ou dt);have cu:=K9 (by rw[nF];exact hv);split at cu
      .omega
      · rename_i fh;obtain⟨a,rfl,ha,_,_⟩:=cu;obtain rfl:=ha (.inr ω);obtain⟨zv,zc,g1,g2,g3⟩:=Cb (ρ:=ρ) hz w;have uA:zc.length=av P e:=by rw[<-g3.length,qS]
        have Um:((bD n z).flatten).length=n*av P e:=by simp[qS]
        have uz:0<n*av P e:=Cf ω cO;obtain⟨w',h9,pH⟩:=Q6 (P:=P) hH dt h1 (by simpa using fh) (g3.rep n) (by rw[Um];exact hlen) (by rw[cE]at oR|-;intro s hs;simp only[List.mem_flatten,List.mem_replicate]at hs;obtain⟨l,⟨_,rfl⟩,hm⟩:=hs;exact oR s hm) (by rw[Um];exact uz);refine⟨w',?_,pH⟩;have Ut:(Builtin.zeroCells zv.cells n).toList=(bD n zc).flatten:=by
          have:=Ml n _ uA;have e2:zc.toArray.size=av P e:=by simpa using uA
          rw[g2];unfold Builtin.zeroCells;rw[e2];rw[e2]at this;rw[this]
        have hnn:∃n',n=n'+1:=⟨n-1,ω⟩;obtain⟨n',rfl⟩:=hnn;simp only[Builtin.clear_,ht,dg,run_underlying (mY hd),c9,Hk,Hi,g1,Ut,h9,fF]
theorem akN{w:World}{H H':AH}(hH:HR ρ w H){t ty:Nat}{x y v:AV}{cx cy:Value}{ts:Array TypeId}(ht:ts[0]?=some t)(h:HI P t x y H=some (v,H'))(hx:aZ ρ x cx)(hy:aZ ρ y cy):∃w' vc,(Builtin.copy_ ts ty #[cx,cy]).run P w=.ok vc w'/\aZ ρ v vc/\jl ρ w H w' ρ H':=by
  unfold HI at h;split at h<;>try(simp at h;done)
  rename_i e id off aX len hd;split at h<;>try(simp at h;done)
  rename_i new n hs;split at h<;>try(simp at h;done)
  rename_i hc;obtain⟨cO,hle⟩:=hc;obtain⟨L,base,cap,h1,rfl,sr,Le,hl9,By,K9⟩:=(show w5 ρ id off aX len cx from hx);obtain⟨vs,g1,g2,g3,g4,g5⟩:=Yt (P:=P) hH hs hy;have hf:=g5 w λ_ _ _=>rfl;have Ll:Nat.min n len=n:=ye hle;have e0:(#[Value.slice base len cap,cy]:Array Value)[0]?=some (.slice base len cap):=rfl;have e1:(#[Value.slice base len cap,cy]:Array Value)[1]?=some cy:=rfl;split at h
  .rename_i hn;subst hn;simp only[ar,bE]at h;obtain⟨rfl,rfl⟩:=h;have F4:vs=[]:=vG (by rw[g1];simp);subst F4;refine⟨w,goInt 0,?_,⟨rfl,δ,δ⟩,jl.refl hH⟩;cases base with
 |none=>simp only[Builtin.copy_,ht,e0,e1,dg,run_underlying (mY hd),c9,g3,mW cO,Ll,hf,fF];rfl|some a=>simp only[Builtin.copy_,ht,e0,e1,dg,run_underlying (mY hd),c9,g3,mW cO,Ll,hf,fF,storeCells];rfl
  · rename_i Pf;split at h<;>try(simp at h;done)
    rename_i hc;obtain⟨dt,hv,hlen,oR⟩:=hc;simp only[ar,bE]at h;obtain⟨rfl,rfl⟩:=h;have nF:=(hH.obj id).row h1 (ae.ou dt);have cu:=K9 (by rw[nF];exact hv);split at cu
    .omega
    · rename_i fh;obtain⟨a,rfl,ha,_,_⟩:=cu;obtain rfl:=ha (.inr ω);have uz:0<new.length:=by rw[g2.length,g1];exact Cf ω cO
      obtain⟨w',h9,pH⟩:=Q6 (P:=P) hH dt h1 (by simpa using fh) g2 hlen oR uz;refine⟨w',goInt n,?_,?_,pH⟩
      .simp only[Builtin.copy_,ht,e0,e1,dg,run_underlying (mY hd),c9,g3,mW cO,Ll,hf,h9,fF]
      .refine⟨?_,ω,ω⟩;simp[goInt]
theorem aqN{o:Oper}{a:Act}{H H':AH}{vs:List AV}{v:AV}{w:World}(h:IE P o.op vs H=some (v,H'))(hv:L2 (aZ ρ) vs ((bI o.op).map a.eval))(hH:HR ρ w H):NG P ρ H w (execOp a.eval o) v H':=by
  obtain⟨dst,op,ty,pos,after,guard⟩:=o;simp only at h hv;unfold IE at h;split at h
  · rename_i as ts x;rw[mh]at h;obtain⟨t,ht,h⟩:=h;rw[eE]at h;obtain⟨v',h1,h2⟩:=h;simp only[bE]at h2;obtain⟨rfl,rfl⟩:=h2;obtain⟨cm,hx,h3⟩:=hv.one;obtain⟨w',h5,h6⟩:=akr (ty:=ty) hH ht h1 h3;have has:#[cm]=as.map a.eval:=by apply qK;simp only[bI]at hx;rw[Rz,hx]
    refine⟨w',ρ,h6,.inl ⟨.tuple #[],?_,[],rfl,.nil⟩⟩;rw[has]at h5;simp only[execOp,resolve,dg,fF,c9,invoke,builtin,h5]
  · rename_i as ts x y;rw[mh]at h;obtain⟨t,ht,h1⟩:=h;obtain⟨cm,ck,hx,h3,h4⟩:=hv.two;obtain⟨w',vc,h5,h6,h7⟩:=akN (ty:=ty) hH ht h1 h3 h4;have has:#[cm,ck]=as.map a.eval:=by apply qK;simp only[bI]at hx;rw[Rz,hx]
    refine⟨w',ρ,h7,.inl ⟨vc,?_,h6⟩⟩;rw[has]at h5;simp only[execOp,resolve,dg,fF,c9,invoke,builtin,h5]
  .simp at h
theorem aqM{op:Op}{H H':AH}{vs:List AV}{v:AV}(h:IE P op vs H=some (v,H')):H.length<=H'.length:=by
  have hc:∀{t:Nat}{x:AV}{H1:AH},DE P t x H=some H1->H.length<=H1.length:=by
    intro t x H1 h;unfold DE at h;split at h<;>try(simp at h;done)
    .simp at h;subst h;exact aB _
    · split at h<;>try(simp at h;done)
      split at h
      .simp at h;subst h;exact aB _
      .split at h<;>simp at h;subst h;simp
  unfold IE at h;split at h
  .rw[mh]at h;obtain⟨_,_,h⟩:=h;rw[eE]at h;obtain⟨_,h1,h2⟩:=h;simp only[bE]at h2;obtain⟨_,rfl⟩:=h2;exact hc h1
  · rw[mh]at h;obtain⟨_,_,h⟩:=h;unfold HI at h;repeat' split at h
    all_goals simp at h
    all_goals obtain⟨_,rfl⟩:=h
    all_goals simp
  .simp at h
end Go.Am
namespace Go.Am
inductive NH where|pu(s:List AV->Option AV)|fp(s:List AV->AH->Option (AV×AH))|fq(s:List AV->AH->Option AV)|fr(s:List AV->AH->Option (AV->AH->Prop))|lo(n:Nat)
abbrev ja:=List (Nat×NH)
def look:ja->Nat->Option NH|[],_=>none|(g,e)::r,f=>if g=f then some e else look r f
def lo:ja->Nat|[]=>0|(_,.lo n)::_=>n|_::r=>lo r
def A8(aa:ja)(f:Nat)(args:List AV)(H:AH):Option (AV×AH):=match look aa f with|some (.pu s)=>(s args).map λv=>(v,H)|some (.fp s)=>s args H|some (.fq s)=>(s args H).map λv=>(v,H)|_=>none
def A9(c:Nat×Nat×Nat):AV:=.c (.p c.1 c.2.1 c.2.2)
def cU(P:Program)(aa:ja)(op:Op)(vs:List AV)(H:AH):Option (AV×AH):=match op,vs with|.call ⟨.value _,_,_⟩,.c (.f fn cs)::args=>A8 aa fn (args++cs.map A9) H|.call ⟨.value _,_,_⟩,_=>none|.call ⟨.builtin .append,_,ts⟩,vs=>Ff P ts vs H|.convert s d _,[.c (.sl i o v n)]=>(Ft P s d (.c (.sl i o v n)) H).map λv=>(v,H)|.convert s d _,[.c .az]=>(Ft P s d (.c .az) H).map λv=>(v,H)|op,vs=>if tU op vs=true then IE P op vs H else match jc P op vs ((uP op vs).map (hg H))with|some v=>some (v,H)|none=>jH P op vs H
def LR(aa:ja)(op:Op)(vs:List AV)(H:AH):Option (AV->AH->Prop):=match op,vs with
 |.call ⟨.value _,_,_⟩,.c (.f fn cs)::args=>match look aa fn with|some (.fr s)=>s (args++cs.map A9) H|_=>none
 |op,vs=>(UD op vs H).map λl v H'=>(v,H')∈l
inductive Tc where|no|ld(id off n:Nat)|st(id off n:Nat)|mk|rd|jg|cl(H H':AH)
def Yr:Operand->Option Nat|.tmp t=>some t|_=>none
def qk:Op->Bool|.move _|.assign _|.pick _ _ _|.build _ _|.nilCheck _|.binOp _ _ _ _ _|.unOp _ _ _|.convert _ _ _|.makeFunc _ _ _|.fieldAddr _ _ _|.field _ _ _|.indexAddr _ _ _|.index _ _ _|.slice _ _ _ _ _|.extract _ _=>true|.call ⟨.builtin .min,_,_⟩|.call ⟨.builtin .max,_,_⟩=>true|_=>false
def uO:List AV->Tc|[.c (.mp _)]=>.jg|[.c .IG]=>.jg|_=>.no
def ER(n:Nat):List AV->Tc|[.c (.p id off _)]=>.ld id off n|_=>.jg
def xW(n:Nat):List AV->Tc|[.c (.p id off _),_]=>.st id off n|_=>.jg
def Dg(aa:ja):List AV->Tc
 |.c (.f fn _)::_=>match look aa fn with|some (.pu _)=>.no|some (.fq _)=>.rd|_=>.jg
 |_=>.jg
def sS:List AV->Tc|[.c (.sl _ _ _ _)]=>.jg|[.c .az]=>.jg|_=>.no
def cC(P:Program)(aa:ja)(op:Op)(vs:List AV):Tc:=match op with|.load t _=>ER (av P t) vs|.store t _ _=>xW (av P t) vs|.alloc _|.box _ _|.buildSlice _ _ _|.makeSlice _ _ _=>.mk|.call ⟨.value _,_,_⟩=>Dg aa vs|.convert _ _ _=>sS vs|.call ⟨.builtin .len,_,_⟩=>uO vs|op=>if qk op then .no else .jg
def nN(t:Tc)(H H':AH):Tc:=match t with|.jg|.cl _ _=>.cl H H'|t=>t
def dU:Tc->Tc->Prop|.no,_=>False|_,.no=>False|.jg,_=>True|_,.jg=>True|.cl A B,.ld i _ _=>¬(hg B i=hg A i/\(hg A i).live=true)|.ld i _ _,.cl A B=>¬(hg B i=hg A i/\(hg A i).live=true)|.cl _ _,_=>True|_,.cl _ _=>True|.mk,.rd=>True|.rd,.mk=>True|.st _ _ _,.rd=>True|.rd,.st _ _ _=>True|.st i a n,.st j b m=>i=j/\a<b+m/\b<a+n|.st i a n,.ld j b m=>i=j/\a<b+m/\b<a+n|.ld i a n,.st j b m=>i=j/\a<b+m/\b<a+n|_,_=>False
def ups(full:Array Oper)(k:Nat):List Nat:=match full[k]? with|some o=>(o.after.toList.filter λe=>Region.binds .any e).map (·.on)|none=>[]
def NN(full:Array Oper):Nat->List Nat->List Nat|0,l=>l|k+1,l=>NN full k (if l.contains k then ups full k++l else l)
def kn(full:Array Oper)(i j:Nat):Bool:=(NN full (i+1) [i]).contains j
def Yh(full:Array Oper)(d:Nat)(o:Oper):Bool:=((bI o.op).filterMap Yr++(match o.guard with|some (j,_)=>((full[j]?).bind (·.dst)).toList|none=>[])).contains d
def loose(full:Array Oper)(i j:Nat):Bool:=match full[i]? with
 |some o=>match o.dst,o.op with
   |some d,.alloc _=>(List.range full.size).all λk=>match full[k]? with|some o'=>!Yh full d o'||kn full k j|none=>false
   |_,_=>false
 |none=>false
def dX(A B:AH):Prop:=∀i,(hg B i).live=true->(hg B i).owned=false->hg A i=hg B i
def j6(full:Array Oper)(i j:Nat)(t u:Tc):Prop:=match t,u with|.mk,.cl A B=>¬(loose full i j=true/\dX A B)->kn full i j=true|_,_=>kn full i j=true
def qY(full:Array Oper)(i:Nat)(t:Tc):List (Nat×Tc)->Prop|[]=>True|(j,u)::r=>(dU t u->j6 full i j t u)/\qY full i t r
def C2(i:Nat)(t:Tc)(l:List (Nat×Tc)):List (Nat×Tc):=match t with|.no=>l|t=>(i,t)::l
inductive It where|c(c:Code)|ops(full:Array Oper)(l:List Oper)|dr(full:Array Oper)(l:List Oper)(i:Nat)(log:List (Nat×Tc))|dW(id:Nat)|back(I:Fr->AH->Prop)|sM|zb(l:Nat)(J:Fr->AH->Prop)
def iD:Code->Nat|.region _ ops _=>ops.size+3|.seq a b=>iD a+iD b+1|.cond _ a b=>iD a+iD b+1|.block _ c=>iD c+2|.loop c=>iD c+2|.scope c=>iD c+3|_=>1
def It.wt:It->Nat|.c x=>iD x|.ops _ l=>l.length+1|.dr _ l _ _=>l.length+1|_=>1
def fQ(k:List It):Nat:=(k.map It.wt).sum
def wy(id:Nat):List It->Option (List It)|[]=>none|.dW i::k=>if i=id then some k else wy id k|_::k=>wy id k
def Eb(l:Nat):List It->Option (Fr->AH->Prop)|[]=>none|.sM::_=>none|.zb l' J::_=>if l'=l then some J else none|_::k=>Eb l k
theorem V9{id:Nat}{k k':List It}(h:wy id k=some k'):fQ k'<fQ k+1:=by induction k with|nil=>simp[wy]at h|cons x k ih=>
   cases x<;>simp only[wy]at h;case dW i=>
 split at h
 .simp at h;subst h;simp[fQ,It.wt];omega
 .have:=ih h;simp[fQ,It.wt]at this|-;omega
   all_goals(have:=ih h;simp[fQ]at this|-;omega)
def xz(full:Array Oper)(fr:Fr)(j:Nat):Option (Option Bool):=match(full[j]?).bind (·.dst)with|none=>some none|some d=>match get fr d with|.c (.b q)=>some (some q)|.c .ig=>some none|_=>none
def iQ(d:Option Nat)(v:AV)(fr:Fr):Fr:=match d with|some d=>(d,v)::fr|none=>fr
def Wk(n:Nat)(fr:Fr)(H:AH)(S:Fr×AH):Prop:=∀(ρ:Ro)(w:World)(tm:Nat->Value),(∀s,aZ ρ (get fr s) (tm s))->HR ρ w H->∃bg,(∀s,aZ bg (get S.1 s) (tm s))/\HR bg w S.2/\(∀i L,(hg S.2 i).owned=true->bg i=some L->L.nil=false->∃j,(hg H j).owned=true/\ρ j=some L)/\(∀i,i<n->bg i=ρ i)
set_option linter.unusedVariables false in def aK(P:Program)(aa:ja)(k:List It)(fr:Fr)(H:AH)(Q:Fr->AH->Prop):Prop:=match k with
 |[]=>Q fr H|.dW _::k=>aK P aa k fr H Q|.back I::_=>I fr H|.sM::k=>aK P aa k fr H Q|.zb _ _::k=>aK P aa k fr H Q|.ops _ []::k=>aK P aa k fr H Q|.ops full (o::os)::k=>match o.guard with
   |none=>match cU P aa o.op ((bI o.op).map (ev fr)) H with|some (v,H')=>aK P aa (.ops full os::k) (iQ o.dst v fr) H' Q|none=>match LR aa o.op ((bI o.op).map (ev fr)) H with|some R=>∀v H',R v H'->aK P aa (.ops full os::k) (iQ o.dst v fr) H' Q|none=>False
   |some (j,want)=>match xz full fr j with|some (some q)=>if q=want then match cU P aa o.op ((bI o.op).map (ev fr)) H with|some (v,H')=>aK P aa (.ops full os::k) (iQ o.dst v fr) H' Q|none=>False else aK P aa (.ops full os::k) (iQ o.dst (.c .ig) fr) H Q|some none=>aK P aa (.ops full os::k) (iQ o.dst (.c .ig) fr) H Q|none=>False
 |.dr _ [] _ _::k=>aK P aa k fr H Q|.dr full (o::os) i log::k=>match o.guard with
   |none=>match cU P aa o.op ((bI o.op).map (ev fr)) H with|some (v,H')=>qY full i (nN (cC P aa o.op ((bI o.op).map (ev fr))) H H') log/\aK P aa (.dr full os (i+1) (C2 i (nN (cC P aa o.op ((bI o.op).map (ev fr))) H H') log)::k) (iQ o.dst v fr) H' Q|none=>False
   |some (j,want)=>match xz full fr j with|some (some q)=>if q=want then match cU P aa o.op ((bI o.op).map (ev fr)) H with|some (v,H')=>qY full i (nN (cC P aa o.op ((bI o.op).map (ev fr))) H H') log/\aK P aa (.dr full os (i+1) (C2 i (nN (cC P aa o.op ((bI o.op).map (ev fr))) H H') log)::k) (iQ o.dst v fr) H' Q|none=>False else aK P aa (.dr full os (i+1) log::k) (iQ o.dst (.c .ig) fr) H Q|some none=>aK P aa (.dr full os (i+1) log::k) (iQ o.dst (.c .ig) fr) H Q|none=>False
 |.c .skip::k=>aK P aa k fr H Q|.c (.region _ ops false)::k=>aK P aa (.ops ops ops.toList::k) fr H Q|.c (.region _ ops true)::k=>aK P aa (.dr ops ops.toList 0 []::k) fr H Q|.c (.seq a b)::k=>aK P aa (.c a::.c b::k) fr H Q|.c (.cond x a b)::k=>match ev fr x with|.c (.b q)=>if q=true then aK P aa (.c a::k) fr H Q else aK P aa (.c b::k) fr H Q|.c .qq=>aK P aa (.c a::k) fr H Q/\aK P aa (.c b::k) fr H Q|_=>False
 |.c (.block id c)::k=>aK P aa (.c c::.dW id::k) fr H Q|.c (.loop c)::k=>∃(ι:Type)(F:ι->Fr×AH)(μ:ι->Nat)(i0:ι),Wk (lo aa) fr H (F i0)/\∀i,aK P aa (.c c::.back (λfr H=>∃j,μ j<μ i/\Wk (lo aa) fr H (F j))::k) (F i).1 (F i).2 Q|.c (.exit id)::k=>match h:wy id k with|some k'=>aK P aa k' fr H Q|none=>False
 |.c (.label _)::k=>aK P aa k fr H Q|.c (.scope c)::k=>aK P aa (.c c::.sM::k) fr H Q\/∃(l:Nat)(rest:Code)(J:Fr->AH->Prop),findLabel c l=some rest/\aK P aa (.c c::.zb l J::k) fr H Q/\∃_:iD rest<=iD c,∀fr H,J fr H->aK P aa (.c rest::.sM::k) fr H Q|.c (.goto l)::k=>match Eb l k with|some J=>J fr H|none=>False
 |.c .ret::_=>Q fr H|.c _::_=>False termination_by fQ k decreasing_by
 all_goals simp_wf
 all_goals first|(simp[fQ,It.wt,iD];done)|(simp[fQ,It.wt,iD];omega)|(have hh:=V9 ‹_›;simp[fQ,It.wt,iD]at hh|-;omega)
end Go.Am
