/- An abstract machine for the model, part 1: its operations, and that they are the model's: no conditions. -/
import Derived.WalkKit
import Derived.Laws.BytesString
set_option linter.unusedSimpArgs false
set_option linter.unusedVariables false
/-
 An abstract machine for the model's Go: definitions. A frame is a list of slots with abstract values,a heap a list of abstract objects;
 'xop' runs one operation,'arun' a list of items;the next texts prove that whatever 'arun' says holds of the model.
-/
set_option maxRecDepth 100000
set_option maxHeartbeats 8000000
namespace Go.Am
inductive Sc where
 | i (n:Int)
 | u (x:BitVec 64)
 | k (kd:IntKind) (n:Int)
 | b (q:Bool)
 | qq
 | s (s:ByteArray)
 | nilp
 | p (id off ver:Nat)
 | nils
 | sl (id off ver len:Nat)
 | f (fn:Nat) (caps:List (Nat × Nat × Nat))
 | nilf
 | nilm
 | mp (id:Nat)
 | und
 | junk
 | any
inductive AV where
 | c (s:Sc)
 | g (l:List Sc)
 | t (l:List AV)
inductive AObj where
 | own (cs:List Sc)
 | vec (sz:Nat) (cs:List Sc)
 | view (cs:List Sc)
 | map (clk:Nat) (es:List (Nat × AV × AV))
 | iter (m since:Nat) (seen:List Nat) (last:Nat)
 | dead
def AObj.row:AObj→Nat
 | .vec _ cs=>cs.length
 | _=>0
def AObj.cells:AObj→List Sc
 | .own cs | .vec _ cs | .view cs=>cs
 | .map _ _ | .iter _ _ _ _ | .dead=>[]
def AV.scs:AV→List Sc
 | .c s=>[s]
 | .g l=>l
 | .t _=>[]
def AObj.scs:AObj→List Sc
 | .own cs | .vec _ cs | .view cs=>cs
 | .map _ es=>es.flatMap fun e=>e.2.1.scs++e.2.2.scs
 | .iter m _ _ _=>[.mp m]
 | .dead=>[]
def AObj.owned:AObj→Bool
 | .own _ | .vec _ _ | .map _ _ | .iter _ _ _ _=>true
 | _=>false
def AObj.live:AObj→Bool
 | .dead=>false
 | _=>true
def AObj.put (o:AObj) (cs:List Sc):AObj :=
 match o with
 | .own _=>.own cs
 | .vec z _=>.vec z cs
 | o=>o
abbrev Fr:=List (Nat × AV)
abbrev AH:=List AObj
def get:Fr→Nat→AV
 | [],_=>.c .any
 | (d,v)::r,s=>if d=s then v else get r s
def hg (H:AH) (i:Nat):AObj:=H.getD i .dead
def absS:Value→Sc
 | .int .i64 n=>if -9223372036854775808≤n∧n≤9223372036854775807 then .i n else .junk
 | .int .u64 n=>if 0≤n∧n≤18446744073709551615 then .u (BitVec.ofInt 64 n) else .junk
 | .int k n=>if k.min≤n∧n≤k.max then .k k n else .junk
 | .bool q=>.b q
 | .string s=>if s.size≤9223372036854775807 then .s s else .junk
 | .pointer none=>.nilp
 | .slice none 0 0=>.nils
 | .nilFunc=>.nilf
 | .map none=>.nilm
 | .agg _=>.any
 | .tuple _=>.any
 | _=>.junk
def absC:Value→AV
 | .agg cs=>.g (cs.toList.map absS)
 | .func (.func f) ⟨[]⟩ ⟨[]⟩=>.c (.f f [])
 | v=>.c (absS v)
def ev (fr:Fr):Operand→AV
 | .tmp t=>get fr t
 | .const v=>absC v
 | .func f=>.c (.f f [])
 | .global _=>.c .any
inductive D where
 | int (k:IntKind)
 | bool
 | str
 | ptr (e:Nat)
 | sl (e:Nat)
 | arr (n e:Nat)
 | st (fs:List (Nat × Nat))
 | other
 | non
def szT (P:Program) (t:Nat):Nat:=((P.info? t).map (·.size)).getD 0
def dT (P:Program) (t:Nat):D :=
 match P.underlying t with
 | some (.int k)=>.int k
 | some .bool=>.bool
 | some .string=>.str
 | some (.pointer e)=>.ptr e
 | some (.slice e)=>.sl e
 | some (.array n e)=>if 0 < szT P e then .arr n e else .non
 | some (.struct fs)=>if fs.toList.all (fun f=>decide (0 < szT P f.type)) then .st (fs.toList.map fun f=>(f.offset,f.type)) else .non
 | some _=>.other
 | none=>.non
def byT (P:Program) (t:Nat):Nat:=((P.info? t).map (·.bytes)).getD 0
def D.agg:D→Bool
 | .st _ | .arr _ _=>true
 | _=>false
def D.is:D→Bool
 | .non=>false
 | _=>true
def zT (P:Program) (t:Nat):Option (List Sc) :=
 match (P.info? t).bind (·.zero) with
 | some (.agg cs)=>some (cs.toList.map absS)
 | some v=>some [absS v]
 | none=>none
def AV.cells:AV→Option (List Sc)
 | .c .any=>none
 | .c .und=>none
 | .c s=>some [s]
 | .g l=>some l
 | .t _=>none
def Sc.one:Sc→Bool
 | .any | .und=>false
 | _=>true
def w64 (n:Int):Int:=IntKind.i64.wrap n
def cmpI (op:BinOp) (x y:Int):Option AV :=
 match op with
 | .eql=>some (.c (.b (decide (x=y))))
 | .neq=>some (.c (.b (!decide (x=y))))
 | .lss=>some (.c (.b (decide (x < y))))
 | .leq=>some (.c (.b (decide (x≤y))))
 | .gtr=>some (.c (.b (decide (y < x))))
 | .geq=>some (.c (.b (decide (y≤x))))
 | _=>none
def binU (op:BinOp) (x y:BitVec 64):Option AV :=
 match op with
 | .add=>some (.c (.u (x+y)))
 | .sub=>some (.c (.u (x - y)))
 | .mul=>some (.c (.u (x * y)))
 | .quo=>if y=0#64 then none else some (.c (.u (x / y)))
 | .rem=>if y=0#64 then none else some (.c (.u (x % y)))
 | .and=>some (.c (.u (x &&& y)))
 | .or=>some (.c (.u (x ||| y)))
 | .xor=>some (.c (.u (x ^^^ y)))
 | .andNot=>some (.c (.u (x &&& ~~~y)))
 | .eql=>some (.c (.b (decide (x=y))))
 | .neq=>some (.c (.b (!decide (x=y))))
 | .lss=>some (.c (.b (decide (x < y))))
 | .leq=>some (.c (.b (decide (x≤y))))
 | .gtr=>some (.c (.b (decide (y < x))))
 | .geq=>some (.c (.b (decide (y≤x))))
 | _=>none
def binI (op:BinOp) (x y:Int):Option AV :=
 match op with
 | .add=>some (.c (.i (w64 (x+y))))
 | .sub=>some (.c (.i (w64 (x - y))))
 | .mul=>some (.c (.i (w64 (x * y))))
 | .quo=>if y=0 then none else some (.c (.i (w64 (x.tdiv y))))
 | .rem=>if y=0 then none else some (.c (.i (x.tmod y)))
 | .and=>some (.c (.i (w64 ((BitVec.ofInt 64 x &&& BitVec.ofInt 64 y).toNat))))
 | .or=>some (.c (.i (w64 ((BitVec.ofInt 64 x ||| BitVec.ofInt 64 y).toNat))))
 | op=>cmpI op x y
def binK (op:BinOp) (k:IntKind) (x y:Int):Option AV :=
 match op with
 | .add=>some (.c (.k k (k.wrap (x+y))))
 | .sub=>some (.c (.k k (k.wrap (x - y))))
 | .mul=>some (.c (.k k (k.wrap (x * y))))
 | .rem=>if 0≤x∧0 < y then some (.c (.k k (x.tmod y))) else none
 | .and=>some (.c (.k k (k.wrap ((BitVec.ofInt k.bits x &&& BitVec.ofInt k.bits y).toNat))))
 | .or=>some (.c (.k k (k.wrap ((BitVec.ofInt k.bits x ||| BitVec.ofInt k.bits y).toNat))))
 | .xor=>some (.c (.k k (k.wrap ((BitVec.ofInt k.bits x ^^^ BitVec.ofInt k.bits y).toNat))))
 | .andNot=>some (.c (.k k (k.wrap ((BitVec.ofInt k.bits x &&& ~~~(BitVec.ofInt k.bits y)).toNat))))
 | op=>cmpI op x y
def binB (op:BinOp) (x y:Bool):Option AV :=
 match op with
 | .eql=>some (.c (.b (x == y)))
 | .neq=>some (.c (.b (!(x == y))))
 | _=>none
def far:Sc→Option Nat
 | .u y=>some y.toNat
 | .i n=>if 0≤n then some n.toNat else none
 | .k _ n=>if 0≤n then some n.toNat else none
 | _=>none
def shU (op:BinOp) (x:BitVec 64) (n:Nat):Option AV :=
 match op with
 | .shl=>some (.c (.u (x <<< n)))
 | .shr=>some (.c (.u (x >>> n)))
 | _=>none
def shI (op:BinOp) (x:Int) (n:Nat):Option AV :=
 match op with
 | .shl=>some (.c (.i (w64 (x * 2 ^ (min n 64)))))
 | .shr=>some (.c (.i (x / 2 ^ (min n 64))))
 | _=>none
def shK (op:BinOp) (k:IntKind) (x:Int) (n:Nat):Option AV :=
 match op with
 | .shl=>some (.c (.k k (k.wrap (x * 2 ^ (min n k.bits)))))
 | .shr=>some (.c (.k k (x / 2 ^ (min n k.bits))))
 | _=>none
def binSt (op:BinOp) (x y:ByteArray):Option AV :=
 match op with
 | .eql=>some (.c (.b (decide (x=y))))
 | .neq=>some (.c (.b (!decide (x=y))))
 | .add=>if x.size+y.size≤9223372036854775807 then some (.c (.s (x++y))) else none
 | _=>none
inductive Tg where
 | n
 | q
 | s
def scEq:Tg→Sc→Sc→Option Bool
 | .n,.i x,.i y=>some (decide (x=y))
 | .n,.u x,.u y=>some (decide (x=y))
 | .n,.k k x,.k k' y=>if k=k' then some (decide (x=y)) else none
 | .q,.b x,.b y=>some (x == y)
 | .s,.s x,.s y=>some (decide (x=y))
 | _,_,_=>none
def csEq:List Tg→List Sc→List Sc→Option Bool
 | [],[],[]=>some true
 | g::gs,x::xs,y::ys =>
   match scEq g x y,csEq gs xs ys with
   | some a,some c=>some (a && c)
   | _,_=>none
 | _,_,_=>none
def tagsT (P:Program):Nat→Nat→Option (List Tg)
 | 0,_=>none
 | d+1,t =>
   let r:Option (List Tg):=match P.underlying t with
   | some (.int _)=>some [.n]
   | some .bool=>some [.q]
   | some .string=>some [.s]
   | some (.struct fs)=>if P.stoodInHeld t then none else fs.toList.foldl (fun (o:Option (List Tg)) f=>o.bind fun l=>if f.offset=l.length∧f.name≠ "_" then (tagsT P d f.type).map fun m=>l++m else none) (some [])
   | some (.array n e)=>(tagsT P d e).map fun m=>(List.replicate n m).flatten
   | _=>none
   r.bind fun l=>if l.length=szT P t∧0 < szT P t∧(dT P t).is=true then some l else none
def eqU (op:BinOp) (q:Bool):Option AV :=
 match op with
 | .eql=>some (.c (.b q))
 | .neq=>some (.c (.b (!q)))
 | _=>none
def abin (P:Program) (op:BinOp) (t:Nat) (x y:AV):Option AV :=
 match op,x,y with
 | .shl,.c (.u x),.c n=>(far n).bind (shU .shl x)
 | .shr,.c (.u x),.c n=>(far n).bind (shU .shr x)
 | .shl,.c (.i x),.c n=>(far n).bind (shI .shl x)
 | .shr,.c (.i x),.c n=>(far n).bind (shI .shr x)
 | .shl,.c (.k k x),.c n=>(far n).bind (shK .shl k x)
 | .shr,.c (.k k x),.c n=>(far n).bind (shK .shr k x)
 | op,.c (.u x),.c (.u y)=>binU op x y
 | op,.c (.i x),.c (.i y)=>binI op x y
 | op,.c (.k k x),.c (.k k' y)=>if k=k' then binK op k x y else none
 | op,.c (.b x),.c (.b y)=>if (dT P t matches .bool) then binB op x y else none
 | op,.c (.s x),.c (.s y)=>binSt op x y
 | op,.g x,.g y=>if (dT P t).agg=false then none else (tagsT P 12 t).bind fun g=>(csEq g x y).bind (eqU op)
 | op,.c (.p _ _ _),.c .nilp=>if (dT P t matches .ptr _) then eqU op false else none
 | op,.c .nilp,.c .nilp=>if (dT P t matches .ptr _) then eqU op true else none
 | op,.c (.sl _ _ _ n),.c .nils=>if (dT P t matches .sl _) then (if n=0 then ((eqU op false).map fun _=>.c .qq) else eqU op false) else none
 | op,.c .nils,.c .nils=>if (dT P t matches .sl _) then eqU op true else none
 | op,.c (.f _ _),.c .nilf=>if (P.underlying t matches some (.func _ _ _)) then eqU op false else none
 | op,.c .nilf,.c .nilf=>if (P.underlying t matches some (.func _ _ _)) then eqU op true else none
 | _,_,_=>none
def aun (op:UnOp) (x:AV):Option AV :=
 match op,x with
 | .not,.c (.b q)=>some (.c (.b (!q)))
 | .neg,.c (.i n)=>some (.c (.i (w64 (-n))))
 | .neg,.c (.u x)=>some (.c (.u (-x)))
 | .xor,.c (.u x)=>some (.c (.u (~~~x)))
 | _,_=>none
def acv (P:Program) (dst:Nat) (x:AV):Option AV :=
 match dT P dst,x with
 | .int .i64,.c (.i n)=>some (.c (.i n))
 | .int .i64,.c (.u x)=>some (.c (.i x.toInt))
 | .int .i64,.c (.k _ n)=>some (.c (.i n))
 | .int .u64,.c (.i n)=>some (.c (.u (BitVec.ofInt 64 n)))
 | .int .u64,.c (.u x)=>some (.c (.u x))
 | .int .u64,.c (.k _ n)=>some (.c (.u (BitVec.ofInt 64 n)))
 | .int k,.c (.i n)=>some (.c (.k k (k.wrap n)))
 | .int k,.c (.u x)=>some (.c (.k k (k.wrap x.toNat)))
 | .int k,.c (.k _ n)=>some (.c (.k k (k.wrap n)))
 | .str,.c (.s s)=>some (.c (.s s))
 | _,_=>none
def rd (ag:Bool) (cs:List Sc) (off n:Nat):AV :=
 if ag then .g ((cs.drop off).take n) else .c (cs.getD off .any)
def wr (cs:List Sc) (off:Nat) (l:List Sc):List Sc:=cs.take off++l++cs.drop (off+l.length)
def fillA (place:Nat→Option (Nat × Nat)):List Sc→List (Nat × AV)→Option (List Sc)
 | cs,[]=>some cs
 | cs,(i,v)::r =>
   match place i,v.cells with
   | some (off,n),some l=>if l.length=n∧off+n≤cs.length then fillA place (wr cs off l) r else none
   | _,_=>none
def placeA (P:Program) (d:D) (i:Nat):Option (Nat × Nat) :=
 match d with
 | .st fs=>(fs[i]?).map fun f=>(f.1,szT P f.2)
 | .arr _ e=>some (i * szT P e,szT P e)
 | _=>none
def buildA (P:Program) (t:Nat) (ps:List (Nat × AV)):Option AV :=
 match zT P t,(dT P t).agg with
 | some z,true=>(fillA (placeA P (dT P t)) z ps).map .g
 | _,_=>none
def caps:List AV→Option (List (Nat × Nat × Nat))
 | []=>some []
 | .c (.p a b c)::r=>(caps r).map ((a,b,c) :: ·)
 | _=>none
def ixA:AV→Option Int
 | .c (.i n)=>some n
 | .c (.u x)=>some x.toNat
 | .c (.k _ n)=>some n
 | _=>none
def indexAddrA (P:Program) (t:Nat) (x ix:AV):Option AV :=
 match dT P t,x,ixA ix with
 | .arr n e,.c (.p id off ver),some i=>if 0≤i∧i < n∧0 < szT P e then some (.c (.p id (off+i.toNat * szT P e) ver)) else none
 | .sl e,.c (.sl id off ver len),some i=>if 0≤i∧i < len∧0 < szT P e then some (.c (.p id (off+i.toNat * szT P e) ver)) else none
 | _,_,_=>none
def indexA (P:Program) (t:Nat) (x ix:AV):Option AV :=
 match dT P t,x,ixA ix with
 | .arr n e,.g l,some i=>if 0≤i∧i < n∧0 < szT P e∧(dT P e).is∧i.toNat * szT P e+szT P e≤l.length then some (rd (dT P e).agg l (i.toNat * szT P e) (szT P e)) else none
 | .str,.c (.s s),some i=>if 0≤i∧i < s.size then some (.c (.k .u8 ((s.data.getD i.toNat 0).toNat))) else none
 | _,_,_=>none
def loOf:Option AV→Option Int
 | none=>some 0
 | some v=>ixA v
def hiOf (n:Nat):Option AV→Option Int
 | none=>some n
 | some v=>ixA v
def sliceA (P:Program) (t:Nat) (x:AV) (lo hi:Option AV):Option AV :=
 match dT P t,x with
 | .sl e,.c (.sl id off ver len) =>
   match loOf lo,hiOf len hi with
   | some l,some h=>if 0≤l∧l≤h∧h≤len∧0 < szT P e then some (.c (.sl id (off+l.toNat * szT P e) ver (h.toNat - l.toNat))) else none
   | _,_=>none
 | .sl e,.c .nils =>
   match loOf lo,hiOf 0 hi with
   | some l,some h=>if l=0∧h=0∧0 < szT P e then some (.c .nils) else none
   | _,_=>none
 | .arr n e,.c (.p id off ver) =>
   match loOf lo,hiOf n hi with
   | some l,some h=>if 0≤l∧l < h∧h≤n∧n≤1048576∧0 < szT P e∧ver=0 then some (.c (.sl id (off+l.toNat * szT P e) ver (h.toNat - l.toNat))) else none
   | _,_=>none
 | .str,.c (.s s) =>
   match loOf lo,hiOf s.size hi with
   | some l,some h=>if 0≤l∧l≤h∧h≤s.size then some (.c (.s (s.extract l.toNat h.toNat))) else none
   | _,_=>none
 | _,_=>none
def slice3A (P:Program) (t:Nat) (x lo hi mx:AV):Option AV :=
 match dT P t,x with
 | .sl e,.c (.sl id off ver len) =>
   match ixA lo,ixA hi,ixA mx with
   | some l,some h,some m=>if 0≤l∧l < h∧h≤m∧m≤len∧0 < szT P e then some (.c (.sl id (off+l.toNat * szT P e) ver (h.toNat - l.toNat))) else none
   | _,_,_=>none
 | _,_=>none
def lenA (P:Program) (t:Nat) (x:AV):Option AV :=
 match dT P t,x with
 | .sl _,.c (.sl _ _ _ len)=>some (.c (.i len))
 | .sl _,.c .nils=>some (.c (.i 0))
 | .str,.c (.s s)=>some (.c (.i s.size))
 | .arr n _,_=>if n≤1048576 then some (.c (.i n)) else none
 | _,_=>none
def min2 (mx:Bool):AV→AV→Option AV
 | .c (.i x),.c (.i y)=>some (.c (.i (if mx then max x y else min x y)))
 | _,_=>none
def minL (mx:Bool):List AV→Option AV
 | [x,y]=>min2 mx x y
 | _=>none
def mT (P:Program) (t:Nat):Option (Nat × Nat) :=
 match P.underlying t with
 | some (.map k e)=>some (k,e)
 | _=>none
def kA (P:Program) (kt:Nat):Option Bool :=
 match dT P kt with
 | .int _=>some false
 | .st fs=>if fs.all (fun f=>(match dT P f.2 with | .int _ | .bool | .str=>true | _=>false) && decide (0 < szT P f.2∧f.1+szT P f.2≤szT P kt)) && (tagsT P 12 kt).isSome then some true else none
 | _=>none
def kEq (P:Program) (kt:Nat) (x y:AV):Option Bool :=
 match kA P kt,x,y with
 | some false,.c (.i a),.c (.i b)=>some (decide (a=b))
 | some false,.c (.u a),.c (.u b)=>some (decide (a=b))
 | some false,.c (.k k a),.c (.k k' b)=>if k=k' then some (decide (a=b)) else none
 | some true,.g l,.g m=>(tagsT P 12 kt).bind fun g=>csEq g l m
 | _,_,_=>none
def kOk (P:Program) (kt:Nat) (x:AV):Bool :=
 match kA P kt,x with
 | some false,.c (.i _) | some false,.c (.u _) | some false,.c (.k _ _)=>true
 | some true,.g l=>decide (l.length=szT P kt)
 | _,_=>false
def findA (P:Program) (kt:Nat) (k:AV):List (Nat × AV × AV)→Nat→Option (Option (Nat × AV))
 | [],_=>some none
 | e::es,i =>
   match kEq P kt k e.2.1 with
   | some true=>some (some (i,e.2.2))
   | some false=>findA P kt k es (i+1)
   | none=>none
def AV.flat1:AV→Bool
 | .t _=>false
 | _=>true
def zA (P:Program) (t:Nat):Option AV:=((P.info? t).bind (·.zero)).map absC
def mokA (ok:Bool) (v:AV) (q:Bool):AV:=if ok then .t [v,.c (.b q)] else v
def lookA (P:Program) (t:Nat) (m k:AV) (ok:Bool) (H:AH):Option AV :=
 match mT P t with
 | some (kt,et) =>
   if kOk P kt k=true then
    match m with
    | .c .nilm=>(zA P et).map fun z=>mokA ok z false
    | .c (.mp id) =>
      match hg H id with
      | .map _ es =>
        match findA P kt k es 0 with
        | some (some (_,v))=>some (mokA ok v true)
        | some none=>(zA P et).map fun z=>mokA ok z false
        | none=>none
      | _=>none
    | _=>none
   else none
 | none=>none
def updA (P:Program) (t:Nat) (m k v:AV) (H:AH):Option AH :=
 match mT P t,m with
 | some (kt,_),.c (.mp id) =>
   if kOk P kt k=true∧v.flat1=true then
    match hg H id with
    | .map clk es =>
      match findA P kt k es 0 with
      | some (some (i,_))=>some (H.set id (.map clk (es.set i ((es.getD i (0,k,v)).1,k,v))))
      | some none=>some (H.set id (.map (clk+1) (es++[(clk,k,v)])))
      | none=>none
    | _=>none
   else none
 | _,_=>none
def delA (P:Program) (t:Nat) (m k:AV) (H:AH):Option AH :=
 match mT P t,m with
 | some (kt,_),.c (.mp id) =>
   if kOk P kt k=true then
    match hg H id with
    | .map clk es =>
      match findA P kt k es 0 with
      | some (some (i,_))=>some (H.set id (.map clk (es.eraseIdx i)))
      | some none=>some H
      | none=>none
    | _=>none
   else none
 | _,_=>none
def mlenA (P:Program) (t:Nat) (m:AV) (H:AH):Option AV :=
 match mT P t,m with
 | some _,.c .nilm=>some (.c (.i 0))
 | some _,.c (.mp id) =>
   match hg H id with
   | .map _ es=>if es.length≤9223372036854775807 then some (.c (.i es.length)) else none
   | _=>none
 | _,_=>none
def clrA (P:Program) (t:Nat) (x:AV) (H:AH):Option AH :=
 match dT P t,x with
 | .sl e,.c .nils=>some H
 | .sl e,.c (.sl id off ver n) =>
   match zT P e with
   | some z =>
     if n=0 then some H
     else if (hg H id).owned=true∧ver=(hg H id).row∧0 < szT P e∧z.length=szT P e∧off+n * szT P e≤(hg H id).cells.length∧z.all Sc.one=true then
      some (H.set id ((hg H id).put (wr (hg H id).cells off (List.replicate n z).flatten)))
     else none
   | none=>none
 | _,_=>none
def srcA (H:AH) (sz:Nat) (y:AV):Option (List Sc × Nat) :=
 match y with
 | .c .nils=>some ([],0)
 | .c (.sl id off ver n)=>if ver=(hg H id).row∧off+n * sz≤(hg H id).cells.length then some (((hg H id).cells.drop off).take (n * sz),n) else none
 | _=>none
def copA (P:Program) (t:Nat) (x y:AV) (H:AH):Option (AV × AH) :=
 match dT P t,x with
 | .sl e,.c (.sl id off ver len) =>
   match srcA H (szT P e) y with
   | some (new,n) =>
     if 0 < szT P e∧n≤len then
      if n=0 then some (.c (.i 0),H)
      else if (hg H id).owned=true∧ver=(hg H id).row∧off+new.length≤(hg H id).cells.length∧new.all Sc.one=true then
       some (.c (.i n),H.set id ((hg H id).put (wr (hg H id).cells off new)))
      else none
     else none
   | none=>none
 | _,_=>none
def rngA (P:Program) (t:Nat) (id:Nat) (H:AH):Option (AV × AH) :=
 match hg H id with
 | .map clk _=>if (mT P t).isSome=true then some (.c (.p H.length 0 0),H++[.iter id clk [] clk]) else none
 | _=>none
def entA (id:Nat) (H:AH):Option AV :=
 match hg H id with
 | .iter m _ seen last =>
   match hg H m with
   | .map clk es =>
     if clk=last then
      match seen.getLast? with
      | some b=>(es.find? fun e=>e.1 == b).map fun e=>.t [e.2.1,e.2.2]
      | none=>none
     else none
   | _=>none
 | _=>none
def nxl (H:AH) (id m since:Nat) (seen:List Nat) (clk:Nat) (l:List (Nat × AV × AV)):List (AV × AH) :=
 match l with
 | []=>[(.t [.c (.b false)],H)]
 | e::l=>(e::l).map fun e=>(.t [.c (.b true),e.2.1,e.2.2],H.set id (.iter m since (seen++[e.1]) clk))
def itA (id:Nat) (H:AH):Option (List (AV × AH)) :=
 match hg H id with
 | .iter m since seen last =>
   match hg H m with
   | .map clk es=>if (es.all fun e=>decide (e.1 < since))=true∧since≤last then some (nxl H id m since seen clk (es.filter fun e=>!seen.contains e.1)) else none
   | _=>none
 | _=>none
def itS (op:Op) (vs:List AV) (H:AH):Option (List (AV × AH)) :=
 match op,vs with
 | .next _ false,[.c (.p id 0 0)]=>itA id H
 | _,_=>none
def isM:Op→List AV→Bool
 | .makeMap _ _,_ | .lookup _ _ _ _,_ | .mapUpdate _ _ _ _,_ | .insert _ _ _ _,_ | .range _ _,_ | .entry _,_=>true
 | .call ⟨.builtin .delete,_,_⟩,_ | .call ⟨.builtin .clear,_,_⟩,_ | .call ⟨.builtin .copy,_,_⟩,_=>true
 | .call ⟨.builtin .len,_,_⟩,[.c (.mp _)] | .call ⟨.builtin .len,_,_⟩,[.c .nilm]=>true
 | _,_=>false
def mopA (P:Program) (op:Op) (vs:List AV) (H:AH):Option (AV × AH) :=
 match op,vs with
 | .makeMap t none,[]=>if (mT P t).isSome then some (.c (.mp H.length),H++[.map 0 []]) else none
 | .makeMap t (some _),[.c (.i _)]=>if (mT P t).isSome then some (.c (.mp H.length),H++[.map 0 []]) else none
 | .lookup t _ _ ok,[m,k]=>(lookA P t m k ok H).map fun v=>(v,H)
 | .mapUpdate t _ _ _,[m,k,v]=>(updA P t m k v H).map fun H'=>(.c .und,H')
 | .insert t _ _ _,[m,k,v]=>(updA P t m k v H).map fun H'=>(.c .und,H')
 | .call ⟨.builtin .delete,_,ts⟩,[m,k]=>(ts[0]?).bind fun t=>(delA P t m k H).map fun H'=>(.t [],H')
 | .call ⟨.builtin .clear,_,ts⟩,[x]=>(ts[0]?).bind fun t=>(clrA P t x H).map fun H'=>(.t [],H')
 | .call ⟨.builtin .copy,_,ts⟩,[x,y]=>(ts[0]?).bind fun t=>copA P t x y H
 | .call ⟨.builtin .len,_,ts⟩,[m]=>(ts[0]?).bind fun t=>(mlenA P t m H).map fun v=>(v,H)
 | .range t _,[.c (.mp id)]=>rngA P t id H
 | .entry _,[.c (.p id 0 0)]=>(entA id H).map fun v=>(v,H)
 | _,_=>none
def qop (P:Program) (op:Op) (vs:List AV) (os:List AObj):Option AV :=
 match op,vs with
 | .move _,[v]=>some v
 | .assign _,[v]=>some v
 | .pick _ _ _,[.c (.b q),x,y]=>some (if q then x else y)
 | .build t ps,vs=>buildA P t ((ps.toList.map (·.1)).zip vs)
 | .load t _,[.c (.p _ off ver)] =>
   match os with
   | [o]=>if ver=o.row∧off+szT P t≤o.cells.length∧0 < szT P t∧(dT P t).is∧((dT P t).agg=false→szT P t=1) then some (rd (dT P t).agg o.cells off (szT P t)) else none
   | _=>none
 | .nilCheck _,[.c (.p id off ver)]=>some (.c (.p id off ver))
 | .nilCheck _,[.c (.f f cs)]=>some (.c (.f f cs))
 | .binOp op t _ _ _,[x,y]=>abin P op t x y
 | .unOp op _ _,[x]=>aun op x
 | .convert src dst _,[x]=>if (dT P src).is then acv P dst x else none
 | .makeFunc (.func f) fs _,vs=>if fs.size=0 then (caps vs).map fun l=>.c (.f f l) else none
 | .fieldAddr t _ k,[.c (.p id off ver)] =>
   match dT P t with
   | .st fs=>match fs[k]? with
     | some f=>if 0 < szT P f.2 then some (.c (.p id (off+f.1) ver)) else none
     | none=>none
   | _=>none
 | .field t _ k,[.g l] =>
   match dT P t with
   | .st fs=>match fs[k]? with
     | some f=>if 0 < szT P f.2∧(dT P f.2).is∧f.1+szT P f.2≤l.length then some (rd (dT P f.2).agg l f.1 (szT P f.2)) else none
     | none=>none
   | _=>none
 | .indexAddr t _ _,[x,ix]=>indexAddrA P t x ix
 | .index t _ _,[x,ix]=>indexA P t x ix
 | .slice t _ lo hi none,x::r =>
   match lo,hi,r with
   | none,none,[]=>sliceA P t x none none
   | some _,none,[l]=>sliceA P t x (some l) none
   | none,some _,[h]=>sliceA P t x none (some h)
   | some _,some _,[l,h]=>sliceA P t x (some l) (some h)
   | _,_,_=>none
 | .slice t _ (some _) (some _) (some _),[x,l,h,m]=>slice3A P t x l h m
 | .extract _ k,[.t l]=>l[k]?
 | .call ⟨.builtin .len,_,ts⟩,[x]=>match ts[0]? with
   | some t=>lenA P t x
   | none=>none
 | .call ⟨.builtin .min,_,_⟩,vs=>minL false vs
 | .call ⟨.builtin .max,_,_⟩,vs=>minL true vs
 | _,_=>none
end Go.Am
/- The relation between abstract and concrete states, and the quiet operations: what 'qop' says the model's operation does. -/
namespace Go.Am
inductive L2 {α β:Type} (R:α→β→Prop):List α→List β→Prop
 | nil:L2 R [] []
 | cons {a b l m} (h:R a b) (t:L2 R l m):L2 R (a::l) (b::m)
namespace L2
variable {α β:Type} {R:α→β→Prop}
theorem length {l:List α} {m:List β} (h:L2 R l m):l.length=m.length:=by
 induction h with
 | nil=>rfl
 | cons _ _ ih=>simp [ih]
theorem mono {R':α→β→Prop} {l:List α} {m:List β} (h:L2 R l m) (hr:∀a b,R a b→R' a b):L2 R' l m:=by
 induction h with
 | nil=>exact .nil
 | cons h _ ih=>exact .cons (hr _ _ h) ih
theorem get? {l:List α} {m:List β} (h:L2 R l m):∀(i:Nat) (a:α),l[i]?=some a→∃b,m[i]?=some b∧R a b:=by
 induction h with
 | nil=>intro i a h;simp at h
 | cons h _ ih =>
   intro i x hx
   cases i with
   | zero=>simp at hx;subst hx;exact ⟨_,by simp,h⟩
   | succ i=>simpa using ih i x (by simpa using hx)
theorem app {l l':List α} {m m':List β} (h:L2 R l m) (h':L2 R l' m'):L2 R (l++l') (m++m'):=by
 induction h with
 | nil=>simpa using h'
 | cons h _ ih=>exact .cons h ih
theorem take {l:List α} {m:List β} (h:L2 R l m):∀n,L2 R (l.take n) (m.take n):=by
 induction h with
 | nil=>intro n;simp;exact .nil
 | cons h _ ih=>intro n;cases n with
   | zero=>simp;exact .nil
   | succ n=>simpa using .cons h (ih n)
theorem drop {l:List α} {m:List β} (h:L2 R l m):∀n,L2 R (l.drop n) (m.drop n):=by
 induction h with
 | nil=>intro n;simp;exact .nil
 | cons h t ih=>intro n;cases n with
   | zero=>simpa using .cons h t
   | succ n=>simpa using ih n
theorem map {γ δ:Type} {f:γ→α} {g:δ→β} {l:List γ} {m:List δ} (h:L2 (fun a b=>R (f a) (g b)) l m):L2 R (l.map f) (m.map g):=by
 induction h with
 | nil=>exact .nil
 | cons h _ ih=>exact .cons h ih
theorem refl' {l:List α} {S:α→α→Prop} (h:∀a∈l,S a a):L2 S l l:=by
 induction l with
 | nil=>exact .nil
 | cons x l ih=>exact .cons (h x (by simp)) (ih fun a ha=>h a (by simp [ha]))
theorem split {l1 l2:List α} {m:List β} (h:L2 R (l1++l2) m):∃m1 m2,m=m1++m2∧L2 R l1 m1∧L2 R l2 m2:=by
 induction l1 generalizing m with
 | nil=>exact ⟨[],m,rfl,.nil,by simpa using h⟩
 | cons x l ih=>cases h with
   | cons h t=>obtain ⟨m1,m2,rfl,a,b⟩:=ih t;exact ⟨_::m1,m2,rfl,.cons h a,b⟩
end L2
structure Loc where
 blk:Nat
 off:Nat
 cap:Nat
 row:Nat
 nil:Bool
 vec:Bool
abbrev Ro:=Nat→Option Loc
def PRel (ρ:Ro) (id off ver:Nat) (v:Value):Prop :=
 ∃L a,ρ id=some L∧v=.pointer (some a)∧ver≤L.row∧(ver=L.row→L.nil=false∧(L.vec=true→0 < L.row)∧a=⟨L.blk,L.off+off,none⟩)
def SlRel (ρ:Ro) (id off ver len:Nat) (v:Value):Prop :=
 ∃L base cap,ρ id=some L∧v=.slice base len cap∧(base=none→len=0∧cap=0)∧len≤cap∧len≤9223372036854775807∧ver≤L.row ∧
  (ver=L.row→if L.nil=true then base=none∧off=0∧len=0∧cap=0 else
    ∃a,base=some a∧((off=0∨0 < len)→a=⟨L.blk,L.off+off,none⟩)∧(off=0→L.vec=true→cap≤L.cap)∧(0 < len→L.vec=true→0 < L.row))
def SRel (ρ:Ro):Sc→Value→Prop
 | .i n,v=>v=.int .i64 n∧-9223372036854775808≤n∧n≤9223372036854775807
 | .u x,v=>v=.int .u64 (x.toNat:Int)
 | .k kd n,v=>v=.int kd n∧kd.bits≤32∧kd.min≤n∧n≤kd.max
 | .b q,v=>v=.bool q
 | .qq,v=>∃q,v=.bool q
 | .s s,v=>v=.string s∧s.size≤9223372036854775807
 | .nilp,v=>v=.pointer none
 | .p id off ver,v=>PRel ρ id off ver v
 | .nils,v=>v=.slice none 0 0
 | .sl id off ver len,v=>SlRel ρ id off ver len v
 | .f fn cs,v=>∃cv:List Value,v=.func (.func fn) #[] cv.toArray∧L2 (fun (c:Nat × Nat × Nat) v=>PRel ρ c.1 c.2.1 c.2.2 v) cs cv
 | .nilf,v=>v=.nilFunc
 | .nilm,v=>v=.map none
 | .mp id,v=>∃L b,ρ id=some L∧v=.map (some b)∧(L.row=0→b=L.blk)
 | .und,v=>v=undef
 | .junk,v=>v.oneCell'=true
 | .any,_=>True
def V1 (ρ:Ro):AV→Value→Prop
 | .c s,v=>SRel ρ s v
 | .g l,v=>∃cs:List Value,v=.agg cs.toArray∧L2 (SRel ρ) l cs
 | .t _,_=>False
def VRel (ρ:Ro):AV→Value→Prop
 | .c s,v=>SRel ρ s v
 | .g l,v=>∃cs:List Value,v=.agg cs.toArray∧L2 (SRel ρ) l cs
 | .t l,v=>∃vs:List Value,v=.tuple vs.toArray∧L2 (V1 ρ) l vs
theorem V1.vrel {ρ:Ro} {x:AV} {v:Value} (h:V1 ρ x v):VRel ρ x v:=by cases x <;> first | exact h | exact h.elim
theorem SRel.one {ρ:Ro} {s:Sc} {v:Value} (h:SRel ρ s v) (h1:s≠.any) (h2:s≠.und):v.oneCell'=true∧v.cells = #[v]:=by
 cases s with
 | i n=>obtain ⟨rfl,_⟩:=h;exact ⟨rfl,rfl⟩
 | u x=>cases h;exact ⟨rfl,rfl⟩
 | k kd n=>obtain ⟨rfl,_⟩:=h;exact ⟨rfl,rfl⟩
 | b q=>cases h;exact ⟨rfl,rfl⟩
 | qq=>obtain ⟨q,rfl⟩:=h;exact ⟨rfl,rfl⟩
 | s s=>obtain ⟨rfl,_⟩:=h;exact ⟨rfl,rfl⟩
 | nilp=>cases h;exact ⟨rfl,rfl⟩
 | p id off ver=>obtain ⟨L,a,_,rfl,_⟩:=h;exact ⟨rfl,rfl⟩
 | nils=>cases h;exact ⟨rfl,rfl⟩
 | sl id off ver len=>obtain ⟨L,a,c,_,rfl,_⟩:=h;exact ⟨rfl,rfl⟩
 | f fn cs=>obtain ⟨cv,rfl,_⟩:=h;exact ⟨rfl,rfl⟩
 | nilf=>cases h;exact ⟨rfl,rfl⟩
 | nilm=>cases h;exact ⟨rfl,rfl⟩
 | mp id=>obtain ⟨L,b,_,rfl,_⟩:=h;exact ⟨rfl,rfl⟩
 | und=>exact (h2 rfl).elim
 | junk =>
   have h:v.oneCell'=true:=h
   refine ⟨h,?_⟩
   cases v <;> simp_all [Value.oneCell',Value.cells]
 | any=>exact (h1 rfl).elim
theorem VRel.cells {ρ:Ro} {x:AV} {v:Value} {l:List Sc} (h:VRel ρ x v) (hc:x.cells=some l):∃cs:List Value,v.cells=cs.toArray∧L2 (SRel ρ) l cs∧(∀s,x=.c s→cs=[v]):=by
 cases x with
 | c s =>
   change SRel ρ s v at h
   have h1:s≠.any:=by rintro rfl;simp [AV.cells] at hc
   have h2:s≠.und:=by rintro rfl;simp [AV.cells] at hc
   obtain rfl:l=[s]:=by cases s <;> simp_all [AV.cells]
   exact ⟨[v],(SRel.one h h1 h2).2,.cons h .nil,fun _ _=>rfl⟩
 | g l' =>
   simp [AV.cells] at hc;subst hc
   obtain ⟨cs,rfl,h2⟩:=h
   exact ⟨cs,rfl,h2,fun _ h=>by cases h⟩
 | t l'=>simp [AV.cells] at hc
theorem bits_le {kd:IntKind} (h:kd≠.i64) (h':kd≠.u64):kd.bits≤32:=by cases kd <;> simp_all [IntKind.bits]
theorem one_of {v:Value} (h1:∀cs,v=.agg cs→False) (h2:∀cs,v=.tuple cs→False):v.oneCell'=true:=by
 cases v <;> first | rfl | exact (h1 _ rfl).elim | exact (h2 _ rfl).elim
theorem absS_rel (ρ:Ro) (v:Value):SRel ρ (absS v) v:=by
 unfold absS
 split
 ·split
  ·exact ⟨rfl,by omega,by omega⟩
  ·rfl
 ·split
  ·rename_i n h
   show Value.int .u64 n=.int .u64 _
   have:((BitVec.ofInt 64 n).toNat:Int)=n:=by rw [BitVec.toNat_ofInt];omega
   rw [this]
  ·rfl
 ·rename_i kd n h1 h2
  split
  ·refine ⟨rfl,bits_le (fun e=>?_) (fun e=>?_),by omega,by omega⟩
   ·subst e;exact h1 rfl
   ·subst e;exact h2 rfl
  ·rfl
 ·rfl
 ·split
  ·exact ⟨rfl,by omega⟩
  ·rfl
 ·rfl
 ·rfl
 ·rfl
 ·rfl
 ·trivial
 ·trivial
 ·exact one_of (by assumption) (by assumption)
theorem absC_rel (ρ:Ro) (v:Value):VRel ρ (absC v) v:=by
 unfold absC
 split
 ·rename_i cs
  refine ⟨cs.toList,by simp,?_⟩
  have:L2 (fun a b=>SRel ρ (absS a) b) cs.toList cs.toList:=L2.refl' fun a _=>absS_rel ρ a
  simpa using L2.map (f:=absS) (g:=id) this
 ·exact ⟨[],rfl,.nil⟩
 ·exact absS_rel ρ v
theorem ev_rel {ρ:Ro} {fr:Fr} {a:Act} (h:∀s,VRel ρ (get fr s) (a.tmps.getD s undef)) (x:Operand):VRel ρ (ev fr x) (a.eval x):=by
 cases x with
 | tmp t=>exact h t
 | const v=>exact absC_rel ρ v
 | global g=>trivial
 | func f=>exact ⟨[],rfl,.nil⟩
def ORel (ρ:Ro) (w:World) (i:Nat):AObj→Prop
 | .own cs=>∃(L:Loc) (c:List Value) (t:Nat),ρ i=some L∧L.off=0∧L.row=0∧L.nil=false∧L.vec=false∧w.heap[L.blk]?=some (.cells c.toArray t (0,0))∧L2 (SRel ρ) cs c
 | .vec sz cs=>∃(L:Loc),ρ i=some L∧L.off=0∧L.row=cs.length∧L.vec=true∧0 < sz ∧
    if L.nil=true then cs=[]∧L.cap=0 else ∃(c d:List Value) (t:Nat),w.heap[L.blk]?=some (.cells (c++d).toArray t (0,0))∧L.cap * sz=(c++d).length∧L2 (SRel ρ) cs c
 | .view cs=>∃(L:Loc),ρ i=some L∧L.row=0∧L.vec=false∧(L.nil=true→cs=[])∧(L.nil=false→L.blk < w.heap.size)∧∀j s,cs[j]?=some s→∃v,w.cell? ⟨L.blk,L.off+j,none⟩=some v∧SRel ρ s v
 | .map clk es=>∃(L:Loc) (ems:List MapEntry),ρ i=some L∧L.off=0∧L.row=0∧L.nil=false∧L.vec=false∧w.heap[L.blk]?=some (.map ems.toArray clk) ∧
    L2 (fun (a:Nat × AV × AV) (e:MapEntry)=>e.born=a.1∧V1 ρ a.2.1 e.key∧V1 ρ a.2.2 e.val) es ems
 | .iter m since seen last=>∃(L:Loc) (b:Nat),ρ i=some L∧L.off=0∧L.row=0∧L.nil=false∧L.vec=false∧SRel ρ (.mp m) (.map (some b))∧w.heap[L.blk]?=some (.mapIter (some b) since seen.toArray last)
 | .dead=>True
theorem ORel.cell {ρ:Ro} {w:World} {i:Nat} {o:AObj} (h:ORel ρ w i o) {L:Loc} (hL:ρ i=some L) {j:Nat} {s:Sc} (hs:o.cells[j]?=some s) :
 ∃v,w.cell? ⟨L.blk,L.off+j,none⟩=some v∧SRel ρ s v:=by
 cases o with
 | own cs =>
   obtain ⟨L',c,t,h1,h2,_,_,_,h3,h4⟩:=h
   obtain rfl:L=L':=by simpa [hL] using h1
   obtain ⟨v,hv,hr⟩:=h4.get? j s hs
   exact ⟨v,by simp [World.cell?,h3,h2,hv],hr⟩
 | vec sz cs =>
   obtain ⟨L',h1,h2,h3,_,_,h4⟩:=h
   obtain rfl:L=L':=by simpa [hL] using h1
   split at h4
   ·obtain ⟨rfl,_⟩:=h4;simp [AObj.cells] at hs
   ·obtain ⟨c,d,t,h5,_,h6⟩:=h4
    obtain ⟨v,hv,hr⟩:=h6.get? j s hs
    refine ⟨v,?_,hr⟩
    have hj:j < c.length:=by
     rcases Nat.lt_or_ge j c.length with h' | h'
     ·exact h'
     ·simp [List.getElem?_eq_none h'] at hv
    simp only [World.cell?,h5,h2,Nat.zero_add,List.getElem?_toArray,List.getElem?_append_left hj,hv]
    rfl
 | view cs =>
   obtain ⟨L',h1,_,_,_,_,h4⟩:=h
   obtain rfl:L=L':=by simpa [hL] using h1
   exact h4 j s hs
 | map clk es=>simp [AObj.cells] at hs
 | iter m since seen last=>simp [AObj.cells] at hs
 | dead=>simp [AObj.cells] at hs
theorem ORel.row {ρ:Ro} {w:World} {i:Nat} {o:AObj} (h:ORel ρ w i o) {L:Loc} (hL:ρ i=some L) (hl:o.live=true):L.row=o.row:=by
 cases o with
 | own cs=>obtain ⟨L',c,t,h1,_,h2,_⟩:=h;obtain rfl:L=L':=by simpa [hL] using h1
           exact h2
 | vec sz cs=>obtain ⟨L',h1,_,h2,_⟩:=h;obtain rfl:L=L':=by simpa [hL] using h1
              exact h2
 | view cs=>obtain ⟨L',h1,h2,_⟩:=h;obtain rfl:L=L':=by simpa [hL] using h1
            exact h2
 | map clk es=>obtain ⟨L',ems,h1,_,h2,_⟩:=h;obtain rfl:L=L':=by simpa [hL] using h1
               exact h2
 | iter m since seen last=>obtain ⟨L',b,h1,_,h2,_⟩:=h;obtain rfl:L=L':=by simpa [hL] using h1
                           exact h2
 | dead=>simp [AObj.live] at hl
end Go.Am
/- The quiet operations: what 'qop' says is what the model's operation does. -/
namespace Go.Am
variable {P:Program} {ρ:Ro}
def opnds:Op→List Operand
 | .move x | .assign x | .box _ x | .load _ x | .nilCheck x | .unOp _ _ x | .convert _ _ x | .fieldAddr _ x _ | .field _ x _ | .extract x _ | .range _ x | .next x _ | .entry x=>[x]
 | .pick c a b=>[c,a,b]
 | .build _ ps | .buildSlice _ _ ps=>ps.toList.map (·.2)
 | .store _ a v | .binOp _ _ a v _ | .makeSlice _ a v | .indexAddr _ a v | .index _ a v | .lookup _ a v _=>[a,v]
 | .makeMap _ r=>r.toList
 | .mapUpdate _ m k v | .insert _ m k v=>[m,k,v]
 | .makeFunc _ _ cs=>cs.toList
 | .slice _ x l h m=>x::(l.toList++h.toList++m.toList)
 | .call ⟨.value f,as,_⟩=>f::as.toList
 | .call ⟨.builtin _,as,_⟩=>as.toList
 | _=>[]
def touch:Op→List AV→List Nat
 | .load _ _,.c (.p id _ _)::_=>[id]
 | .store _ _ _,.c (.p id _ _)::_=>[id]
 | .call ⟨.builtin .append,_,_⟩,[.c (.sl id _ _ _),.c (.sl id' _ _ _)]=>[id,id']
 | .call ⟨.builtin .append,_,_⟩,[.c .nils,.c (.sl id' _ _ _)]=>[id']
 | .call ⟨.builtin .append,_,_⟩,[.c (.sl id _ _ _),.c .nils]=>[id]
 | _,_=>[]
theorem und_int {t:Nat} {k:IntKind} (h:dT P t=.int k):P.underlying t=some (.int k):=by
 unfold dT at h;split at h <;> (try split at h) <;> simp_all
theorem und_bool {t:Nat} (h:dT P t=.bool):P.underlying t=some .bool:=by
 unfold dT at h;split at h <;> (try split at h) <;> simp_all
theorem und_str {t:Nat} (h:dT P t=.str):P.underlying t=some .string:=by
 unfold dT at h;split at h <;> (try split at h) <;> simp_all
theorem und_ptr {t e:Nat} (h:dT P t=.ptr e):P.underlying t=some (.pointer e):=by
 unfold dT at h;split at h <;> (try split at h) <;> simp_all
theorem und_sl {t e:Nat} (h:dT P t=.sl e):P.underlying t=some (.slice e):=by
 unfold dT at h;split at h <;> (try split at h) <;> simp_all
theorem und_arr {t n e:Nat} (h:dT P t=.arr n e):P.underlying t=some (.array n e)∧0 < szT P e:=by
 unfold dT at h;split at h <;> (try split at h) <;> simp_all
theorem und_st {t:Nat} {fs:List (Nat × Nat)} (h:dT P t=.st fs):∃gs,P.underlying t=some (.struct gs)∧(∀f∈gs.toList,0 < szT P f.type)∧fs=gs.toList.map fun f=>(f.offset,f.type):=by
 unfold dT at h
 cases hu:P.underlying t with
 | none=>simp [hu] at h
 | some x =>
   rw [hu] at h
   cases x
   case struct gs =>
    simp only at h
    split at h
    ·rename_i hc
     simp only [D.st.injEq] at h
     exact ⟨gs,rfl,fun f hf=>by simpa using List.all_eq_true.1 hc f hf,h.symm⟩
    ·simp at h
   case array n e=>simp only at h;split at h <;> simp at h
   all_goals simp at h
theorem und_is {t:Nat} (h:(dT P t).is=true):∃d,P.underlying t=some d∧((dT P t).agg=true ↔ (d matches .struct _ | .array _ _)=true):=by
 unfold dT at *
 cases hu:P.underlying t with
 | none=>simp [hu,D.is] at h
 | some x =>
   rw [hu] at h
   cases x <;> simp [D.agg]
   ·rename_i n e
    simp only at h ⊢
    split at h
    ·rename_i hc;simp [hc]
    ·simp [D.is] at h
   ·rename_i fs
    simp only at h ⊢
    split at h
    ·rename_i hc;simp at hc;simp [hc]
    ·simp [D.is] at h
theorem info_of {t:Nat} (h:0 < szT P t):∃i,P.info? t=some i∧i.size=szT P t:=by
 unfold szT at *
 cases hi:P.info? t with
 | none=>simp [hi] at h
 | some i=>exact ⟨i,rfl,by simp⟩
theorem run_sizeOf' {t:Nat} (h:0 < szT P t) (w:World):(sizeOf t).run P w=.ok (szT P t) w:=by
 obtain ⟨i,hi,hs⟩:=info_of h
 simp [sizeOf,typeInfo,hi,hs]
theorem run_isAgg {t:Nat} (h:(dT P t).is=true) (w:World):(isAgg t).run P w=.ok (dT P t).agg w:=by
 obtain ⟨d,hd,hq⟩:=und_is h
 simp only [isAgg,Sem.run_bind,run_underlying hd,Result.andThen_ok]
 cases h2:(dT P t).agg <;> simp only [h2] at hq <;> cases d <;> simp at hq ⊢
theorem run_loadCellsFrom (w:World) (a:Addr) (vs:List Value):∀(i:Nat) (acc:Array Value),(∀j v,vs[j]?=some v→w.cell? (a.add (i+j))=some v) →
 (loadCellsFrom a i vs.length acc).run P w=.ok (acc++vs.toArray) w:=by
 induction vs with
 | nil=>intro i acc _;simp [loadCellsFrom]
 | cons v vs ih =>
   intro i acc h
   have h0:w.cell? (a.add i)=some v:=by simpa using h 0 v (by simp)
   simp only [List.length_cons,loadCellsFrom,Sem.run_bind,run_load,h0,Result.andThen_ok]
   rw [ih (i+1) (acc.push v) (fun j u hu=>by have:=h (j+1) u (by simpa using hu);rwa [show i+1+j=i+(j+1) by omega])]
   simp
theorem Addr.add_none (b o n:Nat):(⟨b,o,none⟩:Addr).add n=⟨b,o+n,none⟩:=by
 unfold Addr.add;split
 ·subst_vars;rfl
 ·rfl
theorem drop_take_get {α:Type} (l:List α) (o n j:Nat) (a:α) (h:((l.drop o).take n)[j]?=some a):l[o+j]?=some a:=by
 rw [List.getElem?_take] at h
 split at h
 ·simpa using h
 ·simp at h
theorem load_run {w:World} {i:Nat} {o:AObj} {L:Loc} {t off:Nat} (ho:ORel ρ w i o) (hL:ρ i=some L) (hlen:off+szT P t≤o.cells.length) (hsz:0 < szT P t)
 (his:(dT P t).is=true) (hone:(dT P t).agg=false→szT P t=1) :
 ∃v,(loadVar t ⟨L.blk,L.off+off,none⟩).run P w=.ok v w∧VRel ρ (rd (dT P t).agg o.cells off (szT P t)) v:=by
 have hcell:=fun (j:Nat) (s:Sc) (hs:o.cells[j]?=some s)=>ho.cell hL hs
 simp only [loadVar,Sem.run_bind,run_isAgg his,Result.andThen_ok]
 cases hag:(dT P t).agg with
 | true =>
   have key:∀(l:List Sc) (p:Nat),(∀j s,l[j]?=some s→o.cells[p+j]?=some s)→∃vs:List Value,L2 (SRel ρ) l vs∧∀j v,vs[j]?=some v→w.cell? ⟨L.blk,L.off+(p+j),none⟩=some v:=by
    intro l
    induction l with
    | nil=>intro p _;exact ⟨[],.nil,by simp⟩
    | cons s l ih =>
      intro p h
      obtain ⟨v,hv,hr⟩:=hcell p s (by simpa using h 0 s (by simp))
      obtain ⟨vs,h1,h2⟩:=ih (p+1) (fun j s' hs'=>by have:=h (j+1) s' (by simpa using hs');rwa [show p+1+j=p+(j+1) by omega])
      refine ⟨v::vs,.cons hr h1,fun j u hu=>?_⟩
      cases j with
      | zero=>simp at hu;subst hu;exact hv
      | succ j=>have:=h2 j u (by simpa using hu);rwa [show p+(j+1)=p+1+j by omega]
   obtain ⟨vs,h1,h2⟩:=key ((o.cells.drop off).take (szT P t)) off (fun j s hs=>drop_take_get _ _ _ _ _ hs)
   have hl:vs.length=szT P t:=by rw [←h1.length];simp;omega
   refine ⟨.agg vs.toArray,?_,vs,rfl,h1⟩
   simp only [if_true,Sem.run_bind,run_sizeOf' hsz,Result.andThen_ok,loadCells]
   rw [←hl,run_loadCellsFrom w _ vs 0 #[] (fun j v hv=>by rw [Addr.add_none,Nat.zero_add,Nat.add_assoc];exact h2 j v hv)]
   simp
 | false =>
   have h1:=hone hag
   have hlt:off < o.cells.length:=by omega
   obtain ⟨v,hv,hr⟩:=hcell off o.cells[off] (by simp [hlt])
   refine ⟨v,by simp [hv],?_⟩
   show SRel ρ (o.cells.getD off .any) v
   rw [List.getD_eq_getElem?_getD];simp [hlt,hr]
theorem ofInt_toNat_u (x:BitVec 64):BitVec.ofInt 64 (x.toNat:Int)=x:=by simp
theorem wrap_u (n:Int):IntKind.u64.wrap n=((BitVec.ofInt 64 n).toNat:Int):=by
 rw [IntKind.wrap_u64,BitVec.toNat_ofInt];omega
theorem wrap_i (n:Int):-9223372036854775808≤w64 n∧w64 n≤9223372036854775807:=by
 unfold w64;simp only [IntKind.wrap,IntKind.bits,IntKind.signed,Bool.true_and];split <;> simp at * <;> omega
theorem w64_id {n:Int} (h:-9223372036854775808≤n) (h':n≤9223372036854775807):w64 n=n:=by
 unfold w64;simp only [IntKind.wrap,IntKind.bits,IntKind.signed,Bool.true_and];split <;> simp at * <;> omega
theorem wrap_k (k:IntKind) (n:Int):k.min≤k.wrap n∧k.wrap n≤k.max:=by
 cases k <;> simp only [IntKind.wrap,IntKind.bits,IntKind.signed,IntKind.min,IntKind.max,Bool.true_and,Bool.false_and] <;> (try split) <;> simp at * <;> omega
theorem wrap_i_toInt (x:BitVec 64):IntKind.i64.wrap (x.toNat:Int)=x.toInt:=by
 have h:=x.isLt
 rw [BitVec.toInt_eq_toNat_cond]
 simp only [IntKind.wrap,IntKind.bits,IntKind.signed,Bool.true_and]
 split <;> split <;> simp at * <;> omega
end Go.Am
/- Binary and unary operations, conversions. -/
namespace Go.Am
variable {P:Program} {ρ:Ro}
theorem run_part {t off:Nat} {cs:List Value} (his:(dT P t).is=true) (hsz:0 < szT P t) (w:World) (hlen:off+szT P t≤cs.length) :
 (part t cs.toArray off).run P w=.ok (if (dT P t).agg=true then .agg ((cs.drop off).take (szT P t)).toArray else cs.getD off .nilIface) w:=by
 simp only [part,Sem.run_bind,run_isAgg his,Result.andThen_ok]
 cases hag:(dT P t).agg with
 | true =>
   simp only [if_true,Sem.run_bind,run_sizeOf' hsz,Result.andThen_ok,Sem.run_pure,Result.ok.injEq,Value.agg.injEq,and_true]
   apply Array.ext'
   simp [List.extract_eq_take_drop]
 | false =>
   have:off < cs.length:=by omega
   simp [this]
def mkV (P:Program) (t:Nat) (cs:List Value):Value:=if (dT P t).agg=true then .agg cs.toArray else cs.getD 0 .nilIface
theorem bytes_beq (a b:ByteArray):(a == b)=decide (a=b):=by
 rw [beq_toListBytes,ByteArray.toList_eq,ByteArray.toList_eq]
 obtain ⟨⟨x⟩⟩:=a
 obtain ⟨⟨y⟩⟩:=b
 rw [Bool.eq_iff_iff];simp
theorem scEq_rel {g:Tg} {a b:Sc} {x y:Value} {q:Bool} (h:scEq g a b=some q) (hx:SRel ρ a x) (hy:SRel ρ b y) :
 (g=.n∧∃k m n,x=.int k m∧y=.int k n∧q=(m == n))∨(g=.q∧∃m n,x=.bool m∧y=.bool n∧q=(m == n))∨(g=.s∧∃m n,x=.string m∧y=.string n∧q=(m == n)):=by
 unfold scEq at h
 split at h
 ·simp at h;obtain ⟨rfl,_⟩:=hx;obtain ⟨rfl,_⟩:=hy
  exact .inl ⟨rfl,_,_,_,rfl,rfl,by rw [←h];rfl⟩
 ·simp at h;cases hx;cases hy
  refine .inl ⟨rfl,_,_,_,rfl,rfl,?_⟩
  rw [←h,Bool.eq_iff_iff];simp [BitVec.toNat_eq];omega
 ·split at h
  ·simp at h;obtain ⟨rfl,_⟩:=hx;obtain ⟨rfl,_⟩:=hy;subst_vars
   exact .inl ⟨rfl,_,_,_,rfl,rfl,rfl⟩
  ·simp at h
 ·simp at h;cases hx;cases hy
  exact .inr (.inl ⟨rfl,_,_,rfl,rfl,h.symm⟩)
 ·simp at h;obtain ⟨rfl,_⟩:=hx;obtain ⟨rfl,_⟩:=hy
  exact .inr (.inr ⟨rfl,_,_,rfl,rfl,by rw [←h,bytes_beq]⟩)
 ·simp at h
theorem csEq_len {g:List Tg} {a b:List Sc} {q:Bool} (h:csEq g a b=some q):a.length=g.length∧b.length=g.length:=by
 induction g generalizing a b q with
 | nil=>unfold csEq at h;split at h <;> simp_all
 | cons t g ih =>
   match a,b,h with
   | x::a,y::b,h =>
     simp only [csEq] at h
     split at h
     ·rename_i p r hp hr;have:=ih hr;simp [this]
     ·simp at h
   | [],_,h=>simp [csEq] at h
   | _::_,[],h=>simp [csEq] at h
theorem csEq_nil {a b:List Sc} {q:Bool} (h:csEq [] a b=some q):q=true:=by
 obtain ⟨h1,h2⟩:=csEq_len h
 rw [List.eq_nil_of_length_eq_zero (l:=a) h1,List.eq_nil_of_length_eq_zero (l:=b) h2] at h
 simpa [csEq] using h.symm
theorem csEq_split {g1 g2:List Tg} {a b:List Sc} {q:Bool} (h:csEq (g1++g2) a b=some q) :
 ∃q1 q2,csEq g1 (a.take g1.length) (b.take g1.length)=some q1∧csEq g2 (a.drop g1.length) (b.drop g1.length)=some q2∧q=(q1 && q2):=by
 induction g1 generalizing a b q with
 | nil=>exact ⟨true,q,rfl,by simpa using h,by simp⟩
 | cons t g1 ih =>
   match a,b,h with
   | x::a,y::b,h =>
     simp only [List.cons_append,csEq] at h
     split at h
     ·rename_i p r hp hr
      obtain ⟨q1,q2,h1,h2,rfl⟩:=ih hr
      simp at h
      exact ⟨p && q1,q2,by simp [csEq,hp,h1],by simpa using h2,by rw [←h];cases p <;> cases q1 <;> rfl⟩
     ·simp at h
theorem tags_spec {d t:Nat} {g:List Tg} (h:tagsT P d t=some g):g.length=szT P t∧0 < szT P t:=by
 cases d with
 | zero=>simp [tagsT] at h
 | succ d =>
   unfold tagsT at h
   simp only [Option.bind_eq_some_iff] at h
   obtain ⟨l,_,h⟩:=h
   split at h
   ·rename_i hc;simp at h;subst h;exact ⟨hc.1,hc.2.1⟩
   ·simp at h
theorem tags_is {d t:Nat} {g:List Tg} (h:tagsT P d t=some g):(dT P t).is=true:=by
 cases d with
 | zero=>simp [tagsT] at h
 | succ d =>
   unfold tagsT at h
   simp only [Option.bind_eq_some_iff] at h
   obtain ⟨l,_,h⟩:=h
   split at h
   ·rename_i hc;exact hc.2.2
   ·simp at h
theorem agg_arr {t n e:Nat} (hu:P.underlying t=some (.array n e)) (h:(dT P t).is=true):(dT P t).agg=true:=by
 obtain ⟨d,hd,hq⟩:=und_is h
 rw [hu] at hd;simp at hd;subst hd;simpa using hq
theorem agg_st {t:Nat} {fs:Array Field} (hu:P.underlying t=some (.struct fs)) (h:(dT P t).is=true):(dT P t).agg=true:=by
 obtain ⟨d,hd,hq⟩:=und_is h
 rw [hu] at hd;simp at hd;subst hd;simpa using hq
theorem tags_one {d t:Nat} {g:List Tg} (h:tagsT P d t=some g) (ha:(dT P t).agg=false):szT P t=1:=by
 obtain ⟨hl,_⟩:=tags_spec h
 cases d with
 | zero=>simp [tagsT] at h
 | succ d =>
   unfold tagsT at h
   simp only [Option.bind_eq_some_iff] at h
   obtain ⟨l,h,h2⟩:=h
   split at h2
   ·simp at h2;subst h2
    cases hu:P.underlying t with
    | none=>simp [hu] at h
    | some x =>
      cases x
      case struct fs=>rename_i hc;rw [agg_st hu hc.2.2] at ha;simp at ha
      case array n e=>rename_i hc;rw [agg_arr hu hc.2.2] at ha;simp at ha
      all_goals (unfold dT at ha;rw [hu] at h ha;simp [D.agg] at h ha <;> (subst h;rw [←hl];rfl))
   ·simp at h2
theorem foldl_none {α β:Type} (f:α→β→Option α) (l:List β):l.foldl (fun (o:Option α) x=>o.bind fun n=>f n x) none=none:=by
 induction l with
 | nil=>rfl
 | cons x l ih=>simpa using ih
def fTags (P:Program) (d:Nat) (l:List Tg) (f:Field):Option (List Tg):=if f.offset=l.length∧f.name≠ "_" then (tagsT P d f.type).map fun m=>l++m else none
theorem tags_fields {d:Nat}:∀(fs:List Field) (l g:List Tg),fs.foldl (fun (o:Option (List Tg)) f=>o.bind fun l=>fTags P d l f) (some l)=some g→(∃r,g=l++r)∧∀f∈fs,∃m,tagsT P d f.type=some m:=by
 intro fs
 induction fs with
 | nil=>intro l g h;simp at h;subst h;exact ⟨⟨[],by simp⟩,by simp⟩
 | cons f fs ih =>
   intro l g h
   simp only [List.foldl_cons,Option.bind_some] at h
   cases hf:fTags P d l f with
   | none=>rw [hf,foldl_none] at h;simp at h
   | some l' =>
     rw [hf] at h
     obtain ⟨⟨r,rfl⟩,h2⟩:=ih _ _ h
     unfold fTags at hf
     split at hf
     ·simp only [Option.map_eq_some_iff] at hf
      obtain ⟨m,hm,rfl⟩:=hf
      exact ⟨⟨m++r,by simp⟩,by simp only [List.mem_cons,forall_eq_or_imp];exact ⟨⟨m,hm⟩,h2⟩⟩
     ·simp at hf
theorem flat_guard:∀(d:Nat) (t:Nat) (g:List Tg),tagsT P d t=some g→∀E,d≤E→P.eqGuardType E t=false:=by
 intro d
 induction d with
 | zero=>intro t g h;simp [tagsT] at h
 | succ d ih =>
   intro t g h E hE
   obtain ⟨E,rfl⟩:∃F,E=F+1:=⟨E - 1,by omega⟩
   unfold tagsT at h
   simp only [Option.bind_eq_some_iff] at h
   obtain ⟨l,h,_⟩:=h
   unfold Program.eqGuardType
   cases hu:P.underlying t with
   | none=>simp [hu] at h
   | some x =>
     rw [hu] at h
     cases x with
     | array n e =>
       simp only [Option.map_eq_some_iff] at h
       obtain ⟨m,hm,_⟩:=h
       exact ih _ _ hm E (by omega)
     | struct fs =>
       simp only at h
       split at h
       ·simp at h
       ·obtain ⟨_,h2⟩:=tags_fields fs.toList _ _ h
        simp only [Array.any_eq_false]
        intro i hi hn
        obtain ⟨m,hm⟩:=h2 fs[i] (by simp)
        have:=ih _ _ hm E (by omega)
        simp [this] at hn
     | _=>simp at h ⊢
def EqOk (P:Program) (ρ:Ro) (d E:Nat):Prop :=
 ∀t g,tagsT P d t=some g→∀lx ly cx cy q,L2 (SRel ρ) lx cx→L2 (SRel ρ) ly cy→csEq g lx ly=some q→∀w,(Op.equalIn E t (mkV P t cx) (mkV P t cy)).run P w=.ok q w
theorem mkV_part {d e:Nat} {g:List Tg} (h:tagsT P d e=some g) (zs:List Value) (o:Nat) :
 (if (dT P e).agg=true then Value.agg ((zs.drop o).take (szT P e)).toArray else zs.getD o .nilIface)=mkV P e ((zs.drop o).take (szT P e)):=by
 unfold mkV;split
 ·rfl
 ·rename_i hag
  have:=tags_one h (by simpa using hag)
  rw [this];simp [List.getD_eq_getElem?_getD]
theorem eq_fields {d:Nat} (E:Nat) (xs ys:List Value) (lx ly:List Sc) (hx:L2 (SRel ρ) lx xs) (hy:L2 (SRel ρ) ly ys) (ih:EqOk P ρ d E) :
 ∀(fs:List Field) (l g:List Tg) (q:Bool) (w:World),fs.foldl (fun (o:Option (List Tg)) f=>o.bind fun l=>fTags P d l f) (some l)=some g →
  csEq (g.drop l.length) (lx.drop l.length) (ly.drop l.length)=some q→(Op.eqFields E xs.toArray ys.toArray fs).run P w=.ok q w:=by
 intro fs
 induction fs with
 | nil =>
   intro l g q w hn hq
   simp at hn;subst hn
   rw [List.drop_of_length_le (Nat.le_refl _)] at hq
   obtain rfl:=csEq_nil hq
   simp [Op.eqFields]
 | cons f fs ihf =>
   intro l g q w hn hq
   simp only [List.foldl_cons,Option.bind_some] at hn
   cases hf:fTags P d l f with
   | none=>rw [hf,foldl_none] at hn;simp at hn
   | some l' =>
     rw [hf] at hn
     unfold fTags at hf
     split at hf
     ·rename_i hc
      obtain ⟨hoff,hname⟩:=hc
      simp only [Option.map_eq_some_iff] at hf
      obtain ⟨m,hm,rfl⟩:=hf
      obtain ⟨⟨r,rfl⟩,_⟩:=tags_fields _ _ _ hn
      obtain ⟨hml,hz⟩:=tags_spec hm
      have e0:((l++m)++r).drop l.length=m++r:=by simp
      rw [e0] at hq
      obtain ⟨q1,q2,h1,h2,rfl⟩:=csEq_split hq
      obtain ⟨hl1,hl2⟩:=csEq_len hq
      have hxl:=hx.length
      have hyl:=hy.length
      simp only [List.length_drop,List.length_append] at hl1 hl2
      rw [hml] at h1
      have r1:=ih f.type m hm _ _ _ _ _ ((hx.drop l.length).take (szT P f.type)) ((hy.drop l.length).take (szT P f.type)) h1
      have hpx:=fun w=>run_part (P:=P) (cs:=xs) (off:=l.length) (tags_is hm) hz w (by omega)
      have hpy:=fun w=>run_part (P:=P) (cs:=ys) (off:=l.length) (tags_is hm) hz w (by omega)
      simp only [Op.eqFields,hname,ne_eq,not_false_eq_true,if_true,Sem.run_bind,hoff,hpx,hpy,mkV_part hm,Result.andThen_ok,r1]
      cases q1
      ·simp
      ·simp only [Bool.not_true,Bool.false_eq_true,if_false,Bool.true_and]
       refine ihf _ _ _ w hn ?_
       have e1:((l++m)++r).drop (l++m).length=r:=by simp
       rw [e1]
       simpa [List.drop_drop] using h2
     ·simp at hf
theorem eq_arr {d:Nat} (E e:Nat) (m:List Tg) (hm:tagsT P d e=some m) (xs ys:List Value) (lx ly:List Sc) (hx:L2 (SRel ρ) lx xs) (hy:L2 (SRel ρ) ly ys)
 (ih:EqOk P ρ d E) (w:World):∀(k s:Nat) (q:Bool),csEq (List.replicate k m).flatten (lx.drop (s * szT P e)) (ly.drop (s * szT P e))=some q →
   (forIn (List.range' s k) (none,()) (fun i (_:Option Bool × Unit)=>do
     let a ←part e xs.toArray (i * szT P e)
     let b ←part e ys.toArray (i * szT P e)
     let r ←Op.equalIn E e a b
     if (!r)=true then pure (ForInStep.done (some false,())) else pure (ForInStep.yield (none,())))).run P w
   = .ok (if q then (none,()) else (some false,())) w:=by
 obtain ⟨hml,hz⟩:=tags_spec hm
 have hxl:=hx.length
 have hyl:=hy.length
 intro k
 induction k with
 | zero =>
   intro s q hq
   obtain rfl:=csEq_nil (by simpa using hq)
   simp
 | succ k ihk =>
   intro s q hq
   have hs:(s+1) * szT P e=s * szT P e+szT P e:=by rw [Nat.add_mul,Nat.one_mul]
   rw [List.replicate_succ,List.flatten_cons] at hq
   obtain ⟨q1,q2,g1,g2,rfl⟩:=csEq_split hq
   obtain ⟨hl1,hl2⟩:=csEq_len hq
   simp only [List.length_drop,List.length_append] at hl1 hl2
   rw [hml] at g1
   have r1:=ih e m hm _ _ _ _ _ ((hx.drop (s * szT P e)).take (szT P e)) ((hy.drop (s * szT P e)).take (szT P e)) g1
   have hpx:=fun w=>run_part (P:=P) (cs:=xs) (off:=s * szT P e) (tags_is hm) hz w (by omega)
   have hpy:=fun w=>run_part (P:=P) (cs:=ys) (off:=s * szT P e) (tags_is hm) hz w (by omega)
   rw [List.range'_succ,List.forIn_cons]
   simp only [Sem.run_bind,hpx,hpy,mkV_part hm,Result.andThen_ok,r1]
   cases q1
   ·simp
   ·simp only [Bool.not_true,Bool.false_eq_true,if_false,Sem.run_pure,Result.andThen_ok,Bool.true_and]
    refine ihk (s+1) q2 ?_
    rw [hs,←List.drop_drop,←List.drop_drop];rw [hml] at g2;exact g2
theorem eq_run:∀(d E:Nat),d≤E→EqOk P ρ d E:=by
 intro d
 induction d with
 | zero=>intro E hE t g h;simp [tagsT] at h
 | succ d ih =>
   intro E hE t g h lx ly cx cy q hx hy hq w
   obtain ⟨E,rfl⟩:∃F,E=F+1:=⟨E - 1,by omega⟩
   have ih':=ih E (by omega)
   obtain ⟨hlen,hz⟩:=tags_spec h
   have h0:=h
   unfold tagsT at h
   simp only [Option.bind_eq_some_iff] at h
   obtain ⟨l,h,h2⟩:=h
   split at h2
   case isFalse=>simp at h2
   simp at h2;subst h2
   have hbase:∀g0,l=[g0]→(dT P t).agg=false→∃a b x y,SRel ρ a x∧SRel ρ b y∧scEq g0 a b=some q∧mkV P t cx=x∧mkV P t cy=y:=by
    intro g0 hg hag
    subst hg
    obtain ⟨hl1,hl2⟩:=csEq_len hq
    match lx,ly,hl1,hl2 with
    | [a],[b],_,_ =>
      cases hx with
      | cons ha ta=>cases ta with
        | nil=>cases hy with
          | cons hb tb=>cases tb with
            | nil =>
              refine ⟨a,b,_,_,ha,hb,?_,by simp [mkV,hag],by simp [mkV,hag]⟩
              simp only [csEq] at hq
              split at hq
              ·rename_i p r hp hr;simp at hr;subst hr;simpa [hp] using hq
              ·simp at hq
   cases hu:P.underlying t with
   | none=>simp [hu] at h
   | some x =>
     rw [hu] at h
     cases x with
     | bool =>
       simp at h
       obtain ⟨a,b,x,y,ha,hb,hs,e1,e2⟩:=hbase _ h.symm (by simp [dT,hu,D.agg])
       rw [e1,e2]
       rcases scEq_rel hs ha hb with ⟨hg,k,m,n,rfl,rfl,rfl⟩ | ⟨hg,m,n,rfl,rfl,rfl⟩ | ⟨hg,m,n,rfl,rfl,rfl⟩ <;> simp at hg
       exact run_equalIn_bool w E t m n hu
     | int k =>
       simp at h
       obtain ⟨a,b,x,y,ha,hb,hs,e1,e2⟩:=hbase _ h.symm (by simp [dT,hu,D.agg])
       rw [e1,e2]
       rcases scEq_rel hs ha hb with ⟨hg,k',m,n,rfl,rfl,rfl⟩ | ⟨hg,m,n,rfl,rfl,rfl⟩ | ⟨hg,m,n,rfl,rfl,rfl⟩ <;> simp at hg
       exact run_equalIn_int w E t k' k m n hu
     | string =>
       simp at h
       obtain ⟨a,b,x,y,ha,hb,hs,e1,e2⟩:=hbase _ h.symm (by simp [dT,hu,D.agg])
       rw [e1,e2]
       rcases scEq_rel hs ha hb with ⟨hg,k',m,n,rfl,rfl,rfl⟩ | ⟨hg,m,n,rfl,rfl,rfl⟩ | ⟨hg,m,n,rfl,rfl,rfl⟩ <;> simp at hg
       rw [beq_toListBytes];exact run_equalIn_string w E t m n hu
     | struct fs =>
       simp only at h
       split at h
       ·simp at h
       rename_i hst
       have hag:(dT P t).agg=true:=agg_st hu (tags_is h0)
       simp only [mkV,hag,if_true]
       have hfs:P.fieldsOf t=fs:=by simp [Program.fieldsOf,hu]
       rw [run_equalIn_struct w E t _ _ (by rw [hfs];exact hu) (by simpa using hst),hfs]
       exact eq_fields E cx cy lx ly hx hy ih' fs.toList [] l q w h (by simpa using hq)
     | array n e =>
       simp only [Option.map_eq_some_iff] at h
       obtain ⟨m,hm,rfl⟩:=h
       have hag:(dT P t).agg=true:=agg_arr hu (tags_is h0)
       simp only [mkV,hag,if_true]
       have hz':=(tags_spec hm).2
       have key:=eq_arr E e m hm cx cy lx ly hx hy ih' w n 0 q (by simpa using hq)
       simp only [Op.equalIn,Sem.run_bind,run_underlying hu,Result.andThen_ok,run_sizeOf' hz']
       rw [Std.Legacy.Range.forIn_eq_forIn_range']
       simp only [Std.Legacy.Range.size,Nat.sub_zero,Nat.add_sub_cancel,Nat.div_one,key,Result.andThen_ok]
       cases q <;> rfl
     | _=>simp at h
end Go.Am
/- Binary and unary operations, conversions: the model's runs. -/
namespace Go.Am
variable {P:Program} {ρ:Ro}
theorem cmpI_run {op:BinOp} {x y:Int} {v:AV} (h:cmpI op x y=some v) (w:World):∃vc,(Op.intCmp op x y).run P w=.ok vc w∧VRel ρ v vc:=by
 cases op <;> simp [cmpI] at h <;> subst h <;> refine ⟨_,rfl,?_⟩ <;> rfl
theorem eqU_run {op:BinOp} {q:Bool} {v:AV} (h:eqU op q=some v):(op=.eql∧VRel ρ v (.bool q))∨(op=.neq∧VRel ρ v (.bool (!q))):=by
 cases op <;> simp [eqU] at h <;> subst h
 ·exact .inl ⟨rfl,rfl⟩
 ·exact .inr ⟨rfl,rfl⟩
theorem toNat_eq_iff (x y:BitVec 64):((x.toNat:Int)=y.toNat) ↔ x=y:=by
 constructor
 ·intro h;apply BitVec.eq_of_toNat_eq;omega
 ·rintro rfl;rfl
theorem binU_run {op:BinOp} {x y:BitVec 64} {v:AV} (h:binU op x y=some v) (t:Nat) (w:World) :
 ∃vc,(binOp op t (.int .u64 x.toNat) (.int .u64 y.toNat)).run P w=.ok vc w∧VRel ρ v vc:=by
 have hx:=x.isLt
 have hy:=y.isLt
 have e:∀n:Int,IntKind.u64.wrap n=((BitVec.ofInt 64 n).toNat:Int):=wrap_u
 cases op <;> simp [binU] at h
 case add=>subst h;refine ⟨_,rfl,?_⟩;show Value.int .u64 _=.int .u64 _;rw [e,BitVec.ofInt_add];simp
 case sub=>subst h;refine ⟨_,rfl,?_⟩;show Value.int .u64 _=.int .u64 _;rw [e,Int.sub_eq_add_neg,BitVec.ofInt_add,BitVec.ofInt_neg];simp [BitVec.sub_eq_add_neg]
 case mul=>subst h;refine ⟨_,rfl,?_⟩;show Value.int .u64 _=.int .u64 _;rw [e,BitVec.ofInt_mul];simp
 case quo =>
  obtain ⟨hz,rfl⟩:=h
  have hz':(y.toNat:Int)≠0:=fun h=>hz (BitVec.eq_of_toNat_eq (by simpa using h))
  refine ⟨.int .u64 (IntKind.u64.wrap ((x.toNat:Int).tdiv y.toNat)),?_,?_⟩
  ·simp only [binOp,Op.intDiv,ne_eq,not_true_eq_false,if_false,hz'];rfl
  ·show Value.int .u64 _=.int .u64 _
   rw [e,Int.tdiv_eq_ediv_of_nonneg (by omega)]
   have:((x.toNat:Int) / y.toNat)=((x.toNat / y.toNat:Nat):Int):=by simp
   rw [this]
   have h2:x.toNat / y.toNat≤x.toNat:=Nat.div_le_self _ _
   simp only [BitVec.ofInt_natCast,BitVec.toNat_ofNat,BitVec.toNat_udiv]
   rw [Nat.mod_eq_of_lt (by omega)]
 case rem =>
  obtain ⟨hz,rfl⟩:=h
  have hz':(y.toNat:Int)≠0:=fun h=>hz (BitVec.eq_of_toNat_eq (by simpa using h))
  refine ⟨.int .u64 ((x.toNat:Int).tmod y.toNat),?_,?_⟩
  ·simp only [binOp,Op.intDiv,ne_eq,not_true_eq_false,if_false,hz'];rfl
  ·show Value.int .u64 _=.int .u64 _
   rw [Int.tmod_eq_emod_of_nonneg (by omega)]
   simp
 case and=>subst h;refine ⟨_,rfl,?_⟩;show Value.int .u64 (IntKind.u64.wrap ((BitVec.ofInt 64 _ &&& BitVec.ofInt 64 _).toNat))=.int .u64 _;rw [e,ofInt_toNat_u,ofInt_toNat_u,ofInt_toNat_u]
 case or=>subst h;refine ⟨_,rfl,?_⟩;show Value.int .u64 (IntKind.u64.wrap ((BitVec.ofInt 64 _ ||| BitVec.ofInt 64 _).toNat))=.int .u64 _;rw [e,ofInt_toNat_u,ofInt_toNat_u,ofInt_toNat_u]
 case xor=>subst h;refine ⟨_,rfl,?_⟩;show Value.int .u64 (IntKind.u64.wrap ((BitVec.ofInt 64 _ ^^^ BitVec.ofInt 64 _).toNat))=.int .u64 _;rw [e,ofInt_toNat_u,ofInt_toNat_u,ofInt_toNat_u]
 case andNot=>subst h;refine ⟨_,rfl,?_⟩;show Value.int .u64 (IntKind.u64.wrap ((BitVec.ofInt 64 _ &&& ~~~BitVec.ofInt 64 _).toNat))=.int .u64 _;rw [e,ofInt_toNat_u,ofInt_toNat_u,ofInt_toNat_u]
 all_goals
  subst h
  refine ⟨_,rfl,?_⟩
  show Value.bool _=.bool _
  first
   | (rw [Value.bool.injEq,Bool.eq_iff_iff];simp [toNat_eq_iff,BitVec.lt_def,BitVec.le_def];done)
   | (rw [Value.bool.injEq,Bool.eq_iff_iff];simp [BitVec.lt_def,BitVec.le_def];rw [←toNat_eq_iff];simp)
theorem tmod_bound {x y:Int} (hx:-9223372036854775808≤x∧x≤9223372036854775807):-9223372036854775808≤x.tmod y∧x.tmod y≤9223372036854775807:=by
 have h:=Int.natAbs_tmod x y
 have h2:x.natAbs % y.natAbs≤x.natAbs:=Nat.mod_le _ _
 rcases Int.le_total 0 x with h3 | h3
 ·have:=Int.tmod_nonneg y h3;omega
 ·have h4:=Int.tmod_nonneg (a:=-x) y (by omega)
  rw [Int.neg_tmod] at h4;omega
theorem binI_run {op:BinOp} {x y:Int} {v:AV} (h:binI op x y=some v) (hx:-9223372036854775808≤x∧x≤9223372036854775807) (t:Nat) (w:World) :
 ∃vc,(binOp op t (.int .i64 x) (.int .i64 y)).run P w=.ok vc w∧VRel ρ v vc:=by
 cases op
 case add=>simp [binI] at h;subst h;exact ⟨_,rfl,rfl,wrap_i _⟩
 case sub=>simp [binI] at h;subst h;exact ⟨_,rfl,rfl,wrap_i _⟩
 case mul=>simp [binI] at h;subst h;exact ⟨_,rfl,rfl,wrap_i _⟩
 case quo =>
  simp [binI] at h
  obtain ⟨hz,rfl⟩:=h
  exact ⟨.int .i64 (IntKind.i64.wrap (x.tdiv y)),by simp [binOp,Op.intDiv,hz],rfl,wrap_i _⟩
 case rem =>
  simp [binI] at h
  obtain ⟨hz,rfl⟩:=h
  exact ⟨.int .i64 (x.tmod y),by simp [binOp,Op.intDiv,hz],rfl,tmod_bound hx⟩
 case and=>simp [binI] at h;subst h;exact ⟨_,rfl,rfl,wrap_i _⟩
 case or=>simp [binI] at h;subst h;exact ⟨_,rfl,rfl,wrap_i _⟩
 all_goals first
  | (simp [binI,cmpI] at h;done)
  | (simp only [binI] at h;obtain ⟨vc,h1,h2⟩:=cmpI_run (P:=P) (ρ:=ρ) h w;exact ⟨vc,by simpa [binOp] using h1,h2⟩)
theorem kmin_0 (k:IntKind):k.min≤0:=by cases k <;> decide
theorem binK_run {op:BinOp} {k:IntKind} {x y:Int} {v:AV} (h:binK op k x y=some v) (hk:k.bits≤32) (hx:k.min≤x∧x≤k.max) (t:Nat) (w:World) :
 ∃vc,(binOp op t (.int k x) (.int k y)).run P w=.ok vc w∧VRel ρ v vc:=by
 cases op
 case add=>simp [binK] at h;subst h;exact ⟨.int k (k.wrap (x+y)),by simp [binOp,Op.intArith],rfl,hk,wrap_k _ _⟩
 case sub=>simp [binK] at h;subst h;exact ⟨.int k (k.wrap (x - y)),by simp [binOp,Op.intArith],rfl,hk,wrap_k _ _⟩
 case mul=>simp [binK] at h;subst h;exact ⟨.int k (k.wrap (x * y)),by simp [binOp,Op.intArith],rfl,hk,wrap_k _ _⟩
 case rem =>
  simp only [binK] at h
  split at h
  ·rename_i hc
   simp only [Option.some.injEq] at h
   subst h
   have hz:y≠0:=by omega
   refine ⟨.int k (x.tmod y),by simp [binOp,Op.intDiv,hz],rfl,hk,?_,?_⟩
   ·have:=kmin_0 k
    have:=Int.tmod_nonneg y hc.1
    omega
   ·rw [Int.tmod_eq_emod_of_nonneg hc.1]
    have h1:=Int.emod_nonneg x hz
    have h2:x % y≤x:=by
     rcases Int.lt_or_le x y with c | c
     ·rw [Int.emod_eq_of_lt hc.1 c];omega
     ·have:=Int.emod_lt_of_pos x hc.2;omega
    omega
  ·simp at h
 case and=>simp [binK] at h;subst h;exact ⟨.int k (k.wrap ((BitVec.ofInt k.bits x &&& BitVec.ofInt k.bits y).toNat)),by simp [binOp,Op.intBits],rfl,hk,wrap_k _ _⟩
 case or=>simp [binK] at h;subst h;exact ⟨.int k (k.wrap ((BitVec.ofInt k.bits x ||| BitVec.ofInt k.bits y).toNat)),by simp [binOp,Op.intBits],rfl,hk,wrap_k _ _⟩
 case xor=>simp [binK] at h;subst h;exact ⟨.int k (k.wrap ((BitVec.ofInt k.bits x ^^^ BitVec.ofInt k.bits y).toNat)),by simp [binOp,Op.intBits],rfl,hk,wrap_k _ _⟩
 case andNot=>simp only [binK,Option.some.injEq] at h;subst h;exact ⟨.int k (k.wrap ((BitVec.ofInt k.bits x &&& ~~~(BitVec.ofInt k.bits y)).toNat)),by simp [binOp,Op.intBits],rfl,hk,wrap_k _ _⟩
 all_goals first
  | (simp [binK,cmpI] at h;done)
  | (simp only [binK] at h;obtain ⟨vc,h1,h2⟩:=cmpI_run (P:=P) (ρ:=ρ) h w;exact ⟨vc,by simpa [binOp] using h1,h2⟩)
theorem far_rel {s:Sc} {v:Value} {n:Nat} (h:far s=some n) (hv:SRel ρ s v):∃k m,v=.int k m∧0≤m∧m.toNat=n:=by
 cases s <;> simp [far] at h
 ·obtain ⟨rfl,_⟩:=hv;exact ⟨_,_,rfl,h.1,h.2⟩
 ·cases hv;exact ⟨_,_,rfl,by omega,by simpa using h⟩
 ·obtain ⟨rfl,_⟩:=hv;exact ⟨_,_,rfl,h.1,h.2⟩
theorem shU_run {op:BinOp} {x:BitVec 64} {n:Nat} {v:AV} (h:shU op x n=some v) (t:Nat) (k:IntKind) {m:Int} (hm:0≤m) (hn:m.toNat=n) (w:World) :
 ∃vc,(binOp op t (.int .u64 x.toNat) (.int k m)).run P w=.ok vc w∧VRel ρ v vc:=by
 subst hn
 have hx:=x.isLt
 have hm':¬m < 0:=by omega
 cases op <;> simp [shU] at h
 ·subst h
  refine ⟨.int .u64 (IntKind.u64.wrap (x.toNat * 2 ^ (min m.toNat 64))),by simp [binOp,Op.shift,hm',IntKind.bits],?_⟩
  show Value.int .u64 _=.int .u64 _
  congr 1
  rw [IntKind.wrap_u64,BitVec.toNat_shiftLeft,Nat.shiftLeft_eq]
  have:((x.toNat:Int) * 2 ^ (min m.toNat 64))=((x.toNat * 2 ^ (min m.toNat 64):Nat):Int):=by simp
  rw [this]
  rcases Nat.le_total m.toNat 64 with hle | hle
  ·rw [Nat.min_eq_left hle];omega
  ·rw [Nat.min_eq_right hle]
   obtain ⟨d,hd⟩:=Nat.exists_eq_add_of_le hle
   have e1:x.toNat * 2 ^ m.toNat=x.toNat * 2 ^ d * 18446744073709551616:=by rw [hd,Nat.pow_add,Nat.mul_comm (2 ^ 64),←Nat.mul_assoc]
   rw [e1];simp only [Nat.reducePow];omega
 ·subst h
  refine ⟨.int .u64 ((x.toNat:Int).fdiv (2 ^ (min m.toNat 64))),by simp [binOp,Op.shift,hm',IntKind.bits],?_⟩
  show Value.int .u64 _=.int .u64 _
  congr 1
  have hp:(0:Int)≤2 ^ (min m.toNat 64):=Int.le_of_lt (Int.pow_pos (by omega))
  rw [Int.fdiv_eq_ediv_of_nonneg _ hp,BitVec.toNat_ushiftRight,Nat.shiftRight_eq_div_pow]
  have:((2:Int) ^ (min m.toNat 64))=((2 ^ (min m.toNat 64):Nat):Int):=by simp
  rw [this,←Int.natCast_ediv]
  congr 1
  rcases Nat.le_total m.toNat 64 with hle | hle
  ·rw [Nat.min_eq_left hle]
  ·rw [Nat.min_eq_right hle]
   have h1:2 ^ 64≤2 ^ m.toNat:=Nat.pow_le_pow_right (by omega) hle
   rw [Nat.div_eq_of_lt hx,Nat.div_eq_of_lt (by omega)]
theorem ediv_pow_bound {x a b:Int} (n:Nat) (ha:a≤x) (hb:x≤b) (ha0:a≤0) (hb0:0≤b):a≤x / 2 ^ n∧x / 2 ^ n≤b:=by
 have hp:(1:Int)≤2 ^ n:=by have:(0:Int) < 2 ^ n:=Int.pow_pos (by omega);omega
 generalize (2:Int) ^ n=p at hp
 constructor
 ·rw [Int.le_ediv_iff_mul_le (by omega)]
  have:a * p≤a * 1:=Int.mul_le_mul_of_nonpos_left ha0 (by omega)
  omega
 ·have h1:x / p≤b / p:=Int.ediv_le_ediv (by omega) hb
  have h2:b / p≤b:=Int.ediv_le_self _ hb0
  omega
theorem shI_run {op:BinOp} {x:Int} {n:Nat} {v:AV} (h:shI op x n=some v) (hx:-9223372036854775808≤x∧x≤9223372036854775807) (t:Nat) (k:IntKind) {m:Int} (hm:0≤m) (hn:m.toNat=n) (w:World) :
 ∃vc,(binOp op t (.int .i64 x) (.int k m)).run P w=.ok vc w∧VRel ρ v vc:=by
 subst hn
 have hm':¬m < 0:=by omega
 cases op <;> simp [shI] at h <;> subst h
 ·exact ⟨.int .i64 (IntKind.i64.wrap (x * 2 ^ (min m.toNat 64))),by simp [binOp,Op.shift,hm',IntKind.bits],rfl,wrap_i _⟩
 ·refine ⟨.int .i64 (x.fdiv (2 ^ (min m.toNat 64))),by simp [binOp,Op.shift,hm',IntKind.bits],?_,?_⟩
  ·rw [Int.fdiv_eq_ediv_of_nonneg _ (Int.le_of_lt (Int.pow_pos (by omega)))]
  ·exact ediv_pow_bound _ hx.1 hx.2 (by omega) (by omega)
theorem kmin_le (k:IntKind):k.min≤0∧0≤k.max:=by cases k <;> simp [IntKind.min,IntKind.max,IntKind.signed,IntKind.bits]
theorem shK_run {op:BinOp} {kd:IntKind} {x:Int} {n:Nat} {v:AV} (h:shK op kd x n=some v) (hk:kd.bits≤32) (hx:kd.min≤x∧x≤kd.max) (t:Nat) (k:IntKind) {m:Int} (hm:0≤m) (hn:m.toNat=n) (w:World) :
 ∃vc,(binOp op t (.int kd x) (.int k m)).run P w=.ok vc w∧VRel ρ v vc:=by
 subst hn
 have hm':¬m < 0:=by omega
 cases op <;> simp [shK] at h <;> subst h
 ·exact ⟨.int kd (kd.wrap (x * 2 ^ (min m.toNat kd.bits))),by simp [binOp,Op.shift,hm'],rfl,hk,wrap_k _ _⟩
 ·refine ⟨.int kd (x.fdiv (2 ^ (min m.toNat kd.bits))),by simp [binOp,Op.shift,hm'],?_,hk,?_⟩
  ·rw [Int.fdiv_eq_ediv_of_nonneg _ (Int.le_of_lt (Int.pow_pos (by omega)))]
  ·exact ediv_pow_bound _ hx.1 hx.2 (kmin_le kd).1 (kmin_le kd).2
theorem guard_scalar (op:BinOp) (t:TypeId) (X Y:Operand) {s:Sc} {x y:Value} (hx:SRel ρ s x) (h1:s≠.any) (h2:s≠.und) (h4:s≠.junk):eqGuard op t X Y x y=pure ():=by
 have h:=(SRel.one hx h1 h2).1
 have h3:x≠.nilIface:=by
  rintro rfl
  cases s <;> simp [SRel,PRel,SlRel] at hx <;> simp_all
 cases op <;> first | rfl | (cases x <;> first | rfl | (simp [Value.oneCell'] at h;done) | exact (h3 rfl).elim)
theorem bool_run {op:BinOp} {x y:Bool} {v:AV} {t:Nat} (ht:dT P t=.bool) (h:binB op x y=some v) (w:World) :
 ∃vc,(binOp op t (.bool x) (.bool y)).run P w=.ok vc w∧VRel ρ v vc:=by
 have hu:=und_bool ht
 cases op <;> simp [binB] at h <;> subst h
 ·exact ⟨.bool (x == y),by simp [binOp,Op.equal,Op.maxDepth,run_equalIn_bool w 9999 t x y hu],rfl⟩
 ·exact ⟨.bool (!(x == y)),by simp [binOp,Op.equal,Op.maxDepth,run_equalIn_bool w 9999 t x y hu],rfl⟩
theorem str_run {op:BinOp} {x y:ByteArray} {v:AV} (t:Nat) (h:binSt op x y=some v) (w:World) :
 ∃vc,(binOp op t (.string x) (.string y)).run P w=.ok vc w∧VRel ρ v vc:=by
 have hmax:IntKind.i64.max=9223372036854775807:=by decide
 cases op <;> simp [binSt] at h
 ·obtain ⟨hl,rfl⟩:=h
  have:¬(((x.size+y.size:Nat):Int) > IntKind.i64.max):=by rw [hmax];omega
  refine ⟨.string (x++y),?_,rfl,by simpa using hl⟩
  simp only [binOp,Op.stringOp,this,if_false,Sem.run_pure]
 ·subst h;refine ⟨_,rfl,?_⟩;show Value.bool _=.bool _;rw [←beq_toListBytes,bytes_beq]
 ·subst h;refine ⟨_,rfl,?_⟩;show Value.bool _=.bool _;rw [←beq_toListBytes,bytes_beq]
theorem eq_ptr1 {t e:Nat} (hu:P.underlying t=some (.pointer e)) (a:Addr) (d:Nat) (w:World):(Op.equalIn (d+1) t (.pointer (some a)) (.pointer none)).run P w=.ok false w:=by
 simp only [Op.equalIn,Sem.run_bind,run_underlying hu,Result.andThen_ok];rfl
theorem eq_ptr0 {t e:Nat} (hu:P.underlying t=some (.pointer e)) (d:Nat) (w:World):(Op.equalIn (d+1) t (.pointer none) (.pointer none)).run P w=.ok true w:=by
 simp only [Op.equalIn,Sem.run_bind,run_underlying hu,Result.andThen_ok];rfl
theorem eq_fn1 {t:Nat} {a b:Array TypeId} {c:Bool} (hu:P.underlying t=some (.func a b c)) (f:Fn) (x y:Array Value) (d:Nat) (w:World):(Op.equalIn (d+1) t (.func f x y) .nilFunc).run P w=.ok false w:=by
 simp only [Op.equalIn,Sem.run_bind,run_underlying hu,Result.andThen_ok];rfl
theorem eq_fn0 {t:Nat} {a b:Array TypeId} {c:Bool} (hu:P.underlying t=some (.func a b c)) (d:Nat) (w:World):(Op.equalIn (d+1) t .nilFunc .nilFunc).run P w=.ok true w:=by
 simp only [Op.equalIn,Sem.run_bind,run_underlying hu,Result.andThen_ok];rfl
theorem eq_sl1 {t e n c:Nat} {a:Addr} (hu:P.underlying t=some (.slice e)) (d:Nat) (w:World):(Op.equalIn (d+1) t (.slice (some a) n c) (.slice none 0 0)).run P w=.ok false w:=by
 simp only [Op.equalIn,Sem.run_bind,run_underlying hu,Result.andThen_ok];rfl
theorem eq_sl0 {t e:Nat} (hu:P.underlying t=some (.slice e)) (d:Nat) (w:World):(Op.equalIn (d+1) t (.slice none 0 0) (.slice none 0 0)).run P w=.ok true w:=by
 simp only [Op.equalIn,Sem.run_bind,run_underlying hu,Result.andThen_ok];rfl
theorem eql_of {t:Nat} {x y:Value} {q:Bool} {w:World} (hb:binOp .eql t x y=(do pure (.bool (←Op.equal t x y)))) (h:(Op.equalIn (9999+1) t x y).run P w=.ok q w):(binOp .eql t x y).run P w=.ok (.bool q) w:=by
 rw [hb];simp only [Op.equal,Op.maxDepth,Sem.run_bind]
 rw [show (10000:Nat)=9999+1 from rfl,h];rfl
theorem neq_of {t:Nat} {x y:Value} {q:Bool} {w:World} (hb:binOp .neq t x y=(do pure (.bool (!(←Op.equal t x y))))) (h:(Op.equalIn (9999+1) t x y).run P w=.ok q w):(binOp .neq t x y).run P w=.ok (.bool (!q)) w:=by
 rw [hb];simp only [Op.equal,Op.maxDepth,Sem.run_bind]
 rw [show (10000:Nat)=9999+1 from rfl,h];rfl
theorem abin_run {op:BinOp} {t:Nat} {x y v:AV} {cx cy:Value} (h:abin P op t x y=some v) (hx:VRel ρ x cx) (hy:VRel ρ y cy) (X Y:Operand) (w:World) :
 ∃vc,(do eqGuard op t X Y cx cy;binOp op t cx cy).run P w=.ok vc w∧VRel ρ v vc:=by
 have hdep:12≤P.depth:=by simp only [Program.depth,Made.depth];omega
 have gs:∀{s:Sc},SRel ρ s cx→s≠.any→s≠.und→s≠.junk→eqGuard op t X Y cx cy=pure ():=fun h h1 h2 h4=>guard_scalar op t X Y h h1 h2 h4
 have fin:∀{s:Sc},VRel ρ (.c s) cx→s≠.any→s≠.und→s≠.junk→(∃vc,(binOp op t cx cy).run P w=.ok vc w∧VRel ρ v vc)→∃vc,(do eqGuard op t X Y cx cy;binOp op t cx cy).run P w=.ok vc w∧VRel ρ v vc:=by
  intro s h1 h2 h3 h6 ⟨vc,h4,h5⟩
  exact ⟨vc,by simp [gs h1 h2 h3 h6,h4],h5⟩
 unfold abin at h
 split at h
 case h_12 =>
  rename_i l m
  split at h
  ·simp at h
  rename_i hag
  rw [Option.bind_eq_some_iff] at h
  obtain ⟨g,hg,h⟩:=h
  rw [Option.bind_eq_some_iff] at h
  obtain ⟨q,hq,h⟩:=h
  obtain ⟨cs,rfl,hcs⟩:=hx
  obtain ⟨ds,rfl,hds⟩:=hy
  have hag:(dT P t).agg=true:=by simpa using hag
  have hr:=eq_run (P:=P) (ρ:=ρ) 12 10000 (by omega) t g hg _ _ _ _ _ hcs hds hq w
  simp only [mkV,hag,if_true] at hr
  have hgd:(eqGuard op t X Y (.agg cs.toArray) (.agg ds.toArray)).run P w=.ok () w:=run_eqGuard_agg w op t X Y _ _ (flat_guard 12 t g hg _ hdep)
  rcases eqU_run (ρ:=ρ) h with ⟨rfl,hv⟩ | ⟨rfl,hv⟩
  ·exact ⟨_,by simp only [Sem.run_bind,hgd,Result.andThen_ok,run_eql_struct,hr],hv⟩
  ·exact ⟨_,by simp only [Sem.run_bind,hgd,Result.andThen_ok,run_neq_struct,hr],hv⟩
 case h_1=>rw [Option.bind_eq_some_iff] at h;obtain ⟨n,hn,h⟩:=h;obtain ⟨k,m,rfl,h1,h2⟩:=far_rel hn hy;refine fin hx (by simp) (by simp) (by simp) ?_;cases hx;exact shU_run h t k h1 h2 w
 case h_2=>rw [Option.bind_eq_some_iff] at h;obtain ⟨n,hn,h⟩:=h;obtain ⟨k,m,rfl,h1,h2⟩:=far_rel hn hy;refine fin hx (by simp) (by simp) (by simp) ?_;cases hx;exact shU_run h t k h1 h2 w
 case h_3=>rw [Option.bind_eq_some_iff] at h;obtain ⟨n,hn,h⟩:=h;obtain ⟨k,m,rfl,h1,h2⟩:=far_rel hn hy;refine fin hx (by simp) (by simp) (by simp) ?_;obtain ⟨rfl,hb⟩:=hx;exact shI_run h hb t k h1 h2 w
 case h_4=>rw [Option.bind_eq_some_iff] at h;obtain ⟨n,hn,h⟩:=h;obtain ⟨k,m,rfl,h1,h2⟩:=far_rel hn hy;refine fin hx (by simp) (by simp) (by simp) ?_;obtain ⟨rfl,hb⟩:=hx;exact shI_run h hb t k h1 h2 w
 case h_5=>rw [Option.bind_eq_some_iff] at h;obtain ⟨n,hn,h⟩:=h;obtain ⟨k,m,rfl,h1,h2⟩:=far_rel hn hy;refine fin hx (by simp) (by simp) (by simp) ?_;obtain ⟨rfl,hk,hb⟩:=hx;exact shK_run h hk hb t k h1 h2 w
 case h_6=>rw [Option.bind_eq_some_iff] at h;obtain ⟨n,hn,h⟩:=h;obtain ⟨k,m,rfl,h1,h2⟩:=far_rel hn hy;refine fin hx (by simp) (by simp) (by simp) ?_;obtain ⟨rfl,hk,hb⟩:=hx;exact shK_run h hk hb t k h1 h2 w
 case h_7=>refine fin hx (by simp) (by simp) (by simp) ?_;cases hx;cases hy;exact binU_run h t w
 case h_8=>refine fin hx (by simp) (by simp) (by simp) ?_;obtain ⟨rfl,hb⟩:=hx;obtain ⟨rfl,_⟩:=hy;exact binI_run h hb t w
 case h_9 =>
  split at h
  ·subst_vars;refine fin hx (by simp) (by simp) (by simp) ?_;obtain ⟨rfl,hk,hb⟩:=hx;obtain ⟨rfl,_⟩:=hy;exact binK_run h hk hb t w
  ·simp at h
 case h_10 =>
  split at h
  ·rename_i ht
   have ht':dT P t=.bool:=by revert ht;cases dT P t <;> simp
   refine fin hx (by simp) (by simp) (by simp) ?_;cases hx;cases hy;exact bool_run ht' h w
  ·simp at h
 case h_11=>refine fin hx (by simp) (by simp) (by simp) ?_;obtain ⟨rfl,_⟩:=hx;obtain ⟨rfl,_⟩:=hy;exact str_run t h w
 case h_13 =>
  split at h
  ·rename_i ht
   obtain ⟨e,ht'⟩:∃e,dT P t=.ptr e:=by revert ht;cases dT P t <;> simp
   have hu:=und_ptr ht'
   refine fin hx (by simp) (by simp) (by simp) ?_
   obtain ⟨L,a,_,rfl,_⟩:=hx;cases hy
   rcases eqU_run (ρ:=ρ) h with ⟨rfl,hv⟩ | ⟨rfl,hv⟩
   ·exact ⟨.bool false,eql_of rfl (eq_ptr1 hu _ _ _),hv⟩
   ·exact ⟨.bool true,neq_of rfl (eq_ptr1 hu _ _ _),hv⟩
  ·simp at h
 case h_14 =>
  split at h
  ·rename_i ht
   obtain ⟨e,ht'⟩:∃e,dT P t=.ptr e:=by revert ht;cases dT P t <;> simp
   have hu:=und_ptr ht'
   refine fin hx (by simp) (by simp) (by simp) ?_
   cases hx;cases hy
   rcases eqU_run (ρ:=ρ) h with ⟨rfl,hv⟩ | ⟨rfl,hv⟩
   ·exact ⟨.bool true,eql_of rfl (eq_ptr0 hu _ _),hv⟩
   ·exact ⟨.bool false,neq_of rfl (eq_ptr0 hu _ _),hv⟩
  ·simp at h
 case h_15 =>
  by_cases ht:(match dT P t with | .sl _=>true | _=>false)=true
  ·obtain ⟨e,ht'⟩:∃e,dT P t=.sl e:=by revert ht;cases dT P t <;> simp
   simp only [ht',if_true] at h
   have hu:=und_sl ht'
   refine fin hx (by simp) (by simp) (by simp) ?_
   obtain ⟨L,base,cap,g1,rfl,gn,g2,g3,g4,g5⟩:=hx;cases hy
   split at h
   ·rw [Option.map_eq_some_iff] at h
    obtain ⟨x,hx',rfl⟩:=h
    subst_vars
    rcases eqU_run (ρ:=ρ) hx' with ⟨rfl,_⟩ | ⟨rfl,_⟩
    all_goals cases base with
     | none =>
       obtain ⟨_,rfl⟩:=gn rfl
       first
        | exact ⟨.bool true,eql_of rfl (eq_sl0 hu _ _),true,rfl⟩
        | exact ⟨.bool false,neq_of rfl (eq_sl0 hu _ _),false,rfl⟩
     | some a =>
       first
        | exact ⟨.bool false,eql_of rfl (eq_sl1 hu _ _),false,rfl⟩
        | exact ⟨.bool true,neq_of rfl (eq_sl1 hu _ _),true,rfl⟩
   ·cases base with
    | none=>have:=(gn rfl).1;contradiction
    | some a =>
      rcases eqU_run (ρ:=ρ) h with ⟨rfl,hv⟩ | ⟨rfl,hv⟩
      ·exact ⟨.bool false,eql_of rfl (eq_sl1 hu _ _),hv⟩
      ·exact ⟨.bool true,neq_of rfl (eq_sl1 hu _ _),hv⟩
  ·simp at h;exact (ht h.1).elim
 case h_16 =>
  by_cases ht:(match dT P t with | .sl _=>true | _=>false)=true
  ·obtain ⟨e,ht'⟩:∃e,dT P t=.sl e:=by revert ht;cases dT P t <;> simp
   simp only [ht',if_true] at h
   have hu:=und_sl ht'
   refine fin hx (by simp) (by simp) (by simp) ?_
   cases hx;cases hy
   rcases eqU_run (ρ:=ρ) h with ⟨rfl,hv⟩ | ⟨rfl,hv⟩
   ·exact ⟨.bool true,eql_of rfl (eq_sl0 hu _ _),hv⟩
   ·exact ⟨.bool false,neq_of rfl (eq_sl0 hu _ _),hv⟩
  ·simp at h;exact (ht h.1).elim
 case h_17 =>
  split at h
  ·rename_i ht
   obtain ⟨a,b,c,hu⟩:∃a b c,P.underlying t=some (.func a b c):=by
    revert ht;cases hu:P.underlying t with
    | none=>simp
    | some x=>cases x <;> simp
   refine fin hx (by simp) (by simp) (by simp) ?_
   obtain ⟨cv,rfl,_⟩:=hx;cases hy
   rcases eqU_run (ρ:=ρ) h with ⟨rfl,hv⟩ | ⟨rfl,hv⟩
   ·exact ⟨.bool false,eql_of rfl (eq_fn1 hu _ _ _ _ _),hv⟩
   ·exact ⟨.bool true,neq_of rfl (eq_fn1 hu _ _ _ _ _),hv⟩
  ·simp at h
 case h_18 =>
  split at h
  ·rename_i ht
   obtain ⟨a,b,c,hu⟩:∃a b c,P.underlying t=some (.func a b c):=by
    revert ht;cases hu:P.underlying t with
    | none=>simp
    | some x=>cases x <;> simp
   refine fin hx (by simp) (by simp) (by simp) ?_
   cases hx;cases hy
   rcases eqU_run (ρ:=ρ) h with ⟨rfl,hv⟩ | ⟨rfl,hv⟩
   ·exact ⟨.bool true,eql_of rfl (eq_fn0 hu _ _),hv⟩
   ·exact ⟨.bool false,neq_of rfl (eq_fn0 hu _ _),hv⟩
  ·simp at h
 case h_19=>simp at h
theorem aun_run {op:UnOp} {x v:AV} {cx:Value} (h:aun op x=some v) (hx:VRel ρ x cx) (w:World):∃vc,(Op.unary op cx).run P w=.ok vc w∧VRel ρ v vc:=by
 unfold aun at h
 split at h <;> simp at h <;> subst h
 ·cases hx;exact ⟨_,rfl,rfl⟩
 ·obtain ⟨rfl,hb⟩:=hx
  refine ⟨.int .i64 (IntKind.i64.wrap (0 - _)),rfl,?_,?_⟩
  ·rw [Int.zero_sub];rfl
  ·exact wrap_i _
 ·cases hx
  rename_i x
  refine ⟨.int .u64 (IntKind.u64.wrap (0 - _)),rfl,?_⟩
  show Value.int .u64 _=.int .u64 _
  rw [wrap_u,Int.zero_sub,BitVec.ofInt_neg];simp
 ·cases hx
  rename_i x
  refine ⟨_,rfl,?_⟩
  show Value.int .u64 (IntKind.u64.wrap ((BitVec.ofInt 64 _ ^^^ BitVec.ofInt 64 _).toNat))=.int .u64 _
  rw [wrap_u,ofInt_toNat_u,ofInt_toNat_u]
  have:BitVec.ofInt 64 (if IntKind.u64.signed=true then -1 else IntKind.u64.max)=BitVec.allOnes 64:=by decide
  rw [this,BitVec.allOnes_xor]
theorem acv_run {dst src:Nat} {x v:AV} {cx:Value} (h:acv P dst x=some v) (hx:VRel ρ x cx) (hs:(dT P src).is=true) (w:World) :
 ∃vc,(convert src dst cx).run P w=.ok vc w∧VRel ρ v vc:=by
 obtain ⟨d,hd,_⟩:=und_is hs
 unfold acv at h
 split at h
 case h_11=>simp at h
 case h_10 =>
  rename_i s hdt
  simp at h;subst h
  obtain ⟨rfl,hb⟩:=hx
  exact ⟨_,by simp [convert,run_underlying hd,run_underlying (und_str hdt)],rfl,hb⟩
 case h_1=>rename_i n hdt;simp at h;subst h;obtain ⟨rfl,hb⟩:=hx;exact ⟨.int .i64 (IntKind.i64.wrap n),by simp [convert,run_underlying hd,run_underlying (und_int hdt),Conv.intToInt],by rw [show IntKind.i64.wrap n=n from w64_id hb.1 hb.2];exact ⟨rfl,hb⟩⟩
 case h_2=>rename_i x hdt;simp at h;subst h;cases hx;exact ⟨.int .i64 (IntKind.i64.wrap x.toNat),by simp [convert,run_underlying hd,run_underlying (und_int hdt),Conv.intToInt],by rw [wrap_i_toInt];exact ⟨rfl,by have:=BitVec.le_toInt x;omega,by have:=BitVec.toInt_lt (x:=x);omega⟩⟩
 case h_3 =>
  rename_i k n hdt;simp at h;subst h;obtain ⟨rfl,hk,hb⟩:=hx
  have hr:-9223372036854775808≤n∧n≤9223372036854775807:=by cases k <;> simp [IntKind.min,IntKind.max,IntKind.signed,IntKind.bits] at hb hk <;> omega
  exact ⟨.int .i64 (IntKind.i64.wrap n),by simp [convert,run_underlying hd,run_underlying (und_int hdt),Conv.intToInt],by rw [show IntKind.i64.wrap n=n from w64_id hr.1 hr.2];exact ⟨rfl,hr⟩⟩
 case h_4=>rename_i n hdt;simp at h;subst h;obtain ⟨rfl,hb⟩:=hx;exact ⟨.int .u64 (IntKind.u64.wrap n),by simp [convert,run_underlying hd,run_underlying (und_int hdt),Conv.intToInt],by rw [wrap_u];rfl⟩
 case h_5=>rename_i x hdt;simp at h;subst h;cases hx;exact ⟨.int .u64 (IntKind.u64.wrap x.toNat),by simp [convert,run_underlying hd,run_underlying (und_int hdt),Conv.intToInt],by rw [wrap_u,ofInt_toNat_u];rfl⟩
 case h_6=>rename_i k n hdt;simp at h;subst h;obtain ⟨rfl,hk,hb⟩:=hx;exact ⟨.int .u64 (IntKind.u64.wrap n),by simp [convert,run_underlying hd,run_underlying (und_int hdt),Conv.intToInt],by rw [wrap_u];rfl⟩
 case h_7=>rename_i k n h1 h2 hdt;simp at h;subst h;obtain ⟨rfl,hb⟩:=hx;exact ⟨.int k (k.wrap n),by simp [convert,run_underlying hd,run_underlying (und_int hdt),Conv.intToInt],rfl,bits_le h1 h2,wrap_k _ _⟩
 case h_8=>rename_i k x h1 h2 hdt;simp at h;subst h;cases hx;exact ⟨.int k (k.wrap x.toNat),by simp [convert,run_underlying hd,run_underlying (und_int hdt),Conv.intToInt],rfl,bits_le h1 h2,wrap_k _ _⟩
 case h_9=>rename_i k k' n h1 h2 hdt;simp at h;subst h;obtain ⟨rfl,hk,hb⟩:=hx;exact ⟨.int k (k.wrap n),by simp [convert,run_underlying hd,run_underlying (und_int hdt),Conv.intToInt],rfl,bits_le h1 h2,wrap_k _ _⟩
end Go.Am
/- The quiet operations: runs. -/
namespace Go.Am
variable {P:Program} {ρ:Ro}
theorem foldl_set (cells:Array Value) (off:Nat):∀(vs:List Value) (j:Nat),off+j+vs.length≤cells.size →
 ((vs.zipIdx j).foldl (fun cs (x:Value × Nat)=>cs.setIfInBounds (off+x.2) x.1) cells).toList=cells.toList.take (off+j)++vs++cells.toList.drop (off+j+vs.length):=by
 intro vs
 induction vs generalizing cells with
 | nil=>intro j h;simp
 | cons v vs ih =>
   intro j h
   simp only [List.length_cons] at h
   simp only [List.zipIdx_cons,List.foldl_cons]
   rw [ih (cells.setIfInBounds (off+j) v) (j+1) (by simp;omega)]
   have hlt:off+j < cells.toList.length:=by simp;omega
   have e1:(cells.setIfInBounds (off+j) v).toList=cells.toList.set (off+j) v:=by simp
   rw [e1]
   have e2:(cells.toList.set (off+j) v).take (off+(j+1))=cells.toList.take (off+j)++[v]:=by
    rw [show off+(j+1)=off+j+1 by omega,List.take_succ_eq_append_getElem (by simpa using hlt)]
    simp only [List.take_set,List.getElem_set_self]
    rw [List.set_eq_of_length_le (by simp;omega)]
   have e3:(cells.toList.set (off+j) v).drop (off+(j+1)+vs.length)=cells.toList.drop (off+j+(vs.length+1)):=by
    rw [List.drop_set_of_lt (by omega)];congr 1;omega
   rw [e2,e3];simp
theorem fill_rel (place:Nat→Option (Nat × Nat)):∀(ps:List (Nat × AV)) (cs:List (Nat × Value)),L2 (fun a b=>a.1=b.1∧VRel ρ a.2 b.2) ps cs →
 ∀(z:List Sc) (zc:List Value) (r:List Sc),L2 (SRel ρ) z zc→fillA place z ps=some r →
 ∃rc:List Value,Instr.fill place zc.toArray cs=some rc.toArray∧L2 (SRel ρ) r rc:=by
 intro ps cs h
 induction h with
 | nil=>intro z zc r hz hf;simp [fillA] at hf;subst hf;exact ⟨zc,rfl,hz⟩
 | @cons a b ps cs h _ ih =>
   intro z zc r hz hf
   obtain ⟨i,v⟩:=a
   obtain ⟨i',vc⟩:=b
   obtain ⟨hi,hv⟩:=h
   simp only at hi hv
   subst hi
   simp only [fillA] at hf
   split at hf
   ·rename_i off n l hp hl
    split at hf
    ·rename_i hc
     obtain ⟨cs',hcs,hrel,_⟩:=hv.cells hl
     have hlen:=hrel.length
     have hzl:=hz.length
     have hsz:¬(vc.cells.size≠n || off+vc.cells.size > zc.toArray.size)=true:=by
      rw [hcs];simp;omega
     have hz2:L2 (SRel ρ) (wr z off l) (zc.take off++cs'++zc.drop (off+cs'.length)):=by
      unfold wr;rw [←hlen];exact ((hz.take off).app hrel).app (hz.drop _)
     obtain ⟨rc,h1,h2⟩:=ih _ _ _ hz2 hf
     refine ⟨rc,?_,h2⟩
     simp only [Instr.fill,hp]
     rw [if_neg hsz]
     have e:(vc.cells.zipIdx.foldl (fun cs (c,j)=>cs.setIfInBounds (off+j) c) zc.toArray)=(zc.take off++cs'++zc.drop (off+cs'.length)).toArray:=by
      apply Array.ext'
      rw [hcs,←Array.foldl_toList]
      have:=foldl_set zc.toArray off cs' 0 (by simp;omega)
      simpa using this
     rw [e];exact h1
    ·simp at hf
   ·simp at hf
theorem zero_rel {t:Nat} {z:List Sc} (h:zT P t=some z) (w:World):∃v zc,(zeroValue t).run P w=.ok v w∧v.cells=(zc:List Value).toArray∧L2 (SRel ρ) z zc:=by
 unfold zT at h
 cases hi:P.info? t with
 | none=>simp [hi] at h
 | some i =>
   rw [hi] at h
   simp only [Option.bind_some] at h
   cases hz:i.zero with
   | none=>simp [hz] at h
   | some v =>
     rw [hz] at h
     have hr:(zeroValue t).run P w=.ok v w:=by simp [zeroValue,typeInfo,hi,hz]
     cases v with
     | agg cs =>
       simp at h;subst h
       refine ⟨_,cs.toList,hr,by simp [Value.cells],?_⟩
       have:L2 (fun a b=>SRel ρ (absS a) b) cs.toList cs.toList:=L2.refl' fun a _=>absS_rel ρ a
       simpa using L2.map (f:=absS) (g:=id) this
     | _=>simp at h;subst h;exact ⟨_,[_],hr,rfl,.cons (absS_rel ρ _) .nil⟩
theorem mapM_sizes (w:World):∀(fs:List Field) ,(∀f∈fs,∃i,P.info? f.type=some i)→(fs.mapM fun f=>(do pure (f.offset,←sizeOf f.type):Sem (Nat × Nat))).run P w=.ok (fs.map fun f=>(f.offset,szT P f.type)) w:=by
 intro fs
 induction fs with
 | nil=>intro _;simp
 | cons f fs ih =>
   intro h
   obtain ⟨i,hi⟩:=h f (by simp)
   have hs:∀w:World,(sizeOf f.type).run P w=.ok (szT P f.type) w:=fun w=>by simp [sizeOf,typeInfo,hi,szT]
   simp only [List.mapM_cons,Sem.run_bind,hs,Result.andThen_ok,Sem.run_pure]
   rw [ih fun g hg=>h g (by simp [hg])]
   simp
theorem build_run {t:Nat} {ps:List (Nat × AV)} {cs:List (Nat × Value)} {v:AV} (h:buildA P t ps=some v) (hp:L2 (fun a b=>a.1=b.1∧VRel ρ a.2 b.2) ps cs) (w:World) :
 ∃vc,(Instr.build t cs.toArray).run P w=.ok vc w∧VRel ρ v vc:=by
 unfold buildA at h
 split at h
 ·rename_i z hz hag
  obtain ⟨zv,zc,h1,h2,h3⟩:=zero_rel (ρ:=ρ) hz w
  simp only [Option.map_eq_some_iff] at h
  obtain ⟨r,hr,rfl⟩:=h
  cases hd:dT P t with
  | st fs =>
    obtain ⟨gs,hu,hpos,rfl⟩:=und_st hd
    rw [hd] at hr
    have hpl:(placeA P (.st (gs.toList.map fun f=>(f.offset,f.type))))=fun i=>((gs.toList.map fun f=>(f.offset,szT P f.type)).toArray)[i]?:=by
     funext i
     simp only [placeA,List.getElem?_map,List.getElem?_toArray]
     cases gs.toList[i]? <;> rfl
    rw [hpl] at hr
    obtain ⟨rc,h4,h5⟩:=fill_rel _ _ _ hp _ _ _ h3 hr
    refine ⟨.agg rc.toArray,?_,rc,rfl,h5⟩
    have hm:=mapM_sizes (P:=P) w gs.toList (fun f hf=>by obtain ⟨i,hi,_⟩:=info_of (hpos f hf);exact ⟨i,hi⟩)
    simp only [Instr.build,Sem.run_bind,h1,Result.andThen_ok,run_underlying hu]
    rw [Array.mapM_eq_mapM_toList]
    simp only [Sem.run_map,hm,Result.andThen_ok,h2]
    rw [h4];rfl
  | arr n e =>
    obtain ⟨hu,hz0⟩:=und_arr hd
    rw [hd] at hr
    obtain ⟨rc,h4,h5⟩:=fill_rel _ _ _ hp _ _ _ h3 hr
    refine ⟨.agg rc.toArray,?_,rc,rfl,h5⟩
    ·simp only [Instr.build,Sem.run_bind,h1,Result.andThen_ok,run_underlying hu,run_sizeOf' hz0,h2]
     have h4':Instr.fill (fun i=>some (i * szT P e,szT P e)) zc.toArray cs=some rc.toArray:=h4
     rw [h4'];rfl
  | _=>rw [hd] at hag;simp [D.agg] at hag
 ·simp at h
theorem caps_rel:∀(vs:List AV) (cs:List Value) (l:List (Nat × Nat × Nat)),caps vs=some l→L2 (VRel ρ) vs cs→L2 (fun (c:Nat × Nat × Nat) v=>PRel ρ c.1 c.2.1 c.2.2 v) l cs:=by
 intro vs
 induction vs with
 | nil=>intro cs l h hr;simp [caps] at h;subst h;cases hr;exact .nil
 | cons v vs ih =>
   intro cs l h hr
   cases hr with
   | cons h1 h2 =>
     match v,h,h1 with
     | .c (.p a b c),h,h1 =>
       simp only [caps,Option.map_eq_some_iff] at h
       obtain ⟨m,h3,rfl⟩:=h
       exact .cons h1 (ih _ _ h3 h2)
theorem ix_rel {x:AV} {v:Value} {n:Int} (h:ixA x=some n) (hv:VRel ρ x v):∃k,v=.int k n:=by
 unfold ixA at h
 split at h <;> simp at h <;> subst h
 ·obtain ⟨rfl,_⟩:=hv;exact ⟨_,rfl⟩
 ·cases hv;exact ⟨_,rfl⟩
 ·obtain ⟨rfl,_⟩:=hv;exact ⟨_,rfl⟩
theorem PRel.add {id off ver:Nat} {v:Value} (h:PRel ρ id off ver v) (n:Nat):∃a,v=.pointer (some a)∧PRel ρ id (off+n) ver (.pointer (some (a.add n))):=by
 obtain ⟨L,a,h1,rfl,h2,h3⟩:=h
 refine ⟨a,rfl,L,a.add n,h1,rfl,h2,fun e=>⟨(h3 e).1,(h3 e).2.1,?_⟩⟩
 rw [(h3 e).2.2,Addr.add_none,Nat.add_assoc]
theorem fieldAddr_run {t k:Nat} {fs:List (Nat × Nat)} {f:Nat × Nat} {id off ver:Nat} {v:Value} (hd:dT P t=.st fs) (hf:fs[k]?=some f) (hz:0 < szT P f.2) (hv:PRel ρ id off ver v) (w:World) :
 ∃vc,(Instr.fieldAt t v k).run P w=.ok vc w∧PRel ρ id (off+f.1) ver vc:=by
 obtain ⟨gs,hu,hpos,rfl⟩:=und_st hd
 simp only [List.getElem?_map,Option.map_eq_some_iff] at hf
 obtain ⟨g,hg,rfl⟩:=hf
 obtain ⟨a,rfl,h2⟩:=hv.add g.offset
 refine ⟨_,?_,h2⟩
 have hg':gs[k]?=some g:=by rw [←Array.getElem?_toList];exact hg
 have hz':¬szT P g.type=0:=by simp only at hz;omega
 simp only [Instr.fieldAt,Sem.run_bind,run_underlying hu,Result.andThen_ok,hg',Instr.sureAddr,Sem.run_pure,fieldPlace,run_sizeOf' hz,hz',if_false]
theorem SRel.getD {l:List Sc} {cs:List Value} (h:L2 (SRel ρ) l cs) (o:Nat) (ho:o < l.length):SRel ρ (l.getD o .any) (cs.getD o .nilIface):=by
 obtain ⟨b,hb,hr⟩:=h.get? o l[o] (by simp [ho])
 rw [List.getD_eq_getElem?_getD,List.getD_eq_getElem?_getD,hb]
 simpa [ho] using hr
theorem part_rel {t off:Nat} {l:List Sc} {cs:List Value} (hl:L2 (SRel ρ) l cs) (his:(dT P t).is=true) (hsz:0 < szT P t) (w:World) (hlen:off+szT P t≤l.length) :
 ∃vc,(part t cs.toArray off).run P w=.ok vc w∧VRel ρ (rd (dT P t).agg l off (szT P t)) vc:=by
 refine ⟨_,run_part his hsz w (by rw [←hl.length];exact hlen),?_⟩
 cases hag:(dT P t).agg with
 | true=>exact ⟨_,rfl,(hl.drop off).take _⟩
 | false=>exact SRel.getD hl off (by omega)
theorem field_run {t k:Nat} {fs:List (Nat × Nat)} {f:Nat × Nat} {l:List Sc} {v:Value} (hd:dT P t=.st fs) (hf:fs[k]?=some f) (hz:0 < szT P f.2) (his:(dT P f.2).is=true) (hlen:f.1+szT P f.2≤l.length)
 (hv:VRel ρ (.g l) v) (w:World):∃vc,(Instr.field t v k).run P w=.ok vc w∧VRel ρ (rd (dT P f.2).agg l f.1 (szT P f.2)) vc:=by
 obtain ⟨gs,hu,hpos,rfl⟩:=und_st hd
 simp only [List.getElem?_map,Option.map_eq_some_iff] at hf
 obtain ⟨g,hg,rfl⟩:=hf
 obtain ⟨cs,rfl,hcs⟩:=hv
 obtain ⟨vc,h1,h2⟩:=part_rel hcs his hz w hlen
 refine ⟨vc,?_,h2⟩
 have hg':gs[k]?=some g:=by rw [←Array.getElem?_toList];exact hg
 simp only [Instr.field,Sem.run_bind,run_underlying hu,Result.andThen_ok,hg',asAgg,Sem.run_pure,h1]
theorem indexAddr_run {t:Nat} {x ix v:AV} {cx ci:Value} (h:indexAddrA P t x ix=some v) (hx:VRel ρ x cx) (hi:VRel ρ ix ci) (w:World) :
 ∃vc,(Instr.indexAt t cx ci).run P w=.ok vc w∧VRel ρ v vc:=by
 unfold indexAddrA at h
 split at h
 ·rename_i n e id off ver i hd hii
  split at h <;> simp at h
  rename_i hc
  obtain ⟨k,rfl⟩:=ix_rel hii hi
  obtain ⟨a,rfl,h2⟩:=PRel.add (show PRel ρ id off ver cx from hx) (i.toNat * szT P e)
  subst h
  refine ⟨_,?_,h2⟩
  obtain ⟨hu,_⟩:=und_arr hd
  simp only [Instr.indexAt,asIntOf,Sem.run_bind,Sem.run_pure,Result.andThen_ok,run_underlying hu,Instr.sureAddr,hc.1,hc.2.1,and_self,if_true,run_sizeOf' hc.2.2]
 ·rename_i e id off ver len i hd hii
  split at h <;> simp at h
  rename_i hc
  obtain ⟨k,rfl⟩:=ix_rel hii hi
  obtain ⟨L,base,cap,h1,rfl,hn,h2,h3,h4,h5⟩:=(show SlRel ρ id off ver len cx from hx)
  subst h
  have hu:=und_sl hd
  have hlen:0 < len:=by omega
  cases base with
  | none=>have:=hn rfl;omega
  | some a =>
    refine ⟨.pointer (some (a.add (i.toNat * szT P e))),?_,L,_,h1,rfl,h4,fun e=>?_⟩
    ·simp only [Instr.indexAt,asIntOf,Sem.run_bind,Sem.run_pure,Result.andThen_ok,run_underlying hu,hc.1,hc.2.1,and_self,if_true,run_sizeOf' hc.2.2]
    ·have:=h5 e
     split at this
     ·simp at this
     ·rename_i hnil
      obtain ⟨a',e1,e2,_,e3⟩:=this
      simp at e1;subst e1
      refine ⟨by simpa using hnil,e3 hlen,?_⟩
      rw [e2 (.inr hlen),Addr.add_none,Nat.add_assoc]
 ·simp at h
end Go.Am
/- The quiet operations: indexing, slicing, and the sum of them all. -/
namespace Go.Am
variable {P:Program} {ρ:Ro}
theorem index_run {t:Nat} {x ix v:AV} {cx ci:Value} (h:indexA P t x ix=some v) (hx:VRel ρ x cx) (hi:VRel ρ ix ci) (w:World) :
 ∃vc,(Instr.index t cx ci).run P w=.ok vc w∧VRel ρ v vc:=by
 unfold indexA at h
 split at h
 ·rename_i n e l i hd hii
  split at h <;> simp at h
  rename_i hc
  obtain ⟨k,rfl⟩:=ix_rel hii hi
  obtain ⟨cs,rfl,hcs⟩:=hx
  obtain ⟨hu,_⟩:=und_arr hd
  subst h
  obtain ⟨vc,h1,h2⟩:=part_rel hcs hc.2.2.2.1 hc.2.2.1 w hc.2.2.2.2
  refine ⟨vc,?_,h2⟩
  simp only [Instr.index,asIntOf,Sem.run_bind,Sem.run_pure,Result.andThen_ok,run_underlying hu,hc.1,hc.2.1,and_self,if_true,run_sizeOf' hc.2.2.1,h1]
 ·rename_i s i hd hii
  split at h <;> simp at h
  rename_i hc
  obtain ⟨k,rfl⟩:=ix_rel hii hi
  obtain ⟨rfl,hs⟩:=hx
  have hu:=und_str hd
  subst h
  have hlt:i.toNat < s.size:=by omega
  have hg:s[i.toNat]?=some s.data[i.toNat]:=by
   simp [getElem?_pos,hlt];rfl
  refine ⟨.int .u8 (s.data[i.toNat].toNat),?_,?_⟩
  ·simp only [Instr.index,asIntOf,Sem.run_bind,Sem.run_pure,Result.andThen_ok,run_underlying hu,hc.1,if_true,hg]
  ·have hb:=s.data[i.toNat].toNat_lt
   have hlt':i.toNat < s.data.size:=hlt
   have hgd:s.data[i.toNat]?.getD 0=s.data[i.toNat]:=by rw [Array.getElem?_eq_getElem hlt'];rfl
   rw [hgd]
   refine ⟨rfl,by decide,?_,?_⟩
   ·simp [IntKind.min,IntKind.signed]
   ·simp [IntKind.max,IntKind.signed,IntKind.bits];omega
 ·simp at h
inductive Opt (ρ:Ro):Option AV→Option Value→Prop
 | none:Opt ρ none none
 | some {a v} (h:VRel ρ a v):Opt ρ (some a) (some v)
theorem bounds_run {b:Bool} {len cap:Nat} {lo hi:Option AV} {lc hc:Option Value} {l h:Int} (hlo:Opt ρ lo lc) (hhi:Opt ρ hi hc) (h1:loOf lo=some l) (h2:hiOf len hi=some h)
 (h3:0≤l) (h4:l≤h) (h5:h≤len) (h6:len≤cap) (w:World):(Instr.sliceBounds b len cap lc hc none).run P w=.ok (l.toNat,h.toNat,cap) w:=by
 have sb:∀(k:IntKind) (n:Int) (y:Nat) (c:BoundsCode),0≤n→n≤y→(Instr.sliceBound (.int k n) y c).run P w=.ok n.toNat w:=by
  intro k n y c a b
  simp [Instr.sliceBound,asIntOf,a,b]
 cases hlo with
 | none =>
   simp [loOf] at h1;subst h1
   cases hhi with
   | none=>simp [hiOf] at h2;subst h2;simp [Instr.sliceBounds]
   | some hv =>
     obtain ⟨k,rfl⟩:=ix_rel (show ixA _=some h from h2) hv
     simp [Instr.sliceBounds,sb k h cap _ (by omega) (by omega)]
 | some lv =>
   obtain ⟨k,rfl⟩:=ix_rel (show ixA _=some l from h1) lv
   cases hhi with
   | none =>
     simp [hiOf] at h2;subst h2
     simp [Instr.sliceBounds,sb k l len _ (by omega) (by omega)]
   | some hv =>
     obtain ⟨k',rfl⟩:=ix_rel (show ixA _=some h from h2) hv
     simp [Instr.sliceBounds,sb k' h cap _ (by omega) (by omega),sb k l h.toNat _ (by omega) (by omega)]
theorem sliceAt_ne {t:Nat} {x:Value} {lo hi mx:Option Value} {d:TypeDesc} (hu:P.underlying t=some d) (hne:∀n e,d≠.array n e) (w:World) :
 (Instr.sliceAt t x lo hi mx).run P w=(Instr.slice t x lo hi mx).run P w:=by
 simp only [Instr.sliceAt,Sem.run_bind,run_underlying hu,Result.andThen_ok]
theorem slice_run {t:Nat} {x v:AV} {lo hi:Option AV} {cx:Value} {lc hc:Option Value} (h:sliceA P t x lo hi=some v) (hx:VRel ρ x cx) (hlo:Opt ρ lo lc) (hhi:Opt ρ hi hc) (w:World) :
 ∃vc,(Instr.sliceAt t cx lc hc none).run P w=.ok vc w∧VRel ρ v vc:=by
 unfold sliceA at h
 split at h
 ·rename_i e id off ver len hd
  split at h
  ·rename_i l hh e1 e2
   split at h <;> simp at h
   rename_i hc'
   subst h
   have hu:=und_sl hd
   obtain ⟨L,base,cap,h1,rfl,hn,h2,h3,h4,h5⟩:=(show SlRel ρ id off ver len cx from hx)
   have hb:=bounds_run (P:=P) (b:=true) (cap:=cap) hlo hhi e1 e2 hc'.1 hc'.2.1 hc'.2.2.1 h2 w
   refine ⟨.slice (if cap=l.toNat then base else base.map (·.add (l.toNat * szT P e))) (hh.toNat - l.toNat) (cap - l.toNat),?_,?_⟩
   ·rw [sliceAt_ne hu (by simp)]
    simp only [Instr.slice,Sem.run_bind,run_underlying hu,Result.andThen_ok,hb,run_sizeOf' hc'.2.2.2,Sem.run_pure]
   ·refine ⟨L,_,_,h1,rfl,?_,by omega,by omega,h4,fun e'=>?_⟩
    ·intro hnone
     have:base=none:=by
      split at hnone
      ·exact hnone
      ·simpa using hnone
     have:=hn this;omega
    ·have:=h5 e'
     split
     ·rename_i hnil
      rw [if_pos hnil] at this
      obtain ⟨rfl,rfl,rfl,rfl⟩:=this
      have hl0:l.toNat=0:=by omega
      simp [hl0];omega
     ·rename_i hnil
      rw [if_neg hnil] at this
      obtain ⟨a,rfl,g1,g2,g3⟩:=this
      have hmul:l.toNat * szT P e=0 ↔ l.toNat=0:=by
       constructor
       ·intro hz;rcases Nat.mul_eq_zero.1 hz with h | h
        ·exact h
        ·omega
       ·intro hz;simp [hz]
      by_cases hcl:cap=l.toNat
      ·refine ⟨a,by simp [hcl],?_,?_,fun hp=>g3 (by omega)⟩
       ·intro ho
        have hl0:l.toNat=0:=by omega
        rw [hl0];simp only [Nat.zero_mul,Nat.add_zero]
        refine g1 ?_
        left;omega
       ·intro ho hv
        have hl0:l.toNat=0:=by omega
        have:=g2 (by omega) hv
        omega
      ·refine ⟨a.add (l.toNat * szT P e),by simp [hcl],?_,?_,fun hp=>g3 (by omega)⟩
       ·intro ho
        have:a=⟨L.blk,L.off+off,none⟩:=g1 (by omega)
        rw [this,Addr.add_none,Nat.add_assoc]
       ·intro ho hv
        have hl0:l.toNat=0:=by omega
        have:=g2 (by omega) hv
        omega
  ·simp at h
 ·rename_i e hd
  split at h
  ·rename_i l hh e1 e2
   split at h <;> simp at h
   rename_i hc'
   obtain ⟨rfl,rfl,hz⟩:=hc'
   subst h
   have hu:=und_sl hd
   cases hx
   have hb:=bounds_run (P:=P) (b:=true) (len:=0) (cap:=0) hlo hhi e1 e2 (by omega) (by omega) (by omega) (by omega) w
   rw [sliceAt_ne hu (by simp)]
   refine ⟨.slice none 0 0,?_,rfl⟩
   simp only [Instr.slice,Sem.run_bind,run_underlying hu,Result.andThen_ok,hb,run_sizeOf' hz,Sem.run_pure];rfl
  ·simp at h
 ·rename_i n e id off ver hd
  split at h
  ·rename_i l hh e1 e2
   split at h <;> simp at h
   rename_i hc'
   subst h
   obtain ⟨hu,_⟩:=und_arr hd
   obtain ⟨L,a,h1,rfl,h4,h5⟩:=(show PRel ρ id off ver cx from hx)
   have hb:=bounds_run (P:=P) (b:=false) (len:=n) (cap:=n) hlo hhi e1 e2 hc'.1 (by omega) hc'.2.2.1 (by omega) w
   refine ⟨.slice (some (a.add (l.toNat * szT P e))) (hh.toNat - l.toNat) (n - l.toNat),?_,?_⟩
   ·have hne:¬n=l.toNat:=by omega
    simp only [Instr.sliceAt,Sem.run_bind,run_underlying hu,Result.andThen_ok,Instr.sureAddr,hb,run_sizeOf' hc'.2.2.2.2.1,Sem.run_pure,hne,if_false]
   ·refine ⟨L,_,_,h1,rfl,by simp,by omega,by omega,h4,fun e'=>?_⟩
    obtain ⟨g1,g2,g3⟩:=h5 e'
    rw [if_neg (by simp [g1])]
    refine ⟨_,rfl,fun _=>by rw [g3,Addr.add_none,Nat.add_assoc],fun _ hv=>?_,fun _=>g2⟩
    have:=g2 hv;omega
  ·simp at h
 ·rename_i s hd
  split at h
  ·rename_i l hh e1 e2
   split at h <;> simp at h
   rename_i hc'
   subst h
   have hu:=und_str hd
   obtain ⟨rfl,hs⟩:=hx
   have hb:=bounds_run (P:=P) (b:=false) (len:=s.size) (cap:=s.size) hlo hhi e1 e2 hc'.1 hc'.2.1 hc'.2.2 (by omega) w
   refine ⟨.string (s.extract l.toNat hh.toNat),?_,rfl,?_⟩
   ·rw [sliceAt_ne hu (by simp)]
    simp [Instr.slice,run_underlying hu,hb]
   ·simp;omega
  ·simp at h
 ·simp at h
theorem len_run {t:Nat} {x v:AV} {cx:Value} {ts:Array TypeId} (h:lenA P t x=some v) (ht:ts[0]?=some t) (hx:VRel ρ x cx) (ty:Nat) (w:World) :
 ∃vc,(Builtin.len_ ts ty #[cx]).run P w=.ok vc w∧VRel ρ v vc:=by
 unfold lenA at h
 split at h
 ·rename_i e id off ver len hd
  simp at h;subst h
  obtain ⟨L,base,cap,h1,rfl,hn,h2,h3,h4,h5⟩:=(show SlRel ρ id off ver len cx from hx)
  exact ⟨.int .i64 len,by simp [Builtin.len_,ht,run_underlying (und_sl hd),goInt],rfl,by omega,by omega⟩
 ·rename_i e hd
  simp at h;subst h
  cases hx
  exact ⟨.int .i64 0,by simp [Builtin.len_,ht,run_underlying (und_sl hd),goInt],rfl,by omega,by omega⟩
 ·rename_i s hd
  simp at h;subst h
  obtain ⟨rfl,hs⟩:=hx
  exact ⟨.int .i64 s.size,by simp [Builtin.len_,ht,run_underlying (und_str hd),goInt],rfl,by omega,by omega⟩
 ·rename_i n e hd
  split at h <;> simp at h
  subst h
  exact ⟨.int .i64 n,by simp [Builtin.len_,ht,run_underlying (und_arr hd).1,goInt],rfl,by omega,by omega⟩
 ·simp at h
theorem L2.one {α β:Type} {R:α→β→Prop} {a:α} {l:List β} (h:L2 R [a] l):∃b,l=[b]∧R a b:=by
 cases h with | cons h t=>cases t;exact ⟨_,rfl,h⟩
theorem L2.two {α β:Type} {R:α→β→Prop} {a b:α} {l:List β} (h:L2 R [a,b] l):∃x y,l=[x,y]∧R a x∧R b y:=by
 cases h with | cons h t=>obtain ⟨y,rfl,h2⟩:=t.one;exact ⟨_,_,rfl,h,h2⟩
theorem bounds3_run {len cap:Nat} {cl ch cm lo hi mx:Value} {l h m:Int} {al ah am:AV} (r1:VRel ρ al cl) (r2:VRel ρ ah ch) (r3:VRel ρ am cm) (h1:ixA al=some l) (h2:ixA ah=some h) (h3:ixA am=some m)
 (g0:0≤l) (g1:l < h) (g2:h≤m) (g3:m≤cap) (w:World):(Instr.sliceBounds true len cap (some cl) (some ch) (some cm)).run P w=.ok (l.toNat,h.toNat,m.toNat) w:=by
 have sb:∀(k:IntKind) (n:Int) (y:Nat) (c:BoundsCode),0≤n→n≤y→(Instr.sliceBound (.int k n) y c).run P w=.ok n.toNat w:=by
  intro k n y c a b
  simp [Instr.sliceBound,asIntOf,a,b]
 obtain ⟨k1,rfl⟩:=ix_rel h1 r1
 obtain ⟨k2,rfl⟩:=ix_rel h2 r2
 obtain ⟨k3,rfl⟩:=ix_rel h3 r3
 simp [Instr.sliceBounds,sb k3 m cap _ (by omega) (by omega),sb k2 h m.toNat _ (by omega) (by omega),sb k1 l h.toNat _ (by omega) (by omega)]
theorem slice3_run {t:Nat} {x v lo hi mx:AV} {cx lc hc mc:Value} (h:slice3A P t x lo hi mx=some v) (hx:VRel ρ x cx) (hlo:VRel ρ lo lc) (hhi:VRel ρ hi hc) (hmx:VRel ρ mx mc) (w:World) :
 ∃vc,(Instr.sliceAt t cx (some lc) (some hc) (some mc)).run P w=.ok vc w∧VRel ρ v vc:=by
 unfold slice3A at h
 split at h
 ·rename_i e id off ver len hd
  split at h
  ·rename_i l hh m e1 e2 e3
   split at h <;> simp at h
   rename_i hc'
   obtain ⟨c1,c2,c3,c4,c5⟩:=hc'
   subst h
   have hu:=und_sl hd
   obtain ⟨L,base,cap,h1,rfl,hn,h2,h3,h4,h5⟩:=(show SlRel ρ id off ver len cx from hx)
   have hb:=bounds3_run (P:=P) (len:=len) (cap:=cap) (lo:=lc) (hi:=hc) (mx:=mc) hlo hhi hmx e1 e2 e3 c1 c2 c3 (by omega) w
   have hne:¬m.toNat=l.toNat:=by omega
   refine ⟨.slice (base.map (·.add (l.toNat * szT P e))) (hh.toNat - l.toNat) (m.toNat - l.toNat),?_,?_⟩
   ·rw [sliceAt_ne hu (by simp)]
    simp only [Instr.slice,Sem.run_bind,run_underlying hu,Result.andThen_ok,hb,run_sizeOf' c5,Sem.run_pure,if_neg hne]
   ·refine ⟨L,_,_,h1,rfl,?_,by omega,by omega,h4,fun e'=>?_⟩
    ·intro hnone
     have:base=none:=by simpa using hnone
     have:=hn this;omega
    ·have:=h5 e'
     split
     ·rename_i hnil
      rw [if_pos hnil] at this
      obtain ⟨rfl,rfl,rfl,rfl⟩:=this
      omega
     ·rename_i hnil
      rw [if_neg hnil] at this
      obtain ⟨a,rfl,g1,g2,g3⟩:=this
      refine ⟨a.add (l.toNat * szT P e),by simp,?_,?_,fun hp=>g3 (by omega)⟩
      ·intro ho
       have:a=⟨L.blk,L.off+off,none⟩:=g1 (by omega)
       rw [this,Addr.add_none,Nat.add_assoc]
      ·intro ho hv
       have:=g2 (by omega) hv
       omega
  ·simp at h
 ·simp at h
theorem L2.three {α β:Type} {R:α→β→Prop} {a b c:α} {l:List β} (h:L2 R [a,b,c] l):∃x y z,l=[x,y,z]∧R a x∧R b y∧R c z:=by
 cases h with | cons h t=>obtain ⟨y,z,rfl,h2,h3⟩:=t.two;exact ⟨_,_,_,rfl,h,h2,h3⟩
theorem L2.four {α β:Type} {R:α→β→Prop} {a b c d:α} {l:List β} (h:L2 R [a,b,c,d] l):∃x y z u,l=[x,y,z,u]∧R a x∧R b y∧R c z∧R d u:=by
 cases h with | cons h t=>obtain ⟨x,y,z,rfl,h2,h3,h4⟩:=t.three;exact ⟨_,_,_,_,rfl,h,h2,h3,h4⟩
theorem min_run {mx:Bool} {x y v:AV} {cx cy:Value} (h:min2 mx x y=some v) (hx:VRel ρ x cx) (hy:VRel ρ y cy) (w:World) :
 ∃vc,(if mx then Builtin.max_ #[] 0 #[cx,cy] else Builtin.min_ #[] 0 #[cx,cy]).run P w=.ok vc w∧VRel ρ v vc:=by
 unfold min2 at h
 split at h
 ·rename_i a b
  simp at h;subst h
  obtain ⟨rfl,h1⟩:=hx
  obtain ⟨rfl,h2⟩:=hy
  cases mx
  ·refine ⟨.int .i64 (if b < a then b else a),by simp [Builtin.min_,Builtin.min2],?_,?_⟩
   ·simp only [Bool.false_eq_true,if_false];congr 1;simp only [Int.min_def];split <;> split <;> omega
   ·simp only [Bool.false_eq_true,if_false];omega
  ·refine ⟨.int .i64 (if a < b then b else a),by simp [Builtin.max_,Builtin.max2],?_,?_⟩
   ·simp only [if_true];congr 1;simp only [Int.max_def];split <;> split <;> omega
   ·simp only [if_true];omega
 ·simp at h
end Go.Am
/- All quiet operations. -/
namespace Go.Am
variable {P:Program} {ρ:Ro}
theorem zip_rel {a:Act}:∀(ps:List (Nat × Operand)) (vs:List AV),L2 (VRel ρ) vs (ps.map fun p=>a.eval p.2) →
 L2 (fun (x:Nat × AV) (y:Nat × Value)=>x.1=y.1∧VRel ρ x.2 y.2) ((ps.map (·.1)).zip vs) (ps.map fun p=>(p.1,a.eval p.2)):=by
 intro ps
 induction ps with
 | nil=>intro vs h;cases h;exact .nil
 | cons p ps ih=>intro vs h;cases h with
   | cons h1 h2=>exact .cons ⟨rfl,h1⟩ (ih _ h2)
theorem qop_run {o:Oper} {a:Act} {H:AH} {vs:List AV} {v:AV} {w:World} (h:qop P o.op vs ((touch o.op vs).map (hg H))=some v)
 (hv:L2 (VRel ρ) vs ((opnds o.op).map a.eval)) (hO:∀i,ORel ρ w i (hg H i)):∃vc,(execOp a.eval o).run P w=.ok (.value vc) w∧VRel ρ v vc:=by
 obtain ⟨dst,op,ty,pos,after,guard⟩:=o
 simp only at h hv
 have fin:∀(s:Sem Value),(∃vc,s.run P w=.ok vc w∧VRel ρ v vc)→∃vc,(do pure (.value (←s)):Sem Next).run P w=.ok (.value vc) w∧VRel ρ v vc:=by
  rintro s ⟨vc,h1,h2⟩
  exact ⟨vc,by simp [h1],h2⟩
 unfold qop at h
 split at h
 ·simp at h;subst h;obtain ⟨x,hx,h1⟩:=hv.one
  simp only [opnds,List.map_cons,List.map_nil,List.cons.injEq,and_true] at hx;subst hx
  exact ⟨_,rfl,h1⟩
 ·simp at h;subst h;obtain ⟨x,hx,h1⟩:=hv.one
  simp only [opnds,List.map_cons,List.map_nil,List.cons.injEq,and_true] at hx;subst hx
  exact ⟨_,rfl,h1⟩
 ·
  rename_i c x y q ax ay
  simp at h;subst h
  obtain ⟨vc,vx,vy,hx,h1,h2,h3⟩:=hv.three
  simp only [opnds,List.map_cons,List.map_nil,List.cons.injEq,and_true] at hx
  obtain ⟨rfl,rfl,rfl⟩:=hx
  have h1':a.eval c=.bool q:=h1
  refine ⟨if q then a.eval x else a.eval y,by simp [execOp,h1',asBool],?_⟩
  cases q
  ·exact h3
  ·exact h2
 ·
  rename_i t ps
  refine fin _ ?_
  obtain ⟨vc,h1,h2⟩:=build_run h (zip_rel (a:=a) ps.toList _ (by simpa [opnds,Function.comp_def] using hv)) w
  refine ⟨vc,?_,h2⟩
  rw [←h1];congr 1;congr 1
  apply Array.ext';simp
 ·
  rename_i t x id off ver
  split at h
  ·rename_i o ho
   simp only [touch,List.map_cons,List.map_nil,List.cons.injEq,and_true] at ho
   subst ho
   split at h <;> simp at h
   rename_i hc
   subst h
   obtain ⟨y,hy,h1⟩:=hv.one
   simp only [opnds,List.map_cons,List.map_nil,List.cons.injEq,and_true] at hy;subst hy
   obtain ⟨L,ad,h2,h3,h4,h5⟩:=(show PRel ρ id off ver _ from h1)
   have hlive:(hg H id).live=true:=by
    cases hh:hg H id with
    | dead=>rw [hh] at hc;simp [AObj.cells] at hc;omega
    | _=>rfl
   have hrow:=(hO id).row h2 hlive
   obtain ⟨_,_,rfl⟩:=h5 (by rw [hrow];exact hc.1)
   obtain ⟨vc,h6,h7⟩:=load_run (hO id) h2 hc.2.1 hc.2.2.1 hc.2.2.2.1 hc.2.2.2.2
   exact fin _ ⟨vc,by simp [Instr.loadAt,h3,Instr.sureAddr,h6],h7⟩
  ·simp at h
 ·rename_i x id off ver
  simp at h;subst h
  obtain ⟨y,hy,h1⟩:=hv.one
  simp only [opnds,List.map_cons,List.map_nil,List.cons.injEq,and_true] at hy;subst hy
  obtain ⟨L,ad,h2,h3,h4⟩:=(show PRel ρ id off ver _ from h1)
  exact ⟨_,by simp [execOp,h3],L,ad,h2,rfl,h4⟩
 ·rename_i x f cs
  simp at h;subst h
  obtain ⟨y,hy,h1⟩:=hv.one
  simp only [opnds,List.map_cons,List.map_nil,List.cons.injEq,and_true] at hy;subst hy
  obtain ⟨cv,h2,h3⟩:=h1
  exact ⟨_,by simp [execOp,h2],cv,rfl,h3⟩
 ·
  rename_i bop t x y yt ax ay
  obtain ⟨cx,cy,hx,h1,h2⟩:=hv.two
  simp only [opnds,List.map_cons,List.map_nil,List.cons.injEq,and_true] at hx
  obtain ⟨rfl,rfl⟩:=hx
  exact fin _ (abin_run h h1 h2 x y w)
 ·rename_i uop t x ax
  obtain ⟨y,hy,h1⟩:=hv.one
  simp only [opnds,List.map_cons,List.map_nil,List.cons.injEq,and_true] at hy;subst hy
  exact fin _ (aun_run h h1 w)
 ·rename_i src dst x ax
  split at h
  ·rename_i hs
   obtain ⟨y,hy,h1⟩:=hv.one
   simp only [opnds,List.map_cons,List.map_nil,List.cons.injEq,and_true] at hy;subst hy
   exact fin _ (acv_run h h1 hs w)
  ·simp at h
 ·
  rename_i f first captured
  split at h
  ·rename_i hz
   simp only [Option.map_eq_some_iff] at h
   obtain ⟨l,hl,rfl⟩:=h
   refine fin _ ⟨_,rfl,captured.toList.map a.eval,?_,caps_rel _ _ _ hl hv⟩
   obtain rfl:first = #[]:=Array.eq_empty_of_size_eq_zero hz
   simp only [List.map_toArray,List.map_nil];congr 1;apply Array.ext';simp
  ·simp at h
 ·
  rename_i t x k id off ver
  split at h
  ·rename_i fs hd
   split at h
   ·rename_i f hf
    split at h <;> simp at h
    rename_i hz
    subst h
    obtain ⟨y,hy,h1⟩:=hv.one
    simp only [opnds,List.map_cons,List.map_nil,List.cons.injEq,and_true] at hy;subst hy
    exact fin _ (fieldAddr_run hd hf hz h1 w)
   ·simp at h
  ·simp at h
 ·rename_i t x k l
  split at h
  ·rename_i fs hd
   split at h
   ·rename_i f hf
    split at h <;> simp at h
    rename_i hz
    subst h
    obtain ⟨y,hy,h1⟩:=hv.one
    simp only [opnds,List.map_cons,List.map_nil,List.cons.injEq,and_true] at hy;subst hy
    exact fin _ (field_run hd hf hz.1 hz.2.1 hz.2.2 h1 w)
   ·simp at h
  ·simp at h
 ·obtain ⟨cx,cy,hx,h1,h2⟩:=hv.two
  simp only [opnds,List.map_cons,List.map_nil,List.cons.injEq,and_true] at hx
  obtain ⟨rfl,rfl⟩:=hx
  exact fin _ (indexAddr_run h h1 h2 w)
 ·obtain ⟨cx,cy,hx,h1,h2⟩:=hv.two
  simp only [opnds,List.map_cons,List.map_nil,List.cons.injEq,and_true] at hx
  obtain ⟨rfl,rfl⟩:=hx
  exact fin _ (index_run h h1 h2 w)
 ·
  rename_i t x lo hi ax r
  split at h
  ·obtain ⟨y,hy,h1⟩:=hv.one
   simp only [opnds,Option.toList,List.nil_append,List.append_nil,List.map_cons,List.map_nil,List.cons.injEq,and_true] at hy;subst hy
   exact fin _ (slice_run h h1 .none .none w)
  ·obtain ⟨y,z,hy,h1,h2⟩:=hv.two
   simp only [opnds,Option.toList,List.append_nil,List.map_cons,List.map_nil,List.cons.injEq,and_true] at hy
   obtain ⟨rfl,rfl⟩:=hy
   exact fin _ (slice_run h h1 (.some h2) .none w)
  ·obtain ⟨y,z,hy,h1,h2⟩:=hv.two
   simp only [opnds,Option.toList,List.nil_append,List.append_nil,List.map_cons,List.map_nil,List.cons.injEq,and_true] at hy
   obtain ⟨rfl,rfl⟩:=hy
   exact fin _ (slice_run h h1 .none (.some h2) w)
  ·obtain ⟨y,z,z',hy,h1,h2,h3⟩:=hv.three
   simp only [opnds,Option.toList,List.cons_append,List.nil_append,List.append_nil,List.map_cons,List.map_nil,List.cons.injEq,and_true] at hy
   obtain ⟨rfl,rfl,rfl⟩:=hy
   exact fin _ (slice_run h h1 (.some h2) (.some h3) w)
  ·simp at h
 ·obtain ⟨y,z,z',z'',hy,h1,h2,h3,h4⟩:=hv.four
  simp only [opnds,Option.toList,List.cons_append,List.nil_append,List.append_nil,List.map_cons,List.map_nil,List.cons.injEq,and_true] at hy
  obtain ⟨rfl,rfl,rfl,rfl⟩:=hy
  exact fin _ (slice3_run h h1 h2 h3 h4 w)
 ·
  rename_i x k l
  obtain ⟨y,hy,h1⟩:=hv.one
  simp only [opnds,List.map_cons,List.map_nil,List.cons.injEq,and_true] at hy;subst hy
  obtain ⟨vs,h2,h3⟩:=(show ∃vs:List Value,_∧_ from h1)
  obtain ⟨vc,h4,h5⟩:=h3.get? k v h
  refine fin _ ⟨vc,?_,h5.vrel⟩
  simp [h2,Instr.extract,h4]
 ·
  rename_i as ts x
  split at h
  ·rename_i t ht
   obtain ⟨y,hy,h1⟩:=hv.one
   simp only [opnds] at hy
   obtain ⟨vc,h2,h3⟩:=len_run h ht h1 ty w
   have has:as.map a.eval = #[y]:=by apply Array.ext';simpa using hy
   refine ⟨vc,?_,h3⟩
   simp only [execOp,resolve,Sem.run_bind,Sem.run_pure,Result.andThen_ok,invoke,builtin,has,h2]
  ·simp at h
 ·rename_i as ts
  unfold minL at h
  split at h
  ·obtain ⟨y,z,hy,h1,h2⟩:=hv.two
   simp only [opnds] at hy
   obtain ⟨vc,h3,h4⟩:=min_run h h1 h2 w
   have has:as.map a.eval = #[y,z]:=by apply Array.ext';simpa using hy
   refine ⟨vc,?_,h4⟩
   simp only [Bool.false_eq_true,if_false] at h3
   have h3':(Builtin.min_ ts ty #[y,z]).run P w=.ok vc w:=h3
   simp only [execOp,resolve,Sem.run_bind,Sem.run_pure,Result.andThen_ok,invoke,builtin,has,h3']
  ·simp at h
 ·rename_i as ts
  unfold minL at h
  split at h
  ·obtain ⟨y,z,hy,h1,h2⟩:=hv.two
   simp only [opnds] at hy
   obtain ⟨vc,h3,h4⟩:=min_run h h1 h2 w
   have has:as.map a.eval = #[y,z]:=by apply Array.ext';simpa using hy
   refine ⟨vc,?_,h4⟩
   simp only [if_true] at h3
   have h3':(Builtin.max_ ts ty #[y,z]).run P w=.ok vc w:=h3
   simp only [execOp,resolve,Sem.run_bind,Sem.run_pure,Result.andThen_ok,invoke,builtin,has,h3']
  ·simp at h
 ·simp at h
end Go.Am
/- Heaps: the relation, and what a new block and a store do to it. -/
namespace Go.Am
variable {P:Program} {ρ ρ':Ro}
def Stab (ρ ρ':Ro):Prop:=∀i L,ρ i=some L→∃L',ρ' i=some L'∧(L'=L∨L.row < L'.row)
theorem Stab.refl (ρ:Ro):Stab ρ ρ:=fun _ L h=>⟨L,h,.inl rfl⟩
theorem Stab.trans {a b c:Ro} (h:Stab a b) (h':Stab b c):Stab a c:=by
 intro i L hL
 obtain ⟨L1,h1,h2⟩:=h i L hL
 obtain ⟨L2,h3,h4⟩:=h' i L1 h1
 refine ⟨L2,h3,?_⟩
 rcases h2 with rfl | h2 <;> rcases h4 with rfl | h4
 ·exact .inl rfl
 ·exact .inr h4
 ·exact .inr h2
 ·exact .inr (by omega)
theorem PRel.mono {id off ver:Nat} {v:Value} (h:PRel ρ id off ver v) (hs:Stab ρ ρ'):PRel ρ' id off ver v:=by
 obtain ⟨L,a,h1,rfl,h2,h3⟩:=h
 obtain ⟨L',h4,h5⟩:=hs id L h1
 rcases h5 with rfl | h5
 ·exact ⟨L',a,h4,rfl,h2,h3⟩
 ·exact ⟨L',a,h4,rfl,by omega,fun e=>by omega⟩
theorem SRel.mono {s:Sc} {v:Value} (h:SRel ρ s v) (hs:Stab ρ ρ'):SRel ρ' s v:=by
 cases s with
 | p id off ver=>exact PRel.mono h hs
 | sl id off ver len =>
   obtain ⟨L,b,c,h1,rfl,hn,h2,h3,h6,h7⟩:=(show SlRel ρ id off ver len v from h)
   obtain ⟨L',h4,h5⟩:=hs id L h1
   rcases h5 with rfl | h5
   ·exact ⟨L',b,c,h4,rfl,hn,h2,h3,h6,h7⟩
   ·exact ⟨L',b,c,h4,rfl,hn,h2,h3,by omega,fun e=>by omega⟩
 | f fn cs =>
   obtain ⟨cv,h1,h2⟩:=h
   exact ⟨cv,h1,h2.mono fun _ _ h=>PRel.mono h hs⟩
 | mp id =>
   obtain ⟨L,b,h1,h2,h3⟩:=h
   obtain ⟨L',h4,h5⟩:=hs id L h1
   rcases h5 with rfl | h5
   ·exact ⟨L',b,h4,h2,h3⟩
   ·exact ⟨L',b,h4,h2,fun e=>by omega⟩
 | _=>exact h
theorem V1.mono {x:AV} {v:Value} (h:V1 ρ x v) (hs:Stab ρ ρ'):V1 ρ' x v:=by
 cases x with
 | c s=>exact SRel.mono h hs
 | g l=>obtain ⟨cs,h1,h2⟩:=h;exact ⟨cs,h1,h2.mono fun _ _ h=>SRel.mono h hs⟩
 | t l=>exact h
theorem VRel.mono {x:AV} {v:Value} (h:VRel ρ x v) (hs:Stab ρ ρ'):VRel ρ' x v:=by
 cases x with
 | c s=>exact SRel.mono h hs
 | g l=>obtain ⟨cs,h1,h2⟩:=h;exact ⟨cs,h1,h2.mono fun _ _ h=>SRel.mono h hs⟩
 | t l=>obtain ⟨cs,h1,h2⟩:=h;exact ⟨cs,h1,h2.mono fun _ _ h=>V1.mono h hs⟩
theorem cell_of_block {w w':World} {b:Nat} (h:w'.heap[b]?=w.heap[b]?) (o:Nat) (s:Option Nat):w'.cell? ⟨b,o,s⟩=w.cell? ⟨b,o,s⟩:=by
 simp [World.cell?,h]
theorem ORel.keep {w w':World} {i:Nat} {o:AObj} (h:ORel ρ w i o) (hs:Stab ρ ρ') (hi:ρ' i=ρ i)
 (hb:∀L,ρ i=some L→L.nil=false→o.live=true→w'.heap[L.blk]?=w.heap[L.blk]?) (hz:w.heap.size≤w'.heap.size):ORel ρ' w' i o:=by
 cases o with
 | own cs =>
   obtain ⟨L,c,t,h1,h2,h3,h4,h5,h6,h7⟩:=h
   exact ⟨L,c,t,by rw [hi,h1],h2,h3,h4,h5,by rw [hb L h1 h4 rfl,h6],h7.mono fun _ _ h=>h.mono hs⟩
 | vec sz cs =>
   obtain ⟨L,h1,h2,h3,h4,h5,h6⟩:=h
   refine ⟨L,by rw [hi,h1],h2,h3,h4,h5,?_⟩
   split
   ·rename_i hn;rw [if_pos hn] at h6;exact h6
   ·rename_i hn;rw [if_neg hn] at h6
    obtain ⟨c,d,t,h7,h8,h9⟩:=h6
    exact ⟨c,d,t,by rw [hb L h1 (by simpa using hn) rfl,h7],h8,h9.mono fun _ _ h=>h.mono hs⟩
 | view cs =>
   obtain ⟨L,h1,h2,h3,h4,h5,h6⟩:=h
   refine ⟨L,by rw [hi,h1],h2,h3,h4,fun e=>Nat.lt_of_lt_of_le (h5 e) hz,fun j s hjs=>?_⟩
   obtain ⟨v,h7,h8⟩:=h6 j s hjs
   have hn:L.nil=false:=by
    cases hn:L.nil with
    | false=>rfl
    | true=>rw [h4 hn] at hjs;simp at hjs
   exact ⟨v,by rw [cell_of_block (hb L h1 hn rfl),h7],h8.mono hs⟩
 | map clk es =>
   obtain ⟨L,ems,h1,h2,h3,h4,h5,h6,h7⟩:=h
   exact ⟨L,ems,by rw [hi,h1],h2,h3,h4,h5,by rw [hb L h1 h4 rfl,h6],h7.mono fun _ _ h=>⟨h.1,h.2.1.mono hs,h.2.2.mono hs⟩⟩
 | iter m since seen last =>
   obtain ⟨L,b,h1,h2,h3,h4,h5,h6,h7⟩:=h
   exact ⟨L,b,by rw [hi,h1],h2,h3,h4,h5,SRel.mono h6 hs,by rw [hb L h1 h4 rfl,h7]⟩
 | dead=>trivial
theorem ORel.blk_lt {w:World} {i:Nat} {o:AObj} (h:ORel ρ w i o) {L:Loc} (hL:ρ i=some L) (hn:L.nil=false) (hl:o.live=true):L.blk < w.heap.size:=by
 cases o with
 | own cs =>
   obtain ⟨L',c,t,h1,_,_,_,_,h6,_⟩:=h
   obtain rfl:L=L':=by simpa [hL] using h1
   rcases Nat.lt_or_ge L.blk w.heap.size with h | h
   ·exact h
   ·rw [Array.getElem?_eq_none h] at h6;simp at h6
 | vec sz cs =>
   obtain ⟨L',h1,_,_,_,_,h6⟩:=h
   obtain rfl:L=L':=by simpa [hL] using h1
   rw [if_neg (by rw [hn];decide)] at h6
   obtain ⟨c,d,t,h7,_⟩:=h6
   rcases Nat.lt_or_ge L.blk w.heap.size with h | h
   ·exact h
   ·rw [Array.getElem?_eq_none h] at h7;simp at h7
 | view cs =>
   obtain ⟨L',h1,_,_,_,h5,_⟩:=h
   obtain rfl:L=L':=by simpa [hL] using h1
   exact h5 hn
 | map clk es =>
   obtain ⟨L',ems,h1,_,_,_,_,h6,_⟩:=h
   obtain rfl:L=L':=by simpa [hL] using h1
   rcases Nat.lt_or_ge L.blk w.heap.size with h | h
   ·exact h
   ·rw [Array.getElem?_eq_none h] at h6;simp at h6
 | iter m since seen last =>
   obtain ⟨L',b,h1,_,_,_,_,_,h6⟩:=h
   obtain rfl:L=L':=by simpa [hL] using h1
   rcases Nat.lt_or_ge L.blk w.heap.size with h | h
   ·exact h
   ·rw [Array.getElem?_eq_none h] at h6;simp at h6
 | dead=>simp [AObj.live] at hl
structure HR (ρ:Ro) (w:World) (H:AH):Prop where
 obj:∀i,ORel ρ w i (hg H i)
 sep:∀i j Li Lj,i≠j→(hg H i).owned=true→ρ i=some Li→Li.nil=false→(hg H j).live=true→ρ j=some Lj→Lj.nil=false→Li.blk≠Lj.blk
 fresh:∀i,H.length≤i→ρ i=none
structure Keep (w0:World) (M:Nat→Prop) (w:World):Prop where
 os:w.os=w0.os
 tape:w.tape=w0.tape
 output:w.output=w0.output
 size:w0.heap.size≤w.heap.size
 old:∀b,b < w0.heap.size→¬M b→w.heap[b]?=w0.heap[b]?
 free:∀(b:Nat) c t f,w.heap[b]?=some (.cells c t f)→(w0.heap.size≤b∨M b)→f=(0,0)
theorem AObj.owned_live {o:AObj} (h:o.owned=true):o.live=true:=by cases o <;> simp_all [AObj.owned,AObj.live]
theorem hg_append (H:AH) (o:AObj) (i:Nat):hg (H++[o]) i=if i=H.length then o else hg H i:=by
 unfold hg
 simp only [List.getD_eq_getElem?_getD]
 split
 ·subst_vars;simp
 ·rename_i h
  rcases Nat.lt_or_ge i H.length with h' | h'
  ·rw [List.getElem?_append_left h']
  ·rw [List.getElem?_eq_none (by simp;omega),List.getElem?_eq_none h']
theorem hg_ge (H:AH) {i:Nat} (h:H.length≤i):hg H i=.dead:=by
 unfold hg;rw [List.getD_eq_getElem?_getD,List.getElem?_eq_none h];rfl
theorem hg_set (H:AH) (n:Nat) (o:AObj) (i:Nat) (_:n < H.length):hg (H.set n o) i=if i=n then o else hg H i:=by
 unfold hg
 simp only [List.getD_eq_getElem?_getD,List.getElem?_set]
 split
 ·subst_vars;rw [if_pos rfl];simp
 ·rename_i h;rw [if_neg (fun e=>h e.symm)]
theorem hg_lt {H:AH} {i:Nat} (h:(hg H i).live=true):i < H.length:=by
 rcases Nat.lt_or_ge i H.length with h' | h'
 ·exact h'
 ·rw [hg_ge H h'] at h;simp [AObj.live] at h
def upd (ρ:Ro) (n:Nat) (L:Loc):Ro:=fun i=>if i=n then some L else ρ i
theorem upd_same (ρ:Ro) (n:Nat) (L:Loc):upd ρ n L n=some L:=by simp [upd]
theorem upd_ne (ρ:Ro) {n i:Nat} (L:Loc) (h:i≠n):upd ρ n L i=ρ i:=by simp [upd,h]
theorem alloc_block (w:World) (o:Obj) (b:Nat) (h:b < w.heap.size):(w.alloc o).heap[b]?=w.heap[b]?:=by
 show (w.heap.push o)[b]?=_
 rw [Array.getElem?_push,if_neg (by omega)]
theorem alloc_new (w:World) (o:Obj):(w.alloc o).heap[w.heap.size]?=some o:=by
 show (w.heap.push o)[w.heap.size]?=_
 simp
theorem HR.alloc {w:World} {H:AH} (h:HR ρ w H) {l:List Sc} {c:List Value} (hl:L2 (SRel ρ) l c) (t:Nat) (o:AObj) (L:Loc) (hb:L.blk=w.heap.size) (hoff:L.off=0) (hnil:L.nil=false)
 (hrow:L.row=o.row) (ho:(o=.own l∧L.vec=false)∨(∃sz,o=.vec sz l∧L.vec=true∧0 < sz∧L.cap * sz=c.length)) :
 HR (upd ρ H.length L) (w.alloc (.cells c.toArray t)) (H++[o])∧Stab ρ (upd ρ H.length L):=by
 have hst:Stab ρ (upd ρ H.length L):=by
  intro i Li hi
  have:i≠H.length:=by rintro rfl;rw [h.fresh _ (Nat.le_refl _)] at hi;simp at hi
  exact ⟨Li,by rw [upd_ne _ _ this,hi],.inl rfl⟩
 have hl':L2 (SRel (upd ρ H.length L)) l c:=hl.mono fun _ _ h=>h.mono hst
 refine ⟨⟨?_,?_,?_⟩,hst⟩
 ·intro i
  rw [hg_append]
  split
  ·subst_vars
   rcases ho with ⟨rfl,hv⟩ | ⟨sz,rfl,hv,hsz,hcap⟩
   ·exact ⟨L,c,t,upd_same _ _ _,hoff,hrow,hnil,hv,by rw [hb];exact alloc_new _ _,hl'⟩
   ·refine ⟨L,upd_same _ _ _,hoff,hrow,hv,hsz,?_⟩
    rw [if_neg (by simp [hnil])]
    exact ⟨c,[],t,by rw [hb];simpa using alloc_new w _,by simpa using hcap,hl'⟩
  ·rename_i hne
   refine (h.obj i).keep hst (upd_ne _ _ hne) (fun Li hi hn hlv=>?_) (by simp)
   exact alloc_block _ _ _ ((h.obj i).blk_lt hi hn hlv)
 ·intro i j Li Lj hij hio hLi hni hjl hLj hnj
  rw [hg_append] at hio hjl
  by_cases h1:i=H.length
  ·subst h1
   rw [upd_same] at hLi;simp at hLi;subst hLi
   have h2:j≠H.length:=fun e=>hij e.symm
   rw [if_neg h2] at hjl
   rw [upd_ne _ _ h2] at hLj
   have:=(h.obj j).blk_lt hLj hnj hjl
   omega
  ·rw [if_neg h1] at hio
   rw [upd_ne _ _ h1] at hLi
   by_cases h2:j=H.length
   ·subst h2
    rw [upd_same] at hLj;simp at hLj;subst hLj
    have:=(h.obj i).blk_lt hLi hni (AObj.owned_live hio)
    omega
   ·rw [if_neg h2] at hjl
    rw [upd_ne _ _ h2] at hLj
    exact h.sep i j Li Lj hij hio hLi hni hjl hLj hnj
 ·intro i hi
  simp at hi
  rw [upd_ne _ _ (by omega)]
  exact h.fresh i (by omega)
theorem HR.allocO {w:World} {H:AH} (h:HR ρ w H) (ob:Obj) (o:AObj) (L:Loc) (hb:L.blk=w.heap.size) (hO:ORel (upd ρ H.length L) (w.alloc ob) H.length o) :
 HR (upd ρ H.length L) (w.alloc ob) (H++[o])∧Stab ρ (upd ρ H.length L):=by
 have hst:Stab ρ (upd ρ H.length L):=by
  intro i Li hi
  have:i≠H.length:=by rintro rfl;rw [h.fresh _ (Nat.le_refl _)] at hi;simp at hi
  exact ⟨Li,by rw [upd_ne _ _ this,hi],.inl rfl⟩
 refine ⟨⟨?_,?_,?_⟩,hst⟩
 ·intro i
  rw [hg_append]
  split
  ·subst_vars;exact hO
  ·rename_i hne
   refine (h.obj i).keep hst (upd_ne _ _ hne) (fun Li hi hn hlv=>?_) (by simp)
   exact alloc_block _ _ _ ((h.obj i).blk_lt hi hn hlv)
 ·intro i j Li Lj hij hio hLi hni hjl hLj hnj
  rw [hg_append] at hio hjl
  by_cases h1:i=H.length
  ·subst h1
   rw [upd_same] at hLi;simp at hLi;subst hLi
   have h2:j≠H.length:=fun e=>hij e.symm
   rw [if_neg h2] at hjl
   rw [upd_ne _ _ h2] at hLj
   have:=(h.obj j).blk_lt hLj hnj hjl
   omega
  ·rw [if_neg h1] at hio
   rw [upd_ne _ _ h1] at hLi
   by_cases h2:j=H.length
   ·subst h2
    rw [upd_same] at hLj;simp at hLj;subst hLj
    have:=(h.obj i).blk_lt hLi hni (AObj.owned_live hio)
    omega
   ·rw [if_neg h2] at hjl
    rw [upd_ne _ _ h2] at hLj
    exact h.sep i j Li Lj hij hio hLi hni hjl hLj hnj
 ·intro i hi
  simp at hi
  rw [upd_ne _ _ (by omega)]
  exact h.fresh i (by omega)
theorem Keep.allocM {w0 w:World} {M:Nat→Prop} (h:Keep w0 M w) (es:Array MapEntry) (clk:Nat):Keep w0 M (w.alloc (.map es clk)):=by
 refine ⟨h.os,h.tape,h.output,by simp;have:=h.size;omega,fun b hb hm=>?_,fun b c' t' f hf hm=>?_⟩
 ·rw [alloc_block _ _ _ (Nat.lt_of_lt_of_le hb h.size)];exact h.old b hb hm
 ·by_cases e:b=w.heap.size
  ·subst e;rw [alloc_new] at hf;simp at hf
  ·rcases Nat.lt_or_ge b w.heap.size with h' | h'
   ·rw [alloc_block _ _ _ h'] at hf;exact h.free b c' t' f hf hm
   ·rw [Array.getElem?_eq_none (by simp;omega)] at hf;simp at hf
theorem Keep.allocI {w0 w:World} {M:Nat→Prop} (h:Keep w0 M w) (a:Option Nat) (b':Nat) (sn:Array Nat) (c0:Nat):Keep w0 M (w.alloc (.mapIter a b' sn c0)):=by
 refine ⟨h.os,h.tape,h.output,by simp;have:=h.size;omega,fun b hb hm=>?_,fun b c' t' f hf hm=>?_⟩
 ·rw [alloc_block _ _ _ (Nat.lt_of_lt_of_le hb h.size)];exact h.old b hb hm
 ·by_cases e:b=w.heap.size
  ·subst e;rw [alloc_new] at hf;simp at hf
  ·rcases Nat.lt_or_ge b w.heap.size with h' | h'
   ·rw [alloc_block _ _ _ h'] at hf;exact h.free b c' t' f hf hm
   ·rw [Array.getElem?_eq_none (by simp;omega)] at hf;simp at hf
theorem Keep.alloc {w0 w:World} {M:Nat→Prop} (h:Keep w0 M w) (c:Array Value) (t:Nat):Keep w0 M (w.alloc (.cells c t)):=by
 refine ⟨h.os,h.tape,h.output,by simp;have:=h.size;omega,fun b hb hm=>?_,fun b c' t' f hf hm=>?_⟩
 ·rw [alloc_block _ _ _ (Nat.lt_of_lt_of_le hb h.size)];exact h.old b hb hm
 ·by_cases e:b=w.heap.size
  ·subst e;rw [alloc_new] at hf;simp at hf;exact hf.2.2.symm
  ·rcases Nat.lt_or_ge b w.heap.size with h' | h'
   ·rw [alloc_block _ _ _ h'] at hf;exact h.free b c' t' f hf hm
   ·rw [Array.getElem?_eq_none (by simp;omega)] at hf;simp at hf
structure SetB (w w':World) (b:Nat) (o:Obj):Prop where
 os:w'.os=w.os
 tape:w'.tape=w.tape
 output:w'.output=w.output
 size:w'.heap.size=w.heap.size
 this:w'.heap[b]?=some o
 other:∀k,k≠b→w'.heap[k]?=w.heap[k]?
theorem Keep.setB {w0 w w':World} {M:Nat→Prop} (h:Keep w0 M w) {b:Nat} {c:Array Value} {t:Nat} (hs:SetB w w' b (.cells c t (0,0))) (hm:M b∨w0.heap.size≤b):Keep w0 M w':=by
 refine ⟨hs.os.trans h.os,hs.tape.trans h.tape,hs.output.trans h.output,by rw [hs.size];exact h.size,fun k hk hn=>?_,fun k c' t' f hf hk=>?_⟩
 ·have:k≠b:=by
   rintro rfl
   rcases hm with hm | hm
   ·exact hn hm
   ·omega
  rw [hs.other k this];exact h.old k hk hn
 ·by_cases e:k=b
  ·subst e;rw [hs.this] at hf;simp at hf;exact hf.2.2.symm
  ·rw [hs.other k e] at hf;exact h.free k c' t' f hf hk
theorem Keep.setM {w0 w w':World} {M:Nat→Prop} (h:Keep w0 M w) {b:Nat} {es:Array MapEntry} {clk:Nat} (hs:SetB w w' b (.map es clk)) (hm:M b∨w0.heap.size≤b):Keep w0 M w':=by
 refine ⟨hs.os.trans h.os,hs.tape.trans h.tape,hs.output.trans h.output,by rw [hs.size];exact h.size,fun k hk hn=>?_,fun k c' t' f hf hk=>?_⟩
 ·have:k≠b:=by
   rintro rfl
   rcases hm with hm | hm
   ·exact hn hm
   ·omega
  rw [hs.other k this];exact h.old k hk hn
 ·by_cases e:k=b
  ·subst e;rw [hs.this] at hf;simp at hf
  ·rw [hs.other k e] at hf;exact h.free k c' t' f hf hk
theorem Keep.setI {w0 w w':World} {M:Nat→Prop} (h:Keep w0 M w) {b:Nat} {a:Option Nat} {b':Nat} {sn:Array Nat} {c0:Nat} (hs:SetB w w' b (.mapIter a b' sn c0)) (hm:M b∨w0.heap.size≤b):Keep w0 M w':=by
 refine ⟨hs.os.trans h.os,hs.tape.trans h.tape,hs.output.trans h.output,by rw [hs.size];exact h.size,fun k hk hn=>?_,fun k c' t' f hf hk=>?_⟩
 ·have:k≠b:=by
   rintro rfl
   rcases hm with hm | hm
   ·exact hn hm
   ·omega
  rw [hs.other k this];exact h.old k hk hn
 ·by_cases e:k=b
  ·subst e;rw [hs.this] at hf;simp at hf
  ·rw [hs.other k e] at hf;exact h.free k c' t' f hf hk
theorem run_storeCells (t b:Nat):∀(vs:List Value) (w:World) (c:List Value) (i off:Nat),w.heap[b]?=some (.cells c.toArray t (0,0))→(∀v∈vs,v.oneCell'=true)→off+i+vs.length≤c.length →
 ∃w',(storeCells ⟨b,off,none⟩ vs i).run P w=.ok () w'∧SetB w w' b (.cells (c.take (off+i)++vs++c.drop (off+i+vs.length)).toArray t (0,0)):=by
 intro vs
 induction vs with
 | nil=>intro w c i off hw _ _;exact ⟨w,by simp [storeCells],rfl,rfl,rfl,rfl,by simpa using hw,fun _ _=>rfl⟩
 | cons v vs ih =>
   intro w c i off hw hone hlen
   simp only [List.length_cons] at hlen
   have hlt:off+i < c.length:=by omega
   have hcell:w.cell? ⟨b,off+i,none⟩=some c[off+i]:=by simp [World.cell?,hw,hlt]
   have hfz:w.frozen? ⟨b,off+i,none⟩=false:=by simp [World.frozen?,hw]
   have hw1:(w.setCell ⟨b,off+i,none⟩ v).heap[b]?=some (.cells (c.set (off+i) v).toArray t (0,0)):=by
    simp [World.setCell,Array.getElem?_modify,hw]
   obtain ⟨w',h1,h2⟩:=ih (w.setCell ⟨b,off+i,none⟩ v) (c.set (off+i) v) (i+1) off hw1 (fun u hu=>hone u (by simp [hu])) (by simp;omega)
   refine ⟨w',?_,h2.os,h2.tape,h2.output,by rw [h2.size];simp,?_,fun k hk=>?_⟩
   ·simp only [storeCells,Sem.run_bind,Addr.add_none,run_store P w _ v _ (hone v (by simp)),hcell,hfz,Bool.false_eq_true,if_false,Result.andThen_ok,h1]
   ·rw [h2.this]
    have e2:(c.set (off+i) v).take (off+(i+1))=c.take (off+i)++[v]:=by
     rw [show off+(i+1)=off+i+1 by omega,List.take_succ_eq_append_getElem (by simpa using hlt)]
     simp only [List.take_set,List.getElem_set_self]
     rw [List.set_eq_of_length_le (by simp;omega)]
    have e3:(c.set (off+i) v).drop (off+(i+1)+vs.length)=c.drop (off+i+(vs.length+1)):=by
     rw [List.drop_set_of_lt (by omega)];congr 1;omega
    rw [e2,e3];simp
   ·rw [h2.other k hk]
    simp only [World.setCell,Array.getElem?_modify]
    rw [if_neg (fun e=>hk e.symm)]
end Go.Am
/- Operations that make objects or change them. -/
namespace Go.Am
variable {P:Program} {ρ:Ro}
def eop (P:Program) (op:Op) (vs:List AV) (H:AH):Option (AV × AH) :=
 match op,vs with
 | .alloc t,[] =>
   match zT P t with
   | some z=>some (.c (.p H.length 0 0),H++[.own z])
   | none=>none
 | .box _ _,[x] =>
   match x.cells with
   | some l=>some (.c (.p H.length 0 0),H++[.own l])
   | none=>none
 | .buildSlice t len ps,vs =>
   match dT P t with
   | .sl e =>
     match zT P e with
     | some z =>
       if 0 < szT P e∧0 < len∧len * szT P e≤16777216∧z.length=szT P e then
        match fillA (fun i=>some (i * szT P e,szT P e)) (List.replicate len z).flatten ((ps.toList.map (·.1)).zip vs) with
        | some cs=>some (.c (.sl H.length 0 cs.length len),H++[.vec (szT P e) cs])
        | none=>none
       else if 0 < szT P e∧len=0∧ps.size=0 then some (.c (.sl H.length 0 0 0),H++[.vec (szT P e) []])
       else none
     | none=>none
   | _=>none
 | .makeSlice t _ _,[.c (.i l),.c (.i c)] =>
   match dT P t with
   | .sl e =>
     match zT P e with
     | some z =>
       if l=c∧0≤l∧l≤1048576∧0 < szT P e∧byT P e≤1048576∧z.length=szT P e then
        some (.c (.sl H.length 0 (l.toNat * szT P e) l.toNat),H++[.vec (szT P e) (List.replicate l.toNat z).flatten])
       else none
     | none=>none
   | _=>none
 | .store t _ _,[.c (.p id off ver),x] =>
   match x.cells with
   | some l =>
     if (hg H id).owned=true∧ver=(hg H id).row∧l.length=szT P t∧0 < szT P t∧off+l.length≤(hg H id).cells.length∧l.all Sc.one=true then
      some (.c .und,H.set id ((hg H id).put (wr (hg H id).cells off l)))
     else none
   | none=>none
 | _,_=>none
structure Eff (ρ:Ro) (w:World) (H:AH) (w':World) (ρ':Ro) (H':AH):Prop where
 hr:HR ρ' w' H'
 st:Stab ρ ρ'
 kp:∀w0 M,Keep w0 M w→(∀i L,(hg H i).owned=true→ρ i=some L→L.nil=false→(M L.blk∨w0.heap.size≤L.blk)) →
  Keep w0 M w'∧(∀i L,(hg H' i).owned=true→ρ' i=some L→L.nil=false→(M L.blk∨w0.heap.size≤L.blk))
 len:H.length≤H'.length
 mv:∀i L,(hg H i).owned=false→ρ i=some L→ρ' i=some L
theorem Eff.alloc {w:World} {H:AH} (h:HR ρ w H) {l:List Sc} {c:List Value} (hl:L2 (SRel ρ) l c) (t:Nat) (o:AObj) (L:Loc) (hb:L.blk=w.heap.size) (hoff:L.off=0) (hnil:L.nil=false)
 (hrow:L.row=o.row) (ho:(o=.own l∧L.vec=false)∨(∃sz,o=.vec sz l∧L.vec=true∧0 < sz∧L.cap * sz=c.length)) :
 Eff ρ w H (w.alloc (.cells c.toArray t)) (upd ρ H.length L) (H++[o]):=by
 obtain ⟨h1,h2⟩:=h.alloc hl t o L hb hoff hnil hrow ho
 refine ⟨h1,h2,fun w0 M hk hm=>⟨hk.alloc _ _,fun i Li hio hLi hni=>?_⟩,by simp,fun i Li _ hLi=>?_⟩
 ·by_cases e:i=H.length
  ·subst e;rw [upd_same] at hLi;simp at hLi;subst hLi
   exact .inr (by rw [hb];exact hk.size)
  ·rw [upd_ne _ _ e] at hLi
   rw [hg_append,if_neg e] at hio
   exact hm i Li hio hLi hni
 ·have:i≠H.length:=by rintro rfl;rw [h.fresh _ (Nat.le_refl _)] at hLi;simp at hLi
  rw [upd_ne _ _ this,hLi]
def Come (P:Program) (ρ:Ro) (H:AH) (w:World) (s:Sem Next) (v:AV) (H':AH):Prop :=
 ∃w' ρ',Eff ρ w H w' ρ' H'∧((∃vc,s.run P w=.ok (.value vc) w'∧VRel ρ' v vc)∨(s.run P w=.ok .skip w'∧v=.c .und))
theorem own_alloc {w:World} {H:AH} (h:HR ρ w H) {l:List Sc} {c:List Value} (hl:L2 (SRel ρ) l c) (t:Nat) :
 Eff ρ w H (w.alloc (.cells c.toArray t)) (upd ρ H.length ⟨w.heap.size,0,0,0,false,false⟩) (H++[.own l]) ∧
  VRel (upd ρ H.length ⟨w.heap.size,0,0,0,false,false⟩) (.c (.p H.length 0 0)) (.pointer (some ⟨w.heap.size,0,none⟩)) :=
 ⟨Eff.alloc h hl t _ _ rfl rfl rfl rfl (.inl ⟨rfl,rfl⟩),⟨_,_,upd_same _ _ _,rfl,Nat.le_refl _,fun _=>⟨rfl,by simp,rfl⟩⟩⟩
theorem vec_alloc {w:World} {H:AH} (h:HR ρ w H) {l:List Sc} {c:List Value} (hl:L2 (SRel ρ) l c) (t sz n:Nat) (hsz:0 < sz) (hn:n * sz=c.length) (hn2:n≤9223372036854775807) :
 Eff ρ w H (w.alloc (.cells c.toArray t)) (upd ρ H.length ⟨w.heap.size,0,n,l.length,false,true⟩) (H++[.vec sz l]) ∧
  VRel (upd ρ H.length ⟨w.heap.size,0,n,l.length,false,true⟩) (.c (.sl H.length 0 l.length n)) (.slice (some ⟨w.heap.size,0,none⟩) n n):=by
 refine ⟨Eff.alloc h hl t _ _ rfl rfl rfl rfl (.inr ⟨sz,rfl,rfl,hsz,hn⟩),_,_,_,upd_same _ _ _,rfl,by simp,Nat.le_refl _,hn2,Nat.le_refl _,fun _=>?_⟩
 rw [if_neg (by simp)]
 refine ⟨_,rfl,fun _=>rfl,fun _ _=>Nat.le_refl _,fun h0 _=>?_⟩
 show 0 < l.length
 rw [hl.length,←hn];exact Nat.mul_pos h0 hsz
theorem run_fill_range {z:List Value} (n sz:Nat) (hz:z.length=sz):(Array.range (n * sz)).map (fun x=>z.toArray[x % z.toArray.size]!)=(List.replicate n z).flatten.toArray:=by
 apply Array.ext'
 simp only [Array.toList_map,Array.toList_range,List.size_toArray]
 induction n with
 | zero=>simp
 | succ n ih =>
   have e1:(n+1) * sz=n * sz+sz:=by rw [Nat.add_mul,Nat.one_mul]
   rw [e1,List.range_add,List.map_append,ih,List.replicate_succ',List.flatten_append]
   congr 1
   simp only [List.map_map,List.flatten_cons,List.flatten_nil,List.append_nil]
   apply List.ext_getElem (by simp [hz])
   intro i h1 h2
   simp at h1
   have:(n * sz+i) % z.length=i:=by rw [hz,Nat.mul_comm,Nat.mul_add_mod];exact Nat.mod_eq_of_lt h1
   simp [this,h2]
theorem L2.rep {α β:Type} {R:α→β→Prop} {l:List α} {m:List β} (h:L2 R l m) (n:Nat):L2 R (List.replicate n l).flatten (List.replicate n m).flatten:=by
 induction n with
 | zero=>exact .nil
 | succ n ih=>simp only [List.replicate_succ,List.flatten_cons];exact h.app ih
theorem fillA_len (place:Nat→Option (Nat × Nat)):∀(ps:List (Nat × AV)) (z r:List Sc),fillA place z ps=some r→r.length=z.length:=by
 intro ps
 induction ps with
 | nil=>intro z r h;simp [fillA] at h;rw [h]
 | cons p ps ih =>
   intro z r h
   obtain ⟨i,v⟩:=p
   simp only [fillA] at h
   split at h
   ·split at h
    ·rename_i hc
     rw [ih _ _ h];simp [wr];omega
    ·simp at h
   ·simp at h
theorem HR.set {w w':World} {H:AH} (h:HR ρ w H) {id:Nat} {L:Loc} {ob:Obj} {o':AObj} (hown:(hg H id).owned=true) (hL:ρ id=some L) (hnil:L.nil=false)
 (hs:SetB w w' L.blk ob) (ho':ORel ρ w' id o'):HR ρ w' (H.set id o'):=by
 have hid:=hg_lt (AObj.owned_live hown)
 refine ⟨fun i=>?_,fun i j Li Lj hij hio hLi hni hjl hLj hnj=>?_,fun i hi=>h.fresh i (by simpa using hi)⟩
 ·rw [hg_set _ _ _ _ hid]
  split
  ·subst_vars;exact ho'
  ·rename_i hne
   refine (h.obj i).keep (Stab.refl ρ) rfl (fun Li hi hn hl=>?_) (by rw [hs.size];omega)
   exact hs.other _ (fun e=>h.sep id i L Li (fun e=>hne e.symm) hown hL hnil hl hi hn e.symm)
 ·have hio':(hg H i).owned=true:=by
   rw [hg_set _ _ _ _ hid] at hio
   split at hio
   ·subst_vars;exact hown
   ·exact hio
  have hjl':(hg H j).live=true:=by
   rw [hg_set _ _ _ _ hid] at hjl
   split at hjl
   ·subst_vars;exact AObj.owned_live hown
   ·exact hjl
  exact h.sep i j Li Lj hij hio' hLi hni hjl' hLj hnj
theorem Eff.set {w w':World} {H:AH} (h:HR ρ w H) {id:Nat} {L:Loc} {c:Array Value} {t:Nat} {o':AObj} (hown:(hg H id).owned=true) (hL:ρ id=some L) (hnil:L.nil=false)
 (hs:SetB w w' L.blk (.cells c t (0,0))) (ho':ORel ρ w' id o'):Eff ρ w H w' ρ (H.set id o'):=by
 have hid:=hg_lt (AObj.owned_live hown)
 refine ⟨h.set hown hL hnil hs ho',Stab.refl ρ,fun w0 M hk hm=>⟨hk.setB hs (hm id L hown hL hnil),fun i Li hio hLi hni=>?_⟩,by simp,fun _ _ _ h=>h⟩
 rw [hg_set _ _ _ _ hid] at hio
 split at hio
 ·subst_vars;exact hm _ _ hown hLi hni
 ·exact hm _ _ hio hLi hni
theorem one_all {l:List Sc} {c:List Value} (h:L2 (SRel ρ) l c) (ho:l.all Sc.one=true):∀v∈c,v.oneCell'=true:=by
 induction h with
 | nil=>simp
 | @cons s v l c hs _ ih =>
   simp only [List.all_cons,Bool.and_eq_true] at ho
   intro u hu
   rcases List.mem_cons.1 hu with rfl | hu
   ·exact (SRel.one hs (by rintro rfl;simp [Sc.one] at ho) (by rintro rfl;simp [Sc.one] at ho)).1
   ·exact ih ho.2 u hu
theorem wr_rel {cs l:List Sc} {c v:List Value} (h:L2 (SRel ρ) cs c) (hl:L2 (SRel ρ) l v) (off:Nat):L2 (SRel ρ) (wr cs off l) (c.take off++v++c.drop (off+v.length)):=by
 unfold wr;rw [←hl.length];exact ((h.take off).app hl).app (h.drop _)
theorem store_eff {w:World} {H:AH} (hH:HR ρ w H) {id off:Nat} {L:Loc} {l:List Sc} {cs:List Value} (hown:(hg H id).owned=true) (hL:ρ id=some L) (hnil:L.nil=false) (hl:L2 (SRel ρ) l cs)
 (hoff:off+l.length≤(hg H id).cells.length) (hone:l.all Sc.one=true) (hpos:0 < l.length) :
 ∃w',(storeCells ⟨L.blk,L.off+off,none⟩ cs).run P w=.ok () w'∧Eff ρ w H w' ρ (H.set id ((hg H id).put (wr (hg H id).cells off l))):=by
 have hO:=hH.obj id
 have hll:=hl.length
 cases hh:hg H id with
 | own os =>
   rw [hh] at hO hoff hown
   obtain ⟨L',c,t,h1,h2,h3,h4,h5,h6,h7⟩:=hO
   obtain rfl:L=L':=by simpa [hL] using h1
   have hcl:=h7.length
   simp only [AObj.cells] at hoff
   obtain ⟨w',h8,h9⟩:=run_storeCells (P:=P) t L.blk cs w c 0 off h6 (one_all hl hone) (by omega)
   rw [h2,Nat.zero_add]
   refine ⟨w',h8,Eff.set hH (by rw [hh];rfl) hL hnil h9 ?_⟩
   exact ⟨L,_,t,hL,h2,h3,h4,h5,h9.this,by simpa [AObj.cells] using wr_rel h7 hl off⟩
 | vec sz os =>
   rw [hh] at hO hoff hown
   obtain ⟨L',h1,h2,h3,h4,h5,h6⟩:=hO
   obtain rfl:L=L':=by simpa [hL] using h1
   rw [if_neg (by rw [hnil];simp)] at h6
   obtain ⟨c,d,t,h6,hcap,h7⟩:=h6
   have hcl:=h7.length
   simp only [AObj.cells] at hoff
   obtain ⟨w',h8,h9⟩:=run_storeCells (P:=P) t L.blk cs w (c++d) 0 off h6 (one_all hl hone) (by simp;omega)
   rw [h2,Nat.zero_add]
   refine ⟨w',h8,Eff.set hH (by rw [hh];rfl) hL hnil h9 ?_⟩
   have e:(c++d).take (off+0)++cs++(c++d).drop (off+0+cs.length)=(c.take off++cs++c.drop (off+cs.length))++d:=by
    rw [List.take_append_of_le_length (by omega),List.drop_append_of_le_length (by omega)];simp
   rw [e] at h9
   refine ⟨L,hL,h2,?_,h4,h5,?_⟩
   ·rw [h3];simp [wr,AObj.cells];omega
   ·rw [if_neg (by rw [hnil];simp)]
    exact ⟨_,d,t,h9.this,by rw [hcap];simp;omega,wr_rel h7 hl off⟩
 | view os=>rw [hh] at hown;simp [AObj.owned] at hown
 | map clk es =>
   rw [hh] at hoff
   simp only [AObj.cells,List.length_nil] at hoff
   omega
 | iter m since seen last =>
   rw [hh] at hoff
   simp only [AObj.cells,List.length_nil] at hoff
   omega
 | dead=>rw [hh] at hown;simp [AObj.owned] at hown
theorem zip_ps {a:Act} (ps:Array (Nat × Operand)) {vs:List AV} (hv:L2 (VRel ρ) vs ((ps.toList.map (·.2)).map a.eval)) :
 L2 (fun (x:Nat × AV) (y:Nat × Value)=>x.1=y.1∧VRel ρ x.2 y.2) ((ps.toList.map (·.1)).zip vs) ((ps.map fun p=>(p.1,a.eval p.2)).toList):=by
 have:=zip_rel (ρ:=ρ) (a:=a) ps.toList vs (by simpa [Function.comp_def] using hv)
 simpa using this
theorem eop_run {o:Oper} {a:Act} {H H':AH} {vs:List AV} {v:AV} {w:World} (h:eop P o.op vs H=some (v,H'))
 (hv:L2 (VRel ρ) vs ((opnds o.op).map a.eval)) (hH:HR ρ w H):Come P ρ H w (execOp a.eval o) v H':=by
 obtain ⟨dst,op,ty,pos,after,guard⟩:=o
 simp only at h hv
 have fin:∀(s:Sem Value),(∃w' ρ' vc,Eff ρ w H w' ρ' H'∧s.run P w=.ok vc w'∧VRel ρ' v vc)→Come P ρ H w (do pure (.value (←s)):Sem Next) v H':=by
  rintro s ⟨w',ρ',vc,h1,h2,h3⟩
  exact ⟨w',ρ',h1,.inl ⟨vc,by simp [h2],h3⟩⟩
 unfold eop at h
 split at h
 ·
  rename_i t
  split at h <;> simp at h
  rename_i z hz
  obtain ⟨rfl,rfl⟩:=h
  obtain ⟨zv,zc,h1,h2,h3⟩:=zero_rel (ρ:=ρ) hz w
  obtain ⟨h4,h5⟩:=own_alloc hH h3 t
  refine fin _ ⟨_,_,_,h4,?_,h5⟩
  simp only [Instr.alloc,Sem.run_bind,h1,Result.andThen_ok,newVar,newRow,h2,run_newObj,Sem.run_pure];rfl
 ·
  rename_i t x ax
  split at h <;> simp at h
  rename_i l hc
  obtain ⟨rfl,rfl⟩:=h
  obtain ⟨y,hy,h1⟩:=hv.one
  simp only [opnds,List.map_cons,List.map_nil,List.cons.injEq,and_true] at hy;subst hy
  obtain ⟨cs,h2,h3,_⟩:=h1.cells hc
  obtain ⟨h4,h5⟩:=own_alloc hH h3 t
  refine fin _ ⟨_,_,_,h4,?_,h5⟩
  simp only [Instr.box,newVar,newRow,h2,Sem.run_bind,run_newObj,Result.andThen_ok,Sem.run_pure];rfl
 ·
  rename_i t len ps
  split at h <;> try (simp at h;done)
  rename_i e hd
  have hu:=und_sl hd
  split at h <;> try (simp at h;done)
  rename_i z hz
  split at h
  ·rename_i hc
   obtain ⟨hsz,hl,hmax,hzl⟩:=hc
   split at h <;> simp at h
   rename_i cs hf
   obtain ⟨rfl,rfl⟩:=h
   obtain ⟨zv,zc,h1,h2,h3⟩:=zero_rel (ρ:=ρ) hz w
   obtain ⟨rc,h4,h5⟩:=fill_rel _ _ _ (zip_ps ps hv) _ _ _ (h3.rep len) hf
   have hlen:len * szT P e=rc.length:=by
    rw [←h5.length,fillA_len _ _ _ _ hf];simp [hzl]
   obtain ⟨h6,h7⟩:=vec_alloc hH h5 e (szT P e) len hsz hlen (by have:len≤len * szT P e:=Nat.le_mul_of_pos_right _ hsz;omega)
   refine fin _ ⟨_,_,_,h6,?_,h7⟩
   have hzc:zc.length=szT P e:=by rw [←h3.length,hzl]
   have hne:¬len * szT P e=0:=by have:=Nat.mul_pos hl hsz;omega
   have hne2:¬len * szT P e > 2 ^ 24:=by omega
   simp only [Instr.buildSlice,Sem.run_bind,run_underlying hu,Result.andThen_ok,run_sizeOf' hsz,hne2,if_false,hne,Sem.run_pure,h1,h2,run_fill_range len _ hzc]
   simp only [Array.toList_map] at h4 ⊢
   rw [h4]
   simp only [newRow,Sem.run_bind,run_newObj,Result.andThen_ok,Sem.run_pure];rfl
  ·split at h <;> simp at h
   rename_i hc
   obtain ⟨hsz,rfl,hps⟩:=hc
   obtain ⟨rfl,rfl⟩:=h
   obtain rfl:ps = #[]:=Array.eq_empty_of_size_eq_zero hps
   obtain ⟨h6,h7⟩:=vec_alloc hH (l:=[]) (c:=[]) .nil e (szT P e) 0 hsz (by simp) (by omega)
   refine fin _ ⟨_,_,_,h6,?_,h7⟩
   have e0:Array.range 0 = #[]:=by apply Array.ext';simp
   simp [Instr.buildSlice,run_underlying hu,run_sizeOf' hsz,Instr.fill,newRow,e0]
 ·
  rename_i t x y l c
  split at h <;> try (simp at h;done)
  rename_i e hd
  have hu:=und_sl hd
  split at h <;> try (simp at h;done)
  rename_i z hz
  split at h <;> simp at h
  rename_i hc
  obtain ⟨rfl,h0,hmax,hsz,hby,hzl⟩:=hc
  obtain ⟨rfl,rfl⟩:=h
  obtain ⟨cx,cy,hx,h1,h2⟩:=hv.two
  simp only [opnds,List.map_cons,List.map_nil,List.cons.injEq,and_true] at hx
  obtain ⟨rfl,rfl⟩:=hx
  obtain ⟨h1,_⟩:=h1
  obtain ⟨h2,_⟩:=h2
  obtain ⟨zv,zc,h3,h4,h5⟩:=zero_rel (ρ:=ρ) hz w
  obtain ⟨i,hi,his⟩:=info_of hsz
  have hzc:zc.length=szT P e:=by rw [←h5.length,hzl]
  have hll:l.toNat * szT P e=((List.replicate l.toNat z).flatten).length:=by simp [hzl]
  have h8:=vec_alloc hH (h5.rep l.toNat) e (szT P e) l.toNat hsz (by simp [hzc]) (by omega)
  rw [←hll] at h8
  obtain ⟨h6,h7⟩:=h8
  refine fin _ ⟨_,_,_,h6,?_,h7⟩
  have hw:IntKind.i64.wrap l=l:=w64_id (by omega) (by omega)
  have hbytes:byT P e=i.bytes:=by simp [byT,hi]
  have hb:¬((i.bytes:Int) * l > 2 ^ 48):=by
   rw [←hbytes]
   have:(byT P e:Int) * l≤1048576 * 1048576:=Int.mul_le_mul (by omega) hmax h0 (by omega)
   omega
  have hn:¬l < 0:=by omega
  have hn2:¬l > l:=by omega
  have hb':decide ((i.bytes:Int) * l > 2 ^ 48)=false:=decide_eq_false hb
  simp only [Instr.makeSlice,Sem.run_bind,run_underlying hu,Result.andThen_ok,h1,h2,asInt,asIntOf,Sem.run_pure,typeInfo,run_program,hi,hw,hb',Bool.false_or,hn,hn2,decide_false,Bool.or_self,Bool.false_eq_true,if_false,run_askRoom,run_sizeOf' hsz]
  by_cases hz0:l.toNat * szT P e=0
  ·simp only [hz0,if_true,Sem.run_pure,Result.andThen_ok,newRow,Sem.run_bind,run_newObj]
   have e1:(List.replicate l.toNat zc).flatten=[]:=List.eq_nil_of_length_eq_zero (by simp [hzc,hz0])
   have e0:Array.range 0 = #[]:=by apply Array.ext';simp
   rw [e1,e0];simp
  ·simp only [hz0,if_false,Sem.run_bind,Sem.run_pure,h3,Result.andThen_ok,h4,run_fill_range _ _ hzc,newRow,run_newObj];rfl
 ·
  rename_i t x y id off ver ax
  split at h <;> try (simp at h;done)
  rename_i l hl
  split at h <;> simp at h
  rename_i hc
  obtain ⟨hown,hver,hlen,hsz,hoff,hone⟩:=hc
  obtain ⟨rfl,rfl⟩:=h
  obtain ⟨cx,cy,hx,h1,h2⟩:=hv.two
  simp only [opnds,List.map_cons,List.map_nil,List.cons.injEq,and_true] at hx
  obtain ⟨rfl,rfl⟩:=hx
  obtain ⟨cs,h3,h4,_⟩:=h2.cells hl
  obtain ⟨L,ad,h5,h6,h7,h8⟩:=(show PRel ρ id off ver _ from h1)
  have hrow:=(hH.obj id).row h5 (AObj.owned_live hown)
  obtain ⟨hnil,_,rfl⟩:=h8 (by rw [hrow];exact hver)
  obtain ⟨w',h9,h10⟩:=store_eff (P:=P) hH hown h5 hnil h4 hoff hone (by omega)
  refine ⟨w',ρ,h10,.inr ⟨?_,rfl⟩⟩
  have hcs:cs.toArray.size=szT P t:=by simp [←h4.length,hlen]
  simp only [execOp,Sem.run_bind,Instr.storeAt,h6,Instr.sureAddr,Sem.run_pure,Result.andThen_ok,storeVar,run_sizeOf' hsz,h3,hcs,ne_eq,not_true_eq_false,if_false,h9]
 ·simp at h
end Go.Am
/- append -/
namespace Go.Am
variable {P:Program} {ρ:Ro}
theorem cells_run {w:World} {i:Nat} {o:AObj} {L:Loc} {off n:Nat} (ho:ORel ρ w i o) (hL:ρ i=some L) (hlen:off+n≤o.cells.length) :
 ∃vs:List Value,vs.length=n∧L2 (SRel ρ) ((o.cells.drop off).take n) vs∧∀w':World,(∀j,w'.cell? ⟨L.blk,j,none⟩=w.cell? ⟨L.blk,j,none⟩)→(loadCells ⟨L.blk,L.off+off,none⟩ n).run P w'=.ok vs.toArray w':=by
 have hcell:=fun (j:Nat) (s:Sc) (hs:o.cells[j]?=some s)=>ho.cell hL hs
 have key:∀(l:List Sc) (p:Nat),(∀j s,l[j]?=some s→o.cells[p+j]?=some s)→∃vs:List Value,L2 (SRel ρ) l vs∧∀j v,vs[j]?=some v→w.cell? ⟨L.blk,L.off+(p+j),none⟩=some v:=by
  intro l
  induction l with
  | nil=>intro p _;exact ⟨[],.nil,by simp⟩
  | cons s l ih =>
    intro p h
    obtain ⟨v,hv,hr⟩:=hcell p s (by simpa using h 0 s (by simp))
    obtain ⟨vs,h1,h2⟩:=ih (p+1) (fun j s' hs'=>by have:=h (j+1) s' (by simpa using hs');rwa [show p+1+j=p+(j+1) by omega])
    refine ⟨v::vs,.cons hr h1,fun j u hu=>?_⟩
    cases j with
    | zero=>simp at hu;subst hu;exact hv
    | succ j=>have:=h2 j u (by simpa using hu);rwa [show p+(j+1)=p+1+j by omega]
 obtain ⟨vs,h1,h2⟩:=key ((o.cells.drop off).take n) off (fun j s hs=>drop_take_get _ _ _ _ _ hs)
 have hl:vs.length=n:=by rw [←h1.length];simp;omega
 refine ⟨vs,hl,h1,fun w' hw'=>?_⟩
 simp only [loadCells]
 rw [←hl,run_loadCellsFrom w' _ vs 0 #[] (fun j v hv=>by rw [Addr.add_none,Nat.zero_add,Nat.add_assoc,hw'];exact h2 j v hv)]
 simp
theorem growBy_le (need:Nat):∀(r c:Nat),Builtin.growBy need r c≤max c (2 * need+1000):=by
 intro r
 induction r with
 | zero=>intro c;simp only [Builtin.growBy];omega
 | succ r ih =>
   intro c
   simp only [Builtin.growBy]
   split
   ·omega
   ·have:=ih (c+(c+768) / 4);omega
theorem nextcap_le (need cap:Nat) (h:cap < need):Builtin.nextslicecap need cap≤2 * need+1000:=by
 unfold Builtin.nextslicecap
 split
 ·omega
 ·split
  ·omega
  ·have:=growBy_le need 4 cap;omega
def appA (P:Program) (ts:Array TypeId) (vs:List AV) (H:AH):Option (AV × AH) :=
 match ts[0]?,ts[1]? with
 | some t0,some t1 =>
   match dT P t0,dT P t1,vs with
   | .sl e,.sl _,[x,y] =>
     match srcA H (szT P e) y,zT P e with
     | some (new,n),some z =>
       if 0 < szT P e∧0 < byT P e∧byT P e≤1048576∧z.length=szT P e∧new.all Sc.one=true then
        match x with
        | .c (.sl id off ver len) =>
          match hg H id with
          | .vec sz cs =>
            if off=0∧ver=cs.length∧sz=szT P e∧cs.length=len * szT P e∧(len+n) * byT P e≤1099511627776 then
             some (.c (.sl id 0 (cs.length+new.length) (len+n)),H.set id (.vec sz (cs++new)))
            else none
          | _=>none
        | .c .nils=>if 0 < n∧n * byT P e≤1099511627776 then some (.c (.sl H.length 0 new.length n),H++[.vec (szT P e) new]) else none
        | _=>none
       else none
     | _,_=>none
   | _,_,_=>none
 | _,_=>none
theorem by_of {e:Nat} {i:TypeInfo} (h:P.info? e=some i):byT P e=i.bytes:=by simp [byT,h]
theorem src_run {w:World} {H:AH} (hH:HR ρ w H) {sz:Nat} {y:AV} {new:List Sc} {n:Nat} {cy:Value} (h:srcA H sz y=some (new,n)) (hy:VRel ρ y cy) :
 ∃vs:List Value,vs.length=n * sz∧L2 (SRel ρ) new vs∧(Builtin.lenOf cy).run P w=.ok n w∧n≤9223372036854775807 ∧
  ∀w':World,(∀b j,b < w.heap.size→w'.cell? ⟨b,j,none⟩=w.cell? ⟨b,j,none⟩)→(Builtin.firstCells sz n cy).run P w'=.ok vs.toArray w':=by
 unfold srcA at h
 split at h
 ·simp at h;obtain ⟨rfl,rfl⟩:=h
  cases hy
  exact ⟨[],by simp,.nil,by simp [Builtin.lenOf],by omega,fun w' _=>by simp [Builtin.firstCells]⟩
 ·rename_i id off ver m
  split at h <;> simp at h
  rename_i hc
  obtain ⟨rfl,rfl⟩:=h
  obtain ⟨L,base,cap,h1,rfl,hn,h2,h3,h4,h5⟩:=(show SlRel ρ id off ver m cy from hy)
  by_cases hm:m * sz=0
  ·refine ⟨[],by simp [hm],by rw [hm];simp;exact .nil,by simp [Builtin.lenOf],h3,fun w' _=>?_⟩
   cases base with
   | none=>simp [Builtin.firstCells]
   | some a=>simp [Builtin.firstCells,hm,loadCells,loadCellsFrom]
  ·have hm0:0 < m:=by rcases Nat.eq_zero_or_pos m with h | h;subst h;simp at hm;exact h
   have hlive:(hg H id).live=true:=by
    cases hh:hg H id with
    | dead=>rw [hh] at hc;simp [AObj.cells] at hc;omega
    | _=>rfl
   have hrow:=(hH.obj id).row h1 hlive
   have h6:=h5 (by rw [hrow];exact hc.1)
   by_cases hnil:L.nil=true
   ·rw [if_pos hnil] at h6;omega
   rw [if_neg hnil] at h6
   obtain ⟨a,rfl,h7,_,_⟩:=h6
   obtain rfl:=h7 (.inr hm0)
   obtain ⟨vs,h8,h9,h10⟩:=cells_run (P:=P) (hH.obj id) h1 hc.2
   have hblk:=(hH.obj id).blk_lt h1 (by simpa using hnil) hlive
   exact ⟨vs,h8,h9,by simp [Builtin.lenOf],h3,fun w' hw'=>by simp only [Builtin.firstCells];exact h10 w' fun j=>hw' _ _ hblk⟩
 ·simp at h
theorem Keep.drew {w0 w:World} {M:Nat→Prop} (h:Keep w0 M w):Keep w0 M w.drew:=⟨h.os,h.tape,h.output,h.size,h.old,h.free⟩
theorem ORel.drew {w:World} {i:Nat} {o:AObj} (h:ORel ρ w i o):ORel ρ w.drew i o:=h.keep (Stab.refl ρ) rfl (fun _ _ _ _=>rfl) (Nat.le_refl _)
theorem HR.drew {w:World} {H:AH} (h:HR ρ w H):HR ρ w.drew H:=⟨fun i=>(h.obj i).drew,h.sep,h.fresh⟩
theorem HR.new {w:World} {H H':AH} (h:HR ρ w H) {l:List Sc} {c d:List Value} (hl:L2 (SRel ρ) l c) (t id sz:Nat) (L:Loc) (hb:L.blk=w.heap.size) (hoff:L.off=0) (hnil:L.nil=false)
 (hrow:L.row=l.length) (hvec:L.vec=true) (hsz:0 < sz) (hcap:L.cap * sz=(c++d).length) (hst:Stab ρ (upd ρ id L))
 (hH':∀i,hg H' i=if i=id then .vec sz l else hg H i) (hlen:H.length≤H'.length) (hid:id < H'.length):HR (upd ρ id L) (w.alloc (.cells (c++d).toArray t)) H':=by
 have hl':L2 (SRel (upd ρ id L)) l c:=hl.mono fun _ _ h=>h.mono hst
 refine ⟨?_,?_,?_⟩
 ·intro i
  rw [hH']
  split
  ·subst_vars
   refine ⟨L,upd_same _ _ _,hoff,hrow,hvec,hsz,?_⟩
   rw [if_neg (by rw [hnil];simp)]
   exact ⟨c,d,t,by rw [hb];exact alloc_new w _,hcap,hl'⟩
  ·rename_i hne
   refine (h.obj i).keep hst (upd_ne _ _ hne) (fun Li hi hn hlv=>?_) (by simp)
   exact alloc_block _ _ _ ((h.obj i).blk_lt hi hn hlv)
 ·intro i j Li Lj hij hio hLi hni hjl hLj hnj
  rw [hH'] at hio hjl
  by_cases h1:i=id
  ·subst h1
   rw [upd_same] at hLi;simp at hLi;subst hLi
   have h2:j≠i:=fun e=>hij e.symm
   rw [if_neg h2] at hjl
   rw [upd_ne _ _ h2] at hLj
   have:=(h.obj j).blk_lt hLj hnj hjl
   omega
  ·rw [if_neg h1] at hio
   rw [upd_ne _ _ h1] at hLi
   by_cases h2:j=id
   ·subst h2
    rw [upd_same] at hLj;simp at hLj;subst hLj
    have:=(h.obj i).blk_lt hLi hni (AObj.owned_live hio)
    omega
   ·rw [if_neg h2] at hjl
    rw [upd_ne _ _ h2] at hLj
    exact h.sep i j Li Lj hij hio hLi hni hjl hLj hnj
 ·intro i hi
  rw [upd_ne _ _ (by omega)]
  exact h.fresh i (by omega)
theorem zeroCells_len (z:Array Value) (n:Nat):(Builtin.zeroCells z n).size=n * z.size:=by simp [Builtin.zeroCells]
theorem app_grow {w:World} {ts:Array TypeId} {ty t0 t1 e e1:Nat} {base:Option Addr} {len cap n:Nat} {cx cy:Value} {z:List Sc} {old new:List Value}
 (h0:ts[0]?=some t0) (h1:ts[1]?=some t1) (hd0:dT P t0=.sl e) (hd1:dT P t1=.sl e1) (hx:cx=.slice base len cap) (hsz:0 < szT P e) (hby:0 < byT P e) (hby2:byT P e≤1048576) (hz:zT P e=some z) (hzl:z.length=szT P e)
 (hlen:(Builtin.lenOf cy).run P w=.ok n w) (hcap:¬len+n≤cap) (hb:(len+n) * byT P e≤1099511627776)
 (hold:(Builtin.firstCells (szT P e) len cx).run P w.drew=.ok old.toArray w.drew) (hnew:(Builtin.firstCells (szT P e) n cy).run P w.drew=.ok new.toArray w.drew) :
 ∃(C:Nat) (rest:List Value),len+n≤C∧rest.length=(C - (len+n)) * szT P e ∧
  (Builtin.append_ ts ty #[cx,cy]).run P w=.ok (.slice (some ⟨w.heap.size,0,none⟩) (len+n) C) (w.drew.alloc (.cells (old++new++rest).toArray e)):=by
 subst hx
 have hu0:=und_sl hd0
 have hu1:=und_sl hd1
 obtain ⟨i,hi,his⟩:=info_of hsz
 have hbi:=by_of hi
 obtain ⟨zv,zc,h3,h4,h5⟩:=zero_rel (P:=P) (ρ:=fun _=>none) hz w.drew
 have hzc:zc.length=szT P e:=by rw [←h5.length,hzl]
 have hneed:len+n≤(len+n) * byT P e:=Nat.le_mul_of_pos_right _ hby
 have hmax:IntKind.i64.max=9223372036854775807:=by decide
 have hc1:¬((((len+n:Nat):Int) > IntKind.i64.max)∧(False∨i.bytes=0)):=by rw [hmax];omega
 have hc2:¬(Builtin.nextslicecap (len+n) cap * i.bytes > 2 ^ 48):=by
  have a1:=nextcap_le (len+n) cap (by omega)
  rw [←hbi]
  have a2:Builtin.nextslicecap (len+n) cap * byT P e≤(2 * (len+n)+1000) * byT P e:=Nat.mul_le_mul_right _ a1
  have a3:(2 * (len+n)+1000) * byT P e=2 * ((len+n) * byT P e)+1000 * byT P e:=by rw [Nat.add_mul,Nat.mul_assoc]
  omega
 refine ⟨(len+n)+w.tape w.drawn (.appendCap (len+n) cap e) % (2 ^ 63 - (len+n)),(Builtin.zeroCells zc.toArray (w.tape w.drawn (.appendCap (len+n) cap e) % (2 ^ 63 - (len+n)))).toList,by omega,?_,?_⟩
 ·simp [zeroCells_len,hzc]
 ·have e0:(#[Value.slice base len cap,cy]:Array Value)[0]?=some (.slice base len cap):=rfl
  have e1:(#[Value.slice base len cap,cy]:Array Value)[1]?=some cy:=rfl
  simp only [Builtin.append_,h0,h1,e0,e1,Sem.run_bind,run_underlying hu0,run_underlying hu1,Result.andThen_ok,run_sizeOf' hsz,Sem.run_pure,Bool.false_eq_true,if_false,hlen,hcap]
  have hti:∀w:World,(typeInfo e).run P w=.ok i w:=fun w=>by simp [typeInfo,hi]
  have hfo:(Question.appendCap (len+n) cap e).forced=false:=rfl
  have hz2:zc.length=zc.toArray.size:=by simp
  simp only [hti,Result.andThen_ok,hc1,if_false,Sem.run_bind,hc2,run_choose,hfo,Bool.false_eq_true,run_askRoom,World.drew_eq,hold,Bool.not_false,if_true,hnew,h3,h4,newRow,run_newObj,Sem.run_pure,Question.cut]
  congr 2
  ·rw [Nat.add_sub_cancel_left]
   congr 2
   apply Array.ext';simp
theorem app_room {w w':World} {ts:Array TypeId} {ty t0 t1 e e1:Nat} {a:Addr} {len cap n:Nat} {cy:Value} {new:List Value}
 (h0:ts[0]?=some t0) (h1:ts[1]?=some t1) (hd0:dT P t0=.sl e) (hd1:dT P t1=.sl e1) (hsz:0 < szT P e)
 (hlen:(Builtin.lenOf cy).run P w=.ok n w) (hcap:len+n≤cap) (hnew:(Builtin.firstCells (szT P e) n cy).run P w=.ok new.toArray w)
 (hst:(storeCells (a.add (len * szT P e)) new).run P w=.ok () w') :
 (Builtin.append_ ts ty #[.slice (some a) len cap,cy]).run P w=.ok (.slice (some a) (len+n) cap) w':=by
 have hu0:=und_sl hd0
 have hu1:=und_sl hd1
 have e0:(#[Value.slice (some a) len cap,cy]:Array Value)[0]?=some (.slice (some a) len cap):=rfl
 have e1:(#[Value.slice (some a) len cap,cy]:Array Value)[1]?=some cy:=rfl
 simp only [Builtin.append_,h0,h1,e0,e1,Sem.run_bind,run_underlying hu0,run_underlying hu1,Result.andThen_ok,run_sizeOf' hsz,Sem.run_pure,Bool.false_eq_true,if_false,hlen,hcap,if_true,Bool.not_false,hnew,hst]
theorem appA_run {ts:Array TypeId} {ty:Nat} {H H':AH} {vs:List AV} {cs:List Value} {v:AV} {w:World} (h:appA P ts vs H=some (v,H')) (hv:L2 (VRel ρ) vs cs) (hH:HR ρ w H) :
 ∃w' ρ' vc,Eff ρ w H w' ρ' H'∧(Builtin.append_ ts ty cs.toArray).run P w=.ok vc w'∧VRel ρ' v vc:=by
 unfold appA at h
 split at h <;> try (simp at h;done)
 rename_i t0 t1 h0 h1
 split at h <;> try (simp at h;done)
 rename_i e e1 x y hd0 hd1
 split at h <;> try (simp at h;done)
 rename_i new n z hsrc hz
 split at h <;> try (simp at h;done)
 rename_i hc
 obtain ⟨hsz,hby,hby2,hzl,hone⟩:=hc
 obtain ⟨cx,cy,rfl,hx,hy⟩:=hv.two
 obtain ⟨nv,hnl,hnr,hlen,hnmax,hnew⟩:=src_run (P:=P) hH hsrc hy
 have hnw:=hnew w fun _ _ _=>rfl
 have hnwd:=hnew w.drew fun _ _ _=>rfl
 have hneed:∀k,k≤k * byT P e:=fun k=>Nat.le_mul_of_pos_right _ hby
 split at h
 ·rename_i id off ver len
  split at h <;> try (simp at h;done)
  rename_i sz os hob
  split at h <;> simp at h
  rename_i hc
  obtain ⟨rfl,rfl,rfl,hos,hb⟩:=hc
  obtain ⟨rfl,rfl⟩:=h
  obtain ⟨L,base,cap,g1,rfl,gn,g2,g3,g4,g5⟩:=(show SlRel ρ id 0 os.length len cx from hx)
  have hO:=hH.obj id
  rw [hob] at hO
  obtain ⟨L',k1,k2,k3,k4,k5,k6⟩:=hO
  obtain rfl:L=L':=by simpa [g1] using k1
  have g6:=g5 k3.symm
  have hown:(hg H id).owned=true:=by rw [hob];rfl
  have hid:=hg_lt (AObj.owned_live hown)
  have hnl2:=hnr.length
  have hk:=hneed (len+n)
  have hrl:(os++new).length=os.length+new.length:=by simp
  have hst:∀L':Loc,L'.row=os.length+new.length→(new.length=0→L'=L)→Stab ρ (upd ρ id L'):=by
   intro L' hr he i Li hi
   by_cases hii:i=id
   ·subst hii
    refine ⟨L',upd_same _ _ _,?_⟩
    obtain rfl:L=Li:=by simpa [g1] using hi
    rcases Nat.eq_zero_or_pos new.length with hz | hz
    ·exact .inl (he hz)
    ·right;omega
   ·exact ⟨Li,by rw [upd_ne _ _ hii,hi],.inl rfl⟩
  have hset:∀i,hg (H.set id (.vec (szT P e) (os++new))) i=if i=id then .vec (szT P e) (os++new) else hg H i:=fun i=>hg_set _ _ _ _ hid
  by_cases hroom:len+n≤cap
  ·
   by_cases hnil:L.nil=true
   ·rw [if_pos hnil] at g6 k6
    obtain ⟨rfl,_,rfl,rfl⟩:=g6
    obtain ⟨rfl,_⟩:=k6
    have hn0:n=0:=by omega
    subst hn0
    have hnew0:new=[]:=List.eq_nil_of_length_eq_zero (by rw [hnl2,hnl];simp)
    subst hnew0
    have hH0:H.set id (.vec (szT P e) ([]++[]))=H:=by
     apply List.ext_getElem? ;intro i
     rw [List.getElem?_set]
     split
     ·subst_vars
      have:H[i]?=some (hg H i):=by unfold hg;rw [List.getD_eq_getElem?_getD];simp [hid]
      rw [this,hob];simp
     ·rfl
    rw [hH0]
    refine ⟨w,ρ,.slice none 0 0,⟨hH,Stab.refl ρ,fun _ _ a b=>⟨a,b⟩,Nat.le_refl _,fun _ _ _ h=>h⟩,?_,?_⟩
    ·have hu0:=und_sl hd0
     have hu1:=und_sl hd1
     have e0:(#[Value.slice none 0 0,cy]:Array Value)[0]?=some (.slice none 0 0):=rfl
     have e2:(#[Value.slice none 0 0,cy]:Array Value)[1]?=some cy:=rfl
     simp only [Builtin.append_,h0,h1,e0,e2,Sem.run_bind,run_underlying hu0,run_underlying hu1,Result.andThen_ok,run_sizeOf' hsz,Sem.run_pure,Bool.false_eq_true,if_false,hlen,Nat.le_refl,if_true,Bool.not_false,hnw]
    ·exact ⟨L,none,0,g1,rfl,by simp,by omega,by omega,by simp,fun _=>by rw [if_pos hnil];simp⟩
   ·rw [if_neg hnil] at g6 k6
    have hnil':L.nil=false:=by simpa using hnil
    obtain ⟨a,rfl,g7,g8,_⟩:=g6
    obtain rfl:=g7 (.inl rfl)
    have hcap:=g8 rfl k4
    obtain ⟨c,d,t,k7,k8,k9⟩:=k6
    have hcl:=k9.length
    have hcd:len * szT P e+nv.length≤(c++d).length:=by
     rw [hnl,←Nat.add_mul,←k8];exact Nat.mul_le_mul_right _ (Nat.le_trans hroom hcap)
    obtain ⟨w',m1,m2⟩:=run_storeCells (P:=P) t L.blk nv w (c++d) 0 (len * szT P e) k7 (one_all hnr hone) (by omega)
    have e3:(c++d).take (len * szT P e+0)++nv++(c++d).drop (len * szT P e+0+nv.length)=(c++nv)++d.drop nv.length:=by
     have:len * szT P e=c.length:=by omega
     rw [this,Nat.add_zero,List.take_append_of_le_length (Nat.le_refl _),List.take_length,List.drop_append];simp
    rw [e3] at m2
    have hL':=hst {L with row:=os.length+new.length} rfl (fun hz=>by simp only [hz,Nat.add_zero,←k3])
    refine ⟨w',upd ρ id {L with row:=os.length+new.length},_,⟨⟨?_,?_,?_⟩,hL',?_,by simp,?_⟩,app_room (ty:=ty) h0 h1 hd0 hd1 hsz hlen hroom hnw (by rw [Addr.add_none,k2];simpa using m1),?_⟩
    ·intro i
     rw [hset]
     split
     ·subst_vars
      refine ⟨_,upd_same _ _ _,k2,by simp,k4,k5,?_⟩
      rw [if_neg hnil]
      refine ⟨c++nv,d.drop nv.length,t,m2.this,?_,?_⟩
      ·show L.cap * szT P e=_
       rw [k8];simp at hcd ⊢;omega
      ·exact (k9.mono fun _ _ h=>SRel.mono h hL').app (hnr.mono fun _ _ h=>SRel.mono h hL')
     ·rename_i hne
      refine (hH.obj i).keep hL' (upd_ne _ _ hne) (fun Li hi hn hlv=>?_) (by rw [m2.size];omega)
      exact m2.other _ (fun e=>hH.sep id i L Li (fun e=>hne e.symm) hown g1 hnil' hlv hi hn e.symm)
    ·intro i j Li Lj hij hio hLi hni hjl hLj hnj
     rw [hset] at hio hjl
     have tr:∀(k:Nat) (Lk:Loc),upd ρ id {L with row:=os.length+new.length} k=some Lk→∃Lk',ρ k=some Lk'∧Lk'.blk=Lk.blk∧Lk'.nil=Lk.nil:=by
      intro k Lk hk
      by_cases e:k=id
      ·subst e;rw [upd_same] at hk;simp at hk;subst hk;exact ⟨L,g1,rfl,rfl⟩
      ·rw [upd_ne _ _ e] at hk;exact ⟨Lk,hk,rfl,rfl⟩
     obtain ⟨Mi,a1,a2,a3⟩:=tr i Li hLi
     obtain ⟨Mj,b1,b2,b3⟩:=tr j Lj hLj
     rw [←a2,←b2]
     have hio':(hg H i).owned=true:=by split at hio;subst_vars;exact hown;exact hio
     have hjl':(hg H j).live=true:=by split at hjl;subst_vars;exact AObj.owned_live hown;exact hjl
     exact hH.sep i j Mi Mj hij hio' a1 (by rw [a3,hni]) hjl' b1 (by rw [b3,hnj])
    ·intro i hi
     simp at hi
     rw [upd_ne _ _ (by omega)];exact hH.fresh i hi
    ·intro w0 M hk hm
     refine ⟨hk.setB m2 (hm id L hown g1 hnil'),fun i Li hio hLi hni=>?_⟩
     rw [hset] at hio
     by_cases e:i=id
     ·subst e;rw [upd_same] at hLi;simp at hLi;subst hLi;exact hm _ L hown g1 hnil'
     ·rw [if_neg e] at hio;rw [upd_ne _ _ e] at hLi;exact hm _ _ hio hLi hni
    ·intro i Li hio hLi
     have:i≠id:=by rintro rfl;rw [hown] at hio;simp at hio
     rw [upd_ne _ _ this,hLi]
    ·refine ⟨_,_,_,upd_same _ _ _,rfl,by simp,hroom,by omega,Nat.le_refl _,fun _=>?_⟩
     rw [if_neg hnil]
     refine ⟨_,rfl,fun _=>rfl,fun _ _=>hcap,fun hp _=>?_⟩
     show 0 < os.length+new.length
     rw [hos,hnl2,hnl,←Nat.add_mul];exact Nat.mul_pos hp hsz
  ·
   obtain ⟨ov,o1,o2,o3⟩:∃ov:List Value,ov.length=len * szT P e∧L2 (SRel ρ) os ov∧(Builtin.firstCells (szT P e) len (.slice base len cap)).run P w.drew=.ok ov.toArray w.drew:=by
    by_cases hnil:L.nil=true
    ·rw [if_pos hnil] at g6 k6
     obtain ⟨rfl,_,rfl,rfl⟩:=g6
     obtain ⟨rfl,_⟩:=k6
     exact ⟨[],by simp,.nil,by simp [Builtin.firstCells]⟩
    ·rw [if_neg hnil] at g6
     obtain ⟨a,rfl,g7,g8,_⟩:=g6
     obtain rfl:=g7 (.inl rfl)
     obtain ⟨vs,h8,h9,h10⟩:=cells_run (P:=P) (off:=0) (n:=len * szT P e) (hH.obj id) g1 (by rw [hob];simp [AObj.cells,hos])
     rw [hob] at h9
     have e4:((AObj.vec (szT P e) os).cells.drop 0).take (len * szT P e)=os:=by simp [AObj.cells,←hos]
     rw [e4] at h9
     exact ⟨vs,h8,h9,by simp only [Builtin.firstCells];exact h10 w.drew fun _=>rfl⟩
   obtain ⟨C,rest,c1,c2,c3⟩:=app_grow (ty:=ty) h0 h1 hd0 hd1 rfl hsz hby hby2 hz hzl hlen hroom hb o3 hnwd
   have hnpos:0 < n:=by omega
   have hnewpos:0 < new.length:=by rw [hnl2,hnl];exact Nat.mul_pos hnpos hsz
   have hL':=hst ⟨w.heap.size,0,C,os.length+new.length,false,true⟩ rfl (fun hz=>by omega)
   have hrel:L2 (SRel ρ) (os++new) (ov++nv):=o2.app hnr
   have hcap:C * szT P e=((ov++nv)++rest).length:=by
    simp only [List.length_append,o1,hnl,c2]
    rw [←Nat.add_mul,←Nat.add_mul];congr 1;omega
   have hr:=HR.new hH.drew hrel e id (szT P e) ⟨w.heap.size,0,C,os.length+new.length,false,true⟩ rfl rfl rfl (by simp) rfl hsz hcap hL' hset (by simp) (by simpa using hid)
   refine ⟨_,_,_,⟨hr,hL',fun w0 M hk hm=>⟨hk.drew.alloc _ _,fun i Li hio hLi hni=>?_⟩,by simp,fun i Li hio hLi=>?_⟩,c3,?_⟩
   ·rw [hset] at hio
    by_cases e:i=id
    ·subst e;rw [upd_same] at hLi;simp at hLi;subst hLi;exact .inr hk.size
    ·rw [if_neg e] at hio;rw [upd_ne _ _ e] at hLi;exact hm _ _ hio hLi hni
   ·have:i≠id:=by rintro rfl;rw [hown] at hio;simp at hio
    rw [upd_ne _ _ this,hLi]
   ·refine ⟨_,_,_,upd_same _ _ _,rfl,by simp,c1,by omega,Nat.le_refl _,fun _=>?_⟩
    rw [if_neg (by simp)]
    exact ⟨_,rfl,fun _=>rfl,fun _ _=>Nat.le_refl _,fun _ _=>by show 0 < os.length+new.length;omega⟩
 ·split at h <;> simp at h
  rename_i hc
  obtain ⟨hn0,hb⟩:=hc
  obtain ⟨rfl,rfl⟩:=h
  cases hx
  obtain ⟨C,rest,c1,c2,c3⟩:=app_grow (ty:=ty) (base:=none) (len:=0) (cap:=0) (n:=n) (old:=[]) h0 h1 hd0 hd1 rfl hsz hby hby2 hz hzl hlen (by omega) (by simpa using hb) (by simp [Builtin.firstCells]) hnwd
  have hst:Stab ρ (upd ρ H.length ⟨w.heap.size,0,C,new.length,false,true⟩):=by
   intro i Li hi
   have:i≠H.length:=by rintro rfl;rw [hH.fresh _ (Nat.le_refl _)] at hi;simp at hi
   exact ⟨Li,by rw [upd_ne _ _ this,hi],.inl rfl⟩
  have hnl2:=hnr.length
  have hcap:C * szT P e=(nv++rest).length:=by
   simp only [List.length_append,hnl,c2]
   rw [←Nat.add_mul];congr 1;omega
  have hr:=HR.new hH.drew hnr e H.length (szT P e) ⟨w.heap.size,0,C,new.length,false,true⟩ rfl rfl rfl rfl rfl hsz hcap hst (hg_append H _) (by simp) (by simp)
  rw [Nat.zero_add,List.nil_append] at c3
  have hk:=hneed n
  refine ⟨_,_,_,⟨hr,hst,fun w0 M hk hm=>⟨hk.drew.alloc _ _,fun i Li hio hLi hni=>?_⟩,by simp,fun i Li hio hLi=>?_⟩,c3,?_⟩
  ·rw [hg_append] at hio
   by_cases e:i=H.length
   ·subst e;rw [upd_same] at hLi;simp at hLi;subst hLi;exact .inr hk.size
   ·rw [if_neg e] at hio;rw [upd_ne _ _ e] at hLi;exact hm _ _ hio hLi hni
  ·have:i≠H.length:=by rintro rfl;rw [hH.fresh _ (Nat.le_refl _)] at hLi;simp at hLi
   rw [upd_ne _ _ this,hLi]
  ·refine ⟨_,_,_,upd_same _ _ _,rfl,by simp,by omega,by omega,Nat.le_refl _,fun _=>?_⟩
   rw [if_neg (by simp)]
   refine ⟨_,rfl,fun _=>rfl,fun _ _=>Nat.le_refl _,fun hp _=>?_⟩
   show 0 < new.length
   rw [hnl2,hnl];exact Nat.mul_pos hp hsz
 ·simp at h
def byL:List Sc→Option (List Int)
 | []=>some []
 | .k .u8 n::r=>(byL r).map (n :: ·)
 | _=>none
def strN (l:List Int):ByteArray:=⟨(l.map fun n=>UInt8.ofNat n.toNat).toArray⟩
def cvS (P:Program) (s d:Nat) (x:AV) (H:AH):Option AV :=
 match dT P s,dT P d with
 | .sl e,.str =>
   match dT P e,srcA H 1 x with
   | .int .u8,some (new,_)=>(byL new).map fun l=>.c (.s (strN l))
   | _,_=>none
 | _,_=>none
theorem byL_vals:∀{new:List Sc} {l:List Int} {vs:List Value},byL new=some l→L2 (SRel ρ) new vs→vs=l.map (Value.int .u8)∧new.length=l.length:=by
 intro new
 induction new with
 | nil=>intro l vs h h2;simp [byL] at h;subst h;cases h2;exact ⟨rfl,rfl⟩
 | cons a r ih =>
   intro l vs h h2
   cases h2 with
   | cons h3 h4 =>
     unfold byL at h
     split at h
     ·simp_all
     ·rename_i n r' heq
      simp only [List.cons.injEq] at heq
      obtain ⟨rfl,rfl⟩:=heq
      rw [Option.map_eq_some_iff] at h
      obtain ⟨l',h5,rfl⟩:=h
      obtain ⟨e1,e2⟩:=ih h5 h4
      obtain ⟨rfl,_⟩:=h3
      exact ⟨by rw [e1];rfl,by simp [e2]⟩
     ·simp at h
theorem cvS_run {w:World} {H:AH} (hH:HR ρ w H) {s d:Nat} {x v:AV} {cx:Value} (h:cvS P s d x H=some v) (hx:VRel ρ x cx) :
 ∃vc,(convert s d cx).run P w=.ok vc w∧VRel ρ v vc:=by
 unfold cvS at h
 split at h
 ·rename_i e hs hd
  split at h
  ·rename_i new n he hsrc
   rw [Option.map_eq_some_iff] at h
   obtain ⟨l,hl,rfl⟩:=h
   obtain ⟨vs,h1,h2,h3,h4,h5⟩:=src_run (P:=P) hH hsrc hx
   obtain ⟨e1,e2⟩:=byL_vals hl h2
   have lim:l.length≤9223372036854775807:=by
    have:vs.length=l.length:=by rw [e1];simp
    omega
   have sz:(strN l).size≤9223372036854775807:=by simpa [strN,ByteArray.size] using lim
   refine ⟨.string (strN l),?_,rfl,sz⟩
   have h6:=h5 w (fun _ _ _=>rfl)
   have shape:(∃i o vv m,x=.c (.sl i o vv m))∨x=.c .nils:=by
    unfold srcA at hsrc
    split at hsrc
    ·exact .inr rfl
    ·exact .inl ⟨_,_,_,_,rfl⟩
    ·simp at hsrc
   have hcx:∃b ln cp,cx=.slice b ln cp:=by
    rcases shape with ⟨i,o,vv,m,rfl⟩ | rfl
    ·obtain ⟨L,base,cap,_,rfl,_⟩:=(show SlRel ρ i o vv m cx from hx)
     exact ⟨_,_,_,rfl⟩
    ·cases hx;exact ⟨_,_,_,rfl⟩
   obtain ⟨b,ln,cp,rfl⟩:=hcx
   rw [run_convert_bytes_string w s d e b ln cp (und_sl hs) (und_int he) (und_str hd)]
   have hn:n=ln:=by
    simp [Builtin.lenOf] at h3
    exact h3.symm
   subst hn
   cases b with
   | none =>
     have:vs=[]:=by
      have h7:=h6
      simp only [Builtin.firstCells,Sem.run_pure,Result.ok.injEq] at h7
      have:=congrArg Array.toList h7.1
      simpa using this.symm
     rw [this] at e1
     have:l=[]:=by
      have e3:=congrArg List.length e1
      rw [List.length_map] at e3
      exact List.eq_nil_of_length_eq_zero e3.symm
     subst this
     simp only [Conv.bytesToString]
     rfl
   | some a =>
     simp only [Builtin.firstCells,Nat.mul_one] at h6
     rw [e1] at h6
     rw [run_bytesToString w a n cp l h6]
     have fold:∀(ns:List Int) (s:ByteArray),ns.foldl (fun r n=>r.push (UInt8.ofNat n.toNat)) s=⟨s.data++(ns.map fun n=>UInt8.ofNat n.toNat).toArray⟩:=by
      intro ns
      induction ns with
      | nil=>intro s;simp
      | cons n ns ih=>intro s;rw [List.foldl_cons,ih];simp [ByteArray.push]
     rw [fold]
     have:ByteArray.empty.data++(List.map (fun n=>UInt8.ofNat n.toNat) l).toArray=(List.map (fun n=>UInt8.ofNat n.toNat) l).toArray:=by
      show (#[]:Array UInt8)++_=_
      simp
     rw [this];rfl
  ·simp at h
 ·simp at h
theorem mT_und {t kt et:Nat} (h:mT P t=some (kt,et)):P.underlying t=some (.map kt et):=by
 unfold mT at h
 split at h
 ·rename_i k e hu;simp only [Option.some.injEq,Prod.mk.injEq] at h;rw [hu,h.1,h.2]
 ·simp at h
theorem run_getObj_m {w:World} {b clk:Nat} {es:Array MapEntry} (h:w.heap[b]?=some (.map es clk)):(getObj b).run P w=.ok (.map es clk) w:=by
 simp [getObj,Sem.run,h]
theorem run_setObj_m {w:World} {b clk:Nat} {es:Array MapEntry} (o:Obj) (h:w.heap[b]?=some (.map es clk)):(setObj b o).run P w=.ok () {w with heap:=w.heap.setIfInBounds b o}:=by
 simp [setObj,Sem.run,h]
theorem setB_m {w:World} {b:Nat} {o o':Obj} (h:w.heap[b]?=some o):SetB w {w with heap:=w.heap.setIfInBounds b o'} b o':=by
 have hb:b < w.heap.size:=(Array.getElem?_eq_some_iff.1 h).1
 refine ⟨rfl,rfl,rfl,by simp,by simp [hb],fun k hk=>?_⟩
 simp only [Array.getElem?_setIfInBounds]
 rw [if_neg (fun e=>hk e.symm)]
theorem absC_V1 (ρ:Ro) (v:Value):V1 ρ (absC v) v:=by
 have h:=absC_rel ρ v
 unfold absC at h ⊢
 split at h
 ·exact h
 ·exact h
 ·exact h
theorem zA_run {t:Nat} {z:AV} (h:zA P t=some z) (w:World):∃v,(zeroValue t).run P w=.ok v w∧V1 ρ z v:=by
 unfold zA at h
 cases hi:P.info? t with
 | none=>simp [hi] at h
 | some i =>
   rw [hi] at h
   simp only [Option.bind_some] at h
   cases hz:i.zero with
   | none=>simp [hz] at h
   | some v =>
     rw [hz] at h
     simp only [Option.map_some,Option.some.injEq] at h
     subst h
     exact ⟨v,by simp [zeroValue,typeInfo,hi,hz],absC_V1 ρ v⟩
theorem und_flat {t:Nat} (h:(match dT P t with | .int _ | .bool | .str=>true | _=>false)=true):(∃k,P.underlying t=some (.int k))∨P.underlying t=some .bool∨P.underlying t=some .string:=by
 split at h
 ·rename_i k hd;exact .inl ⟨k,und_int hd⟩
 ·rename_i hd;exact .inr (.inl (und_bool hd))
 ·rename_i hd;exact .inr (.inr (und_str hd))
 ·simp at h
theorem check_fields (q:Bool) (n:Nat) (cs:List Value) (w:World):∀(fs:List Field),(∀f∈fs,0 < szT P f.type∧f.offset+szT P f.type≤cs.length∧(match dT P f.type with | .int _ | .bool | .str=>true | _=>false)=true) →
 (forIn (m:=Sem) fs PUnit.unit (fun f _=>do
   if f.name≠ "_" then do
    let x ←part f.type cs.toArray f.offset
    Instr.checkKey q (n+1) f.type x
    pure (ForInStep.yield PUnit.unit)
   else pure (ForInStep.yield PUnit.unit))).run P w=.ok PUnit.unit w:=by
 intro fs
 induction fs with
 | nil=>intro _;rfl
 | cons f fs ih =>
   intro h
   obtain ⟨h1,h2,h3⟩:=h f (by simp)
   have his:(dT P f.type).is=true:=by
    revert h3;cases dT P f.type <;> simp [D.is]
   have hp:=run_part his h1 w h2
   rw [List.forIn_cons]
   by_cases hn:f.name = "_"
   ·simp only [hn,ne_eq,not_true_eq_false,if_false,Sem.run_bind,Sem.run_pure,Result.andThen_ok]
    exact ih fun g hg=>h g (by simp [hg])
   ·simp only [hn,ne_eq,not_false_eq_true,if_true,Sem.run_bind,hp,Result.andThen_ok,Instr.checkKey]
    rcases und_flat h3 with ⟨k,hu⟩ | hu | hu
    all_goals
     simp only [run_underlying hu,Result.andThen_ok,Sem.run_pure]
     exact ih fun g hg=>h g (by simp [hg])
theorem check_run {q:Bool} {kt:Nat} {k:AV} {ck:Value} (h:kOk P kt k=true) (hk:VRel ρ k ck) (w:World):(Instr.checkKey q 10000 kt ck).run P w=.ok () w:=by
 unfold kOk at h
 split at h
 case h_5=>simp at h
 case h_4 l hA =>
  unfold kA at hA
  split at hA <;> try (simp at hA;done)
  rename_i fs hd
  split at hA <;> try (simp at hA;done)
  rename_i hc
  simp only [Bool.and_eq_true] at hc
  obtain ⟨hall,htag⟩:=hc
  obtain ⟨g,hg⟩:=Option.isSome_iff_exists.1 htag
  obtain ⟨gs,hu,_,rfl⟩:=und_st hd
  obtain ⟨cs,rfl,hl⟩:=hk
  simp only [decide_eq_true_eq] at h
  have hlen:cs.length=szT P kt:=by rw [←hl.length,h]
  show (Instr.checkKey q (9999+1) kt _).run P w=_
  unfold Instr.checkKey
  simp only [Sem.run_bind,run_underlying hu,Result.andThen_ok]
  have:=check_fields (P:=P) q 9998 cs w gs.toList fun f hf=>by
   have:=List.all_eq_true.1 hall (f.offset,f.type) (List.mem_map.2 ⟨f,hf,rfl⟩)
   simp only [Bool.and_eq_true,decide_eq_true_eq] at this
   exact ⟨this.2.1,by rw [hlen];exact this.2.2,this.1⟩
  rw [←Array.forIn_toList]
  refine Eq.trans ?_ (congrArg (fun r=>r.andThen fun _ w'=>Sem.run P (pure ()) w') this)
  congr 2
 all_goals
  rename_i hA
  unfold kA at hA
  split at hA
  ·rename_i k hd
   show (Instr.checkKey q (9999+1) kt _).run P w=_
   unfold Instr.checkKey
   simp only [Sem.run_bind,run_underlying (und_int hd),Result.andThen_ok]
   rfl
  ·split at hA <;> simp at hA
  ·simp at hA
theorem same_cells {g:List Tg}:∀{a b:List Sc} {xs ys:List Value},csEq g a b=some true→L2 (SRel ρ) a xs→L2 (SRel ρ) b ys→xs=ys∧∀n,(xs.zip ys).all (fun (x,y)=>Instr.sameBits (n+1) x y)=true:=by
 induction g with
 | nil=>intro a b xs ys h ha hb;cases ha <;> cases hb <;> simp_all [csEq]
 | cons t g ih =>
   intro a b xs ys h ha hb
   cases ha with
   | nil=>simp [csEq] at h
   | @cons s x a xs h1 h2 =>
   cases hb with
   | nil=>simp [csEq] at h
   | @cons s' y b ys h1' h2' =>
   simp only [csEq] at h
   split at h
   ·rename_i p q hp hq
    simp only [Option.some.injEq,Bool.and_eq_true] at h
    obtain ⟨rfl,rfl⟩:=h
    obtain ⟨rfl,h3⟩:=ih hq h2 h2'
    have key:x=y∧∀n,Instr.sameBits (n+1) x y=true:=by
     unfold scEq at hp
     split at hp <;> simp at hp
     ·subst hp;obtain ⟨rfl,_⟩:=h1;obtain ⟨rfl,_⟩:=h1';exact ⟨rfl,fun n=>by simp [Instr.sameBits]⟩
     ·subst hp;cases h1;cases h1';exact ⟨rfl,fun n=>by simp [Instr.sameBits]⟩
     ·obtain ⟨rfl,rfl⟩:=hp;obtain ⟨rfl,_⟩:=h1;obtain ⟨rfl,_⟩:=h1';exact ⟨rfl,fun n=>by simp [Instr.sameBits]⟩
     ·subst hp;cases h1;cases h1';exact ⟨rfl,fun n=>by simp [Instr.sameBits]⟩
     ·subst hp;obtain ⟨rfl,_⟩:=h1;obtain ⟨rfl,_⟩:=h1';exact ⟨rfl,fun n=>by simp [Instr.sameBits,bytes_beq]⟩
    obtain ⟨rfl,h4⟩:=key
    exact ⟨rfl,fun n=>by simp only [List.zip_cons_cons,List.all_cons,h4 n,h3 n,Bool.and_self]⟩
   ·simp at h
theorem kEq_true {kt:Nat} {k k':AV} {x y:Value} (h:kEq P kt k k'=some true) (hx:VRel ρ k x) (hy:V1 ρ k' y):x=y∧Instr.sameBits 10000 y x=true:=by
 unfold kEq at h
 split at h <;> try (simp at h;done)
 ·simp at h;subst h;obtain ⟨rfl,_⟩:=hx;obtain ⟨rfl,_⟩:=hy;exact ⟨rfl,by simp [Instr.sameBits]⟩
 ·simp at h;subst h;cases hx;cases hy;exact ⟨rfl,by simp [Instr.sameBits]⟩
 ·simp at h;obtain ⟨rfl,rfl⟩:=h;obtain ⟨rfl,_⟩:=hx;obtain ⟨rfl,_⟩:=hy;exact ⟨rfl,by simp [Instr.sameBits]⟩
 ·rw [Option.bind_eq_some_iff] at h
  obtain ⟨g,_,h⟩:=h
  obtain ⟨xs,rfl,h1⟩:=hx
  obtain ⟨ys,rfl,h2⟩:=hy
  obtain ⟨rfl,h3⟩:=same_cells h h1 h2
  refine ⟨rfl,?_⟩
  show Instr.sameBits (9999+1) _ _=true
  have:=h3 9998
  simp only [Instr.sameBits,beq_self_eq_true,Bool.true_and]
  exact this
theorem kEq_run {kt:Nat} {k k':AV} {x y:Value} {q:Bool} (h:kEq P kt k k'=some q) (hA:kA P kt=some true) (hx:VRel ρ k x) (hy:V1 ρ k' y) (w:World):(Op.equal kt x y).run P w=.ok q w:=by
 unfold kEq at h
 rw [hA] at h
 split at h
 ·rename_i e;simp at e
 ·rename_i e;simp at e
 ·rename_i e;simp at e
 case h_5=>simp at h
 rw [Option.bind_eq_some_iff] at h
 obtain ⟨g,hg,h⟩:=h
 obtain ⟨xs,rfl,h1⟩:=hx
 obtain ⟨ys,rfl,h2⟩:=hy
 have hag:(dT P kt).agg=true:=by
  unfold kA at hA
  split at hA <;> try (simp at hA;done)
  rename_i fs hd;rw [hd];rfl
 have:=eq_run (P:=P) (ρ:=ρ) 12 10000 (by decide) kt g hg _ _ _ _ q h1 h2 h w
 simp only [mkV,hag,if_true] at this
 exact this
theorem sameNow_run {kt:Nat} {k k':AV} {x y:Value} {q:Bool} {kd:IntKind} (h:kEq P kt k k'=some q) (hA:kA P kt=some false) (hx:VRel ρ k x) (hy:V1 ρ k' y):Instr.sameNow (.int kd) x y=some q:=by
 unfold kEq at h
 rw [hA] at h
 split at h
 case h_4=>rename_i e;simp at e
 case h_5=>simp at h
 ·simp at h;subst h;obtain ⟨rfl,_⟩:=hx;obtain ⟨rfl,_⟩:=hy;simp only [Instr.sameNow,if_true];congr 1
 ·rename_i a b _
  simp at h;subst h;cases hx;cases hy;simp [Instr.sameNow]
  rw [Bool.eq_iff_iff];simp only [beq_iff_eq,decide_eq_true_eq]
  exact ⟨fun h=>BitVec.eq_of_toNat_eq (by omega),fun h=>by rw [h]⟩
 ·split at h <;> simp at h
  subst_vars
  obtain ⟨rfl,_⟩:=hx;obtain ⟨rfl,_⟩:=hy;simp only [Instr.sameNow,if_true];congr 1
def ERel (ρ:Ro) (a:Nat × AV × AV) (e:MapEntry):Prop:=e.born=a.1∧V1 ρ a.2.1 e.key∧V1 ρ a.2.2 e.val
def FRel (ρ:Ro) (es:List MapEntry) (i0:Nat):Option (Nat × AV)→Option (Nat × Value)→Prop
 | none,none=>True
 | some (i,v),some (j,x)=>i=j∧V1 ρ v x∧i0≤i∧∃e,es[i - i0]?=some e∧e.val=x
 | _,_=>False
theorem FRel.shift {e:MapEntry} {es:List MapEntry} {i:Nat} {r:Option (Nat × AV)} {r':Option (Nat × Value)} (h:FRel ρ es (i+1) r r'):FRel ρ (e::es) i r r':=by
 cases r with
 | none=>cases r' with
   | none=>trivial
   | some y=>exact h.elim
 | some x=>cases r' with
   | none=>exact h.elim
   | some y =>
     obtain ⟨h1,h2,h3,e',h4,h5⟩:=h
     refine ⟨h1,h2,by omega,e',?_,h5⟩
     rw [show x.1 - i=(x.1 - (i+1))+1 by omega];simpa using h4
theorem findNow_run {kt:Nat} {k:AV} {x:Value} {kd:IntKind} (hA:kA P kt=some false) (hx:VRel ρ k x):∀{es:List (Nat × AV × AV)} {ems:List MapEntry} {i:Nat} {r:Option (Nat × AV)},
 L2 (ERel ρ) es ems→findA P kt k es i=some r→∃r',Instr.findNow (.int kd) x ems i=some r'∧FRel ρ ems i r r':=by
 intro es
 induction es with
 | nil=>intro ems i r h1 h2;cases h1;simp [findA] at h2;subst h2;exact ⟨none,rfl,trivial⟩
 | cons a es ih =>
   intro ems i r h1 h2
   cases h1 with
   | @cons _ e _ ems he ht =>
   simp only [findA] at h2
   split at h2
   ·rename_i hk
    simp at h2;subst h2
    refine ⟨some (i,e.val),?_,rfl,he.2.2,Nat.le_refl _,e,by simp,rfl⟩
    simp only [Instr.findNow,sameNow_run hk hA hx he.2.1]
   ·rename_i hk
    obtain ⟨r',h3,h4⟩:=ih ht h2
    refine ⟨r',?_,h4.shift⟩
    ·simp only [Instr.findNow,sameNow_run hk hA hx he.2.1,h3]
   ·simp at h2
theorem findAsk_run {kt:Nat} {k:AV} {x:Value} (hA:kA P kt=some true) (hx:VRel ρ k x) (w:World):∀{es:List (Nat × AV × AV)} {ems:List MapEntry} {i:Nat} {r:Option (Nat × AV)},
 L2 (ERel ρ) es ems→findA P kt k es i=some r→∃r',(Instr.findAsking kt x ems i).run P w=.ok r' w∧FRel ρ ems i r r':=by
 intro es
 induction es with
 | nil=>intro ems i r h1 h2;cases h1;simp [findA] at h2;subst h2;exact ⟨none,rfl,trivial⟩
 | cons a es ih =>
   intro ems i r h1 h2
   cases h1 with
   | @cons _ e _ ems he ht =>
   simp only [findA] at h2
   split at h2
   ·rename_i hk
    simp at h2;subst h2
    refine ⟨some (i,e.val),?_,rfl,he.2.2,Nat.le_refl _,e,by simp,rfl⟩
    simp only [Instr.findAsking,Sem.run_bind,kEq_run hk hA hx he.2.1,Result.andThen_ok,if_true,Sem.run_pure]
   ·rename_i hk
    obtain ⟨r',h3,h4⟩:=ih ht h2
    refine ⟨r',?_,h4.shift⟩
    ·simp only [Instr.findAsking,Sem.run_bind,kEq_run hk hA hx he.2.1,Result.andThen_ok,Bool.false_eq_true,if_false,h3]
   ·simp at h2
theorem find_run {kt:Nat} {k:AV} {x:Value} {es:List (Nat × AV × AV)} {ems:List MapEntry} {r:Option (Nat × AV)} (hk:kOk P kt k=true) (hx:VRel ρ k x) (he:L2 (ERel ρ) es ems) (h:findA P kt k es 0=some r) (w:World) :
 ∃r',(Instr.findKey kt x ems).run P w=.ok r' w∧FRel ρ ems 0 r r':=by
 cases hA:kA P kt with
 | none=>unfold kOk at hk;rw [hA] at hk;split at hk <;> simp_all
 | some q =>
   cases q with
   | false =>
     obtain ⟨kd,hu⟩:∃kd,P.underlying kt=some (.int kd):=by
      unfold kA at hA
      split at hA
      ·rename_i kd hd;exact ⟨kd,und_int hd⟩
      ·split at hA <;> simp at hA
      ·simp at hA
     obtain ⟨r',h1,h2⟩:=findNow_run (kd:=kd) hA hx he h
     refine ⟨r',?_,h2⟩
     simp only [Instr.findKey,Sem.run_bind,run_underlying hu,Result.andThen_ok,h1,Sem.run_pure]
   | true =>
     obtain ⟨fs,hu⟩:∃fs,P.underlying kt=some (.struct fs):=by
      unfold kA at hA
      split at hA
      ·simp at hA
      ·rename_i fs hd;obtain ⟨gs,hu,_⟩:=und_st hd;exact ⟨gs,hu⟩
      ·simp at hA
     cases he with
     | nil =>
       simp [findA] at h;subst h
       exact ⟨none,by simp [Instr.findKey,run_underlying hu,Instr.findNow],trivial⟩
     | @cons a e es ems h1 h2 =>
       obtain ⟨r',h3,h4⟩:=findAsk_run hA hx w (L2.cons h1 h2) h
       refine ⟨r',?_,h4⟩
       have e0:Instr.findNow (.struct fs) x (e::ems) 0=none:=by simp [Instr.findNow,Instr.sameNow]
       simp only [Instr.findKey,Sem.run_bind,run_underlying hu,Result.andThen_ok,e0,h3]
theorem mp_blk {w:World} {H:AH} {id:Nat} {v:Value} (hH:HR ρ w H) (h:SRel ρ (.mp id) v) {clk:Nat} {es:List (Nat × AV × AV)} (ho:hg H id=.map clk es) :
 ∃(L:Loc) (ems:List MapEntry),ρ id=some L∧v=.map (some L.blk)∧L.nil=false∧w.heap[L.blk]?=some (.map ems.toArray clk)∧L2 (ERel ρ) es ems∧L.off=0∧L.row=0∧L.vec=false:=by
 have hO:=hH.obj id
 rw [ho] at hO
 obtain ⟨L,ems,h1,h2,h3,h4,h5,h6,h7⟩:=hO
 obtain ⟨L',b,g1,g2,g3⟩:=h
 obtain rfl:L=L':=by simpa [h1] using g1
 exact ⟨L,ems,h1,by rw [g2,g3 h3],h4,h6,h7,h2,h3,h5⟩
theorem V1.mok {ok q:Bool} {v:AV} {x:Value} (h:V1 ρ v x):VRel ρ (mokA ok v q) (if ok then .tuple #[x,.bool q] else x):=by
 cases ok
 ·exact h.vrel
 ·exact ⟨[x,.bool q],rfl,.cons h (.cons rfl .nil)⟩
theorem look_run {w:World} {H:AH} (hH:HR ρ w H) {t:Nat} {m k v:AV} {ok:Bool} {cm ck:Value} (h:lookA P t m k ok H=some v) (hm:VRel ρ m cm) (hk:VRel ρ k ck) :
 ∃vc,(Instr.lookup t cm ck ok).run P w=.ok vc w∧VRel ρ v vc:=by
 unfold lookA at h
 split at h <;> try (simp at h;done)
 rename_i kt et hT
 have hu:=mT_und hT
 split at h <;> try (simp at h;done)
 rename_i hok
 have hz:∀z,zA P et=some z→∃vz,(zeroValue et).run P w=.ok vz w∧V1 ρ z vz:=fun z hz=>zA_run hz w
 split at h
 ·rw [Option.map_eq_some_iff] at h
  obtain ⟨z,h1,rfl⟩:=h
  obtain ⟨vz,h2,h3⟩:=hz z h1
  obtain rfl:cm=.map none:=hm
  refine ⟨_,?_,h3.mok (ok:=ok) (q:=false)⟩
  have e0:(Instr.findKey kt ck []).run P w=.ok none w:=by
   have:=find_run (es:=[]) (ems:=[]) hok hk .nil rfl w
   obtain ⟨r',g1,g2⟩:=this
   cases r' with
   | none=>exact g1
   | some y=>exact g2.elim
  simp only [Instr.lookup,Sem.run_bind,run_underlying hu,Result.andThen_ok,Sem.run_pure,check_run hok hk,e0,h2]
 ·rename_i id
  split at h <;> try (simp at h;done)
  rename_i clk es ho
  obtain ⟨L,ems,h1,rfl,h3,h4,h5,_⟩:=mp_blk hH hm ho
  split at h <;> try (simp at h;done)
  ·rename_i i v' hf
   simp at h;subst h
   obtain ⟨r',g1,g2⟩:=find_run hok hk h5 hf w
   cases r' with
   | none=>exact g2.elim
   | some y =>
     obtain ⟨_,g3,_⟩:=g2
     refine ⟨_,?_,g3.mok (ok:=ok) (q:=true)⟩
     simp only [Instr.lookup,Sem.run_bind,run_underlying hu,Result.andThen_ok,run_getObj_m h4,Sem.run_pure,check_run hok hk,g1]
  ·rename_i hf
   rw [Option.map_eq_some_iff] at h
   obtain ⟨z,k1,rfl⟩:=h
   obtain ⟨vz,h2,k3⟩:=hz z k1
   obtain ⟨r',g1,g2⟩:=find_run hok hk h5 hf w
   cases r' with
   | some y=>exact g2.elim
   | none =>
     refine ⟨_,?_,k3.mok (ok:=ok) (q:=false)⟩
     simp only [Instr.lookup,Sem.run_bind,run_underlying hu,Result.andThen_ok,run_getObj_m h4,Sem.run_pure,check_run hok hk,g1,h2]
 ·simp at h
theorem Eff.setM {w w':World} {H:AH} (h:HR ρ w H) {id:Nat} {L:Loc} {c:Array MapEntry} {t:Nat} {o':AObj} (hown:(hg H id).owned=true) (hL:ρ id=some L) (hnil:L.nil=false)
 (hs:SetB w w' L.blk (.map c t)) (ho':ORel ρ w' id o'):Eff ρ w H w' ρ (H.set id o'):=by
 have hid:=hg_lt (AObj.owned_live hown)
 refine ⟨h.set hown hL hnil hs ho',Stab.refl ρ,fun w0 M hk hm=>⟨hk.setM hs (hm id L hown hL hnil),fun i Li hio hLi hni=>?_⟩,by simp,fun _ _ _ h=>h⟩
 rw [hg_set _ _ _ _ hid] at hio
 split at hio
 ·subst_vars;exact hm _ _ hown hLi hni
 ·exact hm _ _ hio hLi hni
theorem Eff.setI {w w':World} {H:AH} (h:HR ρ w H) {id:Nat} {L:Loc} {x:Option Nat} {b':Nat} {sn:Array Nat} {c0:Nat} {o':AObj} (hown:(hg H id).owned=true) (hL:ρ id=some L) (hnil:L.nil=false)
 (hs:SetB w w' L.blk (.mapIter x b' sn c0)) (ho':ORel ρ w' id o'):Eff ρ w H w' ρ (H.set id o'):=by
 have hid:=hg_lt (AObj.owned_live hown)
 refine ⟨h.set hown hL hnil hs ho',Stab.refl ρ,fun w0 M hk hm=>⟨hk.setI hs (hm id L hown hL hnil),fun i Li hio hLi hni=>?_⟩,by simp,fun _ _ _ h=>h⟩
 rw [hg_set _ _ _ _ hid] at hio
 split at hio
 ·subst_vars;exact hm _ _ hown hLi hni
 ·exact hm _ _ hio hLi hni
theorem Eff.refl {w:World} {H:AH} (h:HR ρ w H):Eff ρ w H w ρ H:=⟨h,Stab.refl ρ,fun _ _ a b=>⟨a,b⟩,Nat.le_refl _,fun _ _ _ h=>h⟩
theorem L2.setM {α β:Type} {R:α→β→Prop} {l:List α} {m:List β} (h:L2 R l m):∀(i:Nat) (a:α) (f:β→β),(∀b,m[i]?=some b→R a (f b))→L2 R (l.set i a) (m.modify i f):=by
 induction h with
 | nil=>intro i a f _;simp;exact .nil
 | @cons x y l m hx _ ih =>
   intro i a f hf
   cases i with
   | zero=>simp only [List.set_cons_zero,List.modify_zero_cons];exact .cons (hf y (by simp)) (by assumption)
   | succ i=>simp only [List.set_cons_succ,List.modify_succ_cons];exact .cons hx (ih i a f fun b hb=>hf b (by simpa using hb))
theorem L2.eraseM {α β:Type} {R:α→β→Prop} {l:List α} {m:List β} (h:L2 R l m):∀(i:Nat),L2 R (l.eraseIdx i) (m.eraseIdx i):=by
 induction h with
 | nil=>intro i;exact .nil
 | @cons x y l m hx ht ih =>
   intro i
   cases i with
   | zero=>exact ht
   | succ i=>exact .cons hx (ih i)
theorem V1.of_vrel {x:AV} {v:Value} (h:VRel ρ x v) (hf:x.flat1=true):V1 ρ x v:=by
 cases x with
 | c s=>exact h
 | g l=>exact h
 | t l=>simp [AV.flat1] at hf
theorem kOk_flat {kt:Nat} {k:AV} (h:kOk P kt k=true):k.flat1=true:=by
 unfold kOk at h
 split at h <;> first | rfl | simp at h
theorem upd_run {w:World} {H H':AH} (hH:HR ρ w H) {t:Nat} {m k v:AV} {cm ck cv:Value} (h:updA P t m k v H=some H') (hm:VRel ρ m cm) (hk:VRel ρ k ck) (hv:VRel ρ v cv) :
 ∃w',(Instr.mapUpdate t cm ck cv).run P w=.ok () w'∧Eff ρ w H w' ρ H':=by
 unfold updA at h
 split at h <;> try (simp at h;done)
 rename_i kt et id hT
 have hu:=mT_und hT
 split at h <;> try (simp at h;done)
 rename_i hc
 obtain ⟨hok,hfl⟩:=hc
 split at h <;> try (simp at h;done)
 rename_i clk es ho
 obtain ⟨L,ems,h1,rfl,h3,h4,h5,h6,h7,h8⟩:=mp_blk hH hm ho
 have hown:(hg H id).owned=true:=by rw [ho];rfl
 split at h <;> try (simp at h;done)
 ·rename_i i v' hf
  simp at h;subst h
  obtain ⟨r',g1,g2⟩:=find_run hok hk h5 hf w
  cases r' with
  | none=>exact g2.elim
  | some y =>
    obtain ⟨j,x⟩:=y
    obtain ⟨rfl,g3,_,e,g4,g5⟩:=g2
    simp only [Nat.sub_zero] at g4
    have hkey:∀{es:List (Nat × AV × AV)} {ems:List MapEntry} {n:Nat},L2 (ERel ρ) es ems→findA P kt k es n=some (some (i,v'))→∃a e,n≤i∧es[i - n]?=some a∧ems[i - n]?=some e∧ERel ρ a e∧kEq P kt k a.2.1=some true:=by
     intro es
     induction es with
     | nil=>intro ems n _ h;simp [findA] at h
     | cons a es ih =>
       intro ems n h1 h
       cases h1 with
       | @cons _ e _ ems he ht =>
       simp only [findA] at h
       split at h
       ·rename_i hq
        simp at h;obtain ⟨rfl,_⟩:=h
        exact ⟨a,e,Nat.le_refl _,by simp,by simp,he,hq⟩
       ·obtain ⟨a',e',q1,q2,q3,q4,q5⟩:=ih ht h
        refine ⟨a',e',by omega,?_,?_,q4,q5⟩
        ·rw [show i - n=(i - (n+1))+1 by omega];simpa using q2
        ·rw [show i - n=(i - (n+1))+1 by omega];simpa using q3
       ·simp at h
    obtain ⟨a,e',_,q2,q3,q4,q5⟩:=hkey h5 hf
    simp only [Nat.sub_zero] at q2 q3
    obtain rfl:e=e':=by rw [g4] at q3;simpa using q3
    obtain ⟨rfl,hsame⟩:=kEq_true q5 hk q4.2.1
    refine ⟨_,?_,Eff.setM hH hown h1 h3 (setB_m (o':=.map (ems.modify i fun e'=>{e' with key:=e.key,val:=cv}).toArray clk) h4) ?_⟩
    ·have hge:(ems.toArray[i]?.map (·.key)).getD e.key=e.key:=by simp [g4]
     have hst:(Instr.keyThatStays e.key e.key).run P w=.ok e.key w:=by simp only [Instr.keyThatStays,hsame,if_true,Sem.run_pure]
     have hmod:ems.toArray.modify i (fun e'=>{e' with key:=e.key,val:=cv})=(ems.modify i fun e'=>{e' with key:=e.key,val:=cv}).toArray:=by
      apply Array.ext';simp
     simp only [Instr.mapUpdate,Sem.run_bind,run_underlying hu,Result.andThen_ok,run_getObj_m h4,check_run hok hk,g1,hge,hst,run_setObj_m _ h4,hmod]
    ·refine ⟨L,(ems.modify i fun e'=>{e' with key:=e.key,val:=cv}),h1,h6,h7,h3,h8,?_,L2.setM h5 i _ _ fun b hb=>?_⟩
     ·have hb:=(Array.getElem?_eq_some_iff.1 h4).1
      simp [hb]
     ·obtain rfl:e=b:=by rw [g4] at hb;simpa using hb
      refine ⟨?_,V1.of_vrel hk (kOk_flat hok),V1.of_vrel hv hfl⟩
      show e.born=(es.getD i (0,k,v)).1
      rw [List.getD_eq_getElem?_getD,q2];exact q4.1
 ·rename_i hf
  simp at h;subst h
  obtain ⟨r',g1,g2⟩:=find_run hok hk h5 hf w
  cases r' with
  | some y=>exact g2.elim
  | none =>
    refine ⟨_,?_,Eff.setM hH hown h1 h3 (setB_m (o':=.map (ems++[({key:=ck,val:=cv,born:=clk}:MapEntry)]).toArray (clk+1)) h4) ?_⟩
    ·have hpush:ems.toArray.push ({key:=ck,val:=cv,born:=clk}:MapEntry)=(ems++[({key:=ck,val:=cv,born:=clk}:MapEntry)]).toArray:=by apply Array.ext';simp
     simp only [Instr.mapUpdate,Sem.run_bind,run_underlying hu,Result.andThen_ok,run_getObj_m h4,check_run hok hk,g1,run_setObj_m _ h4,hpush]
    ·refine ⟨L,ems++[({key:=ck,val:=cv,born:=clk}:MapEntry)],h1,h6,h7,h3,h8,?_,h5.app (.cons ⟨rfl,V1.of_vrel hk (kOk_flat hok),V1.of_vrel hv hfl⟩ .nil)⟩
     have hb:=(Array.getElem?_eq_some_iff.1 h4).1
     simp [hb]
theorem del_run {w:World} {H H':AH} (hH:HR ρ w H) {t ty:Nat} {m k:AV} {cm ck:Value} {ts:Array TypeId} (ht:ts[0]?=some t) (h:delA P t m k H=some H') (hm:VRel ρ m cm) (hk:VRel ρ k ck) :
 ∃w',(Builtin.delete_ ts ty #[cm,ck]).run P w=.ok (.tuple #[]) w'∧Eff ρ w H w' ρ H':=by
 unfold delA at h
 split at h <;> try (simp at h;done)
 rename_i kt et id hT
 have hu:=mT_und hT
 split at h <;> try (simp at h;done)
 rename_i hok
 split at h <;> try (simp at h;done)
 rename_i clk es ho
 obtain ⟨L,ems,h1,rfl,h3,h4,h5,h6,h7,h8⟩:=mp_blk hH hm ho
 have hown:(hg H id).owned=true:=by rw [ho];rfl
 have hcm:∀q,(Instr.checkKey q 10000 kt ck).run P w=.ok () w:=fun q=>check_run hok hk w
 split at h <;> try (simp at h;done)
 ·rename_i i v' hf
  simp at h;subst h
  obtain ⟨r',g1,g2⟩:=find_run hok hk h5 hf w
  cases r' with
  | none=>exact g2.elim
  | some y =>
    obtain ⟨j,x⟩:=y
    obtain ⟨rfl,g3,_,e,g4,g5⟩:=g2
    refine ⟨_,?_,Eff.setM hH hown h1 h3 (setB_m (o':=.map (ems.eraseIdx i).toArray clk) h4) ?_⟩
    ·have hmod:ems.toArray.eraseIdxIfInBounds i=(ems.eraseIdx i).toArray:=by
      apply Array.ext';simp only [Array.eraseIdxIfInBounds,List.size_toArray];split
      ·simp
      ·rename_i hh;rw [List.eraseIdx_of_length_le (by omega)]
     simp only [Builtin.delete_,ht,Sem.run_bind,run_underlying hu,Result.andThen_ok,run_getObj_m h4,hcm,g1,run_setObj_m _ h4,hmod,List.getElem?_toArray,List.getElem?_cons_zero,List.getElem?_cons_succ,Sem.run_pure]
    ·refine ⟨L,_,h1,h6,h7,h3,h8,?_,h5.eraseM i⟩
     have hb:=(Array.getElem?_eq_some_iff.1 h4).1
     simp [hb]
 ·rename_i hf
  simp at h;subst h
  obtain ⟨r',g1,g2⟩:=find_run hok hk h5 hf w
  cases r' with
  | some y=>exact g2.elim
  | none =>
    have hsame:{w with heap:=w.heap.setIfInBounds L.blk (.map ems.toArray clk)}=w:=by
     have hb:=(Array.getElem?_eq_some_iff.1 h4)
     obtain ⟨hb1,hb2⟩:=hb
     have:w.heap.setIfInBounds L.blk (.map ems.toArray clk)=w.heap:=by
      apply Array.ext_getElem?
      intro i
      rw [Array.getElem?_setIfInBounds]
      split
      ·rename_i e;subst e;exact h4.symm
      ·rfl
     rw [this]
    refine ⟨w,?_,Eff.refl hH⟩
    simp only [Builtin.delete_,ht,Sem.run_bind,run_underlying hu,Result.andThen_ok,run_getObj_m h4,hcm,g1,run_setObj_m _ h4,hsame,List.getElem?_toArray,List.getElem?_cons_zero,List.getElem?_cons_succ,Sem.run_pure]
theorem mlen_run {w:World} {H:AH} (hH:HR ρ w H) {t ty:Nat} {m v:AV} {cm:Value} {ts:Array TypeId} (ht:ts[0]?=some t) (h:mlenA P t m H=some v) (hm:VRel ρ m cm) :
 ∃vc,(Builtin.len_ ts ty #[cm]).run P w=.ok vc w∧VRel ρ v vc:=by
 unfold mlenA at h
 split at h <;> try (simp at h;done)
 ·rename_i x hT
  have hu:=mT_und (kt:=x.1) (et:=x.2) (by rw [hT])
  simp at h;subst h
  obtain rfl:cm=.map none:=hm
  refine ⟨goInt 0,?_,by exact ⟨rfl,by decide,by decide⟩⟩
  simp only [Builtin.len_,ht,Sem.run_bind,run_underlying hu,Result.andThen_ok,List.getElem?_toArray,List.getElem?_cons_zero,Sem.run_pure]
 ·rename_i x id hT
  have hu:=mT_und (kt:=x.1) (et:=x.2) (by rw [hT])
  split at h <;> try (simp at h;done)
  rename_i clk es ho
  simp at h
  obtain ⟨hle,rfl⟩:=h
  obtain ⟨L,ems,h1,rfl,h3,h4,h5,h6,h7,h8⟩:=mp_blk hH hm ho
  refine ⟨goInt ems.toArray.size,?_,?_⟩
  ·simp only [Builtin.len_,ht,Sem.run_bind,run_underlying hu,Result.andThen_ok,List.getElem?_toArray,List.getElem?_cons_zero,run_getObj_m h4,Sem.run_pure]
  ·have:=h5.length
   refine ⟨?_,by omega,by omega⟩
   simp [goInt,this]
theorem clr_run {w:World} {H H':AH} (hH:HR ρ w H) {t ty:Nat} {x:AV} {cx:Value} {ts:Array TypeId} (ht:ts[0]?=some t) (h:clrA P t x H=some H') (hx:VRel ρ x cx) :
 ∃w',(Builtin.clear_ ts ty #[cx]).run P w=.ok (.tuple #[]) w'∧Eff ρ w H w' ρ H':=by
 unfold clrA at h
 split at h <;> try (simp at h;done)
 ·rename_i e hd
  simp at h;subst h
  obtain rfl:cx=.slice none 0 0:=hx
  refine ⟨w,?_,Eff.refl hH⟩
  simp only [Builtin.clear_,ht,Sem.run_bind,run_underlying (und_sl hd),Result.andThen_ok,List.getElem?_toArray,List.getElem?_cons_zero,Sem.run_pure]
 ·rename_i e id off ver n hd
  split at h <;> try (simp at h;done)
  rename_i z hz
  obtain ⟨L,base,cap,h1,rfl,hb0,hlc,hl9,hver,hcase⟩:=(show SlRel ρ id off ver n cx from hx)
  split at h
  ·subst_vars
   simp at h;subst h
   refine ⟨w,?_,Eff.refl hH⟩
   cases base with
   | none=>simp only [Builtin.clear_,ht,Sem.run_bind,run_underlying (und_sl hd),Result.andThen_ok,List.getElem?_toArray,List.getElem?_cons_zero,Sem.run_pure]
   | some a=>simp only [Builtin.clear_,ht,Sem.run_bind,run_underlying (und_sl hd),Result.andThen_ok,List.getElem?_toArray,List.getElem?_cons_zero,Sem.run_pure]
  ·rename_i hn0
   split at h <;> try (simp at h;done)
   rename_i hc
   obtain ⟨hown,hv,hsz,hzl,hlen,hone⟩:=hc
   simp at h;subst h
   have hrow:=(hH.obj id).row h1 (AObj.owned_live hown)
   have hcs:=hcase (by rw [hrow];exact hv)
   split at hcs
   ·omega
   ·rename_i hnil
    obtain ⟨a,rfl,ha,_,_⟩:=hcs
    obtain rfl:=ha (.inr (by omega))
    obtain ⟨zv,zc,g1,g2,g3⟩:=zero_rel (ρ:=ρ) hz w
    have hzc:zc.length=szT P e:=by rw [←g3.length,hzl]
    have hrl:((List.replicate n z).flatten).length=n * szT P e:=by simp [hzl]
    have hpos:0 < n * szT P e:=Nat.mul_pos (by omega) hsz
    obtain ⟨w',h9,h10⟩:=store_eff (P:=P) hH hown h1 (by simpa using hnil) (g3.rep n) (by rw [hrl];exact hlen)
     (by rw [List.all_eq_true] at hone ⊢;intro s hs;simp only [List.mem_flatten,List.mem_replicate] at hs;obtain ⟨l,⟨_,rfl⟩,hm⟩:=hs;exact hone s hm) (by rw [hrl];exact hpos)
    refine ⟨w',?_,h10⟩
    have hzz:(Builtin.zeroCells zv.cells n).toList=(List.replicate n zc).flatten:=by
     have:=run_fill_range n _ hzc
     have e2:zc.toArray.size=szT P e:=by simpa using hzc
     rw [g2]
     unfold Builtin.zeroCells
     rw [e2]
     rw [e2] at this
     rw [this]
    have hnn:∃n',n=n'+1:=⟨n - 1,by omega⟩
    obtain ⟨n',rfl⟩:=hnn
    simp only [Builtin.clear_,ht,Sem.run_bind,run_underlying (und_sl hd),Result.andThen_ok,List.getElem?_toArray,List.getElem?_cons_zero,g1,hzz,h9,Sem.run_pure]
theorem cop_run {w:World} {H H':AH} (hH:HR ρ w H) {t ty:Nat} {x y v:AV} {cx cy:Value} {ts:Array TypeId} (ht:ts[0]?=some t) (h:copA P t x y H=some (v,H')) (hx:VRel ρ x cx) (hy:VRel ρ y cy) :
 ∃w' vc,(Builtin.copy_ ts ty #[cx,cy]).run P w=.ok vc w'∧VRel ρ v vc∧Eff ρ w H w' ρ H':=by
 unfold copA at h
 split at h <;> try (simp at h;done)
 rename_i e id off ver len hd
 split at h <;> try (simp at h;done)
 rename_i new n hs
 split at h <;> try (simp at h;done)
 rename_i hc
 obtain ⟨hsz,hle⟩:=hc
 obtain ⟨L,base,cap,h1,rfl,hb0,hlc,hl9,hver,hcase⟩:=(show SlRel ρ id off ver len cx from hx)
 obtain ⟨vs,g1,g2,g3,g4,g5⟩:=src_run (P:=P) hH hs hy
 have hf:=g5 w fun _ _ _=>rfl
 have hmin:Nat.min n len=n:=Nat.min_eq_left hle
 have e0:(#[Value.slice base len cap,cy]:Array Value)[0]?=some (.slice base len cap):=rfl
 have e1:(#[Value.slice base len cap,cy]:Array Value)[1]?=some cy:=rfl
 split at h
 ·rename_i hn
  subst hn
  simp only [Option.some.injEq,Prod.mk.injEq] at h
  obtain ⟨rfl,rfl⟩:=h
  have hv0:vs=[]:=List.eq_nil_of_length_eq_zero (by rw [g1];simp)
  subst hv0
  refine ⟨w,goInt 0,?_,⟨rfl,by decide,by decide⟩,Eff.refl hH⟩
  cases base with
  | none=>simp only [Builtin.copy_,ht,e0,e1,Sem.run_bind,run_underlying (und_sl hd),Result.andThen_ok,g3,run_sizeOf' hsz,hmin,hf,Sem.run_pure];rfl
  | some a=>simp only [Builtin.copy_,ht,e0,e1,Sem.run_bind,run_underlying (und_sl hd),Result.andThen_ok,g3,run_sizeOf' hsz,hmin,hf,Sem.run_pure,storeCells];rfl
 ·rename_i hn0
  split at h <;> try (simp at h;done)
  rename_i hc
  obtain ⟨hown,hv,hlen,hone⟩:=hc
  simp only [Option.some.injEq,Prod.mk.injEq] at h
  obtain ⟨rfl,rfl⟩:=h
  have hrow:=(hH.obj id).row h1 (AObj.owned_live hown)
  have hcs:=hcase (by rw [hrow];exact hv)
  split at hcs
  ·omega
  ·rename_i hnil
   obtain ⟨a,rfl,ha,_,_⟩:=hcs
   obtain rfl:=ha (.inr (by omega))
   have hpos:0 < new.length:=by rw [g2.length,g1];exact Nat.mul_pos (by omega) hsz
   obtain ⟨w',h9,h10⟩:=store_eff (P:=P) hH hown h1 (by simpa using hnil) g2 hlen hone hpos
   refine ⟨w',goInt n,?_,?_,h10⟩
   ·simp only [Builtin.copy_,ht,e0,e1,Sem.run_bind,run_underlying (und_sl hd),Result.andThen_ok,g3,run_sizeOf' hsz,hmin,hf,h9,Sem.run_pure]
   ·refine ⟨?_,by omega,by omega⟩
    simp [goInt]
theorem HR.newM {w:World} {H:AH} (hH:HR ρ w H):∃ρ',Eff ρ w H (w.alloc (.map #[] 0)) ρ' (H++[.map 0 []])∧VRel ρ' (.c (.mp H.length)) (.map (some w.heap.size)):=by
 let L:Loc:=⟨w.heap.size,0,0,0,false,false⟩
 obtain ⟨h1,h2⟩:=hH.allocO (.map #[] 0) (.map 0 []) L rfl ⟨L,[],upd_same _ _ _,rfl,rfl,rfl,rfl,alloc_new _ _,.nil⟩
 refine ⟨upd ρ H.length L,⟨h1,h2,fun w0 M hk hm=>⟨hk.allocM _ _,fun i Li hio hLi hni=>?_⟩,by simp,fun i Li _ hLi=>?_⟩,⟨L,_,upd_same _ _ _,rfl,fun _=>rfl⟩⟩
 ·by_cases e:i=H.length
  ·subst e;rw [upd_same] at hLi;simp at hLi;subst hLi
   exact .inr hk.size
  ·rw [upd_ne _ _ e] at hLi
   rw [hg_append,if_neg e] at hio
   exact hm i Li hio hLi hni
 ·have:i≠H.length:=by rintro rfl;rw [hH.fresh _ (Nat.le_refl _)] at hLi;simp at hLi
  rw [upd_ne _ _ this,hLi]
theorem HR.newI {w:World} {H:AH} (hH:HR ρ w H) {m b clk:Nat} (hm:SRel ρ (.mp m) (.map (some b))) :
 ∃ρ',Eff ρ w H (w.alloc (.mapIter (some b) clk #[] clk)) ρ' (H++[.iter m clk [] clk])∧VRel ρ' (.c (.p H.length 0 0)) (.pointer (some ⟨w.heap.size,0,none⟩)):=by
 let L:Loc:=⟨w.heap.size,0,0,0,false,false⟩
 have hst:Stab ρ (upd ρ H.length L):=by
  intro i Li hi
  have:i≠H.length:=by rintro rfl;rw [hH.fresh _ (Nat.le_refl _)] at hi;simp at hi
  exact ⟨Li,by rw [upd_ne _ _ this,hi],.inl rfl⟩
 obtain ⟨h1,h2⟩:=hH.allocO (.mapIter (some b) clk #[] clk) (.iter m clk [] clk) L rfl ⟨L,b,upd_same _ _ _,rfl,rfl,rfl,rfl,SRel.mono hm hst,alloc_new _ _⟩
 refine ⟨upd ρ H.length L,⟨h1,h2,fun w0 M hk hm=>⟨hk.allocI _ _ _ _,fun i Li hio hLi hni=>?_⟩,by simp,fun i Li _ hLi=>?_⟩,⟨L,_,upd_same _ _ _,rfl,Nat.le_refl _,fun _=>⟨rfl,by simp [L],rfl⟩⟩⟩
 ·by_cases e:i=H.length
  ·subst e;rw [upd_same] at hLi;simp at hLi;subst hLi
   exact .inr hk.size
  ·rw [upd_ne _ _ e] at hLi
   rw [hg_append,if_neg e] at hio
   exact hm i Li hio hLi hni
 ·have:i≠H.length:=by rintro rfl;rw [hH.fresh _ (Nat.le_refl _)] at hLi;simp at hLi
  rw [upd_ne _ _ this,hLi]
theorem iter_blk {w:World} {H:AH} {id m since last clk:Nat} {seen:List Nat} {es:List (Nat × AV × AV)} {v:Value} (hH:HR ρ w H) (h:SRel ρ (.p id 0 0) v) (ho:hg H id=.iter m since seen last) (hm:hg H m=.map clk es) :
 ∃(L Lm:Loc) (ems:List MapEntry),ρ id=some L∧L.nil=false∧L.off=0∧L.row=0∧L.vec=false∧v=.pointer (some ⟨L.blk,0,none⟩)∧SRel ρ (.mp m) (.map (some Lm.blk)) ∧
  w.heap[L.blk]?=some (.mapIter (some Lm.blk) since seen.toArray last)∧w.heap[Lm.blk]?=some (.map ems.toArray clk)∧L2 (ERel ρ) es ems:=by
 have hO:=hH.obj id
 rw [ho] at hO
 obtain ⟨L,b,h1,h2,h3,h4,h5,h6,h7⟩:=hO
 obtain ⟨Lm,ems,g1,g2,g3,g4,g5,_⟩:=mp_blk hH h6 hm
 simp only [Value.map.injEq,Option.some.injEq] at g2
 subst g2
 obtain ⟨L',a,k1,k2,k3,k4⟩:=h
 obtain rfl:L=L':=by simpa [h1] using k1
 obtain ⟨_,_,rfl⟩:=k4 h3.symm
 refine ⟨L,Lm,ems,h1,h4,h2,h3,h5,by rw [k2,h2],h6,h7,g4,g5⟩
theorem find_ent {b:Nat} {es:List (Nat × AV × AV)} {ems:List MapEntry} (h:L2 (ERel ρ) es ems) {e:Nat × AV × AV} (hf:(es.find? fun e=>e.1 == b)=some e) :
 ∃c,(ems.find? fun c=>c.born == b)=some c∧ERel ρ e c:=by
 induction h with
 | nil=>simp at hf
 | @cons a c es ems he _ ih =>
   rw [List.find?_cons] at hf ⊢
   rw [he.1]
   cases hc:a.1 == b with
   | true=>rw [hc] at hf;simp only [Option.some.injEq] at hf;subst hf;exact ⟨c,rfl,he⟩
   | false=>rw [hc] at hf;exact ih hf
theorem mop_run {o:Oper} {a:Act} {H H':AH} {vs:List AV} {v:AV} {w:World} (h:mopA P o.op vs H=some (v,H'))
 (hv:L2 (VRel ρ) vs ((opnds o.op).map a.eval)) (hH:HR ρ w H):Come P ρ H w (execOp a.eval o) v H':=by
 obtain ⟨dst,op,ty,pos,after,guard⟩:=o
 simp only at h hv
 unfold mopA at h
 split at h
 ·
  rename_i t
  split at h <;> simp at h
  obtain ⟨rfl,rfl⟩:=h
  obtain ⟨ρ',h1,h2⟩:=hH.newM
  exact ⟨_,ρ',h1,.inl ⟨_,by simp only [execOp,Instr.makeMap,Option.map_none,Sem.run_bind,run_newObj,Result.andThen_ok,Sem.run_pure];rfl,h2⟩⟩
 ·rename_i t r n
  split at h <;> simp at h
  rename_i hT
  obtain ⟨rfl,rfl⟩:=h
  obtain ⟨p,hp⟩:=Option.isSome_iff_exists.1 hT
  have hu:=mT_und (kt:=p.1) (et:=p.2) (by rw [hp])
  obtain ⟨y,hy,hr⟩:=hv.one
  simp only [opnds,Option.toList_some,List.map_cons,List.map_nil,List.cons.injEq,and_true] at hy
  obtain ⟨ρ',h1,h2⟩:=hH.newM
  obtain ⟨hr,_⟩:=hr
  refine ⟨_,ρ',h1,.inl ⟨_,?_,h2⟩⟩
  simp only [execOp,Instr.makeMap,Option.map_some,Sem.run_bind,run_underlying hu,hy,hr,asInt,asIntOf,run_newObj,Result.andThen_ok,Sem.run_pure];rfl
 ·
  rename_i t x y ok m k
  rw [Option.map_eq_some_iff] at h
  obtain ⟨v',h1,h2⟩:=h
  simp only [Prod.mk.injEq] at h2
  obtain ⟨rfl,rfl⟩:=h2
  obtain ⟨cm,ck,hx,h3,h4⟩:=hv.two
  simp only [opnds,List.map_cons,List.map_nil,List.cons.injEq,and_true] at hx
  obtain ⟨rfl,rfl⟩:=hx
  obtain ⟨vc,h5,h6⟩:=look_run hH h1 h3 h4
  exact ⟨w,ρ,Eff.refl hH,.inl ⟨vc,by simp only [execOp,Sem.run_bind,h5,Result.andThen_ok,Sem.run_pure],h6⟩⟩
 ·rename_i t x y z m k v
  rw [Option.map_eq_some_iff] at h
  obtain ⟨v',h1,h2⟩:=h
  simp only [Prod.mk.injEq] at h2
  obtain ⟨rfl,rfl⟩:=h2
  obtain ⟨cm,ck,cv,hx,h3,h4,h5⟩:=hv.three
  simp only [opnds,List.map_cons,List.map_nil,List.cons.injEq,and_true] at hx
  obtain ⟨rfl,rfl,rfl⟩:=hx
  obtain ⟨w',h6,h7⟩:=upd_run hH h1 h3 h4 h5
  exact ⟨w',ρ,h7,.inr ⟨by simp only [execOp,Sem.run_bind,h6,Result.andThen_ok,Sem.run_pure],rfl⟩⟩
 ·rename_i t x y z m k v
  rw [Option.map_eq_some_iff] at h
  obtain ⟨v',h1,h2⟩:=h
  simp only [Prod.mk.injEq] at h2
  obtain ⟨rfl,rfl⟩:=h2
  obtain ⟨cm,ck,cv,hx,h3,h4,h5⟩:=hv.three
  simp only [opnds,List.map_cons,List.map_nil,List.cons.injEq,and_true] at hx
  obtain ⟨rfl,rfl,rfl⟩:=hx
  obtain ⟨w',h6,h7⟩:=upd_run hH h1 h3 h4 h5
  exact ⟨w',ρ,h7,.inr ⟨by simp only [execOp,Sem.run_bind,h6,Result.andThen_ok,Sem.run_pure],rfl⟩⟩
 ·
  rename_i as ts m k
  rw [Option.bind_eq_some_iff] at h
  obtain ⟨t,ht,h⟩:=h
  rw [Option.map_eq_some_iff] at h
  obtain ⟨v',h1,h2⟩:=h
  simp only [Prod.mk.injEq] at h2
  obtain ⟨rfl,rfl⟩:=h2
  obtain ⟨cm,ck,hx,h3,h4⟩:=hv.two
  obtain ⟨w',h5,h6⟩:=del_run (ty:=ty) hH ht h1 h3 h4
  have has:#[cm,ck]=as.map a.eval:=by apply Array.ext';simp only [opnds] at hx;rw [Array.toList_map,hx]
  refine ⟨w',ρ,h6,.inl ⟨.tuple #[],?_,[],rfl,.nil⟩⟩
  rw [has] at h5
  simp only [execOp,resolve,Sem.run_bind,Sem.run_pure,Result.andThen_ok,invoke,builtin,h5]
 ·rename_i as ts x
  rw [Option.bind_eq_some_iff] at h
  obtain ⟨t,ht,h⟩:=h
  rw [Option.map_eq_some_iff] at h
  obtain ⟨v',h1,h2⟩:=h
  simp only [Prod.mk.injEq] at h2
  obtain ⟨rfl,rfl⟩:=h2
  obtain ⟨cm,hx,h3⟩:=hv.one
  obtain ⟨w',h5,h6⟩:=clr_run (ty:=ty) hH ht h1 h3
  have has:#[cm]=as.map a.eval:=by apply Array.ext';simp only [opnds] at hx;rw [Array.toList_map,hx]
  refine ⟨w',ρ,h6,.inl ⟨.tuple #[],?_,[],rfl,.nil⟩⟩
  rw [has] at h5
  simp only [execOp,resolve,Sem.run_bind,Sem.run_pure,Result.andThen_ok,invoke,builtin,h5]
 ·
  rename_i as ts x y
  rw [Option.bind_eq_some_iff] at h
  obtain ⟨t,ht,h1⟩:=h
  obtain ⟨cm,ck,hx,h3,h4⟩:=hv.two
  obtain ⟨w',vc,h5,h6,h7⟩:=cop_run (ty:=ty) hH ht h1 h3 h4
  have has:#[cm,ck]=as.map a.eval:=by apply Array.ext';simp only [opnds] at hx;rw [Array.toList_map,hx]
  refine ⟨w',ρ,h7,.inl ⟨vc,?_,h6⟩⟩
  rw [has] at h5
  simp only [execOp,resolve,Sem.run_bind,Sem.run_pure,Result.andThen_ok,invoke,builtin,h5]
 ·rename_i as ts x
  rw [Option.bind_eq_some_iff] at h
  obtain ⟨t,ht,h⟩:=h
  rw [Option.map_eq_some_iff] at h
  obtain ⟨v',h1,h2⟩:=h
  simp only [Prod.mk.injEq] at h2
  obtain ⟨rfl,rfl⟩:=h2
  obtain ⟨cm,hx,h3⟩:=hv.one
  obtain ⟨vc,h5,h6⟩:=mlen_run (ty:=ty) hH ht h1 h3
  have has:#[cm]=as.map a.eval:=by apply Array.ext';simp only [opnds] at hx;rw [Array.toList_map,hx]
  refine ⟨w,ρ,Eff.refl hH,.inl ⟨vc,?_,h6⟩⟩
  rw [has] at h5
  simp only [execOp,resolve,Sem.run_bind,Sem.run_pure,Result.andThen_ok,invoke,builtin,h5]
 ·
  rename_i t x id
  unfold rngA at h
  split at h <;> try (simp at h;done)
  rename_i clk es ho
  split at h <;> simp at h
  rename_i hT
  obtain ⟨rfl,rfl⟩:=h
  obtain ⟨p,hp⟩:=Option.isSome_iff_exists.1 hT
  have hu:=mT_und (kt:=p.1) (et:=p.2) (by rw [hp])
  obtain ⟨y,hy,hr⟩:=hv.one
  simp only [opnds,List.map_cons,List.map_nil,List.cons.injEq,and_true] at hy
  obtain ⟨L,ems,h1,h2,h3,h4,h5,_⟩:=mp_blk hH hr ho
  obtain ⟨ρ',g1,g2⟩:=hH.newI (m:=id) (b:=L.blk) (clk:=clk) (by rw [←h2];exact hr)
  refine ⟨_,ρ',g1,.inl ⟨_,?_,g2⟩⟩
  simp only [execOp,hy,h2,Instr.range,Sem.run_bind,run_underlying hu,Result.andThen_ok,run_getObj_m h4,Sem.run_pure,run_newObj];rfl
 ·
  rename_i x id
  rw [Option.map_eq_some_iff] at h
  obtain ⟨v',h1,h2⟩:=h
  simp only [Prod.mk.injEq] at h2
  obtain ⟨rfl,rfl⟩:=h2
  unfold entA at h1
  split at h1 <;> try (simp at h1;done)
  rename_i m since seen last ho
  split at h1 <;> try (simp at h1;done)
  rename_i clk es hm
  split at h1 <;> try (simp at h1;done)
  rename_i hcl
  subst hcl
  split at h1 <;> try (simp at h1;done)
  rename_i b hb
  rw [Option.map_eq_some_iff] at h1
  obtain ⟨e,hf,rfl⟩:=h1
  obtain ⟨y,hy,hr⟩:=hv.one
  simp only [opnds,List.map_cons,List.map_nil,List.cons.injEq,and_true] at hy
  obtain ⟨L,Lm,ems,g1,g2,g3,g4,g5,g6,g7,g8,g9,g10⟩:=iter_blk hH hr ho hm
  obtain ⟨c,k1,k2⟩:=find_ent g10 hf
  refine ⟨w,ρ,Eff.refl hH,.inl ⟨.tuple #[c.key,c.val],?_,[c.key,c.val],rfl,.cons k2.2.1 (.cons k2.2.2 .nil)⟩⟩
  have e1:seen.toArray.back?=some b:=by rw [←hb];simp
  have e2:ems.toArray.find? (fun c=>c.born == b)=some c:=by rw [←k1];simp
  have e3:(getObj L.blk).run P w=.ok (.mapIter (some Lm.blk) since seen.toArray clk) w:=by simp [getObj,Sem.run,g8]
  simp only [execOp,hy,g6,Instr.entry,Sem.run_bind,e3,Result.andThen_ok,e1,run_getObj_m g9,bne_self_eq_false,Bool.false_eq_true,if_false,e2,Sem.run_pure]
 ·simp at h
theorem mop_len {op:Op} {H H':AH} {vs:List AV} {v:AV} (h:mopA P op vs H=some (v,H')):H.length≤H'.length:=by
 have hu:∀{t:Nat} {m k x:AV} {H1:AH},updA P t m k x H=some H1→H.length≤H1.length:=by
  intro t m k x H1 h
  unfold updA at h
  split at h <;> try (simp at h;done)
  split at h <;> try (simp at h;done)
  split at h <;> try (simp at h;done)
  split at h <;> simp at h <;> subst h <;> simp
 have hd:∀{t:Nat} {m k:AV} {H1:AH},delA P t m k H=some H1→H.length≤H1.length:=by
  intro t m k H1 h
  unfold delA at h
  split at h <;> try (simp at h;done)
  split at h <;> try (simp at h;done)
  split at h <;> try (simp at h;done)
  split at h <;> simp at h <;> subst h <;> simp
 have hc:∀{t:Nat} {x:AV} {H1:AH},clrA P t x H=some H1→H.length≤H1.length:=by
  intro t x H1 h
  unfold clrA at h
  split at h <;> try (simp at h;done)
  ·simp at h;subst h;exact Nat.le_refl _
  ·split at h <;> try (simp at h;done)
   split at h
   ·simp at h;subst h;exact Nat.le_refl _
   ·split at h <;> simp at h
    subst h;simp
 unfold mopA at h
 split at h
 ·split at h <;> simp at h
  obtain ⟨_,rfl⟩:=h;simp
 ·split at h <;> simp at h
  obtain ⟨_,rfl⟩:=h;simp
 ·rw [Option.map_eq_some_iff] at h;obtain ⟨_,_,h2⟩:=h;simp only [Prod.mk.injEq] at h2;rw [h2.2];exact Nat.le_refl _
 ·rw [Option.map_eq_some_iff] at h;obtain ⟨_,h1,h2⟩:=h;simp only [Prod.mk.injEq] at h2;obtain ⟨_,rfl⟩:=h2;exact hu h1
 ·rw [Option.map_eq_some_iff] at h;obtain ⟨_,h1,h2⟩:=h;simp only [Prod.mk.injEq] at h2;obtain ⟨_,rfl⟩:=h2;exact hu h1
 ·rw [Option.bind_eq_some_iff] at h;obtain ⟨_,_,h⟩:=h;rw [Option.map_eq_some_iff] at h;obtain ⟨_,h1,h2⟩:=h;simp only [Prod.mk.injEq] at h2;obtain ⟨_,rfl⟩:=h2;exact hd h1
 ·rw [Option.bind_eq_some_iff] at h;obtain ⟨_,_,h⟩:=h;rw [Option.map_eq_some_iff] at h;obtain ⟨_,h1,h2⟩:=h;simp only [Prod.mk.injEq] at h2;obtain ⟨_,rfl⟩:=h2;exact hc h1
 ·rw [Option.bind_eq_some_iff] at h
  obtain ⟨_,_,h⟩:=h
  unfold copA at h
  repeat' split at h
  all_goals simp at h
  all_goals obtain ⟨_,rfl⟩:=h
  all_goals simp
 ·rw [Option.bind_eq_some_iff] at h;obtain ⟨_,_,h⟩:=h;rw [Option.map_eq_some_iff] at h;obtain ⟨_,_,h2⟩:=h;simp only [Prod.mk.injEq] at h2;rw [h2.2];exact Nat.le_refl _
 ·unfold rngA at h
  split at h <;> try (simp at h;done)
  split at h <;> simp at h
  obtain ⟨_,rfl⟩:=h;simp
 ·rw [Option.map_eq_some_iff] at h;obtain ⟨_,_,h2⟩:=h;simp only [Prod.mk.injEq] at h2;rw [h2.2];exact Nat.le_refl _
 ·simp at h
end Go.Am
/- The runs: 'arun', and calls of functions whose contracts a table holds. -/
namespace Go.Am
inductive Ent where
 | pu (s:List AV→Option AV)
 | fp (s:List AV→AH→Option (AV × AH))
 | fq (s:List AV→AH→Option AV)
 | fr (s:List AV→AH→Option (AV→AH→Prop))
 | lo (n:Nat)
abbrev Tab:=List (Nat × Ent)
def look:Tab→Nat→Option Ent
 | [],_=>none
 | (g,e)::r,f=>if g=f then some e else look r f
def lo:Tab→Nat
 | []=>0
 | (_,.lo n)::_=>n
 | _::r=>lo r
def callA (tab:Tab) (f:Nat) (args:List AV) (H:AH):Option (AV × AH) :=
 match look tab f with
 | some (.pu s)=>(s args).map fun v=>(v,H)
 | some (.fp s)=>s args H
 | some (.fq s)=>(s args H).map fun v=>(v,H)
 | _=>none
def capV (c:Nat × Nat × Nat):AV:=.c (.p c.1 c.2.1 c.2.2)
def astep (P:Program) (tab:Tab) (op:Op) (vs:List AV) (H:AH):Option (AV × AH) :=
 match op,vs with
 | .call ⟨.value _,_,_⟩,.c (.f fn cs)::args=>callA tab fn (args++cs.map capV) H
 | .call ⟨.value _,_,_⟩,_=>none
 | .call ⟨.builtin .append,_,ts⟩,vs=>appA P ts vs H
 | .convert s d _,[.c (.sl i o v n)]=>(cvS P s d (.c (.sl i o v n)) H).map fun v=>(v,H)
 | .convert s d _,[.c .nils]=>(cvS P s d (.c .nils) H).map fun v=>(v,H)
 | op,vs =>
   if isM op vs=true then mopA P op vs H else
   match qop P op vs ((touch op vs).map (hg H)) with
   | some v=>some (v,H)
   | none=>eop P op vs H
def mayS (tab:Tab) (op:Op) (vs:List AV) (H:AH):Option (AV→AH→Prop) :=
 match op,vs with
 | .call ⟨.value _,_,_⟩,.c (.f fn cs)::args =>
   match look tab fn with
   | some (.fr s)=>s (args++cs.map capV) H
   | _=>none
 | op,vs=>(itS op vs H).map fun l v H'=>(v,H')∈l
inductive Tc where
 | no
 | ld (id off n:Nat)
 | st (id off n:Nat)
 | mk
 | rd
 | bar
 | cl (H H':AH)
def slotOf:Operand→Option Nat
 | .tmp t=>some t
 | _=>none
def qk:Op→Bool
 | .move _ | .assign _ | .pick _ _ _ | .build _ _ | .nilCheck _ | .binOp _ _ _ _ _ | .unOp _ _ _ | .convert _ _ _ | .makeFunc _ _ _ | .fieldAddr _ _ _ | .field _ _ _
 | .indexAddr _ _ _ | .index _ _ _ | .slice _ _ _ _ _ | .extract _ _=>true
 | .call ⟨.builtin .min,_,_⟩ | .call ⟨.builtin .max,_,_⟩=>true
 | _=>false
def tcM:List AV→Tc
 | [.c (.mp _)]=>.bar
 | [.c .nilm]=>.bar
 | _=>.no
def tcL (n:Nat):List AV→Tc
 | [.c (.p id off _)]=>.ld id off n
 | _=>.bar
def tcS (n:Nat):List AV→Tc
 | [.c (.p id off _),_]=>.st id off n
 | _=>.bar
def tcC (tab:Tab):List AV→Tc
 | .c (.f fn _)::_ =>
   match look tab fn with
   | some (.pu _)=>.no
   | some (.fq _)=>.rd
   | _=>.bar
 | _=>.bar
def tcV:List AV→Tc
 | [.c (.sl _ _ _ _)]=>.bar
 | [.c .nils]=>.bar
 | _=>.no
def tcof (P:Program) (tab:Tab) (op:Op) (vs:List AV):Tc :=
 match op with
 | .load t _=>tcL (szT P t) vs
 | .store t _ _=>tcS (szT P t) vs
 | .alloc _ | .box _ _ | .buildSlice _ _ _ | .makeSlice _ _ _=>.mk
 | .call ⟨.value _,_,_⟩=>tcC tab vs
 | .convert _ _ _=>tcV vs
 | .call ⟨.builtin .len,_,_⟩=>tcM vs
 | op=>if qk op then .no else .bar
def tcx (t:Tc) (H H':AH):Tc :=
 match t with
 | .bar | .cl _ _=>.cl H H'
 | t=>t
def clash:Tc→Tc→Prop
 | .no,_=>False
 | _,.no=>False
 | .bar,_=>True
 | _,.bar=>True
 | .cl A B,.ld i _ _=>¬(hg B i=hg A i∧(hg A i).live=true)
 | .ld i _ _,.cl A B=>¬(hg B i=hg A i∧(hg A i).live=true)
 | .cl _ _,_=>True
 | _,.cl _ _=>True
 | .mk,.rd=>True
 | .rd,.mk=>True
 | .st _ _ _,.rd=>True
 | .rd,.st _ _ _=>True
 | .st i a n,.st j b m=>i=j∧a < b+m∧b < a+n
 | .st i a n,.ld j b m=>i=j∧a < b+m∧b < a+n
 | .ld i a n,.st j b m=>i=j∧a < b+m∧b < a+n
 | _,_=>False
def ups (full:Array Oper) (k:Nat):List Nat :=
 match full[k]? with
 | some o=>(o.after.toList.filter fun e=>Region.binds .any e).map (·.on)
 | none=>[]
def ancs (full:Array Oper):Nat→List Nat→List Nat
 | 0,l=>l
 | k+1,l=>ancs full k (if l.contains k then ups full k++l else l)
def tied (full:Array Oper) (i j:Nat):Bool:=(ancs full (i+1) [i]).contains j
def seesD (full:Array Oper) (d:Nat) (o:Oper):Bool :=
 ((opnds o.op).filterMap slotOf++(match o.guard with
 | some (j,_)=>((full[j]?).bind (·.dst)).toList
 | none=>[])).contains d
def loose (full:Array Oper) (i j:Nat):Bool :=
 match full[i]? with
 | some o =>
   match o.dst,o.op with
   | some d,.alloc _=>(List.range full.size).all fun k =>
     match full[k]? with
     | some o'=>!seesD full d o' || tied full k j
     | none=>false
   | _,_=>false
 | none=>false
def nvw (A B:AH):Prop:=∀i,(hg B i).live=true→(hg B i).owned=false→hg A i=hg B i
def okE (full:Array Oper) (i j:Nat) (t u:Tc):Prop :=
 match t,u with
 | .mk,.cl A B=>¬(loose full i j=true∧nvw A B)→tied full i j=true
 | _,_=>tied full i j=true
def okT (full:Array Oper) (i:Nat) (t:Tc):List (Nat × Tc)→Prop
 | []=>True
 | (j,u)::r=>(clash t u→okE full i j t u)∧okT full i t r
def psh (i:Nat) (t:Tc) (l:List (Nat × Tc)):List (Nat × Tc) :=
 match t with
 | .no=>l
 | t=>(i,t)::l
inductive It where
 | c (c:Code)
 | ops (full:Array Oper) (l:List Oper)
 | dr (full:Array Oper) (l:List Oper) (i:Nat) (log:List (Nat × Tc))
 | blk (id:Nat)
 | back (I:Fr→AH→Prop)
 | scp
 | scj (l:Nat) (J:Fr→AH→Prop)
def cwt:Code→Nat
 | .region _ ops _=>ops.size+3
 | .seq a b=>cwt a+cwt b+1
 | .cond _ a b=>cwt a+cwt b+1
 | .block _ c=>cwt c+2
 | .loop c=>cwt c+2
 | .scope c=>cwt c+3
 | _=>1
def It.wt:It→Nat
 | .c x=>cwt x
 | .ops _ l=>l.length+1
 | .dr _ l _ _=>l.length+1
 | _=>1
def kwt (k:List It):Nat:=(k.map It.wt).sum
def popB (id:Nat):List It→Option (List It)
 | []=>none
 | .blk i::k=>if i=id then some k else popB id k
 | _::k=>popB id k
def popJ (l:Nat):List It→Option (Fr→AH→Prop)
 | []=>none
 | .scp::_=>none
 | .scj l' J::_=>if l'=l then some J else none
 | _::k=>popJ l k
theorem popB_wt {id:Nat} {k k':List It} (h:popB id k=some k'):kwt k' < kwt k+1:=by
 induction k with
 | nil=>simp [popB] at h
 | cons x k ih =>
   cases x <;> simp only [popB] at h
   case blk i =>
    split at h
    ·simp at h;subst h;simp [kwt,It.wt];omega
    ·have:=ih h;simp [kwt,It.wt] at this ⊢;omega
   all_goals (have:=ih h;simp [kwt] at this ⊢;omega)
def gval (full:Array Oper) (fr:Fr) (j:Nat):Option (Option Bool) :=
 match (full[j]?).bind (·.dst) with
 | none=>some none
 | some d=>match get fr d with
   | .c (.b q)=>some (some q)
   | .c .und=>some none
   | _=>none
def putA (d:Option Nat) (v:AV) (fr:Fr):Fr :=
 match d with
 | some d=>(d,v)::fr
 | none=>fr
def Wk (n:Nat) (fr:Fr) (H:AH) (S:Fr × AH):Prop :=
 ∀(ρ:Ro) (w:World) (tm:Nat→Value),(∀s,VRel ρ (get fr s) (tm s))→HR ρ w H →
  ∃ρ',(∀s,VRel ρ' (get S.1 s) (tm s))∧HR ρ' w S.2∧(∀i L,(hg S.2 i).owned=true→ρ' i=some L→L.nil=false→∃j,(hg H j).owned=true∧ρ j=some L)∧(∀i,i < n→ρ' i=ρ i)
set_option linter.unusedVariables false in
def arun (P:Program) (tab:Tab) (k:List It) (fr:Fr) (H:AH) (Q:Fr→AH→Prop):Prop :=
 match k with
 | []=>Q fr H
 | .blk _::k=>arun P tab k fr H Q
 | .back I::_=>I fr H
 | .scp::k=>arun P tab k fr H Q
 | .scj _ _::k=>arun P tab k fr H Q
 | .ops _ []::k=>arun P tab k fr H Q
 | .ops full (o::os)::k =>
   match o.guard with
   | none =>
     match astep P tab o.op ((opnds o.op).map (ev fr)) H with
     | some (v,H')=>arun P tab (.ops full os::k) (putA o.dst v fr) H' Q
     | none =>
       match mayS tab o.op ((opnds o.op).map (ev fr)) H with
       | some R=>∀v H',R v H'→arun P tab (.ops full os::k) (putA o.dst v fr) H' Q
       | none=>False
   | some (j,want) =>
     match gval full fr j with
     | some (some q) =>
       if q=want then
        match astep P tab o.op ((opnds o.op).map (ev fr)) H with
        | some (v,H')=>arun P tab (.ops full os::k) (putA o.dst v fr) H' Q
        | none=>False
       else arun P tab (.ops full os::k) (putA o.dst (.c .und) fr) H Q
     | some none=>arun P tab (.ops full os::k) (putA o.dst (.c .und) fr) H Q
     | none=>False
 | .dr _ [] _ _::k=>arun P tab k fr H Q
 | .dr full (o::os) i log::k =>
   match o.guard with
   | none =>
     match astep P tab o.op ((opnds o.op).map (ev fr)) H with
     | some (v,H')=>okT full i (tcx (tcof P tab o.op ((opnds o.op).map (ev fr))) H H') log∧arun P tab (.dr full os (i+1) (psh i (tcx (tcof P tab o.op ((opnds o.op).map (ev fr))) H H') log)::k) (putA o.dst v fr) H' Q
     | none=>False
   | some (j,want) =>
     match gval full fr j with
     | some (some q) =>
       if q=want then
        match astep P tab o.op ((opnds o.op).map (ev fr)) H with
        | some (v,H')=>okT full i (tcx (tcof P tab o.op ((opnds o.op).map (ev fr))) H H') log∧arun P tab (.dr full os (i+1) (psh i (tcx (tcof P tab o.op ((opnds o.op).map (ev fr))) H H') log)::k) (putA o.dst v fr) H' Q
        | none=>False
       else arun P tab (.dr full os (i+1) log::k) (putA o.dst (.c .und) fr) H Q
     | some none=>arun P tab (.dr full os (i+1) log::k) (putA o.dst (.c .und) fr) H Q
     | none=>False
 | .c .skip::k=>arun P tab k fr H Q
 | .c (.region _ ops false)::k=>arun P tab (.ops ops ops.toList::k) fr H Q
 | .c (.region _ ops true)::k=>arun P tab (.dr ops ops.toList 0 []::k) fr H Q
 | .c (.seq a b)::k=>arun P tab (.c a::.c b::k) fr H Q
 | .c (.cond x a b)::k =>
   match ev fr x with
   | .c (.b q)=>if q=true then arun P tab (.c a::k) fr H Q else arun P tab (.c b::k) fr H Q
   | .c .qq=>arun P tab (.c a::k) fr H Q∧arun P tab (.c b::k) fr H Q
   | _=>False
 | .c (.block id c)::k=>arun P tab (.c c::.blk id::k) fr H Q
 | .c (.loop c)::k=>∃(ι:Type) (F:ι→Fr × AH) (μ:ι→Nat) (i0:ι),Wk (lo tab) fr H (F i0) ∧
    ∀i,arun P tab (.c c::.back (fun fr H=>∃j,μ j < μ i∧Wk (lo tab) fr H (F j))::k) (F i).1 (F i).2 Q
 | .c (.exit id)::k =>
   match h:popB id k with
   | some k'=>arun P tab k' fr H Q
   | none=>False
 | .c (.label _)::k=>arun P tab k fr H Q
 | .c (.scope c)::k=>arun P tab (.c c::.scp::k) fr H Q∨∃(l:Nat) (rest:Code) (J:Fr→AH→Prop),findLabel c l=some rest∧arun P tab (.c c::.scj l J::k) fr H Q ∧
    ∃_:cwt rest≤cwt c,∀fr H,J fr H→arun P tab (.c rest::.scp::k) fr H Q
 | .c (.goto l)::k =>
   match popJ l k with
   | some J=>J fr H
   | none=>False
 | .c .ret::_=>Q fr H
 | .c _::_=>False
termination_by kwt k
decreasing_by
 all_goals simp_wf
 all_goals first
  | (simp [kwt,It.wt,cwt];done)
  | (simp [kwt,It.wt,cwt];omega)
  | (have hh:=popB_wt ‹_›;simp [kwt,It.wt,cwt] at hh ⊢;omega)
end Go.Am
