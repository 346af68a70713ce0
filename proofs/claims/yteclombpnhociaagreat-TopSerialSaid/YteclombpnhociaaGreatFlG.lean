/- Rows of things: cells of a list, one behind the other; slices that are read. -/
import Derived.Test.YteclombpnhociaaGreatTy
set_option maxRecDepth 100000
set_option maxHeartbeats 8000000
namespace Go.Proofs.YteclombpnhociaaGreat
open Go.Am
set_option linter.unusedSimpArgs false
set_option linter.unusedVariables false
noncomputable section
section
variable {α:Type} {f:α→List Sc} {w:Nat}
theorem fm_len (h:∀x,(f x).length=w):∀L:List α,(L.flatMap f).length=L.length * w
 | []=>by simp
 | x::L=>by rw [List.flatMap_cons,List.length_append,fm_len h L,h x,List.length_cons,Nat.add_mul,Nat.one_mul,Nat.add_comm]
theorem fm_drop (h:∀x,(f x).length=w):∀(L:List α) (k:Nat),(L.flatMap f).drop (k * w)=(L.drop k).flatMap f
 | [],k=>by simp
 | x::L,0=>by simp
 | x::L,k+1=>by
   rw [List.flatMap_cons,List.drop_succ_cons,←fm_drop h L k]
   have e:(k+1) * w=(f x).length+k * w:=by rw [h x,Nat.add_mul,Nat.one_mul,Nat.add_comm]
   rw [e,←List.drop_drop,List.drop_left]
theorem fm_get (h:∀x,(f x).length=w) {L:List α} {k:Nat} {x:α} (hx:L[k]?=some x):((L.flatMap f).drop (k * w)).take w=f x:=by
 rw [fm_drop h]
 have hk:k < L.length:=by
  rcases Nat.lt_or_ge k L.length with h | h
  ·exact h
  ·rw [List.getElem?_eq_none h] at hx;simp at hx
 rw [List.drop_eq_getElem_cons hk,List.flatMap_cons]
 rw [List.getElem?_eq_getElem hk] at hx
 simp only [Option.some.injEq] at hx
 rw [hx,←h x,List.take_left]
theorem fm_cell (h:∀x,(f x).length=w) {L:List α} {k i:Nat} {x:α} (hx:L[k]?=some x) (hi:i < w):(L.flatMap f).getD (k * w+i) .any=(f x).getD i .any:=by
 have e:=fm_get h hx
 rw [←e,List.getD_eq_getElem?_getD,List.getD_eq_getElem?_getD,List.getElem?_take_of_lt hi,List.getElem?_drop]
theorem fm_le (h:∀x,(f x).length=w) {L:List α} {k:Nat} (hk:k < L.length):k * w+w≤(L.flatMap f).length:=by
 rw [fm_len h]
 have:(k+1) * w≤L.length * w:=Nat.mul_le_mul_right _ hk
 rw [Nat.add_mul,Nat.one_mul] at this
 exact this
theorem fm_app {L M:List α}:(L++M).flatMap f=L.flatMap f++M.flatMap f:=List.flatMap_append
end
def decN {α:Type} (w:Nat) (dc:List Sc→Option α):Nat→List Sc→Option (List α)
 | 0,_=>some []
 | n+1,cs =>
   match dc (cs.take w),decN w dc n (cs.drop w) with
   | some a,some l=>some (a::l)
   | _,_=>none
theorem decN_enc {α:Type} {w:Nat} {dc:List Sc→Option α} {f:α→List Sc} (h:∀x,(f x).length=w) (hd:∀x,dc (f x)=some x):∀L:List α,decN w dc L.length (L.flatMap f)=some L
 | []=>rfl
 | x::L=>by
   simp only [List.length_cons,decN,List.flatMap_cons]
   rw [←h x,List.take_left,List.drop_left,hd,h x,decN_enc h hd L]
theorem decN_dec {α:Type} {w:Nat} {dc:List Sc→Option α} {f:α→List Sc} (hd:∀cs x,dc cs=some x→cs=f x):∀(n:Nat) (cs:List Sc) (L:List α),cs.length=n * w→decN w dc n cs=some L→L.length=n∧cs=L.flatMap f:=by
 intro n
 induction n with
 | zero=>intro cs L h1 h2;simp [decN] at h2;subst h2;exact ⟨rfl,by simpa using h1⟩
 | succ n ih =>
   intro cs L h1 h2
   simp only [decN] at h2
   split at h2
   ·rename_i a l e1 e2
    simp only [Option.some.injEq] at h2
    subst h2
    obtain ⟨g1,g2⟩:=ih _ _ (by rw [List.length_drop,h1,Nat.add_mul,Nat.one_mul];omega) e2
    refine ⟨by simp [g1],?_⟩
    rw [List.flatMap_cons,←hd _ _ e1,←g2,List.take_append_drop]
   ·simp at h2
def slD {α:Type} (w:Nat) (dc:List Sc→Option α) (H:AH):Sc→Option (List α)
 | .nils=>some []
 | .sl id 0 v n=>if v=(hg H id).row∧(hg H id).cells.length=n * w then decN w dc n (hg H id).cells else none
 | _=>none
theorem slD_of {α:Type} {w:Nat} {dc:List Sc→Option α} {f:α→List Sc} (h:∀x,(f x).length=w) (hd:∀x,dc (f x)=some x) {H:AH} {id v n:Nat} {L:List α} (hv:v=(hg H id).row) (hn:n=L.length) (hc:(hg H id).cells=L.flatMap f):slD w dc H (.sl id 0 v n)=some L:=by
 subst hn
 simp only [slD,hv,hc,fm_len h,and_self,if_true]
 exact decN_enc h hd L
theorem slD_inv {α:Type} {w:Nat} {dc:List Sc→Option α} {f:α→List Sc} (hd:∀cs x,dc cs=some x→cs=f x) {H:AH} {x:Sc} {L:List α} (h:slD w dc H x=some L):(x=.nils∧L=[])∨∃id v,x=.sl id 0 v L.length∧v=(hg H id).row∧(hg H id).cells=L.flatMap f:=by
 unfold slD at h
 split at h
 ·simp at h;exact .inl ⟨rfl,h⟩
 ·split at h
  ·rename_i id v n hc
   obtain ⟨e1,e2⟩:=decN_dec hd _ _ _ hc.2 h
   exact .inr ⟨id,v,by rw [e1],hc.1,e2⟩
  ·simp at h
 ·simp at h
def encU (x:BitVec 64):List Sc:=[.u x]
def dcU:List Sc→Option (BitVec 64)
 | [.u x]=>some x
 | _=>none
theorem dcU_e (x:BitVec 64):dcU (encU x)=some x:=rfl
theorem dcU_d (cs:List Sc) (x:BitVec 64) (h:dcU cs=some x):cs=encU x:=by unfold dcU at h;split at h <;> simp_all [encU]
theorem encU_l (x:BitVec 64):(encU x).length=1:=rfl
def encI (x:Int):List Sc:=[.i x]
def dcI:List Sc→Option Int
 | [.i x]=>some x
 | _=>none
theorem dcI_e (x:Int):dcI (encI x)=some x:=rfl
theorem dcI_d (cs:List Sc) (x:Int) (h:dcI cs=some x):cs=encI x:=by unfold dcI at h;split at h <;> simp_all [encI]
theorem encI_l (x:Int):(encI x).length=1:=rfl
def encB (x:Bool):List Sc:=[.b x]
theorem fm1 {α:Type} {f:α→List Sc} {g:α→Sc} (h:∀x,f x=[g x]) {L:List α} {k:Nat} {x:α} (hx:L[k]?=some x):(L.flatMap f).getD k .any=g x:=by
 have e:=fm_cell (f:=f) (w:=1) (i:=0) (fun y=>by rw [h y];rfl) hx (by decide)
 rw [Nat.mul_one,Nat.add_zero] at e
 rw [e,h x];rfl
theorem fit_rows {α:Type} {ks:List K} {f:α→List Sc} {p:α→Prop} (hk:∀cs,L2 FitK cs ks→∃x,cs=f x∧p x):∀(n:Nat) (cs:List Sc),L2 FitK cs (List.replicate n ks).flatten→∃L:List α,L.length=n∧cs=L.flatMap f∧∀x∈L,p x:=by
 intro n
 induction n with
 | zero=>intro cs h;simp only [List.replicate_zero,List.flatten_nil] at h;obtain rfl:=fit_nil h;exact ⟨[],rfl,rfl,by simp⟩
 | succ n ih =>
   intro cs h
   rw [List.replicate_succ,List.flatten_cons] at h
   have split:∀(a b:List K) (cs:List Sc),L2 FitK cs (a++b)→∃c d,cs=c++d∧L2 FitK c a∧L2 FitK d b:=by
    intro a
    induction a with
    | nil=>intro b cs h;exact ⟨[],cs,rfl,.nil,h⟩
    | cons k a ih =>
      intro b cs h
      obtain ⟨s,r,rfl,h1,h2⟩:=fit_cons h
      obtain ⟨c,d,rfl,h3,h4⟩:=ih b r h2
      exact ⟨s::c,d,rfl,.cons h1 h3,h4⟩
   obtain ⟨c,d,rfl,h1,h2⟩:=split _ _ _ h
   obtain ⟨x,rfl,hx⟩:=hk c h1
   obtain ⟨L,h3,rfl,h4⟩:=ih d h2
   exact ⟨x::L,by simp [h3],by rw [List.flatMap_cons],by simpa using ⟨hx,h4⟩⟩
theorem sig_row {α:Type} {ks:List K} {f:α→List Sc} {w:Nat} {dc:List Sc→Option α} {p:α→Prop} (hk:∀cs,L2 FitK cs ks→∃x,cs=f x∧p x) (hw:∀x,(f x).length=w) (hd:∀x,dc (f x)=some x) {ps:List Par} {avs:List AV} {H:AH}
 (h:SigA (.sl ks::ps) avs H):∃x r,avs=.c x::r∧SigA ps r H∧∃L:List α,slD w dc H x=some L∧(∀x∈L,p x)∧L.length≤9223372036854775807:=by
 obtain ⟨r,hr,rfl | ⟨id,n,rfl,h1,h2,h3,h4,h5,h6⟩⟩:=sig_sl h
 ·exact ⟨_,r,rfl,hr,[],rfl,by simp,by simp⟩
 ·obtain ⟨L,e1,e2,e3⟩:=fit_rows hk n _ h6
  exact ⟨_,r,rfl,hr,L,slD_of hw hd h2.symm e1.symm e2,e3,by omega⟩
end
end Go.Proofs.YteclombpnhociaaGreat
set_option maxRecDepth 100000
set_option maxHeartbeats 8000000
namespace Go.Proofs.YteclombpnhociaaGreat
open Go.Am
set_option linter.unusedSimpArgs false
set_option linter.unusedVariables false
noncomputable section
section
variable {α:Type} {f:α→List Sc} {w:Nat}
theorem fm_split (h:∀x,(f x).length=w) {L:List α} {k:Nat} {x:α} (hx:L[k]?=some x):∃P Q,L.flatMap f=P++f x++Q∧P.length=k * w∧∀y,(L.set k y).flatMap f=P++f y++Q:=by
 have hk:k < L.length:=by
  rcases Nat.lt_or_ge k L.length with h | h
  ·exact h
  ·rw [List.getElem?_eq_none h] at hx;simp at hx
 rw [List.getElem?_eq_getElem hk] at hx
 simp only [Option.some.injEq] at hx
 refine ⟨(L.take k).flatMap f,(L.drop (k+1)).flatMap f,?_,?_,fun y=>?_⟩
 ·conv=>lhs;rw [←List.take_append_drop k L,List.drop_eq_getElem_cons hk]
  rw [List.flatMap_append,List.flatMap_cons,hx,List.append_assoc]
 ·rw [fm_len h,List.length_take,Nat.min_eq_left (by omega)]
 ·rw [List.set_eq_take_append_cons_drop,if_pos hk,List.flatMap_append,List.flatMap_cons,List.append_assoc]
theorem splice {P M Q:List Sc} {o m:Nat} (h:o+m≤M.length):((P++M++Q).drop (P.length+o)).take m=(M.drop o).take m:=by
 rw [List.append_assoc,List.drop_append,List.drop_of_length_le (by omega),List.nil_append,Nat.add_sub_cancel_left,List.drop_append_of_le_length (by omega),List.take_append_of_le_length (by rw [List.length_drop];omega)]
theorem splice_set {P M Q l:List Sc} {o:Nat} (h:o+l.length≤M.length):(P++M++Q).take (P.length+o)++l++(P++M++Q).drop (P.length+o+l.length)=P++(M.take o++l++M.drop (o+l.length))++Q:=by
 rw [List.append_assoc P M Q,List.take_length_add_append,List.take_append_of_le_length (by omega),Nat.add_assoc,List.drop_length_add_append,List.drop_append_of_le_length h]
 simp only [List.append_assoc]
end
theorem wr_fm {α:Type} {f:α→List Sc} {w:Nat} (h:∀x,(f x).length=w) {L:List α} {k:Nat} {x:α} (hk:k < L.length):wr (L.flatMap f) (k * w) (f x)=(L.set k x).flatMap f:=by
 obtain ⟨P,Q,h1,h2,h3⟩:=fm_split h (List.getElem?_eq_getElem hk)
 rw [h1,h3]
 unfold wr
 have:=splice_set (P:=P) (M:=f L[k]) (Q:=Q) (l:=f x) (o:=0) (by rw [h,h];omega)
 rw [Nat.add_zero,h2] at this
 rw [this]
 simp [h]
theorem wr_mid {A M B a:List Sc} {i:Nat} (h:i+a.length≤M.length):wr (A++(M++B)) (A.length+i) a=A++(wr M i a++B):=by
 unfold wr
 rw [List.take_length_add_append,Nat.add_assoc,List.drop_append,List.take_append_of_le_length (by omega),List.drop_eq_nil_of_le (show A.length≤A.length+(i+a.length) by omega),
  show A.length+(i+a.length) - A.length=i+a.length by omega,List.drop_append_of_le_length h]
 simp only [List.append_assoc,List.nil_append]
theorem getD_mid {A M B:List Sc} {i:Nat} (h:i < M.length):(A++(M++B)).getD (A.length+i) .any=M.getD i .any:=by
 simp only [List.getD_eq_getElem?_getD]
 rw [List.getElem?_append_right (by omega),show A.length+i - A.length=i by omega,List.getElem?_append_left h]
theorem drop_mid {A M B:List Sc} {i n:Nat} (h:i+n≤M.length):((A++(M++B)).drop (A.length+i)).take n=(M.drop i).take n:=by
 rw [List.drop_append,List.drop_eq_nil_of_le (by omega),show A.length+i - A.length=i by omega,List.nil_append,List.drop_append_of_le_length (by omega),List.take_append_of_le_length (by simp;omega)]
end
end Go.Proofs.YteclombpnhociaaGreat
set_option maxRecDepth 100000
set_option maxHeartbeats 8000000
namespace Go.Proofs.YteclombpnhociaaGreat
open Go.Am
set_option linter.unusedSimpArgs false
set_option linter.unusedVariables false
noncomputable section
structure Rq where
 s:Bool
 v:Bool
 d:Bool
 a:BitVec 64
 i:Int
def encR (r:Rq):List Sc:=[.b r.s,.b r.v,.b r.d,.u r.a,.i r.i]
def dcR:List Sc→Option Rq
 | [.b s,.b v,.b d,.u a,.i i]=>some ⟨s,v,d,a,i⟩
 | _=>none
def rq0:Rq:=⟨false,false,false,0#64,0⟩
abbrev Row:={r:List Rq // r.length=8}
def rowC (r:Row):List Sc:=r.1.flatMap encR
def dcW (cs:List Sc):Option Row :=
 if cs.length=40 then
  match decN 5 dcR 8 cs with
  | some l=>if h:l.length=8 then some ⟨l,h⟩ else none
  | none=>none
 else none
def row0:Row:=⟨List.replicate 8 rq0,rfl⟩
def mlC (n:Int) (B:List Row):List Sc:=.i n::B.flatMap rowC
def mlD:AObj→Option (Int × List Row)
 | .own (.i n::cs)=>if cs.length=8 * 40 then (decN 40 dcW 8 cs).map fun B=>(n,B) else none
 | _=>none
def slotR (B:List Row) (t f:Nat):Rq:=match B[t]? with
 | some r=>(r.1[f]?).getD rq0
 | none=>rq0
def setR (B:List Row) (t f:Nat) (q:Rq):List Row:=match B[t]? with
 | some r=>B.set t ⟨r.1.set f q,by rw [List.length_set];exact r.2⟩
 | none=>B
def plainR (r:Rq):Rq:=⟨r.s,r.v,r.d,if r.v=true then r.a else 0#64,if r.d=true then r.i else 0⟩
def eqR (a b:Rq):Bool:=(a.s == b.s) && ((a.v == b.v) && ((a.d == b.d) && (decide (a.a=b.a) && decide (a.i=b.i))))
def mergeR (o r:Rq):Rq:=if o.s=false∨eqR o (plainR r)=true then plainR r else ⟨true,false,false,0#64,0⟩
def inH (n h:Int):Bool:=decide (0≤h) && decide (h < n)
def s_min29 (args:List AV) (H:AH):Option AV :=
 match args with
 | [.c (.p id 0 0),.c (.i h)] =>
   match mlD (hg H id) with
   | some (n,_)=>some (.c (.b (inH n h)))
   | none=>none
 | _=>none
def mlMay (n hart k h:Int) (rs:Bool) (i:Int):Bool :=
 if inH n hart=true then
  (if k=12 then true else
   if k=13 then (if rs=false then false else if i < 0 then false else if 65535 < i then false else inH n h && !decide (h=hart)) else
   if k=14 then inH n h && !decide (h=hart) else false)
 else false
def s_mmay (args:List AV) (H:AH):Option AV :=
 match args with
 | [.c (.p id 0 0),.c (.i hart),.g [.i k,.u _,.u _,.i _,.i _,.i _,.u _,.u _,.b _,.i h,.b rs,.b _,.b _,.u _,.i i,.i _,.u _,.i _,.u _]] =>
   match mlD (hg H id) with
   | some (n,_)=>some (.c (.b (mlMay n hart k h rs i)))
   | none=>none
 | _=>none
end
end Go.Proofs.YteclombpnhociaaGreat
set_option maxRecDepth 100000
set_option maxHeartbeats 8000000
namespace Go.Proofs.YteclombpnhociaaGreat
open Go.Am
set_option linter.unusedSimpArgs false
set_option linter.unusedVariables false
noncomputable section
def ansC (d:BitVec 64) (g:Bool) (r:Row):List Sc:=.u d::.b g::rowC r
def rowAt (B:List Row) (t:Nat):Row:=(B[t]?).getD row0
def doB (n:Int) (B:List Row) (hart k h:Int) (q:Rq):List Row :=
 if mlMay n hart k h q.s q.i=true then
  (if k=13 then setR B h.toNat hart.toNat (mergeR (slotR B h.toNat hart.toNat) q) else if k=12 then B.set hart.toNat row0 else B)
 else B
def doA (n:Int) (B:List Row) (hart k h:Int) (q:Rq):List Sc :=
 if mlMay n hart k h q.s q.i=true then
  (if k=13 then ansC 0#64 false row0 else if k=12 then ansC 0#64 false (rowAt B hart.toNat) else ansC 0#64 (eqR (slotR B h.toNat hart.toNat) rq0) row0)
 else ansC 0#64 false row0
def s_mdo (args:List AV) (H:AH):Option (AV × AH) :=
 match args with
 | [.c (.p id 0 0),.c (.i hart),.g [.i k,.u _,.u _,.i _,.i _,.i _,.u _,.u _,.b _,.i h,.b rs,.b rv,.b ra,.u va,.i i,.i _,.u _,.i _,.u _]] =>
   match mlD (hg H id) with
   | some (n,B)=>if n≤8 then some (.t [.g (doA n B hart k h ⟨rs,rv,ra,va,i⟩),.c (.b (mlMay n hart k h rs i))],H.set id (.own (mlC n (doB n B hart k h ⟨rs,rv,ra,va,i⟩)))) else none
   | none=>none
 | _=>none
end
end Go.Proofs.YteclombpnhociaaGreat
set_option maxRecDepth 100000
set_option maxHeartbeats 8000000
namespace Go.Proofs.YteclombpnhociaaGreat
open Go.Am
set_option linter.unusedSimpArgs false
set_option linter.unusedVariables false
noncomputable section
def e8F (x:Int):List Sc:=[.k .u8 x]
theorem e8F_l (x:Int):(e8F x).length=1:=rfl
def d8F:List Sc→Option Int
 | [.k .u8 x]=>some x
 | _=>none
def byF:List Sc→Option (List Int)
 | []=>some []
 | .k .u8 n::r=>(byF r).map (n :: ·)
 | _=>none
theorem byF_inv {cs:List Sc} {L:List Int} (h:byF cs=some L):cs=L.flatMap e8F:=by
 induction cs generalizing L with
 | nil=>simp [byF] at h;subst h;rfl
 | cons a r ih =>
   unfold byF at h
   split at h
   ·simp_all
   ·rename_i n r' heq
    simp only [List.cons.injEq] at heq
    obtain ⟨rfl,rfl⟩:=heq
    rw [Option.map_eq_some_iff] at h
    obtain ⟨l',h5,rfl⟩:=h
    rw [ih h5];rfl
   ·simp at h
theorem byF_of (L:List Int):byF (L.flatMap e8F)=some L:=by
 induction L with
 | nil=>rfl
 | cons a r ih=>rw [List.flatMap_cons];simp [e8F,byF,ih]
def cutF (H:AH):Sc→Option (List Int)
 | .nils=>some []
 | .sl id off v n=>if v=(hg H id).row∧off+n≤(hg H id).cells.length then byF (((hg H id).cells.drop off).take n) else none
 | _=>none
theorem cutF_inv {H:AH} {x:Sc} {L:List Int} (h:cutF H x=some L):(x=.nils∧L=[])∨∃id off,x=.sl id off (hg H id).row L.length∧off+L.length≤(hg H id).cells.length∧((hg H id).cells.drop off).take L.length=L.flatMap e8F:=by
 unfold cutF at h
 split at h
 ·simp only [Option.some.injEq] at h;exact .inl ⟨rfl,h.symm⟩
 ·rename_i id off v n
  split at h
  ·rename_i hc
   obtain ⟨rfl,hc⟩:=hc
   have e:=byF_inv h
   have l:n=L.length:=by
    have:=congrArg List.length e
    rw [fm_len e8F_l,List.length_take,List.length_drop] at this
    omega
   subst l
   exact .inr ⟨id,off,rfl,hc,e⟩
  ·simp at h
 ·simp at h
def stF (b:Int) (v:BitVec 64):BitVec 64:=(v <<< 8) ||| (BitVec.ofInt 64 b)
def numW (L:List Int):BitVec 64:=L.foldr stF 0#64
def s_fnum (args:List AV) (H:AH):Option AV :=
 match args with
 | [.c x,.c y] =>
   match cutF H x,cutF H y with
   | some L,some M=>if L.length≤1000000∧M.length≤1000000 then some (.c (.u (numW (L++M)))) else none
   | _,_=>none
 | _=>none
end
end Go.Proofs.YteclombpnhociaaGreat
set_option maxRecDepth 100000
set_option maxHeartbeats 8000000
namespace Go.Proofs.YteclombpnhociaaGreat
open Go.Am
set_option linter.unusedSimpArgs false
set_option linter.unusedVariables false
noncomputable section
theorem getF_cases (fr:Fr) (s:Nat):Am.get fr s=.c .any∨∃p∈fr,p.1=s∧Am.get fr s=p.2:=by
 induction fr with
 | nil=>exact .inl rfl
 | cons a r ih =>
   obtain ⟨d,v⟩:=a
   by_cases h:d=s
   ·exact .inr ⟨(d,v),by simp,h,by simp [Am.get,h]⟩
   ·have e:Am.get ((d,v)::r) s=Am.get r s:=by simp [Am.get,h]
    rw [e]
    rcases ih with h1 | ⟨p,h1,h2,h3⟩
    ·exact .inl h1
    ·exact .inr ⟨p,by simp [h1],h2,h3⟩
theorem wkF {n:Nat} {fr fr':Fr} {H:AH} (hf:∀p∈fr',Am.get fr p.1=p.2):Wk n fr H (fr',H):=fun ρ w tm h1 h2 =>
 ⟨ρ,fun s=>by
   show VRel ρ (Am.get fr' s) (tm s)
   rcases getF_cases fr' s with e | ⟨p,hp,rfl,e⟩
   ·rw [e];exact trivial
   ·rw [e,←hf p hp];exact h1 p.1,h2,fun i _ hi hL _=>⟨i,hi,hL⟩,fun _ _=>rfl⟩
end
end Go.Proofs.YteclombpnhociaaGreat
set_option maxRecDepth 100000
set_option maxHeartbeats 8000000
namespace Go.Proofs.YteclombpnhociaaGreat
open Go.Am
set_option linter.unusedSimpArgs false
set_option linter.unusedVariables false
noncomputable section
theorem fin_sameF {n:Nat} {v:AV} {H:AH}:∃v',some v=some v'∧Wk n [(0,v')] H ([(0,v)],H) :=
 ⟨_,rfl,fun ρ _ _ h1 h2=>⟨ρ,h1,h2,fun i _ hi hL _=>⟨i,hi,hL⟩,fun _ _=>rfl⟩⟩
def fcC (n:Int) (i:Nat):List Sc:=.i n::.u 0#64::(List.replicate i (.u 18446744073709551615#64)++(List.replicate (8 - i) (.u 0#64)++List.replicate 8 (.b false)))
end
end Go.Proofs.YteclombpnhociaaGreat
set_option maxRecDepth 100000
set_option maxHeartbeats 8000000
namespace Go.Proofs.YteclombpnhociaaGreat
open Go.Am
set_option linter.unusedSimpArgs false
set_option linter.unusedVariables false
noncomputable section
def wiF (n m:Int):Bool:=decide (1≤n) && decide (n≤m)
def s_fwithin (args:List AV):Option AV :=
 match args with
 | [.c (.i n),.c (.i m)]=>some (.c (.b (wiF n m)))
 | _=>none
def rightF (h t n b:Int):Bool:=wiF h 8 && (wiF t 64 && (wiF n 4096 && wiF b 32))
theorem ofF_ex (x:BitVec 64):∃n:Nat,n=x.toNat - 2147483648:=⟨_,rfl⟩
noncomputable def offW (x:BitVec 64):Nat:=Classical.choose (ofF_ex x)
theorem ofF_eq (x:BitVec 64):offW x=x.toNat - 2147483648:=Classical.choose_spec (ofF_ex x)
noncomputable def hasF (N:Nat) (x:BitVec 64) (n:Int):Bool:=decide (1≤n) && (decide (2147483648≤x.toNat) && (decide (offW x < N) && decide (n≤((N - offW x:Nat):Int))))
theorem hasF_iff {N:Nat} {x:BitVec 64} {n:Int}:hasF N x n=true ↔ 1≤n∧2147483648≤x.toNat∧offW x < N∧n≤((N - offW x:Nat):Int):=by
 simp only [hasF,Bool.and_eq_true,decide_eq_true_eq]
theorem baseF {a:BitVec 64} (h:2147483648≤a.toNat):(a - 2147483648#64).toNat=offW a:=by
 have e:(2147483648#64).toNat=2147483648:=rfl
 rw [ofF_eq,BitVec.toNat_sub,e]
 have:=a.isLt
 omega
theorem ofI_natF {n:Nat} (h:n < 18446744073709551616):(BitVec.ofInt 64 (n:Int)).toNat=n:=by
 rw [BitVec.toNat_ofInt];omega
section
variable {H:AH}
theorem cutF_len {x:Sc} {B:List Int} (h:cutF H x=some B):∀e,lenB (.sl e) (.c x)=some (.c (.i B.length)):=by
 intro e
 rcases cutF_inv h with ⟨rfl,rfl⟩ | ⟨i,o,rfl,_⟩ <;> rfl
theorem cutF_isS {x:Sc} {B:List Int} (h:cutF H x=some B):(lenB (.sl 0) (.c x)).isSome=true:=by rw [cutF_len h];rfl
theorem cutF_one {x:Sc} {B:List Int} (h:cutF H x=some B):Sc.one x=true:=by rcases cutF_inv h with ⟨rfl,_⟩ | ⟨i,o,rfl,_⟩ <;> rfl
def wdR (H:AH) (p:Nat):Option (Sc × List Int) :=
 match hg H p with
 | .own (.i _::.i _::.i _::.i _::x::_)=>(cutF H x).map fun B=>(x,B)
 | _=>none
noncomputable def s_fspot (args:List AV) (H:AH):Option AV :=
 match args with
 | [.c .nilp,.c (.u _),.c (.i _)]=>some (.t [.c (.i 0),.c (.b false)])
 | [.c (.p p 0 0),.c (.u a),.c (.i n)] =>
   match wdR H p with
   | some (_,B)=>if B.length≤262144∧n≤9223372036854775807 then some (if hasF B.length a n=true then .t [.c (.i (offW a)),.c (.b true)] else .t [.c (.i 0),.c (.b false)]) else none
   | none=>none
 | _=>none
end
end
end Go.Proofs.YteclombpnhociaaGreat
set_option maxRecDepth 100000
set_option maxHeartbeats 8000000
namespace Go.Proofs.YteclombpnhociaaGreat
open Go.Am
set_option linter.unusedSimpArgs false
set_option linter.unusedVariables false
noncomputable section
section
variable {H:AH}
noncomputable def ldV (B:List Int) (a:BitVec 64) (n:Int):AV:=if hasF B.length a n=true∧n≤8 then .t [.c (.u (numW ((B.drop (offW a)).take n.toNat))),.c (.b true)] else .t [.c (.u 0#64),.c (.b false)]
noncomputable def s_fload (args:List AV) (H:AH):Option AV :=
 match args with
 | [.c .nilp,.c (.u _),.c (.i _)]=>some (.t [.c (.u 0#64),.c (.b false)])
 | [.c (.p p 0 0),.c (.u a),.c (.i n)] =>
   match wdR H p with
   | some (_,B)=>if B.length≤262144∧n≤9223372036854775807 then some (ldV B a n) else none
   | none=>none
 | _=>none
noncomputable def s_frhas (args:List AV) (H:AH):Option AV :=
 match args with
 | [.g [x],.c (.u a),.c (.i n)] =>
   match cutF H x with
   | some B=>if B.length≤262144∧n≤9223372036854775807 then some (.c (.b (hasF B.length a n))) else none
   | none=>none
 | _=>none
theorem s_frhas_eq {x:Sc} {B:List Int} {a:BitVec 64} {n:Int} (h:cutF H x=some B) (hl:B.length≤262144) (hn:n≤9223372036854775807):s_frhas [.g [x],.c (.u a),.c (.i n)] H=some (.c (.b (hasF B.length a n))):=by
 simp only [s_frhas,h];rw [if_pos ⟨hl,hn⟩]
theorem ok_frhas:FpOk Tryz.prog 72 (fun args H=>(s_frhas args H).map fun v=>(v,H)):=by
 refine fq_ok (s:=s_frhas) (tab:=[]) hmix TabOk.nil Tryz.func72 rfl Tryz.results72 Tryz.ntmps72 (by kernel_rfl) (by kernel_rfl) ?_
 intro args H v h hargs hH
 unfold s_frhas at h
 split at h <;> try (simp at h;done)
 rename_i x a n
 split at h <;> try (simp at h;done)
 rename_i B hcut
 split at h <;> try (simp at h;done)
 rename_i hc
 obtain ⟨hB,hn⟩:=hc
 simp only [Option.some.injEq] at h
 subst h
 refine ⟨by simp only [List.length_cons,List.length_nil];decide,rfl,?_⟩
 have xl:=cutF_len hcut
 have xs:=cutF_isS hcut
 have x1:=cutF_one hcut
 by_cases h1:n < 1
 ·have e:hasF B.length a n=false:=by rw [←Bool.not_eq_true,hasF_iff];omega
  rw [e]
  (repeat (first | simp (maxSteps:=9^9) only [go_sem,seval,x1,h1] | simp (disch:=omega) only [w64_d,ipos,ineg,dpos,dneg]))
  exact subH_app _ _
 have eb:(a < 2147483648#64)=(a.toNat < 2147483648):=by rw [BitVec.lt_def];rfl
 by_cases h2:a.toNat < 2147483648
 ·have e:hasF B.length a n=false:=by rw [←Bool.not_eq_true,hasF_iff];omega
  rw [e]
  (repeat (first | simp (maxSteps:=9^9) only [go_sem,seval,x1,h1,eb,h2] | simp (disch:=omega) only [w64_d,ipos,ineg,dpos,dneg]))
  exact subH_app _ _
 have h3:=baseF (a:=a) (by omega)
 have e0:(BitVec.ofInt 64 (B.length:Int)).toNat=B.length:=ofI_natF (by omega)
 have e1:(BitVec.ofInt 64 (B.length:Int)≤a - 2147483648#64)=(B.length≤offW a):=by rw [BitVec.le_def,h3,e0]
 by_cases h4:B.length≤offW a
 ·have e:hasF B.length a n=false:=by rw [←Bool.not_eq_true,hasF_iff];omega
  rw [e]
  (repeat (first | simp (maxSteps:=9^9) only [go_sem,seval,x1,xl,xs,as_len_y,h1,eb,h2,e1,h4] | simp (disch:=omega) only [w64_d,ipos,ineg,dpos,dneg]))
  exact subH_app _ _
 have e3:(a - 2147483648#64).toInt=(offW a:Int):=by rw [BitVec.toInt_eq_toNat_cond,h3,if_pos (by omega)]
 have e4:w64 ((B.length:Int) - (offW a:Int))=((B.length - offW a:Nat):Int):=by rw [w64_d (by omega) (by omega)];omega
 have e:hasF B.length a n=decide (n≤((B.length - offW a:Nat):Int)):=by unfold hasF;rw [decide_eq_true (by omega),decide_eq_true (by omega),decide_eq_true (show offW a < B.length by omega)];simp
 rw [e]
 (repeat (first | simp (maxSteps:=9^9) only [go_sem,seval,x1,xl,xs,as_len_y,h1,eb,h2,e1,h4,e3,e4] | simp (disch:=omega) only [w64_d,ipos,ineg,dpos,dneg]))
 exact subH_app _ _
def stG (b:Int) (v:BitVec 64):BitVec 64:=v * 256#64+BitVec.ofInt 64 b
theorem stG_eq {b:Int} (h0:0≤b) (h1:b≤255) (v:BitVec 64):stG b v=stF b v:=by
 unfold stG stF
 have e:v * 256#64=v <<< 8:=by
  apply BitVec.eq_of_toNat_eq
  rw [BitVec.toNat_mul,BitVec.toNat_shiftLeft,Nat.shiftLeft_eq];rfl
 rw [e]
 refine BitVec.add_eq_or_of_and_eq_zero _ _ ?_
 apply BitVec.eq_of_getLsbD_eq
 intro i hi
 rw [BitVec.getLsbD_and,BitVec.getLsbD_shiftLeft,BitVec.getLsbD_zero]
 by_cases c:i < 8
 ·simp [c]
 ·have:(BitVec.ofInt 64 b).getLsbD i=false:=by
   rw [BitVec.getLsbD,BitVec.toNat_ofInt]
   apply Nat.testBit_lt_two_pow
   have:2 ^ 8≤2 ^ i:=Nat.pow_le_pow_right (by decide) (by omega)
   have e8:(2:Nat) ^ 8=256:=rfl
   omega
  rw [this,Bool.and_false]
theorem numG_eq {L:List Int} (h:∀b∈L,0≤b∧b≤255):L.foldr stG 0#64=numW L:=by
 induction L with
 | nil=>rfl
 | cons b L ih =>
   have hb:=h b (by simp)
   rw [List.foldr_cons,ih fun x hx=>h x (by simp [hx]),stG_eq hb.1 hb.2];rfl
noncomputable def s_frload (args:List AV) (H:AH):Option AV :=
 match args with
 | [.g [x],.c (.u a),.c (.i n)] =>
   match cutF H x with
   | some B=>if B.length≤262144∧n≤9223372036854775807∧(∀b∈B,0≤b∧b≤255) then some (ldV B a n) else none
   | none=>none
 | _=>none
theorem s_frload_eq {x:Sc} {B:List Int} {a:BitVec 64} {n:Int} (h:cutF H x=some B) (hl:B.length≤262144) (hn:n≤9223372036854775807) (hb:∀b∈B,0≤b∧b≤255):s_frload [.g [x],.c (.u a),.c (.i n)] H=some (ldV B a n):=by
 simp only [s_frload,h];rw [if_pos ⟨hl,hn,hb⟩]
theorem stG_step {M:List Int} {r i:Nat} {b:Int} (v:BitVec 64) (hlt:r < M.length) (hi:i=M.length - 1 - r) (hb:M[i]?=some b):(M.drop (M.length - (r+1))).foldr stG v=(M.drop (M.length - r)).foldr stG v * 256#64+BitVec.ofInt 64 b:=by
 have hi2:i < M.length:=by omega
 rw [show M.length - (r+1)=i by omega,show M.length - r=i+1 by omega,List.drop_eq_getElem_cons hi2]
 rw [List.getElem?_eq_getElem hi2] at hb
 simp only [Option.some.injEq] at hb
 rw [List.foldr_cons,hb];rfl
theorem ok_frload:FpOk Tryz.prog 74 (fun args H=>(s_frload args H).map fun v=>(v,H)):=by
 refine fq_ok (s:=s_frload) (tab:=[(72,.fq s_frhas)]) hmix (TabOk.cons (e:=.fq s_frhas) ok_frhas TabOk.nil) Tryz.func74 rfl Tryz.results74 Tryz.ntmps74 (by kernel_rfl) (by kernel_rfl) ?_
 intro args H v h hargs hH
 unfold s_frload at h
 split at h <;> try (simp at h;done)
 rename_i x a n
 split at h <;> try (simp at h;done)
 rename_i B hcut
 split at h <;> try (simp at h;done)
 rename_i hc
 obtain ⟨hB,hn,hb⟩:=hc
 simp only [Option.some.injEq] at h
 subst h
 refine ⟨by simp only [List.length_cons,List.length_nil];decide,by unfold ldV;split <;> rfl,?_⟩
 have x1:=cutF_one hcut
 by_cases h8:8 < n
 ·have e:ldV B a n=.t [.c (.u 0#64),.c (.b false)]:=if_neg (by omega)
  rw [e]
  (repeat (first | simp (maxSteps:=9^9) only [go_sem,seval,x1,h8] | simp (disch:=omega) only [w64_d,ipos,ineg,dpos,dneg]))
  exact subH_app _ _
 have bx:x.bel H.length=true:=by
  simp only [List.all_cons,AV.bel,Bool.and_eq_true] at hargs
  simpa using hargs.1
 have hcutX:∀X,cutF (H++X) x=some B:=fun X=>by
  rcases cutF_inv hcut with ⟨rfl,rfl⟩ | ⟨id,off,rfl,g1,g2⟩
  ·rfl
  ·have lid:id < H.length:=by simpa [Sc.bel] using bx
   rw [←hcut]
   unfold cutF
   simp only [hg_lt' lid]
 have sh:=fun X=>s_frhas_eq (hcutX X) hB hn (a:=a)
 cases hh:hasF B.length a n with
 | false =>
   have e:ldV B a n=.t [.c (.u 0#64),.c (.b false)]:=if_neg (fun c=>by rw [hh] at c;simp at c)
   rw [e]
   simp only [hh] at sh
   (repeat (first | simp (maxSteps:=9^9) only [go_sem,seval,x1,h8,sh] | simp (disch:=omega) only [w64_d,ipos,ineg,dpos,dneg]))
   exact subH_app _ _
 | true =>
   have e:ldV B a n=.t [.c (.u (numW ((B.drop (offW a)).take n.toNat))),.c (.b true)]:=if_pos ⟨hh,by omega⟩
   rw [e]
   simp only [hh] at sh
   rw [hasF_iff] at hh
   obtain ⟨m,rfl⟩:∃m:Nat,n=(m:Int):=⟨n.toNat,by omega⟩
   rw [Int.toNat_natCast]
   obtain ⟨L,hL⟩:∃L,L=(B.drop (offW a)).take m:=⟨_,rfl⟩
   have lL:L.length=m:=by rw [hL,List.length_take,List.length_drop];omega
   rw [←hL,←numG_eq (L:=L) fun b hb'=>hb b (by rw [hL] at hb';exact List.mem_of_mem_drop (List.mem_of_mem_take hb'))]
   rcases cutF_inv hcut with ⟨rfl,rfl⟩ | ⟨id,off,rfl,g1,g2⟩
   ·simp at hh
   have lid:id < H.length:=by simpa [Sc.bel] using bx
   have h3:=baseF (a:=a) (by omega)
   have e3:(a - 2147483648#64).toInt=(offW a:Int):=by rw [BitVec.toInt_eq_toNat_cond,h3,if_pos (by omega)]
   have w1:w64 ((m:Int) - 1)=(m:Int) - 1:=w64_d (by omega) (by omega)
   (repeat (first | simp (maxSteps:=9^9) only [go_sem,seval,h8,sh,w1] | simp (disch:=omega) only [w64_d,ipos,ineg,dpos,dneg]))
   refine arun_for m (fun r=>([(1,.c (.u a)),(3,.c (.p H.length 0 0)),(8,.c (.u ((L.drop (m - r)).foldr stG 0#64))),(9,.c (.i ((m:Int) - 1 - r)))],H++[.own [.sl id off (hg H id).row B.length]])) ?_ fun r hr=>?_
   ·exact wkF (by simp [Am.get,←lL])
   ·by_cases hlt:r < m
    rotate_left
    ·obtain rfl:r=m:=by omega
     have e0:((r:Int) - 1 - (r:Int)) = -1:=by omega
     have d0:L.drop (r - r)=L:=by rw [Nat.sub_self];rfl
     (repeat (first | simp (maxSteps:=9^9) only [go_sem,seval,e0,d0] | simp (disch:=omega) only [w64_d,ipos,ineg,dpos,dneg]))
     exact subH_app _ _
    obtain ⟨i,hi⟩:∃i,i=m - 1 - r:=⟨_,rfl⟩
    have e0:((m:Int) - 1 - (r:Int))=(i:Int):=by omega
    have e1:w64 ((i:Int) - 1)=(i:Int) - 1:=w64_d (by omega) (by omega)
    have k0:(0:Int)≤(i:Int):=by omega
    obtain ⟨b,hbi⟩:∃b,L[i]?=some b:=⟨_,List.getElem?_eq_getElem (by omega)⟩
    have hbB:B[offW a+i]?=some b:=by
     rw [hL,List.getElem?_take_of_lt (by omega),List.getElem?_drop] at hbi
     exact hbi
    have w2:w64 ((offW a:Int)+(i:Int))=((offW a+i:Nat):Int):=by rw [w64_d (by omega) (by omega)];omega
    have k1:(0:Int)≤((offW a+i:Nat):Int):=by omega
    have k2:((offW a+i:Nat):Int) < (B.length:Int):=by omega
    have b1:(off+(offW a+i)+1≤(hg H id).cells.length)=True:=eq_true (by omega)
    have b2:(hg H id).cells.getD (off+(offW a+i)) .any=.k .u8 b:=by
     have:=congrArg (fun l=>l.getD (offW a+i) .any) g2
     simp only [List.getD_eq_getElem?_getD,List.getElem?_take,List.getElem?_drop] at this ⊢
     rw [if_pos (by omega)] at this
     rw [this]
     have g:=fm1 (f:=e8F) (g:=Sc.k .u8) (fun _=>rfl) hbB
     simpa [List.getD_eq_getElem?_getD] using g
    have gX:∀X,hg (H++X) id=hg H id:=fun X=>hg_lt' lid
    (repeat (first | simp (maxSteps:=9^9) only [go_sem,seval,e0,e1,k0,e3,w2,k1,k2,b1,b2,gX,Int.toNat_natCast] | simp (disch:=omega) only [w64_d,ipos,ineg,dpos,dneg]))
    have st:=stG_step 0#64 (M:=L) (by omega) (by omega) hbi (r:=r)
    rw [lL] at st
    have e4:(i:Int) - 1=(m:Int) - 1 - ((r+1:Nat):Int):=by omega
    rw [←st,e4]
    exact ⟨r+1,by omega,by omega,wkF (by simp [Am.get])⟩
end
end
end Go.Proofs.YteclombpnhociaaGreat
set_option maxRecDepth 100000
set_option maxHeartbeats 8000000
namespace Go.Proofs.YteclombpnhociaaGreat
open Go.Am
set_option linter.unusedSimpArgs false
set_option linter.unusedVariables false
noncomputable section
def wdC (h t n b:Int) (x:Sc) (R:List Sc) (bus:Sc) (m:List Sc):List Sc:=.i h::.i t::.i n::.i b::x::(R++bus::m)
section
variable {H:AH}
end
end
end Go.Proofs.YteclombpnhociaaGreat
set_option maxRecDepth 100000
set_option maxHeartbeats 8000000
namespace Go.Proofs.YteclombpnhociaaGreat
open Go.Am
set_option linter.unusedSimpArgs false
set_option linter.unusedVariables false
noncomputable section
theorem e8_drop (L:List Int) (k:Nat):(L.flatMap e8F).drop k=(L.drop k).flatMap e8F:=by have:=fm_drop e8F_l L k;rwa [Nat.mul_one] at this
theorem e8_take (L:List Int) (k:Nat):(L.flatMap e8F).take k=(L.take k).flatMap e8F:=by
 induction L generalizing k with
 | nil=>simp
 | cons x L ih=>cases k with
   | zero=>simp
   | succ k=>simp [e8F,List.flatMap_cons] at ih ⊢;exact ih k
theorem e8w_len (L:List Int):(L.flatMap e8F).length=L.length:=by rw [fm_len e8F_l,Nat.mul_one]
theorem e8w_one (L:List Int):(L.flatMap e8F).all Sc.one=true:=by
 rw [List.all_flatMap];exact List.all_eq_true.2 fun _ _=>rfl
def layB (B:List Int) (k:Nat) (b:List Int):List Int:=B.take k++b++B.drop (k+b.length)
theorem layB_len {B b:List Int} {k:Nat} (h:k+b.length≤B.length):(layB B k b).length=B.length:=by
 unfold layB
 simp only [List.length_append,List.length_take,List.length_drop]
 omega
theorem layB_nil {B:List Int} {k:Nat}:layB B k []=B:=by unfold layB;simp
theorem wr_e8 (B b:List Int) (k:Nat):wr (B.flatMap e8F) k (b.flatMap e8F)=(layB B k b).flatMap e8F:=by
 rw [wr_un,e8_take,e8w_len,e8_drop]
 unfold layB
 rw [List.flatMap_append,List.flatMap_append]
section
variable {H:AH}
def wdV (H:AH) (p:Nat):Option (Nat × List Int) :=
 match hg H p with
 | .own (.i _::.i _::.i _::.i _::.sl id 0 v N::_) =>
   match hg H id with
   | .vec 1 cs=>(byF cs).bind fun B=>if v=B.length∧N=B.length then some (id,B) else none
   | _=>none
 | _=>none
theorem wdV_inv {p id:Nat} {B:List Int} (h:wdV H p=some (id,B)):(∃a b c d r,hg H p=.own (.i a::.i b::.i c::.i d::.sl id 0 B.length B.length::r))∧hg H id=.vec 1 (B.flatMap e8F):=by
 unfold wdV at h
 split at h <;> try (simp at h;done)
 rename_i a b c d j v N r ho
 split at h <;> try (simp at h;done)
 rename_i cs hj
 rw [Option.bind_eq_some_iff] at h
 obtain ⟨B',h1,h2⟩:=h
 split at h2 <;> simp at h2
 rename_i hc
 obtain ⟨rfl,rfl⟩:=hc
 obtain ⟨rfl,rfl⟩:=h2
 exact ⟨⟨a,b,c,d,r,ho⟩,by rw [hj,byF_inv h1]⟩
theorem wdV_of {p id:Nat} {a b c d:Int} {B:List Int} {r:List Sc} (h1:hg H p=.own (.i a::.i b::.i c::.i d::.sl id 0 B.length B.length::r)) (h2:hg H id=.vec 1 (B.flatMap e8F)):wdV H p=some (id,B):=by
 unfold wdV
 simp [h1,h2,byF_of]
theorem cutF_vec {id:Nat} {B:List Int} (h:hg H id=.vec 1 (B.flatMap e8F)):cutF H (.sl id 0 B.length B.length)=some B:=by
 unfold cutF
 simp only [h,AObj.row,AObj.cells,e8w_len]
 rw [if_pos (by simp),List.drop_zero,List.take_of_length_le (by rw [e8w_len];exact Nat.le_refl _),byF_of]
theorem wdV_R {p id:Nat} {B:List Int} (h:wdV H p=some (id,B)):wdR H p=some (.sl id 0 B.length B.length,B):=by
 obtain ⟨⟨a,b,c,d,r,h1⟩,h2⟩:=wdV_inv h
 unfold wdR
 simp only [h1,cutF_vec h2,Option.map_some]
def s_fclone (args:List AV) (H:AH):Option (AV × AH) :=
 match args with
 | [.c (.sl id o v n)] =>
   match cutF H (.sl id o v n) with
   | some B=>if 0 < n∧n≤262144 then some (.c (.sl H.length 0 n n),H++[.vec 1 (B.flatMap e8F)]) else none
   | none=>none
 | _=>none
def s_fbytes (args:List AV) (H:AH):Option (AV × AH) :=
 match args with
 | [.c .nilp]=>some (.c .nils,H)
 | [.c (.p p 0 0)] =>
   match wdV H p with
   | some (_,B)=>if 0 < B.length∧B.length≤262144 then some (.c (.sl H.length 0 B.length B.length),H++[.vec 1 (B.flatMap e8F)]) else none
   | none=>none
 | _=>none
def s_frnew (args:List AV) (H:AH):Option (AV × AH) :=
 match args with
 | [.c (.i n)]=>if 1≤n∧n≤4096 then some (.g [.sl (H.length+1) 0 (64 * n.toNat) (64 * n.toNat)],H++[.own [.sl (H.length+1) 0 (64 * n.toNat) (64 * n.toNat)],.vec 1 (List.replicate (64 * n.toNat) (.k .u8 0))]) else none
 | _=>none
end
end
end Go.Proofs.YteclombpnhociaaGreat
set_option maxRecDepth 100000
set_option maxHeartbeats 8000000
namespace Go.Proofs.YteclombpnhociaaGreat
open Go.Am
set_option linter.unusedSimpArgs false
set_option linter.unusedVariables false
noncomputable section
section
variable {H:AH}
noncomputable def s_flay (args:List AV) (H:AH):Option (AV × AH) :=
 match args with
 | [.c .nilp,.c (.u _),.c _]=>some (.c (.b false),H)
 | [.c (.p p 0 0),.c (.u a),.c y] =>
   match wdV H p,cutF H y with
   | some (id,B),some b =>
     if B.length≤262144∧b.length≤262144 then
      if b=[] then some (.c (.b true),H)
      else if hasF B.length a b.length=true then some (.c (.b true),H.set id (.vec 1 ((layB B (offW a) b).flatMap e8F)))
      else some (.c (.b false),H)
     else none
   | _,_=>none
 | _=>none
end
end
end Go.Proofs.YteclombpnhociaaGreat
set_option maxRecDepth 100000
set_option maxHeartbeats 8000000
namespace Go.Proofs.YteclombpnhociaaGreat
open Go.Am
set_option linter.unusedSimpArgs false
set_option linter.unusedVariables false
noncomputable section
theorem layB_step {B c:List Int} {k:Nat} {q:Int} (hk:k+c.length < B.length):layB (layB B k c) (k+c.length) [q]=layB B k (c++[q]):=by
 have l1:(B.take k++c).length=k+c.length:=by rw [List.length_append,List.length_take];omega
 unfold layB
 rw [List.take_append_of_le_length (by omega),List.take_of_length_le (by omega),List.drop_append,List.drop_eq_nil_of_le (by rw [l1];simp),l1,List.drop_drop]
 simp only [List.length_cons,List.length_nil,List.length_append,List.nil_append,List.append_assoc]
 congr 4
 omega
section
variable {H:AH}
def sidF:Sc→Option Nat
 | .sl i _ _ _=>some i
 | _=>none
def roV (H:AH) (id v N:Nat):Option (List Int) :=
 match hg H id with
 | .vec 1 cs=>(byF cs).bind fun B=>if v=B.length∧N=B.length then some B else none
 | _=>none
theorem roV_inv {id v N:Nat} {B:List Int} (h:roV H id v N=some B):hg H id=.vec 1 (B.flatMap e8F)∧v=B.length∧N=B.length:=by
 unfold roV at h
 split at h <;> try (simp at h;done)
 rename_i cs hj
 rw [Option.bind_eq_some_iff] at h
 obtain ⟨B',h1,h2⟩:=h
 split at h2 <;> simp at h2
 rename_i hc
 subst h2
 exact ⟨by rw [hj,byF_inv h1],hc⟩
theorem roV_of {id:Nat} {B:List Int} (h2:hg H id=.vec 1 (B.flatMap e8F)):roV H id B.length B.length=some B:=by
 unfold roV
 simp [h2,byF_of]
noncomputable def s_frfill (args:List AV) (H:AH):Option (AV × AH) :=
 match args with
 | [.g [.sl id 0 v N],.c (.u a),.c y] =>
   match roV H id v N,cutF H y with
   | some B,some b =>
     if B.length≤262144∧b.length≤262144∧sidF y≠some id then
      if b=[] then some (.c (.b true),H++[.own [.sl id 0 v N]])
      else if hasF B.length a b.length=true then some (.c (.b true),H.set id (.vec 1 ((layB B (offW a) b).flatMap e8F))++[.own [.sl id 0 v N]])
      else some (.c (.b false),H++[.own [.sl id 0 v N]])
     else none
   | _,_=>none
 | _=>none
theorem wkFe {n:Nat} {fr fr':Fr} {H K:AH} (h:H=K) (hf:∀p∈fr',Am.get fr p.1=p.2):Wk n fr H (fr',K):=by subst h;exact wkF hf
theorem setF_self {id:Nat} {o:AObj} (h:hg H id=o) (hl:id < H.length):H.set id o=H:=by
 apply List.ext_getElem?
 intro i
 rw [List.getElem?_set]
 split
 ·rename_i e
  subst e
  rw [←h]
  unfold hg
  rw [List.getD_eq_getElem?_getD,List.getElem?_eq_getElem hl];rfl
 ·rfl
def s_fbeq (args:List AV) (H:AH):Option AV :=
 match args with
 | [.c (.sl i o v n),.c (.sl j p w m)] =>
   match cutF H (.sl i o v n),cutF H (.sl j p w m) with
   | some L,some M=>if L=M∧L.length≤262144 then some (.c (.b true)) else none
   | _,_=>none
 | _=>none
end
end
end Go.Proofs.YteclombpnhociaaGreat
set_option maxRecDepth 100000
set_option maxHeartbeats 8000000
namespace Go.Proofs.YteclombpnhociaaGreat
open Go.Am
set_option linter.unusedSimpArgs false
set_option linter.unusedVariables false
noncomputable section
section
variable {H:AH}
def s_fhart (args:List AV) (H:AH):Option AV :=
 match args with
 | [.c (.p p 0 0),.c (.i h)] =>
   match hg H p with
   | .own (.i n::.i _::.i _::.i _::_)=>some (.c (.b (decide (0≤h) && decide (h < n))))
   | _=>none
 | _=>none
noncomputable def s_fpart1 (args:List AV) (H:AH):Option AV :=
 match args with
 | [.c (.p p 0 0),.g (.i k::.u a::.u x::.i c::.i s::r)] =>
   match wdR H p with
   | some (.sl id off v N,B)=>if B.length≤262144∧c=0∧s=8∧r.length=14∧r.all Sc.one=true∧hasF B.length a 8=true then some (.t [.c (.sl id (off+offW a) v 8),.c .nils,.c (.b true)]) else none
   | _=>none
 | _=>none
end
end
end Go.Proofs.YteclombpnhociaaGreat
set_option maxRecDepth 100000
set_option maxHeartbeats 8000000
namespace Go.Proofs.YteclombpnhociaaGreat
open Go.Am
set_option linter.unusedSimpArgs false
set_option linter.unusedVariables false
noncomputable section
def ansF (v:BitVec 64):List Sc:=.u v::.b false::rowC row0
noncomputable def ld8 (B:List Int) (a:BitVec 64):BitVec 64:=numW ((B.drop (offW a)).take 8)
section
variable {H:AH}
noncomputable def s_fmem1 (args:List AV) (H:AH):Option AV :=
 match args with
 | [.c (.p p 0 0),.c (.i _),.g (.i k::.u a::.u x::.i c::.i s::r)] =>
   match wdR H p with
   | some (.sl id off v N,B)=>if B.length≤262144∧k=2∧c=0∧s=8∧r.length=14∧r.all Sc.one=true∧hasF B.length a 8=true then some (.g (ansF (ld8 B a))) else none
   | _=>none
 | _=>none
noncomputable def s_fmay1 (args:List AV) (H:AH):Option AV :=
 match args with
 | [.c .nilp,.c (.i _),.g l]=>if l.length=19∧l.all Sc.one=true then some (.c (.b false)) else none
 | [.c (.p p 0 0),.c (.i h),.g (.i k::.u a::.u x::.i c::.i s::r)] =>
   match wdR H p,hg H p with
   | some (.sl id off v N,B),.own (.i n::.i _::.i _::.i _::_)=>if B.length≤262144∧k=2∧c=0∧s=8∧r.length=14∧(r.all Sc.pf=true∧r.all Sc.one=true)∧hasF B.length a 8=true∧0≤h∧h < n then some (.c (.b true)) else none
   | _,_=>none
 | _=>none
end
end
end Go.Proofs.YteclombpnhociaaGreat
set_option maxRecDepth 100000
set_option maxHeartbeats 8000000
namespace Go.Proofs.YteclombpnhociaaGreat
open Go.Am
set_option linter.unusedSimpArgs false
set_option linter.unusedVariables false
noncomputable section
def rLq:List Sc:=[.i 0,.u 0#64,.u 0#64,.b false,.i 0,.b false,.b false,.b false,.u 0#64,.i 0,.i 0,.u 0#64,.i 0,.u 0#64]
def lqC:List Sc:=.i 2::.u 2147483648#64::.u 0#64::.i 0::.i 8::rLq
def evC (w:BitVec 64):List Sc:=.i 0::(lqC++(ansF w++[.i 0,.i 0,.i 0]))
section
variable {H:AH}
open Classical in
noncomputable def s_freplay (args:List AV) (H:AH):Option AV :=
 match args with
 | [.c .nilp,.c _]=>some (.t [.c (.i 0),.c (.b false)])
 | [.c (.p p 0 0),.c (.sl e 0 v n)] =>
   match wdR H p,hg H p with
   | some (.sl id off u N,B),.own (.i m::.i _::.i _::.i _::_) =>
     if B.length≤262144∧hasF B.length 2147483648#64 8=true∧0 < m∧n=1∧v=65∧hg H e=.vec 65 (evC 5#64) then some (.t [.c (.i 0),.c (.b (decide (ld8 B 2147483648#64=5#64)))]) else none
   | _,_=>none
 | _=>none
end
end
end Go.Proofs.YteclombpnhociaaGreat
set_option maxRecDepth 100000
set_option maxHeartbeats 8000000
namespace Go.Proofs.YteclombpnhociaaGreat
open Go.Am
set_option linter.unusedSimpArgs false
set_option linter.unusedVariables false
noncomputable section
theorem of_base:offW 2147483648#64=0:=by rw [ofF_eq];rfl
theorem has_base {N:Nat} {n:Int} (h1:1≤n) (h2:n≤(N:Int)):hasF N 2147483648#64 n=true:=by
 rw [hasF_iff,of_base]
 refine ⟨h1,Nat.le_refl _,by omega,by omega⟩
section
variable {H:AH}
end
end
end Go.Proofs.YteclombpnhociaaGreat
set_option maxRecDepth 100000
set_option maxHeartbeats 8000000
namespace Go.Proofs.YteclombpnhociaaGreat
open Go.Am
set_option linter.unusedSimpArgs false
set_option linter.unusedVariables false
noncomputable section
section
variable {H:AH}
noncomputable def ptV (id off v N:Nat) (a b:BitVec 64) (c s:Int):AV :=
 if c=0 then (if hasF N a s=true then .t [.c (.sl id (off+offW a) v s.toNat),.c .nils,.c (.b true)] else .t [.c .nils,.c .nils,.c (.b false)])
 else if hasF N a c=true∧hasF N b (s - c)=true then .t [.c (.sl id (off+offW a) v c.toNat),.c (.sl id (off+offW b) v (s - c).toNat),.c (.b true)] else .t [.c .nils,.c .nils,.c (.b false)]
noncomputable def s_fparts (args:List AV) (H:AH):Option AV :=
 match args with
 | [.c (.p p 0 0),.g (.i _::.u a::.u b::.i c::.i s::r)] =>
   match wdR H p with
   | some (.sl id off v N,B)=>if 0 < B.length∧B.length≤262144∧0≤c∧c < s∧s≤8∧r.length=14∧r.all Sc.one=true then some (ptV id off v B.length a b c s) else none
   | _=>none
 | _=>none
end
end
end Go.Proofs.YteclombpnhociaaGreat
