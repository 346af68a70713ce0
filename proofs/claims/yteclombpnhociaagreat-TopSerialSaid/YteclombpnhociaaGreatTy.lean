/- The rules of walks as one set: no conditions. -/
import Derived.Test.YteclombpnhociaaGreatFr
import Derived.Test.YteclombpnhociaaGreatProg
set_option linter.unusedSimpArgs false
set_option linter.unusedVariables false
/- Walks: the rules as one set, and steps that are taken by hand. -/
set_option maxRecDepth 100000
set_option maxHeartbeats 8000000
namespace Go.Am
variable {P:Program} {tab:Tab} {k:List It} {fr:Fr} {H:AH} {Q:Fr→AH→Prop}
theorem w64_d {n:Int} (h1:-9223372036854775808≤n) (h2:n≤9223372036854775807):w64 n=n:=w64_id h1 h2
theorem ipos {α:Type} {c:Prop} [Decidable c] {a b:α} (h:c):(if c then a else b)=a:=if_pos h
theorem ineg {α:Type} {c:Prop} [Decidable c] {a b:α} (h:¬c):(if c then a else b)=b:=if_neg h
theorem dpos {p:Prop} [Decidable p] (h:p):decide p=true:=decide_eq_true h
theorem dneg {p:Prop} [Decidable p] (h:¬p):decide p=false:=decide_eq_false h
theorem cnd_by {a b:Code} {q:Bool} (h1:q=true→cnd P tab a b k Q fr H (.c (.b true))) (h2:q=false→cnd P tab a b k Q fr H (.c (.b false))):cnd P tab a b k Q fr H (.c (.b q)):=by
 cases q
 ·exact h2 rfl
 ·exact h1 rfl
theorem grd_by {full:Array Oper} {os:List Oper} {d:Option Nat} {op:Op} {want q:Bool} (h1:q=true→grd P tab full os k Q d op want fr H (.c (.b true))) (h2:q=false→grd P tab full os k Q d op want fr H (.c (.b false))) :
 grd P tab full os k Q d op want fr H (.c (.b q)):=by
 cases q
 ·exact h2 rfl
 ·exact h1 rfl
theorem grdd_by {full:Array Oper} {os:List Oper} {i:Nat} {log:List (Nat × Tc)} {d:Option Nat} {op:Op} {want q:Bool} (h1:q=true→grdd P tab full os i log k Q d op want fr H (.c (.b true)))
 (h2:q=false→grdd P tab full os i log k Q d op want fr H (.c (.b false))):grdd P tab full os i log k Q d op want fr H (.c (.b q)):=by
 cases q
 ·exact h2 rfl
 ·exact h1 rfl
theorem arun_for {c:Code} (n:Nat) (F:Nat→Fr × AH) (h0:Wk (lo tab) fr H (F 0))
 (h:∀i,i≤n→arun P tab (.c c::.back (fun fr H=>∃j,i < j∧j≤n∧Wk (lo tab) fr H (F j))::k) (F i).1 (F i).2 Q):arun P tab (.c (.loop c)::k) fr H Q:=by
 rw [arun_loop]
 refine ⟨{i:Nat // i≤n},fun i=>F i.1,fun i=>n - i.1,⟨0,Nat.zero_le _⟩,h0,fun i=>?_⟩
 have e:(fun fr H=>∃j,i.1 < j∧j≤n∧Wk (lo tab) fr H (F j))=(fun fr H=>∃j:{i:Nat // i≤n},n - j.1 < n - i.1∧Wk (lo tab) fr H (F j.1)):=by
  funext fr H
  refine propext ⟨fun ⟨j,h1,h2,h3⟩=>⟨⟨j,h2⟩,by have:=i.2;simp only;omega,h3⟩,fun ⟨j,h1,h3⟩=>⟨j.1,by have:=i.2;have:=j.2;omega,j.2,h3⟩⟩
 have:=h i.1 i.2
 rw [e] at this
 exact this
theorem nxt_of {full:Array Oper} {os:List Oper} {d:Option Nat} {r:Option (AV × AH)} {z:Option (AV→AH→Prop)} {v:AV} {H':AH} (e:r=some (v,H')) (h:nxt P tab full os k Q d fr (some (v,H')) z):nxt P tab full os k Q d fr r z:=by rw [e];exact h
def bsB (P:Program) (t len:Nat) (is:List Nat) (m:Nat) (vs:List AV) (H:AH):Option (AV × AH) :=
 match dT P t with
 | .sl e =>
   match zT P e with
   | some z =>
     if 0 < szT P e∧0 < len∧len * szT P e≤16777216∧z.length=szT P e then
      match fillA (fun i=>some (i * szT P e,szT P e)) (List.replicate len z).flatten (is.zip vs) with
      | some cs=>some (.c (.sl H.length 0 cs.length len),H++[.vec (szT P e) cs])
      | none=>none
     else if 0 < szT P e∧len=0∧m=0 then some (.c (.sl H.length 0 0 0),H++[.vec (szT P e) []])
     else none
   | none=>none
 | _=>none
theorem bsA_s {t len m:Nat} {is:List Nat} {vs:List AV} (_:len≤24):bsA P t len is m vs H=bsB P t len is m vs H:=rfl
theorem ev_str {l:List UInt8} (h:l.length≤9223372036854775807):ev fr (.const (.string ⟨l.toArray⟩))=.c (.s ⟨l.toArray⟩):=by
 have h2:ByteArray.size ⟨l.toArray⟩≤9223372036854775807:=h
 simp only [ev,absC,absS,h2,if_true]
theorem ab_s_add {t:Nat} {a b:ByteArray}:abin P .add t (.c (.s a)) (.c (.s b))=if a.size+b.size≤9223372036854775807 then some (.c (.s (a++b))) else none:=rfl
def lenB (d:D) (x:AV):Option AV :=
 match d,x with
 | .sl _,.c (.sl _ _ _ len)=>some (.c (.i len))
 | .sl _,.c .nils=>some (.c (.i 0))
 | .str,.c (.s s)=>some (.c (.i s.size))
 | .arr n _,_=>if n≤1048576 then some (.c (.i n)) else none
 | _,_=>none
theorem lenA_B {t:Nat} {x:AV}:lenA P t x=lenB (dT P t) x:=rfl
theorem lenB_sl {e id off ver n:Nat}:lenB (.sl e) (.c (.sl id off ver n))=some (.c (.i n)):=rfl
theorem lenB_nils {e:Nat}:lenB (.sl e) (.c .nils)=some (.c (.i 0)):=rfl
theorem lenB_str {s:ByteArray}:lenB .str (.c (.s s))=some (.c (.i s.size)):=rfl
theorem lenB_arr {n e:Nat} {x:AV}:lenB (.arr n e) x=if n≤1048576 then some (.c (.i n)) else none:=rfl
theorem bs_size {l:List UInt8}:ByteArray.size ⟨l.toArray⟩=l.length:=rfl
end Go.Am
/- What every seat's walks need of heaps. -/
namespace Go.Am
variable {P:Program} {tab:Tab} {k:List It} {fr:Fr} {H:AH} {Q:Fr→AH→Prop}
theorem bel_scs {H:AH} (hH:belH H=true) (id:Nat):(hg H id).scs.all (Sc.bel H.length)=true:=by
 rcases Nat.lt_or_ge id H.length with h | h
 ·have e:hg H id=H[id]:=by simp [hg,List.getD_eq_getElem?_getD,h]
  rw [e]
  exact List.all_eq_true.1 hH _ (List.getElem_mem h)
 ·rw [hg_ge H h];rfl
theorem bel_at {H:AH} (hH:belH H=true) (id:Nat):(hg H id).cells.all (Sc.bel H.length)=true:=cells_scs (bel_scs hH id)
theorem bel_set' {H:AH} {o:AObj} {i:Nat} (hH:belH H=true) (ho:o.scs.all (Sc.bel H.length)=true):belH (H.set i o)=true:=bel_set hH ho
theorem belH_app {H X:AH} (hH:belH H=true) (hX:∀o∈X,o.scs.all (Sc.bel (H++X).length)=true):belH (H++X)=true:=by
 unfold belH
 rw [List.all_append,Bool.and_eq_true]
 refine ⟨List.all_eq_true.2 fun o ho=>List.all_eq_true.2 fun s hs=>?_,List.all_eq_true.2 hX⟩
 have a:=List.all_eq_true.1 (List.all_eq_true.1 hH o ho) s hs
 exact Sc.bel_mono a (by simp)
theorem subH_pre {A B:AH} (P:AH) (h:subH A B):subH (P++A) (P++B):=by
 induction P with
 | nil=>exact h
 | cons o P ih=>exact ⟨.inr rfl,ih⟩
theorem hg_set_ne' {H:AH} {o:AObj} {m n:Nat} (h:m≠n):hg (H.set m o) n=hg H n:=hg_set_ne (by simpa using h)
theorem fin_fp {n:Nat} {v:AV} {H' H1:AH} (hv:v.bel H1.length=true) (hs:subH H1 H') (hb:belH H1=true) (hn:n≤H1.length):∃v',some v=some v'∧Wk n [(0,v')] H' ([(0,v)],H1) :=
 ⟨_,rfl,Wk.wk hn (by simp [Am.get]) (by simp [hv]) hs hb⟩
def Sc.num:Sc→Bool
 | .i _ | .u _ | .k _ _ | .b _ | .s _=>true
 | _=>false
theorem Sc.num_bel {s:Sc} (h:s.num=true) (n:Nat):s.bel n=true:=by cases s <;> first | rfl | simp [Sc.num] at h
theorem map_bel {α:Type} {g:α→Sc} (hg:∀x,(g x).num=true) (L:List α) (n:Nat):(L.map g).all (Sc.bel n)=true:=by
 rw [List.all_map,List.all_eq_true];intro x _;exact Sc.num_bel (hg x) n
theorem map_getD {α:Type} {g:α→Sc} {L:List α} {k:Nat} {x:α} (h:L[k]?=some x):(L.map g).getD k .any=g x:=by
 rw [List.getD_eq_getElem?_getD,List.getElem?_map,h];rfl
theorem wr_un {cs:List Sc} {off:Nat} {l:List Sc}:wr cs off l=cs.take off++l++cs.drop (off+l.length):=rfl
theorem wr_one {cs:List Sc} {k:Nat} {s:Sc} (h:k < cs.length):wr cs k [s]=cs.set k s:=by
 unfold wr
 rw [List.set_eq_take_append_cons_drop,if_pos h]
 simp
theorem wr_map {α:Type} {g:α→Sc} {L:List α} {k:Nat} {x:α} (h:k < L.length):wr (L.map g) k [g x]=(L.set k x).map g:=by
 rw [wr_one (by simpa using h),List.map_set]
def Sc.ren (σ:Nat→Nat):Sc→Sc
 | .p id o v=>.p (σ id) o v
 | .sl id o v n=>.sl (σ id) o v n
 | .mp id=>.mp (σ id)
 | .f fn cs=>.f fn (cs.map fun c=>(σ c.1,c.2))
 | x=>x
def AV.ren1 (σ:Nat→Nat):AV→AV
 | .c s=>.c (s.ren σ)
 | .g l=>.g (l.map (Sc.ren σ))
 | .t l=>.t l
def AV.ren (σ:Nat→Nat):AV→AV
 | .c s=>.c (s.ren σ)
 | .g l=>.g (l.map (Sc.ren σ))
 | .t l=>.t (l.map (AV.ren1 σ))
def AObj.ren (σ:Nat→Nat):AObj→AObj
 | .own cs=>.own (cs.map (Sc.ren σ))
 | .vec z cs=>.vec z (cs.map (Sc.ren σ))
 | .view cs=>.view (cs.map (Sc.ren σ))
 | .map clk es=>.map clk (es.map fun e=>(e.1,e.2.1.ren1 σ,e.2.2.ren1 σ))
 | .iter m since seen last=>.iter (σ m) since seen last
 | .dead=>.dead
theorem PRel.ren {ρ:Ro} {σ:Nat→Nat} {id off ver:Nat} {v:Value} (h:PRel ρ (σ id) off ver v):PRel (fun i=>ρ (σ i)) id off ver v:=h
theorem SRel.ren {ρ:Ro} {σ:Nat→Nat} {s:Sc} {v:Value} (h:SRel ρ (s.ren σ) v):SRel (fun i=>ρ (σ i)) s v:=by
 cases s with
 | f fn cs =>
   obtain ⟨cv,h1,h2⟩:=h
   refine ⟨cv,h1,?_⟩
   clear h1
   induction cs generalizing cv with
   | nil=>simp only [List.map_nil] at h2;cases h2;exact .nil
   | cons c cs ih =>
     simp only [List.map_cons] at h2
     cases h2 with
     | cons h t=>exact .cons h (ih _ t)
 | _=>exact h
theorem L2.ren {ρ:Ro} {σ:Nat→Nat} {l:List Sc} {c:List Value} (h:L2 (SRel ρ) (l.map (Sc.ren σ)) c):L2 (SRel fun i=>ρ (σ i)) l c:=by
 induction l generalizing c with
 | nil=>simp only [List.map_nil] at h;cases h;exact .nil
 | cons s l ih =>
   simp only [List.map_cons] at h
   cases h with
   | cons h t=>exact .cons h.ren (ih t)
theorem V1.ren {ρ:Ro} {σ:Nat→Nat} {x:AV} {v:Value} (h:V1 ρ (x.ren1 σ) v):V1 (fun i=>ρ (σ i)) x v:=by
 cases x with
 | c s=>exact SRel.ren h
 | g l=>obtain ⟨cs,h1,h2⟩:=h;exact ⟨cs,h1,h2.ren⟩
 | t l=>exact h
theorem VRel.ren {ρ:Ro} {σ:Nat→Nat} {x:AV} {v:Value} (h:VRel ρ (x.ren σ) v):VRel (fun i=>ρ (σ i)) x v:=by
 cases x with
 | c s=>exact SRel.ren h
 | g l=>obtain ⟨cs,h1,h2⟩:=h;exact ⟨cs,h1,h2.ren⟩
 | t l =>
   obtain ⟨vs,h1,h2⟩:=h
   refine ⟨vs,h1,?_⟩
   clear h1
   induction l generalizing vs with
   | nil=>simp only [List.map_nil] at h2;cases h2;exact .nil
   | cons a l ih =>
     simp only [List.map_cons] at h2
     cases h2 with
     | cons h t=>exact .cons (V1.ren h) (ih _ t)
theorem ORel.ren {ρ:Ro} {σ:Nat→Nat} {w:World} {i:Nat} {o:AObj} (h:ORel ρ w (σ i) (o.ren σ)):ORel (fun i=>ρ (σ i)) w i o:=by
 cases o with
 | own cs=>obtain ⟨L,c,t,h1,h2,h3,h4,h5,h6,h7⟩:=h;exact ⟨L,c,t,h1,h2,h3,h4,h5,h6,h7.ren⟩
 | vec sz cs =>
   obtain ⟨L,h1,h2,h3,h4,h5,h6⟩:=h
   refine ⟨L,h1,h2,by simpa using h3,h4,h5,?_⟩
   split
   ·rename_i hn;rw [if_pos hn] at h6;exact ⟨by simpa using h6.1,h6.2⟩
   ·rename_i hn;rw [if_neg hn] at h6
    obtain ⟨c,d,t,h7,h8,h9⟩:=h6
    exact ⟨c,d,t,h7,h8,h9.ren⟩
 | view cs =>
   obtain ⟨L,h1,h2,h3,h4,h5,h6⟩:=h
   refine ⟨L,h1,h2,h3,fun e=>by simpa using h4 e,h5,fun j s hjs=>?_⟩
   obtain ⟨v,h7,h8⟩:=h6 j (s.ren σ) (by rw [List.getElem?_map,hjs];rfl)
   exact ⟨v,h7,h8.ren⟩
 | map clk es =>
   obtain ⟨L,ems,h1,h2,h3,h4,h5,h6,h7⟩:=h
   refine ⟨L,ems,h1,h2,h3,h4,h5,h6,?_⟩
   clear h6
   induction es generalizing ems with
   | nil=>simp only [List.map_nil] at h7;cases h7;exact .nil
   | cons e es ih =>
     simp only [List.map_cons] at h7
     cases h7 with
     | cons h t=>exact .cons ⟨h.1,h.2.1.ren,h.2.2.ren⟩ (ih _ t)
 | iter m since seen last =>
   obtain ⟨L,b,h1,h2,h3,h4,h5,h6,h7⟩:=h
   exact ⟨L,b,h1,h2,h3,h4,h5,SRel.ren (s:=.mp m) h6,h7⟩
 | dead=>trivial
theorem AObj.ren_kind {σ:Nat→Nat} {o:AObj}:(o.ren σ).owned=o.owned∧(o.ren σ).live=o.live:=by cases o <;> exact ⟨rfl,rfl⟩
theorem Wk.ren {n:Nat} {fr fr':Fr} {H H':AH} (σ:Nat→Nat) (hn:n≤H'.length) (h0:∀i,i < n→σ i=i) (hinj:∀i j,(hg H' i).live=true→(hg H' j).live=true→σ i=σ j→i=j)
 (hf:∀p∈fr',Am.get fr p.1=p.2.ren σ) (hb:(fr'.all fun p=>p.2.bel H'.length)=true) (hH:∀i,hg H' i=.dead∨(hg H' i).ren σ=hg H (σ i)) (ho:belH H'=true):Wk n fr H (fr',H'):=by
 intro ρ w tm h1 h2
 have hown:∀i,(hg H' i).owned=true→(hg H (σ i)).owned=true:=by
  intro i hi
  rcases hH i with e | e
  ·rw [e] at hi;simp [AObj.owned] at hi
  ·rw [←e,AObj.ren_kind.1];exact hi
 have hlive:∀i,(hg H' i).live=true→(hg H (σ i)).live=true:=by
  intro i hi
  rcases hH i with e | e
  ·rw [e] at hi;simp [AObj.live] at hi
  ·rw [←e,AObj.ren_kind.2];exact hi
 refine ⟨Am.cut (fun i=>ρ (σ i)) H'.length,fun s=>?_,⟨fun i=>?_,fun i j Li Lj hij hio hLi hni hjl hLj hnj=>?_,fun i hi=>?_⟩,fun i L hi hL hnL=>?_,fun i hi=>by simp only [Am.cut];rw [if_pos (Nat.lt_of_lt_of_le hi hn),h0 i hi]⟩
 ·rcases get_mem (fr:=fr') (s:=s) with h | h
  ·show VRel _ (Am.get fr' s) _
   rw [h];trivial
  ·show VRel _ (Am.get fr' s) _
   have e:=hf _ h
   have hbel:=List.all_eq_true.1 hb _ h
   have:=h1 s
   simp only at e
   rw [e] at this
   exact this.ren.cut hbel
 ·rcases Nat.lt_or_ge i H'.length with hi | hi
  ·show ORel _ _ _ (hg H' i)
   rcases hH i with e | e
   ·rw [e];trivial
   ·have hO:=h2.obj (σ i)
    rw [←e] at hO
    exact hO.ren.cut hi (bel_scs ho i)
  ·show ORel _ _ _ (hg H' i)
   rw [hg_ge _ hi];trivial
 ·have hi:=hg_lt (AObj.owned_live hio)
  have hj:=hg_lt hjl
  simp only at hi hj hio hjl
  exact h2.sep (σ i) (σ j) Li Lj (fun e=>hij (hinj i j (AObj.owned_live hio) hjl e)) (hown i hio) (by simpa [Am.cut,hi] using hLi) hni (hlive j hjl) (by simpa [Am.cut,hj] using hLj) hnj
 ·simp only [Am.cut];rw [if_neg (by simp at hi;omega)]
 ·have hlt:=hg_lt (AObj.owned_live hi)
  simp only at hi hlt
  exact ⟨σ i,hown i hi,by simpa [Am.cut,hlt] using hL⟩
def tabR (n:Nat) (tab:List Nat) (i:Nat):Nat:=if i < n then i else n+tab.getD (i - n) 0
theorem tabR_lt {n i:Nat} {tab:List Nat} (h:i < n):tabR n tab i=i:=if_pos h
theorem tabR_0 {n:Nat} {tab:List Nat}:tabR n tab n=n+tab.getD 0 0:=by unfold tabR;rw [if_neg (Nat.lt_irrefl _),Nat.sub_self]
theorem tabR_k {n k:Nat} {tab:List Nat}:tabR n tab (n+k)=n+tab.getD k 0:=by unfold tabR;rw [if_neg (by omega),Nat.add_sub_cancel_left]
theorem Sc.ren_id {n:Nat} {tab:List Nat} {s:Sc} (h:s.bel n=true):s.ren (tabR n tab)=s:=by
 cases s <;> try rfl
 ·simp only [Sc.bel,decide_eq_true_eq] at h;simp only [Sc.ren,tabR_lt h]
 ·simp only [Sc.bel,decide_eq_true_eq] at h;simp only [Sc.ren,tabR_lt h]
 ·rename_i fn cs
  simp only [Sc.bel,List.all_eq_true,decide_eq_true_eq] at h
  simp only [Sc.ren]
  congr 1
  conv=>rhs;rw [←List.map_id cs]
  exact List.map_congr_left fun c hc=>by simp only [tabR_lt (h c hc)];rfl
 ·simp only [Sc.bel,decide_eq_true_eq] at h;simp only [Sc.ren,tabR_lt h]
theorem scs_ren_id {n:Nat} {tab:List Nat} {l:List Sc} (h:l.all (Sc.bel n)=true):l.map (Sc.ren (tabR n tab))=l:=by
 conv=>rhs;rw [←List.map_id l]
 exact List.map_congr_left fun s hs=>Sc.ren_id (List.all_eq_true.1 h s hs)
theorem AObj.ren_id {n:Nat} {tab:List Nat} {o:AObj} (h:o.scs.all (Sc.bel n)=true):o.ren (tabR n tab)=o:=by
 cases o with
 | own cs=>simp only [AObj.ren,scs_ren_id (l:=cs) h]
 | vec z cs=>simp only [AObj.ren,scs_ren_id (l:=cs) h]
 | view cs=>simp only [AObj.ren,scs_ren_id (l:=cs) h]
 | map clk es =>
   simp only [AObj.ren]
   congr 1
   have key:∀x:AV,x.scs.all (Sc.bel n)=true→x.ren1 (tabR n tab)=x:=by
    intro x hx
    cases x with
    | c s=>simp only [AV.scs,List.all_cons,List.all_nil,Bool.and_true] at hx;simp only [AV.ren1,Sc.ren_id hx]
    | g l=>simp only [AV.ren1,scs_ren_id (l:=l) hx]
    | t l=>rfl
   simp only [AObj.scs,List.all_flatMap,List.all_append] at h
   conv=>rhs;rw [←List.map_id es]
   refine List.map_congr_left fun e he=>?_
   have:=List.all_eq_true.1 h e he
   simp only [Bool.and_eq_true] at this
   simp only [key _ this.1,key _ this.2];rfl
 | iter m since seen last =>
   simp only [AObj.scs,List.all_cons,List.all_nil,Bool.and_true] at h
   have:=Sc.ren_id (n:=n) (tab:=tab) h
   simp only [Sc.ren,Sc.mp.injEq] at this
   simp only [AObj.ren,this]
 | dead=>rfl
theorem Wk.tail {n:Nat} {fr fr':Fr} {H0 X Y:AH} (tab:List Nat) (hn:n≤H0.length) (hb0:belH H0=true) (hlt:tab.length=Y.length) (hinj:∀i j,(hg Y i).live=true→(hg Y j).live=true→tab.getD i 0=tab.getD j 0→i=j)
 (hf:∀p∈fr',Am.get fr p.1=p.2.ren (tabR H0.length tab)) (hb:(fr'.all fun p=>p.2.bel (H0.length+Y.length))=true) (hY:∀i,hg Y i=.dead∨(hg Y i).ren (tabR H0.length tab)=hg X (tab.getD i 0))
 (ho:(Y.all fun o=>o.scs.all (Sc.bel (H0.length+Y.length)))=true):Wk n fr (H0++X) (fr',H0++Y):=by
 have gl:∀Z i,i < H0.length→hg (H0++Z) i=hg H0 i:=fun Z i h=>hg_lt' h
 have gg:∀Z k,hg (H0++Z) (H0.length+k)=hg Z k:=by
  intro Z k
  unfold hg
  rw [List.getD_eq_getElem?_getD,List.getD_eq_getElem?_getD,List.getElem?_append_right (by omega),Nat.add_sub_cancel_left]
 have hlow:∀i,i < H0.length→(hg H0 i).live=true→tabR H0.length tab i=i:=fun i h _=>tabR_lt h
 refine Wk.ren (tabR H0.length tab) (by simp;omega) (fun i hi=>tabR_lt (by omega)) ?_ hf (by simpa using hb) ?_ ?_
 ·intro i j hi hj he
  have li:=hg_lt hi
  have lj:=hg_lt hj
  rcases Nat.lt_or_ge i H0.length with h1 | h1
  ·rw [tabR_lt h1] at he
   rcases Nat.lt_or_ge j H0.length with h2 | h2
   ·rw [tabR_lt h2] at he;exact he
   ·obtain ⟨k,rfl⟩:∃k,j=H0.length+k:=⟨j - H0.length,by omega⟩
    rw [tabR_k] at he;omega
  ·obtain ⟨m,rfl⟩:∃k,i=H0.length+k:=⟨i - H0.length,by omega⟩
   rw [tabR_k] at he
   rcases Nat.lt_or_ge j H0.length with h2 | h2
   ·rw [tabR_lt h2] at he;omega
   ·obtain ⟨k,rfl⟩:∃k,j=H0.length+k:=⟨j - H0.length,by omega⟩
    rw [tabR_k] at he
    rw [gg] at hi hj
    have:=hinj m k hi hj (by omega)
    omega
 ·intro i
  rcases Nat.lt_or_ge i H0.length with h1 | h1
  ·rw [gl _ _ h1,tabR_lt h1,gl _ _ h1]
   exact .inr (AObj.ren_id (bel_scs hb0 i))
  ·obtain ⟨k,rfl⟩:∃k,i=H0.length+k:=⟨i - H0.length,by omega⟩
   rw [gg,tabR_k,gg]
   exact hY k
 ·exact belH_app hb0 fun o ho'=>by
   have:=List.all_eq_true.1 ho o ho'
   simpa using this
theorem Wk.tail1 {n:Nat} {fr fr':Fr} {H0 X:AH} {o:AObj} (k:Nat) (hn:n≤H0.length) (hb0:belH H0=true) (hk:hg X k=o) (ho:o.scs.all (Sc.bel H0.length)=true)
 (hf:∀p∈fr',Am.get fr p.1=p.2.ren (tabR H0.length [k])) (hb:(fr'.all fun p=>p.2.bel (H0.length+1))=true):Wk n fr (H0++X) (fr',H0++[o]):=by
 refine Wk.tail [k] hn hb0 rfl (fun i j hi hj _=>?_) hf hb (fun i=>?_) ?_
 ·have:=hg_lt hi;have:=hg_lt hj;simp only [List.length_cons,List.length_nil] at *;omega
 ·cases i with
  | zero=>exact .inr (by show o.ren _=hg X k;rw [AObj.ren_id ho,hk])
  | succ i=>exact .inl rfl
 ·simp only [List.all_cons,List.all_nil,Bool.and_true]
  exact List.all_eq_true.2 fun s hs=>Sc.bel_mono (List.all_eq_true.1 ho s hs) (by omega)
theorem fin_tail1 {n:Nat} {v v':AV} {H0 X:AH} {o:AObj} (k:Nat) (hn:n≤H0.length) (hb0:belH H0=true) (hk:hg X k=o) (ho:o.scs.all (Sc.bel H0.length)=true) (hv:v=v'.ren (tabR H0.length [k])) (hb:v'.bel (H0.length+1)=true) :
 ∃x,some v=some x∧Wk n [(0,x)] (H0++X) ([(0,v')],H0++[o]) :=
 ⟨v,rfl,Wk.tail1 k hn hb0 hk ho (by simp [Am.get,hv]) (by simp [hb])⟩
theorem ren_sl0 {n k a b c:Nat}:(AV.c (.sl n a b c)).ren (tabR n [k])=.c (.sl (n+k) a b c):=by simp [AV.ren,Sc.ren,tabR_0]
theorem as_len_y {l:Array Operand} {ts:List Nat} {t:Nat} {s:Sc} (h:(lenB (.sl 0) (.c s)).isSome=true):astep P tab (.call ⟨.builtin .len,l,(t::ts).toArray⟩) [.c s] H=(lenA P t (.c s)).map fun v=>(v,H):=by
 refine as_len0 ?_
 cases s <;> first | rfl | simp [lenB] at h
theorem tm_y {s:Sc} (h:(lenB (.sl 0) (.c s)).isSome=true):tcM [.c s]=.no:=by
 cases s <;> first | rfl | simp [lenB] at h
def tlOk (σ:Nat→Nat) (X:AH):List AObj→List Nat→Prop
 | [],[]=>True
 | y::Y,k::tab=>(y=.dead∨y.ren σ=hg X k)∧tlOk σ X Y tab
 | _,_=>False
theorem tlOk_get {σ:Nat→Nat} {X:AH}:∀{Y:List AObj} {tab:List Nat},tlOk σ X Y tab→tab.length=Y.length∧∀i,hg Y i=.dead∨(hg Y i).ren σ=hg X (tab.getD i 0)
 | [],[],_=>⟨rfl,fun i=>.inl rfl⟩
 | y::Y,k::tab,h=>by
   obtain ⟨h1,h2⟩:=tlOk_get h.2
   refine ⟨by simp [h1],fun i=>?_⟩
   cases i with
   | zero=>exact h.1
   | succ i=>exact h2 i
 | [],k::tab,h=>h.elim
 | y::Y,[],h=>h.elim
theorem Wk.tl {n:Nat} {fr fr':Fr} {H0 X Y:AH} (tab:List Nat) (hn:n≤H0.length) (hb0:belH H0=true) (hnd:tab.Nodup) (hY:tlOk (tabR H0.length tab) X Y tab)
 (hf:∀p∈fr',Am.get fr p.1=p.2.ren (tabR H0.length tab)) (hb:(fr'.all fun p=>p.2.bel (H0.length+Y.length))=true)
 (ho:(Y.all fun o=>o.scs.all (Sc.bel (H0.length+Y.length)))=true):Wk n fr (H0++X) (fr',H0++Y):=by
 obtain ⟨h1,h2⟩:=tlOk_get hY
 refine Wk.tail tab hn hb0 h1 (fun i j hi hj e=>?_) hf hb h2 ho
 have li:=hg_lt hi
 have lj:=hg_lt hj
 rw [←h1] at li lj
 rw [List.getD_eq_getElem?_getD,List.getD_eq_getElem?_getD,List.getElem?_eq_getElem li,List.getElem?_eq_getElem lj] at e
 exact (List.getElem_inj hnd).1 (by simpa using e)
end Go.Am
namespace Go.Am
attribute [go_sem] frA arun_scp arun_scj arun_label arun_goto popJ arun_nil arun_blk arun_back arun_ops_nil arun_skip arun_rgn arun_rgd arun_dr_nil gd_eq sd_go sd_gd nd_no nd_ld nd_mk nd_rd nd_bar nn_rd nn_bar nn_st gdd_tt gdd_ff gdd_tf gdd_ft gdd_u gdd_nu tc_load tc_store tc_alloc tc_box tc_buildSlice tc_makeSlice tc_call tc_move tc_assign tc_pick tc_build tc_nilCheck tc_binOp tc_unOp tc_convert tv_i tv_u tv_k tv_s tv_sl tv_nils tc_makeFunc tc_fieldAddr tc_field tc_indexAddr tc_index tc_slice tc_extract tc_len tm_sl tm_nils tm_s tm_g tm_p tm_any tm_mp tm_nilm tm_y tc_lookup tc_makeMap tc_mapUpdate tc_insert tc_delete tc_copy tc_clear tc_min tc_max tc_append tl_eq ts_eq tcC ok_nil ok_cons oe_ll oe_ls oe_lm oe_lr oe_lb oe_sl oe_ss oe_sm oe_sr oe_sb oe_ml oe_ms oe_mm oe_mr oe_mb oe_rl oe_rs oe_rm oe_rr oe_rb oe_bl oe_bs oe_bm oe_br oe_bb cl_ll cl_lm cl_lr cl_ls cl_lb cl_sl cl_ss cl_sm cl_sr cl_sb cl_ml cl_ms cl_mm cl_mr cl_mb cl_rl cl_rs cl_rm cl_rr cl_rb cl_bl cl_bs cl_bm cl_br cl_bb arun_seq arun_block arun_ret arun_exit arun_cnd cnd_tt cnd_ff cnd_qq popB nxt_put nxt_non putA_some putA_none st_go st_gd gslot dstA List.getElem?_toArray grd_tt grd_ff grd_tf grd_ft grd_u grd_nu op_move op_assign op_box op_load op_nilCheck op_unOp op_convert op_fieldAddr op_field op_extract op_pick op_build op_buildSlice op_store op_binOp op_makeSlice op_indexAddr op_index op_makeFunc op_slice op_call op_builtin op_alloc op_range op_next op_entry as_range as_entry as_next rngA entA as_move as_assign as_pick as_build as_load as_nilCheck as_nilCheckf as_bin as_un as_cv_i as_cv_u as_cv_k as_cv_sl as_cv_nils cvS as_makeFunc as_fieldAddr as_indexAddr as_index as_slice10 as_slice01 as_extract as_len_sl as_len_nils as_len_s as_len_mp as_len_nilm as_len_y Option.isSome_some as_lookup as_mapUpdate as_insert as_makeMap0 as_makeMap1 as_delete as_clear as_copy copA lookA updA delA mlenA clrA mkmA mokA as_min as_max as_append as_call as_alloc as_box as_store as_buildSlice bsB bsA_s ev_str bs_size ab_s_add List.size_toArray List.toList_toArray Nat.mul_one Nat.one_mul Nat.zero_mul Nat.mul_zero Nat.zero_add Nat.add_zero as_makeSlice msA appA srcA List.flatten_cons List.flatten_nil ev_tmp ev_func ev_i ev_u ev_b ev_nils ev_nilp ev_nilf get_same get_ne List.map_cons List.map_nil List.map_toArray ab_u_add ab_u_sub ab_u_mul ab_u_quo ab_u_rem ab_u_and ab_u_or ab_u_xor ab_u_andNot ab_u_eql ab_u_neq ab_u_lss ab_u_leq ab_u_gtr ab_u_geq ab_u_shl ab_u_shr ab_i_add ab_i_sub ab_i_mul ab_i_quo ab_i_rem ab_i_eql ab_i_neq ab_i_lss ab_i_leq ab_i_gtr ab_i_geq ab_i_shlu ab_i_shru ab_b_eql ab_b_neq ab_s_eql ab_s_neq au_not au_neg_i au_neg_u au_xor_u ev_u8 cv_u_u8 cv_k_i64 cv_k_u64 ab_k_eql ab_k_shlu ab_k_shru cv_ui cv_iu Option.map_some Option.bind_some Int.toNat_natCast Int.cast_ofNat_Int and_self and_true true_and if_true if_false ite_true ite_false Option.toList_some Option.toList_none sliceA slice3A loOf hiOf allocA storeA callA Am.look buildA fillA placeA fldA fldV D.agg D.is rd ldA indexAddrA indexA ixA lenA_B lenB_sl lenB_nils lenB_str lenB_arr AV.cells oc_own oc_vec oc_view or_own or_vec or_view oo_own oo_vec ol_own ol_vec ol_view op_own op_vec Sc.one caps capV hg_zero hg_succ hg_len hg_len_add set_len set_len_add List.set_set List.length_nil List.length_cons List.nil_append List.append_nil List.cons_append List.append_assoc List.length_append List.getElem?_cons_zero List.getElem?_cons_succ List.getD_cons_zero List.getD_cons_succ List.zip_cons_cons List.zip_nil_right List.zip_nil_left List.take_zero List.take_nil List.take_succ_cons List.drop_succ_cons List.drop_zero List.drop_nil List.all_cons List.all_nil Bool.and_true Bool.true_and List.set_cons_zero List.set_cons_succ true_or or_true false_or or_false Bool.true_or Bool.or_true Bool.false_or Bool.or_false decide_true decide_false beq_self_eq_true not_true_eq_false not_false_eq_true decide_eq_true_eq Bool.not_eq_true' Bool.not_true Bool.not_false Bool.false_eq_true Bool.not_eq_eq_eq_not decide_eq_false_iff_not imp_self false_imp_iff true_imp_iff forall_const Bool.true_eq_false eq_self Bool.true_beq Bool.false_beq Bool.and_false Bool.false_and csEq scEq eqU resA resL res1 AV.flat
attribute [go_sem 500] wr_un
end Go.Am
set_option maxRecDepth 100000
set_option maxHeartbeats 8000000
namespace Go.Proofs.YteclombpnhociaaGreat
open Go.Am
def zRow (n:Nat) (s:Sc):List Sc:=List.replicate n s
theorem hmix:Tryz.prog.follows .mixedOrders=true:=by kernel_rfl
theorem neq1T1 {f:Nat} {c:List (Nat × Nat × Nat)} :abin Tryz.prog .neq 1 (.c (.f f c)) (.c .nilf)=some (.c (.b true)):=by kernel_rfl
theorem dT2:dT Tryz.prog 2=.int .i64:=by kernel_rfl
theorem dT3:dT Tryz.prog 3=.int .i64:=by kernel_rfl
theorem sT3:szT Tryz.prog 3=1:=by kernel_rfl
theorem bT3:byT Tryz.prog 3=8:=by kernel_rfl
theorem zT3:zT Tryz.prog 3=some [.i 0]:=by kernel_rfl
theorem dT4:dT Tryz.prog 4=.bool:=by kernel_rfl
theorem sT4:szT Tryz.prog 4=1:=by kernel_rfl
theorem zT4:zT Tryz.prog 4=some [.b false]:=by kernel_rfl
theorem dT5:dT Tryz.prog 5=.int .u8:=by kernel_rfl
theorem sT5:szT Tryz.prog 5=1:=by kernel_rfl
theorem bT5:byT Tryz.prog 5=1:=by kernel_rfl
theorem zT5:zT Tryz.prog 5=some [.k .u8 (0)]:=by kernel_rfl
theorem dT9:dT Tryz.prog 9=.str:=by kernel_rfl
theorem sT9:szT Tryz.prog 9=1:=by kernel_rfl
theorem dT22:dT Tryz.prog 22=.sl 58:=by kernel_rfl
theorem sT22:szT Tryz.prog 22=1:=by kernel_rfl
theorem dT23:dT Tryz.prog 23=.arr 4 22:=by kernel_rfl
theorem dT24:dT Tryz.prog 24=.sl 5:=by kernel_rfl
theorem sT24:szT Tryz.prog 24=1:=by kernel_rfl
theorem dT26:dT Tryz.prog 26=.st [(0,3),(1,3),(2,3),(3,3)]:=by kernel_rfl
theorem sT26:szT Tryz.prog 26=4:=by kernel_rfl
theorem zT26:zT Tryz.prog 26=some [.i 0,.i 0,.i 0,.i 0]:=by kernel_rfl
theorem dT27:dT Tryz.prog 27=.ptr 90:=by kernel_rfl
theorem sT27:szT Tryz.prog 27=1:=by kernel_rfl
theorem zT27:zT Tryz.prog 27=some [.nilp]:=by kernel_rfl
theorem eql1T27 {a b c:Nat} :abin Tryz.prog .eql 27 (.c (.p a b c)) (.c .nilp)=some (.c (.b false)):=by kernel_rfl
theorem eql2T27:abin Tryz.prog .eql 27 (.c .nilp) (.c .nilp)=some (.c (.b true)):=by kernel_rfl
theorem dT31:dT Tryz.prog 31=.ptr 93:=by kernel_rfl
theorem sT31:szT Tryz.prog 31=1:=by kernel_rfl
theorem zT31:zT Tryz.prog 31=some [.nilp]:=by kernel_rfl
theorem eql1T31 {a b c:Nat} :abin Tryz.prog .eql 31 (.c (.p a b c)) (.c .nilp)=some (.c (.b false)):=by kernel_rfl
theorem neq1T31 {a b c:Nat} :abin Tryz.prog .neq 31 (.c (.p a b c)) (.c .nilp)=some (.c (.b true)):=by kernel_rfl
theorem neq2T31:abin Tryz.prog .neq 31 (.c .nilp) (.c .nilp)=some (.c (.b false)):=by kernel_rfl
theorem dT36:dT Tryz.prog 36=.st [(0,24)]:=by kernel_rfl
theorem sT36:szT Tryz.prog 36=1:=by kernel_rfl
theorem zT36:zT Tryz.prog 36=some [.nils]:=by kernel_rfl
theorem dT37:dT Tryz.prog 37=.arr 8 4:=by kernel_rfl
theorem sT37:szT Tryz.prog 37=8:=by kernel_rfl
theorem zT37:zT Tryz.prog 37=some [.b false,.b false,.b false,.b false,.b false,.b false,.b false,.b false]:=by kernel_rfl
theorem dT38:dT Tryz.prog 38=.int .u64:=by kernel_rfl
theorem sT38:szT Tryz.prog 38=1:=by kernel_rfl
theorem bT38:byT Tryz.prog 38=8:=by kernel_rfl
theorem zT38:zT Tryz.prog 38=some [.u 0#64]:=by kernel_rfl
theorem dT39:dT Tryz.prog 39=.arr 8 38:=by kernel_rfl
theorem sT39:szT Tryz.prog 39=8:=by kernel_rfl
theorem dT41:dT Tryz.prog 41=.st [(0,37),(8,39)]:=by kernel_rfl
theorem sT41:szT Tryz.prog 41=16:=by kernel_rfl
theorem zT41:zT Tryz.prog 41=some [.b false,.b false,.b false,.b false,.b false,.b false,.b false,.b false,.u 0#64,.u 0#64,.u 0#64,.u 0#64,.u 0#64,.u 0#64,.u 0#64,.u 0#64]:=by kernel_rfl
theorem dT43:dT Tryz.prog 43=.st [(0,26),(4,36),(5,41)]:=by kernel_rfl
theorem sT43:szT Tryz.prog 43=21:=by kernel_rfl
theorem zT43:zT Tryz.prog 43=some [.i 0,.i 0,.i 0,.i 0,.nils,.b false,.b false,.b false,.b false,.b false,.b false,.b false,.b false,.u 0#64,.u 0#64,.u 0#64,.u 0#64,.u 0#64,.u 0#64,.u 0#64,.u 0#64]:=by kernel_rfl
theorem dT45:dT Tryz.prog 45=.sl 3:=by kernel_rfl
theorem sT45:szT Tryz.prog 45=1:=by kernel_rfl
theorem eql1T45 {a b c n:Nat} :abin Tryz.prog .eql 45 (.c (.sl a b c n)) (.c .nils)=if n=0 then some (.c .qq) else some (.c (.b false)):=by kernel_rfl
theorem eql2T45:abin Tryz.prog .eql 45 (.c .nils) (.c .nils)=some (.c (.b true)):=by kernel_rfl
theorem dT47:dT Tryz.prog 47=.st [(0,45),(1,3),(2,4),(3,3)]:=by kernel_rfl
theorem sT47:szT Tryz.prog 47=4:=by kernel_rfl
theorem zT47:zT Tryz.prog 47=some [.nils,.i 0,.b false,.i 0]:=by kernel_rfl
theorem dT48:dT Tryz.prog 48=.arr 4 47:=by kernel_rfl
theorem zT48:zT Tryz.prog 48=some [.nils,.i 0,.b false,.i 0,.nils,.i 0,.b false,.i 0,.nils,.i 0,.b false,.i 0,.nils,.i 0,.b false,.i 0]:=by kernel_rfl
theorem dT49:dT Tryz.prog 49=.arr 4 4:=by kernel_rfl
theorem zT49:zT Tryz.prog 49=some [.b false,.b false,.b false,.b false]:=by kernel_rfl
theorem dT50:dT Tryz.prog 50=.arr 4 3:=by kernel_rfl
theorem zT50:zT Tryz.prog 50=some [.i 0,.i 0,.i 0,.i 0]:=by kernel_rfl
theorem dT51:dT Tryz.prog 51=.int .i64:=by kernel_rfl
theorem sT51:szT Tryz.prog 51=1:=by kernel_rfl
theorem dT52:dT Tryz.prog 52=.int .i64:=by kernel_rfl
theorem sT52:szT Tryz.prog 52=1:=by kernel_rfl
theorem dT58:dT Tryz.prog 58=.st [(0,51),(1,38),(2,38),(3,3),(4,3),(5,52),(6,38),(7,38),(8,4),(9,3),(10,54),(15,56)]:=by kernel_rfl
theorem sT58:szT Tryz.prog 58=19:=by kernel_rfl
theorem zT58:zT Tryz.prog 58=some [.i 0,.u 0#64,.u 0#64,.i 0,.i 0,.i 0,.u 0#64,.u 0#64,.b false,.i 0,.b false,.b false,.b false,.u 0#64,.i 0,.i 0,.u 0#64,.i 0,.u 0#64]:=by kernel_rfl
theorem dT66:dT Tryz.prog 66=.st [(0,38),(1,4),(2,64)]:=by kernel_rfl
theorem sT66:szT Tryz.prog 66=42:=by kernel_rfl
theorem dT72:dT Tryz.prog 72=.arr 64 5:=by kernel_rfl
theorem sT72:szT Tryz.prog 72=64:=by kernel_rfl
theorem zT72:zT Tryz.prog 72=some (zRow 64 (.k .u8 (0))):=by kernel_rfl
theorem dT73:dT Tryz.prog 73=.arr 64 5:=by kernel_rfl
theorem sT73:szT Tryz.prog 73=64:=by kernel_rfl
theorem zT73:zT Tryz.prog 73=some (zRow 64 (.k .u8 (0))):=by kernel_rfl
theorem dT74:dT Tryz.prog 74=.ptr 126:=by kernel_rfl
theorem sT74:szT Tryz.prog 74=1:=by kernel_rfl
theorem eql1T74 {a b c:Nat} :abin Tryz.prog .eql 74 (.c (.p a b c)) (.c .nilp)=some (.c (.b false)):=by kernel_rfl
theorem dT83:dT Tryz.prog 83=.st [(0,74)]:=by kernel_rfl
theorem sT83:szT Tryz.prog 83=1:=by kernel_rfl
theorem zT83:zT Tryz.prog 83=some [.nilp]:=by kernel_rfl
theorem dT85:dT Tryz.prog 85=.st [(0,4),(1,38)]:=by kernel_rfl
theorem sT85:szT Tryz.prog 85=2:=by kernel_rfl
theorem zT85:zT Tryz.prog 85=some [.b false,.u 0#64]:=by kernel_rfl
theorem gT85:tagsT Tryz.prog 12 85=some [.q,.n]:=by kernel_rfl
theorem eqT85 {a b:List Sc}:abin Tryz.prog .eql 85 (.g a) (.g b)=(csEq [.q,.n] a b).bind (eqU .eql):=ab_g_eql _ (by simp only [dT85,D.agg]) gT85
theorem dT86:dT Tryz.prog 86=.arr 8 85:=by kernel_rfl
theorem sT86:szT Tryz.prog 86=16:=by kernel_rfl
theorem dT88:dT Tryz.prog 88=.st [(0,86)]:=by kernel_rfl
theorem sT88:szT Tryz.prog 88=16:=by kernel_rfl
theorem dT90:dT Tryz.prog 90=.st [(0,83),(1,26),(5,88)]:=by kernel_rfl
theorem zT90:zT Tryz.prog 90=some [.nilp,.i 0,.i 0,.i 0,.i 0,.b false,.u 0#64,.b false,.u 0#64,.b false,.u 0#64,.b false,.u 0#64,.b false,.u 0#64,.b false,.u 0#64,.b false,.u 0#64,.b false,.u 0#64]:=by kernel_rfl
theorem mT91:mT Tryz.prog 91=some (3,104):=by kernel_rfl
theorem kA3:kA Tryz.prog 3=some false:=by kernel_rfl
theorem kOkI3 {x:Int}:kOk Tryz.prog 3 (.c (.i x))=true:=by unfold kOk;rw [kA3]
theorem zA104:zA Tryz.prog 104=some (.c (.nilp)):=by kernel_rfl
theorem dT93:dT Tryz.prog 93=.st [(0,3),(1,91)]:=by kernel_rfl
theorem zT93:zT Tryz.prog 93=some [.i 0,.nilm]:=by kernel_rfl
theorem dT100:dT Tryz.prog 100=.st [(0,38),(1,38),(2,3),(3,3)]:=by kernel_rfl
theorem sT100:szT Tryz.prog 100=4:=by kernel_rfl
theorem zT100:zT Tryz.prog 100=some [.u 0#64,.u 0#64,.i 0,.i 0]:=by kernel_rfl
theorem eql1T102 {a b c:Nat} :abin Tryz.prog .eql 102 (.c (.p a b c)) (.c .nilp)=some (.c (.b false)):=by kernel_rfl
theorem eql2T102:abin Tryz.prog .eql 102 (.c .nilp) (.c .nilp)=some (.c (.b true)):=by kernel_rfl
theorem eql1T104 {a b c:Nat} :abin Tryz.prog .eql 104 (.c (.p a b c)) (.c .nilp)=some (.c (.b false)):=by kernel_rfl
theorem eql2T104:abin Tryz.prog .eql 104 (.c .nilp) (.c .nilp)=some (.c (.b true)):=by kernel_rfl
theorem neq1T104 {a b c:Nat} :abin Tryz.prog .neq 104 (.c (.p a b c)) (.c .nilp)=some (.c (.b true)):=by kernel_rfl
theorem neq2T104:abin Tryz.prog .neq 104 (.c .nilp) (.c .nilp)=some (.c (.b false)):=by kernel_rfl
theorem dT107:dT Tryz.prog 107=.st [(0,3),(1,45)]:=by kernel_rfl
theorem zT107:zT Tryz.prog 107=some [.i 0,.nils]:=by kernel_rfl
theorem mT124:mT Tryz.prog 124=some (128,73):=by kernel_rfl
theorem kA128:kA Tryz.prog 128=some true:=by kernel_rfl
theorem kOkG128 {l:List Sc}:kOk Tryz.prog 128 (.g l)=decide (l.length=2):=by unfold kOk;rw [kA128];rfl
theorem zA73:zA Tryz.prog 73=some (.g (zRow 64 (.k .u8 (0)))):=by kernel_rfl
theorem dT126:dT Tryz.prog 126=.st [(0,3),(1,124)]:=by kernel_rfl
theorem zT126:zT Tryz.prog 126=some [.i 0,.nilm]:=by kernel_rfl
theorem dT128:dT Tryz.prog 128=.st [(0,3),(1,3)]:=by kernel_rfl
theorem sT128:szT Tryz.prog 128=2:=by kernel_rfl
theorem zT128:zT Tryz.prog 128=some [.i 0,.i 0]:=by kernel_rfl
theorem gT128:tagsT Tryz.prog 12 128=some [.n,.n]:=by kernel_rfl
theorem dT132:dT Tryz.prog 132=.int .u64:=by kernel_rfl
theorem dT133:dT Tryz.prog 133=.sl 136:=by kernel_rfl
theorem dT136:dT Tryz.prog 136=.st [(0,38),(1,3),(2,3)]:=by kernel_rfl
theorem sT136:szT Tryz.prog 136=3:=by kernel_rfl
theorem bT136:byT Tryz.prog 136=24:=by kernel_rfl
theorem zT136:zT Tryz.prog 136=some [.u 0#64,.i 0,.i 0]:=by kernel_rfl
theorem dT139:dT Tryz.prog 139=.sl 38:=by kernel_rfl
theorem eql1T150 {a b c:Nat} :abin Tryz.prog .eql 150 (.c (.p a b c)) (.c .nilp)=some (.c (.b false)):=by kernel_rfl
theorem eql2T150:abin Tryz.prog .eql 150 (.c .nilp) (.c .nilp)=some (.c (.b true)):=by kernel_rfl
theorem neq1T150 {a b c:Nat} :abin Tryz.prog .neq 150 (.c (.p a b c)) (.c .nilp)=some (.c (.b true)):=by kernel_rfl
theorem dT152:dT Tryz.prog 152=.st [(0,38),(1,38),(2,3),(3,3)]:=by kernel_rfl
theorem sT152:szT Tryz.prog 152=4:=by kernel_rfl
theorem zT152:zT Tryz.prog 152=some [.u 0#64,.u 0#64,.i 0,.i 0]:=by kernel_rfl
theorem dT186:dT Tryz.prog 186=.sl 9:=by kernel_rfl
attribute [go_sem] neq1T1 dT2 dT3 sT3 bT3 zT3 dT4 sT4 zT4 dT5 sT5 bT5 zT5 dT9 sT9 dT22 sT22 dT23 dT24 sT24 dT26 sT26 zT26 dT27 sT27 zT27 eql1T27 eql2T27 dT31 sT31 zT31 eql1T31 neq1T31 neq2T31 dT36 sT36 zT36 dT37 sT37 zT37 dT38 sT38 bT38 zT38 dT39 sT39 dT41 sT41 zT41 dT43 sT43 zT43 dT45 sT45 eql1T45 eql2T45 dT47 sT47 zT47 dT48 zT48 dT49 zT49 dT50 zT50 dT51 sT51 dT52 sT52 dT58 sT58 zT58 dT66 sT66 dT72 sT72 zT72 dT73 sT73 zT73 dT74 sT74 eql1T74 dT83 sT83 zT83 dT85 sT85 zT85 eqT85 dT86 sT86 dT88 sT88 dT90 zT90 mT91 kA3 kOkI3 zA104 dT93 zT93 dT100 sT100 zT100 eql1T102 eql2T102 eql1T104 eql2T104 neq1T104 neq2T104 dT107 zT107 mT124 kA128 kOkG128 zA73 dT126 zT126 dT128 sT128 zT128 dT132 dT133 dT136 sT136 bT136 zT136 dT139 eql1T150 eql2T150 neq1T150 dT152 sT152 zT152 dT186
end Go.Proofs.YteclombpnhociaaGreat
