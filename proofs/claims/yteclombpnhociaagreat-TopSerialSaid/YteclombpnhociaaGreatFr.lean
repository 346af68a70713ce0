/- An abstract machine for the model, part 2: its runs, and that they are the model's: no conditions. -/
import Derived.Test.YteclombpnhociaaGreatAl
import Derived.Laws.IdiomRangeMap
import Derived.Scope
import Derived.ScopeJumps
import Derived.ProofKit
import Derived.OpenShut
set_option linter.unusedSimpArgs false
set_option linter.unusedVariables false
/- What 'arun' says holds of the model. -/
set_option maxRecDepth 100000
set_option maxHeartbeats 8000000
namespace Go.Am
variable {P:Program} {tab:Tab}
section eqs
variable {k:List It} {fr:Fr} {H:AH} {Q:Fr→AH→Prop}
theorem arun_nil:arun P tab [] fr H Q=Q fr H:=by rw [arun]
theorem arun_blk {id:Nat}:arun P tab (.blk id::k) fr H Q=arun P tab k fr H Q:=by rw [arun]
theorem arun_back {I:Fr→AH→Prop}:arun P tab (.back I::k) fr H Q=I fr H:=by rw [arun]
theorem arun_ops_nil {full:Array Oper}:arun P tab (.ops full []::k) fr H Q=arun P tab k fr H Q:=by rw [arun]
theorem arun_skip:arun P tab (.c .skip::k) fr H Q=arun P tab k fr H Q:=by rw [arun]
theorem arun_region {id:Nat} {ops:Array Oper}:arun P tab (.c (.region id ops false)::k) fr H Q=arun P tab (.ops ops ops.toList::k) fr H Q:=by rw [arun]
theorem arun_regiond {id:Nat} {ops:Array Oper}:arun P tab (.c (.region id ops true)::k) fr H Q=arun P tab (.dr ops ops.toList 0 []::k) fr H Q:=by rw [arun]
theorem arun_dr_nil {full:Array Oper} {i:Nat} {log:List (Nat × Tc)}:arun P tab (.dr full [] i log::k) fr H Q=arun P tab k fr H Q:=by rw [arun]
theorem arun_dr {full:Array Oper} {o:Oper} {os:List Oper} {i:Nat} {log:List (Nat × Tc)}:arun P tab (.dr full (o::os) i log::k) fr H Q =
 match o.guard with
 | none =>
   match astep P tab o.op ((opnds o.op).map (ev fr)) H with
   | some (v,H')=>okT full i (tcx (tcof P tab o.op ((opnds o.op).map (ev fr))) H H') log∧arun P tab (.dr full os (i+1) (psh i (tcx (tcof P tab o.op ((opnds o.op).map (ev fr))) H H') log)::k) (putA o.dst v fr) H' Q
   | none=>False
 | some (j,want) =>
   match gval full fr j with
   | some (some q) =>
     if q=want then
      match astep P tab o.op ((opnds o.op).map (ev fr)) H with
      | some (v,H')=>okT full i (tcx (tcof P tab o.op ((opnds o.op).map (ev fr))) H H') log∧arun P tab (.dr full os (i+1) (psh i (tcx (tcof P tab o.op ((opnds o.op).map (ev fr))) H H') log)::k) (putA o.dst v fr) H' Q
      | none=>False
     else arun P tab (.dr full os (i+1) log::k) (putA o.dst (.c .und) fr) H Q
   | some none=>arun P tab (.dr full os (i+1) log::k) (putA o.dst (.c .und) fr) H Q
   | none=>False:=by rw [arun] <;> rfl
theorem arun_scp:arun P tab (.scp::k) fr H Q=arun P tab k fr H Q:=by rw [arun]
theorem arun_scj {l:Nat} {J:Fr→AH→Prop}:arun P tab (.scj l J::k) fr H Q=arun P tab k fr H Q:=by rw [arun]
theorem arun_label {l:Nat}:arun P tab (.c (.label l)::k) fr H Q=arun P tab k fr H Q:=by rw [arun]
theorem arun_scope {c:Code}:arun P tab (.c (.scope c)::k) fr H Q=(arun P tab (.c c::.scp::k) fr H Q∨∃(l:Nat) (rest:Code) (J:Fr→AH→Prop),findLabel c l=some rest∧arun P tab (.c c::.scj l J::k) fr H Q ∧
 ∃_:cwt rest≤cwt c,∀fr H,J fr H→arun P tab (.c rest::.scp::k) fr H Q):=by rw [arun]
theorem arun_goto {l:Nat}:arun P tab (.c (.goto l)::k) fr H Q=match popJ l k with | some J=>J fr H | none=>False:=by first | (rw [arun];done) | (rw [arun];split <;> simp_all)
theorem arun_seq {a b:Code}:arun P tab (.c (.seq a b)::k) fr H Q=arun P tab (.c a::.c b::k) fr H Q:=by rw [arun]
theorem arun_block {id:Nat} {c:Code}:arun P tab (.c (.block id c)::k) fr H Q=arun P tab (.c c::.blk id::k) fr H Q:=by rw [arun]
theorem arun_ret:arun P tab (.c .ret::k) fr H Q=Q fr H:=by rw [arun]
theorem arun_exit {id:Nat}:arun P tab (.c (.exit id)::k) fr H Q=match popB id k with | some k'=>arun P tab k' fr H Q | none=>False:=by
 rw [arun];split <;> simp_all
theorem arun_cond {x:Operand} {a b:Code}:arun P tab (.c (.cond x a b)::k) fr H Q=match ev fr x with | .c (.b q)=>if q=true then arun P tab (.c a::k) fr H Q else arun P tab (.c b::k) fr H Q | .c .qq=>arun P tab (.c a::k) fr H Q∧arun P tab (.c b::k) fr H Q | _=>False:=by rw [arun] <;> rfl
theorem arun_loop {c:Code}:arun P tab (.c (.loop c)::k) fr H Q = ∃(ι:Type) (F:ι→Fr × AH) (μ:ι→Nat) (i0:ι),Wk (lo tab) fr H (F i0) ∧
 ∀i,arun P tab (.c c::.back (fun fr H=>∃j,μ j < μ i∧Wk (lo tab) fr H (F j))::k) (F i).1 (F i).2 Q:=by rw [arun]
theorem arun_op {full:Array Oper} {o:Oper} {os:List Oper}:arun P tab (.ops full (o::os)::k) fr H Q =
 match o.guard with
 | none =>
   match astep P tab o.op ((opnds o.op).map (ev fr)) H with
   | some (v,H')=>arun P tab (.ops full os::k) (putA o.dst v fr) H' Q
   | none =>
     match mayS tab o.op ((opnds o.op).map (ev fr)) H with
     | some R=>∀v H',R v H'→arun P tab (.ops full os::k) (putA o.dst v fr) H' Q
     | none=>False
 | some (j,want) =>
   match gval full fr j with
   | some (some q) =>
     if q=want then
      match astep P tab o.op ((opnds o.op).map (ev fr)) H with
      | some (v,H')=>arun P tab (.ops full os::k) (putA o.dst v fr) H' Q
      | none=>False
     else arun P tab (.ops full os::k) (putA o.dst (.c .und) fr) H Q
   | some none=>arun P tab (.ops full os::k) (putA o.dst (.c .und) fr) H Q
   | none=>False:=by rw [arun] <;> rfl
end eqs
def ρ0:Ro:=fun _=>none
structure PuOk (P:Program) (f:Nat) (s:List AV→Option AV):Prop where
 enters:∀args w,(callFunc f args).run P w=.ok (.enter f args) w
 pure:∀args v,s args=some v→∀(ρ:Ro) (w:World) (cs:List Value),L2 (VRel ρ) args cs →
  Calls P f cs.toArray w fun e w'=>∃vc,e=.returned vc∧(∀ρ':Ro,VRel ρ' v vc)∧Keep w (fun _=>False) w'
def Owns (ρ:Ro) (H:AH) (b:Nat):Prop:=∃i L,(hg H i).owned=true∧ρ i=some L∧L.nil=false∧L.blk=b
structure FpOk (P:Program) (f:Nat) (s:List AV→AH→Option (AV × AH)):Prop where
 enters:∀args w,(callFunc f args).run P w=.ok (.enter f args) w
 len:∀args H v H',s args H=some (v,H')→H.length≤H'.length
 runs:∀args H v H',s args H=some (v,H')→∀(ρ:Ro) (w:World) (cs:List Value),L2 (VRel ρ) args cs→HR ρ w H →
  Calls P f cs.toArray w fun e w'=>∃vc ρ',e=.returned vc∧VRel ρ' v vc∧HR ρ' w' H'∧Stab ρ ρ'∧Keep w (Owns ρ H) w'∧(∀b,Owns ρ' H' b→Owns ρ H b∨w.heap.size≤b)
structure FrOk (P:Program) (f:Nat) (s:List AV→AH→Option (AV→AH→Prop)):Prop where
 enters:∀args w,(callFunc f args).run P w=.ok (.enter f args) w
 runs:∀args H R,s args H=some R→∀(ρ:Ro) (w:World) (cs:List Value),L2 (VRel ρ) args cs→HR ρ w H →
  Calls P f cs.toArray w fun e w'=>∃v H' vc ρ',R v H'∧e=.returned vc∧VRel ρ' v vc∧HR ρ' w' H'∧Stab ρ ρ'∧Keep w (Owns ρ H) w'∧(∀b,Owns ρ' H' b→Owns ρ H b∨w.heap.size≤b)
def EntOk (P:Program) (f:Nat):Ent→Prop
 | .pu s=>PuOk P f s
 | .fp s=>FpOk P f s
 | .fq s=>FpOk P f fun args H=>(s args H).map fun v=>(v,H)
 | .fr s=>FrOk P f s
 | .lo _=>True
def TabOk (P:Program) (tab:Tab):Prop:=∀f e,look tab f=some e→EntOk P f e
theorem TabOk.nil:TabOk P []:=fun f e h=>by simp [look] at h
theorem TabOk.cons {f:Nat} {e:Ent} (h:EntOk P f e) (ht:TabOk P tab):TabOk P ((f,e)::tab):=by
 intro g x hx
 simp only [look] at hx
 split at hx
 ·simp at hx;subst_vars;exact h
 ·exact ht g x hx
structure Fx where
 m:Nat→Prop
 n:Nat
 r:Ro
structure St (N:Nat) (w0:World) (M:Fx) (ρ:Ro) (fr:Fr) (H:AH) (a:Act) (w:World):Prop where
 fr:∀s,VRel ρ (get fr s) (a.tmps.getD s undef)
 sz:a.tmps.size=N
 df:a.defers=[]
 hr:HR ρ w H
 kp:Keep w0 M.m w
 ow:∀i L,(hg H i).owned=true→ρ i=some L→L.nil=false→(M.m L.blk∨w0.heap.size≤L.blk)
 st:∀i,i < M.n→∀L,M.r i=some L→∃L',ρ i=some L'∧(L'=L∨L.row < L'.row)
variable {N:Nat} {w0:World} {M:Fx} {ρ:Ro} {fr:Fr} {H:AH} {a:Act} {w:World}
def dstOk (N:Nat):Option Nat→Bool
 | none=>true
 | some d=>decide (d < N)
theorem St.put (h:St N w0 M ρ fr H a w) {d:Option Nat} {v:AV} {vc:Value} (hd:dstOk N d=true) (hv:VRel ρ v vc):St N w0 M ρ (putA d v fr) H (a.put d vc) w:=by
 cases d with
 | none=>exact h
 | some d =>
   simp [dstOk] at hd
   refine ⟨fun s=>?_,by simp [Act.put,h.sz],h.df,h.hr,h.kp,h.ow,h.st⟩
   simp only [putA,get,Act.put]
   split
   ·rename_i e
    rw [←e]
    have:(a.tmps.setIfInBounds d vc).getD d undef=vc:=by
     simp [Array.getD_eq_getD_getElem?,h.sz,hd]
    rw [this];exact hv
   ·rename_i hne
    have:(a.tmps.setIfInBounds d vc).getD s undef=a.tmps.getD s undef:=by
     simp [Array.getD_eq_getD_getElem?,Array.getElem?_setIfInBounds_ne hne]
    rw [this];exact h.fr s
theorem st_trans {n:Nat} {ρi ρ ρ':Ro} (h:∀i,i < n→∀L,ρi i=some L→∃L',ρ i=some L'∧(L'=L∨L.row < L'.row)) (hs:Stab ρ ρ'):∀i,i < n→∀L,ρi i=some L→∃L',ρ' i=some L'∧(L'=L∨L.row < L'.row):=by
 intro i hi L hL
 obtain ⟨L1,h1,h2⟩:=h i hi L hL
 obtain ⟨L2,h3,h4⟩:=hs i L1 h1
 refine ⟨L2,h3,?_⟩
 rcases h2 with rfl | h2 <;> rcases h4 with rfl | h4
 ·exact .inl rfl
 ·exact .inr h4
 ·exact .inr h2
 ·exact .inr (by omega)
theorem St.call (h:St N w0 M ρ fr H a w) {w':World} {ρ':Ro} {H':AH} (hr:HR ρ' w' H') (hs:Stab ρ ρ') (hk:Keep w (Owns ρ H) w') (ho:∀b,Owns ρ' H' b→Owns ρ H b∨w.heap.size≤b):St N w0 M ρ' fr H' a w':=by
 have hown:∀b,Owns ρ H b→M.m b∨w0.heap.size≤b:=by
  rintro b ⟨i,L,h1,h2,h3,rfl⟩;exact h.ow i L h1 h2 h3
 refine ⟨fun s=>(h.fr s).mono hs,h.sz,h.df,hr,⟨hk.os.trans h.kp.os,hk.tape.trans h.kp.tape,hk.output.trans h.kp.output,Nat.le_trans h.kp.size hk.size,fun b hb hm=>?_,fun b c t f hf hm=>?_⟩,fun i L h1 h2 h3=>?_,st_trans h.st hs⟩
 ·rw [hk.old b (Nat.lt_of_lt_of_le hb h.kp.size) (fun h'=>?_)]
  ·exact h.kp.old b hb hm
  ·rcases hown b h' with h' | h'
   ·exact hm h'
   ·omega
 ·by_cases h':w.heap.size≤b∨Owns ρ H b
  ·exact hk.free b c t f hf h'
  ·have h1:b < w.heap.size:=by
    rcases Nat.lt_or_ge b w.heap.size with h1 | h1
    ·exact h1
    ·exact absurd (.inl h1) h'
   rw [hk.old b h1 (fun h2=>h' (.inr h2))] at hf
   exact h.kp.free b c t f hf hm
 ·rcases ho L.blk ⟨i,L,h1,h2,h3,rfl⟩ with h' | h'
  ·exact hown _ h'
  ·exact .inr (Nat.le_trans h.kp.size h')
theorem St.eff (h:St N w0 M ρ fr H a w) {w':World} {ρ':Ro} {H':AH} (he:Eff ρ w H w' ρ' H'):St N w0 M ρ' fr H' a w':=by
 obtain ⟨h1,h2⟩:=he.kp w0 M.m h.kp h.ow
 exact ⟨fun s=>(h.fr s).mono he.st,h.sz,h.df,he.hr,h1,h2,st_trans h.st he.st⟩
theorem ops_rel (h:St N w0 M ρ fr H a w) (l:List Operand):L2 (VRel ρ) (l.map (ev fr)) (l.map a.eval):=by
 induction l with
 | nil=>exact .nil
 | cons x l ih=>exact .cons (ev_rel h.fr x) ih
theorem HR.keep {w w':World} (h:HR ρ w H) (hk:Keep w (fun _=>False) w'):HR ρ w' H:=by
 refine ⟨fun i=>?_,h.sep,h.fresh⟩
 refine (h.obj i).keep (Stab.refl ρ) rfl (fun L hi hn hl=>?_) hk.size
 exact hk.old _ ((h.obj i).blk_lt hi hn hl) (fun f=>f)
theorem Keep.trans {m:Nat→Prop} {w1 w2:World} (h:Keep w0 m w1) (h':Keep w1 (fun _=>False) w2):Keep w0 m w2:=by
 refine ⟨h'.os.trans h.os,h'.tape.trans h.tape,h'.output.trans h.output,Nat.le_trans h.size h'.size,fun b hb hm=>?_,fun b c t f hf hm=>?_⟩
 ·rw [h'.old b (Nat.lt_of_lt_of_le hb h.size) (fun f=>f)];exact h.old b hb hm
 ·rcases Nat.lt_or_ge b w1.heap.size with hlt | hge
  ·rw [h'.old b hlt (fun f=>f)] at hf;exact h.free b c t f hf hm
  ·exact h'.free b c t f hf (.inl hge)
theorem Eff.quiet {w':World} (h:HR ρ w H) (hk:Keep w (fun _=>False) w'):Eff ρ w H w' ρ H :=
 ⟨h.keep hk,Stab.refl ρ,fun _ _ h1 h2=>⟨h1.trans hk,h2⟩,Nat.le_refl _,fun _ _ _ h=>h⟩
theorem caps_vals {cs:List (Nat × Nat × Nat)} {cv:List Value} (h:L2 (fun (c:Nat × Nat × Nat) v=>PRel ρ c.1 c.2.1 c.2.2 v) cs cv):L2 (VRel ρ) (cs.map capV) cv:=by
 induction h with
 | nil=>exact .nil
 | cons h _ ih=>exact .cons h ih
theorem op_wp {o:Oper} {v:AV} {H':AH} {K:Act→World→Prop} {Q:Exit→Act→World→Prop} (ht:TabOk P tab) (hs:St N w0 M ρ fr H a w) (hd:dstOk N o.dst=true)
 (h:astep P tab o.op ((opnds o.op).map (ev fr)) H=some (v,H')) (hK:∀ρ' a' w',St N w0 M ρ' (putA o.dst v fr) H' a' w'→K a' w'):o.wp P a w K Q:=by
 have hv:=ops_rel hs (opnds o.op)
 have come:Come P ρ H w (execOp a.eval o) v H'→o.wp P a w K Q:=by
  rintro ⟨w',ρ',he,⟨vc,h1,h2⟩ | ⟨h1,h2⟩⟩
  ·simp only [Oper.wp,h1,Oper.upon]
   exact hK _ _ _ ((hs.eff he).put hd h2)
  ·simp only [Oper.wp,h1,Oper.upon]
   subst h2
   exact hK _ _ _ ((hs.eff he).put hd rfl)
 unfold astep at h
 split at h
 ·
  rename_i op _ f as ts fn cs args hop hvs
  rw [hop] at hvs hv
  simp only [opnds,List.map_cons,List.cons.injEq] at hvs hv
  obtain ⟨hf,hargs⟩:=hvs
  have hfr:=ev_rel hs.fr f
  rw [hf] at hfr
  obtain ⟨cv,hcv,hcr⟩:=hfr
  cases hv with
  | cons _ hv =>
    unfold callA at h
    split at h
    ·rename_i s hl
     simp only [Option.map_eq_some_iff,Prod.mk.injEq] at h
     obtain ⟨v',h1,rfl,rfl⟩:=h
     obtain ⟨hen,hpu⟩:=ht fn _ hl
     have hrel:L2 (VRel ρ) (args++cs.map capV) (as.toList.map a.eval++cv):=by
      rw [←hargs];exact hv.app (caps_vals hcr)
     have hcall:=hpu _ _ h1 ρ w _ hrel
     have hrun:(execOp a.eval o).run P w=.ok (.enter fn (as.toList.map a.eval++cv).toArray) w:=by
      have e1:#[]++as.map a.eval++cv.toArray=(as.toList.map a.eval++cv).toArray:=by apply Array.ext';simp
      simp only [execOp,hop,resolve,hcv,Deferred.ofValue,Sem.run_bind,Sem.run_pure,Result.andThen_ok,invoke]
      rw [e1];exact hen _ _
     simp only [Oper.wp,hrun,Oper.upon]
     refine hcall.mono ?_
     rintro e w' ⟨vc,rfl,h3,h4⟩
     exact hK _ _ _ ((hs.eff (Eff.quiet hs.hr h4)).put hd (h3 ρ))
    ·rename_i s hl
     obtain ⟨hen,_,hfp⟩:=ht fn _ hl
     have hrel:L2 (VRel ρ) (args++cs.map capV) (as.toList.map a.eval++cv):=by
      rw [←hargs];exact hv.app (caps_vals hcr)
     have hcall:=hfp _ _ _ _ h ρ w _ hrel hs.hr
     have hrun:(execOp a.eval o).run P w=.ok (.enter fn (as.toList.map a.eval++cv).toArray) w:=by
      have e1:#[]++as.map a.eval++cv.toArray=(as.toList.map a.eval++cv).toArray:=by apply Array.ext';simp
      simp only [execOp,hop,resolve,hcv,Deferred.ofValue,Sem.run_bind,Sem.run_pure,Result.andThen_ok,invoke]
      rw [e1];exact hen _ _
     simp only [Oper.wp,hrun,Oper.upon]
     refine hcall.mono ?_
     rintro e w' ⟨vc,ρ',rfl,h3,h4,h5,h6,h7⟩
     exact hK _ _ _ ((hs.call h4 h5 h6 h7).put hd h3)
    ·rename_i s hl
     obtain ⟨hen,_,hfp⟩:=ht fn _ hl
     have hrel:L2 (VRel ρ) (args++cs.map capV) (as.toList.map a.eval++cv):=by
      rw [←hargs];exact hv.app (caps_vals hcr)
     have hcall:=hfp _ _ _ _ h ρ w _ hrel hs.hr
     have hrun:(execOp a.eval o).run P w=.ok (.enter fn (as.toList.map a.eval++cv).toArray) w:=by
      have e1:#[]++as.map a.eval++cv.toArray=(as.toList.map a.eval++cv).toArray:=by apply Array.ext';simp
      simp only [execOp,hop,resolve,hcv,Deferred.ofValue,Sem.run_bind,Sem.run_pure,Result.andThen_ok,invoke]
      rw [e1];exact hen _ _
     simp only [Oper.wp,hrun,Oper.upon]
     refine hcall.mono ?_
     rintro e w' ⟨vc,ρ',rfl,h3,h4,h5,h6,h7⟩
     exact hK _ _ _ ((hs.call h4 h5 h6 h7).put hd h3)
    ·simp at h
 ·simp at h
 ·
  rename_i op _ as ts hop
  rw [hop] at hv h
  obtain ⟨w',ρ',vc,h1,h2,h3⟩:=appA_run (ty:=o.type) h hv hs.hr
  refine come ⟨w',ρ',h1,.inl ⟨vc,?_,h3⟩⟩
  have has:(List.map a.eval (opnds (Op.call ⟨.builtin .append,as,ts⟩))).toArray=as.map a.eval:=by apply Array.ext';simp [opnds]
  rw [has] at h2
  simp only [execOp,hop,resolve,Sem.run_bind,Sem.run_pure,Result.andThen_ok,invoke,builtin,h2]
 ·
  rename_i op _ s d x i o' v' n hop hvs
  rw [hvs] at hv
  rw [hop] at hv
  rw [Option.map_eq_some_iff] at h
  obtain ⟨v1,h1,h2⟩:=h
  simp only [Prod.mk.injEq] at h2
  obtain ⟨rfl,rfl⟩:=h2
  simp only [opnds,List.map_cons,List.map_nil] at hv
  cases hv with
  | cons hx _ =>
    obtain ⟨vc,h3,h4⟩:=cvS_run hs.hr h1 hx
    refine come ⟨w,ρ,⟨hs.hr,Stab.refl ρ,fun _ _ a b=>⟨a,b⟩,Nat.le_refl _,fun _ _ _ h=>h⟩,.inl ⟨vc,?_,h4⟩⟩
    simp only [execOp,hop,Sem.run_bind,h3,Result.andThen_ok,Sem.run_pure]
 ·
  rename_i op _ s d x hop hvs
  rw [hvs] at hv
  rw [hop] at hv
  rw [Option.map_eq_some_iff] at h
  obtain ⟨v1,h1,h2⟩:=h
  simp only [Prod.mk.injEq] at h2
  obtain ⟨rfl,rfl⟩:=h2
  simp only [opnds,List.map_cons,List.map_nil] at hv
  cases hv with
  | cons hx _ =>
    obtain ⟨vc,h3,h4⟩:=cvS_run hs.hr h1 hx
    refine come ⟨w,ρ,⟨hs.hr,Stab.refl ρ,fun _ _ a b=>⟨a,b⟩,Nat.le_refl _,fun _ _ _ h=>h⟩,.inl ⟨vc,?_,h4⟩⟩
    simp only [execOp,hop,Sem.run_bind,h3,Result.andThen_ok,Sem.run_pure]
 ·split at h
  ·exact come (mop_run (o:=o) h hv hs.hr)
  split at h
  ·rename_i v' hq
   simp at h
   obtain ⟨rfl,rfl⟩:=h
   obtain ⟨vc,h1,h2⟩:=qop_run (o:=o) hq hv (fun i=>hs.hr.obj i)
   exact come ⟨w,ρ,⟨hs.hr,Stab.refl ρ,fun _ _ a b=>⟨a,b⟩,Nat.le_refl _,fun _ _ _ h=>h⟩,.inl ⟨vc,h1,h2⟩⟩
  ·exact come (eop_run (o:=o) h hv hs.hr)
theorem run_nx {w:World} {b bm since last clk:Nat} {seen:List Nat} {ems:List MapEntry} (ty:Nat) (hb:w.heap[b]?=some (.mapIter (some bm) since seen.toArray last)) (hm:w.heap[bm]?=some (.map ems.toArray clk))
 (hold:∀x∈ems,x.born < since) (hsc:since≤last) :
 ((ems.filter fun e=>!seen.contains e.born)=[]∧(Instr.next (.pointer (some ⟨b,0,none⟩)) false ty).run P w=.ok (.tuple #[.bool false]) w) ∨
 ∃(e:MapEntry) (w1:World),e∈(ems.filter fun e=>!seen.contains e.born)∧(w1=w∨w1=w.drew) ∧
  (Instr.next (.pointer (some ⟨b,0,none⟩)) false ty).run P w=.ok (.tuple #[.bool true,e.key,e.val]) {w1 with heap:=w1.heap.setIfInBounds b (.mapIter (some bm) since (seen++[e.born]).toArray clk)}:=by
 have h0:(!seen.toArray.isEmpty && !ems.toArray.isEmpty && ems.toArray.all (fun x=>decide (x.born ≥ last)))=false:=next_test_false _ _ since last (by simpa using hold) hsc
 have g1:(getObj b).run P w=.ok (.mapIter (some bm) since seen.toArray last) w:=by simp [getObj,Sem.run,hb]
 have g2:(getObj bm).run P w=.ok (.map ems.toArray clk) w:=by simp [getObj,Sem.run,hm]
 have eL:(ems.toArray.filter fun e=>!seen.toArray.contains e.born)=(ems.filter fun e=>!seen.contains e.born).toArray:=by
  apply Array.ext';simp
 simp only [Instr.next,Sem.run_bind,g1,g2,Result.andThen_ok,h0,Bool.false_eq_true,if_false,eL]
 have hmem:∀x∈(ems.filter fun e=>!seen.contains e.born),x.born < since:=fun x hx=>hold x (List.mem_filter.1 hx).1
 generalize (ems.filter fun e=>!seen.contains e.born)=L at hmem ⊢
 have e1:L.toArray.filter (fun x=>decide (x.born < since))=L.toArray:=Array.filter_eq_self.2 (fun x hx=>by simpa using hmem x (by simpa using hx))
 have e2:L.toArray.filter (fun x=>decide (x.born ≥ since)) = #[]:=by
  rw [Array.filter_eq_empty_iff]
  intro x hx
  have:=hmem x (by simpa using hx)
  simp
  omega
 simp only [e1,e2,Array.append_empty]
 by_cases hL:L=[]
 ·left
  subst hL
  refine ⟨rfl,?_⟩
  simp [choose,Sem.run,Question.forced]
 ·right
  have hpos:0 < L.length:=List.length_pos_iff.2 hL
  have hne:L.toArray.isEmpty=false:=by simp [hL]
  simp only [hne,Bool.false_eq_true,if_false,Array.empty_append,Array.size_map,List.size_toArray]
  have hch:∃(j:Nat) (w1:World),j < L.length∧(w1=w∨w1=w.drew)∧(choose (Question.mapNext L.length)).run P w=.ok j w1:=by
   by_cases hf:L.length≤1
   ·exact ⟨0,w,by omega,.inl rfl,by simp [choose,Sem.run,Question.forced,hf]⟩
   ·exact ⟨_,w.drew,Nat.mod_lt _ (by omega),.inr rfl,by
     simp only [choose,Sem.run,Question.forced,decide_eq_true_eq,hf,if_false,Question.cut]
     rfl⟩
  obtain ⟨j,w1,hj,hw,hrun⟩:=hch
  refine ⟨L[j],w1,by simp,hw,?_⟩
  have hb1:w1.heap[b]?=some (.mapIter (some bm) since seen.toArray last):=by rcases hw with rfl | rfl <;> exact hb
  have hpush:seen.toArray.push L[j].born=(seen++[L[j].born]).toArray:=by apply Array.ext';simp
  have hset:(setObj b (.mapIter (some bm) since (seen.toArray.push L[j].born) clk)).run P w1=.ok () {w1 with heap:=w1.heap.setIfInBounds b (.mapIter (some bm) since (seen.toArray.push L[j].born) clk)}:=by
   simp [setObj,Sem.run,hb1]
  have hget:(L.toArray.map some)[j]?=some (some L[j]):=by simp [hj]
  rw [hpush] at hset
  simp only [hrun,Result.andThen_ok,hget,Sem.run_bind,hpush,hset,Sem.run_pure]
theorem L2.filt {α β:Type} {R:α→β→Prop} {p:α→Bool} {q:β→Bool} {l:List α} {m:List β} (h:L2 R l m) (hpq:∀a b,R a b→p a=q b):L2 R (l.filter p) (m.filter q):=by
 induction h with
 | nil=>exact .nil
 | @cons a b l m hx _ ih =>
   rw [List.filter_cons,List.filter_cons,hpq a b hx]
   split
   ·exact .cons hx ih
   ·exact ih
theorem L2.mem_r {α β:Type} {R:α→β→Prop} {l:List α} {m:List β} (h:L2 R l m) {b:β} (hb:b∈m):∃a∈l,R a b:=by
 induction h with
 | nil=>simp at hb
 | @cons x y l m hx _ ih =>
   rcases List.mem_cons.1 hb with rfl | hb
   ·exact ⟨x,by simp,hx⟩
   ·obtain ⟨a,ha,hr⟩:=ih hb;exact ⟨a,by simp [ha],hr⟩
theorem nx_wp0 {o:Oper} {l:List (AV × AH)} {K:Act→World→Prop} {Q:Exit→Act→World→Prop} (hs:St N w0 M ρ fr H a w) (hd:dstOk N o.dst=true)
 (h:itS o.op ((opnds o.op).map (ev fr)) H=some l) (hK:∀r∈l,∀ρ' a' w',St N w0 M ρ' (putA o.dst r.1 fr) r.2 a' w'→K a' w'):o.wp P a w K Q:=by
 have hv:=ops_rel hs (opnds o.op)
 unfold itS at h
 split at h
 ·rename_i x id hop hvs
  rw [hop] at hv hvs
  rw [hvs] at hv
  obtain ⟨y,hy,hr⟩:=hv.one
  simp only [opnds,List.map_cons,List.map_nil,List.cons.injEq,and_true] at hy
  unfold itA at h
  split at h <;> try (simp at h;done)
  rename_i m since seen last ho
  split at h <;> try (simp at h;done)
  rename_i clk es hm
  split at h <;> try (simp at h;done)
  rename_i hc
  obtain ⟨hold,hsc⟩:=hc
  simp only [Option.some.injEq] at h
  obtain ⟨L,Lm,ems,g1,g2,g3,g4,g5,g6,g7,g8,g9,g10⟩:=iter_blk hs.hr hr ho hm
  have hold':∀x∈ems,x.born < since:=by
   intro x hx
   obtain ⟨e,he,hr⟩:=L2.mem_r g10 hx
   have:=List.all_eq_true.1 hold e he
   rw [hr.1];simpa using this
  have hfl:=L2.filt (p:=fun e=>!seen.contains e.1) (q:=fun e=>!seen.contains e.born) g10 (fun a b hab=>by rw [hab.1])
  have hown:(hg H id).owned=true:=by rw [ho];rfl
  have hex:execOp a.eval o=(do let v ←Instr.next (a.eval x) false o.type;pure (.value v)):=by
   obtain ⟨d,op,ty,pos,af,gu⟩:=o
   simp only at hop;subst hop;rfl
  rcases run_nx (P:=P) o.type g8 g9 hold' hsc with ⟨k1,k2⟩ | ⟨e,w1,k1,k2,k3⟩
  ·rw [k1] at hfl
   have hrun:(execOp a.eval o).run P w=.ok (.value (.tuple #[.bool false])) w:=by
    rw [hex,hy,g6];simp only [Sem.run_bind,k2,Result.andThen_ok,Sem.run_pure]
   cases hf:es.filter (fun e=>!seen.contains e.1) with
   | cons _ _=>rw [hf] at hfl;cases hfl
   | nil =>
     rw [hf] at h
     simp only [Oper.wp,hrun,Oper.upon]
     exact hK (.t [.c (.b false)],H) (by rw [←h];exact List.mem_singleton.2 rfl) ρ _ w (hs.put hd (vc:=.tuple #[.bool false]) ⟨[.bool false],rfl,.cons rfl .nil⟩)
  ·obtain ⟨e',he',hr'⟩:=L2.mem_r hfl k1
   have hrun:=k3
   have hw1:SetB w {w1 with heap:=w1.heap.setIfInBounds L.blk (.mapIter (some Lm.blk) since (seen++[e.born]).toArray clk)} L.blk (.mapIter (some Lm.blk) since (seen++[e.born]).toArray clk):=by
    have:=setB_m (o':=.mapIter (some Lm.blk) since (seen++[e.born]).toArray clk) g8
    rcases k2 with rfl | rfl
    ·exact this
    ·exact ⟨this.os,this.tape,this.output,this.size,this.this,this.other⟩
   have heff:=Eff.setI (o':=.iter m since (seen++[e.born]) clk) hs.hr hown g1 g2 hw1 ⟨L,Lm.blk,g1,g3,g4,g2,g5,g7,hw1.this⟩
   have hrun:(execOp a.eval o).run P w=.ok (.value (.tuple #[.bool true,e.key,e.val])) {w1 with heap:=w1.heap.setIfInBounds L.blk (.mapIter (some Lm.blk) since (seen++[e.born]).toArray clk)}:=by
    rw [hex,hy,g6];simp only [Sem.run_bind,k3,Result.andThen_ok,Sem.run_pure]
   simp only [Oper.wp,hrun,Oper.upon]
   refine hK (.t [.c (.b true),e'.2.1,e'.2.2],H.set id (.iter m since (seen++[e'.1]) clk)) ?_ ρ _ _ (((hs.eff (by rw [←hr'.1];exact heff))).put hd (vc:=.tuple #[.bool true,e.key,e.val]) ⟨[.bool true,e.key,e.val],rfl,.cons rfl (.cons hr'.2.1 (.cons hr'.2.2 .nil))⟩)
   rw [←h]
   cases hf:es.filter (fun e=>!seen.contains e.1) with
   | nil=>rw [hf] at he';simp at he'
   | cons x y =>
     rw [hf] at he'
     exact List.mem_map.2 ⟨e',he',rfl⟩
 ·simp at h
theorem nx_wp {o:Oper} {R:AV→AH→Prop} {K:Act→World→Prop} {Q:Exit→Act→World→Prop} (ht:TabOk P tab) (hs:St N w0 M ρ fr H a w) (hd:dstOk N o.dst=true)
 (h:mayS tab o.op ((opnds o.op).map (ev fr)) H=some R) (hK:∀v H',R v H'→∀ρ' a' w',St N w0 M ρ' (putA o.dst v fr) H' a' w'→K a' w'):o.wp P a w K Q:=by
 have hv:=ops_rel hs (opnds o.op)
 unfold mayS at h
 split at h
 ·rename_i op _ f as ts fn cs args hop hvs
  rw [hop] at hvs hv
  simp only [opnds,List.map_cons,List.cons.injEq] at hvs hv
  obtain ⟨hf,hargs⟩:=hvs
  have hfr:=ev_rel hs.fr f
  rw [hf] at hfr
  obtain ⟨cv,hcv,hcr⟩:=hfr
  cases hv with
  | cons _ hv =>
    split at h <;> try (simp at h;done)
    rename_i s hl
    obtain ⟨hen,hfp⟩:=ht fn _ hl
    have hrel:L2 (VRel ρ) (args++cs.map capV) (as.toList.map a.eval++cv):=by
     rw [←hargs];exact hv.app (caps_vals hcr)
    have hcall:=hfp _ _ _ h ρ w _ hrel hs.hr
    have hrun:(execOp a.eval o).run P w=.ok (.enter fn (as.toList.map a.eval++cv).toArray) w:=by
     have e1:#[]++as.map a.eval++cv.toArray=(as.toList.map a.eval++cv).toArray:=by apply Array.ext';simp
     simp only [execOp,hop,resolve,hcv,Deferred.ofValue,Sem.run_bind,Sem.run_pure,Result.andThen_ok,invoke]
     rw [e1];exact hen _ _
    simp only [Oper.wp,hrun,Oper.upon]
    refine hcall.mono ?_
    rintro e w' ⟨v,H',vc,ρ',h0,rfl,h3,h4,h5,h6,h7⟩
    exact hK v H' h0 _ _ _ ((hs.call h4 h5 h6 h7).put hd h3)
 ·rw [Option.map_eq_some_iff] at h
  obtain ⟨l,h1,rfl⟩:=h
  exact nx_wp0 hs hd h1 fun r hr=>hK r.1 r.2 hr
end Go.Am
/- Soundness of 'arun'. -/
namespace Go.Am
variable {P:Program} {tab:Tab} {N:Nat} {w0:World} {M:Fx}
def opsOk (N:Nat) (l:List Oper):Bool:=l.all fun o=>dstOk N o.dst
def okC (N:Nat) (drawn:Array Oper→Bool):Code→Bool
 | .region _ ops d=>opsOk N ops.toList && (!d || drawn ops)
 | .seq a b=>okC N drawn a && okC N drawn b
 | .cond _ a b=>okC N drawn a && okC N drawn b
 | .block _ c=>okC N drawn c
 | .loop c=>okC N drawn c
 | .scope c=>okC N drawn c
 | _=>true
def okI (N:Nat) (drawn:Array Oper→Bool):It→Bool
 | .c x=>okC N drawn x
 | .ops _ l=>opsOk N l
 | .dr _ _ _ _=>false
 | _=>true
def okK (N:Nat) (drawn:Array Oper→Bool) (k:List It):Bool:=k.all (okI N drawn)
def SI (N:Nat) (w0:World) (M:Fx) (I:Fr→AH→Prop) (a:Act) (w:World):Prop:=∃ρ fr H,St N w0 M ρ fr H a w∧I fr H
def Kp (P:Program) (N:Nat) (w0:World) (M:Fx) (Q:Fr→AH→Prop):List It→Exit→Act→World→Prop
 | []=>fun e a w=>match e with
   | .normal | .ret=>SI N w0 M Q a w
   | _=>False
 | .c x::k=>Exit.then (x.wp P (Kp P N w0 M Q k)) (Kp P N w0 M Q k)
 | .ops full l::k=>Exit.then (wpList P full (Kp P N w0 M Q k) l) (Kp P N w0 M Q k)
 | .dr _ _ _ _::k=>Exit.then (fun _ _=>False) (Kp P N w0 M Q k)
 | .blk id::k=>Exit.inBlock id (Kp P N w0 M Q k)
 | .scp::k=>Exit.noGoto (Kp P N w0 M Q k)
 | .scj l J::k=>Exit.jump l (SI N w0 M J) (Kp P N w0 M Q k)
 | .back I::k=>Exit.then (SI N w0 M I) (Kp P N w0 M Q k)
theorem Kp_ret {Q:Fr→AH→Prop} {a:Act} {w:World} (h:SI N w0 M Q a w):∀k,Kp P N w0 M Q k .ret a w:=by
 intro k
 induction k with
 | nil=>exact h
 | cons x k ih=>cases x <;> exact ih
theorem Kp_goto {Q:Fr→AH→Prop} {a:Act} {w:World} {l:Nat} {J:Fr→AH→Prop} (h:SI N w0 M J a w):∀k:List It,popJ l k=some J→Kp P N w0 M Q k (.goto l) a w:=by
 intro k
 induction k with
 | nil=>intro h;simp [popJ] at h
 | cons x k ih =>
   intro hp
   cases x with
   | scp=>simp [popJ] at hp
   | scj l' J' =>
     simp only [popJ] at hp
     split at hp
     ·rename_i e
      simp only [Option.some.injEq] at hp
      subst hp;subst e
      exact ⟨rfl,h⟩
     ·simp at hp
   | blk i=>exact ih hp
   | c x=>exact ih hp
   | ops f l=>exact ih hp
   | dr f l i g=>exact ih hp
   | back I=>exact ih hp
theorem okC_label {N:Nat} {drawn:Array Oper→Bool}:∀{c:Code} {l:Nat} {rest:Code},okC N drawn c=true→findLabel c l=some rest→okC N drawn rest=true:=by
 intro c
 induction c with
 | seq a b iha ihb =>
   intro l rest h hf
   simp only [okC,Bool.and_eq_true] at h
   simp only [findLabel] at hf
   split at hf
   ·rename_i r hr
    simp only [Option.some.injEq] at hf
    subst hf
    simp only [okC,Bool.and_eq_true]
    exact ⟨iha h.1 hr,h.2⟩
   ·exact ihb h.2 hf
 | label l' =>
   intro l rest h hf
   simp only [findLabel] at hf
   split at hf
   ·simp only [Option.some.injEq] at hf;subst hf;rfl
   ·simp at hf
 | _=>intro l rest h hf;simp [findLabel] at hf
theorem Kp_exit {Q:Fr→AH→Prop} {a:Act} {w:World} {id:Nat}:∀(k k':List It),popB id k=some k'→Kp P N w0 M Q k' .normal a w→Kp P N w0 M Q k (.exit id) a w:=by
 intro k
 induction k with
 | nil=>intro k' h;simp [popB] at h
 | cons x k ih =>
   intro k' h hk
   cases x with
   | blk i =>
     simp only [popB] at h
     simp only [Kp,Exit.inBlock]
     split at h
     ·simp at h;subst h;subst_vars;rw [if_pos rfl];exact hk
     ·rename_i hne;rw [if_neg (fun e=>hne e.symm)];exact ih _ h hk
   | c x=>exact ih _ h hk
   | ops f l=>exact ih _ h hk
   | dr f l i g=>exact ih _ h hk
   | back I=>exact ih _ h hk
   | scp=>exact ih _ h hk
   | scj l J=>exact ih _ h hk
theorem wp_loopI {c:Code} {Q:Exit→Act→World→Prop} {a:Act} {w:World} (I:Nat→Act→World→Prop) (n:Nat) (h₀:I n a w)
 (round:∀n a w,I n a w→c.wp P (Exit.then (fun a' w'=>∃m,m < n∧I m a' w') Q) a w):(Code.loop c).wp P Q a w:=by
 intro b k cs
 have key:∀n a w,I n a w→∃e a' w',Q e a' w'∧Arrives P (lone (b.at a (.code c::.inLoop c::k)) cs w) b k cs e a' w':=by
  intro n
  induction n using Nat.strongRecOn with
  | _ n ih =>
    intro a w hI
    obtain ⟨e,a₁,w₁,hq,harr⟩:=round n a w hI b (.inLoop c::k) cs
    cases e with
    | normal =>
      obtain ⟨m,hm,hI₁⟩:=hq
      obtain ⟨e₂,a₂,w₂,hq₂,harr₂⟩:=ih m hm a₁ w₁ hI₁
      exact ⟨e₂,a₂,w₂,hq₂,.of_steps (Steps.trans harr (.one step_inLoop)) harr₂⟩
    | exit id=>exact ⟨_,a₁,w₁,hq,.pass (x:=.inLoop c) rfl (fun _ _=>.inl (by simp)) harr⟩
    | goto l=>exact ⟨_,a₁,w₁,hq,.pass (x:=.inLoop c) rfl (fun _ _=>.inl (by simp)) harr⟩
    | ret=>exact ⟨_,a₁,w₁,hq,.pass (x:=.inLoop c) rfl (fun _ _=>.inl (by simp)) harr⟩
    | panic ch=>exact ⟨_,a₁,w₁,hq,.pass (x:=.inLoop c) rfl (fun _ _=>.inl (by simp)) harr⟩
    | outgrown=>exact ⟨_,a₁,w₁,hq,.pass (x:=.inLoop c) rfl (fun _ _=>.inl (by simp)) harr⟩
 obtain ⟨e,a',w',hq,harr⟩:=key n a w h₀
 exact ⟨e,a',w',hq,.of_steps (.one step_loop) harr⟩
theorem St.wk {ρ:Ro} {fr:Fr} {H:AH} {a:Act} {w:World} (h:St N w0 M ρ fr H a w) {S:Fr × AH} {n:Nat} (hn:M.n≤n) (hw:Wk n fr H S):∃ρ',St N w0 M ρ' S.1 S.2 a w:=by
 obtain ⟨ρ',h1,h2,h3,h4⟩:=hw ρ w (fun s=>a.tmps.getD s undef) h.fr h.hr
 refine ⟨ρ',h1,h.sz,h.df,h2,h.kp,fun i L hi hL hn=>?_,fun i hi L hL=>?_⟩
 ·obtain ⟨j,hj,hL'⟩:=h3 i L hi hL hn
  exact h.ow j L hj hL' hn
 ·rw [h4 i (Nat.lt_of_lt_of_le hi hn)];exact h.st i hi L hL
def DrawOk (P:Program) (tab:Tab) (N:Nat) (ops:Array Oper):Prop :=
 ∀(id:Nat) (w0:World) (M:Fx) (ρ:Ro) (fr:Fr) (H:AH) (a:Act) (w:World) (k:List It) (Q:Fr→AH→Prop) (R:Exit→Act→World→Prop),
  St N w0 M ρ fr H a w→arun P tab (.dr ops ops.toList 0 []::k) fr H Q →
  (∀fr' H',arun P tab k fr' H' Q→∀ρ' a' w',St N w0 M ρ' fr' H' a' w'→R .normal a' w')→(Code.region id ops true).wp P R a w
theorem gval_spec {full:Array Oper} {ρ:Ro} {fr:Fr} {a:Act} {j:Nat} {r:Option Bool} (h:gval full fr j=some r) (hf:∀s,VRel ρ (get fr s) (a.tmps.getD s undef)) :
 yielded full a.tmps j=r:=by
 unfold gval at h
 unfold yielded
 cases hd:(full[j]?).bind (·.dst) with
 | none=>rw [hd] at h;simp at h;subst h;rfl
 | some d =>
   rw [hd] at h
   simp only [Option.bind_some]
   have hv:=hf d
   simp only at h
   split at h
   ·rename_i q hg
    simp at h;subst h
    rw [hg] at hv
    have hv':a.tmps.getD d undef=.bool q:=hv
    have hlt:d < a.tmps.size:=by
     rcases Nat.lt_or_ge d a.tmps.size with h | h
     ·exact h
     ·simp [Array.getD_eq_getD_getElem?,Array.getElem?_eq_none h,undef] at hv'
    have:a.tmps[d]?=some (.bool q):=by
     rw [Array.getElem?_eq_getElem hlt];rw [Array.getD_eq_getD_getElem?,Array.getElem?_eq_getElem hlt] at hv';simpa using hv'
    rw [this]
   ·rename_i hg
    simp at h;subst h
    rw [hg] at hv
    have hv':a.tmps.getD d undef=undef:=hv
    rcases Nat.lt_or_ge d a.tmps.size with hlt | hge
    ·have:a.tmps[d]?=some undef:=by
      rw [Array.getElem?_eq_getElem hlt];rw [Array.getD_eq_getD_getElem?,Array.getElem?_eq_getElem hlt] at hv';simpa using hv'
     rw [this];rfl
    ·rw [Array.getElem?_eq_none hge]
   ·simp at h
theorem ops_sound (ht:TabOk P tab) {full:Array Oper} {k:List It} {Q:Fr→AH→Prop} {R:Exit→Act→World→Prop}
 (hK:∀fr' H',arun P tab k fr' H' Q→∀ρ' a' w',St N w0 M ρ' fr' H' a' w'→R .normal a' w') :
 ∀(l:List Oper),opsOk N l=true→∀ρ fr H a w,arun P tab (.ops full l::k) fr H Q→St N w0 M ρ fr H a w→wpList P full R l a w:=by
 intro l
 induction l with
 | nil=>intro _ ρ fr H a w h hs;rw [arun_ops_nil] at h;exact hK _ _ h _ _ _ hs
 | cons o l ih =>
   intro ho ρ fr H a w h hs
   simp only [opsOk,List.all_cons,Bool.and_eq_true] at ho
   have ih':=ih ho.2
   have step:∀v H',astep P tab o.op ((opnds o.op).map (ev fr)) H=some (v,H')→arun P tab (.ops full l::k) (putA o.dst v fr) H' Q→o.wp P a w (wpList P full R l) R :=
    fun v H' h1 h2=>op_wp ht hs ho.1 h1 fun ρ' a' w' hs'=>ih' _ _ _ _ _ h2 hs'
   have skip:arun P tab (.ops full l::k) (putA o.dst (.c .und) fr) H Q→wpList P full R l (a.put o.dst undef) w:=fun h2=>ih' _ _ _ _ _ h2 (hs.put ho.1 rfl)
   rw [arun_op] at h
   unfold wpList
   split at h
   ·rename_i hg
    have hw:Region.wanted o (yielded full a.tmps)=true:=by simp [Region.wanted,hg]
    rw [if_pos hw]
    split at h
    ·rename_i v H' h1;exact .inl (step _ _ h1 h)
    ·split at h
     ·rename_i l hl
      exact .inl (nx_wp ht hs ho.1 hl fun v H' hr ρ' a' w' hs'=>ih' _ _ _ _ _ (h v H' hr) hs')
     ·exact h.elim
   ·rename_i j want hg
    split at h
    ·rename_i q hq
     have hy:=gval_spec hq hs.fr
     have hw:Region.wanted o (yielded full a.tmps)=(q == want):=by simp [Region.wanted,hg,hy]
     split at h
     ·rename_i e
      rw [if_pos (by rw [hw];simp [e])]
      split at h
      ·rename_i v H' h1;exact .inl (step _ _ h1 h)
      ·exact h.elim
     ·rename_i e
      rw [if_neg (by rw [hw];simp [e])];exact skip h
    ·rename_i hq
     have hy:=gval_spec hq hs.fr
     have hw:Region.wanted o (yielded full a.tmps)=false:=by simp [Region.wanted,hg,hy]
     rw [if_neg (by rw [hw];simp)];exact skip h
    ·exact h.elim
theorem okK_cons {drawn:Array Oper→Bool} {x:It} {k:List It} (h:okI N drawn x=true) (hk:okK N drawn k=true):okK N drawn (x::k)=true:=by
 simp only [okK,List.all_cons,Bool.and_eq_true];exact ⟨h,hk⟩
theorem sound (hlo:M.n≤lo tab) (ht:TabOk P tab) (drawn:Array Oper→Bool) (hdr:∀ops,drawn ops=true→opsOk N ops.toList=true→DrawOk P tab N ops) {Q:Fr→AH→Prop} :
 ∀(n:Nat) (k:List It),kwt k≤n→okK N drawn k=true→∀fr H,arun P tab k fr H Q→∀ρ a w,St N w0 M ρ fr H a w→Kp P N w0 M Q k .normal a w:=by
 intro n
 induction n with
 | zero =>
   intro k hk hok fr H h ρ a w hs
   cases k with
   | nil=>rw [arun_nil] at h;exact ⟨ρ,fr,H,hs,h⟩
   | cons x k=>exfalso;cases x <;> simp [kwt,It.wt] at hk;rename_i c;cases c <;> simp [cwt] at hk
 | succ n ih =>
   intro k hk hok fr H h ρ a w hs
   cases k with
   | nil=>rw [arun_nil] at h;exact ⟨ρ,fr,H,hs,h⟩
   | cons x k =>
     simp only [okK,List.all_cons,Bool.and_eq_true] at hok
     obtain ⟨hx,hok⟩:=hok
     cases x with
     | blk id =>
       rw [arun_blk] at h
       exact ih k (by simp [kwt,It.wt] at hk ⊢;omega) hok fr H h ρ a w hs
     | back I=>rw [arun_back] at h;exact ⟨ρ,fr,H,hs,h⟩
     | scp=>rw [arun_scp] at h;exact ih k (by simp [kwt,It.wt] at hk ⊢;omega) hok fr H h ρ a w hs
     | scj l J=>rw [arun_scj] at h;exact ih k (by simp [kwt,It.wt] at hk ⊢;omega) hok fr H h ρ a w hs
     | dr f l i g=>simp [okI] at hx
     | ops full l =>
       exact ops_sound ht (fun fr' H' h' ρ' a' w' hs'=>ih k (by simp [kwt,It.wt] at hk ⊢;omega) hok fr' H' h' ρ' a' w' hs') l hx ρ fr H a w h hs
     | c x =>
       have hkp:∀fr' H',arun P tab k fr' H' Q→∀ρ' a' w',St N w0 M ρ' fr' H' a' w'→Kp P N w0 M Q k .normal a' w' :=
        fun fr' H' h' ρ' a' w' hs'=>ih k (by
         have:0 < cwt x:=by cases x <;> simp [cwt]
         simp [kwt,It.wt] at hk ⊢;omega) hok fr' H' h' ρ' a' w' hs'
       show x.wp P (Kp P N w0 M Q k) a w
       cases x with
       | skip=>rw [arun_skip] at h;exact wp_skip (hkp _ _ h _ _ _ hs)
       | region id ops d =>
         simp only [okI,okC,Bool.and_eq_true] at hx
         cases d with
         | false=>rw [arun_region] at h;exact wp_region_list (ops_sound ht hkp ops.toList hx.1 ρ fr H a w h hs)
         | true=>rw [arun_regiond] at h;exact hdr ops (by simpa using hx.2) hx.1 id w0 M ρ fr H a w k Q _ hs h hkp
       | seq x y =>
         rw [arun_seq] at h
         simp only [okI,okC,Bool.and_eq_true] at hx
         refine wp_seq ?_
         exact ih (.c x::.c y::k) (by simp [kwt,It.wt,cwt] at hk ⊢;omega) (okK_cons hx.1 (okK_cons hx.2 hok)) fr H h ρ a w hs
       | cond x y z =>
         rw [arun_cond] at h
         simp only [okI,okC,Bool.and_eq_true] at hx
         split at h
         ·rename_i q hq
          have he:=ev_rel hs.fr x
          rw [hq] at he
          have he':a.eval x=.bool q:=he
          split at h
          ·rename_i e;subst e
           refine wp_cond_true he' ?_
           exact ih (.c y::k) (by simp [kwt,It.wt,cwt] at hk ⊢;omega) (okK_cons hx.1 hok) fr H h ρ a w hs
          ·rename_i e
           refine wp_cond_false (by rw [he'];simpa using e) ?_
           exact ih (.c z::k) (by simp [kwt,It.wt,cwt] at hk ⊢;omega) (okK_cons hx.2 hok) fr H h ρ a w hs
         ·rename_i hq
          have he:=ev_rel hs.fr x
          rw [hq] at he
          obtain ⟨q,he'⟩:∃q,a.eval x=.bool q:=he
          cases q
          ·refine wp_cond_false he' ?_
           exact ih (.c z::k) (by simp [kwt,It.wt,cwt] at hk ⊢;omega) (okK_cons hx.2 hok) fr H h.2 ρ a w hs
          ·refine wp_cond_true he' ?_
           exact ih (.c y::k) (by simp [kwt,It.wt,cwt] at hk ⊢;omega) (okK_cons hx.1 hok) fr H h.1 ρ a w hs
         ·exact h.elim
       | block id y =>
         rw [arun_block] at h
         simp only [okI,okC] at hx
         refine wp_block ?_
         exact ih (.c y::.blk id::k) (by simp [kwt,It.wt,cwt] at hk ⊢;omega) (okK_cons hx (okK_cons rfl hok)) fr H h ρ a w hs
       | loop y =>
         rw [arun_loop] at h
         simp only [okI,okC] at hx
         obtain ⟨ι,F,μ,i0,h0,hr⟩:=h
         obtain ⟨ρ1,hs1⟩:=hs.wk hlo h0
         refine wp_loopI (fun n a w=>∃i ρ,μ i=n∧St N w0 M ρ (F i).1 (F i).2 a w) (μ i0) ⟨i0,ρ1,rfl,hs1⟩ ?_
         rintro n' a' w' ⟨i,ρ',rfl,hs'⟩
         have:=ih (.c y::.back (fun fr H=>∃j,μ j < μ i∧Wk (lo tab) fr H (F j))::k) (by simp [kwt,It.wt,cwt] at hk ⊢;omega) (okK_cons hx (okK_cons rfl hok)) _ _ (hr i) ρ' a' w' hs'
         refine wp_mono (show y.wp P (Kp P N w0 M Q (.back _::k)) a' w' from this) ?_
         intro e a2 w2 hq
         cases e with
         | normal =>
           obtain ⟨ρ2,fr2,H2,hs2,j,hj,hwk⟩:=hq
           obtain ⟨ρ3,hs3⟩:=hs2.wk hlo hwk
           exact ⟨μ j,hj,j,ρ3,rfl,hs3⟩
         | _=>exact hq
       | exit id =>
         rw [arun_exit] at h
         split at h
         ·rename_i k' hp
          refine wp_exit (Kp_exit k k' hp ?_)
          have hk':okK N drawn k'=true:=by
           have:∀(k k':List It),popB id k=some k'→(k.all (okI N drawn))=true→okK N drawn k'=true:=by
            intro k
            induction k with
            | nil=>intro k' h;simp [popB] at h
            | cons x k ihk =>
              intro k' h hok
              simp only [List.all_cons,Bool.and_eq_true] at hok
              cases x with
              | blk i =>
                simp only [popB] at h
                split at h
                ·simp at h;subst h;exact hok.2
                ·exact ihk _ h hok.2
              | _=>exact ihk _ h hok.2
           exact this k k' hp hok
          have:=popB_wt hp
          exact ih k' (by simp [kwt,It.wt,cwt] at hk this ⊢;omega) hk' fr H h ρ a w hs
         ·exact h.elim
       | label l=>rw [arun_label] at h;exact wp_label (hkp _ _ h _ _ _ hs)
       | goto l =>
         rw [arun_goto] at h
         split at h
         ·rename_i J hp
          exact wp_goto (Kp_goto ⟨ρ,fr,H,hs,h⟩ k hp)
         ·exact h.elim
       | scope y =>
         rw [arun_scope] at h
         simp only [okI,okC] at hx
         rcases h with h | ⟨l,rest,J,hf,h1,hle,h2⟩
         ·refine wp_scope_straight ?_
          exact ih (.c y::.scp::k) (by simp [kwt,It.wt,cwt] at hk ⊢;omega) (okK_cons hx (okK_cons rfl hok)) fr H h ρ a w hs
         ·have hxr:=okC_label hx hf
          refine wp_scope_jumps l (SI N w0 M J) (fun _ _=>0) hf (ih (.c y::.scj l J::k) (by simp [kwt,It.wt,cwt] at hk ⊢;omega) (okK_cons hx (okK_cons rfl hok)) fr H h1 ρ a w hs) ?_
          rintro a' w' ⟨ρ',fr',H',hs',hj⟩
          have:=ih (.c rest::.scp::k) (by simp [kwt,It.wt,cwt] at hk ⊢;omega) (okK_cons hxr (okK_cons rfl hok)) fr' H' (h2 _ _ hj) ρ' a' w' hs'
          refine wp_mono (show rest.wp P (Kp P N w0 M Q (.scp::k)) a' w' from this) ?_
          intro e a2 w2 hq
          cases e with
          | goto l'=>exact hq.elim
          | _=>exact hq
       | ret=>rw [arun_ret] at h;exact wp_ret (Kp_ret ⟨ρ,fr,H,hs,h⟩ k)
       | _=>rw [arun] at h <;> first | exact h.elim | simp
end Go.Am
/- Contracts out of runs. -/
namespace Go.Am
variable {P:Program} {tab:Tab}
def Sc.pf:Sc→Bool
 | .p _ _ _ | .sl _ _ _ _ | .mp _=>false
 | .f _ cs=>cs.isEmpty
 | _=>true
def AV.pf:AV→Bool
 | .c s=>s.pf
 | .g l=>l.all Sc.pf
 | .t l=>l.all fun x=>match x with | .c s=>s.pf | .g l=>l.all Sc.pf | .t _=>false
theorem SRel.pf {ρ ρ':Ro} {s:Sc} {v:Value} (h:SRel ρ s v) (hp:s.pf=true):SRel ρ' s v:=by
 cases s <;> simp [Sc.pf] at hp <;> try exact h
 subst hp
 obtain ⟨cv,h1,h2⟩:=h
 cases h2
 exact ⟨[],h1,.nil⟩
theorem L2.pf {ρ ρ':Ro} {l:List Sc} {c:List Value} (h:L2 (SRel ρ) l c) (hp:l.all Sc.pf=true):L2 (SRel ρ') l c:=by
 induction h with
 | nil=>exact .nil
 | cons h _ ih=>simp only [List.all_cons,Bool.and_eq_true] at hp;exact .cons (h.pf hp.1) (ih hp.2)
theorem VRel.pf {ρ ρ':Ro} {x:AV} {v:Value} (h:VRel ρ x v) (hp:x.pf=true):VRel ρ' x v:=by
 cases x with
 | c s=>exact SRel.pf h hp
 | g l=>obtain ⟨cs,h1,h2⟩:=h;exact ⟨cs,h1,h2.pf hp⟩
 | t l =>
   obtain ⟨vs,h1,h2⟩:=h
   refine ⟨vs,h1,?_⟩
   simp only [AV.pf] at hp
   clear h1
   induction h2 with
   | nil=>exact .nil
   | @cons a b l m h _ ih =>
     simp only [List.all_cons,Bool.and_eq_true] at hp
     refine .cons ?_ (ih hp.2)
     cases a with
     | c s=>exact SRel.pf h hp.1
     | g l=>obtain ⟨cs,h1,h2⟩:=h;exact ⟨cs,h1,h2.pf hp.1⟩
     | t l=>exact h.elim
def frA:Nat→List AV→Fr
 | _,[]=>[]
 | n,v::r=>(n,v)::frA (n+1) r
theorem get_frA {ρ:Ro}:∀(args:List AV) (cs:List Value),L2 (VRel ρ) args cs→∀n s,VRel ρ (get (frA n args) s) (if n≤s then cs.getD (s - n) undef else undef):=by
 intro args cs h
 induction h with
 | nil=>intro n s;trivial
 | @cons x c args cs h _ ih =>
   intro n s
   simp only [frA,get]
   split
   ·subst_vars;simpa using h
   ·rename_i hne
    have:=ih (n+1) s
    by_cases hle:n≤s
    ·rw [if_pos hle]
     rw [if_pos (by omega)] at this
     obtain ⟨d,hd⟩:∃d,s - n=d+1:=⟨s - n - 1,by omega⟩
     rw [hd,List.getD_cons_succ,show d=s - (n+1) by omega];exact this
    ·rw [if_neg hle]
     rw [if_neg (by omega)] at this;exact this
def ldA (P:Program) (t:Nat) (H:AH) (x:AV):Option AV :=
 match x with
 | .c (.p id off ver)=>if ver=(hg H id).row∧off+szT P t≤(hg H id).cells.length∧0 < szT P t∧(dT P t).is∧((dT P t).agg=false→szT P t=1) then some (rd (dT P t).agg (hg H id).cells off (szT P t)) else none
 | _=>none
def res1 (P:Program) (fr:Fr) (H:AH):ResultVar→Option AV
 | .tmp t=>some (get fr t)
 | .cell a t=>ldA P t H (get fr a)
def AV.flat:AV→Bool
 | .t _=>false
 | _=>true
def resL (P:Program) (fr:Fr) (H:AH):List ResultVar→Option (List AV)
 | []=>some []
 | r::rs =>
   match res1 P fr H r,resL P fr H rs with
   | some v,some l=>if v.flat=true then some (v::l) else none
   | _,_=>none
def resA (P:Program) (fr:Fr) (H:AH) (rs:List ResultVar):Option AV :=
 match rs with
 | [r]=>res1 P fr H r
 | rs=>(resL P fr H rs).map .t
theorem ldA_run {ρ:Ro} {w:World} {H:AH} {t:Nat} {x v:AV} {cx:Value} (h:ldA P t H x=some v) (hx:VRel ρ x cx) (hO:∀i,ORel ρ w i (hg H i)) :
 ∃ad vc,cx=.pointer (some ad)∧(loadVar t ad).run P w=.ok vc w∧VRel ρ v vc:=by
 unfold ldA at h
 split at h
 ·rename_i id off ver
  split at h <;> simp at h
  rename_i hc
  subst h
  obtain ⟨L,ad,h2,h3,h4,h5⟩:=(show PRel ρ id off ver _ from hx)
  have hlive:(hg H id).live=true:=by
   cases hh:hg H id with
   | dead=>rw [hh] at hc;simp [AObj.cells] at hc;omega
   | _=>rfl
  have hrow:=(hO id).row h2 hlive
  obtain ⟨_,_,rfl⟩:=h5 (by rw [hrow];exact hc.1)
  obtain ⟨vc,h6,h7⟩:=load_run (hO id) h2 hc.2.1 hc.2.2.1 hc.2.2.2.1 hc.2.2.2.2
  exact ⟨_,vc,h3,h6,h7⟩
 ·simp at h
def resS (tmps:Array Value) (r:ResultVar):Sem Value :=
 match r with
 | .tmp t=>pure (tmps.getD t undef)
 | .cell a t=>do loadVar t (←asAddr (tmps.getD a undef))
theorem results_eq (fn:Func) (tmps:Array Value):results fn tmps=(do let vs ←List.toArray <$> fn.results.toList.mapM (resS tmps);pure (if h:vs.size=1 then vs[0] else .tuple vs)):=by
 unfold results
 rw [Array.mapM_eq_mapM_toList]
 rfl
theorem res1_run {ρ:Ro} {w:World} {H:AH} {fr:Fr} {tmps:Array Value} {r:ResultVar} {v:AV} (h:res1 P fr H r=some v) (hf:∀s,VRel ρ (get fr s) (tmps.getD s undef)) (hO:∀i,ORel ρ w i (hg H i)) :
 ∃vc,(resS tmps r).run P w=.ok vc w∧VRel ρ v vc:=by
 cases r with
 | tmp t=>simp [res1] at h;subst h;exact ⟨_,rfl,hf t⟩
 | cell a t =>
   obtain ⟨ad,vc,h1,h2,h3⟩:=ldA_run (P:=P) (show ldA P t H (get fr a)=some v from h) (hf a) hO
   exact ⟨vc,by simp [resS,h1,asAddr,h2],h3⟩
theorem resA_run {ρ:Ro} {w:World} {H:AH} {fr:Fr} {tmps:Array Value} {fn:Func} {v:AV} (h:resA P fr H fn.results.toList=some v) (hf:∀s,VRel ρ (get fr s) (tmps.getD s undef)) (hO:∀i,ORel ρ w i (hg H i)) :
 ∃vc,(results fn tmps).run P w=.ok vc w∧VRel ρ v vc:=by
 have key:∀(rs:List ResultVar) (l:List AV),resL P fr H rs=some l→∃vs:List Value,(rs.mapM (resS tmps)).run P w=.ok vs w∧L2 (V1 ρ) l vs∧vs.length=rs.length:=by
  intro rs
  induction rs with
  | nil=>intro l h;simp [resL] at h;subst h;exact ⟨[],by simp,.nil,rfl⟩
  | cons r rs ih =>
    intro l h
    simp only [resL] at h
    split at h
    ·rename_i v' l' h1 h2
     split at h <;> simp at h
     rename_i hfl
     subst h
     obtain ⟨vc,h3,h4⟩:=res1_run (P:=P) h1 hf hO
     obtain ⟨vs,h5,h6,h7⟩:=ih _ h2
     refine ⟨vc::vs,?_,.cons ?_ h6,by simp [h7]⟩
     ·simp only [List.mapM_cons,Sem.run_bind,h3,Result.andThen_ok,h5,Sem.run_pure]
     ·cases v' <;> first | exact h4 | simp [AV.flat] at hfl
    ·simp at h
 rw [results_eq]
 unfold resA at h
 split at h
 ·rename_i r hr
  obtain ⟨vc,h1,h2⟩:=res1_run (P:=P) h hf hO
  refine ⟨vc,?_,h2⟩
  rw [hr]
  simp only [List.mapM_cons,List.mapM_nil,Sem.run_bind,Sem.run_map,h1,Result.andThen_ok,Sem.run_pure]
  rfl
 ·rename_i rs hne
  simp only [Option.map_eq_some_iff] at h
  obtain ⟨l,h1,rfl⟩:=h
  obtain ⟨vs,h2,h3,h4⟩:=key _ _ h1
  refine ⟨.tuple vs.toArray,?_,vs,rfl,h3⟩
  simp only [Sem.run_bind,Sem.run_map,h2,Result.andThen_ok,Sem.run_pure]
  have:¬vs.toArray.size=1:=by
   intro e
   have:fn.results.toList.length=1:=by rw [←h4];simpa using e
   match hh:fn.results.toList,this with
   | [r],_=>exact hne r hh
  rw [dif_neg this]
theorem HR.nil (w:World):HR ρ0 w [] :=
 ⟨fun i=>by rw [hg_ge _ (Nat.zero_le _)];trivial,fun i j Li Lj _ h=>by rw [hg_ge _ (Nat.zero_le _)] at h;simp [AObj.owned] at h,fun _ _=>rfl⟩
theorem Keep.refl (w:World) (M:Nat→Prop) (h:∀b c t f,w.heap[b]?=some (.cells c t f)→M b→f=(0,0)):Keep w M w :=
 ⟨rfl,rfl,rfl,Nat.le_refl _,fun _ _ _=>rfl,fun b c t f hf hm=>by
   rcases hm with hm | hm
   ·rw [Array.getElem?_eq_none hm] at hf;simp at hf
   ·exact h b c t f hf hm⟩
theorem pu_of_arun {f:Nat} {fn:Func} {code:Code} {rs:List ResultVar} {n:Nat} {s:List AV→Option AV} (drawn:Array Oper→Bool) (hf:P.funcs[f]?=some fn) (hb:fn.body=some code) (hrs:fn.results=rs.toArray) (hn:fn.ntmps=n) (hname:(fn.name == "runtime.NumGoroutine")=false)
 (ht:TabOk P tab) (hdr:∀ops,drawn ops=true→opsOk n ops.toList=true→DrawOk P tab n ops) (hok:okC n drawn code=true)
 (h:∀args v,s args=some v→args.length≤n∧args.all AV.pf=true∧v.pf=true∧arun P tab [.c code] (frA 0 args) [] (fun fr H=>resA P fr H rs=some v)):PuOk P f s:=by
 obtain rfl:fn.results.toList=rs:=by rw [hrs]
 subst hn
 refine ⟨fun args w=>?_,fun args v hs ρ w cs hcs=>?_⟩
 ·have hn:¬fn.name = "runtime.NumGoroutine":=by simpa using hname
  simp [callFunc,hf,hn,hb]
 ·obtain ⟨h1,h2,h3,h4⟩:=h args v hs
  have hrel:L2 (VRel ρ0) args cs:=by
   clear h1 h4 hs
   induction hcs with
   | nil=>exact .nil
   | cons h _ ih=>simp only [List.all_cons,Bool.and_eq_true] at h2;exact .cons (h.pf h2.1) (ih h2.2)
  have hlen:=hcs.length
  refine calls_of_wp hf hb ?_
  have hst:St fn.ntmps w ⟨fun _=>False,0,ρ0⟩ ρ0 (frA 0 args) [] {tmps:=cs.toArray++Array.replicate (fn.ntmps - cs.toArray.size) undef,defers:=[]} w:=by
   refine ⟨fun x=>?_,by simp;omega,rfl,HR.nil w,Keep.refl w _ (fun _ _ _ _ _ h=>h.elim),fun i L h=>by rw [hg_ge _ (Nat.zero_le _)] at h;simp [AObj.owned] at h,fun i h=>absurd h (Nat.not_lt_zero _)⟩
   have:=get_frA args cs hrel 0 x
   rw [if_pos (Nat.zero_le _),Nat.sub_zero] at this
   have e:(cs.toArray++Array.replicate (fn.ntmps - cs.toArray.size) undef).getD x undef=cs.getD x undef:=by
    rw [Array.getD_eq_getD_getElem?,List.getD_eq_getElem?_getD,Array.getElem?_append]
    split
    ·simp
    ·rename_i hx
     simp at hx
     rw [List.getElem?_eq_none hx,Array.getElem?_replicate]
     split <;> rfl
   rw [e];exact this
  have hkp:=sound (M:=⟨fun _=>False,0,ρ0⟩) (Nat.zero_le _) ht drawn hdr (kwt [.c code]) [.c code] (Nat.le_refl _) (by simp [okK,okI,hok]) _ _ h4 _ _ _ hst
  refine wp_mono (show code.wp P (Kp P fn.ntmps w ⟨fun _=>False,0,ρ0⟩ _ []) _ w from hkp) ?_
  intro e a2 w2 hq
  have fin:SI fn.ntmps w ⟨fun _=>False,0,ρ0⟩ (fun fr H=>resA P fr H fn.results.toList=some v) a2 w2→a2.defers=[]∧∃v',(results fn a2.tmps).run P w2=.ok v' w2∧∃vc,Ending.returned v'=.returned vc∧(∀ρ',VRel ρ' v vc)∧Keep w (fun _=>False) w2:=by
   rintro ⟨ρ2,fr2,H2,hs2,hres⟩
   obtain ⟨vc,h5,h6⟩:=resA_run (P:=P) hres hs2.fr hs2.hr.obj
   exact ⟨hs2.df,vc,h5,vc,rfl,fun ρ'=>h6.pf h3,hs2.kp⟩
  cases e <;> first | exact fin hq | exact hq.elim
end Go.Am
/- Rules by which 'simp only' runs a text. -/
namespace Go.Am
variable {P:Program} {tab:Tab} {full:Array Oper} {os:List Oper} {k:List It} {fr:Fr} {H:AH} {Q:Fr→AH→Prop}
def nxt (P:Program) (tab:Tab) (full:Array Oper) (os:List Oper) (k:List It) (Q:Fr→AH→Prop) (d:Option Nat) (fr:Fr) (r:Option (AV × AH)) (z:Option (AV→AH→Prop)):Prop :=
 match r with
 | some (v,H')=>arun P tab (.ops full os::k) (putA d v fr) H' Q
 | none =>
   match z with
   | some R=>∀v H',R v H'→arun P tab (.ops full os::k) (putA d v fr) H' Q
   | none=>False
theorem putA_some {d:Nat} {v:AV}:putA (some d) v fr=(d,v)::fr:=rfl
theorem putA_none {v:AV}:putA none v fr=fr:=rfl
theorem st_go {d:Option Nat} {op:Op} {ty:Nat} {pos:String} {af:Array Edge} :
 arun P tab (.ops full (⟨d,op,ty,pos,af,none⟩::os)::k) fr H Q=nxt P tab full os k Q d fr (astep P tab op ((opnds op).map (ev fr)) H) (mayS tab op ((opnds op).map (ev fr)) H):=by rw [arun_op];rfl
def grd (P:Program) (tab:Tab) (full:Array Oper) (os:List Oper) (k:List It) (Q:Fr→AH→Prop) (d:Option Nat) (op:Op) (want:Bool) (fr:Fr) (H:AH) (g:AV):Prop :=
 match g with
 | .c (.b q)=>if q=want then nxt P tab full os k Q d fr (astep P tab op ((opnds op).map (ev fr)) H) none else arun P tab (.ops full os::k) (putA d (.c .und) fr) H Q
 | .c .und=>arun P tab (.ops full os::k) (putA d (.c .und) fr) H Q
 | _=>False
theorem grd_b {d:Option Nat} {op:Op} {want q:Bool}:grd P tab full os k Q d op want fr H (.c (.b q))=if q=want then nxt P tab full os k Q d fr (astep P tab op ((opnds op).map (ev fr)) H) none else arun P tab (.ops full os::k) (putA d (.c .und) fr) H Q:=rfl
def dstA (full:Array Oper) (j:Nat):Option Nat:=(full[j]?).bind (·.dst)
def gslot (full:Array Oper) (fr:Fr) (j:Nat):AV :=
 match dstA full j with
 | some e=>Am.get fr e
 | none=>.c .und
theorem st_gd {d:Option Nat} {op:Op} {ty j:Nat} {want:Bool} {pos:String} {af:Array Edge} :
 arun P tab (.ops full (⟨d,op,ty,pos,af,some (j,want)⟩::os)::k) fr H Q=grd P tab full os k Q d op want fr H (gslot full fr j):=by
 rw [arun_op]
 simp only [gval,gslot,dstA]
 cases (full[j]?).bind (·.dst) with
 | none=>rfl
 | some e =>
   simp only
   cases Am.get fr e with
   | c s=>cases s <;> rfl
   | g l=>rfl
   | t l=>rfl
@[congr] theorem arun_cg {fr':Fr} {H':AH} (h1:fr=fr') (h2:H=H'):arun P tab k fr H Q=arun P tab k fr' H' Q:=by rw [h1,h2]
@[congr] theorem nxt_cg {d:Option Nat} {r r':Option (AV × AH)} {z:Option (AV→AH→Prop)} (h1:r=r'):nxt P tab full os k Q d fr r z=nxt P tab full os k Q d fr r' z:=by rw [h1]
@[congr] theorem grd_cg {d:Option Nat} {op:Op} {want:Bool} {g g':AV} (h1:g=g'):grd P tab full os k Q d op want fr H g=grd P tab full os k Q d op want fr H g':=by rw [h1]
theorem nxt_put {d:Nat} {v:AV} {H':AH} {z:Option (AV→AH→Prop)}:nxt P tab full os k Q (some d) fr (some (v,H')) z=arun P tab (.ops full os::k) ((d,v)::fr) H' Q:=rfl
theorem nxt_non {v:AV} {H':AH} {z:Option (AV→AH→Prop)}:nxt P tab full os k Q none fr (some (v,H')) z=arun P tab (.ops full os::k) fr H' Q:=rfl
theorem arun_rgn {id:Nat} {l:List Oper}:arun P tab (.c (.region id l.toArray false)::k) fr H Q=arun P tab (.ops l.toArray l::k) fr H Q:=by rw [arun_region]
def gd (P:Program) (tab:Tab) (full:Array Oper) (os:List Oper) (i:Nat) (log:List (Nat × Tc)) (k:List It) (Q:Fr→AH→Prop) (fr:Fr) (H:AH):Prop:=arun P tab (.dr full os i log::k) fr H Q
theorem gd_eq {i:Nat} {log:List (Nat × Tc)}:gd P tab full os i log k Q fr H=arun P tab (.dr full os i log::k) fr H Q:=rfl
@[congr] theorem gd_cg {i i':Nat} {log:List (Nat × Tc)} (h:i=i'):gd P tab full os i log k Q fr H=gd P tab full os i' log k Q fr H:=by rw [h]
def nxd (P:Program) (tab:Tab) (full:Array Oper) (os:List Oper) (i:Nat) (log:List (Nat × Tc)) (k:List It) (Q:Fr→AH→Prop) (d:Option Nat) (fr:Fr) (H:AH) (t:Tc) (r:Option (AV × AH)):Prop :=
 match r with
 | some (v,H')=>okT full i (tcx t H H') log∧arun P tab (.dr full os (i+1) (psh i (tcx t H H') log)::k) (putA d v fr) H' Q
 | none=>False
@[congr] theorem nxd_cg {i:Nat} {log:List (Nat × Tc)} {d:Option Nat} {t t':Tc} {r r':Option (AV × AH)} (h:t=t') (h1:r=r'):nxd P tab full os i log k Q d fr H t r=nxd P tab full os i log k Q d fr H t' r':=by rw [h,h1]
theorem arun_rgd {id:Nat} {l:List Oper}:arun P tab (.c (.region id l.toArray true)::k) fr H Q=arun P tab (.dr l.toArray l 0 []::k) fr H Q:=by rw [arun_regiond]
theorem sd_go {i:Nat} {log:List (Nat × Tc)} {d:Option Nat} {op:Op} {ty:Nat} {pos:String} {af:Array Edge} :
 arun P tab (.dr full (⟨d,op,ty,pos,af,none⟩::os) i log::k) fr H Q=nxd P tab full os i log k Q d fr H (tcof P tab op ((opnds op).map (ev fr))) (astep P tab op ((opnds op).map (ev fr)) H):=by rw [arun_dr];rfl
def grdd (P:Program) (tab:Tab) (full:Array Oper) (os:List Oper) (i:Nat) (log:List (Nat × Tc)) (k:List It) (Q:Fr→AH→Prop) (d:Option Nat) (op:Op) (want:Bool) (fr:Fr) (H:AH) (g:AV):Prop :=
 match g with
 | .c (.b q)=>if q=want then nxd P tab full os i log k Q d fr H (tcof P tab op ((opnds op).map (ev fr))) (astep P tab op ((opnds op).map (ev fr)) H) else arun P tab (.dr full os (i+1) log::k) (putA d (.c .und) fr) H Q
 | .c .und=>arun P tab (.dr full os (i+1) log::k) (putA d (.c .und) fr) H Q
 | _=>False
theorem grdd_b {i:Nat} {log:List (Nat × Tc)} {d:Option Nat} {op:Op} {want q:Bool}:grdd P tab full os i log k Q d op want fr H (.c (.b q))=if q=want then nxd P tab full os i log k Q d fr H (tcof P tab op ((opnds op).map (ev fr))) (astep P tab op ((opnds op).map (ev fr)) H) else arun P tab (.dr full os (i+1) log::k) (putA d (.c .und) fr) H Q:=rfl
theorem okT_no {i:Nat}:∀{log:List (Nat × Tc)},okT full i .no log=True
 | []=>rfl
 | (j,u)::r=>by simp only [okT,clash,false_imp_iff,true_and];exact okT_no
theorem nd_no {i d:Nat} {log:List (Nat × Tc)} {v:AV} {H':AH}:nxd P tab full os i log k Q (some d) fr H .no (some (v,H'))=gd P tab full os (i+1) log k Q ((d,v)::fr) H':=by
 simp only [nxd,tcx,okT_no,psh,true_and];rfl
theorem nd_ld {i d a b c:Nat} {log:List (Nat × Tc)} {v:AV} {H':AH}:nxd P tab full os i log k Q (some d) fr H (.ld a b c) (some (v,H'))=(okT full i (.ld a b c) log∧gd P tab full os (i+1) ((i,.ld a b c)::log) k Q ((d,v)::fr) H'):=rfl
theorem nd_mk {i d:Nat} {log:List (Nat × Tc)} {v:AV} {H':AH}:nxd P tab full os i log k Q (some d) fr H .mk (some (v,H'))=(okT full i .mk log∧gd P tab full os (i+1) ((i,.mk)::log) k Q ((d,v)::fr) H'):=rfl
theorem nd_rd {i d:Nat} {log:List (Nat × Tc)} {v:AV} {H':AH}:nxd P tab full os i log k Q (some d) fr H .rd (some (v,H'))=(okT full i .rd log∧gd P tab full os (i+1) ((i,.rd)::log) k Q ((d,v)::fr) H'):=rfl
theorem nd_bar {i d:Nat} {log:List (Nat × Tc)} {v:AV} {H':AH}:nxd P tab full os i log k Q (some d) fr H .bar (some (v,H'))=(okT full i (.cl H H') log∧gd P tab full os (i+1) ((i,.cl H H')::log) k Q ((d,v)::fr) H'):=rfl
theorem nn_rd {i:Nat} {log:List (Nat × Tc)} {v:AV} {H':AH}:nxd P tab full os i log k Q none fr H .rd (some (v,H'))=(okT full i .rd log∧gd P tab full os (i+1) ((i,.rd)::log) k Q fr H'):=rfl
theorem nn_bar {i:Nat} {log:List (Nat × Tc)} {v:AV} {H':AH}:nxd P tab full os i log k Q none fr H .bar (some (v,H'))=(okT full i (.cl H H') log∧gd P tab full os (i+1) ((i,.cl H H')::log) k Q fr H'):=rfl
theorem nn_st {i a b c:Nat} {log:List (Nat × Tc)} {v:AV} {H':AH}:nxd P tab full os i log k Q none fr H (.st a b c) (some (v,H'))=(okT full i (.st a b c) log∧gd P tab full os (i+1) ((i,.st a b c)::log) k Q fr H'):=rfl
theorem gdd_tt {i:Nat} {log:List (Nat × Tc)} {d:Option Nat} {op:Op}:grdd P tab full os i log k Q d op true fr H (.c (.b true))=nxd P tab full os i log k Q d fr H (tcof P tab op ((opnds op).map (ev fr))) (astep P tab op ((opnds op).map (ev fr)) H):=rfl
theorem gdd_ff {i:Nat} {log:List (Nat × Tc)} {d:Option Nat} {op:Op}:grdd P tab full os i log k Q d op false fr H (.c (.b false))=nxd P tab full os i log k Q d fr H (tcof P tab op ((opnds op).map (ev fr))) (astep P tab op ((opnds op).map (ev fr)) H):=rfl
theorem gdd_tf {i d:Nat} {log:List (Nat × Tc)} {op:Op}:grdd P tab full os i log k Q (some d) op true fr H (.c (.b false))=gd P tab full os (i+1) log k Q ((d,.c .und)::fr) H:=by
 rw [grdd_b,if_neg (by decide)];rfl
theorem gdd_ft {i d:Nat} {log:List (Nat × Tc)} {op:Op}:grdd P tab full os i log k Q (some d) op false fr H (.c (.b true))=gd P tab full os (i+1) log k Q ((d,.c .und)::fr) H:=by
 rw [grdd_b,if_neg (by decide)];rfl
theorem gdd_u {i d:Nat} {log:List (Nat × Tc)} {op:Op} {want:Bool}:grdd P tab full os i log k Q (some d) op want fr H (.c .und)=gd P tab full os (i+1) log k Q ((d,.c .und)::fr) H:=rfl
theorem gdd_nu {i:Nat} {log:List (Nat × Tc)} {op:Op} {want:Bool}:grdd P tab full os i log k Q none op want fr H (.c .und)=gd P tab full os (i+1) log k Q fr H:=rfl
theorem tc_load {t:Nat} {x:Operand} {vs:List AV}:tcof P tab (.load t x) vs=tcL (szT P t) vs:=rfl
theorem tc_store {t:Nat} {x y:Operand} {vs:List AV}:tcof P tab (.store t x y) vs=tcS (szT P t) vs:=rfl
theorem tc_alloc {t:Nat} {vs:List AV}:tcof P tab (.alloc t) vs=.mk:=rfl
theorem tc_box {t:Nat} {x:Operand} {vs:List AV}:tcof P tab (.box t x) vs=.mk:=rfl
theorem tc_buildSlice {t n:Nat} {ps:Array (Nat × Operand)} {vs:List AV}:tcof P tab (.buildSlice t n ps) vs=.mk:=rfl
theorem tc_makeSlice {t:Nat} {x y:Operand} {vs:List AV}:tcof P tab (.makeSlice t x y) vs=.mk:=rfl
theorem tc_call {f:Operand} {as:Array Operand} {ts:Array TypeId} {vs:List AV}:tcof P tab (.call ⟨.value f,as,ts⟩) vs=tcC tab vs:=rfl
theorem tc_move {x:Operand} {vs:List AV}:tcof P tab (.move x) vs=.no:=rfl
theorem tc_assign {x:Operand} {vs:List AV}:tcof P tab (.assign x) vs=.no:=rfl
theorem tc_pick {x y z:Operand} {vs:List AV}:tcof P tab (.pick x y z) vs=.no:=rfl
theorem tc_build {t:Nat} {ps:Array (Nat × Operand)} {vs:List AV}:tcof P tab (.build t ps) vs=.no:=rfl
theorem tc_nilCheck {x:Operand} {vs:List AV}:tcof P tab (.nilCheck x) vs=.no:=rfl
theorem tc_binOp {o:BinOp} {t u:Nat} {x y:Operand} {vs:List AV}:tcof P tab (.binOp o t x y u) vs=.no:=rfl
theorem tc_unOp {o:UnOp} {t:Nat} {x:Operand} {vs:List AV}:tcof P tab (.unOp o t x) vs=.no:=rfl
theorem tc_convert {t u:Nat} {x:Operand} {vs:List AV}:tcof P tab (.convert t u x) vs=tcV vs:=rfl
theorem tv_i {n:Int}:tcV [.c (.i n)]=.no:=rfl
theorem tv_u {n:BitVec 64}:tcV [.c (.u n)]=.no:=rfl
theorem tv_k {k:IntKind} {n:Int}:tcV [.c (.k k n)]=.no:=rfl
theorem tv_s {n:ByteArray}:tcV [.c (.s n)]=.no:=rfl
theorem tv_sl {a b c d:Nat}:tcV [.c (.sl a b c d)]=.bar:=rfl
theorem tv_nils:tcV [.c .nils]=.bar:=rfl
theorem tc_makeFunc {f:Fn} {x y:Array Operand} {vs:List AV}:tcof P tab (.makeFunc f x y) vs=.no:=rfl
theorem tc_fieldAddr {t n:Nat} {x:Operand} {vs:List AV}:tcof P tab (.fieldAddr t x n) vs=.no:=rfl
theorem tc_field {t n:Nat} {x:Operand} {vs:List AV}:tcof P tab (.field t x n) vs=.no:=rfl
theorem tc_indexAddr {t:Nat} {x y:Operand} {vs:List AV}:tcof P tab (.indexAddr t x y) vs=.no:=rfl
theorem tc_index {t:Nat} {x y:Operand} {vs:List AV}:tcof P tab (.index t x y) vs=.no:=rfl
theorem tc_slice {t:Nat} {x:Operand} {a b c:Option Operand} {vs:List AV}:tcof P tab (.slice t x a b c) vs=.no:=rfl
theorem tc_extract {n:Nat} {x:Operand} {vs:List AV}:tcof P tab (.extract x n) vs=.no:=rfl
theorem tc_len {as:Array Operand} {ts:Array TypeId} {vs:List AV}:tcof P tab (.call ⟨.builtin .len,as,ts⟩) vs=tcM vs:=rfl
theorem tm_sl {a b c d:Nat}:tcM [.c (.sl a b c d)]=.no:=rfl
theorem tm_nils:tcM [.c .nils]=.no:=rfl
theorem tm_s {n:ByteArray}:tcM [.c (.s n)]=.no:=rfl
theorem tm_g {l:List Sc}:tcM [.g l]=.no:=rfl
theorem tm_p {a b c:Nat}:tcM [.c (.p a b c)]=.no:=rfl
theorem tm_any:tcM [.c .any]=.no:=rfl
theorem tm_mp {a:Nat}:tcM [.c (.mp a)]=.bar:=rfl
theorem tm_nilm:tcM [.c .nilm]=.bar:=rfl
theorem tc_lookup {t:Nat} {x y:Operand} {q:Bool} {vs:List AV}:tcof P tab (.lookup t x y q) vs=.bar:=rfl
theorem tc_makeMap {t:Nat} {r:Option Operand} {vs:List AV}:tcof P tab (.makeMap t r) vs=.bar:=rfl
theorem tc_mapUpdate {t:Nat} {x y z:Operand} {vs:List AV}:tcof P tab (.mapUpdate t x y z) vs=.bar:=rfl
theorem tc_insert {t:Nat} {x y z:Operand} {vs:List AV}:tcof P tab (.insert t x y z) vs=.bar:=rfl
theorem tc_delete {as:Array Operand} {ts:Array TypeId} {vs:List AV}:tcof P tab (.call ⟨.builtin .delete,as,ts⟩) vs=.bar:=rfl
theorem tc_clear {as:Array Operand} {ts:Array TypeId} {vs:List AV}:tcof P tab (.call ⟨.builtin .clear,as,ts⟩) vs=.bar:=rfl
theorem tc_copy {as:Array Operand} {ts:Array TypeId} {vs:List AV}:tcof P tab (.call ⟨.builtin .copy,as,ts⟩) vs=.bar:=rfl
theorem tc_min {as:Array Operand} {ts:Array TypeId} {vs:List AV}:tcof P tab (.call ⟨.builtin .min,as,ts⟩) vs=.no:=rfl
theorem tc_max {as:Array Operand} {ts:Array TypeId} {vs:List AV}:tcof P tab (.call ⟨.builtin .max,as,ts⟩) vs=.no:=rfl
theorem tc_append {as:Array Operand} {ts:Array TypeId} {vs:List AV}:tcof P tab (.call ⟨.builtin .append,as,ts⟩) vs=.bar:=rfl
theorem tl_eq {n id off ver:Nat}:tcL n [.c (.p id off ver)]=.ld id off n:=rfl
theorem ts_eq {n id off ver:Nat} {x:AV}:tcS n [.c (.p id off ver),x]=.st id off n:=rfl
theorem oe_ll {i j:Nat} {a b c:Nat} {d e f:Nat}:okE full i j (.ld a b c) (.ld d e f)=(tied full i j=true):=rfl
theorem oe_ls {i j:Nat} {a b c:Nat} {d e f:Nat}:okE full i j (.ld a b c) (.st d e f)=(tied full i j=true):=rfl
theorem oe_lm {i j:Nat} {a b c:Nat}:okE full i j (.ld a b c) (.mk)=(tied full i j=true):=rfl
theorem oe_lr {i j:Nat} {a b c:Nat}:okE full i j (.ld a b c) (.rd)=(tied full i j=true):=rfl
theorem oe_lb {i j:Nat} {a b c:Nat} {C D:AH}:okE full i j (.ld a b c) (.cl C D)=(tied full i j=true):=rfl
theorem oe_sl {i j:Nat} {a b c:Nat} {d e f:Nat}:okE full i j (.st a b c) (.ld d e f)=(tied full i j=true):=rfl
theorem oe_ss {i j:Nat} {a b c:Nat} {d e f:Nat}:okE full i j (.st a b c) (.st d e f)=(tied full i j=true):=rfl
theorem oe_sm {i j:Nat} {a b c:Nat}:okE full i j (.st a b c) (.mk)=(tied full i j=true):=rfl
theorem oe_sr {i j:Nat} {a b c:Nat}:okE full i j (.st a b c) (.rd)=(tied full i j=true):=rfl
theorem oe_sb {i j:Nat} {a b c:Nat} {C D:AH}:okE full i j (.st a b c) (.cl C D)=(tied full i j=true):=rfl
theorem oe_ml {i j:Nat} {d e f:Nat}:okE full i j (.mk) (.ld d e f)=(tied full i j=true):=rfl
theorem oe_ms {i j:Nat} {d e f:Nat}:okE full i j (.mk) (.st d e f)=(tied full i j=true):=rfl
theorem oe_mm {i j:Nat}:okE full i j (.mk) (.mk)=(tied full i j=true):=rfl
theorem oe_mr {i j:Nat}:okE full i j (.mk) (.rd)=(tied full i j=true):=rfl
theorem oe_mb {i j:Nat} {C D:AH}:okE full i j (.mk) (.cl C D)=((¬(loose full i j=true∧nvw C D)→tied full i j=true)):=rfl
theorem oe_rl {i j:Nat} {d e f:Nat}:okE full i j (.rd) (.ld d e f)=(tied full i j=true):=rfl
theorem oe_rs {i j:Nat} {d e f:Nat}:okE full i j (.rd) (.st d e f)=(tied full i j=true):=rfl
theorem oe_rm {i j:Nat}:okE full i j (.rd) (.mk)=(tied full i j=true):=rfl
theorem oe_rr {i j:Nat}:okE full i j (.rd) (.rd)=(tied full i j=true):=rfl
theorem oe_rb {i j:Nat} {C D:AH}:okE full i j (.rd) (.cl C D)=(tied full i j=true):=rfl
theorem oe_bl {i j:Nat} {d e f:Nat} {A B:AH}:okE full i j (.cl A B) (.ld d e f)=(tied full i j=true):=rfl
theorem oe_bs {i j:Nat} {d e f:Nat} {A B:AH}:okE full i j (.cl A B) (.st d e f)=(tied full i j=true):=rfl
theorem oe_bm {i j:Nat} {A B:AH}:okE full i j (.cl A B) (.mk)=(tied full i j=true):=rfl
theorem oe_br {i j:Nat} {A B:AH}:okE full i j (.cl A B) (.rd)=(tied full i j=true):=rfl
theorem oe_bb {i j:Nat} {A B:AH} {C D:AH}:okE full i j (.cl A B) (.cl C D)=(tied full i j=true):=rfl
theorem ok_nil {i:Nat} {t:Tc}:okT full i t []=True:=rfl
theorem ok_cons {i j:Nat} {t u:Tc} {r:List (Nat × Tc)}:okT full i t ((j,u)::r)=((clash t u→okE full i j t u)∧okT full i t r):=rfl
theorem cl_ll {a b c d e f:Nat}:clash (.ld a b c) (.ld d e f)=False:=rfl
theorem cl_lm {a b c:Nat}:clash (.ld a b c) .mk=False:=rfl
theorem cl_lr {a b c:Nat}:clash (.ld a b c) .rd=False:=rfl
theorem cl_ls {i a n j b m:Nat}:clash (.ld i a n) (.st j b m)=(i=j∧a < b+m∧b < a+n):=rfl
theorem cl_lb {a b c:Nat} {A B:AH}:clash (.ld a b c) (.cl A B)=¬(hg B a=hg A a∧(hg A a).live=true):=rfl
theorem cl_sl {i a n j b m:Nat}:clash (.st i a n) (.ld j b m)=(i=j∧a < b+m∧b < a+n):=rfl
theorem cl_ss {i a n j b m:Nat}:clash (.st i a n) (.st j b m)=(i=j∧a < b+m∧b < a+n):=rfl
theorem cl_sm {a b c:Nat}:clash (.st a b c) .mk=False:=rfl
theorem cl_sr {a b c:Nat}:clash (.st a b c) .rd=True:=rfl
theorem cl_sb {a b c:Nat} {A B:AH}:clash (.st a b c) (.cl A B)=True:=rfl
theorem cl_ml {a b c:Nat}:clash .mk (.ld a b c)=False:=rfl
theorem cl_ms {a b c:Nat}:clash .mk (.st a b c)=False:=rfl
theorem cl_mm:clash .mk .mk=False:=rfl
theorem cl_mr:clash .mk .rd=True:=rfl
theorem cl_mb {A B:AH}:clash .mk (.cl A B)=True:=rfl
theorem cl_rl {a b c:Nat}:clash .rd (.ld a b c)=False:=rfl
theorem cl_rs {a b c:Nat}:clash .rd (.st a b c)=True:=rfl
theorem cl_rm:clash .rd .mk=True:=rfl
theorem cl_rr:clash .rd .rd=False:=rfl
theorem cl_rb {A B:AH}:clash .rd (.cl A B)=True:=rfl
theorem cl_bl {a b c:Nat} {A B:AH}:clash (.cl A B) (.ld a b c)=¬(hg B a=hg A a∧(hg A a).live=true):=rfl
theorem cl_bs {a b c:Nat} {A B:AH}:clash (.cl A B) (.st a b c)=True:=rfl
theorem cl_bm {A B:AH}:clash (.cl A B) .mk=True:=rfl
theorem cl_br {A B:AH}:clash (.cl A B) .rd=True:=rfl
theorem cl_bb {A B C D:AH}:clash (.cl A B) (.cl C D)=True:=rfl
theorem sd_gd {i:Nat} {log:List (Nat × Tc)} {d:Option Nat} {op:Op} {ty j:Nat} {want:Bool} {pos:String} {af:Array Edge} :
 arun P tab (.dr full (⟨d,op,ty,pos,af,some (j,want)⟩::os) i log::k) fr H Q=grdd P tab full os i log k Q d op want fr H (gslot full fr j):=by
 rw [arun_dr]
 simp only [gval,gslot,dstA]
 cases (full[j]?).bind (·.dst) with
 | none=>rfl
 | some e =>
   simp only
   cases Am.get fr e with
   | c s=>cases s <;> rfl
   | g l=>rfl
   | t l=>rfl
theorem grd_tt {d:Option Nat} {op:Op}:grd P tab full os k Q d op true fr H (.c (.b true))=nxt P tab full os k Q d fr (astep P tab op ((opnds op).map (ev fr)) H) none:=rfl
theorem grd_ff {d:Option Nat} {op:Op}:grd P tab full os k Q d op false fr H (.c (.b false))=nxt P tab full os k Q d fr (astep P tab op ((opnds op).map (ev fr)) H) none:=rfl
theorem grd_tf {d:Nat} {op:Op}:grd P tab full os k Q (some d) op true fr H (.c (.b false))=arun P tab (.ops full os::k) ((d,.c .und)::fr) H Q:=by
 rw [grd_b,if_neg (by decide)];rfl
theorem grd_ft {d:Nat} {op:Op}:grd P tab full os k Q (some d) op false fr H (.c (.b true))=arun P tab (.ops full os::k) ((d,.c .und)::fr) H Q:=by
 rw [grd_b,if_neg (by decide)];rfl
theorem grd_u {d:Nat} {op:Op} {want:Bool}:grd P tab full os k Q (some d) op want fr H (.c .und)=arun P tab (.ops full os::k) ((d,.c .und)::fr) H Q:=rfl
theorem grd_nu {op:Op} {want:Bool}:grd P tab full os k Q none op want fr H (.c .und)=arun P tab (.ops full os::k) fr H Q:=rfl
def cnd (P:Program) (tab:Tab) (a b:Code) (k:List It) (Q:Fr→AH→Prop) (fr:Fr) (H:AH) (v:AV):Prop :=
 match v with
 | .c (.b true)=>arun P tab (.c a::k) fr H Q
 | .c (.b false)=>arun P tab (.c b::k) fr H Q
 | .c .qq=>arun P tab (.c a::k) fr H Q∧arun P tab (.c b::k) fr H Q
 | _=>False
theorem cnd_qq {a b:Code}:cnd P tab a b k Q fr H (.c .qq)=(arun P tab (.c a::k) fr H Q∧arun P tab (.c b::k) fr H Q):=rfl
@[congr] theorem cnd_cg {a b:Code} {v v':AV} (h:v=v'):cnd P tab a b k Q fr H v=cnd P tab a b k Q fr H v':=by rw [h]
theorem cnd_tt {a b:Code}:cnd P tab a b k Q fr H (.c (.b true))=arun P tab (.c a::k) fr H Q:=rfl
theorem cnd_ff {a b:Code}:cnd P tab a b k Q fr H (.c (.b false))=arun P tab (.c b::k) fr H Q:=rfl
theorem arun_cnd {x:Operand} {a b:Code}:arun P tab (.c (.cond x a b)::k) fr H Q=cnd P tab a b k Q fr H (ev fr x):=by
 rw [arun_cond]
 generalize ev fr x=v
 cases v with
 | c s=>cases s <;> first | rfl | (rename_i q;cases q <;> rfl)
 | g l=>rfl
 | t l=>rfl
theorem oc_own {l:List Sc}:(AObj.own l).cells=l:=rfl
theorem oc_vec {l:List Sc} {n:Nat}:(AObj.vec n l).cells=l:=rfl
theorem oc_view {l:List Sc}:(AObj.view l).cells=l:=rfl
theorem or_own {l:List Sc}:(AObj.own l).row=0:=rfl
theorem or_vec {l:List Sc} {n:Nat}:(AObj.vec n l).row=l.length:=rfl
theorem or_view {l:List Sc}:(AObj.view l).row=0:=rfl
theorem oo_own {l:List Sc}:(AObj.own l).owned=true:=rfl
theorem ol_own {l:List Sc}:(AObj.own l).live=true:=rfl
theorem ol_vec {l:List Sc} {n:Nat}:(AObj.vec n l).live=true:=rfl
theorem ol_view {l:List Sc}:(AObj.view l).live=true:=rfl
theorem oo_vec {l:List Sc} {n:Nat}:(AObj.vec n l).owned=true:=rfl
theorem op_own {l m:List Sc}:(AObj.own l).put m=.own m:=rfl
theorem op_vec {l m:List Sc} {n:Nat}:(AObj.vec n l).put m=.vec n m:=rfl
theorem hg_zero {o:AObj} {H:AH}:hg (o::H) 0=o:=rfl
theorem hg_succ {o:AObj} {H:AH} {n:Nat}:hg (o::H) (n+1)=hg H n:=rfl
theorem hg_len {H X:AH}:hg (H++X) H.length=hg X 0:=by
 unfold hg;rw [List.getD_eq_getElem?_getD,List.getD_eq_getElem?_getD,List.getElem?_append_right (Nat.le_refl _),Nat.sub_self]
theorem hg_len_add {H X:AH} {n:Nat}:hg (H++X) (H.length+n)=hg X n:=by
 unfold hg;rw [List.getD_eq_getElem?_getD,List.getD_eq_getElem?_getD,List.getElem?_append_right (Nat.le_add_right _ _),Nat.add_sub_cancel_left]
theorem hg_lt' {H X:AH} {n:Nat} (h:n < H.length):hg (H++X) n=hg H n:=by
 unfold hg;rw [List.getD_eq_getElem?_getD,List.getD_eq_getElem?_getD,List.getElem?_append_left h]
theorem hg_set_same {H:AH} {o:AObj} {n:Nat} (h:n < H.length):hg (H.set n o) n=o:=by simp [hg,List.getD_eq_getElem?_getD,h]
theorem hg_set_ne {H:AH} {o:AObj} {m n:Nat} (h:(m == n)=false):hg (H.set m o) n=hg H n:=by
 have h':m≠n:=by simpa using h
 unfold hg;rw [List.getD_eq_getElem?_getD,List.getD_eq_getElem?_getD,List.getElem?_set_ne h']
theorem set_len {H X:AH} {o:AObj}:(H++X).set H.length o=H++X.set 0 o:=by rw [List.set_append_right _ _ (Nat.le_refl _),Nat.sub_self]
theorem set_len_add {H X:AH} {o:AObj} {n:Nat}:(H++X).set (H.length+n) o=H++X.set n o:=by rw [List.set_append_right _ _ (Nat.le_add_right _ _),Nat.add_sub_cancel_left]
theorem ev_tmp {t:Nat}:ev fr (.tmp t)=Am.get fr t:=rfl
theorem ev_func {f:Nat}:ev fr (.func f)=.c (.f f []):=rfl
theorem ev_i {n:Int} (h:-9223372036854775808≤n∧n≤9223372036854775807):ev fr (.const (.int .i64 n))=.c (.i n):=by simp only [ev,absC,absS,h,and_self,if_true]
theorem ev_u {n:Int} (h:0≤n∧n≤18446744073709551615):ev fr (.const (.int .u64 n))=.c (.u (BitVec.ofInt 64 n)):=by simp only [ev,absC,absS,h,and_self,if_true]
theorem ev_b {q:Bool}:ev fr (.const (.bool q))=.c (.b q):=rfl
theorem ev_nils:ev fr (.const (.slice none 0 0))=.c .nils:=rfl
theorem ev_nilp:ev fr (.const (.pointer none))=.c .nilp:=rfl
theorem ev_nilf:ev fr (.const .nilFunc)=.c .nilf:=rfl
theorem get_same {d:Nat} {v:AV}:Am.get ((d,v)::fr) d=v:=by simp [Am.get]
theorem get_ne {d s:Nat} {v:AV} (h:(d == s)=false):Am.get ((d,v)::fr) s=Am.get fr s:=by simp at h;simp [Am.get,h]
section
variable {x y z:Operand} {a b c:AV} {t:Nat}
theorem op_move:opnds (.move x)=[x]:=rfl
theorem op_assign:opnds (.assign x)=[x]:=rfl
theorem op_box:opnds (.box t x)=[x]:=rfl
theorem op_load:opnds (.load t x)=[x]:=rfl
theorem op_nilCheck:opnds (.nilCheck x)=[x]:=rfl
theorem op_unOp {o:UnOp}:opnds (.unOp o t x)=[x]:=rfl
theorem op_convert {s:Nat}:opnds (.convert s t x)=[x]:=rfl
theorem op_fieldAddr {n:Nat}:opnds (.fieldAddr t x n)=[x]:=rfl
theorem op_field {n:Nat}:opnds (.field t x n)=[x]:=rfl
theorem op_extract {n:Nat}:opnds (.extract x n)=[x]:=rfl
theorem op_pick:opnds (.pick x y z)=[x,y,z]:=rfl
theorem op_build {l:List (Nat × Operand)}:opnds (.build t l.toArray)=l.map (·.2):=rfl
theorem op_buildSlice {n:Nat} {l:List (Nat × Operand)}:opnds (.buildSlice t n l.toArray)=l.map (·.2):=rfl
theorem op_store:opnds (.store t x y)=[x,y]:=rfl
theorem op_binOp {o:BinOp} {s:Nat}:opnds (.binOp o t x y s)=[x,y]:=rfl
theorem op_makeSlice:opnds (.makeSlice t x y)=[x,y]:=rfl
theorem op_indexAddr:opnds (.indexAddr t x y)=[x,y]:=rfl
theorem op_index:opnds (.index t x y)=[x,y]:=rfl
theorem op_makeFunc {f:Fn} {l m:List Operand}:opnds (.makeFunc f l.toArray m.toArray)=m:=rfl
theorem op_slice {lo hi mx:Option Operand}:opnds (.slice t x lo hi mx)=x::(lo.toList++hi.toList++mx.toList):=rfl
theorem op_call {l:List Operand} {ts:Array Nat}:opnds (.call ⟨.value x,l.toArray,ts⟩)=x::l:=rfl
theorem op_builtin {bi:Builtin} {l:List Operand} {ts:Array Nat}:opnds (.call ⟨.builtin bi,l.toArray,ts⟩)=l:=rfl
theorem op_alloc:opnds (.alloc t)=[]:=rfl
theorem op_range:opnds (.range t x)=[x]:=rfl
theorem op_next {q:Bool}:opnds (.next x q)=[x]:=rfl
theorem op_entry:opnds (.entry x)=[x]:=rfl
theorem as_range {id:Nat}:astep P tab (.range t x) [.c (.mp id)] H=rngA P t id H:=rfl
theorem as_entry {id:Nat}:astep P tab (.entry x) [.c (.p id 0 0)] H=(entA id H).map fun v=>(v,H):=rfl
theorem as_next {q:Bool} {vs:List AV}:astep P tab (.next x q) vs H=none:=by
 have h1:isM (.next x q) vs=false:=by unfold isM;split <;> first | rfl | simp_all
 have h2:∀os,qop P (.next x q) vs os=none:=by intro os;unfold qop;split <;> first | rfl | simp_all
 have h3:eop P (.next x q) vs H=none:=by unfold eop;split <;> first | rfl | simp_all
 unfold astep
 split <;> first | (simp_all;done) | (rename_i h;cases h)
theorem nxt_next {d:Option Nat} {id m since last clk:Nat} {seen:List Nat} {es:List (Nat × AV × AV)} (hv:ev fr x=.c (.p id 0 0)) (h1:hg H id=.iter m since seen last) (h2:hg H m=.map clk es)
 (h3:(es.all fun e=>decide (e.1 < since))=true) (h4:since≤last) (k0:(es.filter fun e=>!seen.contains e.1)=[]→arun P tab (.ops full os::k) (putA d (.t [.c (.b false)]) fr) H Q)
 (k1:∀e,e∈es→e.1∉seen→arun P tab (.ops full os::k) (putA d (.t [.c (.b true),e.2.1,e.2.2]) fr) (H.set id (.iter m since (seen++[e.1]) clk)) Q) :
 nxt P tab full os k Q d fr none (mayS tab (.next x false) ((opnds (.next x false)).map (ev fr)) H):=by
 have e:mayS tab (.next x false) ((opnds (.next x false)).map (ev fr)) H=some (fun v H'=>(v,H')∈nxl H id m since seen clk (es.filter fun e=>!seen.contains e.1)):=by
  rw [op_next]
  simp only [List.map_cons,List.map_nil,hv,mayS,itS,itA,h1,h2,h3,h4,and_self,if_true,Option.map_some]
 rw [e]
 show ∀v H',(v,H')∈_→_
 intro v H' hr
 cases hf:es.filter (fun e=>!seen.contains e.1) with
 | nil =>
   rw [hf] at hr
   have:=List.mem_singleton.1 hr
   simp only [Prod.mk.injEq] at this
   obtain ⟨rfl,rfl⟩:=this
   exact k0 hf
 | cons a l =>
   rw [hf] at hr
   obtain ⟨e,he,hh⟩:=List.mem_map.1 hr
   simp only [Prod.mk.injEq] at hh
   obtain ⟨rfl,rfl⟩:=hh
   rw [←hf] at he
   obtain ⟨m1,m2⟩:=List.mem_filter.1 he
   exact k1 e m1 (by simpa using m2)
theorem as_move:astep P tab (.move x) [a] H=some (a,H):=rfl
theorem as_assign:astep P tab (.assign x) [a] H=some (a,H):=rfl
theorem as_pick {q:Bool}:astep P tab (.pick x y z) [.c (.b q),a,b] H=some (if q=true then a else b,H):=by cases q <;> rfl
theorem as_build {l:List (Nat × Operand)} {vs:List AV}:astep P tab (.build t l.toArray) vs H=(buildA P t ((l.map (·.1)).zip vs)).map fun v=>(v,H):=by
 show (match qop P (.build t l.toArray) vs _ with | some v=>some (v,H) | none=>eop P _ _ _)=_
 simp only [qop]
 cases buildA P t ((l.map (·.1)).zip vs) <;> rfl
theorem as_load {id off ver:Nat}:astep P tab (.load t x) [.c (.p id off ver)] H=(ldA P t H (.c (.p id off ver))).map fun v=>(v,H):=by
 show (match qop P (.load t x) [.c (.p id off ver)] [hg H id] with | some v=>some (v,H) | none=>eop P _ _ _)=_
 have e:qop P (.load t x) [.c (.p id off ver)] [hg H id]=ldA P t H (.c (.p id off ver)):=rfl
 simp only [e]
 cases ldA P t H (.c (.p id off ver)) <;> rfl
theorem as_nilCheck {id off ver:Nat}:astep P tab (.nilCheck x) [.c (.p id off ver)] H=some (.c (.p id off ver),H):=rfl
theorem as_nilCheckf {f:Nat} {cs:List (Nat × Nat × Nat)}:astep P tab (.nilCheck x) [.c (.f f cs)] H=some (.c (.f f cs),H):=rfl
theorem as_bin {o:BinOp} {s:Nat}:astep P tab (.binOp o t x y s) [a,b] H=(abin P o t a b).map fun v=>(v,H):=by
 show (match qop P (.binOp o t x y s) [a,b] _ with | some v=>some (v,H) | none=>eop P _ _ _)=_
 simp only [qop]
 cases abin P o t a b <;> rfl
theorem as_un {o:UnOp}:astep P tab (.unOp o t x) [a] H=(aun o a).map fun v=>(v,H):=by
 show (match qop P (.unOp o t x) [a] _ with | some v=>some (v,H) | none=>eop P _ _ _)=_
 simp only [qop]
 cases aun o a <;> rfl
theorem as_cv_i {s:Nat} {n:Int}:astep P tab (.convert s t x) [.c (.i n)] H=(if (dT P s).is=true then acv P t (.c (.i n)) else none).map fun v=>(v,H):=by
 show (match qop P (.convert s t x) [.c (.i n)] ((touch (.convert s t x) [.c (.i n)]).map (hg H)) with | some v=>some (v,H) | none=>eop P _ _ _)=_
 have e:qop P (.convert s t x) [.c (.i n)] ((touch (.convert s t x) [.c (.i n)]).map (hg H))=if (dT P s).is=true then acv P t (.c (.i n)) else none:=rfl
 rw [e]
 cases (if (dT P s).is=true then acv P t (.c (.i n)) else none) <;> rfl
theorem as_cv_u {s:Nat} {n:BitVec 64}:astep P tab (.convert s t x) [.c (.u n)] H=(if (dT P s).is=true then acv P t (.c (.u n)) else none).map fun v=>(v,H):=by
 show (match qop P (.convert s t x) [.c (.u n)] ((touch (.convert s t x) [.c (.u n)]).map (hg H)) with | some v=>some (v,H) | none=>eop P _ _ _)=_
 have e:qop P (.convert s t x) [.c (.u n)] ((touch (.convert s t x) [.c (.u n)]).map (hg H))=if (dT P s).is=true then acv P t (.c (.u n)) else none:=rfl
 rw [e]
 cases (if (dT P s).is=true then acv P t (.c (.u n)) else none) <;> rfl
theorem as_cv_k {s:Nat} {k:IntKind} {n:Int}:astep P tab (.convert s t x) [.c (.k k n)] H=(if (dT P s).is=true then acv P t (.c (.k k n)) else none).map fun v=>(v,H):=by
 show (match qop P (.convert s t x) [.c (.k k n)] ((touch (.convert s t x) [.c (.k k n)]).map (hg H)) with | some v=>some (v,H) | none=>eop P _ _ _)=_
 have e:qop P (.convert s t x) [.c (.k k n)] ((touch (.convert s t x) [.c (.k k n)]).map (hg H))=if (dT P s).is=true then acv P t (.c (.k k n)) else none:=rfl
 rw [e]
 cases (if (dT P s).is=true then acv P t (.c (.k k n)) else none) <;> rfl
theorem as_cv_sl {s i o v n:Nat}:astep P tab (.convert s t x) [.c (.sl i o v n)] H=(cvS P s t (.c (.sl i o v n)) H).map fun v=>(v,H):=rfl
theorem as_cv_nils {s:Nat}:astep P tab (.convert s t x) [.c .nils] H=(cvS P s t (.c .nils) H).map fun v=>(v,H):=rfl
theorem as_makeFunc {f:Nat} {m:List Operand} {vs:List AV}:astep P tab (.makeFunc (.func f) #[] m.toArray) vs H=(caps vs).map fun l=>(.c (.f f l),H):=by
 show (match qop P (.makeFunc (.func f) #[] m.toArray) vs _ with | some v=>some (v,H) | none=>eop P _ _ _)=_
 simp only [qop,List.size_toArray,List.length_nil,if_true]
 cases caps vs <;> rfl
def fldA (P:Program) (d:D) (n id off ver:Nat):Option AV :=
 match d with
 | .st fs=>match fs[n]? with
   | some f=>if 0 < szT P f.2 then some (.c (.p id (off+f.1) ver)) else none
   | none=>none
 | _=>none
theorem as_fieldAddr {n id off ver:Nat}:astep P tab (.fieldAddr t x n) [.c (.p id off ver)] H=(fldA P (dT P t) n id off ver).map fun v=>(v,H):=by
 show (match qop P (.fieldAddr t x n) [.c (.p id off ver)] _ with | some v=>some (v,H) | none=>eop P _ _ _)=_
 have e:qop P (.fieldAddr t x n) [.c (.p id off ver)] ((touch (.fieldAddr t x n) [.c (.p id off ver)]).map (hg H))=fldA P (dT P t) n id off ver:=rfl
 simp only [e]
 cases fldA P (dT P t) n id off ver <;> rfl
def fldV (P:Program) (d:D) (n:Nat) (l:List Sc):Option AV :=
 match d with
 | .st fs=>match fs[n]? with
   | some f=>if 0 < szT P f.2∧(dT P f.2).is=true∧f.1+szT P f.2≤l.length then some (rd (dT P f.2).agg l f.1 (szT P f.2)) else none
   | none=>none
 | _=>none
theorem as_indexAddr:astep P tab (.indexAddr t x y) [a,b] H=(indexAddrA P t a b).map fun v=>(v,H):=by
 show (match qop P (.indexAddr t x y) [a,b] _ with | some v=>some (v,H) | none=>eop P _ _ _)=_
 simp only [qop]
 cases indexAddrA P t a b <;> rfl
theorem as_index:astep P tab (.index t x y) [a,b] H=(indexA P t a b).map fun v=>(v,H):=by
 show (match qop P (.index t x y) [a,b] _ with | some v=>some (v,H) | none=>eop P _ _ _)=_
 simp only [qop]
 cases indexA P t a b <;> rfl
theorem as_slice10:astep P tab (.slice t x (some y) none none) [a,b] H=(sliceA P t a (some b) none).map fun v=>(v,H):=by
 show (match qop P (.slice t x (some y) none none) [a,b] _ with | some v=>some (v,H) | none=>eop P _ _ _)=_
 simp only [qop]
 cases sliceA P t a (some b) none <;> rfl
theorem as_slice01:astep P tab (.slice t x none (some y) none) [a,b] H=(sliceA P t a none (some b)).map fun v=>(v,H):=by
 show (match qop P (.slice t x none (some y) none) [a,b] _ with | some v=>some (v,H) | none=>eop P _ _ _)=_
 simp only [qop]
 cases sliceA P t a none (some b) <;> rfl
theorem as_extract {n:Nat} {l:List AV}:astep P tab (.extract x n) [.t l] H=(l[n]?).map fun v=>(v,H):=by
 show (match qop P (.extract x n) [.t l] _ with | some v=>some (v,H) | none=>eop P _ _ _)=_
 simp only [qop]
 cases l[n]? <;> rfl
theorem as_len0 {l:Array Operand} {ts:List Nat} (h:isM (.call ⟨.builtin .len,l,(t::ts).toArray⟩) [a]=false):astep P tab (.call ⟨.builtin .len,l,(t::ts).toArray⟩) [a] H=(lenA P t a).map fun v=>(v,H):=by
 show (if isM (.call ⟨.builtin .len,l,(t::ts).toArray⟩) [a]=true then mopA P (.call ⟨.builtin .len,l,(t::ts).toArray⟩) [a] H else match qop P (.call ⟨.builtin .len,l,(t::ts).toArray⟩) [a] _ with | some v=>some (v,H) | none=>eop P _ _ _)=_
 rw [h]
 simp only [Bool.false_eq_true,if_false,qop,List.getElem?_toArray,List.getElem?_cons_zero]
 cases lenA P t a <;> rfl
theorem as_len_sl {l:Array Operand} {ts:List Nat} {i j k n:Nat}:astep P tab (.call ⟨.builtin .len,l,(t::ts).toArray⟩) [.c (.sl i j k n)] H=(lenA P t (.c (.sl i j k n))).map fun v=>(v,H):=as_len0 rfl
theorem as_len_nils {l:Array Operand} {ts:List Nat}:astep P tab (.call ⟨.builtin .len,l,(t::ts).toArray⟩) [.c .nils] H=(lenA P t (.c .nils)).map fun v=>(v,H):=as_len0 rfl
theorem as_len_s {l:Array Operand} {ts:List Nat} {n:ByteArray}:astep P tab (.call ⟨.builtin .len,l,(t::ts).toArray⟩) [.c (.s n)] H=(lenA P t (.c (.s n))).map fun v=>(v,H):=as_len0 rfl
theorem as_len_mp {l:Array Operand} {ts:List Nat} {i:Nat}:astep P tab (.call ⟨.builtin .len,l,(t::ts).toArray⟩) [.c (.mp i)] H=(mlenA P t (.c (.mp i)) H).map fun v=>(v,H):=rfl
theorem as_len_nilm {l:Array Operand} {ts:List Nat}:astep P tab (.call ⟨.builtin .len,l,(t::ts).toArray⟩) [.c .nilm] H=(mlenA P t (.c .nilm) H).map fun v=>(v,H):=rfl
theorem as_lookup {q:Bool}:astep P tab (.lookup t x y q) [a,b] H=(lookA P t a b q H).map fun v=>(v,H):=rfl
theorem as_mapUpdate:astep P tab (.mapUpdate t x y z) [a,b,c] H=(updA P t a b c H).map fun H'=>(.c .und,H'):=rfl
theorem as_insert:astep P tab (.insert t x y z) [a,b,c] H=(updA P t a b c H).map fun H'=>(.c .und,H'):=rfl
def mkmA (P:Program) (t:Nat) (H:AH):Option (AV × AH):=if (mT P t).isSome then some (.c (.mp H.length),H++[.map 0 []]) else none
theorem as_makeMap0:astep P tab (.makeMap t none) [] H=mkmA P t H:=rfl
theorem as_makeMap1 {n:Int}:astep P tab (.makeMap t (some x)) [.c (.i n)] H=mkmA P t H:=rfl
theorem as_delete {l:Array Operand} {ts:List Nat}:astep P tab (.call ⟨.builtin .delete,l,(t::ts).toArray⟩) [a,b] H=(delA P t a b H).map fun H'=>(.t [],H'):=rfl
theorem as_copy {l:Array Operand} {ts:List Nat}:astep P tab (.call ⟨.builtin .copy,l,(t::ts).toArray⟩) [a,b] H=copA P t a b H:=rfl
theorem as_clear {l:Array Operand} {ts:List Nat}:astep P tab (.call ⟨.builtin .clear,l,(t::ts).toArray⟩) [a] H=(clrA P t a H).map fun H'=>(.t [],H'):=rfl
theorem as_min {l:Array Operand} {ts:Array Nat} {m n:Int}:astep P tab (.call ⟨.builtin .min,l,ts⟩) [.c (.i m),.c (.i n)] H=some (.c (.i (min m n)),H):=rfl
theorem as_max {l:Array Operand} {ts:Array Nat} {m n:Int}:astep P tab (.call ⟨.builtin .max,l,ts⟩) [.c (.i m),.c (.i n)] H=some (.c (.i (max m n)),H):=rfl
theorem as_append {l:Array Operand} {ts:Array Nat} {vs:List AV}:astep P tab (.call ⟨.builtin .append,l,ts⟩) vs H=appA P ts vs H:=rfl
theorem as_call {l:Array Operand} {ts:Array Nat} {f:Nat} {cs:List (Nat × Nat × Nat)} {vs:List AV}:astep P tab (.call ⟨.value x,l,ts⟩) (.c (.f f cs)::vs) H=callA tab f (vs++cs.map capV) H:=rfl
def allocA (z:Option (List Sc)) (H:AH):Option (AV × AH) :=
 match z with
 | some z=>some (.c (.p H.length 0 0),H++[.own z])
 | none=>none
theorem as_alloc:astep P tab (.alloc t) [] H=allocA (zT P t) H:=rfl
theorem as_box:astep P tab (.box t x) [a] H=allocA a.cells H:=rfl
def storeA (P:Program) (t id off ver:Nat) (o:AObj) (l:Option (List Sc)) (H:AH):Option (AV × AH) :=
 match l with
 | some l=>if o.owned=true∧ver=o.row∧l.length=szT P t∧0 < szT P t∧off+l.length≤o.cells.length∧l.all Sc.one=true then some (.c .und,H.set id (o.put (wr o.cells off l))) else none
 | none=>none
theorem as_store {id off ver:Nat}:astep P tab (.store t x y) [.c (.p id off ver),a] H=storeA P t id off ver (hg H id) a.cells H:=rfl
def bsA (P:Program) (t len:Nat) (is:List Nat) (m:Nat) (vs:List AV) (H:AH):Option (AV × AH) :=
 match dT P t with
 | .sl e =>
   match zT P e with
   | some z =>
     if 0 < szT P e∧0 < len∧len * szT P e≤16777216∧z.length=szT P e then
      match fillA (fun i=>some (i * szT P e,szT P e)) (List.replicate len z).flatten (is.zip vs) with
      | some cs=>some (.c (.sl H.length 0 cs.length len),H++[.vec (szT P e) cs])
      | none=>none
     else if 0 < szT P e∧len=0∧m=0 then some (.c (.sl H.length 0 0 0),H++[.vec (szT P e) []])
     else none
   | none=>none
 | _=>none
theorem as_buildSlice {n:Nat} {l:List (Nat × Operand)} {vs:List AV}:astep P tab (.buildSlice t n l.toArray) vs H=bsA P t n (l.toArray.toList.map (·.1)) l.toArray.size vs H:=by
 have e:astep P tab (.buildSlice t n l.toArray) vs H=(match qop P (.buildSlice t n l.toArray) vs ((touch (.buildSlice t n l.toArray) vs).map (hg H)) with | some v=>some (v,H) | none=>eop P (.buildSlice t n l.toArray) vs H):=by
  cases vs <;> rfl
 rw [e]
 have:qop P (.buildSlice t n l.toArray) vs ((touch (.buildSlice t n l.toArray) vs).map (hg H))=none:=by
  cases vs with
  | nil=>rfl
  | cons a r=>cases r with
    | nil=>rfl
    | cons b r=>cases r <;> rfl
 rw [this]
 rfl
def msA (P:Program) (t:Nat) (l c:Int) (H:AH):Option (AV × AH) :=
 match dT P t with
 | .sl e =>
   match zT P e with
   | some z =>
     if l=c∧0≤l∧l≤1048576∧0 < szT P e∧byT P e≤1048576∧z.length=szT P e then
      some (.c (.sl H.length 0 (l.toNat * szT P e) l.toNat),H++[.vec (szT P e) (List.replicate l.toNat z).flatten])
     else none
   | none=>none
 | _=>none
theorem as_makeSlice {l c:Int}:astep P tab (.makeSlice t x y) [.c (.i l),.c (.i c)] H=msA P t l c H:=rfl
end
section
variable {t:Nat} {x y:BitVec 64} {m n:Int} {p q:Bool}
theorem ab_u_add:abin P .add t (.c (.u x)) (.c (.u y))=some (.c (.u (x+y))):=rfl
theorem ab_u_sub:abin P .sub t (.c (.u x)) (.c (.u y))=some (.c (.u (x - y))):=rfl
theorem ab_u_mul:abin P .mul t (.c (.u x)) (.c (.u y))=some (.c (.u (x * y))):=rfl
theorem ab_u_quo:abin P .quo t (.c (.u x)) (.c (.u y))=if y=0#64 then none else some (.c (.u (x / y))):=rfl
theorem ab_u_rem:abin P .rem t (.c (.u x)) (.c (.u y))=if y=0#64 then none else some (.c (.u (x % y))):=rfl
theorem ab_u_and:abin P .and t (.c (.u x)) (.c (.u y))=some (.c (.u (x &&& y))):=rfl
theorem ab_u_or:abin P .or t (.c (.u x)) (.c (.u y))=some (.c (.u (x ||| y))):=rfl
theorem ab_u_xor:abin P .xor t (.c (.u x)) (.c (.u y))=some (.c (.u (x ^^^ y))):=rfl
theorem ab_u_andNot:abin P .andNot t (.c (.u x)) (.c (.u y))=some (.c (.u (x &&& ~~~y))):=rfl
theorem ab_u_eql:abin P .eql t (.c (.u x)) (.c (.u y))=some (.c (.b (decide (x=y)))):=rfl
theorem ab_u_neq:abin P .neq t (.c (.u x)) (.c (.u y))=some (.c (.b (!decide (x=y)))):=rfl
theorem ab_u_lss:abin P .lss t (.c (.u x)) (.c (.u y))=some (.c (.b (decide (x < y)))):=rfl
theorem ab_u_leq:abin P .leq t (.c (.u x)) (.c (.u y))=some (.c (.b (decide (x≤y)))):=rfl
theorem ab_u_gtr:abin P .gtr t (.c (.u x)) (.c (.u y))=some (.c (.b (decide (y < x)))):=rfl
theorem ab_u_geq:abin P .geq t (.c (.u x)) (.c (.u y))=some (.c (.b (decide (y≤x)))):=rfl
theorem ab_u_shl:abin P .shl t (.c (.u x)) (.c (.u y))=some (.c (.u (x <<< y.toNat))):=rfl
theorem ab_u_shr:abin P .shr t (.c (.u x)) (.c (.u y))=some (.c (.u (x >>> y.toNat))):=rfl
theorem ab_i_add:abin P .add t (.c (.i m)) (.c (.i n))=some (.c (.i (w64 (m+n)))):=rfl
theorem ab_i_sub:abin P .sub t (.c (.i m)) (.c (.i n))=some (.c (.i (w64 (m - n)))):=rfl
theorem ab_i_mul:abin P .mul t (.c (.i m)) (.c (.i n))=some (.c (.i (w64 (m * n)))):=rfl
theorem ab_i_quo:abin P .quo t (.c (.i m)) (.c (.i n))=if n=0 then none else some (.c (.i (w64 (m.tdiv n)))):=rfl
theorem ab_i_rem:abin P .rem t (.c (.i m)) (.c (.i n))=if n=0 then none else some (.c (.i (m.tmod n))):=rfl
theorem ab_i_eql:abin P .eql t (.c (.i m)) (.c (.i n))=some (.c (.b (decide (m=n)))):=rfl
theorem ab_i_neq:abin P .neq t (.c (.i m)) (.c (.i n))=some (.c (.b (!decide (m=n)))):=rfl
theorem ab_i_lss:abin P .lss t (.c (.i m)) (.c (.i n))=some (.c (.b (decide (m < n)))):=rfl
theorem ab_i_leq:abin P .leq t (.c (.i m)) (.c (.i n))=some (.c (.b (decide (m≤n)))):=rfl
theorem ab_i_gtr:abin P .gtr t (.c (.i m)) (.c (.i n))=some (.c (.b (decide (n < m)))):=rfl
theorem ab_i_geq:abin P .geq t (.c (.i m)) (.c (.i n))=some (.c (.b (decide (n≤m)))):=rfl
theorem ab_i_shlu:abin P .shl t (.c (.i m)) (.c (.u y))=some (.c (.i (w64 (m * 2 ^ min y.toNat 64)))):=rfl
theorem ab_i_shru:abin P .shr t (.c (.i m)) (.c (.u y))=some (.c (.i (m / 2 ^ min y.toNat 64))):=rfl
theorem ab_b_eql (h:dT P t=.bool):abin P .eql t (.c (.b p)) (.c (.b q))=some (.c (.b (p == q))):=by simp [abin,h,binB]
theorem ab_b_neq (h:dT P t=.bool):abin P .neq t (.c (.b p)) (.c (.b q))=some (.c (.b (!(p == q)))):=by simp [abin,h,binB]
theorem ab_s_eql {a b:ByteArray}:abin P .eql t (.c (.s a)) (.c (.s b))=some (.c (.b (decide (a=b)))):=rfl
theorem ab_s_neq {a b:ByteArray}:abin P .neq t (.c (.s a)) (.c (.s b))=some (.c (.b (!decide (a=b)))):=rfl
theorem ab_g_eql {a b:List Sc} (g:List Tg) (h:(dT P t).agg=true) (hg:tagsT P 12 t=some g):abin P .eql t (.g a) (.g b)=(csEq g a b).bind (eqU .eql):=by simp [abin,h,hg]
theorem ab_g_neq {a b:List Sc} (g:List Tg) (h:(dT P t).agg=true) (hg:tagsT P 12 t=some g):abin P .neq t (.g a) (.g b)=(csEq g a b).bind (eqU .neq):=by simp [abin,h,hg]
theorem au_not:aun .not (.c (.b p))=some (.c (.b (!p))):=rfl
theorem au_neg_i:aun .neg (.c (.i m))=some (.c (.i (w64 (-m)))):=rfl
theorem au_neg_u:aun .neg (.c (.u x))=some (.c (.u (-x))):=rfl
theorem au_xor_u:aun .xor (.c (.u x))=some (.c (.u (~~~x))):=rfl
theorem cv_ui (h:dT P t=.int .i64):acv P t (.c (.u x))=some (.c (.i x.toInt)):=by simp [acv,h]
theorem cv_iu (h:dT P t=.int .u64):acv P t (.c (.i m))=some (.c (.u (BitVec.ofInt 64 m))):=by simp [acv,h]
end
theorem w64_of {n:Int} (h:-9223372036854775808≤n∧n≤9223372036854775807):w64 n=n:=w64_id h.1 h.2
theorem ev_u8 {n:Int} (h:0≤n∧n≤255):ev fr (.const (.int .u8 n))=.c (.k .u8 n):=by
 have h2:IntKind.u8.min≤n∧n≤IntKind.u8.max:=h
 simp only [ev,absC,absS,h2,and_self,if_true]
theorem cv_u_u8 {d:Nat} {x:BitVec 64} (h:dT P d=.int .u8):acv P d (.c (.u x))=some (.c (.k .u8 (IntKind.u8.wrap x.toNat))):=by simp only [acv,h]
theorem cv_k_i64 {d:Nat} {k:IntKind} {n:Int} (h:dT P d=.int .i64):acv P d (.c (.k k n))=some (.c (.i n)):=by simp only [acv,h]
theorem cv_k_u64 {d:Nat} {k:IntKind} {n:Int} (h:dT P d=.int .u64):acv P d (.c (.k k n))=some (.c (.u (BitVec.ofInt 64 n))):=by simp only [acv,h]
theorem ab_k_eql {t:Nat} {k:IntKind} {x y:Int}:abin P .eql t (.c (.k k x)) (.c (.k k y))=some (.c (.b (decide (x=y)))):=by simp only [abin,if_true];rfl
theorem ab_k_shlu {t:Nat} {k:IntKind} {x:Int} {y:BitVec 64}:abin P .shl t (.c (.k k x)) (.c (.u y))=some (.c (.k k (k.wrap (x * 2 ^ (min y.toNat k.bits))))):=rfl
theorem ab_k_shru {t:Nat} {k:IntKind} {x:Int} {y:BitVec 64}:abin P .shr t (.c (.k k x)) (.c (.u y))=some (.c (.k k (x / 2 ^ (min y.toNat k.bits)))):=rfl
end Go.Am
/- Regions that draw their order: what is done to objects, in any order. -/
namespace Go.Am
variable {P:Program} {tab:Tab} {N:Nat}
def AObj.hd:AObj→Nat × Nat × Nat × List (Nat × AV × AV) × List Nat
 | .own cs=>(0,0,cs.length,[],[])
 | .vec z cs=>(1,z,cs.length,[],[])
 | .view cs=>(2,0,cs.length,[],[])
 | .dead=>(3,0,0,[],[])
 | .map clk es=>(4,clk,0,es,[])
 | .iter m since seen last=>(5,m,since,[],last::seen)
theorem AObj.ext {o p:AObj} (h:o.hd=p.hd) (hc:∀k,o.cells.getD k .any=p.cells.getD k .any):o=p:=by
 have key:∀(l m:List Sc),l.length=m.length→(∀k,l.getD k .any=m.getD k .any)→l=m:=by
  intro l m hl hk
  apply List.ext_getElem hl
  intro i h1 h2
  have:=hk i
  simpa [List.getD_eq_getElem?_getD,h1,h2] using this
 cases o <;> cases p <;> simp [AObj.hd] at h <;> simp only [AObj.cells] at hc
 ·rw [key _ _ h hc]
 ·rw [h.1,key _ _ h.2 hc]
 ·rw [key _ _ h hc]
 ·rw [h.1,h.2]
 ·obtain ⟨rfl,rfl,rfl,rfl⟩:=h;rfl
 ·rfl
theorem AObj.hd_row {o p:AObj} (h:o.hd=p.hd):o.row=p.row∧o.cells.length=p.cells.length∧o.owned=p.owned∧o.live=p.live:=by
 cases o <;> cases p <;> simp [AObj.hd] at h <;> simp_all [AObj.row,AObj.cells,AObj.owned,AObj.live]
def ov (off n:Nat) (src cs:List Sc):List Sc:=(List.range cs.length).map fun k=>if off≤k∧k < off+n then src.getD k .any else cs.getD k .any
def AObj.on (f:List Sc→List Sc):AObj→AObj
 | .own cs=>.own (f cs)
 | .vec z cs=>.vec z (f cs)
 | .view cs=>.view (f cs)
 | .map clk es=>.map clk es
 | .iter m since seen last=>.iter m since seen last
 | .dead=>.dead
theorem ov_len {off n:Nat} {src cs:List Sc}:(ov off n src cs).length=cs.length:=by simp [ov]
theorem ov_get {off n k:Nat} {src cs:List Sc}:(ov off n src cs).getD k .any=if k < cs.length∧off≤k∧k < off+n then src.getD k .any else cs.getD k .any:=by
 rw [List.getD_eq_getElem?_getD]
 simp only [ov,List.getElem?_map]
 rcases Nat.lt_or_ge k cs.length with h | h
 ·simp [List.getElem?_range h,h]
 ·have h':¬k < cs.length:=by omega
  rw [List.getElem?_eq_none (by simpa using h)]
  simp [h',List.getD_eq_getElem?_getD,List.getElem?_eq_none h]
theorem on_hd {o:AObj} {off n:Nat} {src:List Sc}:(o.on (ov off n src)).hd=o.hd:=by
 cases o <;> simp [AObj.on,AObj.hd,ov_len]
theorem on_get {o:AObj} {off n k:Nat} {src:List Sc}:(o.on (ov off n src)).cells.getD k .any=if k < o.cells.length∧off≤k∧k < off+n then src.getD k .any else o.cells.getD k .any:=by
 cases o
 ·exact ov_get
 ·exact ov_get
 ·exact ov_get
 ·simp [AObj.on,AObj.cells]
 ·simp [AObj.on,AObj.cells]
 ·simp [AObj.on,AObj.cells]
theorem wr_len {cs l:List Sc} {off:Nat} (h:off+l.length≤cs.length):(wr cs off l).length=cs.length:=by simp [wr];omega
theorem wr_get {cs l:List Sc} {off k:Nat} (h:off+l.length≤cs.length):(wr cs off l).getD k .any=if off≤k∧k < off+l.length then l.getD (k - off) .any else cs.getD k .any:=by
 simp only [List.getD_eq_getElem?_getD,wr,List.append_assoc]
 rcases Nat.lt_or_ge k off with h1 | h1
 ·rw [List.getElem?_append_left (by simp;omega),List.getElem?_take_of_lt h1,if_neg (by omega)]
 ·rw [List.getElem?_append_right (by simp;omega)]
  have e1:k - (cs.take off).length=k - off:=by simp;omega
  rw [e1]
  rcases Nat.lt_or_ge k (off+l.length) with h2 | h2
  ·rw [List.getElem?_append_left (by omega),if_pos ⟨h1,h2⟩]
  ·rw [List.getElem?_append_right (by omega),if_neg (by omega),List.getElem?_drop]
   congr 2;omega
noncomputable def gE (t:Tc) (H0 H':AH) (p:Nat) (cur:AObj):AObj :=
 match t with
 | .mk=>if p=H0.length then hg H' p else cur
 | .st id off n=>if p=id then cur.on (ov off n (hg H' id).cells) else cur
 | .bar=>hg H' p
 | .cl A B=>@ite _ (hg B p=hg A p∧(hg A p).live=true) (Classical.propDecidable _) cur (hg B p)
 | _=>cur
def aff (t:Tc) (H0:AH) (p a n:Nat):Prop :=
 match t with
 | .mk=>p=H0.length
 | .st id off m=>p=id∧off < a+n∧a < off+m
 | .bar=>True
 | .cl A B=>¬(hg B p=hg A p∧(hg A p).live=true)
 | _=>False
def Tc.quiet:Tc→Bool
 | .no | .ld _ _ _ | .rd=>true
 | _=>false
theorem gE_quiet {t:Tc} {H0 H':AH} {p:Nat} {cur:AObj} (h:t.quiet=true):gE t H0 H' p cur=cur:=by
 cases t <;> simp [Tc.quiet] at h <;> rfl
theorem gE_keep {t:Tc} {H0 H':AH} {p a n:Nat} {cur:AObj} (h:¬aff t H0 p a n):(gE t H0 H' p cur).hd=cur.hd∧∀k,a≤k→k < a+n→(gE t H0 H' p cur).cells.getD k .any=cur.cells.getD k .any:=by
 cases t with
 | mk=>simp only [aff] at h;simp [gE,h]
 | st id off m =>
   simp only [aff] at h
   simp only [gE]
   split
   ·rename_i e
    refine ⟨on_hd,fun k h1 h2=>?_⟩
    rw [on_get,if_neg (fun hh=>h ⟨e,by omega,by omega⟩)]
   ·exact ⟨rfl,fun _ _ _=>rfl⟩
 | bar=>simp [aff] at h
 | cl A B =>
   simp only [aff,Classical.not_not] at h
   simp only [gE]
   rw [if_pos h]
   exact ⟨rfl,fun _ _ _=>rfl⟩
 | _=>exact ⟨rfl,fun _ _ _=>rfl⟩
theorem gE_cong {t:Tc} {H0 H':AH} {p a n:Nat} {c d:AObj} (h:c.hd=d.hd) (hk:∀k,a≤k→k < a+n→c.cells.getD k .any=d.cells.getD k .any) :
 (gE t H0 H' p c).hd=(gE t H0 H' p d).hd∧∀k,a≤k→k < a+n→(gE t H0 H' p c).cells.getD k .any=(gE t H0 H' p d).cells.getD k .any:=by
 cases t with
 | mk=>simp only [gE];split <;> simp_all
 | st id off m =>
   simp only [gE]
   split
   ·refine ⟨by rw [on_hd,on_hd,h],fun k h1 h2=>?_⟩
    rw [on_get,on_get,(AObj.hd_row h).2.1,hk k h1 h2]
   ·exact ⟨h,hk⟩
 | bar=>simp [gE]
 | cl A B =>
   simp only [gE]
   by_cases e:hg B p=hg A p∧(hg A p).live=true
   ·rw [if_pos e,if_pos e];exact ⟨h,hk⟩
   ·rw [if_neg e,if_neg e];exact ⟨rfl,fun _ _ _=>rfl⟩
 | _=>exact ⟨h,hk⟩
theorem gE_comm {t u:Tc} {A A' B B':AH} {p:Nat} {c:AObj} (h:¬clash t u) (h1:t=.mk→u=.mk→A.length≠B.length) (h2:∀id a n,t=.st id a n→u=.mk→id≠B.length)
 (h3:∀id a n,t=.mk→u=.st id a n→id≠A.length):gE t A A' p (gE u B B' p c)=gE u B B' p (gE t A A' p c):=by
 cases ht:t.quiet with
 | true=>rw [gE_quiet ht,gE_quiet ht]
 | false =>
   cases hu:u.quiet with
   | true=>rw [gE_quiet hu,gE_quiet hu]
   | false =>
     cases t <;> simp [Tc.quiet] at ht <;> cases u <;> simp [Tc.quiet] at hu <;> simp only [clash,not_true_eq_false] at h
     ·rename_i id a n id' a' n'
      simp only [gE]
      by_cases e:p=id
      ·by_cases e':p=id'
       ·simp only [e,e',if_true]
        subst e;subst e'
        simp only [if_true]
        refine AObj.ext (by simp only [on_hd]) fun k=>?_
        simp only [on_get,(AObj.hd_row (on_hd (o:=c))).2.1]
        by_cases c1:k < c.cells.length∧a≤k∧k < a+n
        ·rw [if_pos c1,if_neg (fun c2=>h ⟨rfl,by omega,by omega⟩),if_pos c1]
        ·rw [if_neg c1]
         split <;> simp [c1]
       ·have e2:id≠id':=fun e2=>e' (e.trans e2)
        simp [e,e2]
      ·simp [e]
     ·rename_i id a n
      have:=h2 id a n rfl rfl
      simp only [gE]
      by_cases e:p=id
      ·subst e;simp [this]
      ·simp [e]
     ·rename_i id a n
      have:=h3 id a n rfl rfl
      simp only [gE]
      by_cases e:p=id
      ·subst e;simp [this]
      ·simp [e]
     ·have:=h1 rfl rfl
      simp only [gE]
      by_cases e:p=A.length
      ·subst e;simp [this]
      ·simp [e]
noncomputable def val (ts:Nat→Tc) (Hs:Nat→AH) (S:Nat→Bool) (p:Nat):Nat→AObj
 | 0=>hg (Hs 0) p
 | m+1=>if S m then gE (ts m) (Hs m) (Hs (m+1)) p (val ts Hs S p m) else val ts Hs S p m
section vals
variable {ts:Nat→Tc} {Hs:Nat→AH} {S T:Nat→Bool} {p n:Nat}
theorem val_agree {a b:Nat}:∀M,(∀m,m < M→S m≠T m→¬aff (ts m) (Hs m) p a b) →
 (val ts Hs S p M).hd=(val ts Hs T p M).hd∧∀k,a≤k→k < a+b→(val ts Hs S p M).cells.getD k .any=(val ts Hs T p M).cells.getD k .any:=by
 intro M
 induction M with
 | zero=>intro _;exact ⟨rfl,fun _ _ _=>rfl⟩
 | succ M ih =>
   intro h
   obtain ⟨i1,i2⟩:=ih fun m hm=>h m (by omega)
   simp only [val]
   cases hS:S M <;> cases hT:T M
   ·exact ⟨i1,i2⟩
   ·obtain ⟨k1,k2⟩:=gE_keep (H':=Hs (M+1)) (cur:=val ts Hs T p M) (h M (by omega) (by rw [hS,hT];simp))
    exact ⟨by simp [k1,i1],fun k g1 g2=>by simp only [Bool.false_eq_true,if_false,if_true];rw [k2 k g1 g2,i2 k g1 g2]⟩
   ·obtain ⟨k1,k2⟩:=gE_keep (H':=Hs (M+1)) (cur:=val ts Hs S p M) (h M (by omega) (by rw [hS,hT];simp))
    exact ⟨by simp [k1,i1],fun k g1 g2=>by simp only [Bool.false_eq_true,if_false,if_true];rw [k2 k g1 g2,i2 k g1 g2]⟩
   ·simp only [if_true];exact gE_cong i1 i2
theorem val_eq:∀M,(∀m,m < M→S m≠T m→(ts m).quiet=true)→val ts Hs S p M=val ts Hs T p M:=by
 intro M
 induction M with
 | zero=>intro _;rfl
 | succ M ih =>
   intro h
   have:=ih fun m hm=>h m (by omega)
   simp only [val]
   cases hS:S M <;> cases hT:T M <;> simp only [this,Bool.false_eq_true,if_false,if_true]
   ·rw [gE_quiet (h M (by omega) (by rw [hS,hT];simp))]
   ·rw [gE_quiet (h M (by omega) (by rw [hS,hT];simp))]
theorem val_put {i:Nat} (hi:S i=false) (hT:∀m,T m=(S m || decide (m=i))):∀M,i < M →
 (∀m,i < m→m < M→S m=true→∀c,gE (ts m) (Hs m) (Hs (m+1)) p (gE (ts i) (Hs i) (Hs (i+1)) p c)=gE (ts i) (Hs i) (Hs (i+1)) p (gE (ts m) (Hs m) (Hs (m+1)) p c)) →
 val ts Hs T p M=gE (ts i) (Hs i) (Hs (i+1)) p (val ts Hs S p M):=by
 have below:∀m,m≤i→val ts Hs T p m=val ts Hs S p m:=by
  intro m
  induction m with
  | zero=>intro _;rfl
  | succ m ih =>
    intro h
    have e:T m=S m:=by rw [hT];simp;omega
    simp only [val,ih (by omega),e]
 intro M
 induction M with
 | zero=>intro h;omega
 | succ M ih =>
   intro hM hc
   rcases Nat.lt_or_ge i M with h | h
   ·have:=ih h fun m h1 h2=>hc m h1 (by omega)
    have e:T M=S M:=by rw [hT];simp;omega
    simp only [val,e,this]
    cases hS:S M
    ·simp
    ·simp only [if_true];exact hc M h (by omega) hS _
   ·obtain rfl:M=i:=by omega
    have e:T M=true:=by rw [hT];simp
    simp only [val,e,hi,if_true,below M (Nat.le_refl _)]
    simp
end vals
theorem hg_ext {H H':AH} (hl:H.length=H'.length) (h:∀p,hg H p=hg H' p):H=H':=by
 apply List.ext_getElem hl
 intro i h1 h2
 have:=h i
 simpa [hg,List.getD_eq_getElem?_getD,h1,h2] using this
end Go.Am
/- Steps of operations where some objects are not yet made. -/
namespace Go.Am
variable {P:Program} {tab:Tab} {N:Nat} {w0:World} {M:Fx}
theorem HR.cast {ρ:Ro} {w:World} {H H':AH} (h:HR ρ w H) (hg':∀p,hg H' p=hg H p) (hf:∀p,H'.length≤p→ρ p=none):HR ρ w H' :=
 ⟨fun i=>by rw [hg'];exact h.obj i,fun i j Li Lj h1 h2 h3 h4 h5=>by rw [hg'] at h2 h5;exact h.sep i j Li Lj h1 h2 h3 h4 h5,hf⟩
theorem St.cast {ρ:Ro} {fr:Fr} {H H':AH} {a:Act} {w:World} (h:St N w0 M ρ fr H a w) (hg':∀p,hg H' p=hg H p) (hf:∀p,H'.length≤p→ρ p=none):St N w0 M ρ fr H' a w :=
 ⟨h.fr,h.sz,h.df,h.hr.cast hg' hf,h.kp,fun i L h1=>by rw [hg'] at h1;exact h.ow i L h1,h.st⟩
theorem HR.allocAt {ρ:Ro} {w:World} {H:AH} (h:HR ρ w H) {l:List Sc} {c:List Value} (hl:L2 (SRel ρ) l c) (t:Nat) (o:AObj) (L:Loc) (id:Nat) (hid:id < H.length) (hd:hg H id=.dead) (hr:ρ id=none)
 (hb:L.blk=w.heap.size) (hoff:L.off=0) (hnil:L.nil=false)
 (hrow:L.row=o.row) (ho:(o=.own l∧L.vec=false)∨(∃sz,o=.vec sz l∧L.vec=true∧0 < sz∧L.cap * sz=c.length)) :
 HR (upd ρ id L) (w.alloc (.cells c.toArray t)) (H.set id o)∧Stab ρ (upd ρ id L):=by
 have hst:Stab ρ (upd ρ id L):=by
  intro i Li hi
  have:i≠id:=by rintro rfl;rw [hr] at hi;simp at hi
  exact ⟨Li,by rw [upd_ne _ _ this,hi],.inl rfl⟩
 have hl':L2 (SRel (upd ρ id L)) l c:=hl.mono fun _ _ h=>h.mono hst
 refine ⟨⟨?_,?_,?_⟩,hst⟩
 ·intro i
  rw [hg_set _ _ _ _ hid]
  split
  ·subst_vars
   rcases ho with ⟨rfl,hv⟩ | ⟨sz,rfl,hv,hsz,hcap⟩
   ·exact ⟨L,c,t,upd_same _ _ _,hoff,hrow,hnil,hv,by rw [hb];exact alloc_new _ _,hl'⟩
   ·refine ⟨L,upd_same _ _ _,hoff,hrow,hv,hsz,?_⟩
    rw [if_neg (by simp [hnil])]
    exact ⟨c,[],t,by rw [hb];simpa using alloc_new w _,by simpa using hcap,hl'⟩
  ·rename_i hne
   refine (h.obj i).keep hst (upd_ne _ _ hne) (fun Li hi hn hlv=>?_) (by simp)
   exact alloc_block _ _ _ ((h.obj i).blk_lt hi hn hlv)
 ·intro i j Li Lj hij hio hLi hni hjl hLj hnj
  rw [hg_set _ _ _ _ hid] at hio hjl
  by_cases h1:i=id
  ·subst h1
   rw [upd_same] at hLi;simp at hLi;subst hLi
   have h2:j≠i:=fun e=>hij e.symm
   rw [if_neg h2] at hjl
   rw [upd_ne _ _ h2] at hLj
   have:=(h.obj j).blk_lt hLj hnj hjl
   omega
  ·rw [if_neg h1] at hio
   rw [upd_ne _ _ h1] at hLi
   by_cases h2:j=id
   ·subst h2
    rw [upd_same] at hLj;simp at hLj;subst hLj
    have:=(h.obj i).blk_lt hLi hni (AObj.owned_live hio)
    omega
   ·rw [if_neg h2] at hjl
    rw [upd_ne _ _ h2] at hLj
    exact h.sep i j Li Lj hij hio hLi hni hjl hLj hnj
 ·intro i hi
  simp at hi
  rw [upd_ne _ _ (by omega)]
  exact h.fresh i (by omega)
theorem Eff.allocAt {ρ:Ro} {w:World} {H:AH} (h:HR ρ w H) {l:List Sc} {c:List Value} (hl:L2 (SRel ρ) l c) (t:Nat) (o:AObj) (L:Loc) (id:Nat) (hid:id < H.length) (hd:hg H id=.dead) (hr:ρ id=none)
 (hb:L.blk=w.heap.size) (hoff:L.off=0) (hnil:L.nil=false)
 (hrow:L.row=o.row) (ho:(o=.own l∧L.vec=false)∨(∃sz,o=.vec sz l∧L.vec=true∧0 < sz∧L.cap * sz=c.length)) :
 Eff ρ w H (w.alloc (.cells c.toArray t)) (upd ρ id L) (H.set id o):=by
 obtain ⟨h1,h2⟩:=h.allocAt hl t o L id hid hd hr hb hoff hnil hrow ho
 refine ⟨h1,h2,fun w0 M hk hm=>⟨hk.alloc _ _,fun i Li hio hLi hni=>?_⟩,by simp,fun i Li _ hLi=>?_⟩
 ·by_cases e:i=id
  ·subst e;rw [upd_same] at hLi;simp at hLi;subst hLi
   exact .inr (by rw [hb];exact hk.size)
  ·rw [upd_ne _ _ e] at hLi
   rw [hg_set _ _ _ _ hid,if_neg e] at hio
   exact hm i Li hio hLi hni
 ·have:i≠id:=by rintro rfl;rw [hr] at hLi;simp at hLi
  rw [upd_ne _ _ this,hLi]
structure Spot (ρ:Ro) (w:World) (H:AH) (id:Nat):Prop where
 hr:HR ρ w H
 lt:id < H.length
 dead:hg H id=.dead
 none:ρ id=none
theorem own_at {ρ:Ro} {w:World} {H:AH} {id:Nat} (h:Spot ρ w H id) {l:List Sc} {c:List Value} (hl:L2 (SRel ρ) l c) (t:Nat) :
 Eff ρ w H (w.alloc (.cells c.toArray t)) (upd ρ id ⟨w.heap.size,0,0,0,false,false⟩) (H.set id (.own l)) ∧
  VRel (upd ρ id ⟨w.heap.size,0,0,0,false,false⟩) (.c (.p id 0 0)) (.pointer (some ⟨w.heap.size,0,none⟩)) :=
 ⟨Eff.allocAt h.hr hl t _ _ id h.lt h.dead h.none rfl rfl rfl rfl (.inl ⟨rfl,rfl⟩),⟨_,_,upd_same _ _ _,rfl,Nat.le_refl _,fun _=>⟨rfl,by simp,rfl⟩⟩⟩
theorem vec_at {ρ:Ro} {w:World} {H:AH} {id:Nat} (h:Spot ρ w H id) {l:List Sc} {c:List Value} (hl:L2 (SRel ρ) l c) (t sz n:Nat) (hsz:0 < sz) (hn:n * sz=c.length) (hn2:n≤9223372036854775807) :
 Eff ρ w H (w.alloc (.cells c.toArray t)) (upd ρ id ⟨w.heap.size,0,n,l.length,false,true⟩) (H.set id (.vec sz l)) ∧
  VRel (upd ρ id ⟨w.heap.size,0,n,l.length,false,true⟩) (.c (.sl id 0 l.length n)) (.slice (some ⟨w.heap.size,0,none⟩) n n):=by
 refine ⟨Eff.allocAt h.hr hl t _ _ id h.lt h.dead h.none rfl rfl rfl rfl (.inr ⟨sz,rfl,rfl,hsz,hn⟩),_,_,_,upd_same _ _ _,rfl,by simp,Nat.le_refl _,hn2,Nat.le_refl _,fun _=>?_⟩
 rw [if_neg (by simp)]
 refine ⟨_,rfl,fun _=>rfl,fun _ _=>Nat.le_refl _,fun h0 _=>?_⟩
 show 0 < l.length
 rw [hl.length,←hn];exact Nat.mul_pos h0 hsz
theorem mk_run {ρ:Ro} {o:Oper} {a:Act} {H0 H H':AH} {vs:List AV} {v:AV} {w:World} (hk:tcof P tab o.op vs=.mk) (h:eop P o.op vs H0=some (v,H'))
 (hv:L2 (VRel ρ) vs ((opnds o.op).map a.eval)) (hH:Spot ρ w H H0.length) :
 ∃ob,H'=H0++[ob]∧∃w' L,Eff ρ w H w' (upd ρ H0.length L) (H.set H0.length ob)∧∃vc,(execOp a.eval o).run P w=.ok (.value vc) w'∧VRel (upd ρ H0.length L) v vc:=by
 obtain ⟨dst,op,ty,pos,after,guard⟩:=o
 simp only at h hv hk
 have fin:∀(s:Sem Value) (ob:AObj),(∃w' L vc,Eff ρ w H w' (upd ρ H0.length L) (H.set H0.length ob)∧s.run P w=.ok vc w'∧VRel (upd ρ H0.length L) v vc) →
  ∃w' L,Eff ρ w H w' (upd ρ H0.length L) (H.set H0.length ob)∧∃vc,(do pure (.value (←s)):Sem Next).run P w=.ok (.value vc) w'∧VRel (upd ρ H0.length L) v vc:=by
  rintro s ob ⟨w',L,vc,h1,h2,h3⟩
  exact ⟨w',L,h1,vc,by simp [h2],h3⟩
 unfold eop at h
 split at h
 ·
  rename_i t
  split at h <;> simp at h
  rename_i z hz
  obtain ⟨rfl,rfl⟩:=h
  obtain ⟨zv,zc,h1,h2,h3⟩:=zero_rel (ρ:=ρ) hz w
  obtain ⟨h4,h5⟩:=own_at hH h3 t
  refine ⟨_,rfl,fin _ _ ⟨_,_,_,h4,?_,h5⟩⟩
  simp only [Instr.alloc,Sem.run_bind,h1,Result.andThen_ok,newVar,newRow,h2,run_newObj,Sem.run_pure];rfl
 ·
  rename_i t x ax
  split at h <;> simp at h
  rename_i l hc
  obtain ⟨rfl,rfl⟩:=h
  obtain ⟨y,hy,h1⟩:=hv.one
  simp only [opnds,List.map_cons,List.map_nil,List.cons.injEq,and_true] at hy;subst hy
  obtain ⟨cs,h2,h3,_⟩:=h1.cells hc
  obtain ⟨h4,h5⟩:=own_at hH h3 t
  refine ⟨_,rfl,fin _ _ ⟨_,_,_,h4,?_,h5⟩⟩
  simp only [Instr.box,newVar,newRow,h2,Sem.run_bind,run_newObj,Result.andThen_ok,Sem.run_pure];rfl
 ·
  rename_i t len ps
  split at h <;> try (simp at h;done)
  rename_i e hd
  have hu:=und_sl hd
  split at h <;> try (simp at h;done)
  rename_i z hz
  split at h
  ·rename_i hc
   obtain ⟨hsz,hl,hmax,hzl⟩:=hc
   split at h <;> simp at h
   rename_i cs hf
   obtain ⟨rfl,rfl⟩:=h
   obtain ⟨zv,zc,h1,h2,h3⟩:=zero_rel (ρ:=ρ) hz w
   obtain ⟨rc,h4,h5⟩:=fill_rel _ _ _ (zip_ps ps hv) _ _ _ (h3.rep len) hf
   have hlen:len * szT P e=rc.length:=by
    rw [←h5.length,fillA_len _ _ _ _ hf];simp [hzl]
   obtain ⟨h6,h7⟩:=vec_at hH h5 e (szT P e) len hsz hlen (by have:len≤len * szT P e:=Nat.le_mul_of_pos_right _ hsz;omega)
   refine ⟨_,rfl,fin _ _ ⟨_,_,_,h6,?_,h7⟩⟩
   have hzc:zc.length=szT P e:=by rw [←h3.length,hzl]
   have hne:¬len * szT P e=0:=by have:=Nat.mul_pos hl hsz;omega
   have hne2:¬len * szT P e > 2 ^ 24:=by omega
   simp only [Instr.buildSlice,Sem.run_bind,run_underlying hu,Result.andThen_ok,run_sizeOf' hsz,hne2,if_false,hne,Sem.run_pure,h1,h2,run_fill_range len _ hzc]
   simp only [Array.toList_map] at h4 ⊢
   rw [h4]
   simp only [newRow,Sem.run_bind,run_newObj,Result.andThen_ok,Sem.run_pure];rfl
  ·split at h <;> simp at h
   rename_i hc
   obtain ⟨hsz,rfl,hps⟩:=hc
   obtain ⟨rfl,rfl⟩:=h
   obtain rfl:ps = #[]:=Array.eq_empty_of_size_eq_zero hps
   obtain ⟨h6,h7⟩:=vec_at hH (l:=[]) (c:=[]) .nil e (szT P e) 0 hsz (by simp) (by omega)
   refine ⟨_,rfl,fin _ _ ⟨_,_,_,h6,?_,h7⟩⟩
   have e0:Array.range 0 = #[]:=by apply Array.ext';simp
   simp [Instr.buildSlice,run_underlying hu,run_sizeOf' hsz,Instr.fill,newRow,e0]
 ·
  rename_i t x y l c
  split at h <;> try (simp at h;done)
  rename_i e hd
  have hu:=und_sl hd
  split at h <;> try (simp at h;done)
  rename_i z hz
  split at h <;> simp at h
  rename_i hc
  obtain ⟨rfl,h0,hmax,hsz,hby,hzl⟩:=hc
  obtain ⟨rfl,rfl⟩:=h
  obtain ⟨cx,cy,hx,h1,h2⟩:=hv.two
  simp only [opnds,List.map_cons,List.map_nil,List.cons.injEq,and_true] at hx
  obtain ⟨rfl,rfl⟩:=hx
  obtain ⟨h1,_⟩:=h1
  obtain ⟨h2,_⟩:=h2
  obtain ⟨zv,zc,h3,h4,h5⟩:=zero_rel (ρ:=ρ) hz w
  obtain ⟨i,hi,his⟩:=info_of hsz
  have hzc:zc.length=szT P e:=by rw [←h5.length,hzl]
  have hll:l.toNat * szT P e=((List.replicate l.toNat z).flatten).length:=by simp [hzl]
  have h8:=vec_at hH (h5.rep l.toNat) e (szT P e) l.toNat hsz (by simp [hzc]) (by omega)
  rw [←hll] at h8
  obtain ⟨h6,h7⟩:=h8
  refine ⟨_,rfl,fin _ _ ⟨_,_,_,h6,?_,h7⟩⟩
  have hw:IntKind.i64.wrap l=l:=w64_id (by omega) (by omega)
  have hbytes:byT P e=i.bytes:=by simp [byT,hi]
  have hb:¬((i.bytes:Int) * l > 2 ^ 48):=by
   rw [←hbytes]
   have:(byT P e:Int) * l≤1048576 * 1048576:=Int.mul_le_mul (by omega) hmax h0 (by omega)
   omega
  have hn:¬l < 0:=by omega
  have hn2:¬l > l:=by omega
  have hb':decide ((i.bytes:Int) * l > 2 ^ 48)=false:=decide_eq_false hb
  simp only [Instr.makeSlice,Sem.run_bind,run_underlying hu,Result.andThen_ok,h1,h2,asInt,asIntOf,Sem.run_pure,typeInfo,run_program,hi,hw,hb',Bool.false_or,hn,hn2,decide_false,Bool.or_self,Bool.false_eq_true,if_false,run_askRoom,run_sizeOf' hsz]
  by_cases hz0:l.toNat * szT P e=0
  ·simp only [hz0,if_true,Sem.run_pure,Result.andThen_ok,newRow,Sem.run_bind,run_newObj]
   have e1:(List.replicate l.toNat zc).flatten=[]:=List.eq_nil_of_length_eq_zero (by simp [hzc,hz0])
   have e0:Array.range 0 = #[]:=by apply Array.ext';simp
   rw [e1,e0];simp
  ·simp only [hz0,if_false,Sem.run_bind,Sem.run_pure,h3,Result.andThen_ok,h4,run_fill_range _ _ hzc,newRow,run_newObj];rfl
 ·simp only [tcof] at hk;unfold tcS at hk;split at hk <;> simp at hk
 ·simp at h
theorem store_run {ρ:Ro} {o:Oper} {a:Act} {H H':AH} {vs:List AV} {v:AV} {w:World} {id off n:Nat} (hk:tcof P tab o.op vs=.st id off n) (h:eop P o.op vs H=some (v,H'))
 (hv:L2 (VRel ρ) vs ((opnds o.op).map a.eval)) (hH:HR ρ w H) :
 (∃w',Eff ρ w H w' ρ H'∧(execOp a.eval o).run P w=.ok .skip w'∧v=.c .und) ∧
 ∃t x y ax ver l,o.op=.store t x y∧vs=[.c (.p id off ver),ax]∧ax.cells=some l∧n=szT P t∧H'=H.set id ((hg H id).put (wr (hg H id).cells off l)) ∧
  (hg H id).owned=true∧ver=(hg H id).row∧l.length=szT P t∧0 < szT P t∧off+l.length≤(hg H id).cells.length∧l.all Sc.one=true:=by
 obtain ⟨dst,op,ty,pos,after,guard⟩:=o
 simp only at h hv hk
 have hno:∀(u:Tc),(∀a b c,u≠.st a b c)→tcof P tab op vs=u→False:=by
  intro u hu e;rw [hk] at e;exact hu _ _ _ e.symm
 unfold eop at h
 split at h
 ·exact (hno .mk (by simp) rfl).elim
 ·exact (hno .mk (by simp) rfl).elim
 ·exact (hno .mk (by simp) rfl).elim
 ·exact (hno .mk (by simp) rfl).elim
 ·rename_i t x y id' off' ver ax
  simp only [tcof,tcS,Tc.st.injEq] at hk
  obtain ⟨rfl,rfl,rfl⟩:=hk
  split at h <;> try (simp at h;done)
  rename_i l hl
  split at h <;> simp at h
  rename_i hc
  obtain ⟨hown,hver,hlen,hsz,hoff,hone⟩:=hc
  obtain ⟨rfl,rfl⟩:=h
  obtain ⟨cx,cy,hx,h1,h2⟩:=hv.two
  simp only [opnds,List.map_cons,List.map_nil,List.cons.injEq,and_true] at hx
  obtain ⟨rfl,rfl⟩:=hx
  obtain ⟨cs,h3,h4,_⟩:=h2.cells hl
  obtain ⟨L,ad,h5,h6,h7,h8⟩:=(show PRel ρ id' off' ver _ from h1)
  have hrow:=(hH.obj id').row h5 (AObj.owned_live hown)
  obtain ⟨hnil,_,rfl⟩:=h8 (by rw [hrow];exact hver)
  obtain ⟨w',h9,h10⟩:=store_eff (P:=P) hH hown h5 hnil h4 hoff hone (by omega)
  refine ⟨⟨w',h10,?_,rfl⟩,t,x,y,ax,ver,l,rfl,rfl,hl,rfl,rfl,hown,hver,hlen,hsz,hoff,hone⟩
  have hcs:cs.toArray.size=szT P t:=by simp [←h4.length,hlen]
  simp only [execOp,Sem.run_bind,Instr.storeAt,h6,Instr.sureAddr,Sem.run_pure,Result.andThen_ok,storeVar,run_sizeOf' hsz,h3,hcs,ne_eq,not_true_eq_false,if_false,h9]
 ·simp at h
end Go.Am
/- Regions that draw their order: any order comes to what the text's order comes to. -/
namespace Go.Am
variable {P:Program} {tab:Tab} {N:Nat} {w0:World} {M:Fx}
theorem eop_kind {op:Op} {vs:List AV} {H H':AH} {v:AV} (h:eop P op vs H=some (v,H')):tcof P tab op vs=.mk∨∃a b c,tcof P tab op vs=.st a b c:=by
 unfold eop at h
 split at h
 ·exact .inl rfl
 ·exact .inl rfl
 ·exact .inl rfl
 ·exact .inl rfl
 ·exact .inr ⟨_,_,_,rfl⟩
 ·simp at h
theorem isM_bar {op:Op} {vs:List AV} (h:isM op vs=true):tcof P tab op vs=.bar:=by
 unfold isM at h
 split at h <;> first | rfl | simp at h
theorem astep_no {op:Op} {vs:List AV} {H H':AH} {v:AV} (h:astep P tab op vs H=some (v,H')) (hk:tcof P tab op vs=.no):H'=H∧∀H2,astep P tab op vs H2=some (v,H2):=by
 unfold astep at h
 split at h
 ·rename_i f as ts fn cs args
  simp only [tcof,tcC] at hk
  split at hk <;> simp at hk
  rename_i s hl
  simp only [callA,hl,Option.map_eq_some_iff,Prod.mk.injEq] at h
  obtain ⟨x,h1,rfl,rfl⟩:=h
  exact ⟨rfl,fun H2=>by simp [astep,callA,hl,h1]⟩
 ·simp at h
 ·simp [tcof,qk] at hk
 ·simp [tcof,tcV] at hk
 ·simp [tcof,tcV] at hk
 ·split at h
  ·rename_i hm;rw [isM_bar hm] at hk;simp at hk
  rename_i hm
  split at h
  ·rename_i v' hq
   simp at h
   obtain ⟨rfl,rfl⟩:=h
   refine ⟨rfl,fun H2=>?_⟩
   have ht:touch op vs=[]:=by
    unfold touch
    split
    ·simp [tcof,tcL] at hk;split at hk <;> simp at hk
    ·simp [tcof,tcS] at hk;split at hk <;> simp at hk
    ·simp [tcof,qk] at hk
    ·simp [tcof,qk] at hk
    ·simp [tcof,qk] at hk
    ·rfl
   rw [ht] at hq
   unfold astep
   split
   ·exfalso;simp_all
   ·exfalso;simp_all
   ·simp [tcof,qk] at hk
   ·simp [tcof,tcV] at hk
   ·simp [tcof,tcV] at hk
   ·rw [if_neg hm,ht,List.map_nil];simp only [List.map_nil] at hq;rw [hq]
  ·rcases eop_kind (tab:=tab) h with e | ⟨a,b,c,e⟩ <;> rw [hk] at e <;> simp at e
theorem rd_cong {ag:Bool} {cs ds:List Sc} {off n:Nat} (hl:cs.length=ds.length) (h:∀k,off≤k→k < off+n→cs.getD k .any=ds.getD k .any) (hn:0 < n):rd ag cs off n=rd ag ds off n:=by
 unfold rd
 split
 ·congr 1
  apply List.ext_getElem (by simp [hl])
  intro i h1 h2
  simp at h1 h2
  have:=h (off+i) (by omega) (by omega)
  simp only [List.getD_eq_getElem?_getD] at this
  rw [List.getElem?_eq_getElem (by omega),List.getElem?_eq_getElem (by omega)] at this
  simpa using this
 ·rw [h off (by omega) (by omega)]
theorem astep_ld {op:Op} {vs:List AV} {H H':AH} {v:AV} {id off n:Nat} (h:astep P tab op vs H=some (v,H')) (hk:tcof P tab op vs=.ld id off n) :
 H'=H∧id < H.length∧(∃ver,vs=[.c (.p id off ver)]) ∧
  ∀H2,(hg H2 id).hd=(hg H id).hd→(∀k,off≤k→k < off+n→(hg H2 id).cells.getD k .any=(hg H id).cells.getD k .any)→astep P tab op vs H2=some (v,H2):=by
 obtain ⟨t,x,rfl⟩:∃t x,op=.load t x:=by
  unfold tcof at hk
  split at hk
  ·exact ⟨_,_,rfl⟩
  ·unfold tcS at hk;split at hk <;> simp at hk
  ·simp at hk
  ·simp at hk
  ·simp at hk
  ·simp at hk
  ·unfold tcC at hk;split at hk <;> (try split at hk) <;> simp at hk
  ·unfold tcV at hk;split at hk <;> simp at hk
  ·unfold tcM at hk;split at hk <;> simp at hk
  ·split at hk <;> simp at hk
 simp only [tcof,tcL] at hk
 split at hk <;> simp at hk
 rename_i id' off' ver
 obtain ⟨rfl,rfl,rfl⟩:=hk
 simp only [astep,isM,Bool.false_eq_true,if_false,touch,List.map_cons,List.map_nil,qop] at h
 split at h
 ·rename_i v' hq
  simp at h
  obtain ⟨rfl,rfl⟩:=h
  split at hq <;> simp at hq
  rename_i hc
  subst hq
  have hlt:id' < H.length:=by
   apply hg_lt
   cases hh:hg H id' with
   | dead=>rw [hh] at hc;simp [AObj.cells] at hc;omega
   | _=>rfl
  refine ⟨rfl,hlt,⟨_,rfl⟩,fun H2 h1 h2=>?_⟩
  obtain ⟨r1,r2,_,_⟩:=AObj.hd_row h1
  simp only [astep,isM,Bool.false_eq_true,if_false,touch,List.map_cons,List.map_nil,qop]
  rw [if_pos (by rw [r1,r2];exact hc),rd_cong r2 h2 hc.2.2.1]
 ·simp [eop] at h
theorem store_inv {op:Op} {H H':AH} {vs:List AV} {v:AV} {id off n:Nat} (hk:tcof P tab op vs=.st id off n) (h:eop P op vs H=some (v,H')) :
 ∃t x y ax ver l,op=.store t x y∧vs=[.c (.p id off ver),ax]∧ax.cells=some l∧n=szT P t∧v=.c .und∧H'=H.set id ((hg H id).put (wr (hg H id).cells off l)) ∧
  (hg H id).owned=true∧ver=(hg H id).row∧l.length=szT P t∧0 < szT P t∧off+l.length≤(hg H id).cells.length∧l.all Sc.one=true:=by
 unfold eop at h
 split at h
 ·simp [tcof] at hk
 ·simp [tcof] at hk
 ·simp [tcof] at hk
 ·simp [tcof] at hk
 ·rename_i t x y id' off' ver ax
  simp only [tcof,tcS,Tc.st.injEq] at hk
  obtain ⟨rfl,rfl,rfl⟩:=hk
  split at h <;> try (simp at h;done)
  rename_i l hl
  split at h <;> simp at h
  rename_i hc
  obtain ⟨hown,hver,hlen,hsz,hoff,hone⟩:=hc
  obtain ⟨rfl,rfl⟩:=h
  exact ⟨t,x,y,ax,ver,l,rfl,rfl,hl,rfl,rfl,rfl,hown,hver,hlen,hsz,hoff,hone⟩
 ·simp at h
theorem astep_eop {op:Op} {vs:List AV} (hk:tcof P tab op vs=.mk∨∃a b c,tcof P tab op vs=.st a b c) (H2:AH):astep P tab op vs H2=eop P op vs H2:=by
 unfold tcof at hk
 split at hk
 ·unfold tcL at hk;split at hk <;> simp at hk
 ·simp only [astep,isM,Bool.false_eq_true,if_false,qop]
 ·simp only [astep,isM,Bool.false_eq_true,if_false,qop]
 ·simp only [astep,isM,Bool.false_eq_true,if_false,qop]
 ·simp only [astep,isM,Bool.false_eq_true,if_false,qop]
 ·simp only [astep,isM,Bool.false_eq_true,if_false,qop]
 ·unfold tcC at hk;split at hk <;> (try split at hk) <;> simp at hk
 ·unfold tcV at hk;split at hk <;> simp at hk
 ·unfold tcM at hk;split at hk <;> simp at hk
 ·split at hk <;> simp at hk
theorem appA_len {ts:Array TypeId} {vs:List AV} {H H':AH} {v:AV} (h:appA P ts vs H=some (v,H')):H.length≤H'.length:=by
 unfold appA at h
 split at h <;> try (simp at h;done)
 split at h <;> try (simp at h;done)
 split at h <;> try (simp at h;done)
 split at h <;> try (simp at h;done)
 split at h
 ·split at h <;> try (simp at h;done)
  split at h <;> simp at h
  obtain ⟨_,rfl⟩:=h;simp
 ·split at h <;> simp at h
  obtain ⟨_,rfl⟩:=h;simp
 ·simp at h
theorem eop_len {op:Op} {vs:List AV} {H H':AH} {v:AV} (h:eop P op vs H=some (v,H')):H.length≤H'.length:=by
 rcases eop_kind (tab:=[]) h with hk | ⟨a,b,c,hk⟩
 ·unfold eop at h
  split at h
  ·split at h <;> simp at h;obtain ⟨_,rfl⟩:=h;simp
  ·split at h <;> simp at h;obtain ⟨_,rfl⟩:=h;simp
  ·split at h <;> try (simp at h;done)
   split at h <;> try (simp at h;done)
   split at h
   ·split at h <;> simp at h;obtain ⟨_,rfl⟩:=h;simp
   ·split at h <;> simp at h;obtain ⟨_,rfl⟩:=h;simp
  ·split at h <;> try (simp at h;done)
   split at h <;> try (simp at h;done)
   split at h <;> simp at h;obtain ⟨_,rfl⟩:=h;simp
  ·simp only [tcof,tcS] at hk;simp at hk
  ·simp at h
 ·obtain ⟨_,_,_,_,_,_,_,_,_,_,_,rfl,_⟩:=store_inv hk h;simp
theorem astep_len (ht:TabOk P tab) {op:Op} {vs:List AV} {H H':AH} {v:AV} (h:astep P tab op vs H=some (v,H')):H.length≤H'.length:=by
 unfold astep at h
 split at h
 ·unfold callA at h
  split at h
  ·simp only [Option.map_eq_some_iff,Prod.mk.injEq] at h;obtain ⟨_,_,_,rfl⟩:=h;exact Nat.le_refl _
  ·rename_i s hl;exact (ht _ _ hl).len _ _ _ _ h
  ·simp only [Option.map_eq_some_iff,Prod.mk.injEq] at h;obtain ⟨_,_,_,rfl⟩:=h;exact Nat.le_refl _
  ·simp at h
 ·simp at h
 ·exact appA_len h
 ·rw [Option.map_eq_some_iff] at h;obtain ⟨_,_,h2⟩:=h;simp only [Prod.mk.injEq] at h2;rw [h2.2];exact Nat.le_refl _
 ·rw [Option.map_eq_some_iff] at h;obtain ⟨_,_,h2⟩:=h;simp only [Prod.mk.injEq] at h2;rw [h2.2];exact Nat.le_refl _
 ·split at h
  ·exact mop_len h
  split at h
  ·simp at h;rw [←h.2];exact Nat.le_refl _
  ·exact eop_len h
theorem astep_rd {op:Op} {vs:List AV} {H H':AH} {v:AV} (h:astep P tab op vs H=some (v,H')) (hk:tcof P tab op vs=.rd):H'=H:=by
 unfold tcof at hk
 split at hk
 ·unfold tcL at hk;split at hk <;> simp at hk
 ·unfold tcS at hk;split at hk <;> simp at hk
 ·simp at hk
 ·simp at hk
 ·simp at hk
 ·simp at hk
 ·unfold tcC at hk
  split at hk
  ·split at hk <;> try (simp at hk;done)
   rename_i hl
   simp only [astep,callA,hl,Option.map_eq_some_iff,Prod.mk.injEq] at h
   obtain ⟨_,_,_,rfl⟩:=h;rfl
  ·simp at hk
 ·unfold tcV at hk;split at hk <;> simp at hk
 ·unfold tcM at hk;split at hk <;> simp at hk
 ·split at hk <;> simp at hk
theorem op_wq {o:Oper} {v:AV} {ρ:Ro} {fr:Fr} {H H':AH} {a:Act} {w:World} {K:Act→World→Prop} {Q:Exit→Act→World→Prop} (ht:TabOk P tab) (hs:St N w0 M ρ fr H a w) (hd:dstOk N o.dst=true)
 (hk:tcof P tab o.op ((opnds o.op).map (ev fr))=.no∨∃i b n,tcof P tab o.op ((opnds o.op).map (ev fr))=.ld i b n)
 (h:astep P tab o.op ((opnds o.op).map (ev fr)) H=some (v,H')) (hK:∀a' w',St N w0 M ρ (putA o.dst v fr) H a' w'→K a' w'):o.wp P a w K Q:=by
 have hv:=ops_rel hs (opnds o.op)
 unfold astep at h
 split at h
 ·rename_i op _ f as ts fn cs args hop hvs
  rw [hop] at hvs hv
  have hk':look tab fn=none∨∃s,look tab fn=some (.pu s):=by
   rw [hop] at hk
   simp only [hvs,tcof,tcC] at hk
   split at hk
   ·rename_i s hl;exact .inr ⟨s,hl⟩
   ·simp at hk
   ·simp at hk
  simp only [opnds,List.map_cons,List.cons.injEq] at hvs hv
  obtain ⟨hf,hargs⟩:=hvs
  have hfr:=ev_rel hs.fr f
  rw [hf] at hfr
  obtain ⟨cv,hcv,hcr⟩:=hfr
  cases hv with
  | cons _ hv =>
    rcases hk' with hl | ⟨s,hl⟩
    ·simp [callA,hl] at h
    ·simp only [callA,hl,Option.map_eq_some_iff,Prod.mk.injEq] at h
     obtain ⟨v',h1,rfl,rfl⟩:=h
     obtain ⟨hen,hpu⟩:=ht fn _ hl
     have hrel:L2 (VRel ρ) (args++cs.map capV) (as.toList.map a.eval++cv):=by
      rw [←hargs];exact hv.app (caps_vals hcr)
     have hcall:=hpu _ _ h1 ρ w _ hrel
     have hrun:(execOp a.eval o).run P w=.ok (.enter fn (as.toList.map a.eval++cv).toArray) w:=by
      have e1:#[]++as.map a.eval++cv.toArray=(as.toList.map a.eval++cv).toArray:=by apply Array.ext';simp
      simp only [execOp,hop,resolve,hcv,Deferred.ofValue,Sem.run_bind,Sem.run_pure,Result.andThen_ok,invoke]
      rw [e1];exact hen _ _
     simp only [Oper.wp,hrun,Oper.upon]
     refine hcall.mono ?_
     rintro e w' ⟨vc,rfl,h3,h4⟩
     exact hK _ _ ((hs.eff (Eff.quiet hs.hr h4)).put hd (h3 ρ))
 ·simp at h
 ·rename_i hop;exfalso;rw [hop] at hk;simp [tcof,qk] at hk
 ·rename_i hop hvs;exfalso;rw [hop] at hk hvs;rw [hvs] at hk;simp [tcof,tcV] at hk
 ·rename_i hop hvs;exfalso;rw [hop] at hk hvs;rw [hvs] at hk;simp [tcof,tcV] at hk
 ·split at h
  ·rename_i hm;exfalso;rw [isM_bar hm] at hk;simp at hk
  split at h
  ·rename_i v' hq
   simp at h
   obtain ⟨rfl,rfl⟩:=h
   obtain ⟨vc,h1,h2⟩:=qop_run (o:=o) hq hv (fun i=>hs.hr.obj i)
   simp only [Oper.wp,h1,Oper.upon]
   exact hK _ _ (hs.put hd h2)
  ·exfalso
   rcases eop_kind (tab:=tab) h with e | ⟨b,c,d,e⟩ <;> rw [e] at hk <;> simp at hk
end Go.Am
/- Regions that draw their order: the text's order, taken apart. -/
namespace Go.Am
variable {P:Program} {tab:Tab} {N:Nat} {w0:World} {M:Fx}
def looks (full:Array Oper) (o:Oper):List Nat :=
 (opnds o.op).filterMap slotOf++(match o.guard with
 | some (j,_)=>(dstA full j).toList
 | none=>[])
def edge (full:Array Oper) (i j:Nat):Bool :=
 match full[i]? with
 | some o=>o.after.any fun e=>e.on == j && Region.binds .any e
 | none=>false
def ddr (full:Array Oper):Bool :=
 let n:=full.size
 (List.range n).all fun i =>
   match full[i]? with
   | none=>false
   | some o =>
     o.after.all (fun e=>!Region.binds .any e || decide (e.on < i)) &&
     (List.range n).all fun j =>
       match dstA full j with
       | none=>true
       | some d=>(i == j || o.dst != some d) && (!(looks full o).contains d || (i != j && (if j < i then edge full i j else edge full j i)))
theorem ev_agree {fr fm:Fr} {x:Operand} (h:∀t,slotOf x=some t→Am.get fm t=Am.get fr t):ev fm x=ev fr x:=by
 cases x with
 | tmp t=>exact h t rfl
 | _=>rfl
inductive Gv (P:Program) (tab:Tab) (full:Array Oper) (o:Oper) (fr:Fr) (H:AH):AV→AH→Tc→Prop
 | go (v:AV) (H':AH) (hg:o.guard=none∨∃j q,o.guard=some (j,q)∧gval full fr j=some (some q)) (h:astep P tab o.op ((opnds o.op).map (ev fr)) H=some (v,H')):Gv P tab full o fr H v H' (tcx (tcof P tab o.op ((opnds o.op).map (ev fr))) H H')
 | no (j:Nat) (q:Bool) (r:Option Bool) (hg:o.guard=some (j,q)) (hw:gval full fr j=some r) (hne:r≠some q):Gv P tab full o fr H (.c .und) H .no
theorem looks_ops {full:Array Oper} {fr fm:Fr} {o:Oper} (ha:∀t∈looks full o,Am.get fm t=Am.get fr t):(opnds o.op).map (ev fm)=(opnds o.op).map (ev fr):=by
 apply List.map_congr_left
 intro x hx
 refine ev_agree fun t ht=>ha t ?_
 simp only [looks,List.mem_append,List.mem_filterMap]
 exact .inl ⟨x,hx,ht⟩
theorem looks_g {full:Array Oper} {fr fm:Fr} {o:Oper} (ha:∀t∈looks full o,Am.get fm t=Am.get fr t) (j:Nat) (q:Bool) (hj:o.guard=some (j,q)):gval full fm j=gval full fr j:=by
 unfold gval
 cases hd:(full[j]?).bind (·.dst) with
 | none=>rfl
 | some d =>
   have:d∈looks full o:=by
    simp only [looks,List.mem_append,hj]
    right;simp [dstA,hd]
   simp only [ha d this]
theorem Gv_len (ht:TabOk P tab) {full:Array Oper} {o:Oper} {fr:Fr} {H H':AH} {v:AV} {t:Tc} (h:Gv P tab full o fr H v H' t):H.length≤H'.length:=by
 cases h with
 | go _ _ _ h=>exact astep_len ht h
 | no=>exact Nat.le_refl _
theorem Gv_quiet {full:Array Oper} {o:Oper} {fr:Fr} {H H':AH} {v:AV} {t:Tc} (h:Gv P tab full o fr H v H' t) (hq:t.quiet=true):H'=H:=by
 cases h with
 | no=>rfl
 | go _ _ _ h =>
   generalize hk:tcof P tab o.op ((opnds o.op).map (ev fr))=t at hq
   cases t <;> simp [tcx,Tc.quiet] at hq
   ·exact (astep_no h hk).1
   ·exact (astep_ld h hk).1
   ·exact astep_rd h hk
theorem tcof_ncl {op:Op} {vs:List AV} {A B:AH} (h:tcof P tab op vs=.cl A B):False:=by
 unfold tcof tcL tcS tcC at h
 split at h
 ·split at h <;> simp at h
 ·split at h <;> simp at h
 ·simp at h
 ·simp at h
 ·simp at h
 ·simp at h
 ·split at h
  ·split at h <;> simp at h
  ·simp at h
 ·unfold tcV at h;split at h <;> simp at h
 ·unfold tcM at h;split at h <;> simp at h
 ·split at h <;> simp at h
theorem tcx_mk {t:Tc} {H H':AH} (h:tcx t H H'=.mk):t=.mk:=by cases t <;> simp [tcx] at h <;> rfl
theorem tcx_st {t:Tc} {H H':AH} {a b c:Nat} (h:tcx t H H'=.st a b c):t=.st a b c:=by
 cases t <;> simp [tcx] at h
 obtain ⟨rfl,rfl,rfl⟩:=h;rfl
theorem Gv_cl {full:Array Oper} {o:Oper} {fr:Fr} {H H':AH} {v:AV} {A B:AH} (h:Gv P tab full o fr H v H' (.cl A B)):H=A∧H'=B:=by
 generalize ht:Tc.cl A B=t at h
 cases h with
 | no=>simp at ht
 | go _ _ _ h =>
   cases hk:tcof P tab o.op ((opnds o.op).map (ev fr)) <;> rw [hk] at ht <;> simp [tcx] at ht
   ·exact ⟨ht.1.symm,ht.2.symm⟩
   ·exact ⟨ht.1.symm,ht.2.symm⟩
theorem Gv_mk {full:Array Oper} {o:Oper} {fr:Fr} {H H':AH} {v:AV} (h:Gv P tab full o fr H v H' .mk):∃ob,H'=H++[ob]:=by
 generalize ht:Tc.mk=t at h
 cases h with
 | no=>simp at ht
 | go _ _ _ h =>
   have hk:=tcx_mk ht.symm
   rw [astep_eop (.inl hk)] at h
   unfold eop at h
   split at h
   ·split at h <;> simp at h;exact ⟨_,h.2.symm⟩
   ·split at h <;> simp at h;exact ⟨_,h.2.symm⟩
   ·split at h <;> try (simp at h;done)
    split at h <;> try (simp at h;done)
    split at h
    ·split at h <;> simp at h;exact ⟨_,h.2.symm⟩
    ·split at h <;> simp at h;exact ⟨_,h.2.symm⟩
   ·split at h <;> try (simp at h;done)
    split at h <;> try (simp at h;done)
    split at h <;> simp at h;exact ⟨_,h.2.symm⟩
   ·rename_i hop hvs;rw [hvs,hop] at hk;simp [tcof,tcS] at hk
   ·simp at h
theorem put_cells {o:AObj} {off:Nat} {l:List Sc} (ho:o.owned=true) (hl:off+l.length≤o.cells.length):(o.put (wr o.cells off l)).cells=wr o.cells off l:=by
 cases o
 ·rfl
 ·rfl
 ·simp [AObj.owned] at ho
 ·simp only [AObj.cells,List.length_nil] at hl
  have:l=[]:=List.eq_nil_of_length_eq_zero (by omega)
  subst this
  simp [AObj.put,AObj.cells,wr]
 ·simp only [AObj.cells,List.length_nil] at hl
  have:l=[]:=List.eq_nil_of_length_eq_zero (by omega)
  subst this
  simp [AObj.put,AObj.cells,wr]
 ·simp [AObj.owned] at ho
theorem put_hd {o:AObj} {cs:List Sc} (ho:o.owned=true) (hl:cs.length=o.cells.length):(o.put cs).hd=o.hd:=by
 cases o
 ·show (0,0,cs.length,_)=_;rw [hl];rfl
 ·show (1,_,cs.length,_)=_;rw [hl];rfl
 ·simp [AObj.owned] at ho
 ·rfl
 ·rfl
 ·simp [AObj.owned] at ho
theorem put_on {o:AObj} {off n:Nat} {l src:List Sc} (ho:o.owned=true) (hn:l.length=n) (hl:off+l.length≤o.cells.length)
 (hsrc:∀k,off≤k→k < off+n→src.getD k .any=l.getD (k - off) .any):o.put (wr o.cells off l)=o.on (ov off n src):=by
 refine AObj.ext ?_ fun k=>?_
 ·rw [on_hd];exact put_hd ho (wr_len hl)
 ·have e:=put_cells ho hl
  rw [e,wr_get hl,on_get,hn]
  by_cases c:off≤k∧k < off+n
  ·rw [if_pos c,if_pos ⟨by omega,c⟩,hsrc k c.1 c.2]
  ·rw [if_neg c,if_neg (fun h=>c h.2)]
theorem Gv_st {full:Array Oper} {o:Oper} {fr:Fr} {H H':AH} {v:AV} {id off n:Nat} (h:Gv P tab full o fr H v H' (.st id off n)) :
 ∃t x y ax ver l,o.op=.store t x y∧(opnds o.op).map (ev fr)=[.c (.p id off ver),ax]∧ax.cells=some l∧n=szT P t∧v=.c .und∧H'=H.set id ((hg H id).put (wr (hg H id).cells off l)) ∧
  (hg H id).owned=true∧ver=(hg H id).row∧l.length=szT P t∧0 < szT P t∧off+l.length≤(hg H id).cells.length∧l.all Sc.one=true:=by
 generalize ht:Tc.st id off n=t at h
 cases h with
 | no=>simp at ht
 | go _ _ _ h =>
   have hk:=tcx_st ht.symm
   rw [astep_eop (.inr ⟨_,_,_,hk⟩)] at h
   exact store_inv hk h
theorem Gv_obj {full:Array Oper} {o:Oper} {fr:Fr} {H H':AH} {v:AV} {t:Tc} (h:Gv P tab full o fr H v H' t) (p:Nat):hg H' p=gE t H H' p (hg H p):=by
 cases hq:t.quiet with
 | true=>rw [gE_quiet hq,Gv_quiet h hq]
 | false =>
   cases t <;> simp [Tc.quiet] at hq
   ·rename_i id off n
    obtain ⟨t,x,y,ax,ver,l,_,_,_,rfl,_,rfl,hown,_,hlen,_,hoff,_⟩:=Gv_st h
    have hlt:=hg_lt (AObj.owned_live hown)
    simp only [gE]
    rw [hg_set _ _ _ _ hlt,hg_set _ _ _ _ hlt]
    split
    ·subst_vars
     rw [if_pos rfl]
     refine put_on hown hlen hoff fun k h1 h2=>?_
     have e:=put_cells hown hoff
     rw [e,wr_get hoff,if_pos ⟨h1,by omega⟩]
    ·rfl
   ·obtain ⟨ob,rfl⟩:=Gv_mk h
    simp only [gE]
    rw [hg_append]
    split
    ·rfl
    ·rfl
   ·rfl
   ·obtain ⟨rfl,rfl⟩:=Gv_cl h
    simp only [gE]
    by_cases e:hg H' p=hg H p∧(hg H p).live=true
    ·rw [if_pos e,e.1]
    ·rw [if_neg e]
structure TR (P:Program) (tab:Tab) (full:Array Oper) (F:Nat→Fr) (Hs:Nat→AH) (v:Nat→AV) (ts:Nat→Tc) (i0:Nat):Prop where
 step:∀m,i0≤m→m < full.size→∃o,full[m]?=some o∧Gv P tab full o (F m) (Hs m) (v m) (Hs (m+1)) (ts m)∧F (m+1)=putA o.dst (v m) (F m)
 tie:∀m j,i0≤j→j < m→m < full.size→clash (ts m) (ts j)→okE full m j (ts m) (ts j)
theorem okT_mem {full:Array Oper} {i:Nat} {t:Tc}:∀{log:List (Nat × Tc)},okT full i t log→∀j u,(j,u)∈log→clash t u→okE full i j t u:=by
 intro log
 induction log with
 | nil=>intro _ j u h;simp at h
 | cons x log ih =>
   obtain ⟨j',u'⟩:=x
   intro h j u hm hc
   simp only [okT] at h
   rcases List.mem_cons.1 hm with e | hm
   ·simp at e;obtain ⟨rfl,rfl⟩:=e;exact h.1 hc
   ·exact ih h.2 j u hm hc
theorem psh_mem {i:Nat} {t:Tc} {log:List (Nat × Tc)}:(∀x∈log,x∈psh i t log)∧(t≠.no→(i,t)∈psh i t log):=by
 cases t <;> simp [psh] <;> intros <;> simp_all
theorem dr_gives {full:Array Oper} {k:List It} {Q:Fr→AH→Prop}:∀(l:List Oper) (i0:Nat) (log:List (Nat × Tc)) (fr:Fr) (H:AH),i0≤full.size→full.toList.drop i0=l →
 arun P tab (.dr full l i0 log::k) fr H Q →
 ∃F Hs v ts,F i0=fr∧Hs i0=H∧TR P tab full F Hs v ts i0∧(∀m j u,i0≤m→m < full.size→(j,u)∈log→clash (ts m) u→okE full m j (ts m) u)∧arun P tab k (F full.size) (Hs full.size) Q:=by
 intro l
 induction l with
 | nil =>
   intro i0 log fr H hi hd h
   rw [arun_dr_nil] at h
   have:full.size≤i0:=by simpa using hd
   obtain rfl:i0=full.size:=by omega
   exact ⟨fun _=>fr,fun _=>H,fun _=>.c .any,fun _=>.no,rfl,rfl,⟨fun m h1 h2=>by omega,fun m j h1 h2 h3=>by omega⟩,fun m j u h1 h2=>by omega,h⟩
 | cons o l ih =>
   intro i0 log fr H hi hd h
   have hlt:i0 < full.size:=by
    rcases Nat.lt_or_ge i0 full.size with h | h
    ·exact h
    ·rw [List.drop_eq_nil_of_le (by simpa using h)] at hd;simp at hd
   have ho:full[i0]?=some o:=by
    have:full.toList[i0]?=some o:=by
     have:=congrArg (fun l=>l[0]?) hd
     simpa using this
    simpa using this
   have hd':full.toList.drop (i0+1)=l:=by
    have:=congrArg (fun l=>l.drop 1) hd
    simpa [List.drop_drop,Nat.add_comm] using this
   have main:∀v0 H1 t0 log',Gv P tab full o fr H v0 H1 t0→(∀x∈log,x∈log')→(t0≠.no→(i0,t0)∈log')→(∀j u,(j,u)∈log→clash t0 u→okE full i0 j t0 u) →
    arun P tab (.dr full l (i0+1) log'::k) (putA o.dst v0 fr) H1 Q →
    ∃F Hs v ts,F i0=fr∧Hs i0=H∧TR P tab full F Hs v ts i0∧(∀m j u,i0≤m→m < full.size→(j,u)∈log→clash (ts m) u→okE full m j (ts m) u)∧arun P tab k (F full.size) (Hs full.size) Q:=by
    intro v0 H1 t0 log' hg hsub hin hok h2
    obtain ⟨F,Hs,v,ts,e1,e2,htr,hlog,hfin⟩:=ih (i0+1) log' _ _ hlt hd' h2
    refine ⟨fun x=>if x=i0 then fr else F x,fun x=>if x=i0 then H else Hs x,fun x=>if x=i0 then v0 else v x,fun x=>if x=i0 then t0 else ts x,by simp,by simp,⟨fun m h1 h3=>?_,fun m j h1 h3 h4 hc=>?_⟩,fun m j u h1 h3 hm hc=>?_,?_⟩
    ·by_cases e:m=i0
     ·subst e
      refine ⟨o,ho,?_,?_⟩
      ·simp only [if_true];rw [if_neg (by omega),e2];exact hg
      ·simp only [if_true];rw [if_neg (by omega),e1]
     ·obtain ⟨o',g1,g2,g3⟩:=htr.step m (by omega) h3
      refine ⟨o',g1,?_,?_⟩
      ·simp only [if_neg e];rw [if_neg (by omega)];exact g2
      ·simp only [if_neg e];rw [if_neg (by omega)];exact g3
    ·have hm:m≠i0:=by omega
     simp only [if_neg hm] at hc ⊢
     by_cases e:j=i0
     ·subst e
      simp only [if_true] at hc ⊢
      refine hlog m j t0 (by omega) h4 (hin ?_) hc
      rintro rfl;cases hh:ts m <;> rw [hh] at hc <;> simp [clash] at hc
     ·simp only [if_neg e] at hc ⊢
      exact htr.tie m j (by omega) h3 h4 hc
    ·by_cases e:m=i0
     ·subst e
      simp only [if_true] at hc ⊢
      exact hok j u hm hc
     ·simp only [if_neg e] at hc ⊢
      exact hlog m j u (by omega) h3 (hsub _ hm) hc
    ·simp only [if_neg (show full.size≠i0 by omega)];exact hfin
   rw [arun_dr] at h
   split at h
   ·rename_i hg
    split at h
    ·rename_i v H' h1
     exact main v H' _ _ (.go v H' (.inl hg) h1) psh_mem.1 psh_mem.2 (okT_mem h.1) h.2
    ·exact h.elim
   ·rename_i j want hg
    split at h
    ·rename_i q hgv
     split at h
     ·rename_i e;subst e
      split at h
      ·rename_i v H' h1
       exact main v H' _ _ (.go v H' (.inr ⟨j,q,hg,hgv⟩) h1) psh_mem.1 psh_mem.2 (okT_mem h.1) h.2
      ·exact h.elim
     ·rename_i e
      exact main _ _ _ log (.no j want _ hg hgv (by simpa using e)) (fun _ h=>h) (fun h=>(h rfl).elim) (fun _ _ _ h=>by simp [clash] at h) h
    ·rename_i hgv
     exact main _ _ _ log (.no j want _ hg hgv (by simp)) (fun _ h=>h) (fun h=>(h rfl).elim) (fun _ _ _ h=>by simp [clash] at h) h
    ·exact h.elim
theorem tied_spec {full:Array Oper} {S:Nat→Prop} (hS:∀j o,full[j]?=some o→S j→∀e∈o.after,Region.binds .any e=true→S e.on) {m j:Nat} (h:tied full m j=true) (hm:S m):S j:=by
 have key:∀k l,(∀x∈l,S x)→∀x∈ancs full k l,S x:=by
  intro k
  induction k with
  | zero=>intro l hl x hx;exact hl x hx
  | succ k ih =>
    intro l hl x hx
    simp only [ancs] at hx
    refine ih _ ?_ x hx
    intro y hy
    split at hy
    ·rename_i hk
     rcases List.mem_append.1 hy with hy | hy
     ·have hSk:S k:=hl k (by simpa using hk)
      unfold ups at hy
      split at hy
      ·rename_i o ho
       simp only [List.mem_map,List.mem_filter] at hy
       obtain ⟨e,⟨he,hb⟩,rfl⟩:=hy
       exact hS k o ho hSk e (by simpa using he) hb
      ·simp at hy
     ·exact hl y hy
    ·exact hl y hy
 unfold tied at h
 exact key _ [m] (by simpa using hm) j (by simpa using h)
end Go.Am
/- Regions that draw their order: any order comes to what the text's order comes to. -/
namespace Go.Am
variable {P:Program} {tab:Tab} {N:Nat}
def Mix (full:Array Oper) (v:Nat→AV) (fr:Fr) (S:Nat→Prop) (fm:Fr):Prop :=
 ∀s,(∀j,S j→dstA full j=some s→Am.get fm s=v j)∧((∀j,S j→dstA full j≠some s)→Am.get fm s=Am.get fr s)
theorem Mix.put {full:Array Oper} {v:Nat→AV} {fr fm:Fr} {S:Nat→Prop} (h:Mix full v fr S fm) {i:Nat} {o:Oper} (hi:full[i]?=some o) (hdis:∀d,o.dst=some d→∀j,S j→dstA full j≠some d) :
 Mix full v fr (fun j=>S j∨j=i) (putA o.dst (v i) fm):=by
 have hd:dstA full i=o.dst:=by simp [dstA,hi]
 intro s
 cases ho:o.dst with
 | none =>
   simp only [putA]
   refine ⟨?_,fun hs=>(h s).2 fun j hj=>hs j (.inl hj)⟩
   rintro j (hj | rfl) hs
   ·exact (h s).1 j hj hs
   ·rw [hd,ho] at hs;simp at hs
 | some d =>
   rw [ho] at hd
   simp only [putA,Am.get]
   constructor
   ·rintro j (hj | rfl) hs
    ·have:d≠s:=by rintro rfl;exact hdis d ho j hj hs
     rw [if_neg this];exact (h s).1 j hj hs
    ·rw [hd] at hs;simp at hs;rw [if_pos hs]
   ·intro hs
    have:d≠s:=by rintro rfl;exact hs i (.inr rfl) hd
    rw [if_neg this];exact (h s).2 fun j hj=>hs j (.inl hj)
theorem Mix.get_eq {full:Array Oper} {v:Nat→AV} {fr fm fm':Fr} {S S':Nat→Prop} (h:Mix full v fr S fm) (h':Mix full v fr S' fm') (hS:∀j,S j ↔ S' j) (s:Nat):Am.get fm s=Am.get fm' s:=by
 by_cases hx:∃j,S j∧dstA full j=some s
 ·obtain ⟨j,h1,h2⟩:=hx
  rw [(h s).1 j h1 h2,(h' s).1 j ((hS j).1 h1) h2]
 ·have h1:∀j,S j→dstA full j≠some s:=fun j hj e=>hx ⟨j,hj,e⟩
  rw [(h s).2 h1,(h' s).2 fun j hj=>h1 j ((hS j).2 hj)]
theorem ddr_spec {full:Array Oper} (h:ddr full=true) {i:Nat} {o:Oper} (hi:full[i]?=some o) :
 (∀e∈o.after,Region.binds .any e=true→e.on < i) ∧
   ∀j < full.size,∀d,dstA full j=some d→(i≠j→o.dst≠some d)∧(d∈looks full o→i≠j∧(j < i→edge full i j=true)∧(i < j→edge full j i=true)):=by
 have hlt:i < full.size:=by
  rcases Nat.lt_or_ge i full.size with h | h
  ·exact h
  ·rw [Array.getElem?_eq_none h] at hi;simp at hi
 unfold ddr at h
 have:=List.all_eq_true.1 h i (by simpa using hlt)
 rw [hi] at this
 simp only [Bool.and_eq_true] at this
 obtain ⟨h3,h4⟩:=this
 refine ⟨fun e he hb=>?_,fun j hj d hd=>?_⟩
 ·have:=Array.all_eq_true'.1 h3 e he
  simpa [hb] using this
 ·have:=List.all_eq_true.1 h4 j (by simpa using hj)
  rw [hd] at this
  simp only [Bool.and_eq_true,Bool.or_eq_true,beq_iff_eq,bne_iff_ne,Bool.not_eq_true'] at this
  refine ⟨fun hne=>?_,fun hl=>?_⟩
  ·rcases this.1 with h | h
   ·exact (hne h).elim
   ·simpa using h
  ·rcases this.2 with h | ⟨h,h'⟩
   ·exfalso;simp at h;exact h hl
   ·refine ⟨h,fun hji=>?_,fun hij=>?_⟩
    ·rw [if_pos hji] at h';exact h'
    ·rw [if_neg (by omega)] at h';exact h'
theorem edge_spec {full:Array Oper} {i j:Nat} (h:edge full i j=true):∃o,full[i]?=some o∧∃e∈o.after,e.on=j∧Region.binds .any e=true:=by
 unfold edge at h
 split at h
 ·rename_i o ho
  obtain ⟨e,he,hp⟩:=Array.any_eq_true'.1 h
  simp at hp
  exact ⟨o,ho,e,he,hp⟩
 ·simp at h
theorem count_one (p q:Nat→Bool) (i:Nat) (hp:p i=true) (hq:q i=false) (h:∀j,j≠i→q j=p j):∀n,(i < n→(List.range n).countP q+1=(List.range n).countP p)∧(n≤i→(List.range n).countP q=(List.range n).countP p):=by
 intro n
 induction n with
 | zero=>simp
 | succ n ih =>
   rw [List.range_succ,List.countP_append,List.countP_append]
   simp only [List.countP_cons,List.countP_nil,Nat.zero_add]
   by_cases hn:n=i
   ·subst hn
    rw [hp,hq,ih.2 (Nat.le_refl _)]
    simp
   ·rw [h n hn]
    constructor
    ·intro hi;have:=ih.1 (by omega);omega
    ·intro hi;have:=ih.2 (by omega);omega
noncomputable def hp (ts:Nat→Tc) (Hs:Nat→AH) (S:Nat→Bool) (n:Nat):AH:=(List.range (Hs n).length).map fun p=>val ts Hs S p n
theorem hp_len {ts:Nat→Tc} {Hs:Nat→AH} {S:Nat→Bool} {n:Nat}:(hp ts Hs S n).length=(Hs n).length:=by simp [hp]
structure TF (full:Array Oper) (Hs:Nat→AH) (ts:Nat→Tc):Prop where
 mono:∀m,m < full.size→(Hs m).length≤(Hs (m+1)).length
 obj:∀m,m < full.size→∀p,hg (Hs (m+1)) p=gE (ts m) (Hs m) (Hs (m+1)) p (hg (Hs m) p)
 mk1:∀m,m < full.size→ts m=.mk→(Hs (m+1)).length=(Hs m).length+1
 st:∀m,m < full.size→∀id a n,ts m=.st id a n→id < (Hs m).length∧(Hs (m+1)).length=(Hs m).length
 quiet:∀m,m < full.size→(ts m).quiet=true→Hs (m+1)=Hs m
 cl:∀m,m < full.size→∀A B,ts m=.cl A B→Hs m=A∧Hs (m+1)=B
section facts
variable {full:Array Oper} {Hs:Nat→AH} {ts:Nat→Tc} {S:Nat→Bool}
theorem TF.lens (h:TF full Hs ts) {a b:Nat} (hab:a≤b) (hb:b≤full.size):(Hs a).length≤(Hs b).length:=by
 induction b with
 | zero=>obtain rfl:a=0:=by omega
         exact Nat.le_refl _
 | succ b ih =>
   rcases Nat.lt_or_ge a (b+1) with h' | h'
   ·exact Nat.le_trans (ih (by omega) (by omega)) (h.mono b (by omega))
   ·obtain rfl:a=b+1:=by omega
    exact Nat.le_refl _
theorem TF.val_dead (h:TF full Hs ts) {p:Nat} (hp:(Hs full.size).length≤p):∀m,m≤full.size→val ts Hs S p m=.dead:=by
 intro m
 induction m with
 | zero=>intro _;exact hg_ge _ (Nat.le_trans (h.lens (Nat.zero_le _) (Nat.le_refl _)) hp)
 | succ m ih =>
   intro hm
   have:=ih (by omega)
   have hl:=h.lens hm (Nat.le_refl _)
   simp only [val]
   split
   ·rw [this]
    cases hh:ts m with
    | mk=>simp only [gE];split <;> first | rfl | exact hg_ge _ (by omega)
    | st id a n=>simp only [gE];split <;> rfl
    | bar=>exact hg_ge _ (by omega)
    | cl A B =>
      simp only [gE]
      split
      ·rfl
      ·obtain ⟨e1,e2⟩:=h.cl m (by omega) A B hh
       subst e1;subst e2
       exact hg_ge _ (by omega)
    | _=>rfl
   ·exact this
theorem TF.hg_hp (h:TF full Hs ts) (p:Nat):hg (hp ts Hs S full.size) p=val ts Hs S p full.size:=by
 rcases Nat.lt_or_ge p (Hs full.size).length with h' | h'
 ·unfold hg hp
  simp [List.getD_eq_getElem?_getD,h']
 ·rw [hg_ge _ (by rw [hp_len];exact h'),h.val_dead h' _ (Nat.le_refl _)]
theorem TF.val_text (h:TF full Hs ts) {i:Nat} (p:Nat):∀m,m≤full.size→val ts Hs (fun j=>decide (j < i)) p m=hg (Hs (min i m)) p:=by
 intro m
 induction m with
 | zero=>intro _;simp [val]
 | succ m ih =>
   intro hm
   simp only [val,ih (by omega),decide_eq_true_eq]
   split
   ·rename_i hlt
    rw [Nat.min_eq_right (by omega),Nat.min_eq_right (by omega),←h.obj m (by omega)]
   ·rename_i hge
    rw [Nat.min_eq_left (by omega),Nat.min_eq_left (by omega)]
end facts
theorem hd_dead {o:AObj} (h:o.hd=AObj.dead.hd):o=.dead:=by
 cases o <;> simp [AObj.hd] at h <;> rfl
theorem TR.tf (ht:TabOk P tab) {full:Array Oper} {F:Nat→Fr} {Hs:Nat→AH} {v:Nat→AV} {ts:Nat→Tc} (h:TR P tab full F Hs v ts 0):TF full Hs ts:=by
 refine ⟨fun m hm=>?_,fun m hm p=>?_,fun m hm e=>?_,fun m hm id a n e=>?_,fun m hm e=>?_,fun m hm A B e=>?_⟩
 ·obtain ⟨o,_,h2,_⟩:=h.step m (Nat.zero_le _) hm;exact Gv_len ht h2
 ·obtain ⟨o,_,h2,_⟩:=h.step m (Nat.zero_le _) hm;exact Gv_obj h2 p
 ·obtain ⟨o,_,h2,_⟩:=h.step m (Nat.zero_le _) hm
  rw [e] at h2
  obtain ⟨ob,e2⟩:=Gv_mk h2
  rw [e2];simp
 ·obtain ⟨o,_,h2,_⟩:=h.step m (Nat.zero_le _) hm
  rw [e] at h2
  obtain ⟨_,_,_,_,_,_,_,_,_,_,_,e2,hown,_⟩:=Gv_st h2
  exact ⟨hg_lt (AObj.owned_live hown),by rw [e2];simp⟩
 ·obtain ⟨o,_,h2,_⟩:=h.step m (Nat.zero_le _) hm;exact Gv_quiet h2 e
 ·obtain ⟨o,_,h2,_⟩:=h.step m (Nat.zero_le _) hm
  rw [e] at h2
  exact Gv_cl h2
theorem aff_clash {t:Tc} {H0:AH} {p a n:Nat} (h:aff t H0 p a n) (hm:t≠.mk):clash t (.ld p a n)∧clash (.ld p a n) t∧clash t (.st p a n)∧clash (.st p a n) t:=by
 cases t with
 | cl A B=>simp only [aff] at h;exact ⟨h,h,trivial,trivial⟩
 | _=>simp [aff] at h hm <;> simp [clash] <;> omega
structure Inv (full:Array Oper) (N:Nat) (w0:World) (M:Fx) (F0:Fr) (Hs:Nat→AH) (v:Nat→AV) (ts:Nat→Tc) (B S:Nat→Bool) (fm:Fr) (ρ:Ro) (a:Act) (w:World):Prop where
 mix:Mix full v F0 (fun j=>B j=true) fm
 st:St N w0 M ρ fm (hp ts Hs S full.size) a w
 un:∀m,m < full.size→S m=false→∀p,(Hs m).length≤p→p < (Hs (m+1)).length→ρ p=none
 sk:∀m,m < full.size→S m=true→∀id b n,ts m=.st id b n→∀j,j < full.size→S j=false→¬((Hs j).length≤id∧id < (Hs (j+1)).length)
section step
variable {w0:World} {M:Fx} {full:Array Oper} {F:Nat→Fr} {Hs:Nat→AH} {v v':Nat→AV} {ts:Nat→Tc} {B C S T:Nat→Bool} {fm:Fr} {ρ:Ro} {a:Act} {w:World} {i:Nat}
theorem draw_put (htf:TF full Hs ts) (hi:i < full.size) (hSi:S i=false) (hT:∀m,T m=(S m || decide (m=i))) (hhigh:∀m,i < m→S m=true→¬clash (ts m) (ts i))
 (hsk:∀m,m < full.size→S m=true→∀id b n,ts m=.st id b n→∀j,j < full.size→S j=false→¬((Hs j).length≤id∧id < (Hs (j+1)).length)) :
 ∀p,val ts Hs T p full.size=gE (ts i) (Hs i) (Hs (i+1)) p (val ts Hs S p full.size):=by
 intro p
 refine val_put hSi hT _ hi fun m h1 h2 h3 c=>gE_comm (hhigh m h1 h3) (fun e1 e2 e=>?_) (fun id b n e1 e2 e=>?_) (fun id b n e1 e2 e=>?_)
 ·have:=htf.mk1 i hi e2
  have:=htf.lens (a:=i+1) (b:=m) h1 (by omega)
  omega
 ·refine hsk m h2 h3 id b n e1 i hi hSi ?_
  have:=htf.mk1 i hi e2
  omega
 ·have:=(htf.st i hi id b n e2).1
  have:=htf.lens (a:=i) (b:=m) (by omega) (by omega)
  omega
theorem draw_step (ht:TabOk P tab) (htr:TR P tab full F Hs v ts 0) (hi:i < full.size) {o:Oper} (ho:full[i]?=some o) (hok:dstOk N o.dst=true) (hvv:v' i=v i) (hSi:S i=false) (hT:∀m,T m=(S m || decide (m=i)))
 (hC:∀m,C m=(B m || decide (m=i)))
 (hbd:∀m,S m=true→m < full.size)
 (hagree:∀t∈looks full o,Am.get fm t=Am.get (F i) t)
 (hlow:∀m,m < i→S m=false→¬clash (ts i) (ts m)) (hhigh:∀m,i < m→S m=true→¬clash (ts m) (ts i))
 (hdst:∀d,o.dst=some d→∀j,B j=true→dstA full j≠some d)
 (hI:Inv full N w0 M (F 0) Hs v' ts B S fm ρ a w) {R:Act→World→Prop} {Q:Exit→Act→World→Prop}
 (hK:∀fm' ρ' a' w',Inv full N w0 M (F 0) Hs v' ts C T fm' ρ' a' w'→R a' w') :
 (Region.wanted o (yielded full a.tmps)=true→o.wp P a w R Q)∧(Region.wanted o (yielded full a.tmps)=false→R (a.put o.dst undef) w):=by
 have htf:=htr.tf ht
 obtain ⟨o',ho',hgv,_⟩:=htr.step i (Nat.zero_le _) hi
 obtain rfl:o=o':=by rw [ho] at ho';simpa using ho'
 have hvs:=looks_ops hagree
 have hTi:T i=true:=by rw [hT];simp
 have hTs:∀m,m≠i→T m=S m:=by intro m hm;rw [hT];simp [hm]
 have hTf:∀m,T m=false→S m=false∧m≠i:=by intro m hm;rw [hT] at hm;simpa using hm
 have hmix:Mix full v' (F 0) (fun j=>C j=true) (putA o.dst (v i) fm):=by
  have:=hI.mix.put ho hdst
  rw [hvv] at this
  intro s
  obtain ⟨g1,g2⟩:=this s
  exact ⟨fun j hj=>g1 j (by have hj:C j=true:=hj;rw [hC] at hj;simpa using hj),fun h=>g2 fun j hj=>h j (by show C j=true;rw [hC];simpa using hj)⟩
 have hput:=draw_put htf hi hSi hT hhigh hI.sk
 have hps:(hp ts Hs T full.size).length=(hp ts Hs S full.size).length:=by rw [hp_len,hp_len]
 have hquiet:(ts i).quiet=true→hp ts Hs T full.size=hp ts Hs S full.size:=by
  intro hq
  refine hg_ext hps fun p=>?_
  rw [htf.hg_hp,htf.hg_hp,hput,gE_quiet hq]
 have hinti:(ts i).quiet=true→(Hs (i+1)).length=(Hs i).length:=fun hq=>by rw [htf.quiet i hi hq]
 have hsk:(∀id b n,ts i=.st id b n→∀j,j < full.size→S j=false→¬((Hs j).length≤id∧id < (Hs (j+1)).length)) →
  ∀m,m < full.size→T m=true→∀id b n,ts m=.st id b n→∀j,j < full.size→T j=false→¬((Hs j).length≤id∧id < (Hs (j+1)).length):=by
  intro hst m hm hTm id b n e j hj hTj
  obtain ⟨h1,_⟩:=hTf j hTj
  by_cases hmi:m=i
  ·subst hmi;exact hst id b n e j hj h1
  ·rw [hTs m hmi] at hTm;exact hI.sk m hm hTm id b n e j hj h1
 have hun:∀m,m < full.size→T m=false→∀p,(Hs m).length≤p→p < (Hs (m+1)).length→ρ p=none:=fun m hm hTm=>hI.un m hm (hTf m hTm).1
 have hfar:∀p,(∃L,ρ p=some L)→∀j,j < full.size→S j=false→¬((Hs j).length≤p∧p < (Hs (j+1)).length):=by
  rintro p ⟨L,hL⟩ j hj hSj ⟨h1,h2⟩
  rw [hI.un j hj hSj p h1 h2] at hL;simp at hL
 have hptr:∀id b ver r,(opnds o.op).map (ev fm)=.c (.p id b ver)::r→∃L,ρ id=some L:=by
  intro id b ver r e
  have:=ops_rel hI.st (opnds o.op)
  rw [e] at this
  cases hcs:(opnds o.op).map a.eval with
  | nil=>rw [hcs] at this;cases this
  | cons y ys =>
    rw [hcs] at this
    cases this with
    | cons h _=>obtain ⟨L,_,h1,_⟩:=(show PRel ρ id b ver _ from h);exact ⟨L,h1⟩
 have hsee:∀id b n,id < (Hs i).length→(∃L,ρ id=some L)→(ts i=.ld id b n∨ts i=.st id b n) →
  (val ts Hs S id full.size).hd=(hg (Hs i) id).hd∧∀k,b≤k→k < b+n→(val ts Hs S id full.size).cells.getD k .any=(hg (Hs i) id).cells.getD k .any:=by
  intro id b n hlt hL hti
  have e:=htf.val_text (i:=i) id full.size (Nat.le_refl _)
  rw [Nat.min_eq_left (by omega)] at e
  rw [←e]
  refine val_agree full.size fun m hm hne haf=>?_
  by_cases hmk:ts m=.mk
  ·rw [hmk] at haf
   simp only [aff] at haf
   have hml:=htf.mk1 m hm hmk
   by_cases hSm:S m=true
   ·have hge:¬m < i:=by simpa [hSm] using hne
    have:=htf.lens (a:=i) (b:=m) (by omega) (by omega)
    omega
   ·exact hfar id hL m hm (by simpa using hSm) ⟨by omega,by omega⟩
  ·obtain ⟨c1,c2,c3,c4⟩:=aff_clash haf hmk
   by_cases hSm:S m=true
   ·have hge:¬m < i:=by simpa [hSm] using hne
    have hgt:i < m:=by
     rcases Nat.lt_or_ge i m with h | h
     ·exact h
     ·obtain rfl:i=m:=by omega
      rw [hSi] at hSm;simp at hSm
    have:=hhigh m hgt hSm
    rcases hti with e | e <;> rw [e] at this
    ·exact this c1
    ·exact this c3
   ·have hSm':S m=false:=by simpa using hSm
    have hlt':m < i:=by simpa [hSm'] using hne
    have:=hlow m hlt' hSm'
    rcases hti with e | e <;> rw [e] at this
    ·exact this c2
    ·exact this c4
 have hall:(ts i=.rd∨∃A B,ts i=.cl A B)→(∀m,m < full.size→S m≠decide (m < i)→ts m=.no∨∃b c d,ts m=.ld b c d∨(ts m=.rd))∧∀p,val ts Hs S p full.size=hg (Hs i) p:=by
  intro hti
  have h1:∀m,m < full.size→S m≠decide (m < i)→ts m=.no∨∃b c d,ts m=.ld b c d∨(ts m=.rd):=by
   intro m hm hne
   have hc:¬clash (ts i) (ts m)∨¬clash (ts m) (ts i):=by
    by_cases hSm:S m=true
    ·have hge:¬m < i:=by simpa [hSm] using hne
     have hgt:i < m:=by
      rcases Nat.lt_or_ge i m with h | h
      ·exact h
      ·obtain rfl:i=m:=by omega
       rw [hSi] at hSm;simp at hSm
     exact .inr (hhigh m hgt hSm)
    ·have hSm':S m=false:=by simpa using hSm
     exact .inl (hlow m (by simpa [hSm'] using hne) hSm')
   rcases hti with e | ⟨A,B,e⟩ <;> rw [e] at hc <;> cases hh:ts m <;> rw [hh] at hc <;> simp [clash] at hc ⊢
  refine ⟨h1,fun p=>?_⟩
  have e:=htf.val_text (i:=i) p full.size (Nat.le_refl _)
  rw [Nat.min_eq_left (by omega)] at e
  rw [←e]
  refine val_eq full.size fun m hm hne=>?_
  rcases h1 m hm hne with e | ⟨_,_,_,e | e⟩ <;> rw [e] <;> rfl
 generalize hvi:v i=vi at hgv hmix
 generalize hHi:Hs (i+1)=Hn at hgv
 generalize hti:ts i=ti at hgv
 cases hgv with
 | no j q r hg1 h2 h3 =>
   have hy:=gval_spec (by rw [looks_g hagree j q hg1];exact h2) hI.st.fr
   refine ⟨fun hw=>?_,fun _=>?_⟩
   ·exfalso;simp [Region.wanted,hg1,hy] at hw;exact h3 hw
   ·refine hK _ ρ _ w ⟨hmix,?_,hun,hsk fun id b n e=>by rw [hti] at e;simp at e⟩
    rw [hquiet (by rw [hti];rfl)]
    exact hI.st.put hok rfl
 | go _ _ hg1 h =>
   refine ⟨fun _=>?_,fun hw=>?_⟩
   rotate_left
   ·exfalso
    rcases hg1 with hg1 | ⟨j,q,hg1,h2⟩
    ·simp [Region.wanted,hg1] at hw
    ·have hy:=gval_spec (by rw [looks_g hagree j q hg1];exact h2) hI.st.fr
     simp [Region.wanted,hg1,hy] at hw
   rw [←hvs] at h hti
   cases htc:tcof P tab o.op ((opnds o.op).map (ev fm)) with
   | no =>
     rw [htc] at hti
     simp only [tcx] at hti
     refine op_wq ht hI.st hok (.inl htc) ((astep_no h htc).2 _) fun a' w' hst=>hK _ ρ a' w' ⟨hmix,?_,hun,hsk fun id b n e=>by rw [hti] at e;simp at e⟩
     rw [hquiet (by rw [hti];rfl)];exact hst
   | ld id b n =>
     rw [htc] at hti
     simp only [tcx] at hti
     obtain ⟨_,hlt,⟨ver,hv1⟩,h4⟩:=astep_ld h htc
     obtain ⟨s1,s2⟩:=hsee id b n hlt (hptr _ _ _ _ hv1) (.inl hti)
     refine op_wq ht hI.st hok (.inr ⟨_,_,_,htc⟩) (h4 _ (by rw [htf.hg_hp];exact s1) (fun k g1 g2=>by rw [htf.hg_hp];exact s2 k g1 g2)) fun a' w' hst=>hK _ ρ a' w' ⟨hmix,?_,hun,hsk fun id b n e=>by rw [hti] at e;simp at e⟩
     rw [hquiet (by rw [hti];rfl)];exact hst
   | rd =>
     rw [htc] at hti
     simp only [tcx] at hti
     obtain ⟨h1,h2⟩:=hall (.inl hti)
     obtain rfl:=astep_rd h htc
     have hst1:St N w0 M ρ fm (Hs i) a w:=by
      refine hI.st.cast (fun p=>by rw [htf.hg_hp,h2]) fun p hp=>?_
      rcases Nat.lt_or_ge p (Hs full.size).length with hlt | hge
      ·
       obtain ⟨m,hm1,hm2,hm3,hm4⟩:∃m,i≤m∧m < full.size∧(Hs m).length≤p∧p < (Hs (m+1)).length:=by
        have:∀d,i+d≤full.size→p < (Hs (i+d)).length→∃m,i≤m∧m < full.size∧(Hs m).length≤p∧p < (Hs (m+1)).length:=by
         intro d
         induction d with
         | zero=>intro _ h;rw [Nat.add_zero] at h;omega
         | succ d ih =>
           intro hd h
           rcases Nat.lt_or_ge p (Hs (i+d)).length with h' | h'
           ·exact ih (by omega) h'
           ·exact ⟨i+d,by omega,by omega,h',h⟩
        exact this (full.size - i) (by omega) (by rw [show i+(full.size - i)=full.size by omega];exact hlt)
       refine hI.un m hm2 ?_ p hm3 hm4
       cases hSm:S m with
       | false=>rfl
       | true =>
         exfalso
         rcases h1 m hm2 (by rw [hSm];simp;omega) with e | ⟨_,_,_,e | e⟩ <;> (have:=htf.quiet m hm2 (by rw [e];rfl);rw [this] at hm4;omega)
      ·exact hI.st.hr.fresh p (by rw [hp_len];exact hge)
     refine op_wp ht hst1 hok h fun ρ' a' w' hst=>hK _ ρ' a' w' ⟨hmix,?_,fun m hm hTm p g1 g2=>?_,hsk fun id b n e=>by rw [hti] at e;simp at e⟩
     ·rw [hquiet (by rw [hti];rfl)]
      refine hst.cast (fun p=>by rw [htf.hg_hp,h2]) fun p hp=>hst.hr.fresh p ?_
      rw [hp_len] at hp
      have:=htf.lens (a:=i) (b:=full.size) (by omega) (Nat.le_refl _)
      omega
     ·obtain ⟨hSm,hne⟩:=hTf m hTm
      rcases Nat.lt_or_ge m i with hlt | hge
      ·exfalso
       rcases h1 m hm (by rw [hSm];simp;exact hlt) with e | ⟨_,_,_,e | e⟩ <;> (have:=htf.quiet m hm (by rw [e];rfl);rw [this] at g2;omega)
      ·have:=htf.lens (a:=i) (b:=m) hge (by omega)
       exact hst.hr.fresh p (by omega)
   | bar =>
     rw [htc] at hti
     simp only [tcx] at hti
     obtain ⟨h1,h2⟩:=hall (.inr ⟨_,_,hti⟩)
     subst hHi
     have hst1:St N w0 M ρ fm (Hs i) a w:=by
      refine hI.st.cast (fun p=>by rw [htf.hg_hp,h2]) fun p hp=>?_
      rcases Nat.lt_or_ge p (Hs full.size).length with hlt | hge
      ·obtain ⟨m,hm1,hm2,hm3,hm4⟩:∃m,i≤m∧m < full.size∧(Hs m).length≤p∧p < (Hs (m+1)).length:=by
        have:∀d,i+d≤full.size→p < (Hs (i+d)).length→∃m,i≤m∧m < full.size∧(Hs m).length≤p∧p < (Hs (m+1)).length:=by
         intro d
         induction d with
         | zero=>intro _ h;rw [Nat.add_zero] at h;omega
         | succ d ih =>
           intro hd h
           rcases Nat.lt_or_ge p (Hs (i+d)).length with h' | h'
           ·exact ih (by omega) h'
           ·exact ⟨i+d,by omega,by omega,h',h⟩
        exact this (full.size - i) (by omega) (by rw [show i+(full.size - i)=full.size by omega];exact hlt)
       refine hI.un m hm2 ?_ p hm3 hm4
       cases hSm:S m with
       | false=>rfl
       | true =>
         exfalso
         rcases h1 m hm2 (by rw [hSm];simp;omega) with e | ⟨_,_,_,e | e⟩ <;> (have:=htf.quiet m hm2 (by rw [e];rfl);rw [this] at hm4;omega)
      ·exact hI.st.hr.fresh p (by rw [hp_len];exact hge)
     refine op_wp ht hst1 hok h fun ρ' a' w' hst=>hK _ ρ' a' w' ⟨hmix,?_,fun m hm hTm p g1 g2=>?_,hsk fun id b n e=>by rw [hti] at e;simp at e⟩
     ·have e2:∀p,gE (.cl (Hs i) (Hs (i+1))) (Hs i) (Hs (i+1)) p (val ts Hs S p full.size)=hg (Hs (i+1)) p:=by
       intro p
       simp only [gE,h2]
       by_cases e:hg (Hs (i+1)) p=hg (Hs i) p∧(hg (Hs i) p).live=true
       ·rw [if_pos e,e.1]
       ·rw [if_neg e]
      refine hst.cast (fun p=>by rw [htf.hg_hp,hput,hti,e2]) fun p hp=>hst.hr.fresh p ?_
      rw [hp_len] at hp
      have:=htf.lens (a:=i+1) (b:=full.size) (by omega) (Nat.le_refl _)
      omega
     ·obtain ⟨hSm,hne⟩:=hTf m hTm
      rcases Nat.lt_or_ge m i with hlt | hge
      ·exfalso
       rcases h1 m hm (by rw [hSm];simp;exact hlt) with e | ⟨_,_,_,e | e⟩ <;> (have:=htf.quiet m hm (by rw [e];rfl);rw [this] at g2;omega)
      ·have:=htf.lens (a:=i+1) (b:=m) (by omega) (by omega)
       exact hst.hr.fresh p (by omega)
   | cl A B=>exact (tcof_ncl htc).elim
   | mk =>
     rw [htc] at hti
     simp only [tcx] at hti
     subst hHi
     have hml:=htf.mk1 i hi hti
     have hmx:=htf.lens (a:=i+1) (b:=full.size) (by omega) (Nat.le_refl _)
     have hnone:ρ (Hs i).length=none:=hI.un i hi hSi _ (Nat.le_refl _) (by omega)
     have hdead:hg (hp ts Hs S full.size) (Hs i).length=.dead:=by
      rw [htf.hg_hp]
      have e:=htf.val_text (i:=i) (Hs i).length full.size (Nat.le_refl _)
      rw [Nat.min_eq_left (by omega),hg_ge _ (Nat.le_refl _)] at e
      apply hd_dead
      rw [←e]
      refine (val_agree (a:=0) (b:=0) full.size fun m hm hne haf=>?_).1
      cases hh:ts m with
      | mk =>
        rw [hh] at haf;simp only [aff] at haf
        have:=htf.mk1 m hm hh
        rcases Nat.lt_trichotomy m i with h | h | h
        ·have:=htf.lens (a:=m+1) (b:=i) h (by omega);omega
        ·subst h;rw [hSi] at hne;simp at hne
        ·have:=htf.lens (a:=i+1) (b:=m) h (by omega);omega
      | st id b n=>rw [hh] at haf;simp [aff] at haf
      | cl A B =>
        by_cases hSm:S m=true
        ·have hge:¬m < i:=by simpa [hSm] using hne
         have hgt:i < m:=by
          rcases Nat.lt_or_ge i m with h | h
          ·exact h
          ·obtain rfl:i=m:=by omega
           rw [hSi] at hSm;simp at hSm
         refine hhigh m hgt hSm ?_
         rw [hh,hti];simp [clash]
        ·have hSm':S m=false:=by simpa using hSm
         refine hlow m (by simpa [hSm'] using hne) hSm' ?_
         rw [hh,hti];simp [clash]
      | bar =>
        by_cases hSm:S m=true
        ·have hge:¬m < i:=by simpa [hSm] using hne
         have hgt:i < m:=by
          rcases Nat.lt_or_ge i m with h | h
          ·exact h
          ·obtain rfl:i=m:=by omega
           rw [hSi] at hSm;simp at hSm
         refine hhigh m hgt hSm ?_
         rw [hh,hti];simp [clash]
        ·have hSm':S m=false:=by simpa using hSm
         refine hlow m (by simpa [hSm'] using hne) hSm' ?_
         rw [hh,hti];simp [clash]
      | _=>rw [hh] at haf;simp [aff] at haf
     rw [astep_eop (.inl htc)] at h
     obtain ⟨ob,e1,w',L,he,vc,h1,h2⟩:=mk_run htc h (ops_rel hI.st (opnds o.op)) ⟨hI.st.hr,by rw [hp_len];omega,hdead,hnone⟩
     simp only [Oper.wp,h1,Oper.upon]
     have hst:=(hI.st.eff he).put (d:=o.dst) hok h2
     refine hK _ (upd ρ (Hs i).length L) _ w' ⟨hmix,?_,fun m hm hTm p g1 g2=>?_,hsk fun id b n e=>by rw [hti] at e;simp at e⟩
     ·have e2:hp ts Hs T full.size=(hp ts Hs S full.size).set (Hs i).length ob:=by
       refine hg_ext (by simp [hp_len]) fun p=>?_
       rw [hg_set _ _ _ _ (by rw [hp_len];omega),htf.hg_hp,htf.hg_hp,hput,hti]
       simp only [gE]
       split
       ·subst_vars;rw [e1,hg_append,if_pos rfl]
       ·rfl
      rw [e2];exact hst
     ·obtain ⟨hSm,hne⟩:=hTf m hTm
      have hp0:=hI.un m hm hSm p g1 g2
      rw [upd_ne _ _ ?_]
      ·exact hp0
      ·rintro rfl
       rcases Nat.lt_or_ge m i with hlt | hge
       ·have:=htf.lens (a:=m+1) (b:=i) hlt (by omega);omega
       ·have:=htf.lens (a:=i+1) (b:=m) (by omega) (by omega);omega
   | st id b n =>
     rw [htc] at hti
     simp only [tcx] at hti
     subst hHi
     rw [astep_eop (.inr ⟨_,_,_,htc⟩)] at h
     obtain ⟨t,x,y,ax,ver,l,hop,hv1,hcl,hn,hvv,hH',hown,hver,hlen,hsz,hoff,hone⟩:=store_inv htc h
     have hL:=hptr _ _ _ _ hv1
     have hlt:=hg_lt (AObj.owned_live hown)
     obtain ⟨s1,s2⟩:=hsee id b n hlt hL (.inr hti)
     obtain ⟨r1,r2,r3,r4⟩:=AObj.hd_row s1
     have hmx:=htf.lens (a:=i) (b:=full.size) (by omega) (Nat.le_refl _)
     have heop:eop P o.op ((opnds o.op).map (ev fm)) (hp ts Hs S full.size)=some (.c .und,(hp ts Hs S full.size).set id ((hg (hp ts Hs S full.size) id).put (wr (hg (hp ts Hs S full.size) id).cells b l))):=by
      rw [hv1,hop]
      simp only [eop,hcl]
      rw [if_pos]
      rw [htf.hg_hp,r1,r2,r3]
      exact ⟨hown,hver,hlen,hsz,hoff,hone⟩
     obtain ⟨⟨w',he,h1,_⟩,_⟩:=store_run htc heop (ops_rel hI.st (opnds o.op)) hI.st.hr
     simp only [Oper.wp,h1,Oper.upon]
     have hst:=(hI.st.eff he).put (d:=o.dst) (v:=.c .und) hok rfl
     refine hK _ ρ _ w' ⟨hmix,?_,hun,hsk fun id' b' n' e=>?_⟩
     ·have e2:hp ts Hs T full.size=(hp ts Hs S full.size).set id ((hg (hp ts Hs S full.size) id).put (wr (hg (hp ts Hs S full.size) id).cells b l)):=by
       refine hg_ext (by simp [hp_len]) fun p=>?_
       rw [hg_set _ _ _ _ (by rw [hp_len];omega)]
       simp only [htf.hg_hp,hput p,hti,gE]
       split
       ·rename_i e0
        subst e0
        refine (put_on (by rw [r3];exact hown) (by rw [hlen,hn]) (by rw [r2];exact hoff) fun k g1 g2=>?_).symm
        rw [hH',hg_set _ _ _ _ hlt,if_pos rfl]
        have e:=put_cells hown hoff
        rw [e,wr_get hoff,if_pos ⟨g1,by omega⟩]
       ·rfl
      rw [e2,hvv];exact hst
     ·rw [hti] at e;simp at e
      obtain ⟨rfl,rfl,rfl⟩:=e
      exact hfar id hL
theorem Gv_mk2 {o:Oper} {fr:Fr} {H H':AH} {v:AV} (h:Gv P tab full o fr H v H' .mk):∃ob,H'=H++[ob]∧ob.owned=true:=by
 generalize ht:Tc.mk=t at h
 cases h with
 | no=>simp at ht
 | go _ _ _ h =>
   have hk:=tcx_mk ht.symm
   rw [astep_eop (.inl hk)] at h
   unfold eop at h
   split at h
   ·split at h <;> simp at h;exact ⟨_,h.2.symm,rfl⟩
   ·split at h <;> simp at h;exact ⟨_,h.2.symm,rfl⟩
   ·split at h <;> try (simp at h;done)
    split at h <;> try (simp at h;done)
    split at h
    ·split at h <;> simp at h;exact ⟨_,h.2.symm,rfl⟩
    ·split at h <;> simp at h;exact ⟨_,h.2.symm,rfl⟩
   ·split at h <;> try (simp at h;done)
    split at h <;> try (simp at h;done)
    split at h <;> simp at h;exact ⟨_,h.2.symm,rfl⟩
   ·rename_i hop hvs;rw [hvs,hop] at hk;simp [tcof,tcS] at hk
   ·simp at h
theorem wp_put {o:Oper} {K:Act→World→Prop} {Q:Exit→Act→World→Prop} (h:o.wp P a w K Q):o.wp P a w (fun a' w'=>(∃vc,a'.tmps=(a.put o.dst vc).tmps)∧K a' w') Q:=by
 unfold Oper.wp at *
 generalize (execOp a.eval o).run P w=r at *
 cases r with
 | ok n w' =>
   cases n <;> simp only [Oper.upon] at h ⊢ <;> first
    | exact ⟨⟨_,rfl⟩,h⟩
    | exact ⟨⟨undef,by cases o.dst <;> rfl⟩,h⟩
    | exact Calls.mono h fun e w'' he=>by
       cases e
       ·exact ⟨⟨_,rfl⟩,he⟩
       ·exact he
       ·exact he
    | exact Rows.mono h fun _ _ he=>⟨⟨_,rfl⟩,he⟩
 | halt x w'=>cases x <;> simp only [Oper.upon] at h ⊢ <;> exact h
theorem put_ne {o:Option Nat} {d:Nat} {vc:Value} (h:o≠some d):(a.put o vc).tmps.getD d undef=a.tmps.getD d undef:=by
 cases o with
 | none=>rfl
 | some e =>
   have hne:e≠d:=fun h'=>h (by rw [h'])
   simp [Act.put,Array.getD_eq_getD_getElem?,Array.getElem?_setIfInBounds_ne hne]
theorem keep_0 (w:World):Keep w (fun _=>False) w :=
 ⟨rfl,rfl,rfl,Nat.le_refl _,fun _ _ _=>rfl,fun b c t f hf hm=>by
   rcases hm with hm | hm
   ·rw [Array.getElem?_eq_none hm] at hf;simp at hf
   ·exact hm.elim⟩
theorem St.here {H:AH} {fr:Fr} (h:St N w0 M ρ fr H a w):St N w ⟨Owns ρ H,H.length,ρ⟩ ρ fr H a w:=by
 refine ⟨h.fr,h.sz,h.df,h.hr,⟨rfl,rfl,rfl,Nat.le_refl _,fun _ _ _=>rfl,fun b c t f hf hm=>?_⟩,fun i L h1 h2 h3=>.inl ⟨i,L,h1,h2,h3,rfl⟩,fun i _ L hL=>⟨L,hL,.inl rfl⟩⟩
 rcases hm with hm | ⟨i,L,h1,h2,h3,rfl⟩
 ·rw [Array.getElem?_eq_none hm] at hf;simp at hf
 ·have hO:=h.hr.obj i
  cases ho:hg H i with
  | own cs =>
    rw [ho] at hO
    obtain ⟨L',c',t',e1,_,_,_,_,e2,_⟩:=hO
    obtain rfl:L=L':=by simpa [h2] using e1
    rw [e2] at hf;simp at hf;exact hf.2.2.symm
  | vec sz cs =>
    rw [ho] at hO
    obtain ⟨L',e1,_,_,_,_,e2⟩:=hO
    obtain rfl:L=L':=by simpa [h2] using e1
    rw [if_neg (by rw [h3];decide)] at e2
    obtain ⟨c',d',t',e2,_⟩:=e2
    rw [e2] at hf;simp at hf;exact hf.2.2.symm
  | view cs=>rw [ho] at h1;simp [AObj.owned] at h1
  | map clk es =>
    rw [ho] at hO
    obtain ⟨L',ems,e1,_,_,_,_,e2,_⟩:=hO
    obtain rfl:L=L':=by simpa [h2] using e1
    rw [e2] at hf;simp at hf
  | iter m since seen last =>
    rw [ho] at hO
    obtain ⟨L',b',e1,_,_,_,_,_,e2⟩:=hO
    obtain rfl:L=L':=by simpa [h2] using e1
    rw [e2] at hf;simp at hf
  | dead=>rw [ho] at h1;simp [AObj.owned] at h1
theorem view_row {H:AH} (h:HR ρ w H) {p:Nat} (h1:(hg H p).live=true) (h2:(hg H p).owned=false):∃L,ρ p=some L∧L.row=0:=by
 have hO:=h.obj p
 cases ho:hg H p with
 | own cs=>rw [ho] at h2;simp [AObj.owned] at h2
 | vec sz cs=>rw [ho] at h2;simp [AObj.owned] at h2
 | view cs =>
   rw [ho] at hO
   obtain ⟨L,e1,e2,_⟩:=hO
   exact ⟨L,e1,e2⟩
 | map clk es=>rw [ho] at h2;simp [AObj.owned] at h2
 | iter m since seen last=>rw [ho] at h2;simp [AObj.owned] at h2
 | dead=>rw [ho] at h1;simp [AObj.live] at h1
theorem on_kind {o:AObj} {f:List Sc→List Sc}:(o.on f).live=o.live∧(o.on f).owned=o.owned:=by cases o <;> exact ⟨rfl,rfl⟩
structure Ea (full:Array Oper) (Hs:Nat→AH) (v:Nat→AV) (w0:World) (H:AH) (ρ:Ro) (a:Act) (w:World) (m b:Nat):Prop where
 ex:∃d z zc t,dstA full m=some d∧v m=.c (.p (Hs m).length 0 0)∧Hs (m+1)=Hs m++[.own z]∧a.tmps.getD d undef=.pointer (some ⟨b,0,none⟩)∧w.heap[b]?=some (.cells (zc:List Value).toArray t (0,0))∧L2 (SRel ρ) z zc
 old:w0.heap.size≤b
 ne:∀i L,(hg H i).live=true→ρ i=some L→L.nil=false→L.blk≠b
structure Inv2 (full:Array Oper) (N:Nat) (w0:World) (M:Fx) (F0:Fr) (Hs:Nat→AH) (v:Nat→AV) (ts:Nat→Tc) (S E:Nat→Bool) (bk:Nat→Nat) (fm:Fr) (ρ:Ro) (a:Act) (w:World):Prop where
 inv:Inv full N w0 M F0 Hs (fun m=>if E m=true then .c .any else v m) ts S (fun m=>S m && !E m) fm ρ a w
 sub:∀m,E m=true→m < full.size∧S m=true∧ts m=.mk
 ea:∀m,E m=true→Ea full Hs v w0 (hp ts Hs (fun m=>S m && !E m) full.size) ρ a w m (bk m)
 inj:∀m n,E m=true→E n=true→bk m=bk n→m=n
theorem inv2_step {E:Nat→Bool} {bk:Nat→Nat} (ht:TabOk P tab) (htr:TR P tab full F Hs v ts 0) (hi:i < full.size) {o:Oper} (ho:full[i]?=some o) (hok:dstOk N o.dst=true) (hSi:S i=false) (hT:∀m,T m=(S m || decide (m=i)))
 (hbd:∀m,S m=true→m < full.size)
 (hagree:∀t∈looks full o,Am.get fm t=Am.get (F i) t)
 (hlow:∀m,m < i→(S m && !E m)=false→¬clash (ts i) (ts m)) (hhigh:∀m,i < m→(S m && !E m)=true→¬clash (ts m) (ts i))
 (hdst:∀d,o.dst=some d→∀j,S j=true→dstA full j≠some d)
 (hnv:∀A B,ts i=.cl A B→(∃m,E m=true)→nvw A B)
 (hI:Inv2 full N w0 M (F 0) Hs v ts S E bk fm ρ a w) {R:Act→World→Prop} {Q:Exit→Act→World→Prop}
 (hK:∀fm' ρ' a' w',Inv2 full N w0 M (F 0) Hs v ts T E bk fm' ρ' a' w'→R a' w') :
 (Region.wanted o (yielded full a.tmps)=true→o.wp P a w R Q)∧(Region.wanted o (yielded full a.tmps)=false→R (a.put o.dst undef) w):=by
 have htf:=htr.tf ht
 have hEi:E i=false:=by
  cases h:E i with
  | false=>rfl
  | true=>have:=(hI.sub i h).2.1;rw [hSi] at this;simp at this
 have hS0:(S i && !E i)=false:=by rw [hSi];rfl
 have hT0:∀m,(T m && !E m)=((S m && !E m) || decide (m=i)):=by
  intro m
  rw [hT]
  by_cases h:m=i
  ·subst h;simp [hEi]
  ·simp [h]
 have hbd0:∀m,(S m && !E m)=true→m < full.size:=fun m h=>hbd m (by simp at h;exact h.1)
 have hloc:Inv full N w ⟨Owns ρ (hp ts Hs (fun m=>S m && !E m) full.size),(hp ts Hs (fun m=>S m && !E m) full.size).length,ρ⟩ (F 0) Hs (fun m=>if E m=true then .c .any else v m) ts S (fun m=>S m && !E m) fm ρ a w :=
  ⟨hI.inv.mix,hI.inv.st.here,hI.inv.un,hI.inv.sk⟩
 have hput:=draw_put (T:=fun m=>T m && !E m) htf hi hS0 hT0 hhigh hI.inv.sk
 have step:=draw_step (T:=fun m=>T m && !E m) (C:=T) (Q:=Q) ht htr hi ho hok (by simp [hEi]) hS0 hT0 hT hbd0 hagree hlow hhigh hdst hloc
  (R:=fun a' w'=>∃fm' ρ',Inv full N w ⟨Owns ρ (hp ts Hs (fun m=>S m && !E m) full.size),(hp ts Hs (fun m=>S m && !E m) full.size).length,ρ⟩ (F 0) Hs (fun m=>if E m=true then .c .any else v m) ts T (fun m=>T m && !E m) fm' ρ' a' w') (fun fm' ρ' a' w' h=>⟨fm',ρ',h⟩)
 have fin:∀a' w',(∃vc,a'.tmps=(a.put o.dst vc).tmps)→(∃fm' ρ',Inv full N w ⟨Owns ρ (hp ts Hs (fun m=>S m && !E m) full.size),(hp ts Hs (fun m=>S m && !E m) full.size).length,ρ⟩ (F 0) Hs (fun m=>if E m=true then .c .any else v m) ts T (fun m=>T m && !E m) fm' ρ' a' w')→R a' w':=by
  rintro a' w' ⟨vc,htm⟩ ⟨fm',ρ',h⟩
  have hstab:Stab ρ ρ':=by
   intro p L hL
   refine h.st.st p ?_ L hL
   rcases Nat.lt_or_ge p (hp ts Hs (fun m=>S m && !E m) full.size).length with h' | h'
   ·exact h'
   ·rw [hI.inv.st.hr.fresh p h'] at hL;simp at hL
  have hkeep:Keep w (Owns ρ (hp ts Hs (fun m=>S m && !E m) full.size)) w':=h.st.kp
  have hown:∀b,Owns ρ' (hp ts Hs (fun m=>T m && !E m) full.size) b→Owns ρ (hp ts Hs (fun m=>S m && !E m) full.size) b∨w.heap.size≤b:=by
   rintro b ⟨p,L,h1,h2,h3,rfl⟩;exact h.st.ow p L h1 h2 h3
  have hst:=hI.inv.st.call h.st.hr hstab hkeep hown
  refine hK fm' ρ' a' w' ⟨⟨h.mix,⟨h.st.fr,h.st.sz,h.st.df,h.st.hr,hst.kp,hst.ow,hst.st⟩,h.un,h.sk⟩,fun m hm=>?_,fun m hm=>?_,hI.inj⟩
  ·obtain ⟨e1,e2,e3⟩:=hI.sub m hm
   exact ⟨e1,by rw [hT,e2];rfl,e3⟩
  ·obtain ⟨hms,hmS,hmk⟩:=hI.sub m hm
   obtain ⟨⟨d,z,zc,t,e1,e2,e3,e4,e5,e6⟩,e7,e8⟩:=hI.ea m hm
   have hb:bk m < w.heap.size:=by
    rcases Nat.lt_or_ge (bk m) w.heap.size with h' | h'
    ·exact h'
    ·rw [Array.getElem?_eq_none h'] at e5;simp at e5
   have hnO:¬Owns ρ (hp ts Hs (fun m=>S m && !E m) full.size) (bk m):=by
    rintro ⟨p,L,h1,h2,h3,h4⟩;exact e8 p L (AObj.owned_live h1) h2 h3 h4
   refine ⟨⟨d,z,zc,t,e1,e2,e3,?_,?_,e6.mono fun _ _ h=>h.mono hstab⟩,e7,fun p L hl hL hn=>?_⟩
   ·rw [htm,put_ne fun h'=>hdst d h' m hmS e1];exact e4
   ·rw [hkeep.old _ hb hnO];exact e5
   ·cases hown':(hg (hp ts Hs (fun m=>T m && !E m) full.size) p).owned with
    | true =>
      rcases hown L.blk ⟨p,L,hown',hL,hn,rfl⟩ with h' | h'
      ·intro e;rw [e] at h';exact hnO h'
      ·omega
    | false =>
      have hv:(hg (hp ts Hs (fun m=>S m && !E m) full.size) p).live=true∧(hg (hp ts Hs (fun m=>S m && !E m) full.size) p).owned=false:=by
       rw [htf.hg_hp,hput] at hl hown'
       rw [htf.hg_hp]
       obtain ⟨o',_,hgv,_⟩:=htr.step i (Nat.zero_le _) hi
       cases hti:ts i with
       | no=>rw [hti] at hl hown';exact ⟨hl,hown'⟩
       | ld _ _ _=>rw [hti] at hl hown';exact ⟨hl,hown'⟩
       | rd=>rw [hti] at hl hown';exact ⟨hl,hown'⟩
       | st id b n =>
         rw [hti] at hl hown'
         simp only [gE] at hl hown'
         split at hl
         ·rename_i e
          rw [if_pos e] at hown'
          rw [on_kind.1] at hl;rw [on_kind.2] at hown'
          exact ⟨hl,hown'⟩
         ·rename_i e
          rw [if_neg e] at hown'
          exact ⟨hl,hown'⟩
       | mk =>
         rw [hti] at hl hown' hgv
         obtain ⟨ob,e1,e2⟩:=Gv_mk2 hgv
         simp only [gE] at hl hown'
         split at hl
         ·rename_i e
          rw [if_pos e,e,e1,hg_append,if_pos rfl,e2] at hown'
          simp at hown'
         ·rename_i e
          rw [if_neg e] at hown'
          exact ⟨hl,hown'⟩
       | bar =>
         rw [hti] at hgv
         exfalso
         generalize hb:Tc.bar=tt at hgv
         generalize v i=vi at hgv
         generalize Hs (i+1)=Hn at hgv
         cases hgv with
         | no=>simp at hb
         | go _ _ _ _=>cases hk:tcof P tab o'.op ((opnds o'.op).map (ev (F i))) <;> rw [hk] at hb <;> simp [tcx] at hb
       | cl A B =>
         have hn:=hnv A B hti ⟨m,hm⟩
         rw [hti] at hl hown'
         simp only [gE] at hl hown'
         by_cases e:hg B p=hg A p∧(hg A p).live=true
         ·rw [if_pos e] at hl hown';exact ⟨hl,hown'⟩
         ·rw [if_neg e] at hl hown'
          have:=hn p hl hown'
          exact (e ⟨this.symm,by rw [this];exact hl⟩).elim
      obtain ⟨L1,r1,r2⟩:=view_row hI.inv.st.hr hv.1 hv.2
      obtain ⟨L2',r3,r4⟩:=view_row h.st.hr hl hown'
      obtain rfl:L=L2':=by rw [hL] at r3;simpa using r3
      obtain ⟨L3,r5,r6⟩:=hstab p L1 r1
      obtain rfl:L=L3:=by rw [hL] at r5;simpa using r5
      rcases r6 with rfl | r6
      ·exact e8 p L hv.1 r1 hn
      ·omega
 exact ⟨fun hw=>Oper.wp_mono (fun a' w' h=>fin a' w' h.1 h.2) (wp_put (step.1 hw)),fun hw=>fin _ _ ⟨undef,rfl⟩ (step.2 hw)⟩
theorem loose_spec {full:Array Oper} {m j:Nat} (h:loose full m j=true):∃o d t,full[m]?=some o∧o.dst=some d∧o.op=.alloc t∧∀k o',full[k]?=some o'→d∈looks full o'→tied full k j=true:=by
 unfold loose at h
 split at h
 ·rename_i o ho
  split at h
  ·rename_i d t hd hop
   refine ⟨o,d,t,ho,hd,hop,fun k o' hk hl=>?_⟩
   have hlt:k < full.size:=by
    rcases Nat.lt_or_ge k full.size with h' | h'
    ·exact h'
    ·rw [Array.getElem?_eq_none h'] at hk;simp at hk
   have:=List.all_eq_true.1 h k (by simpa using hlt)
   rw [hk] at this
   simp only at this
   have e:seesD full d o'=true:=by
    unfold seesD
    simp only [List.contains_iff_mem]
    exact hl
   rw [e] at this
   simpa using this
  ·simp at h
 ·simp at h
theorem inv2_early {E:Nat→Bool} {bk:Nat→Nat} (htr:TR P tab full F Hs v ts 0) (hi:i < full.size) {o:Oper} (ho:full[i]?=some o) (hok:dstOk N o.dst=true) (hSi:S i=false) (hT:∀m,T m=(S m || decide (m=i)))
 {j:Nat} (hlo:loose full i j=true) (hmk:ts i=.mk)
 (hagree:∀t∈looks full o,Am.get fm t=Am.get (F i) t)
 (hdst:∀d,o.dst=some d→∀j,S j=true→dstA full j≠some d)
 (hI:Inv2 full N w0 M (F 0) Hs v ts S E bk fm ρ a w) {R:Act→World→Prop} {Q:Exit→Act→World→Prop}
 (hK:∀fm' bk' a' w',Inv2 full N w0 M (F 0) Hs v ts T (fun m=>E m || decide (m=i)) bk' fm' ρ a' w'→R a' w') :
 (Region.wanted o (yielded full a.tmps)=true→o.wp P a w R Q)∧(Region.wanted o (yielded full a.tmps)=false→R (a.put o.dst undef) w):=by
 obtain ⟨o',ho',hgv,_⟩:=htr.step i (Nat.zero_le _) hi
 obtain rfl:o=o':=by rw [ho] at ho';simpa using ho'
 obtain ⟨o'',d,t,ho'',hd,hop,_⟩:=loose_spec hlo
 obtain rfl:o=o'':=by rw [ho] at ho'';simpa using ho''
 have hvs:=looks_ops hagree
 have hEi:E i=false:=by
  cases h:E i with
  | false=>rfl
  | true=>have:=(hI.sub i h).2.1;rw [hSi] at this;simp at this
 rw [hmk] at hgv
 generalize hvi:v i=vi at hgv
 generalize hHi:Hs (i+1)=Hn at hgv
 generalize hti:Tc.mk=ti at hgv
 cases hgv with
 | no=>simp at hti
 | go _ _ hg1 h =>
   refine ⟨fun _=>?_,fun hw=>?_⟩
   rotate_left
   ·exfalso
    rcases hg1 with hg1 | ⟨j,q,hg1,h2⟩
    ·simp [Region.wanted,hg1] at hw
    ·have hy:=gval_spec (by rw [looks_g hagree j q hg1];exact h2) hI.inv.st.fr
     simp [Region.wanted,hg1,hy] at hw
   have hk:=tcx_mk hti.symm
   rw [astep_eop (.inl hk),hop] at h
   simp only [opnds,List.map_nil,eop] at h
   split at h <;> simp at h
   rename_i z hz
   obtain ⟨rfl,rfl⟩:=h
   obtain ⟨zv,zc,h1,h2,h3⟩:=zero_rel (ρ:=ρ) hz w
   have hrun:(execOp a.eval o).run P w=.ok (.value (.pointer (some ⟨w.heap.size,0,none⟩))) (w.alloc (.cells zc.toArray t)):=by
    simp only [execOp,hop,Instr.alloc,Sem.run_bind,h1,Result.andThen_ok,newVar,newRow,h2,run_newObj,Sem.run_pure];rfl
   simp only [Oper.wp,hrun,Oper.upon]
   have hS:(fun m=>T m && !(E m || decide (m=i)))=fun m=>S m && !E m:=by
    funext m
    rw [hT]
    by_cases h:m=i
    ·subst h;simp [hSi]
    ·simp [h]
   have hka:Keep w (fun _=>False) (w.alloc (.cells zc.toArray t)):=Keep.alloc (keep_0 w) _ _
   have hst:St N w0 M ρ fm (hp ts Hs (fun m=>S m && !E m) full.size) a (w.alloc (.cells zc.toArray t)) :=
    ⟨hI.inv.st.fr,hI.inv.st.sz,hI.inv.st.df,hI.inv.st.hr.keep hka,hI.inv.st.kp.trans hka,hI.inv.st.ow,hI.inv.st.st⟩
   have hst2:=hst.put (d:=o.dst) (v:=.c .any) (vc:=.pointer (some ⟨w.heap.size,0,none⟩)) hok trivial
   refine hK (putA o.dst (.c .any) fm) (fun m=>if m=i then w.heap.size else bk m) _ _ ⟨?_,fun m hm=>?_,fun m hm=>?_,fun m n hm hn e=>?_⟩
   ·rw [hS]
    refine ⟨?_,hst2,hI.inv.un,hI.inv.sk⟩
    have hm0:Mix full (fun m=>if (E m || decide (m=i))=true then AV.c .any else v m) (F 0) (fun j=>S j=true) fm:=by
     intro s
     obtain ⟨g1,g2⟩:=hI.inv.mix s
     refine ⟨fun j hj hd=>?_,g2⟩
     rw [g1 j hj hd]
     have:j≠i:=by rintro rfl;have hj:S j=true:=hj;rw [hSi] at hj;simp at hj
     simp [this]
    have:=hm0.put ho hdst
    simp only [decide_true,Bool.or_true,if_true] at this
    intro s
    obtain ⟨g1,g2⟩:=this s
    exact ⟨fun j hj=>g1 j (by have hj:T j=true:=hj;rw [hT] at hj;simpa using hj),fun h=>g2 fun j hj=>h j (by show T j=true;rw [hT];simpa using hj)⟩
   ·by_cases e:m=i
    ·subst e;exact ⟨hi,by rw [hT];simp,hmk⟩
    ·simp only [e,decide_false,Bool.or_false] at hm
     obtain ⟨e1,e2,e3⟩:=hI.sub m hm
     exact ⟨e1,by rw [hT,e2];rfl,e3⟩
   ·rw [hS]
    by_cases e:m=i
    ·subst e
     rw [if_pos rfl]
     refine ⟨⟨d,z,zc,t,by simp [dstA,ho,hd],hvi,hHi,?_,alloc_new _ _,h3⟩,hI.inv.st.kp.size,fun p L hl hL hn=>?_⟩
     ·rw [hd] at hok ⊢
      simp [dstOk] at hok
      simp [Act.put,Array.getD_eq_getD_getElem?,hI.inv.st.sz,hok]
     ·have:=(hI.inv.st.hr.obj p).blk_lt hL hn hl
      omega
    ·simp only [e,decide_false,Bool.or_false] at hm
     rw [if_neg e]
     obtain ⟨e1,e2,e3⟩:=hI.sub m hm
     obtain ⟨⟨d',z',zc',t',g1,g2,g3,g4,g5,g6⟩,g7,g8⟩:=hI.ea m hm
     have hb:bk m < w.heap.size:=by
      rcases Nat.lt_or_ge (bk m) w.heap.size with h' | h'
      ·exact h'
      ·rw [Array.getElem?_eq_none h'] at g5;simp at g5
     refine ⟨⟨d',z',zc',t',g1,g2,g3,?_,?_,g6⟩,g7,g8⟩
     ·rw [put_ne fun h'=>hdst d' h' m e2 g1];exact g4
     ·rw [alloc_block _ _ _ hb];exact g5
   ·have lt:∀m,E m=true→bk m < w.heap.size:=by
     intro m hm
     obtain ⟨⟨d',z',zc',t',g1,g2,g3,g4,g5,g6⟩,g7,g8⟩:=hI.ea m hm
     rcases Nat.lt_or_ge (bk m) w.heap.size with h' | h'
     ·exact h'
     ·rw [Array.getElem?_eq_none h'] at g5;simp at g5
    by_cases em:m=i <;> by_cases en:n=i
    ·rw [em,en]
    ·simp only [en,decide_false,Bool.or_false] at hn
     simp only [em,en,if_true,if_false] at e
     have:=lt n hn;omega
    ·simp only [em,decide_false,Bool.or_false] at hm
     simp only [em,en,if_true,if_false] at e
     have:=lt m hm;omega
    ·simp only [en,decide_false,Bool.or_false] at hn
     simp only [em,decide_false,Bool.or_false] at hm
     simp only [em,en,if_false] at e
     exact hI.inj m n hm hn e
theorem HR.mapAt {H:AH} (h:HR ρ w H) {l:List Sc} {c:List Value} (hl:L2 (SRel ρ) l c) {t id b:Nat} (hid:id < H.length) (hr:ρ id=none) (hb:w.heap[b]?=some (.cells c.toArray t (0,0)))
 (hne:∀i L,(hg H i).live=true→ρ i=some L→L.nil=false→L.blk≠b):HR (upd ρ id ⟨b,0,0,0,false,false⟩) w (H.set id (.own l))∧Stab ρ (upd ρ id ⟨b,0,0,0,false,false⟩):=by
 have hst:Stab ρ (upd ρ id ⟨b,0,0,0,false,false⟩):=by
  intro i Li hi
  have:i≠id:=by rintro rfl;rw [hr] at hi;simp at hi
  exact ⟨Li,by rw [upd_ne _ _ this,hi],.inl rfl⟩
 refine ⟨⟨fun i=>?_,fun i j Li Lj hij hio hLi hni hjl hLj hnj=>?_,fun i hi=>?_⟩,hst⟩
 ·rw [hg_set _ _ _ _ hid]
  split
  ·subst_vars
   exact ⟨_,c,t,upd_same _ _ _,rfl,rfl,rfl,rfl,hb,hl.mono fun _ _ h=>h.mono hst⟩
  ·rename_i hne'
   exact (h.obj i).keep hst (upd_ne _ _ hne') (fun _ _ _ _=>rfl) (Nat.le_refl _)
 ·rw [hg_set _ _ _ _ hid] at hio hjl
  by_cases h1:i=id
  ·subst h1
   rw [upd_same] at hLi;simp at hLi;subst hLi
   have h2:j≠i:=fun e=>hij e.symm
   rw [if_neg h2] at hjl
   rw [upd_ne _ _ h2] at hLj
   exact fun e=>hne j Lj hjl hLj hnj e.symm
  ·rw [if_neg h1] at hio
   rw [upd_ne _ _ h1] at hLi
   by_cases h2:j=id
   ·subst h2
    rw [upd_same] at hLj;simp at hLj;subst hLj
    exact hne i Li (AObj.owned_live hio) hLi hni
   ·rw [if_neg h2] at hjl
    rw [upd_ne _ _ h2] at hLj
    exact h.sep i j Li Lj hij hio hLi hni hjl hLj hnj
 ·simp at hi
  rw [upd_ne _ _ (by omega)]
  exact h.fresh i (by omega)
theorem inv2_tell {E:Nat→Bool} {bk:Nat→Nat} (htf:TF full Hs ts) (hu:∀m n,m < full.size→n < full.size→∀d,dstA full m=some d→dstA full n=some d→m=n) {m:Nat} (hm:E m=true)
 (hlow:∀j,j < m→S j=false→ts j≠.bar∧∀A B,ts j≠.cl A B) (hhigh:∀j,m < j→S j=true→¬clash (ts j) .mk) (hbd:∀m,S m=true→m < full.size)
 (hI:Inv2 full N w0 M (F 0) Hs v ts S E bk fm ρ a w):∃fm' ρ',Inv2 full N w0 M (F 0) Hs v ts S (fun n=>E n && decide (n≠m)) bk fm' ρ' a w:=by
 obtain ⟨hms,hmS,hmk⟩:=hI.sub m hm
 obtain ⟨⟨d,z,zc,t,e1,e2,e3,e4,e5,e6⟩,e7,e8⟩:=hI.ea m hm
 have hlen:(Hs (m+1)).length=(Hs m).length+1:=by rw [e3];simp
 have hmx:=htf.lens (a:=m+1) (b:=full.size) (by omega) (Nat.le_refl _)
 have hS0:(S m && !E m)=false:=by simp [hm]
 have hT0:∀n,(S n && !(E n && decide (n≠m)))=((S n && !E n) || decide (n=m)):=by
  intro n
  by_cases h:n=m
  ·subst h;simp [hm,hmS]
  ·simp [h]
 have hput:=draw_put (T:=fun n=>S n && !(E n && decide (n≠m))) htf hms hS0 hT0 (fun j h1 h2=>by rw [hmk];exact hhigh j h1 (by simp at h2;exact h2.1)) hI.inv.sk
 have hid:(Hs m).length < (hp ts Hs (fun m=>S m && !E m) full.size).length:=by rw [hp_len];omega
 have hnone:ρ (Hs m).length=none:=hI.inv.un m hms hS0 _ (Nat.le_refl _) (by omega)
 have e2':hp ts Hs (fun n=>S n && !(E n && decide (n≠m))) full.size=(hp ts Hs (fun m=>S m && !E m) full.size).set (Hs m).length (.own z):=by
  refine hg_ext (by simp [hp_len]) fun p=>?_
  rw [hg_set _ _ _ _ hid,htf.hg_hp,htf.hg_hp,hput,hmk]
  simp only [gE]
  split
  ·subst_vars;rw [e3,hg_append,if_pos rfl]
  ·rfl
 obtain ⟨h1,h2⟩:=hI.inv.st.hr.mapAt e6 hid hnone e5 e8
 have hne:∀n,E n=true→n≠m→bk n≠bk m:=fun n hn h e=>h (hI.inj n m hn hm e)
 refine ⟨(d,v m)::fm,upd ρ (Hs m).length ⟨bk m,0,0,0,false,false⟩,⟨⟨fun s=>?_,?_,fun n hn hSn p g1 g2=>?_,fun n hn hSn id b k e j hj hSj=>?_⟩,fun n hn=>?_,fun n hn=>?_,fun n k hn hk=>hI.inj n k (by simp at hn;exact hn.1) (by simp at hk;exact hk.1)⟩⟩
 ·obtain ⟨g1,g2⟩:=hI.inv.mix s
  simp only [Am.get]
  refine ⟨fun j hj hjd=>?_,fun h=>?_⟩
  ·by_cases hds:d=s
   ·subst hds
    obtain rfl:=hu j m (hbd j hj) hms d hjd e1
    rw [if_pos rfl]
    simp
   ·rw [if_neg hds,g1 j hj hjd]
    have hjm:j≠m:=by rintro rfl;rw [e1] at hjd;simp at hjd;exact hds hjd
    simp [hjm]
  ·have:d≠s:=by rintro rfl;exact h m hmS e1
   rw [if_neg this];exact g2 h
 ·rw [e2']
  refine ⟨fun s=>?_,hI.inv.st.sz,hI.inv.st.df,h1,hI.inv.st.kp,fun p L hl hL hn=>?_,st_trans hI.inv.st.st h2⟩
  ·simp only [Am.get]
   split
   ·rename_i hds
    subst hds
    rw [e2,e4]
    exact ⟨_,_,upd_same _ _ _,rfl,Nat.le_refl _,fun _=>⟨rfl,by simp,rfl⟩⟩
   ·exact (hI.inv.st.fr s).mono h2
  ·rw [hg_set _ _ _ _ hid] at hl
   by_cases e:p=(Hs m).length
   ·subst e
    rw [upd_same] at hL;simp at hL;subst hL
    exact .inr e7
   ·rw [if_neg e] at hl
    rw [upd_ne _ _ e] at hL
    exact hI.inv.st.ow p L hl hL hn
 ·have hnm:n≠m:=by rintro rfl;rw [hT0] at hSn;simp at hSn
  have hSn0:(S n && !E n)=false:=by rw [hT0] at hSn;simpa [hnm] using hSn
  rw [upd_ne _ _ ?_]
  ·exact hI.inv.un n hn hSn0 p g1 g2
  ·rintro rfl
   rcases Nat.lt_or_ge n m with hlt | hge
   ·have:=htf.lens (a:=n+1) (b:=m) hlt (by omega);omega
   ·have:=htf.lens (a:=m+1) (b:=n) (by omega) (by omega);omega
 ·have hjm:(S j && !E j)=false:=by rw [hT0] at hSj;simp only [Bool.or_eq_false_iff] at hSj;exact hSj.1
  rw [hT0] at hSn
  by_cases hnm:n=m
  ·subst hnm;rw [hmk] at e;simp at e
  ·exact hI.inv.sk n hn (by simpa [hnm] using hSn) id b k e j hj hjm
 ·simp at hn;exact hI.sub n hn.1
 ·simp only [Bool.and_eq_true,decide_eq_true_eq] at hn
  obtain ⟨⟨d',z',zc',t',g1,g2,g3,g4,g5,g6⟩,g7,g8⟩:=hI.ea n hn.1
  rw [e2']
  refine ⟨⟨d',z',zc',t',g1,g2,g3,g4,g5,g6.mono fun _ _ h=>h.mono h2⟩,g7,fun p L hl hL hn'=>?_⟩
  rw [hg_set _ _ _ _ hid] at hl
  by_cases e:p=(Hs m).length
  ·subst e
   rw [upd_same] at hL;simp at hL;subst hL
   exact fun e=>hne n hn.1 hn.2 e.symm
  ·rw [if_neg e] at hl
   rw [upd_ne _ _ e] at hL
   exact g8 p L hl hL hn'
theorem inv2_fin {E E':Nat→Bool} {bk:Nat→Nat} (htf:TF full Hs ts) (hu:∀m n,m < full.size→n < full.size→∀d,dstA full m=some d→dstA full n=some d→m=n) (hbd:∀m,S m=true→m < full.size)
 (hsub:∀m,E' m=true→E m=true) (hlow:∀m,E m=true→E' m=false→∀j,j < m→S j=false→ts j≠.bar∧∀A B,ts j≠.cl A B)
 (hhigh:∀m,E m=true→∀j,m < j→S j=true→¬clash (ts j) .mk)
 (hI:Inv2 full N w0 M (F 0) Hs v ts S E bk fm ρ a w):∃fm' ρ',Inv2 full N w0 M (F 0) Hs v ts S E' bk fm' ρ' a w:=by
 have key:∀n,∃fm' ρ',Inv2 full N w0 M (F 0) Hs v ts S (fun m=>E m && (decide (n≤m) || E' m)) bk fm' ρ' a w:=by
  intro n
  induction n with
  | zero =>
    refine ⟨fm,ρ,?_⟩
    have:(fun m=>E m && (decide (0≤m) || E' m))=E:=by funext m;simp
    rw [this];exact hI
  | succ n ih =>
    obtain ⟨fm',ρ',h⟩:=ih
    by_cases hc:E n=true∧E' n=false
    ·obtain ⟨fm2,ρ2,h2⟩:=inv2_tell htf hu (m:=n) (by simp [hc.1]) (hlow n hc.1 hc.2) (hhigh n hc.1) hbd h
     refine ⟨fm2,ρ2,?_⟩
     have:(fun m=>E m && (decide (n+1≤m) || E' m))=fun k=>(E k && (decide (n≤k) || E' k)) && decide (k≠n):=by
      funext m
      by_cases e:m=n
      ·subst e;simp [hc.2]
      ·have:(n+1≤m) ↔ (n≤m):=by omega
       simp [e,this]
     rw [this];exact h2
    ·refine ⟨fm',ρ',?_⟩
     have:(fun m=>E m && (decide (n+1≤m) || E' m))=fun k=>(E k && (decide (n≤k) || E' k)):=by
      funext m
      by_cases e:m=n
      ·subst e
       cases h1:E m
       ·simp
       ·cases h2:E' m
        ·exact (hc ⟨h1,h2⟩).elim
        ·simp
      ·have:(n+1≤m) ↔ (n≤m):=by omega
       simp [this]
     rw [this];exact h
 obtain ⟨fm',ρ',h⟩:=key full.size
 refine ⟨fm',ρ',?_⟩
 have:E'=fun m=>E m && (decide (full.size≤m) || E' m):=by
  funext m
  cases h1:E' m
  ·cases h2:E m
   ·simp
   ·have:=(hI.sub m h2).1
    simp;omega
  ·simp [hsub m h1]
 rw [this];exact h
def Bl (ts:Nat→Tc) (S:Nat→Bool) (m:Nat):Prop:=∃j,j < m∧S j=false∧(ts j=.bar∨∃A B,ts j=.cl A B)
noncomputable def eS (full:Array Oper) (ts:Nat→Tc) (S:Nat→Bool):Nat→Bool:=fun m=>@decide (m < full.size∧S m=true∧ts m=.mk∧Bl ts S m) (Classical.propDecidable _)
theorem eS_spec {m:Nat}:eS full ts S m=true ↔ m < full.size∧S m=true∧ts m=.mk∧Bl ts S m:=by
 unfold eS;exact @decide_eq_true_iff _ (Classical.propDecidable _)
theorem okE_or {full:Array Oper} {m j:Nat} {t u:Tc} (h:okE full m j t u):tied full m j=true∨(t=.mk∧(∃A B,u=.cl A B∧nvw A B)∧loose full m j=true):=by
 unfold okE at h
 split at h
 ·rename_i A B
  by_cases hc:loose full m j=true∧nvw A B
  ·exact .inr ⟨rfl,⟨A,B,rfl,hc.2⟩,hc.1⟩
  ·exact .inl (h hc)
 ·exact .inl h
end step
theorem draw_any (ht:TabOk P tab) (hmix:P.follows .mixedOrders=true) (full:Array Oper) (hq:ddr full=true) (hok:opsOk N full.toList=true):DrawOk P tab N full:=by
 intro id w0 M ρ fr H a w k Q R hs hrun hK
 obtain ⟨F,Hs,v,ts,hF0,hH0,htr,_,hfin⟩:=dr_gives full.toList 0 [] fr H (Nat.zero_le _) rfl hrun
 have htf:=htr.tf ht
 have hdst:∀i o,full[i]?=some o→dstA full i=o.dst:=fun i o h=>by simp [dstA,h]
 subst hF0
 have htm:∀i,i≤full.size→Mix full v (F 0) (fun j=>j < i) (F i):=by
  intro i
  induction i with
  | zero=>intro _ s;exact ⟨fun j hj=>by omega,fun _=>rfl⟩
  | succ i ih =>
    intro hi
    obtain ⟨o,ho,_,e⟩:=htr.step i (Nat.zero_le _) (by omega)
    obtain ⟨_,hj⟩:=ddr_spec hq ho
    rw [e]
    have:=(ih (by omega)).put ho fun d hd j hji e=>(hj j (by omega) d e).1 (by omega) hd
    intro s
    obtain ⟨g1,g2⟩:=this s
    exact ⟨fun j hj'=>g1 j (by omega),fun h=>g2 fun j hj'=>h j (by omega)⟩
 refine wp_region_any hmix ?_
 have key:∀(fuel:Nat) (listed:Array Bool) (fm:Fr) (ρ:Ro) (a:Act) (w:World),listed.size=full.size→((List.range full.size).countP fun j=>!listed.getD j true)=fuel →
  (∀j o,full[j]?=some o→listed.getD j false=true→∀e∈o.after,Region.binds .any e=true→listed.getD e.on false=true) →
  ∀bk,Inv2 full N w0 M (F 0) Hs v ts (fun j=>listed.getD j false) (eS full ts fun j=>listed.getD j false) bk fm ρ a w→wpAny P .any full R fuel listed a w:=by
  intro fuel
  induction fuel with
  | zero =>
    intro listed fm ρ a w hsz hcnt hdown bk hI2
    have hall:∀j,j < full.size→listed.getD j false=true:=by
     intro j hj
     rw [List.countP_eq_zero] at hcnt
     have:=hcnt j (by simpa using hj)
     simp [Array.getD_eq_getD_getElem?,hsz,hj] at this ⊢
     exact this
    have hE:∀m,eS full ts (fun j=>listed.getD j false) m=false:=by
     intro m
     cases h:eS full ts (fun j=>listed.getD j false) m with
     | false=>rfl
     | true =>
       obtain ⟨h1,_,_,j,h2,h3,_⟩:=eS_spec.1 h
       have h3:listed.getD j false=false:=h3
       rw [hall j (by omega)] at h3;simp at h3
    have hI:Inv full N w0 M (F 0) Hs v ts (fun j=>listed.getD j false) (fun j=>listed.getD j false) fm ρ a w:=by
     have:=hI2.inv
     simp only [hE,Bool.not_false,Bool.and_true,Bool.false_eq_true,if_false] at this
     exact this
    refine ⟨?_,?_⟩
    ·unfold Region.ready
     rw [List.filter_eq_nil_iff]
     intro j hj
     have:=hall j (by simpa using hj)
     have hj':j < full.size:=by simpa using hj
     simp [Array.getD_eq_getD_getElem?,hsz,hj'] at this ⊢
     simp [this]
    ·have hst:St N w0 M ρ fm (Hs full.size) a w:=by
      refine hI.st.cast (fun p=>?_) fun p hp=>hI.st.hr.fresh p (by rw [hp_len];exact hp)
      rw [htf.hg_hp]
      have e:=htf.val_text (i:=full.size) p full.size (Nat.le_refl _)
      rw [Nat.min_self] at e
      rw [←e]
      exact val_eq full.size fun m hm hne=>(hne (by rw [hall m hm];simp [hm])).elim
     refine hK _ _ hfin ρ a w ⟨fun s=>?_,hst.sz,hst.df,hst.hr,hst.kp,hst.ow,hst.st⟩
     have:=hI.mix.get_eq (htm full.size (Nat.le_refl _)) (S':=fun j=>j < full.size) (fun j=>⟨fun h=>by
      rcases Nat.lt_or_ge j full.size with h' | h'
      ·exact h'
      ·simp [Array.getD_eq_getD_getElem?,Array.getElem?_eq_none (show listed.size≤j by omega)] at h,fun h=>hall j h⟩) s
     rw [←this];exact hst.fr s
  | succ fuel ih =>
    intro listed fm ρ a w hsz hcnt hdown bk hI
    have hbd:∀j,listed.getD j false=true→j < full.size:=by
     intro j h
     rcases Nat.lt_or_ge j full.size with h' | h'
     ·exact h'
     ·simp [Array.getD_eq_getD_getElem?,Array.getElem?_eq_none (show listed.size≤j by omega)] at h
    refine ⟨fun hnil=>?_,fun i hi=>?_⟩
    ·
     exfalso
     have hex:∃j,j < full.size∧listed.getD j false=false:=by
      have:0 < (List.range full.size).countP fun j=>!listed.getD j true:=by omega
      obtain ⟨j,hj,hp⟩:=List.countP_pos_iff.1 this
      have hj':j < full.size:=by simpa using hj
      exact ⟨j,hj',by simp [Array.getD_eq_getD_getElem?,hsz,hj'] at hp ⊢;exact hp⟩
     obtain ⟨j,⟨hj,hjl⟩,hmin⟩:∃j,(j < full.size∧listed.getD j false=false)∧∀i,i < j→¬(i < full.size∧listed.getD i false=false):=by
      obtain ⟨j0,hj0⟩:=hex
      induction j0 using Nat.strongRecOn with
      | _ j0 ihj =>
        by_cases hx:∃i,i < j0∧(i < full.size∧listed.getD i false=false)
        ·obtain ⟨i,h1,h2⟩:=hx;exact ihj i h1 h2
        ·exact ⟨j0,hj0,fun i hi hc=>hx ⟨i,hi,hc⟩⟩
     have hmem:j∈Region.ready .any full listed:=by
      unfold Region.ready
      rw [List.mem_filter]
      refine ⟨by simpa using hj,?_⟩
      obtain ⟨o,ho⟩:∃o,full[j]?=some o:=⟨full[j],by simp⟩
      obtain ⟨hed,_⟩:=ddr_spec hq ho
      have h1:listed.getD j true=false:=by simp [Array.getD_eq_getD_getElem?,hsz,hj] at hjl ⊢;exact hjl
      simp only [h1,Bool.not_false,Bool.true_and,ho,Option.map_some,Option.getD_some]
      rw [Array.all_eq_true']
      intro e he
      by_cases hb:Region.binds .any e=true
      ·have hlt:=hed e he hb
       have:=hmin e.on hlt
       have:listed.getD e.on false=true:=by
        cases hh:listed.getD e.on false with
        | true=>rfl
        | false=>exact (this ⟨by omega,hh⟩).elim
       simp [this]
      ·simp at hb;simp [hb]
     rw [hnil] at hmem;simp at hmem
    ·unfold Region.ready at hi
     rw [List.mem_filter] at hi
     obtain ⟨hir,hip⟩:=hi
     have hilt:i < full.size:=by simpa using hir
     obtain ⟨o,ho⟩:∃o,full[i]?=some o:=⟨full[i],by simp⟩
     simp only [Bool.and_eq_true,Bool.not_eq_true',ho,Option.map_some,Option.getD_some] at hip
     obtain ⟨hil,hie⟩:=hip
     have hil':listed.getD i false=false:=by simp [Array.getD_eq_getD_getElem?,hsz,hilt] at hil ⊢;exact hil
     have hedges:∀e∈o.after,Region.binds .any e=true→listed.getD e.on false=true:=by
      intro e he hb
      have:=Array.all_eq_true'.1 hie e he
      simpa [hb] using this
     obtain ⟨hed,hj⟩:=ddr_spec hq ho
     have hmt:∀m b,b < m→m < full.size→listed.getD m false=true→listed.getD b false=false→clash (ts m) (ts b)→ts m=.mk∧(∃A B,ts b=.cl A B∧nvw A B)∧loose full m b=true:=by
      intro m b hbm hm hlm hlb hc
      rcases okE_or (htr.tie m b (Nat.zero_le _) hbm hm hc) with h | h
      ·have:=tied_spec (S:=fun j=>listed.getD j false=true) hdown h hlm
       rw [hlb] at this;simp at this
      ·exact h
     have hit:∀b,b < i→listed.getD b false=false→tied full i b=true→False:=by
      intro b hbi hlb h
      have:=tied_spec (S:=fun j=>listed.getD j false=true∨j=i) (fun j oj hoj hSj e he hb=>?_) h (.inr rfl)
      ·rcases this with h | h
       ·rw [hlb] at h;simp at h
       ·omega
      ·rcases hSj with h | rfl
       ·exact .inl (hdown j oj hoj h e he hb)
       ·rw [ho] at hoj;simp at hoj;subst hoj;exact .inl (hedges e he hb)
     have hEb:∀m,eS full ts (fun j=>listed.getD j false) m=true→∃b,b < m∧listed.getD b false=false∧(∃A B,ts b=.cl A B)∧loose full m b=true:=by
      intro m hm
      obtain ⟨h1,h2,h3,b,h4,h5,h6⟩:=eS_spec.1 hm
      have hc:clash (ts m) (ts b):=by
       rw [h3];rcases h6 with h6 | ⟨A,B,h6⟩ <;> rw [h6] <;> simp [clash]
      obtain ⟨_,⟨A,B,e,_⟩,h7⟩:=hmt m b h4 h1 h2 h5 hc
      exact ⟨b,h4,h5,⟨A,B,e⟩,h7⟩
     have hagree:∀t∈looks full o,Am.get fm t=Am.get (F i) t:=by
      intro t hlt
      by_cases hx:∃j,j < full.size∧dstA full j=some t
      ·obtain ⟨j,hjs,hjd⟩:=hx
       obtain ⟨_,h3⟩:=hj j hjs t hjd
       obtain ⟨hne,hlow,hhigh⟩:=h3 hlt
       rcases Nat.lt_or_ge j i with hji | hji
       ·obtain ⟨o',ho',e,he,hon,hb⟩:=edge_spec (hlow hji)
        rw [ho] at ho';simp at ho';subst ho'
        have hlj:listed.getD j false=true:=by rw [←hon];exact hedges e he hb
        have hEj:eS full ts (fun j=>listed.getD j false) j=false:=by
         cases h:eS full ts (fun j=>listed.getD j false) j with
         | false=>rfl
         | true =>
           exfalso
           obtain ⟨b,h4,h5,_,h7⟩:=hEb j h
           obtain ⟨oj,d,_,g1,g2,_,g3⟩:=loose_spec h7
           have:d=t:=by rw [hdst j oj g1,g2] at hjd;simpa using hjd
           subst this
           exact hit b (by omega) h5 (g3 i o ho hlt)
        rw [(hI.inv.mix t).1 j hlj hjd,(htm i (by omega) t).1 j hji hjd,hEj]
        simp
       ·obtain ⟨o',ho',e,he,hon,hb⟩:=edge_spec (hhigh (by omega))
        have uniq:∀m,m < full.size→dstA full m=some t→m=j:=by
         intro m hms hmd
         rcases Nat.decEq m j with h | h
         ·obtain ⟨om,hom⟩:∃om,full[m]?=some om:=⟨full[m],by simp⟩
          obtain ⟨_,hjm⟩:=ddr_spec hq hom
          exact ((hjm j hjs t hjd).1 h (by rw [←hdst m om hom,hmd])).elim
         ·exact h
        have hnl:¬listed.getD j false=true:=by
         intro hl
         have:=hdown j o' ho' hl e he hb
         rw [hon,hil'] at this;simp at this
        rw [(hI.inv.mix t).2 (fun m hml hmd=>hnl (by rw [←uniq m (hbd m hml) hmd];exact hml)),
         (htm i (by omega) t).2 (fun m hmi hmd=>by have:=uniq m (by omega) hmd;omega)]
      ·have hno:∀j,j < full.size→dstA full j≠some t:=fun j hj e=>hx ⟨j,hj,e⟩
       rw [(hI.inv.mix t).2 (fun j hjl=>hno j (hbd j hjl)),(htm i (by omega) t).2 (fun j hji=>hno j (by omega))]
     have hok':dstOk N o.dst=true:=by
      have:=List.all_eq_true.1 hok o (by rw [←Array.getElem?_toList] at ho;exact List.mem_of_getElem? ho)
      exact this
     have hlisted:∀j,(listed.setIfInBounds i true).getD j false=(listed.getD j false || decide (j=i)):=by
      intro j
      simp only [Array.getD_eq_getD_getElem?,Array.getElem?_setIfInBounds]
      by_cases hji:i=j
      ·subst hji;simp [hsz,hilt]
      ·rw [if_neg hji,decide_eq_false (fun e:j=i=>hji e.symm),Bool.or_false]
     have hcnt':((List.range full.size).countP fun j=>!(listed.setIfInBounds i true).getD j true)=fuel:=by
      have hc:=(count_one (fun j=>!listed.getD j true) (fun j=>!(listed.setIfInBounds i true).getD j true) i (by simp only [hil,Bool.not_false]) (by simp [Array.getD_eq_getD_getElem?,hsz,hilt]) (fun j hji=>by
       simp only [Array.getD_eq_getD_getElem?,Array.getElem?_setIfInBounds]
       rw [if_neg (fun e=>hji e.symm)]) full.size).1 hilt
      omega
     have hdown':∀j o,full[j]?=some o→(listed.setIfInBounds i true).getD j false=true→∀e∈o.after,Region.binds .any e=true→(listed.setIfInBounds i true).getD e.on false=true:=by
      intro j oj hoj hlj e he hb
      rw [hlisted] at hlj ⊢
      simp only [Bool.or_eq_true,decide_eq_true_eq] at hlj ⊢
      rcases hlj with hlj | rfl
      ·exact .inl (hdown j oj hoj hlj e he hb)
      ·rw [ho] at hoj;simp at hoj;subst hoj
       exact .inl (hedges e he hb)
     have huniq:∀m n,m < full.size→n < full.size→∀d,dstA full m=some d→dstA full n=some d→m=n:=by
      intro m n hm hn d h1 h2
      rcases Nat.decEq m n with h | h
      ·obtain ⟨om,hom⟩:∃om,full[m]?=some om:=⟨full[m],by simp⟩
       obtain ⟨_,hjm⟩:=ddr_spec hq hom
       exact ((hjm n hn d h2).1 h (by rw [←hdst m om hom,h1])).elim
      ·exact h
     have hds:∀d,o.dst=some d→∀j,listed.getD j false=true→dstA full j≠some d :=
      fun d hd j hjl e=>(hj j (hbd j hjl) d e).1 (by rintro rfl;simp only [hil'] at hjl;simp at hjl) hd
     have hstep:(Region.wanted o (yielded full a.tmps)=true→o.wp P a w (wpAny P .any full R fuel (listed.setIfInBounds i true)) R)∧(Region.wanted o (yielded full a.tmps)=false→wpAny P .any full R fuel (listed.setIfInBounds i true) (a.put o.dst undef) w):=by
      by_cases hearly:ts i=.mk∧Bl ts (fun j=>listed.getD j false) i
      ·
       obtain ⟨hmk,b,hb,hlb,hcl⟩:=hearly
       have hlb:listed.getD b false=false:=hlb
       have hc:clash (ts i) (ts b):=by
        rw [hmk];rcases hcl with h6 | ⟨A,B,h6⟩ <;> rw [h6] <;> simp [clash]
       have hlo:loose full i b=true:=by
        rcases okE_or (htr.tie i b (Nat.zero_le _) hb hilt hc) with h | h
        ·exact (hit b hb hlb h).elim
        ·exact h.2.2
       refine inv2_early (T:=fun j=>(listed.setIfInBounds i true).getD j false) htr hilt ho hok' hil' hlisted hlo hmk hagree hds hI fun fm' bk' a' w' hI'=>?_
       refine ih _ fm' ρ a' w' (by simpa using hsz) hcnt' hdown' bk' ?_
       have:(eS full ts fun j=>(listed.setIfInBounds i true).getD j false)=fun m=>eS full ts (fun j=>listed.getD j false) m || decide (m=i):=by
        funext m
        rw [Bool.eq_iff_iff,Bool.or_eq_true,eS_spec,eS_spec,decide_eq_true_eq]
        have hbl:Bl ts (fun j=>(listed.setIfInBounds i true).getD j false) m ↔ Bl ts (fun j=>listed.getD j false) m:=by
         constructor
         ·rintro ⟨j,h1,h2,h3⟩
          have h2:(listed.setIfInBounds i true).getD j false=false:=h2
          rw [hlisted] at h2
          exact ⟨j,h1,(Bool.or_eq_false_iff.1 h2).1,h3⟩
         ·rintro ⟨j,h1,h2,h3⟩
          have h2:listed.getD j false=false:=h2
          refine ⟨j,h1,?_,h3⟩
          show (listed.setIfInBounds i true).getD j false=false
          rw [hlisted,h2]
          have:j≠i:=by rintro rfl;rw [hmk] at h3;simp at h3
          simp [this]
        constructor
        ·rintro ⟨h1,h2,h3,h4⟩
         have h2:(listed.setIfInBounds i true).getD m false=true:=h2
         rw [hlisted] at h2
         simp only [Bool.or_eq_true,decide_eq_true_eq] at h2
         rcases h2 with h2 | h2
         ·exact .inl ⟨h1,h2,h3,hbl.1 h4⟩
         ·exact .inr h2
        ·rintro (⟨h1,h2,h3,h4⟩ | rfl)
         ·have h2:listed.getD m false=true:=h2
          exact ⟨h1,by show (listed.setIfInBounds i true).getD m false=true;rw [hlisted,h2];rfl,h3,hbl.2 h4⟩
         ·exact ⟨hilt,by show (listed.setIfInBounds m true).getD m false=true;rw [hlisted];simp,hmk,hbl.2 ⟨b,hb,hlb,hcl⟩⟩
       rw [this];exact hI'
      ·
       have hEc:∀m,eS full ts (fun j=>listed.getD j false) m=true→∀j,m < j→j < full.size→(listed.getD j false=true∨j=i)→clash (ts j) .mk→False:=by
        intro m hm j hmj hj hlj hc
        obtain ⟨b,h4,h5,⟨A,B,h6⟩,_⟩:=hEb m hm
        have hc2:clash (ts j) (ts b):=by
         rw [h6];cases hh:ts j <;> rw [hh] at hc <;> simp [clash] at hc ⊢
        have hnm:ts j≠.mk:=by intro h;rw [h] at hc;simp [clash] at hc
        rcases hlj with hlj | rfl
        ·exact hnm (hmt j b (by omega) hj hlj h5 hc2).1
        ·rcases okE_or (htr.tie j b (Nat.zero_le _) (by omega) hilt hc2) with h | h
         ·exact hit b (by omega) h5 h
         ·exact hnm h.1
       have hlow:∀m,m < i→(listed.getD m false && !eS full ts (fun j=>listed.getD j false) m)=false→¬clash (ts i) (ts m):=by
        intro m hm hmf hc
        cases hlm:listed.getD m false with
        | false =>
          rcases okE_or (htr.tie i m (Nat.zero_le _) hm hilt hc) with h | ⟨h1,⟨A,B,h2,_⟩,_⟩
          ·exact hit m hm hlm h
          ·exact hearly ⟨h1,m,hm,hlm,.inr ⟨A,B,h2⟩⟩
        | true =>
          rw [hlm] at hmf
          have hE:eS full ts (fun j=>listed.getD j false) m=true:=by simpa using hmf
          have:=(eS_spec.1 hE).2.2.1
          rw [this] at hc
          exact hEc m hE i hm hilt (.inr rfl) hc
       have hhigh:∀m,i < m→(listed.getD m false && !eS full ts (fun j=>listed.getD j false) m)=true→¬clash (ts m) (ts i):=by
        intro m hm hmt' hc
        simp only [Bool.and_eq_true,Bool.not_eq_true'] at hmt'
        obtain ⟨h1,⟨A,B,h2,_⟩,_⟩:=hmt m i hm (hbd m hmt'.1) hmt'.1 hil' hc
        have:eS full ts (fun j=>listed.getD j false) m=true:=eS_spec.2 ⟨hbd m hmt'.1,hmt'.1,h1,i,hm,hil',.inr ⟨A,B,h2⟩⟩
        rw [this] at hmt';simp at hmt'
       have hnv:∀A B,ts i=.cl A B→(∃m,eS full ts (fun j=>listed.getD j false) m=true)→nvw A B:=by
        rintro A B hti ⟨m,hm⟩
        obtain ⟨h1,h2,h3,_⟩:=eS_spec.1 hm
        rcases Nat.lt_trichotomy m i with h | h | h
        ·exact (hEc m hm i h hilt (.inr rfl) (by rw [hti];trivial)).elim
        ·subst h;rw [hti] at h3;simp at h3
        ·obtain ⟨_,⟨A',B',e,hn⟩,_⟩:=hmt m i h h1 h2 hil' (by rw [h3,hti];trivial)
         rw [hti] at e;simp at e;obtain ⟨rfl,rfl⟩:=e;exact hn
       refine inv2_step (T:=fun j=>(listed.setIfInBounds i true).getD j false) ht htr hilt ho hok' hil' hlisted hbd hagree hlow hhigh hds hnv hI fun fm' ρ' a' w' hI'=>?_
       have hsub:∀m,eS full ts (fun j=>(listed.setIfInBounds i true).getD j false) m=true→eS full ts (fun j=>listed.getD j false) m=true:=by
        intro m hm
        obtain ⟨h1,h2,h3,j,h4,h5,h6⟩:=eS_spec.1 hm
        have h2:(listed.setIfInBounds i true).getD m false=true:=h2
        have h5:(listed.setIfInBounds i true).getD j false=false:=h5
        rw [hlisted] at h2 h5
        simp only [Bool.or_eq_false_iff] at h5
        simp only [Bool.or_eq_true,decide_eq_true_eq] at h2
        rcases h2 with h2 | rfl
        ·exact eS_spec.2 ⟨h1,h2,h3,j,h4,h5.1,h6⟩
        ·exact (hearly ⟨h3,j,h4,h5.1,h6⟩).elim
       have f1:∀m,(listed.setIfInBounds i true).getD m false=true→m < full.size:=by
        intro m hm
        rw [hlisted] at hm
        simp only [Bool.or_eq_true,decide_eq_true_eq] at hm
        rcases hm with hm | rfl
        ·exact hbd m hm
        ·exact hilt
       have f2:∀m,eS full ts (fun j=>listed.getD j false) m=true→eS full ts (fun j=>(listed.setIfInBounds i true).getD j false) m=false→∀j,j < m→(listed.setIfInBounds i true).getD j false=false→ts j≠.bar∧∀A B,ts j≠.cl A B:=by
        intro m hm hm' j hjm hlj
        obtain ⟨h1,h2,h3,_⟩:=eS_spec.1 hm
        have key:¬(ts j=.bar∨∃A B,ts j=.cl A B):=by
         intro h
         have:eS full ts (fun j=>(listed.setIfInBounds i true).getD j false) m=true:=by
          refine eS_spec.2 ⟨h1,?_,h3,j,hjm,hlj,h⟩
          have h2:listed.getD m false=true:=h2
          show (listed.setIfInBounds i true).getD m false=true
          rw [hlisted,h2];rfl
         rw [this] at hm';simp at hm'
        exact ⟨fun h=>key (.inl h),fun A B h=>key (.inr ⟨A,B,h⟩)⟩
       have f3:∀m,eS full ts (fun j=>listed.getD j false) m=true→∀j,m < j→(listed.setIfInBounds i true).getD j false=true→¬clash (ts j) .mk:=by
        intro m hm j hmj hlj hc
        have hjs:=f1 j hlj
        rw [hlisted] at hlj
        simp only [Bool.or_eq_true,decide_eq_true_eq] at hlj
        exact hEc m hm j hmj hjs hlj hc
       obtain ⟨fm2,ρ2,h2⟩:=inv2_fin (E':=eS full ts fun j=>(listed.setIfInBounds i true).getD j false) htf huniq f1 hsub f2 f3 hI'
       exact ih _ fm2 ρ2 a' w' (by simpa using hsz) hcnt' hdown' bk h2
     unfold wpOp
     rw [ho]
     simp only
     cases hw:Region.wanted o (yielded full a.tmps) with
     | true=>rw [if_pos rfl];exact .inl (hstep.1 hw)
     | false=>rw [if_neg (by simp)];exact hstep.2 hw
 have hst0:St N w0 M ρ (F 0) H a {w with drawn:=w.drawn+1}:=⟨hs.fr,hs.sz,hs.df,hs.hr.drew,hs.kp.drew,hs.ow,hs.st⟩
 have hnone:∀j,(Array.replicate full.size false).getD j false=false:=by
  intro j
  simp only [Array.getD_eq_getD_getElem?,Array.getElem?_replicate]
  split <;> rfl
 have hE0:∀m,eS full ts (fun j=>(Array.replicate full.size false).getD j false) m=false:=by
  intro m
  cases h:eS full ts (fun j=>(Array.replicate full.size false).getD j false) m with
  | false=>rfl
  | true =>
    obtain ⟨_,h1,_⟩:=eS_spec.1 h
    have h1:(Array.replicate full.size false).getD m false=true:=h1
    rw [hnone] at h1;simp at h1
 have hI0:Inv full N w0 M (F 0) Hs v ts (fun j=>(Array.replicate full.size false).getD j false) (fun j=>(Array.replicate full.size false).getD j false) (F 0) ρ a {w with drawn:=w.drawn+1}→Inv2 full N w0 M (F 0) Hs v ts (fun j=>(Array.replicate full.size false).getD j false) (eS full ts fun j=>(Array.replicate full.size false).getD j false) (fun _=>0) (F 0) ρ a {w with drawn:=w.drawn+1}:=by
  intro h
  refine ⟨?_,fun m hm=>?_,fun m hm=>?_,fun m n hm=>?_⟩
  ·simp only [hE0,Bool.not_false,Bool.and_true,Bool.false_eq_true,if_false];exact h
  ·rw [hE0] at hm;simp at hm
  ·rw [hE0] at hm;simp at hm
  ·rw [hE0] at hm;simp at hm
 refine key full.size (Array.replicate full.size false) (F 0) ρ a _ (by simp) ?_ ?_ (fun _=>0) (hI0 ⟨?_,?_,?_,?_⟩)
 ·rw [List.countP_eq_length.2]
  ·simp
  ·intro j hj
   have hj':j < full.size:=by simpa using hj
   simp [Array.getD_eq_getD_getElem?,hj']
 ·intro j o ho hl
  rw [hnone] at hl;simp at hl
 ·intro s
  refine ⟨fun j hj=>?_,fun _=>rfl⟩
  have hj:(Array.replicate full.size false).getD j false=true:=hj
  rw [hnone] at hj;simp at hj
 ·refine hst0.cast (fun p=>?_) fun p hp=>?_
  ·rw [htf.hg_hp,←hH0]
   have e:=htf.val_text (i:=0) p full.size (Nat.le_refl _)
   rw [Nat.zero_min] at e
   rw [←e]
   exact val_eq full.size fun m hm hne=>(hne (by rw [hnone];simp)).elim
  ·rw [hp_len] at hp
   have:=htf.lens (a:=0) (b:=full.size) (Nat.zero_le _) (Nat.le_refl _)
   exact hs.hr.fresh p (by rw [←hH0];omega)
 ·intro m hm _ p h1 _
  have:=htf.lens (a:=0) (b:=m) (Nat.zero_le _) (by omega)
  exact hs.hr.fresh p (by rw [←hH0];omega)
 ·intro m hm hS
  rw [hnone] at hS;simp at hS
end Go.Am
set_option linter.unusedSimpArgs false
set_option linter.unusedVariables false
/- States that are covered by others; contracts, ready to use. -/
set_option maxRecDepth 100000
set_option maxHeartbeats 8000000
namespace Go.Am
variable {P:Program} {tab:Tab}
def Sc.bel (n:Nat):Sc→Bool
 | .p id _ _=>decide (id < n)
 | .sl id _ _ _=>decide (id < n)
 | .mp id=>decide (id < n)
 | .f _ cs=>cs.all fun c=>decide (c.1 < n)
 | _=>true
def AV.bel (n:Nat):AV→Bool
 | .c s=>s.bel n
 | .g l=>l.all (Sc.bel n)
 | .t l=>l.all fun x=>match x with | .c s=>s.bel n | .g l=>l.all (Sc.bel n) | .t _=>true
def cut (ρ:Ro) (n:Nat):Ro:=fun i=>if i < n then ρ i else none
theorem PRel.cut {ρ:Ro} {id off ver n:Nat} {v:Value} (h:PRel ρ id off ver v) (hb:id < n):PRel (cut ρ n) id off ver v:=by
 obtain ⟨L,a,h1,h2⟩:=h;exact ⟨L,a,by simp [Am.cut,hb,h1],h2⟩
theorem SRel.cut {ρ:Ro} {s:Sc} {v:Value} {n:Nat} (h:SRel ρ s v) (hb:s.bel n=true):SRel (Am.cut ρ n) s v:=by
 cases s <;> try exact h
 ·exact PRel.cut h (by simpa [Sc.bel] using hb)
 ·rename_i id off ver len
  obtain ⟨L,b,c,h1,h2⟩:=h
  refine ⟨L,b,c,?_,h2⟩
  have:id < n:=by simpa [Sc.bel] using hb
  simp [Am.cut,this,h1]
 ·obtain ⟨cv,h1,h2⟩:=h
  refine ⟨cv,h1,?_⟩
  simp only [Sc.bel] at hb
  clear h1
  induction h2 with
  | nil=>exact .nil
  | cons h _ ih=>simp only [List.all_cons,Bool.and_eq_true,decide_eq_true_eq] at hb;exact .cons (PRel.cut h hb.1) (ih hb.2)
 ·rename_i id
  obtain ⟨L,b,h1,h2⟩:=h
  have:id < n:=by simpa [Sc.bel] using hb
  exact ⟨L,b,by simp [Am.cut,this,h1],h2⟩
theorem L2.cut {ρ:Ro} {n:Nat} {l:List Sc} {c:List Value} (h:L2 (SRel ρ) l c) (hb:l.all (Sc.bel n)=true):L2 (SRel (Am.cut ρ n)) l c:=by
 induction h with
 | nil=>exact .nil
 | cons h _ ih=>simp only [List.all_cons,Bool.and_eq_true] at hb;exact .cons (h.cut hb.1) (ih hb.2)
theorem VRel.cut {ρ:Ro} {n:Nat} {x:AV} {v:Value} (h:VRel ρ x v) (hb:x.bel n=true):VRel (Am.cut ρ n) x v:=by
 cases x with
 | c s=>exact SRel.cut h hb
 | g l=>obtain ⟨cs,h1,h2⟩:=h;exact ⟨cs,h1,h2.cut hb⟩
 | t l =>
   obtain ⟨vs,h1,h2⟩:=h
   refine ⟨vs,h1,?_⟩
   simp only [AV.bel] at hb
   clear h1
   induction h2 with
   | nil=>exact .nil
   | @cons a b l m h _ ih =>
     simp only [List.all_cons,Bool.and_eq_true] at hb
     refine .cons ?_ (ih hb.2)
     cases a with
     | c s=>exact SRel.cut h hb.1
     | g l=>obtain ⟨cs,h1,h2⟩:=h;exact ⟨cs,h1,h2.cut hb.1⟩
     | t l=>exact h
theorem V1.cut {ρ:Ro} {n:Nat} {x:AV} {v:Value} (h:V1 ρ x v) (hb:x.scs.all (Sc.bel n)=true):V1 (Am.cut ρ n) x v:=by
 cases x with
 | c s=>simp only [AV.scs,List.all_cons,List.all_nil,Bool.and_true] at hb;exact SRel.cut h hb
 | g l=>obtain ⟨cs,h1,h2⟩:=h;exact ⟨cs,h1,h2.cut hb⟩
 | t l=>exact h.elim
theorem ORel.cut {ρ:Ro} {w:World} {i n:Nat} {o:AObj} (h:ORel ρ w i o) (hi:i < n) (hb:o.scs.all (Sc.bel n)=true):ORel (Am.cut ρ n) w i o:=by
 have hc:Am.cut ρ n i=ρ i:=by simp [Am.cut,hi]
 cases o with
 | own cs=>obtain ⟨L,c,t,h1,h2,h3,h4,h5,h6,h7⟩:=h;exact ⟨L,c,t,by rw [hc,h1],h2,h3,h4,h5,h6,h7.cut hb⟩
 | vec sz cs =>
   obtain ⟨L,h1,h2,h3,h4,h5,h6⟩:=h
   refine ⟨L,by rw [hc,h1],h2,h3,h4,h5,?_⟩
   split
   ·rename_i hn;rw [if_pos hn] at h6;exact h6
   ·rename_i hn;rw [if_neg hn] at h6
    obtain ⟨c,d,t,h7,h8,h9⟩:=h6
    exact ⟨c,d,t,h7,h8,h9.cut hb⟩
 | view cs =>
   obtain ⟨L,h1,h2,h3,h4,h5,h6⟩:=h
   refine ⟨L,by rw [hc,h1],h2,h3,h4,h5,fun j s hjs=>?_⟩
   obtain ⟨v,h7,h8⟩:=h6 j s hjs
   exact ⟨v,h7,h8.cut (List.all_eq_true.1 hb s (List.mem_of_getElem? hjs))⟩
 | map clk es =>
   obtain ⟨L,ems,h1,h2,h3,h4,h5,h6,h7⟩:=h
   refine ⟨L,ems,by rw [hc,h1],h2,h3,h4,h5,h6,?_⟩
   simp only [AObj.scs] at hb
   clear h6
   induction h7 with
   | nil=>exact .nil
   | @cons a e es ems he ht ih =>
     simp only [List.flatMap_cons,List.all_append,Bool.and_eq_true] at hb
     exact .cons ⟨he.1,he.2.1.cut hb.1.1,he.2.2.cut hb.1.2⟩ (ih hb.2)
 | iter m since seen last =>
   obtain ⟨L,b,h1,h2,h3,h4,h5,h6,h7⟩:=h
   simp only [AObj.scs,List.all_cons,List.all_nil,Bool.and_true] at hb
   exact ⟨L,b,by rw [hc,h1],h2,h3,h4,h5,SRel.cut h6 hb,h7⟩
 | dead=>trivial
theorem get_mem {fr:Fr} {s:Nat}:Am.get fr s=.c .any∨(s,Am.get fr s)∈fr:=by
 induction fr with
 | nil=>exact .inl rfl
 | cons p fr ih =>
   obtain ⟨d,v⟩:=p
   simp only [Am.get]
   split
   ·subst_vars;exact .inr (by simp)
   ·rcases ih with h | h
    ·exact .inl h
    ·exact .inr (by simp [h])
def subH:AH→AH→Prop
 | [],_=>True
 | o'::r',o::r=>(o'=.dead∨o'=o)∧subH r' r
 | _::_,[]=>False
theorem subH_get {H' H:AH} (h:subH H' H):H'.length≤H.length∧∀i,hg H' i=.dead∨hg H' i=hg H i:=by
 induction H' generalizing H with
 | nil=>exact ⟨by simp,fun i=>.inl (by simp [hg])⟩
 | cons o' r' ih =>
   cases H with
   | nil=>exact h.elim
   | cons o r =>
     obtain ⟨h1,h2⟩:=h
     obtain ⟨h3,h4⟩:=ih h2
     refine ⟨by simp;omega,fun i=>?_⟩
     cases i with
     | zero=>simpa [hg] using h1
     | succ i=>simpa [hg] using h4 i
theorem Wk.wk {n:Nat} {fr fr':Fr} {H H':AH} (hn:n≤H'.length) (hf:∀p∈fr',Am.get fr p.1=p.2) (hb:(fr'.all fun p=>p.2.bel H'.length)=true) (hH:subH H' H) (ho:(H'.all fun o=>o.scs.all (Sc.bel H'.length))=true) :
 Wk n fr H (fr',H'):=by
 intro ρ w tm h1 h2
 obtain ⟨hlen,hget⟩:=subH_get hH
 have hown:∀i,(hg H' i).owned=true→hg H' i=hg H i:=by
  intro i hi
  rcases hget i with e | e
  ·rw [e] at hi;simp [AObj.owned] at hi
  ·exact e
 have hlive:∀i,(hg H' i).live=true→hg H' i=hg H i:=by
  intro i hi
  rcases hget i with e | e
  ·rw [e] at hi;simp [AObj.live] at hi
  ·exact e
 refine ⟨Am.cut ρ H'.length,fun s=>?_,⟨fun i=>?_,fun i j Li Lj hij hio hLi hni hjl hLj hnj=>?_,fun i hi=>?_⟩,fun i L hi hL hnL=>?_,fun i hi=>by simp only [Am.cut];rw [if_pos (Nat.lt_of_lt_of_le hi hn)]⟩
 ·rcases get_mem (fr:=fr') (s:=s) with h | h
  ·show VRel _ (Am.get fr' s) _
   rw [h];trivial
  ·show VRel _ (Am.get fr' s) _
   have e:=hf _ h
   have hbel:=List.all_eq_true.1 hb _ h
   have:=h1 s
   simp only at e
   rw [e] at this
   exact this.cut hbel
 ·rcases Nat.lt_or_ge i H'.length with hi | hi
  ·show ORel _ _ _ (hg H' i)
   rcases hget i with e | e
   ·rw [e];trivial
   ·have hO:=h2.obj i
    rw [←e] at hO
    refine hO.cut hi ?_
    have:hg H' i∈H':=by
     unfold hg;rw [List.getD_eq_getElem?_getD,List.getElem?_eq_getElem hi];simp
    exact List.all_eq_true.1 ho _ this
  ·show ORel _ _ _ (hg H' i)
   rw [hg_ge _ hi];trivial
 ·have hi:=hg_lt (AObj.owned_live hio)
  have hj:=hg_lt hjl
  simp only at hi hj hio hjl
  rw [hown i hio] at hio
  rw [hlive j hjl] at hjl
  exact h2.sep i j Li Lj hij hio (by simpa [Am.cut,hi] using hLi) hni hjl (by simpa [Am.cut,hj] using hLj) hnj
 ·simp only [Am.cut];rw [if_neg (by simp at hi;omega)]
 ·have hlt:=hg_lt (AObj.owned_live hi)
  simp only at hi hlt
  exact ⟨i,by rw [←hown i hi];exact hi,by simpa [Am.cut,hlt] using hL⟩
theorem subH_take {H H':AH} (h:H.take H'.length=H'):subH H' H:=by
 induction H' generalizing H with
 | nil=>trivial
 | cons o r ih =>
   cases H with
   | nil=>simp at h
   | cons x y=>simp only [List.length_cons,List.take_succ_cons,List.cons.injEq] at h;exact ⟨.inr h.1.symm,ih h.2⟩
theorem Wk.drop {fr fr':Fr} {H H':AH} (hf:∀p∈fr',Am.get fr p.1=p.2) (hb:(fr'.all fun p=>p.2.bel H'.length)=true) (hH:H.take H'.length=H') (ho:(H'.all fun o=>o.scs.all (Sc.bel H'.length))=true) :
 Wk 0 fr H (fr',H'):=Wk.wk (Nat.zero_le _) hf hb (subH_take hH) ho
theorem Wk.trans {n:Nat} {fr:Fr} {H:AH} {S T:Fr × AH} (h:Wk n fr H S) (h':Wk n S.1 S.2 T):Wk n fr H T:=by
 intro ρ w tm h1 h2
 obtain ⟨ρ1,a1,a2,a3,a4⟩:=h ρ w tm h1 h2
 obtain ⟨ρ2,b1,b2,b3,b4⟩:=h' ρ1 w tm a1 a2
 refine ⟨ρ2,b1,b2,fun i L hi hL hn=>?_,fun i hi=>by rw [b4 i hi,a4 i hi]⟩
 obtain ⟨j,hj,hL'⟩:=b3 i L hi hL hn
 exact a3 j L hj hL' hn
theorem Wk.nil {n:Nat} {fr:Fr} {H:AH} (d sz:Nat) (hsz:0 < sz) (hd:Am.get fr d=.c .nils) (hn:n≤H.length):Wk n fr H ((d,.c (.sl H.length 0 0 0))::fr,H++[.vec sz []]):=by
 intro ρ w tm h1 h2
 have hst:Stab ρ (upd ρ H.length ⟨0,0,0,0,true,true⟩):=by
  intro i Li hi
  have:i≠H.length:=by rintro rfl;rw [h2.fresh _ (Nat.le_refl _)] at hi;simp at hi
  exact ⟨Li,by rw [upd_ne _ _ this,hi],.inl rfl⟩
 refine ⟨upd ρ H.length ⟨0,0,0,0,true,true⟩,fun s=>?_,⟨fun i=>?_,fun i j Li Lj hij hio hLi hni hjl hLj hnj=>?_,fun i hi=>?_⟩,fun i L hi hL hnL=>?_,fun i hi=>upd_ne _ _ (by omega)⟩
 ·simp only [Am.get]
  split
  ·rename_i hds
   rw [←hds]
   have:=h1 d
   rw [hd] at this
   have e:tm d=.slice none 0 0:=this
   rw [e]
   refine ⟨_,none,0,upd_same _ _ _,rfl,by simp,by omega,by omega,Nat.le_refl _,fun _=>?_⟩
   rw [if_pos rfl];simp
  ·exact (h1 s).mono hst
 ·rw [hg_append]
  split
  ·subst_vars
   refine ⟨_,upd_same _ _ _,rfl,rfl,rfl,hsz,?_⟩
   rw [if_pos rfl];simp
  ·rename_i hne
   exact (h2.obj i).keep hst (upd_ne _ _ hne) (fun _ _ _ _=>rfl) (Nat.le_refl _)
 ·have hni':i≠H.length:=by rintro rfl;rw [upd_same] at hLi;simp at hLi;subst hLi;simp at hni
  have hnj':j≠H.length:=by rintro rfl;rw [upd_same] at hLj;simp at hLj;subst hLj;simp at hnj
  rw [hg_append,if_neg hni'] at hio
  rw [hg_append,if_neg hnj'] at hjl
  rw [upd_ne _ _ hni'] at hLi
  rw [upd_ne _ _ hnj'] at hLj
  exact h2.sep i j Li Lj hij hio hLi hni hjl hLj hnj
 ·simp at hi
  rw [upd_ne _ _ (by omega)];exact h2.fresh i (by omega)
 ·have hni':i≠H.length:=by rintro rfl;rw [upd_same] at hL;simp at hL;subst hL;simp at hnL
  rw [hg_append,if_neg hni'] at hi
  rw [upd_ne _ _ hni'] at hL
  exact ⟨i,hi,hL⟩
theorem pu_ok {f:Nat} {fn:Func} {code:Code} {rs:List ResultVar} {n:Nat} {s:List AV→Option AV} (hmix:P.follows .mixedOrders=true) (ht:TabOk P tab)
 (hf:P.funcs[f]?=some fn) (hb:fn.body=some code) (hrs:fn.results=rs.toArray) (hn:fn.ntmps=n) (hname:(fn.name == "runtime.NumGoroutine")=false) (hok:okC n ddr code=true)
 (h:∀args v,s args=some v→args.length≤n∧args.all AV.pf=true∧v.pf=true∧arun P tab [.c code] (frA 0 args) [] (fun fr H=>resA P fr H rs=some v)):PuOk P f s :=
 pu_of_arun ddr hf hb hrs hn hname ht (fun ops h1 h2=>draw_any ht hmix ops h1 h2) hok h
theorem Keep.grown {w w':World} (h:Keep w (fun _=>False) w'):RowKit.Grown w w':=by
 refine ⟨⟨h.os,h.output,fun i hi=>?_⟩,fun a=>?_,h.size⟩
 ·rw [h.old i hi (fun f=>f)]
  split <;> simp_all
 ·rcases Nat.lt_or_ge a.block w.heap.size with hl | hg
  ·simp only [World.frozen?];rw [h.old _ hl (fun f=>f)]
  ·have e1:w.frozen? a=false:=by simp [World.frozen?,Array.getElem?_eq_none hg]
   rw [e1]
   unfold World.frozen?
   split
   ·rename_i c t lo hi heq
    have:=h.free _ _ _ _ heq (.inl hg)
    simp at this;obtain ⟨rfl,rfl⟩:=this;simp
   ·rfl
theorem SRel.bel {ρ:Ro} {s:Sc} {v:Value} {n:Nat} (h:SRel ρ s v) (hf:∀i,n≤i→ρ i=none):s.bel n=true:=by
 have key:∀id L,ρ id=some L→id < n:=by
  intro id L hL
  rcases Nat.lt_or_ge id n with h | h
  ·exact h
  ·rw [hf id h] at hL;simp at hL
 cases s <;> try rfl
 ·obtain ⟨L,a,h1,_⟩:=(show PRel _ _ _ _ _ from h)
  simp only [Sc.bel,decide_eq_true_eq];exact key _ _ h1
 ·obtain ⟨L,b,c,h1,_⟩:=(show SlRel _ _ _ _ _ _ from h)
  simp only [Sc.bel,decide_eq_true_eq];exact key _ _ h1
 ·obtain ⟨cv,hv,h2⟩:=h
  clear hv
  simp only [Sc.bel]
  induction h2 with
  | nil=>rfl
  | cons h _ ih =>
    obtain ⟨L,a,h1,_⟩:=h
    rw [List.all_cons,Bool.and_eq_true]
    exact ⟨by simpa using key _ _ h1,ih⟩
 ·obtain ⟨L,b,h1,_⟩:=h
  simp only [Sc.bel,decide_eq_true_eq];exact key _ _ h1
theorem L2.bel {ρ:Ro} {l:List Sc} {c:List Value} {n:Nat} (h:L2 (SRel ρ) l c) (hf:∀i,n≤i→ρ i=none):l.all (Sc.bel n)=true:=by
 induction h with
 | nil=>rfl
 | cons h _ ih=>simp only [List.all_cons,ih,Bool.and_true];exact h.bel hf
theorem VRel.bel {ρ:Ro} {x:AV} {v:Value} {n:Nat} (h:VRel ρ x v) (hf:∀i,n≤i→ρ i=none):x.bel n=true:=by
 cases x with
 | c s=>exact SRel.bel h hf
 | g l=>obtain ⟨cs,_,h2⟩:=h;exact h2.bel hf
 | t l =>
   obtain ⟨vs,h1,h2⟩:=h
   simp only [AV.bel]
   clear h1
   induction h2 with
   | nil=>rfl
   | @cons a b l m h _ ih =>
     simp only [List.all_cons,ih,Bool.and_true]
     cases a with
     | c s=>exact SRel.bel h hf
     | g l=>obtain ⟨cs,_,h2⟩:=h;exact h2.bel hf
     | t l=>rfl
def belH (H:AH):Bool:=H.all fun o=>o.scs.all (Sc.bel H.length)
theorem HR.bel {ρ:Ro} {w:World} {H:AH} (h:HR ρ w H):belH H=true:=by
 unfold belH
 rw [List.all_eq_true]
 intro o ho
 obtain ⟨i,hi⟩:=List.getElem?_of_mem ho
 have hO:=h.obj i
 have e:hg H i=o:=by simp [hg,List.getD_eq_getElem?_getD,hi]
 rw [e] at hO
 cases o with
 | own cs=>obtain ⟨L,c,t,_,_,_,_,_,_,h7⟩:=hO;exact h7.bel h.fresh
 | vec sz cs =>
   obtain ⟨L,_,_,_,_,_,h6⟩:=hO
   split at h6
   ·simp only [AObj.scs];simp_all
   ·obtain ⟨c,d,t,_,_,h9⟩:=h6;exact h9.bel h.fresh
 | view cs =>
   obtain ⟨L,_,_,_,_,_,h6⟩:=hO
   simp only [AObj.scs]
   rw [List.all_eq_true]
   intro s hs
   obtain ⟨j,hj⟩:=List.getElem?_of_mem hs
   obtain ⟨v,_,h8⟩:=h6 j s hj
   exact h8.bel h.fresh
 | map clk es =>
   obtain ⟨L,ems,_,_,_,_,_,h6,h7⟩:=hO
   have hV:∀{x:AV} {v:Value},V1 ρ x v→x.scs.all (Sc.bel H.length)=true:=by
    intro x v hx
    cases x with
    | c s=>simp only [AV.scs,List.all_cons,List.all_nil,Bool.and_true];exact SRel.bel hx h.fresh
    | g l=>obtain ⟨cs,_,h2⟩:=hx;exact h2.bel h.fresh
    | t l=>rfl
   simp only [AObj.scs]
   clear hi ho e h6
   induction h7 with
   | nil=>rfl
   | @cons a e es ems he ht ih =>
     simp only [List.flatMap_cons,List.all_append,Bool.and_eq_true]
     exact ⟨⟨hV he.2.1,hV he.2.2⟩,ih⟩
 | iter m since seen last =>
   obtain ⟨L,b,_,_,_,_,_,h6,_⟩:=hO
   simp only [AObj.scs,List.all_cons,List.all_nil,Bool.and_true]
   exact SRel.bel h6 h.fresh
 | dead=>rfl
theorem cells_scs {o:AObj} {p:Sc→Bool} (h:o.scs.all p=true):o.cells.all p=true:=by
 cases o <;> first | exact h | rfl
theorem HR.frozen {ρ:Ro} {w:World} {H:AH} (h:HR ρ w H):∀b c t f,w.heap[b]?=some (.cells c t f)→Owns ρ H b→f=(0,0):=by
 rintro b c t f hb ⟨i,L,h1,h2,h3,rfl⟩
 have hO:=h.obj i
 generalize hg H i=o at hO h1
 cases o with
 | own cs =>
   obtain ⟨L',c',t',g1,_,_,_,_,g6,_⟩:=hO
   rw [h2] at g1;simp at g1;subst g1
   rw [hb] at g6;simp at g6;exact g6.2.2
 | vec sz cs =>
   obtain ⟨L',g1,_,_,_,_,g6⟩:=hO
   rw [h2] at g1;simp at g1;subst g1
   rw [if_neg (by simp [h3])] at g6
   obtain ⟨c',d,t',g7,_,_⟩:=g6
   rw [hb] at g7;simp at g7;exact g7.2.2
 | view cs=>simp [AObj.owned] at h1
 | map clk es =>
   obtain ⟨L',ems,g1,_,_,_,_,g6,_⟩:=hO
   rw [h2] at g1;simp at g1;subst g1
   rw [hb] at g6;simp at g6
 | iter m since seen last =>
   obtain ⟨L',b',g1,_,_,_,_,_,g6⟩:=hO
   rw [h2] at g1;simp at g1;subst g1
   rw [hb] at g6;simp at g6
 | dead=>simp [AObj.owned] at h1
theorem fp_ok {f:Nat} {fn:Func} {code:Code} {rs:List ResultVar} {n:Nat} {s:List AV→AH→Option (AV × AH)} (hmix:P.follows .mixedOrders=true) (ht:TabOk P tab)
 (hf:P.funcs[f]?=some fn) (hb:fn.body=some code) (hrs:fn.results=rs.toArray) (hn:fn.ntmps=n) (hname:(fn.name == "runtime.NumGoroutine")=false) (hok:okC n ddr code=true)
 (hle:∀args H v H1,s args H=some (v,H1)→H.length≤H1.length) (h:∀args H v H1,s args H=some (v,H1)→(args.all (AV.bel H.length))=true→belH H=true→args.length≤n ∧
   arun P ((1000000,.lo H.length)::tab) [.c code] (frA 0 args) H (fun fr H'=>∃v',resA P fr H' rs=some v'∧Wk H.length [(0,v')] H' ([(0,v)],H1))):FpOk P f s:=by
 obtain rfl:fn.results.toList=rs:=by rw [hrs]
 subst hn
 refine ⟨fun args w=>?_,hle,fun args H v H1 hs ρ w cs hcs hH=>?_⟩
 ·have hn:¬fn.name = "runtime.NumGoroutine":=by simpa using hname
  simp [callFunc,hf,hn,hb]
 ·have hbel:args.all (AV.bel H.length)=true:=by
   clear hs
   induction hcs with
   | nil=>rfl
   | cons h _ ih=>simp only [List.all_cons,ih,Bool.and_true];exact h.bel hH.fresh
  obtain ⟨h1,h4⟩:=h args H v H1 hs hbel hH.bel
  have hlen:=hcs.length
  have ht':TabOk P ((1000000,.lo H.length)::tab):=TabOk.cons (e:=.lo H.length) trivial ht
  refine calls_of_wp hf hb ?_
  have hst:St fn.ntmps w ⟨Owns ρ H,H.length,ρ⟩ ρ (frA 0 args) H {tmps:=cs.toArray++Array.replicate (fn.ntmps - cs.toArray.size) undef,defers:=[]} w:=by
   refine ⟨fun x=>?_,by simp;omega,rfl,hH,Keep.refl w _ hH.frozen,fun i L h1 h2 h3=>.inl ⟨i,L,h1,h2,h3,rfl⟩,fun i _ L hL=>⟨L,hL,.inl rfl⟩⟩
   have:=get_frA args cs hcs 0 x
   rw [if_pos (Nat.zero_le _),Nat.sub_zero] at this
   have e:(cs.toArray++Array.replicate (fn.ntmps - cs.toArray.size) undef).getD x undef=cs.getD x undef:=by
    rw [Array.getD_eq_getD_getElem?,List.getD_eq_getElem?_getD,Array.getElem?_append]
    split
    ·simp
    ·rename_i hx
     simp at hx
     rw [List.getElem?_eq_none hx,Array.getElem?_replicate]
     split <;> rfl
   rw [e];exact this
  have hkp:=sound (M:=⟨Owns ρ H,H.length,ρ⟩) (Nat.le_refl _) ht' ddr (fun ops h1 h2=>draw_any ht' hmix ops h1 h2) (kwt [.c code]) [.c code] (Nat.le_refl _) (by
   simp only [okK,List.all_cons,List.all_nil,Bool.and_true,okI]
   exact hok) _ _ h4 _ _ _ hst
  refine wp_mono (show code.wp P (Kp P fn.ntmps w ⟨Owns ρ H,H.length,ρ⟩ _ []) _ w from hkp) ?_
  intro e a2 w2 hq
  have fin:SI fn.ntmps w ⟨Owns ρ H,H.length,ρ⟩ (fun fr H'=>∃v',resA P fr H' fn.results.toList=some v'∧Wk H.length [(0,v')] H' ([(0,v)],H1)) a2 w2→a2.defers=[]∧∃v',(results fn a2.tmps).run P w2=.ok v' w2 ∧
   ∃vc ρ',Ending.returned v'=.returned vc∧VRel ρ' v vc∧HR ρ' w2 H1∧Stab ρ ρ'∧Keep w (Owns ρ H) w2∧(∀b,Owns ρ' H1 b→Owns ρ H b∨w.heap.size≤b):=by
   rintro ⟨ρ2,fr2,H2,hs2,v',hres,hwk⟩
   obtain ⟨vc,h5,h6⟩:=resA_run (P:=P) hres hs2.fr hs2.hr.obj
   obtain ⟨ρ3,g1,g2,g3,g4⟩:=hwk ρ2 w2 (fun x=>if x=0 then vc else undef) (fun x=>by
    simp only [Am.get]
    by_cases e:0=x
    ·subst e;simpa using h6
    ·rw [if_neg e];trivial) hs2.hr
   have hv:VRel ρ3 v vc:=by have:=g1 0;simpa [Am.get] using this
   refine ⟨hs2.df,vc,h5,vc,ρ3,rfl,hv,g2,fun i L hL=>?_,hs2.kp,?_⟩
   ·have hi:i < H.length:=by
     rcases Nat.lt_or_ge i H.length with h | h
     ·exact h
     ·rw [hH.fresh i h] at hL;simp at hL
    rw [g4 i hi];exact hs2.st i hi L hL
   ·rintro b ⟨i,L,e1,e2,e3,rfl⟩
    obtain ⟨j,e4,e5⟩:=g3 i L e1 e2 e3
    exact hs2.ow j L e4 e5 e3
  cases e <;> first | exact fin hq | exact hq.elim
theorem subH_refl (H:AH):subH H H:=by
 induction H with
 | nil=>trivial
 | cons o r ih=>exact ⟨.inr rfl,ih⟩
theorem subH_app (H X:AH):subH H (H++X):=by
 induction H with
 | nil=>trivial
 | cons o r ih=>exact ⟨.inr rfl,ih⟩
theorem arun_mono {P:Program} {tab:Tab} {Q R:Fr→AH→Prop} (h:∀fr H,Q fr H→R fr H):∀(n:Nat) (k:List It),kwt k≤n→∀fr H,arun P tab k fr H Q→arun P tab k fr H R:=by
 intro n
 induction n with
 | zero =>
   intro k hk fr H hr
   cases k with
   | nil=>rw [arun_nil] at hr ⊢;exact h _ _ hr
   | cons x k=>exfalso;cases x <;> simp [kwt,It.wt] at hk;rename_i c;cases c <;> simp [cwt] at hk
 | succ n ih =>
   intro k hk fr H hr
   cases k with
   | nil=>rw [arun_nil] at hr ⊢;exact h _ _ hr
   | cons x k =>
     cases x with
     | blk id=>rw [arun_blk] at hr ⊢;exact ih k (by simp [kwt,It.wt] at hk ⊢;omega) _ _ hr
     | back I=>rw [arun_back] at hr ⊢;exact hr
     | scp=>rw [arun_scp] at hr ⊢;exact ih k (by simp [kwt,It.wt] at hk ⊢;omega) _ _ hr
     | scj l J=>rw [arun_scj] at hr ⊢;exact ih k (by simp [kwt,It.wt] at hk ⊢;omega) _ _ hr
     | ops full l =>
       cases l with
       | nil=>rw [arun_ops_nil] at hr ⊢;exact ih k (by simp [kwt,It.wt] at hk ⊢;omega) _ _ hr
       | cons o l =>
         have go:∀fr H,arun P tab (.ops full l::k) fr H Q→arun P tab (.ops full l::k) fr H R:=fun fr H hr=>ih (.ops full l::k) (by simp [kwt,It.wt] at hk ⊢;omega) _ _ hr
         rw [arun_op] at hr ⊢
         split at hr
         ·split at hr
          ·exact go _ _ hr
          ·split at hr
           ·exact fun v H' hm=>go _ _ (hr v H' hm)
           ·exact hr.elim
         ·split at hr
          ·split at hr
           ·rename_i e;simp only [e,if_true]
            split at hr
            ·exact go _ _ hr
            ·exact hr.elim
           ·rename_i e;simp only [e,if_false];exact go _ _ hr
          ·exact go _ _ hr
          ·exact hr.elim
     | dr full l i log =>
       cases l with
       | nil=>rw [arun_dr_nil] at hr ⊢;exact ih k (by simp [kwt,It.wt] at hk ⊢;omega) _ _ hr
       | cons o l =>
         have go:∀fr H i log,arun P tab (.dr full l i log::k) fr H Q→arun P tab (.dr full l i log::k) fr H R:=fun fr H i log hr=>ih (.dr full l i log::k) (by simp [kwt,It.wt] at hk ⊢;omega) _ _ hr
         rw [arun_dr] at hr ⊢
         split at hr
         ·split at hr
          ·exact ⟨hr.1,go _ _ _ _ hr.2⟩
          ·exact hr.elim
         ·split at hr
          ·split at hr
           ·rename_i e;simp only [e,if_true]
            split at hr
            ·exact ⟨hr.1,go _ _ _ _ hr.2⟩
            ·exact hr.elim
           ·rename_i e;simp only [e,if_false];exact go _ _ _ _ hr
          ·exact go _ _ _ _ hr
          ·exact hr.elim
     | c x =>
       have hpos:0 < cwt x:=by cases x <;> simp [cwt]
       have hkk:∀fr H,arun P tab k fr H Q→arun P tab k fr H R:=fun fr H hr=>ih k (by simp [kwt,It.wt] at hk ⊢;omega) _ _ hr
       cases x with
       | skip=>rw [arun_skip] at hr ⊢;exact hkk _ _ hr
       | region id ops d =>
         cases d with
         | false=>rw [arun_region] at hr ⊢;exact ih (.ops ops ops.toList::k) (by simp [kwt,It.wt,cwt] at hk ⊢;omega) _ _ hr
         | true=>rw [arun_regiond] at hr ⊢;exact ih (.dr ops ops.toList 0 []::k) (by simp [kwt,It.wt,cwt] at hk ⊢;omega) _ _ hr
       | seq a b=>rw [arun_seq] at hr ⊢;exact ih (.c a::.c b::k) (by simp [kwt,It.wt,cwt] at hk ⊢;omega) _ _ hr
       | cond v a b =>
         rw [arun_cond] at hr ⊢
         split at hr
         ·split at hr
          ·rename_i e;rw [if_pos e];exact ih (.c a::k) (by simp [kwt,It.wt,cwt] at hk ⊢;omega) _ _ hr
          ·rename_i e;rw [if_neg e];exact ih (.c b::k) (by simp [kwt,It.wt,cwt] at hk ⊢;omega) _ _ hr
         ·exact ⟨ih (.c a::k) (by simp [kwt,It.wt,cwt] at hk ⊢;omega) _ _ hr.1,ih (.c b::k) (by simp [kwt,It.wt,cwt] at hk ⊢;omega) _ _ hr.2⟩
         ·exact hr.elim
       | block id a=>rw [arun_block] at hr ⊢;exact ih (.c a::.blk id::k) (by simp [kwt,It.wt,cwt] at hk ⊢;omega) _ _ hr
       | loop a =>
         rw [arun_loop] at hr ⊢
         obtain ⟨ι,F,μ,i0,h0,h1⟩:=hr
         exact ⟨ι,F,μ,i0,h0,fun i=>ih (.c a::.back _::k) (by simp [kwt,It.wt,cwt] at hk ⊢;omega) _ _ (h1 i)⟩
       | exit id =>
         rw [arun_exit] at hr ⊢
         split at hr
         ·rename_i k' hp
          have:=popB_wt hp
          exact ih k' (by simp [kwt,It.wt,cwt] at hk this ⊢;omega) _ _ hr
         ·exact hr.elim
       | label l=>rw [arun_label] at hr ⊢;exact hkk _ _ hr
       | goto l=>rw [arun_goto] at hr ⊢;exact hr
       | scope a =>
         rw [arun_scope] at hr ⊢
         rcases hr with hr | ⟨l,rest,J,hf,h1,hle,h2⟩
         ·exact .inl (ih (.c a::.scp::k) (by simp [kwt,It.wt,cwt] at hk ⊢;omega) _ _ hr)
         ·exact .inr ⟨l,rest,J,hf,ih (.c a::.scj l J::k) (by simp [kwt,It.wt,cwt] at hk ⊢;omega) _ _ h1,hle,fun fr H hj=>ih (.c rest::.scp::k) (by simp [kwt,It.wt,cwt] at hk ⊢;omega) _ _ (h2 fr H hj)⟩
       | ret=>rw [arun_ret] at hr ⊢;exact h _ _ hr
       | _=>rw [arun] at hr <;> first | exact hr.elim | simp
theorem fq_ok {f:Nat} {fn:Func} {code:Code} {rs:List ResultVar} {n:Nat} {s:List AV→AH→Option AV} (hmix:P.follows .mixedOrders=true) (ht:TabOk P tab)
 (hf:P.funcs[f]?=some fn) (hb:fn.body=some code) (hrs:fn.results=rs.toArray) (hn:fn.ntmps=n) (hname:(fn.name == "runtime.NumGoroutine")=false) (hok:okC n ddr code=true)
 (h:∀args H v,s args H=some v→(args.all (AV.bel H.length))=true→belH H=true→args.length≤n∧v.bel H.length=true ∧
   arun P ((1000000,.lo H.length)::tab) [.c code] (frA 0 args) H (fun fr H'=>resA P fr H' rs=some v∧subH H H')):FpOk P f fun args H=>(s args H).map fun v=>(v,H):=by
 refine fp_ok hmix ht hf hb hrs hn hname hok (fun args H v H1 hs=>by simp only [Option.map_eq_some_iff,Prod.mk.injEq] at hs;obtain ⟨_,_,_,rfl⟩:=hs;exact Nat.le_refl _) fun args H v H1 hs hargs hH=>?_
 simp only [Option.map_eq_some_iff,Prod.mk.injEq] at hs
 obtain ⟨v',h1,rfl,rfl⟩:=hs
 obtain ⟨h2,h3,h4⟩:=h args H v' h1 hargs hH
 refine ⟨h2,?_⟩
 have key:∀fr H',(resA P fr H' rs=some v'∧subH H H')→∃x,resA P fr H' rs=some x∧Wk H.length [(0,x)] H' ([(0,v')],H):=by
  rintro fr H' ⟨e1,e2⟩
  exact ⟨v',e1,Wk.wk (Nat.le_refl _) (by simp [Am.get]) (by simp only [List.all_cons,h3];rfl) e2 hH⟩
 exact arun_mono key _ _ (Nat.le_refl _) _ _ h4
theorem bel_set {H:AH} {o:AObj} {i:Nat} (hH:belH H=true) (ho:o.scs.all (Sc.bel H.length)=true):((H.set i o).all fun x=>x.scs.all (Sc.bel (H.set i o).length))=true:=by
 rw [List.length_set,List.all_eq_true]
 intro x hx
 rcases List.mem_or_eq_of_mem_set hx with h | rfl
 ·exact List.all_eq_true.1 hH x h
 ·exact ho
theorem set_self {H:AH} {o:AObj} {i:Nat} (h:hg H i=o) (hi:i < H.length):H.set i o=H:=by
 have:H[i]=o:=by rw [←h];simp [hg,List.getD_eq_getElem?_getD,hi]
 rw [←this];exact List.set_getElem_self hi
theorem Sc.bel_mono {s:Sc} {m n:Nat} (h:s.bel m=true) (hmn:m≤n):s.bel n=true:=by
 cases s <;> try rfl
 ·simp only [Sc.bel,decide_eq_true_eq] at h ⊢;omega
 ·simp only [Sc.bel,decide_eq_true_eq] at h ⊢;omega
 ·simp only [Sc.bel,List.all_eq_true,decide_eq_true_eq] at h ⊢
  exact fun c hc=>Nat.lt_of_lt_of_le (h c hc) hmn
 ·simp only [Sc.bel,decide_eq_true_eq] at h ⊢;omega
end Go.Am
/- A law's frame: what its arguments are, and that it answers true. -/
namespace Go.Am
variable {P:Program}
inductive K where
 | n (k:IntKind)
 | q
 | s
def FitK:Sc→K→Prop
 | .i x,.n .i64=>-9223372036854775808≤x∧x≤9223372036854775807
 | .u _,.n .u64=>True
 | .k kd x,.n kd'=>kd=kd'∧kd.bits≤32∧kd.min≤x∧x≤kd.max
 | .b _,.q=>True
 | .s t,.s=>t.size≤9223372036854775807
 | _,_=>False
def flF (g:TypeId→Option (List K)) (P:Program):List Field→Nat→Option (List K)
 | [],_=>some []
 | f::r,off =>
   if f.offset=off then
    match g f.type,flF g P r (off+P.cellsOf f.type) with
    | some a,some b=>if a.length=P.cellsOf f.type then some (a++b) else none
    | _,_=>none
   else none
def flK (P:Program):Nat→TypeId→Option (List K)
 | 0,_=>none
 | d+1,t =>
   match P.underlying t with
   | some .bool=>some [.q]
   | some (.int k)=>some [.n k]
   | some .string=>some [.s]
   | some (.struct fs)=>(flF (flK P d) P fs.toList 0).bind fun l=>if l.length=P.cellsOf t then some l else none
   | some (.array m e)=>(flK P d e).bind fun l=>if l.length=P.cellsOf e∧m * l.length=P.cellsOf t then some (List.replicate m l).flatten else none
   | _=>none
section
variable {H:Type} {enc:TypeId × Value→H} {w:World} {base:Nat} {sp:Nat→Bool} {held:Bool}
def Read (ρ:Ro) (cs:List Value) (ks:List K) (x:List MemPlace):Prop:=x=[]∧∃l,L2 FitK l ks∧L2 (SRel ρ) l cs
theorem int_fit {ρ:Ro} {k:IntKind} {n:Int} (h:(Lit.int k n).wf=true):∃l,L2 FitK l [.n k]∧L2 (SRel ρ) l [.int k n]:=by
 simp only [Lit.wf,Bool.and_eq_true,decide_eq_true_eq] at h
 by_cases h1:k=.i64
 ·subst h1
  have h2:-9223372036854775808≤n∧n≤9223372036854775807:=h
  exact ⟨[.i n],.cons h2 .nil,.cons ⟨rfl,h2⟩ .nil⟩
 ·by_cases h3:k=.u64
  ·subst h3
   have h2:0≤n∧n≤18446744073709551615:=h
   refine ⟨[.u (BitVec.ofInt 64 n)],.cons trivial .nil,.cons ?_ .nil⟩
   show Value.int .u64 n=.int .u64 _
   congr 1
   rw [BitVec.toNat_ofInt];omega
  ·have hb:k.bits≤32:=by cases k <;> simp [IntKind.bits] at h1 h3 ⊢
   exact ⟨[.k k n],.cons ⟨rfl,hb,h.1,h.2⟩ .nil,.cons ⟨rfl,hb,h.1,h.2⟩ .nil⟩
theorem fl_fields {ρ:Ro} {g:TypeId→Option (List K)} {r:TypeId→List Value→Option (DataW H × List MemPlace)} (hg:∀t cs x ks,g t=some ks→r t cs=some x→Read ρ cs ks x.2) (cs:List Value) :
 ∀(fs:List Field) (off:Nat) (ks:List K) (xs:List (DataW H × List MemPlace)),flF g P fs off=some ks→(fs.mapM fun f=>r f.type ((cs.drop f.offset).take (P.cellsOf f.type)))=some xs →
  Read ρ ((cs.drop off).take ks.length) ks (xs.flatMap (·.2)):=by
 intro fs
 induction fs with
 | nil =>
   intro off ks xs h1 h2
   simp [flF] at h1;subst h1
   simp at h2;subst h2
   exact ⟨rfl,[],.nil,by simp;exact .nil⟩
 | cons f fs ih =>
   intro off ks xs h1 h2
   simp only [flF] at h1
   split at h1 <;> try (simp at h1;done)
   rename_i ho
   split at h1 <;> try (simp at h1;done)
   rename_i a b ha hb
   split at h1 <;> simp at h1
   rename_i hl
   subst h1
   simp only [List.mapM_cons,Option.bind_eq_bind,Option.bind_eq_some_iff,Option.pure_def,Option.some.injEq] at h2
   obtain ⟨x,hx,ys,hy,rfl⟩:=h2
   obtain ⟨e1,l1,h3,h4⟩:=hg _ _ _ _ ha hx
   obtain ⟨e2,l2,h5,h6⟩:=ih _ _ _ hb hy
   refine ⟨by simp [e1,e2],l1++l2,h3.app h5,?_⟩
   rw [List.length_append,hl,List.take_add,List.drop_drop,←ho]
   rw [←ho] at h6
   exact h4.app h6
theorem fl_rows {ρ:Ro} {r:List Value→Option (DataW H × List MemPlace)} {ke:List K} (hg:∀cs x,r cs=some x→Read ρ cs ke x.2) (cs:List Value) :
 ∀(n i:Nat) (xs:List (DataW H × List MemPlace)),((List.range' i n).mapM fun i=>r ((cs.drop (i * ke.length)).take ke.length))=some xs →
  Read ρ ((cs.drop (i * ke.length)).take (n * ke.length)) (List.replicate n ke).flatten (xs.flatMap (·.2)):=by
 intro n
 induction n with
 | zero=>intro i xs h;simp at h;subst h;exact ⟨rfl,[],.nil,by simp;exact .nil⟩
 | succ n ih =>
   intro i xs h
   simp only [List.range'_succ,List.mapM_cons,Option.bind_eq_bind,Option.bind_eq_some_iff,Option.pure_def,Option.some.injEq] at h
   obtain ⟨x,hx,ys,hy,rfl⟩:=h
   obtain ⟨e1,l1,h3,h4⟩:=hg _ _ hx
   obtain ⟨e2,l2,h5,h6⟩:=ih _ _ hy
   refine ⟨by simp [e1,e2],l1++l2,by rw [List.replicate_succ,List.flatten_cons];exact h3.app h5,?_⟩
   rw [Nat.add_mul,Nat.one_mul,Nat.add_comm (n * _),List.take_add,List.drop_drop]
   rw [Nat.add_mul,Nat.one_mul] at h6
   exact h4.app h6
theorem trod_fl {ρ:Ro}:∀(m d:Nat) (t:TypeId) (cs:List Value) (x:DataW H × List MemPlace) (ks:List K),flK P d t=some ks→DataW.trod enc P w base sp held m t cs=some x→Read ρ cs ks x.2:=by
 intro m
 induction m with
 | zero=>intro d t cs x ks _ h;simp [DataW.trod] at h
 | succ m ih =>
   intro d t cs x ks hk h
   cases d with
   | zero=>simp [flK] at hk
   | succ d =>
     simp only [flK] at hk
     split at hk
     ·rename_i hu;simp at hk;subst hk
      simp only [DataW.trod,hu] at h
      split at h <;> simp_all
      subst h
      exact ⟨rfl,[.b _],.cons trivial .nil,.cons rfl .nil⟩
     ·rename_i k hu;simp at hk;subst hk
      simp only [DataW.trod,hu] at h
      split at h <;> simp_all
      obtain ⟨⟨rfl,hw⟩,rfl⟩:=h
      exact ⟨rfl,int_fit hw⟩
     ·rename_i hu;simp at hk;subst hk
      simp only [DataW.trod,hu] at h
      split at h <;> simp_all
      obtain ⟨hw,rfl⟩:=h
      have hw':_≤9223372036854775807:=hw
      exact ⟨rfl,[.s _],.cons hw' .nil,.cons ⟨rfl,hw'⟩ .nil⟩
     ·rename_i fs hu
      simp only [Option.bind_eq_some_iff] at hk
      obtain ⟨l,hl,hk⟩:=hk
      split at hk <;> simp at hk
      rename_i hlen
      subst hk
      simp only [DataW.trod,hu] at h
      split at h
      ·rename_i hcl
       simp only [Option.map_eq_some_iff] at h
       obtain ⟨xs,hx,rfl⟩:=h
       have:=fl_fields (fun t cs x ks h1 h2=>ih d t cs x ks h1 h2) cs _ _ _ _ hl hx
       rw [List.drop_zero,hlen,←hcl,List.take_length] at this
       exact this
      ·simp at h
     ·rename_i n e hu
      simp only [Option.bind_eq_some_iff] at hk
      obtain ⟨l,hl,hk⟩:=hk
      split at hk <;> simp at hk
      rename_i hlen
      subst hk
      simp only [DataW.trod,hu] at h
      split at h
      ·rename_i hcl
       simp only [Option.map_eq_some_iff] at h
       obtain ⟨xs,hx,rfl⟩:=h
       rw [List.range_eq_range',←hlen.1] at hx
       have:=fl_rows (r:=fun c=>DataW.trod enc P w base sp held m e c) (ke:=l) (fun cs x h2=>ih d e cs x l hl h2) cs n 0 xs hx
       rw [Nat.zero_mul,List.drop_zero,hlen.2,←hcl,List.take_length] at this
       exact this
      ·simp at h
     ·simp at hk
end
inductive Par where
 | fl (agg:Bool) (ks:List K)
 | sl (ks:List K)
 | asl (n:Nat) (ks:List K)
def parT (P:Program) (t:TypeId):Option Par :=
 match P.underlying t with
 | some (.slice e)=>(flK P 20 e).bind fun l=>if l.length=P.cellsOf e∧0 < l.length then some (.sl l) else none
 | some (.struct _)=>(flK P 20 t).map (.fl true)
 | some (.array m e) =>
   match P.underlying e with
   | some (.slice e')=>(flK P 20 e').bind fun l=>if l.length=P.cellsOf e'∧0 < l.length∧P.cellsOf e=1∧P.cellsOf t=m then some (.asl m l) else none
   | _=>(flK P 20 t).map (.fl true)
 | some (.int _) | some .bool | some .string=>(flK P 20 t).map (.fl false)
 | _=>none
def parsT (P:Program):List TypeId→Option (List Par)
 | []=>some []
 | t::r=>match parT P t,parsT P r with
   | some a,some b=>some (a::b)
   | _,_=>none
def SlOk (ks:List K) (s:Sc) (H:AH):Prop:=s=.nils∨∃id n,s=.sl id 0 0 n∧id < H.length∧(hg H id).row=0∧(hg H id).owned=false∧n≤9223372036854775807∧(hg H id).cells.length=n * ks.length∧L2 FitK (hg H id).cells (List.replicate n ks).flatten
theorem SlOk.app {ks:List K} {s:Sc} {H X:AH} (h:SlOk ks s H):SlOk ks s (H++X):=by
 rcases h with h | ⟨id,n,h0,h1,h2,h3,h4,h5,h6⟩
 ·exact .inl h
 ·have e:=hg_lt' (X:=X) h1
  exact .inr ⟨id,n,h0,by simp;omega,by rw [e];exact h2,by rw [e];exact h3,h4,by rw [e];exact h5,by rw [e];exact h6⟩
def SigA:List Par→List AV→AH→Prop
 | [],[],_=>True
 | .fl true ks::ps,.g l::avs,H=>L2 FitK l ks∧SigA ps avs H
 | .fl false ks::ps,.c s::avs,H=>L2 FitK [s] ks∧SigA ps avs H
 | .asl n ks::ps,.g l::avs,H=>l.length=n∧(∀s∈l,SlOk ks s H)∧SigA ps avs H
 | .sl _::ps,.c .nils::avs,H=>SigA ps avs H
 | .sl ks::ps,.c (.sl id 0 0 n)::avs,H=>id < H.length∧(hg H id).row=0∧(hg H id).owned=false∧n≤9223372036854775807∧(hg H id).cells.length=n * ks.length∧L2 FitK (hg H id).cells (List.replicate n ks).flatten∧SigA ps avs H
 | _,_,_=>False
theorem SigA.app {X:AH}:∀{ps:List Par} {avs:List AV} {H:AH},SigA ps avs H→SigA ps avs (H++X):=by
 intro ps avs H
 fun_induction SigA ps avs H with
 | case1=>intro _;trivial
 | case2 ks ps l avs H ih=>rintro ⟨h1,h2⟩;exact ⟨h1,ih h2⟩
 | case3 ks ps l avs H ih=>rintro ⟨h1,h2⟩;exact ⟨h1,ih h2⟩
 | case4 n ks ps l avs H ih=>rintro ⟨h1,h2,h3⟩;exact ⟨h1,fun s hs=>(h2 s hs).app,ih h3⟩
 | case5 ks ps avs H ih=>intro h;exact ih h
 | case6 ks ps id n avs H ih =>
   rintro ⟨h1,h2,h3,h4,h5,h6,h7⟩
   have e:=hg_lt' (X:=X) h1
   exact ⟨by simp;omega,by rw [e];exact h2,by rw [e];exact h3,h4,by rw [e];exact h5,by rw [e];exact h6,ih h7⟩
 | case7=>intro h;simp [SigA] at h
theorem HR.view {ρ:Ro} {w:World} {H:AH} (h:HR ρ w H) (o:AObj) (L:Loc) (ho:o.owned=false) (hO:ORel (upd ρ H.length L) w H.length o) (hown:∀i,(hg H i).owned=false) :
 HR (upd ρ H.length L) w (H++[o])∧Stab ρ (upd ρ H.length L)∧∀i,(hg (H++[o]) i).owned=false:=by
 have hst:Stab ρ (upd ρ H.length L):=by
  intro i Li hi
  have:i≠H.length:=by rintro rfl;rw [h.fresh _ (Nat.le_refl _)] at hi;simp at hi
  exact ⟨Li,by rw [upd_ne _ _ this,hi],.inl rfl⟩
 have hown':∀i,(hg (H++[o]) i).owned=false:=by
  intro i;rw [hg_append];split
  ·exact ho
  ·exact hown i
 refine ⟨⟨fun i=>?_,fun i j Li Lj _ hio=>?_,fun i hi=>?_⟩,hst,hown'⟩
 ·rw [hg_append];split
  ·subst_vars;exact hO
  ·rename_i hne
   exact (h.obj i).keep hst (upd_ne _ _ hne) (fun _ _ _ _=>rfl) (Nat.le_refl _)
 ·rw [hown'] at hio;simp at hio
 ·simp at hi;rw [upd_ne _ _ (by omega)];exact h.fresh i (by omega)
section
variable {T:Type} {enc:TypeId × Value→T} {w:World}
theorem cells_get {w:World} {a:Addr} {n:Nat} {cs:List Value} (h:w.cells? 0 a n=some cs):cs.length=n∧∀i v,cs[i]?=some v→w.cell? (a.add i)=some v:=by
 simp only [World.cells?,Nat.zero_le,if_true] at h
 have key:∀(n i0:Nat) (cs:List Value),((List.range' i0 n).mapM fun i=>w.cell? (a.add i))=some cs→cs.length=n∧∀i v,cs[i]?=some v→w.cell? (a.add (i0+i))=some v:=by
  intro n
  induction n with
  | zero=>intro i0 cs h;simp at h;subst h;simp
  | succ n ih =>
    intro i0 cs h
    simp only [List.range'_succ,List.mapM_cons,Option.bind_eq_bind,Option.bind_eq_some_iff,Option.pure_def,Option.some.injEq] at h
    obtain ⟨x,hx,ys,hy,rfl⟩:=h
    obtain ⟨e1,e2⟩:=ih _ _ hy
    refine ⟨by simp [e1],fun i v hv=>?_⟩
    cases i with
    | zero=>simp at hv;subst hv;exact hx
    | succ i=>have:=e2 i v (by simpa using hv);rw [show i0+(i+1)=i0+1+i by omega];exact this
 rw [List.range_eq_range'] at h
 obtain ⟨e1,e2⟩:=key n 0 cs h
 exact ⟨e1,fun i v hv=>by have:=e2 i v hv;rwa [Nat.zero_add] at this⟩
theorem add_add {a:Addr} {i j:Nat}:(a.add i).add j=a.add (i+j):=by
 simp only [Addr.add]
 by_cases h1:i=0
 ·subst h1;simp
 ·by_cases h2:j=0
  ·subst h2;simp [h1]
  ·simp [h1,h2,Nat.add_assoc]
theorem cell_plain {a:Addr} {v:Value} (h:w.cell? (a.add 0)=some v) (j:Nat):w.cell? (a.add j)=w.cell? ⟨a.block,a.off+j,none⟩∧a.block < w.heap.size∧a=⟨a.block,a.off+0,none⟩:=by
 have e0:a.add 0=a:=by simp [Addr.add]
 rw [e0] at h
 unfold World.cell? at h
 split at h
 ·rename_i c _ _ hb
  split at h
  ·simp at h
  ·rename_i hs
   have hlt:a.block < w.heap.size:=by
    rcases Nat.lt_or_ge a.block w.heap.size with h | h
    ·exact h
    ·rw [Array.getElem?_eq_none h] at hb;simp at hb
   have ha:a=⟨a.block,a.off,none⟩:=by
    cases a with
    | mk x y z=>cases z <;> simp at hs ⊢
   refine ⟨?_,hlt,ha⟩
   have:a.add j=⟨a.block,a.off+j,none⟩:=by
    rw [ha];simp only [Addr.add]
    by_cases hj:j=0
    ·subst hj;simp
    ·rw [if_neg hj]
   rw [this]
 ·simp at h
theorem sl_rows {ρ:Ro} {m:Nat} {e:TypeId} {a:Addr} {ke:List K} (hk:flK P 20 e=some ke) (hl:ke.length=P.cellsOf e) :
 ∀(n i:Nat) (xs:List (DataW T × List MemPlace)),((List.range' i n).mapM fun i=>(w.cells? 0 (a.add (i * P.cellsOf e)) (P.cellsOf e)).bind (DataW.trod enc P w 0 (fun _=>true) true m e))=some xs →
  ∃l,l.length=n * ke.length∧L2 FitK l (List.replicate n ke).flatten∧∀j s,l[j]?=some s→∃v,w.cell? (a.add (i * ke.length+j))=some v∧SRel ρ s v:=by
 intro n
 induction n with
 | zero=>intro i xs h;exact ⟨[],by simp,.nil,by simp⟩
 | succ n ih =>
   intro i xs h
   simp only [List.range'_succ,List.mapM_cons,Option.bind_eq_bind,Option.bind_eq_some_iff,Option.pure_def,Option.some.injEq] at h
   obtain ⟨x,⟨cs,hc,hx⟩,ys,hy,rfl⟩:=h
   obtain ⟨l2,h5,h6,h7⟩:=ih (i+1) ys (by simpa only [Option.bind_eq_bind] using hy)
   obtain ⟨hcl,hcg⟩:=cells_get hc
   obtain ⟨_,l1,h3,h4⟩:=trod_fl (ρ:=ρ) m 20 e cs x ke hk hx
   have hl1:l1.length=ke.length:=by rw [h4.length,hcl,hl]
   refine ⟨l1++l2,by rw [List.length_append,hl1,h5,Nat.add_mul,Nat.one_mul,Nat.add_comm],by rw [List.replicate_succ,List.flatten_cons];exact h3.app h6,fun j s hj=>?_⟩
   rcases Nat.lt_or_ge j l1.length with hlt | hge
   ·rw [List.getElem?_append_left hlt] at hj
    obtain ⟨v,hv,hr⟩:=h4.get? j s hj
    refine ⟨v,?_,hr⟩
    have:=hcg j v hv
    rw [←hl] at this
    rw [←add_add];exact this
   ·rw [List.getElem?_append_right hge] at hj
    obtain ⟨v,hv,hr⟩:=h7 _ s hj
    refine ⟨v,?_,hr⟩
    rw [←hv];congr 2
    rw [hl1] at hge ⊢
    rw [Nat.add_mul,Nat.one_mul];omega
theorem slice_one {t e:TypeId} {ke:List K} (hu:P.underlying t=some (.slice e)) (hk:flK P 20 e=some ke) (hl:ke.length=P.cellsOf e∧0 < ke.length) {fuel:Nat} {cs:List Value} {x:DataW T × List MemPlace}
 (hf:DataW.trod enc P w 0 (fun _=>true) true fuel t cs=some x) {ρ:Ro} {H:AH} (g3:HR ρ w H) (g4:∀i,(hg H i).owned=false) :
 ∃v,cs=[v]∧∃(X:AH) (ρ':Ro) (s:Sc),SlOk ke s (H++X)∧SRel ρ' s v∧HR ρ' w (H++X)∧Stab ρ ρ'∧∀i,(hg (H++X) i).owned=false:=by
 cases fuel with
 | zero=>simp [DataW.trod] at hf
 | succ fuel =>
   have hcs:cs=[.slice none 0 0]∨∃a len cap,cs=[.slice (some a) len cap]:=by
    simp only [DataW.trod,hu] at hf
    split at hf
    all_goals first | exact .inl rfl | exact .inr ⟨_,_,_,rfl⟩ | (rename_i h0;cases h0;done) | (simp at hf;done) | (rename_i h0 _;cases h0;done)
   rcases hcs with rfl | ⟨a,len,cap,rfl⟩
   ·exact ⟨_,rfl,[],ρ,.nils,.inl rfl,rfl,by simpa using g3,Stab.refl ρ,by simpa using g4⟩
   ·simp only [DataW.trod,hu] at hf
    split at hf
    ·rename_i hc
     obtain ⟨_,hlc,hcm⟩:=hc
     have hcm':cap≤9223372036854775807:=hcm
     simp only [Option.bind_eq_some_iff] at hf
     obtain ⟨xs,hx,_⟩:=hf
     rw [List.range_eq_range'] at hx
     obtain ⟨l,r1,r2,r3⟩:=sl_rows (ρ:=ρ) hk hl.1 len 0 xs hx
     refine ⟨_,rfl,?_⟩
     by_cases hn:len=0
     ·subst hn
      have hn':l=[]:=List.eq_nil_of_length_eq_zero (by rw [r1];simp)
      subst hn'
      obtain ⟨k1,k2,k3⟩:=g3.view .dead ⟨0,0,0,1,false,false⟩ rfl trivial g4
      refine ⟨[.dead],_,.sl H.length 0 0 0,?_,⟨_,_,_,upd_same _ _ _,rfl,by simp,by omega,by omega,by simp,by simp⟩,k1,k2,k3⟩
      have e:hg (H++[AObj.dead]) H.length=.dead:=by rw [hg_append,if_pos rfl]
      exact .inr ⟨H.length,0,rfl,by simp,by rw [e];rfl,by rw [e];rfl,by omega,by rw [e];simp [AObj.cells],by rw [e];exact .nil⟩
     ·have hpos:0 < len * ke.length:=Nat.mul_pos (by omega) hl.2
      obtain ⟨v0,hv0,_⟩:=r3 0 l[0] (by rw [List.getElem?_eq_getElem])
      rw [Nat.zero_mul,Nat.zero_add] at hv0
      have hpl:=fun j=>cell_plain hv0 j
      obtain ⟨k1,k2,k3⟩:=g3.view (.view l) ⟨a.block,a.off,cap,0,false,false⟩ rfl
       ⟨_,upd_same _ _ _,rfl,rfl,by simp,fun _=>(hpl 0).2.1,fun j s hj=>by
         obtain ⟨v,hv,hr⟩:=r3 j s hj
         rw [Nat.zero_mul,Nat.zero_add] at hv
         refine ⟨v,by rw [←(hpl j).1];exact hv,hr.mono ?_⟩
         intro i Li hi
         have:i≠H.length:=by rintro rfl;rw [g3.fresh _ (Nat.le_refl _)] at hi;simp at hi
         exact ⟨Li,by rw [upd_ne _ _ this,hi],.inl rfl⟩⟩ g4
      refine ⟨[.view l],_,.sl H.length 0 0 len,?_,⟨_,some a,cap,upd_same _ _ _,rfl,by simp,hlc,by omega,by simp,fun _=>?_⟩,k1,k2,k3⟩
      ·have e:hg (H++[AObj.view l]) H.length=.view l:=by rw [hg_append,if_pos rfl]
       exact .inr ⟨H.length,len,rfl,by simp,by rw [e];rfl,by rw [e];rfl,by omega,by rw [e];exact r1,by rw [e];exact r2⟩
      ·rw [if_neg (by simp)]
       exact ⟨a,rfl,fun _=>(hpl 0).2.2,by simp,by simp⟩
    ·simp at hf
theorem slice_all {t e:TypeId} {ke:List K} (hu:P.underlying t=some (.slice e)) (hk:flK P 20 e=some ke) (hl:ke.length=P.cellsOf e∧0 < ke.length) {fuel:Nat} {cs:List Value} :
 ∀(n i:Nat) (xs:List (DataW T × List MemPlace)),((List.range' i n).mapM fun i=>DataW.trod enc P w 0 (fun _=>true) true fuel t ((cs.drop (i * 1)).take 1))=some xs→∀{ρ:Ro} {H:AH},HR ρ w H→(∀i,(hg H i).owned=false) →
  ∃(X:AH) (ρ':Ro) (l:List Sc),l.length=n∧(∀s∈l,SlOk ke s (H++X))∧L2 (SRel ρ') l ((cs.drop i).take n)∧HR ρ' w (H++X)∧Stab ρ ρ'∧∀i,(hg (H++X) i).owned=false:=by
 intro n
 induction n with
 | zero=>intro i xs _ ρ H g3 g4;exact ⟨[],ρ,[],rfl,by simp,by simp;exact .nil,by simpa using g3,Stab.refl ρ,by simpa using g4⟩
 | succ n ih =>
   intro i xs h ρ H g3 g4
   simp only [List.range'_succ,List.mapM_cons,Option.bind_eq_bind,Option.bind_eq_some_iff,Option.pure_def,Option.some.injEq] at h
   obtain ⟨x,hx,ys,hy,rfl⟩:=h
   obtain ⟨v,hv,X,ρ1,s,k1,k2,k3,k4,k5⟩:=slice_one hu hk hl hx g3 g4
   obtain ⟨Y,ρ2,l,m1,m2,m3,m4,m5,m6⟩:=ih (i+1) ys hy k3 k5
   rw [List.append_assoc] at m2 m4 m6
   refine ⟨X++Y,ρ2,s::l,by simp [m1],fun u hu=>?_,?_,m4,k4.trans m5,m6⟩
   ·rcases List.mem_cons.1 hu with rfl | hu
    ·rw [←List.append_assoc];exact k1.app
    ·exact m2 u hu
   ·rw [Nat.mul_one] at hv
    have e:(cs.drop i).take (n+1)=v::(cs.drop (i+1)).take n:=by
     have e1:cs.drop i=v::cs.drop (i+1):=by
      have:=List.take_append_drop 1 (cs.drop i)
      rw [hv,List.drop_drop] at this
      exact this.symm
     rw [e1,List.take_succ_cons]
    rw [e]
    exact .cons (k2.mono m5) m3
theorem args_rel:∀(ts:List TypeId) (pars:List Par) (vs:List Value) (ds:List (DataW T)) (ps:List MemPlace),parsT P ts=some pars→DataW.TrodAll enc P w 0 (fun _=>true) true ts vs ds ps →
 (∀(j:Nat) t v,ts[j]?=some t→vs[j]?=some v→∃base,Value.okWide P w .any base t v) →
 ds.length=pars.length∧∃H ρ avs,SigA pars avs H∧L2 (VRel ρ) avs vs∧HR ρ w H∧∀i,(hg H i).owned=false:=by
 intro ts
 induction ts with
 | nil =>
   intro pars vs ds ps hp h _
   simp [parsT] at hp;subst hp
   obtain ⟨rfl,rfl,rfl⟩:=ChangeShapes.trodAll_nil h
   exact ⟨rfl,[],ρ0,[],trivial,.nil,HR.nil w,fun i=>by rw [hg_ge _ (Nat.zero_le _)];rfl⟩
 | cons t ts ih =>
   intro pars vs ds ps hp h hok
   simp only [parsT] at hp
   split at hp <;> simp at hp
   rename_i par pars' hp1 hp2
   subst hp
   obtain ⟨v,vs',d,ds',p,q,rfl,rfl,rfl,h1,h2⟩:=ChangeShapes.trodAll_cons h
   obtain ⟨e0,H,ρ,avs,g1,g2,g3,g4⟩:=ih _ _ _ _ hp2 h2 fun j t v h1 h2=>hok (j+1) t v (by simpa using h1) (by simpa using h2)
   obtain ⟨base,hv⟩:=hok 0 t v rfl rfl
   refine ⟨by simp [e0],?_⟩
   obtain ⟨fuel,hf⟩:=h1
   unfold parT at hp1
   have flat:∀(b:Bool),(flK P 20 t).map (.fl b)=some par→(b=true→∃cs,v=.agg cs)→(b=false→∃u,v.cells.toList=[u]∧v=u) →
    ∃H ρ avs,SigA (par::pars') avs H∧L2 (VRel ρ) avs (v::vs')∧HR ρ w H∧∀i,(hg H i).owned=false:=by
    intro b hb h1 h2
    simp only [Option.map_eq_some_iff] at hb
    obtain ⟨ks,hk,rfl⟩:=hb
    obtain ⟨_,l,h3,h4⟩:=trod_fl (ρ:=ρ) fuel 20 t _ _ ks hk hf
    cases b with
    | true =>
      obtain ⟨cs,rfl⟩:=h1 rfl
      exact ⟨H,ρ,.g l::avs,⟨h3,g1⟩,.cons ⟨cs.toList,by simp,h4⟩ g2,g3,g4⟩
    | false =>
      obtain ⟨u,e1,rfl⟩:=h2 rfl
      rw [e1] at h4
      cases h4 with
      | cons h5 h6=>cases h6;exact ⟨H,ρ,.c _::avs,⟨h3,g1⟩,.cons h5 g2,g3,g4⟩
   split at hp1
   ·rename_i e hu
    simp only [Option.bind_eq_some_iff] at hp1
    obtain ⟨ke,hk,hp1⟩:=hp1
    split at hp1 <;> simp at hp1
    rename_i hl
    subst hp1
    obtain ⟨a0,len,cap,rfl⟩:=WideShapes.okWide_slice hu hv
    cases fuel with
    | zero=>simp [DataW.trod] at hf
    | succ fuel =>
      cases a0 with
      | none =>
        cases len <;> cases cap <;> simp [DataW.trod,hu,Value.cells] at hf
        exact ⟨H,ρ,.c .nils::avs,g1,.cons rfl g2,g3,g4⟩
      | some a =>
        simp only [DataW.trod,hu,Value.cells] at hf
        split at hf
        ·rename_i hc
         obtain ⟨_,hlc,hcm⟩:=hc
         have hcm':cap≤9223372036854775807:=hcm
         simp only [Option.bind_eq_some_iff] at hf
         obtain ⟨xs,hx,_⟩:=hf
         rw [List.range_eq_range'] at hx
         obtain ⟨l,r1,r2,r3⟩:=sl_rows (ρ:=ρ) hk hl.1 len 0 xs hx
         by_cases hn:len=0
         ·subst hn
          have hn':l=[]:=List.eq_nil_of_length_eq_zero (by rw [r1];simp)
          subst hn'
          obtain ⟨k1,k2,k3⟩:=g3.view .dead ⟨0,0,0,1,false,false⟩ rfl trivial g4
          refine ⟨H++[.dead],_,.c (.sl H.length 0 0 0)::avs,?_,.cons ⟨_,_,_,upd_same _ _ _,rfl,by simp,by omega,by omega,by simp,by simp⟩ (g2.mono fun _ _ h=>h.mono k2),k1,k3⟩
          have e:hg (H++[AObj.dead]) H.length=.dead:=by rw [hg_append,if_pos rfl]
          exact ⟨by simp,by rw [e];rfl,by rw [e];rfl,by omega,by rw [e];simp [AObj.cells],by rw [e];exact .nil,g1.app⟩
         ·have hpos:0 < len * ke.length:=Nat.mul_pos (by omega) hl.2
          obtain ⟨v0,hv0,_⟩:=r3 0 l[0] (by rw [List.getElem?_eq_getElem])
          rw [Nat.zero_mul,Nat.zero_add] at hv0
          have hpl:=fun j=>cell_plain hv0 j
          obtain ⟨k1,k2,k3⟩:=g3.view (.view l) ⟨a.block,a.off,cap,0,false,false⟩ rfl
           ⟨_,upd_same _ _ _,rfl,rfl,by simp,fun _=>(hpl 0).2.1,fun j s hj=>by
             obtain ⟨v,hv,hr⟩:=r3 j s hj
             rw [Nat.zero_mul,Nat.zero_add] at hv
             refine ⟨v,by rw [←(hpl j).1];exact hv,hr.mono ?_⟩
             intro i Li hi
             have:i≠H.length:=by rintro rfl;rw [g3.fresh _ (Nat.le_refl _)] at hi;simp at hi
             exact ⟨Li,by rw [upd_ne _ _ this,hi],.inl rfl⟩⟩ g4
          refine ⟨H++[.view l],_,.c (.sl H.length 0 0 len)::avs,?_,.cons ⟨_,some a,cap,upd_same _ _ _,rfl,by simp,hlc,by omega,by simp,fun _=>?_⟩ (g2.mono fun _ _ h=>h.mono k2),k1,k3⟩
          ·have e:hg (H++[AObj.view l]) H.length=.view l:=by rw [hg_append,if_pos rfl]
           exact ⟨by simp,by rw [e];rfl,by rw [e];rfl,by omega,by rw [e];exact r1,by rw [e];exact r2,g1.app⟩
          ·rw [if_neg (by simp)]
           exact ⟨a,rfl,fun _=>(hpl 0).2.2,by simp,by simp⟩
        ·simp at hf
   ·rename_i hu
    exact flat true hp1 (fun _=>by simp only [Value.okWide,hu] at hv;obtain ⟨cs,rfl,_⟩:=hv;exact ⟨cs,rfl⟩) (by simp)
   ·rename_i m e hu
    obtain ⟨cs,rfl⟩:∃cs,v=.agg cs:=by simp only [Value.okWide,hu] at hv;obtain ⟨cs,rfl,_⟩:=hv;exact ⟨cs,rfl⟩
    split at hp1
    ·rename_i e' hue
     simp only [Option.bind_eq_some_iff] at hp1
     obtain ⟨ke,hk,hp1⟩:=hp1
     split at hp1 <;> simp at hp1
     rename_i hl
     obtain ⟨hl1,hl2,hl3,hl4⟩:=hl
     subst hp1
     cases fuel with
     | zero=>simp [DataW.trod] at hf
     | succ fuel =>
       simp only [DataW.trod,hu,Value.cells] at hf
       split at hf
       ·rename_i hcl
        simp only [Option.map_eq_some_iff] at hf
        obtain ⟨xs,hx,_⟩:=hf
        rw [List.range_eq_range',hl3] at hx
        obtain ⟨X,ρ',l,m1,m2,m3,m4,m5,m6⟩:=slice_all hue hk ⟨hl1,hl2⟩ m 0 xs hx g3 g4
        rw [List.drop_zero,List.take_of_length_le (by omega)] at m3
        exact ⟨H++X,ρ',.g l::avs,⟨m1,m2,g1.app⟩,.cons ⟨cs.toList,by simp,m3⟩ (g2.mono fun _ _ h=>h.mono m5),m4,m6⟩
       ·simp at hf
    ·exact flat true hp1 (fun _=>⟨cs,rfl⟩) (by simp)
   ·rename_i hu
    exact flat false hp1 (by simp) (fun _=>by obtain ⟨n,rfl⟩:=WideShapes.okWide_int hu hv;exact ⟨_,rfl,rfl⟩)
   ·rename_i hu
    exact flat false hp1 (by simp) (fun _=>by obtain ⟨n,rfl⟩:=WideShapes.okWide_bool hu hv;exact ⟨_,rfl,rfl⟩)
   ·rename_i hu
    exact flat false hp1 (by simp) (fun _=>by obtain ⟨n,rfl⟩:=WideShapes.okWide_string hu hv;exact ⟨_,rfl,rfl⟩)
   ·simp at hp1
theorem trodAll_stays (hl:laidOutB P=true) {W W':World} {sp':Nat→Bool}:∀{ts:List TypeId} {vs:List Value} {ds:List (DataW T)} {ps:List MemPlace},(∀t∈ts,P.readableRec t=true∧t < P.types.size) →
 DataW.TrodAll enc P W 0 (fun _=>true) true ts vs ds ps→(∀p∈ps,W.sameAt W' p)→(∀p∈ps,sp' p.block=true)→DataW.TrodAll enc P W' 0 sp' true ts vs ds ps:=by
 intro ts
 induction ts with
 | nil =>
   intro vs ds ps _ h _ _
   obtain ⟨rfl,rfl,rfl⟩:=ChangeShapes.trodAll_nil h
   rfl
 | cons t ts ih =>
   intro vs ds ps hr h hs hp
   obtain ⟨v,vs',d,ds',p,q,rfl,rfl,rfl,h1,h2⟩:=ChangeShapes.trodAll_cons h
   obtain ⟨r1,r2⟩:=hr t (List.mem_cons_self ..)
   exact ⟨p,q,WideElems.Trod_stays hl r1 r2 h1 (fun x hx=>hs x (List.mem_append_left _ hx)) (fun x hx=>hp x (List.mem_append_left _ hx)),
    ih (fun t ht=>hr t (List.mem_cons_of_mem _ ht)) h2 (fun x hx=>hs x (List.mem_append_right _ hx)) (fun x hx=>hp x (List.mem_append_right _ hx)),rfl⟩
end
theorem law_post {H:Type} {enc:TypeId × Value→H} {C:Checked} {f:FuncId} {fn:Func} {s:ChangeSpec} {pars:List Par} {sf:List AV→AH→Option AV} {tb:TypeId} {apart fresh handsOn again:Bool}
 (hc:FpOk C.prog f fun a H=>(sf a H).map fun v=>(v,H)) (hs:∀avs H,SigA pars avs H→sf avs H=some (.c (.b true)))
 (hp:parsT C.prog fn.params.toList=some pars) (hl:laidOutB C.prog=true) (hr:(fn.params.toList.all fun t=>C.prog.readableRec t && decide (t < C.prog.types.size))=true)
 (hres:fn.resultTypes = #[tb]) (hb:C.prog.underlying tb=some .bool) (hv:s.vars=[])
 (hfn:∀ds:List (DataW H),ds.length=pars.length→s.fn H ds = {results:=[.lit (.bool true)],args:=ds})
 (W:World) (base:Nat) (args:Array Value) (ds gs:List (DataW H)) (before:List MemPlace)
 (hval:∀(j:Nat) t v,fn.params[j]?=some t→args[j]?=some v→Value.okWide C.prog W .any base t v)
 (hW:DataW.Whole enc C.prog fn.params.toList s.vars apart W args.toList ds gs before) :
 Calls C.prog f args W fun e W'=>∃v,e=.returned v∧s.post enc C.prog fn apart fresh handsOn again W args v W':=by
 have hW':=hW
 obtain ⟨p,q,hA,hV,rfl,hfz,hnd⟩:=hW
 rw [hv] at hV
 obtain ⟨rfl,rfl⟩:=ChangeShapes.trodVars_none hV
 obtain ⟨hlen,Hh,ρ,avs,h1,h2,h3,h4⟩:=args_rel (w:=W) _ _ _ _ _ hp hA fun j t v e1 e2=>⟨base,hval j t v (by simpa using e1) (by simpa using e2)⟩
 have hsf:=hs avs Hh h1
 have hcall:=hc.runs avs Hh (.c (.b true)) Hh (by simp [hsf]) ρ W args.toList h2 h3
 rw [Array.toArray_toList] at hcall
 refine hcall.mono fun e W' ⟨vc,ρ',he,hvc,_,_,hk,_⟩=>?_
 have hvb:vc=.bool true:=hvc
 subst hvb
 have hnone:∀b,¬Owns ρ Hh b:=by rintro b ⟨i,L,o1,_⟩;rw [h4 i] at o1;simp at o1
 have hk':Keep W (fun _=>False) W':=⟨hk.os,hk.tape,hk.output,hk.size,fun b hb _=>hk.old b hb (hnone b),fun b c t f hf hm=>hk.free b c t f hf (hm.imp (fun x=>x) (fun x=>x.elim))⟩
 have hg:=hk'.grown
 have hblk:∀x∈p++[],W.sameAt W' x:=fun x hx=>by
  have hlt:=hW'.lt x hx
  exact RowKit.Below.same (w':=W') ⟨hk'.os,hk'.tape,hk'.output,hk'.size,fun k hk2=>hk'.old k hk2 (fun f=>f)⟩ hlt
 have hr':∀t∈fn.params.toList,C.prog.readableRec t=true∧t < C.prog.types.size:=by
  intro t ht
  have:=List.all_eq_true.1 hr t ht
  simpa using this
 refine ⟨.bool true,he,ChangeShapes.post_of_same (pa:=p) (pv:=[]) hW' ?_ ?_ ?_ rfl (hg.frame _) hg.2.1 (RowKit.ok_one hres rfl (RowKit.okWide_bool_mk hb _))⟩
 ·intro b sp hd
  rw [hfn (ds++[]) (by simpa using hlen),hres]
  exact trodAll_cons_mk (RowKit.shut_bool hb true) ChangeShapes.trodAll_mk0
 ·intro sp hsp
  rw [hfn (ds++[]) (by simpa using hlen),List.append_nil]
  exact trodAll_stays hl hr' hA (fun x hx=>hblk x (by simpa using hx)) (fun x hx=>hsp x (by simpa using hx))
 ·intro sp _
  rw [hv,hfn (ds++[]) (by simpa using hlen)];rfl
theorem PuOk.fq {f:Nat} {s:List AV→Option AV} (h:PuOk P f s):FpOk P f fun a H=>(s a).map fun v=>(v,H):=by
 refine ⟨h.enters,fun args H v H' hs=>?_,fun args H v H' hs ρ w cs hcs hH=>?_⟩
 ·simp only [Option.map_eq_some_iff,Prod.mk.injEq] at hs;obtain ⟨_,_,_,rfl⟩:=hs;exact Nat.le_refl _
 ·simp only [Option.map_eq_some_iff,Prod.mk.injEq] at hs
  obtain ⟨v',h1,rfl,rfl⟩:=hs
  refine (h.pure args v' h1 ρ w cs hcs).mono fun e w' ⟨vc,he,hv,hk⟩=>?_
  exact ⟨vc,ρ,he,hv ρ,hH.keep hk,Stab.refl ρ,⟨hk.os,hk.tape,hk.output,hk.size,fun b hb _=>hk.old b hb (fun f=>f),fun b c t f hf hm=>by
   rcases hm with hm | hm
   ·exact hk.free b c t f hf (.inl hm)
   ·rcases Nat.lt_or_ge b w.heap.size with hlt | hge
    ·rw [hk.old b hlt (fun f=>f)] at hf;exact hH.frozen b c t f hf hm
    ·exact hk.free b c t f hf (.inl hge)⟩,fun b hb=>.inl hb⟩
theorem sig_nil {avs:List AV} {H:AH} (h:SigA [] avs H):avs=[]:=by
 cases avs with
 | nil=>rfl
 | cons a r=>simp [SigA] at h
theorem sig_c {k:K} {ps:List Par} {avs:List AV} {H:AH} (h:SigA (.fl false [k]::ps) avs H):∃s r,avs=.c s::r∧FitK s k∧SigA ps r H:=by
 cases avs with
 | nil=>simp [SigA] at h
 | cons a r =>
   cases a <;> simp [SigA] at h
   obtain ⟨h1,h2⟩:=h
   cases h1 with
   | cons h3 _=>exact ⟨_,r,rfl,h3,h2⟩
theorem sig_sl {ks:List K} {ps:List Par} {avs:List AV} {H:AH} (h:SigA (.sl ks::ps) avs H):∃r,SigA ps r H∧(avs=.c .nils::r∨∃id n,avs=.c (.sl id 0 0 n)::r ∧
 id < H.length∧(hg H id).row=0∧(hg H id).owned=false∧n≤9223372036854775807∧(hg H id).cells.length=n * ks.length∧L2 FitK (hg H id).cells (List.replicate n ks).flatten):=by
 cases avs with
 | nil=>simp [SigA] at h
 | cons a r =>
   cases a with
   | c s =>
     cases s with
     | nils=>exact ⟨r,by simpa [SigA] using h,.inl rfl⟩
     | sl id off ver n =>
       cases off <;> cases ver <;> simp [SigA] at h
       obtain ⟨h1,h2,h3,h4,h5,h6,h7⟩:=h
       exact ⟨r,h7,.inr ⟨id,n,rfl,h1,h2,h3,h4,h5,h6⟩⟩
     | _=>simp [SigA] at h
   | g l=>simp [SigA] at h
   | t l=>simp [SigA] at h
theorem sig_asl {n:Nat} {ks:List K} {ps:List Par} {avs:List AV} {H:AH} (h:SigA (.asl n ks::ps) avs H):∃l r,avs=.g l::r∧l.length=n∧(∀s∈l,SlOk ks s H)∧SigA ps r H:=by
 cases avs with
 | nil=>simp [SigA] at h
 | cons a r=>cases a <;> simp [SigA] at h;exact ⟨_,r,rfl,h⟩
theorem fk_i {s:Sc} (h:FitK s (.n .i64)):∃x,s=.i x∧-9223372036854775808≤x∧x≤9223372036854775807:=by
 cases s with
 | i x=>exact ⟨x,rfl,h⟩
 | k kd x=>simp only [FitK] at h;obtain ⟨rfl,h,_⟩:=h;simp [IntKind.bits] at h
 | _=>simp [FitK] at h
theorem fk_u {s:Sc} (h:FitK s (.n .u64)):∃x,s=.u x:=by
 cases s with
 | u x=>exact ⟨x,rfl⟩
 | k kd x=>simp only [FitK] at h;obtain ⟨rfl,h,_⟩:=h;simp [IntKind.bits] at h
 | _=>simp [FitK] at h
theorem fk_q {s:Sc} (h:FitK s .q):∃x,s=.b x:=by
 unfold FitK at h;split at h <;> simp_all
theorem fit_cons {l:List Sc} {k:K} {ks:List K} (h:L2 FitK l (k::ks)):∃s r,l=s::r∧FitK s k∧L2 FitK r ks:=by
 cases h with
 | cons h1 h2=>exact ⟨_,_,rfl,h1,h2⟩
theorem fit_nil {l:List Sc} (h:L2 FitK l []):l=[]:=by cases h;rfl
end Go.Am
