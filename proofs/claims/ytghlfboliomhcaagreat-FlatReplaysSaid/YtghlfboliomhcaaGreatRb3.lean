/- The types of this translation, as the abstract machine reads them: closed facts. -/
import Derived.Test.YtghlfboliomhcaaGreatProg
import Derived.Test.YtghlfboliomhcaaGreatRb2
set_option maxRecDepth 100000
set_option maxHeartbeats 8000000
open BitVec renaming ofInt->aw,toNat_sub->zo,toNat_ofInt->mf,lt_def->nP,le_def->sY,toInt_eq_toNat_cond->x9
open Bool renaming true_and->gG,and_true->c8,and_eq_true->aQ,not_eq_true->iM
open Int renaming toNat_natCast->aL,le_refl->AS
open List renaming flatMap_cons->rZ,length_append->cj,length_cons->cT,drop_succ_cons->Dl,drop_drop->uR,drop_left->J4,getElem?_eq_none->kf,drop_eq_getElem_cons->Dk,getElem?_eq_getElem->cP,getD_eq_getElem?_getD->bX,getElem?_take_of_lt->yb,getElem?_drop->td,flatMap_append->Hf,length_drop->uS,take_append_drop->Ho,replicate->bD,replicate_succ->yc,flatten_cons->Ce,append_assoc->fv,length_take->tg,drop_append->zt,drop_of_length_le->kN,nil_append->jW,drop_append_of_le_length->J3,take_append_of_le_length->Dr,drop_eq_nil_of_le->Nz,length_set->iR,take_succ_cons->Ds,cons_append->lf,append_nil->m7,all_cons->bK,all_flatMap->sZ,all_eq_true->cE,all_nil->dY,take_of_length_le->bQ,getElem?_take->Hj,take->bJ,drop->cQ,all_append->fJ,take_left'->nQ,length_nil->fa
open List.cons renaming injEq->cL
open Nat renaming add_mul->vI,one_mul->Cg,add_comm->zu,lt_or_ge->cX,mul_one->Fc,add_zero->ru,min_eq_left->ye,add_sub_cancel_left->th,add_assoc->m9,zero_add->oF,sub_self->Dx,le_refl->aB
open Option renaming map_some->pn,map_eq_some_iff->eE,bind_eq_some_iff->mh
open Option.some renaming injEq->ar
open Prod.mk renaming injEq->bE
namespace Go.Proofs.YtghlfboliomhcaaGreat
open Go.Am
theorem mP:Tryz.prog.follows .mixedOrders=true:=κ
theorem dT2:dT Tryz.prog 2=.int .i64:=κ
theorem dT3:dT Tryz.prog 3=.int .i64:=κ
theorem sT3:av Tryz.prog 3=1:=κ
theorem zT3:zT Tryz.prog 3=some [.i 0]:=κ
theorem dT4:dT Tryz.prog 4=.bool:=κ
theorem sT4:av Tryz.prog 4=1:=κ
theorem dT5:dT Tryz.prog 5=.int .u8:=κ
theorem sT5:av Tryz.prog 5=1:=κ
theorem bT5:mr Tryz.prog 5=1:=κ
theorem zT5:zT Tryz.prog 5=some [.k .u8 (0)]:=κ
theorem dT9:dT Tryz.prog 9=.str:=κ
theorem sT9:av Tryz.prog 9=1:=κ
theorem aaN:dT Tryz.prog 23=.st [(0,3),(1,3),(2,3),(3,3)]:=κ
theorem axj:av Tryz.prog 23=4:=κ
theorem aCi:zT Tryz.prog 23=some [.i 0,.i 0,.i 0,.i 0]:=κ
theorem anH:je Tryz.prog 12 23=some [.n,.n,.n,.n]:=κ
theorem aq3{a b:List Sc} :cA Tryz.prog .neq 23 (.g a) (.g b)=(jO [.n,.n,.n,.n] a b).bind (rE .neq):=Ki _ (by simp only [aaN,D.agg]) anH
theorem alj:dT Tryz.prog 24=.sl 35:=κ
theorem alk:dT Tryz.prog 25=.int .i64:=κ
theorem axk:av Tryz.prog 25=1:=κ
theorem aln:dT Tryz.prog 26=.int .u64:=κ
theorem axm:av Tryz.prog 26=1:=κ
theorem ai8:mr Tryz.prog 26=8:=κ
theorem aCk:zT Tryz.prog 26=some [.u 0#64]:=κ
theorem alr:dT Tryz.prog 27=.int .i64:=κ
theorem axp:av Tryz.prog 27=1:=κ
theorem S7:dT Tryz.prog 29=.st [(0,4),(1,4),(2,4),(3,26),(4,3)]:=κ
theorem axs:av Tryz.prog 29=5:=κ
theorem aCp:zT Tryz.prog 29=some [.b false,.b false,.b false,.u 0#64,.i 0]:=κ
theorem abE:je Tryz.prog 12 29=some [.q,.q,.q,.n,.n]:=κ
theorem amv{a b:List Sc} :cA Tryz.prog .eql 29 (.g a) (.g b)=(jO [.q,.q,.q,.n,.n] a b).bind (rE .eql):=yg _ (by simp only [S7,D.agg]) abE
theorem aq4{a b:List Sc} :cA Tryz.prog .neq 29 (.g a) (.g b)=(jO [.q,.q,.q,.n,.n] a b).bind (rE .neq):=Ki _ (by simp only [S7,D.agg]) abE
theorem alw:dT Tryz.prog 33=.st [(0,25),(1,26),(2,26),(3,3),(4,3),(5,27),(6,26),(7,26),(8,4),(9,3),(10,29),(15,31)]:=κ
theorem axt:av Tryz.prog 33=19:=κ
theorem aCq:zT Tryz.prog 33=some [.i 0,.u 0#64,.u 0#64,.i 0,.i 0,.i 0,.u 0#64,.u 0#64,.b false,.i 0,.b false,.b false,.b false,.u 0#64,.i 0,.i 0,.u 0#64,.i 0,.u 0#64]:=κ
theorem alx:dT Tryz.prog 35=.st [(0,3),(1,33)]:=κ
theorem axu:av Tryz.prog 35=20:=κ
variable {a b c:Nat}
theorem amM :cA Tryz.prog .eql 36 (.c (.p a b c)) (.c .dk)=some (.c (.b false)):=κ
theorem amR:cA Tryz.prog .eql 36 (.c .dk) (.c .dk)=some (.c (.b true)):=κ
theorem aly:dT Tryz.prog 42=.sl 5:=κ
theorem axv:av Tryz.prog 42=1:=κ
theorem amN{n:Nat} :cA Tryz.prog .eql 42 (.c (.sl a b c n)) (.c .az)=if n=0 then some (.c .qq) else some (.c (.b false)):=κ
theorem amS:cA Tryz.prog .eql 42 (.c .az) (.c .az)=some (.c (.b true)):=κ
theorem alz:dT Tryz.prog 44=.st [(0,42)]:=κ
theorem axw:av Tryz.prog 44=1:=κ
theorem aCr:zT Tryz.prog 44=some [.az]:=κ
theorem alA:dT Tryz.prog 45=.arr 8 4:=κ
theorem axx:av Tryz.prog 45=8:=κ
theorem alB:dT Tryz.prog 46=.arr 8 26:=κ
theorem axy:av Tryz.prog 46=8:=κ
theorem alC:dT Tryz.prog 48=.st [(0,45),(8,46)]:=κ
theorem axz:av Tryz.prog 48=16:=κ
theorem aCs:zT Tryz.prog 48=some [.b false,.b false,.b false,.b false,.b false,.b false,.b false,.b false,.u 0#64,.u 0#64,.u 0#64,.u 0#64,.u 0#64,.u 0#64,.u 0#64,.u 0#64]:=κ
theorem alD:dT Tryz.prog 50=.st [(0,23),(4,44),(5,48)]:=κ
theorem axA:av Tryz.prog 50=21:=κ
theorem aCt:zT Tryz.prog 50=some [.i 0,.i 0,.i 0,.i 0,.az,.b false,.b false,.b false,.b false,.b false,.b false,.b false,.b false,.u 0#64,.u 0#64,.u 0#64,.u 0#64,.u 0#64,.u 0#64,.u 0#64,.u 0#64]:=κ
theorem alE:dT Tryz.prog 52=.st [(0,3),(1,26),(2,46),(10,45)]:=κ
theorem axB:av Tryz.prog 52=18:=κ
theorem aCu:zT Tryz.prog 52=some [.i 0,.u 0#64,.u 0#64,.u 0#64,.u 0#64,.u 0#64,.u 0#64,.u 0#64,.u 0#64,.u 0#64,.b false,.b false,.b false,.b false,.b false,.b false,.b false,.b false]:=κ
theorem alF:dT Tryz.prog 53=.arr 32 3:=κ
theorem axC:av Tryz.prog 53=32:=κ
theorem alG:dT Tryz.prog 54=.arr 32 4:=κ
theorem axD:av Tryz.prog 54=32:=κ
theorem alH:dT Tryz.prog 55=.arr 16 54:=κ
theorem axE:av Tryz.prog 55=512:=κ
theorem alI:dT Tryz.prog 56=.arr 16 3:=κ
theorem axF:av Tryz.prog 56=16:=κ
theorem alJ:dT Tryz.prog 58=.st [(0,3),(1,53),(33,54),(65,54),(97,54),(129,55),(641,56)]:=κ
theorem axG:av Tryz.prog 58=657:=κ
theorem alK:dT Tryz.prog 60=.st [(0,3),(1,3),(2,3),(3,3),(4,3),(5,3),(6,4),(7,4),(8,4),(9,42),(10,42)]:=κ
theorem axH:av Tryz.prog 60=11:=κ
theorem aCv:zT Tryz.prog 60=some [.i 0,.i 0,.i 0,.i 0,.i 0,.i 0,.b false,.b false,.b false,.az,.az]:=κ
theorem alL:dT Tryz.prog 62=.st [(0,3),(1,52),(19,58),(676,60)]:=κ
theorem axI:av Tryz.prog 62=687:=κ
theorem alM:dT Tryz.prog 63=.arr 8 29:=κ
theorem axJ:av Tryz.prog 63=40:=κ
theorem aCw:zT Tryz.prog 63=some [.b false,.b false,.b false,.u 0#64,.i 0,.b false,.b false,.b false,.u 0#64,.i 0,.b false,.b false,.b false,.u 0#64,.i 0,.b false,.b false,.b false,.u 0#64,.i 0,.b false,.b false,.b false,.u 0#64,.i 0,.b false,.b false,.b false,.u 0#64,.i 0,.b false,.b false,.b false,.u 0#64,.i 0,.b false,.b false,.b false,.u 0#64,.i 0]:=κ
theorem alN:dT Tryz.prog 64=.arr 8 63:=κ
theorem axK:av Tryz.prog 64=320:=κ
theorem alO:dT Tryz.prog 66=.st [(0,3),(1,64)]:=κ
theorem axL:av Tryz.prog 66=321:=κ
theorem alP:dT Tryz.prog 68=.st [(0,50),(21,62),(708,66)]:=κ
theorem axM:av Tryz.prog 68=1029:=κ
theorem alQ:dT Tryz.prog 73=.st [(0,26),(1,4),(2,63)]:=κ
theorem axN:av Tryz.prog 73=42:=κ
theorem aCx:zT Tryz.prog 73=some [.u 0#64,.b false,.b false,.b false,.b false,.u 0#64,.i 0,.b false,.b false,.b false,.u 0#64,.i 0,.b false,.b false,.b false,.u 0#64,.i 0,.b false,.b false,.b false,.u 0#64,.i 0,.b false,.b false,.b false,.u 0#64,.i 0,.b false,.b false,.b false,.u 0#64,.i 0,.b false,.b false,.b false,.u 0#64,.i 0,.b false,.b false,.b false,.u 0#64,.i 0]:=κ
theorem alR:dT Tryz.prog 84=.sl 86:=κ
theorem aaP:dT Tryz.prog 86=.st [(0,3),(1,33),(20,73),(62,3),(63,3),(64,3)]:=κ
theorem axO:av Tryz.prog 86=65:=κ
theorem aja:mr Tryz.prog 86=376:=κ
theorem agN:zT Tryz.prog 86=some [.i 0,.i 0,.u 0#64,.u 0#64,.i 0,.i 0,.i 0,.u 0#64,.u 0#64,.b false,.i 0,.b false,.b false,.b false,.u 0#64,.i 0,.i 0,.u 0#64,.i 0,.u 0#64,.u 0#64,.b false,.b false,.b false,.b false,.u 0#64,.i 0,.b false,.b false,.b false,.u 0#64,.i 0,.b false,.b false,.b false,.u 0#64,.i 0,.b false,.b false,.b false,.u 0#64,.i 0,.b false,.b false,.b false,.u 0#64,.i 0,.b false,.b false,.b false,.u 0#64,.i 0,.b false,.b false,.b false,.u 0#64,.i 0,.b false,.b false,.b false,.u 0#64,.i 0,.i 0,.i 0,.i 0]:=κ
theorem alS:dT Tryz.prog 92=.ptr 152:=κ
theorem axP:av Tryz.prog 92=1:=κ
theorem amO :cA Tryz.prog .eql 92 (.c (.p a b c)) (.c .dk)=some (.c (.b false)):=κ
theorem amT:cA Tryz.prog .eql 92 (.c .dk) (.c .dk)=some (.c (.b true)):=κ
theorem alT:dT Tryz.prog 96=.st [(0,3),(1,64)]:=κ
theorem axQ:av Tryz.prog 96=321:=κ
theorem aaQ:dT Tryz.prog 99=.st [(0,4),(1,26)]:=κ
theorem axR:av Tryz.prog 99=2:=κ
theorem aCy:zT Tryz.prog 99=some [.b false,.u 0#64]:=κ
theorem anJ:je Tryz.prog 12 99=some [.q,.n]:=κ
theorem amw{a b:List Sc} :cA Tryz.prog .eql 99 (.g a) (.g b)=(jO [.q,.n] a b).bind (rE .eql):=yg _ (by simp only [aaQ,D.agg]) anJ
theorem ak3:dT Tryz.prog 100=.arr 8 99:=κ
theorem aw7:av Tryz.prog 100=16:=κ
theorem ak4:dT Tryz.prog 102=.st [(0,23),(4,42),(5,100),(21,92),(22,96)]:=κ
theorem ak5:dT Tryz.prog 139=.ptr 212:=κ
theorem aw8:av Tryz.prog 139=1:=κ
theorem amI :cA Tryz.prog .eql 139 (.c (.p a b c)) (.c .dk)=some (.c (.b false)):=κ
theorem amP:cA Tryz.prog .eql 139 (.c .dk) (.c .dk)=some (.c (.b true)):=κ
theorem aq5 :cA Tryz.prog .neq 139 (.c (.p a b c)) (.c .dk)=some (.c (.b true)):=κ
theorem aq8:cA Tryz.prog .neq 139 (.c .dk) (.c .dk)=some (.c (.b false)):=κ
theorem ak6:dT Tryz.prog 142=.st [(0,3),(1,26),(2,46),(10,45)]:=κ
theorem aw9:av Tryz.prog 142=18:=κ
theorem aCb:zT Tryz.prog 142=some [.i 0,.u 0#64,.u 0#64,.u 0#64,.u 0#64,.u 0#64,.u 0#64,.u 0#64,.u 0#64,.u 0#64,.b false,.b false,.b false,.b false,.b false,.b false,.b false,.b false]:=κ
theorem ak7:dT Tryz.prog 144=.arr 32 5:=κ
theorem axa:av Tryz.prog 144=32:=κ
theorem ak8:dT Tryz.prog 145=.int .u32:=κ
theorem axb:av Tryz.prog 145=1:=κ
theorem ak9:dT Tryz.prog 146=.arr 16 145:=κ
theorem axc:av Tryz.prog 146=16:=κ
theorem ala:dT Tryz.prog 147=.arr 16 5:=κ
theorem axd:av Tryz.prog 147=16:=κ
theorem alb:dT Tryz.prog 149=.st [(0,3),(1,144),(33,145),(34,145),(35,145),(36,146),(52,147)]:=κ
theorem axe:av Tryz.prog 149=68:=κ
theorem aCc:zT Tryz.prog 149=some [.i 0,.k .u8 (0),.k .u8 (0),.k .u8 (0),.k .u8 (0),.k .u8 (0),.k .u8 (0),.k .u8 (0),.k .u8 (0),.k .u8 (0),.k .u8 (0),.k .u8 (0),.k .u8 (0),.k .u8 (0),.k .u8 (0),.k .u8 (0),.k .u8 (0),.k .u8 (0),.k .u8 (0),.k .u8 (0),.k .u8 (0),.k .u8 (0),.k .u8 (0),.k .u8 (0),.k .u8 (0),.k .u8 (0),.k .u8 (0),.k .u8 (0),.k .u8 (0),.k .u8 (0),.k .u8 (0),.k .u8 (0),.k .u8 (0),.k .u32 (0),.k .u32 (0),.k .u32 (0),.k .u32 (0),.k .u32 (0),.k .u32 (0),.k .u32 (0),.k .u32 (0),.k .u32 (0),.k .u32 (0),.k .u32 (0),.k .u32 (0),.k .u32 (0),.k .u32 (0),.k .u32 (0),.k .u32 (0),.k .u32 (0),.k .u32 (0),.k .u32 (0),.k .u8 (0),.k .u8 (0),.k .u8 (0),.k .u8 (0),.k .u8 (0),.k .u8 (0),.k .u8 (0),.k .u8 (0),.k .u8 (0),.k .u8 (0),.k .u8 (0),.k .u8 (0),.k .u8 (0),.k .u8 (0),.k .u8 (0),.k .u8 (0)]:=κ
theorem alc:dT Tryz.prog 152=.st [(0,139),(1,3),(2,142),(20,149)]:=κ
theorem aCd:zT Tryz.prog 152=some [.dk,.i 0,.i 0,.u 0#64,.u 0#64,.u 0#64,.u 0#64,.u 0#64,.u 0#64,.u 0#64,.u 0#64,.u 0#64,.b false,.b false,.b false,.b false,.b false,.b false,.b false,.b false,.i 0,.k .u8 (0),.k .u8 (0),.k .u8 (0),.k .u8 (0),.k .u8 (0),.k .u8 (0),.k .u8 (0),.k .u8 (0),.k .u8 (0),.k .u8 (0),.k .u8 (0),.k .u8 (0),.k .u8 (0),.k .u8 (0),.k .u8 (0),.k .u8 (0),.k .u8 (0),.k .u8 (0),.k .u8 (0),.k .u8 (0),.k .u8 (0),.k .u8 (0),.k .u8 (0),.k .u8 (0),.k .u8 (0),.k .u8 (0),.k .u8 (0),.k .u8 (0),.k .u8 (0),.k .u8 (0),.k .u8 (0),.k .u8 (0),.k .u32 (0),.k .u32 (0),.k .u32 (0),.k .u32 (0),.k .u32 (0),.k .u32 (0),.k .u32 (0),.k .u32 (0),.k .u32 (0),.k .u32 (0),.k .u32 (0),.k .u32 (0),.k .u32 (0),.k .u32 (0),.k .u32 (0),.k .u32 (0),.k .u32 (0),.k .u32 (0),.k .u32 (0),.k .u8 (0),.k .u8 (0),.k .u8 (0),.k .u8 (0),.k .u8 (0),.k .u8 (0),.k .u8 (0),.k .u8 (0),.k .u8 (0),.k .u8 (0),.k .u8 (0),.k .u8 (0),.k .u8 (0),.k .u8 (0),.k .u8 (0),.k .u8 (0)]:=κ
theorem aq6 :cA Tryz.prog .neq 161 (.c (.p a b c)) (.c .dk)=some (.c (.b true)):=κ
theorem ald:dT Tryz.prog 162=.sl 3:=κ
theorem ale:dT Tryz.prog 165=.st [(0,26),(1,26),(2,3),(3,3)]:=κ
theorem axf:av Tryz.prog 165=4:=κ
theorem aCe:zT Tryz.prog 165=some [.u 0#64,.u 0#64,.i 0,.i 0]:=κ
theorem aaM:dT Tryz.prog 176=.st [(0,3),(1,26),(2,3)]:=κ
theorem axg:av Tryz.prog 176=3:=κ
theorem aCf:zT Tryz.prog 176=some [.i 0,.u 0#64,.i 0]:=κ
theorem anG:je Tryz.prog 12 176=some [.n,.n,.n]:=κ
theorem aq2{a b:List Sc} :cA Tryz.prog .neq 176 (.g a) (.g b)=(jO [.n,.n,.n] a b).bind (rE .neq):=Ki _ (by simp only [aaM,D.agg]) anG
theorem alf:dT Tryz.prog 212=.st [(0,5),(1,5),(2,5),(3,5),(4,5),(5,5),(6,4),(7,4),(8,4),(9,42),(10,42)]:=κ
theorem axh:av Tryz.prog 212=11:=κ
theorem aCg:zT Tryz.prog 212=some [.k .u8 (0),.k .u8 (0),.k .u8 (0),.k .u8 (0),.k .u8 (0),.k .u8 (0),.b false,.b false,.b false,.az,.az]:=κ
theorem alg:dT Tryz.prog 213=.int .u64:=κ
theorem axi:av Tryz.prog 213=1:=κ
theorem alh:dT Tryz.prog 220=.arr 2 42:=κ
theorem aCh:zT Tryz.prog 220=some [.az,.az]:=κ
theorem ali:dT Tryz.prog 221=.sl 26:=κ
theorem amJ :cA Tryz.prog .eql 235 (.c (.p a b c)) (.c .dk)=some (.c (.b false)):=κ
theorem aq7 :cA Tryz.prog .neq 235 (.c (.p a b c)) (.c .dk)=some (.c (.b true)):=κ
theorem amK :cA Tryz.prog .eql 236 (.c (.p a b c)) (.c .dk)=some (.c (.b false)):=κ
theorem aaO:dT Tryz.prog 253=.arr 9 5:=κ
theorem axl:av Tryz.prog 253=9:=κ
theorem aCj:zT Tryz.prog 253=some [.k .u8 (0),.k .u8 (0),.k .u8 (0),.k .u8 (0),.k .u8 (0),.k .u8 (0),.k .u8 (0),.k .u8 (0),.k .u8 (0)]:=κ
theorem anI:je Tryz.prog 12 253=some [.n,.n,.n,.n,.n,.n,.n,.n,.n]:=κ
theorem amu{a b:List Sc} :cA Tryz.prog .eql 253 (.g a) (.g b)=(jO [.n,.n,.n,.n,.n,.n,.n,.n,.n] a b).bind (rE .eql):=yg _ (by simp only [aaO,D.agg]) anI
theorem alm:dT Tryz.prog 259=.sl 9:=κ
theorem alo:dT Tryz.prog 261=.sl 266:=κ
theorem alp:dT Tryz.prog 263=.st [(0,26),(1,26),(2,3),(3,3)]:=κ
theorem axn:av Tryz.prog 263=4:=κ
theorem aCl:zT Tryz.prog 263=some [.u 0#64,.u 0#64,.i 0,.i 0]:=κ
theorem alq:dT Tryz.prog 266=.st [(0,26),(1,3),(2,3)]:=κ
theorem axo:av Tryz.prog 266=3:=κ
theorem ai9:mr Tryz.prog 266=24:=κ
theorem aCm:zT Tryz.prog 266=some [.u 0#64,.i 0,.i 0]:=κ
theorem als:dT Tryz.prog 272=.ptr 26:=κ
theorem axq:av Tryz.prog 272=1:=κ
theorem amL :cA Tryz.prog .eql 272 (.c (.p a b c)) (.c .dk)=some (.c (.b false)):=κ
theorem amQ:cA Tryz.prog .eql 272 (.c .dk) (.c .dk)=some (.c (.b true)):=κ
theorem alu:dT Tryz.prog 274=.st [(0,3),(1,272),(2,213)]:=κ
theorem axr:av Tryz.prog 274=3:=κ
theorem aCn:zT Tryz.prog 274=some [.i 0,.dk,.u 0#64]:=κ
theorem alv:dT Tryz.prog 289=.arr 3 4:=κ
theorem aCo:zT Tryz.prog 289=some [.b false,.b false,.b false]:=κ
variable {s:List AV->Option AV}
theorem tu{n:Nat}{t:ja} (h:cK Tryz.prog n s) (k:jC Tryz.prog t):jC Tryz.prog ((n,.pu s)::t):=jC.cons (e:=.pu s) h k
theorem tp{n:Nat}{s:List AV->AH->Option (AV×AH)}{t:ja} (h:bh Tryz.prog n s) (k:jC Tryz.prog t):jC Tryz.prog ((n,.fp s)::t):=jC.cons (e:=.fp s) h k
theorem tq{n:Nat}{s:List AV->AH->Option AV}{t:ja} (h:bh Tryz.prog n λa H=>(s a H).map λv=>(v,H)) (k:jC Tryz.prog t):jC Tryz.prog ((n,.fq s)::t):=jC.cons (e:=.fq s) h k
theorem tn:jC Tryz.prog []:=jC.nil
theorem w0:(∀n:Int,-9223372036854775808<=n->n<=9223372036854775807->aA n=n)/\(∀{α:Type} {c:Prop} [Decidable c] {a b:α},c->(if c then a else b)=a)/\(∀{α:Type} {c:Prop} [Decidable c] {a b:α},¬c->(if c then a else b)=b)/\(∀{p:Prop} [Decidable p],p->decide p=true)/\∀{p:Prop} [Decidable p],¬p->decide p=false:=⟨λ_=>aq,λh=>if_pos h,λh=>if_neg h,λh=>decide_eq_true h,λh=>decide_eq_false h⟩
section
variable {f:Nat} {fn:Func} {code:Code} {rs:List ResultVar} {n:Nat} {aa:ja} (ht:jC Tryz.prog aa) (hf:Tryz.prog.funcs[f]?=some fn) (hb:fn.body=some code) (mQ:fn.results=rs.toArray) (hn:fn.ntmps=n)
include ht hf hb mQ hn
theorem cR (h:∀args v,s args=some v->args.length<=n/\args.all AV.pf=true/\v.pf=true/\aK Tryz.prog aa [.c code] (tH 0 args) [] (λfr H=>sJ Tryz.prog fr H rs=some v)) (oQ:(fn.name== "runtime.NumGoroutine")=false:=by kernel_rfl) (aM:mw n vR code=true:=by kernel_rfl):cK Tryz.prog f s:=awn mP ht hf hb mQ hn oQ aM h
theorem gJ{s:List AV->AH->Option (AV×AH)} (hle:∀args H v H1,s args H=some (v,H1)->H.length<=H1.length) (h:∀args H v H1,s args H=some (v,H1)->(args.all (AV.aj H.length))=true->dF H=true->args.length<=n/\aK Tryz.prog ((1000000,.lo H.length)::aa) [.c code] (tH 0 args) H (λfr H'=>∃v',sJ Tryz.prog fr H' rs=some v'/\Wk H.length [(0,v')] H' ([(0,v)],H1))) (oQ:(fn.name== "runtime.NumGoroutine")=false:=by kernel_rfl) (aM:mw n vR code=true:=by kernel_rfl):bh Tryz.prog f s:=Tv mP ht hf hb mQ hn oQ aM hle h
theorem jo {s:List AV->AH->Option AV} (h:∀args H v,s args H=some v->(args.all (AV.aj H.length))=true->dF H=true->args.length<=n/\v.aj H.length=true/\aK Tryz.prog ((1000000,.lo H.length)::aa) [.c code] (tH 0 args) H (λfr H'=>sJ Tryz.prog fr H' rs=some v/\qz H H')) (oQ:(fn.name== "runtime.NumGoroutine")=false:=by kernel_rfl) (aM:mw n vR code=true:=by kernel_rfl):bh Tryz.prog f λargs H=>(s args H).map λv=>(v,H):=abt mP ht hf hb mQ hn oQ aM h
end
attribute [go_sem] dT2 dT3 sT3 zT3 dT4 sT4 dT5 sT5 bT5 zT5 dT9 sT9 aaN axj aCi aq3 alj alk axk aln axm ai8 aCk alr axp S7 axs aCp amv aq4 alw axt aCq alx axu amM amR aly axv amN amS alz axw aCr alA axx alB axy alC axz aCs alD axA aCt alE axB aCu alF axC alG axD alH axE alI axF alJ axG alK axH aCv alL axI alM axJ aCw alN axK alO axL alP axM alQ axN aCx alR aaP axO aja agN alS axP amO amT alT axQ aaQ axR aCy amw ak3 aw7 ak4 ak5 aw8 amI amP aq5 aq8 ak6 aw9 aCb ak7 axa ak8 axb ak9 axc ala axd alb axe aCc alc aCd aq6 ald ale axf aCe aaM axg aCf aq2 alf axh aCg alg axi alh aCh ali amJ aq7 amK aaO axl aCj amu alm alo alp axn aCl alq axo ai9 aCm als axq amL amQ alu axr aCn alv aCo
end Go.Proofs.YtghlfboliomhcaaGreat
set_option maxRecDepth 100000
set_option maxHeartbeats 8000000
namespace Go.Proofs.YtghlfboliomhcaaGreat
open Go.Am
set_option linter.all false
noncomputable section
section
variable {α:Type}{f:α->List Sc}{w:Nat}
theorem pF(h:∀x,(f x).length=w):∀L:List α,(L.flatMap f).length=L.length*w|[]=>by simp|x::L=>by rw[rZ,cj,pF h L,h x,cT,vI,Cg,zu]
theorem KM(h:∀x,(f x).length=w):∀(L:List α)(k:Nat),(L.flatMap f).drop (k*w)=(L.drop k).flatMap f
 |[],k=>by simp|x::L,0=>by simp|x::L,k+1=>by
   rw[rZ,Dl,<-KM h L k];have e:(k+1)*w=(f x).length+k*w:=by rw[h x,vI,Cg,zu]
   rw[e,<-uR,J4]
theorem KO(h:∀x,(f x).length=w){L:List α}{k:Nat}{x:α}(hx:L[k]?=some x):((L.flatMap f).drop (k*w)).take w=f x:=by
 rw[KM h];have hk:k<L.length:=by
  rcases cX k L.length with h|h
  .exact h
  .rw[kf h]at hx;simp at hx
 rw[Dk hk,rZ];rw[cP hk]at hx;simp only[ar]at hx;rw[hx,<-h x,List.take_left]
theorem Tu(h:∀x,(f x).length=w){L:List α}{k i:Nat}{x:α}(hx:L[k]?=some x)(hi:i<w):(L.flatMap f).getD (k*w+i) .any=(f x).getD i .any:=by
 have e:=KO h hx;rw[<-e,bX,bX,yb hi,td]
theorem FD(h:∀x,(f x).length=w){L:List α}{k:Nat}(hk:k<L.length):k*w+w<=(L.flatMap f).length:=by
 rw[pF h];have:(k+1)*w<=L.length*w:=Nat.mul_le_mul_right _ hk;rw[vI,Cg]at this;exact this
theorem OC{L M:List α}:(L++M).flatMap f=L.flatMap f++M.flatMap f:=Hf
end
def tF{α:Type}(w:Nat)(dc:List Sc->Option α):Nat->List Sc->Option (List α)|0,_=>some []|n+1,cs=>match dc (cs.take w),tF w dc n (cs.drop w)with|some a,some l=>some (a::l)|_,_=>none
theorem FB{α:Type}{w:Nat}{dc:List Sc->Option α}{f:α->List Sc}(h:∀x,(f x).length=w)(hd:∀x,dc (f x)=some x):∀L:List α,tF w dc L.length (L.flatMap f)=some L
 |[]=>rfl|x::L=>by
   simp only[cT,tF,rZ];rw[<-h x,List.take_left,J4,hd,h x,FB h hd L]
variable {α:Type}{w:Nat}
theorem On{dc:List Sc->Option α}{f:α->List Sc}(hd:∀cs x,dc cs=some x->cs=f x):∀(n:Nat)(cs:List Sc)(L:List α),cs.length=n*w->tF w dc n cs=some L->L.length=n/\cs=L.flatMap f:=by
 intro n;induction n with
 |zero=>intro cs L h1 h2;simp[tF]at h2;subst h2;exact⟨rfl,by simpa using h1⟩|succ n ih=>
   intro cs L h1 h2;simp only[tF]at h2;split at h2
   .rename_i a l e1 e2;simp only[ar]at h2;subst h2;obtain⟨g1,g2⟩:=ih _ _ (by rw[uS,h1,vI,Cg];omega) e2;refine⟨by simp[g1],?_⟩;rw[rZ,<-hd _ _ e1,<-g2,Ho]
   .simp at h2
def dh{α:Type}(w:Nat)(dc:List Sc->Option α)(H:AH):Sc->Option (List α)|.az=>some []|.sl id 0 v n=>if v=(hg H id).row/\(hg H id).cells.length=n*w then tF w dc n (hg H id).cells else none|_=>none
theorem B4{dc:List Sc->Option α}{f:α->List Sc}(h:∀x,(f x).length=w)(hd:∀x,dc (f x)=some x){H:AH}{id v n:Nat}{L:List α}(hv:v=(hg H id).row)(hn:n=L.length)(hc:(hg H id).cells=L.flatMap f):dh w dc H (.sl id 0 v n)=some L:=by
 subst hn;simp only[dh,hv,hc,pF h,and_self,if_true];exact FB h hd L
theorem xT{α:Type}{w:Nat}{dc:List Sc->Option α}{f:α->List Sc}(hd:∀cs x,dc cs=some x->cs=f x){H:AH}{x:Sc}{L:List α}(h:dh w dc H x=some L):(x=.az/\L=[])\/∃id v,x=.sl id 0 v L.length/\v=(hg H id).row/\(hg H id).cells=L.flatMap f:=by
 unfold dh at h;split at h
 .simp at h;exact .inl ⟨rfl,h⟩
 .split at h
  .rename_i id v n hc;obtain⟨e1,e2⟩:=On hd _ _ _ hc.2 h;exact .inr ⟨id,v,by rw[e1],hc.1,e2⟩
  .simp at h
 .simp at h
def Tj(x:BitVec 64):List Sc:=[.u x]
def sc:List Sc->Option (BitVec 64)|[.u x]=>some x|_=>none
theorem aaU(x:BitVec 64):sc (Tj x)=some x:=rfl
theorem al0(cs:List Sc)(x:BitVec 64)(h:sc cs=some x):cs=Tj x:=by unfold sc at h;split at h<;>simp_all[Tj]
def aCS(x:Int):List Sc:=[.i x]
def Kz:List Sc->Option Int|[.i x]=>some x|_=>none
def aCR(x:Bool):List Sc:=[.b x]
theorem HV{α:Type}{f:α->List Sc}{g:α->Sc}(h:∀x,f x=[g x]){L:List α}{k:Nat}{x:α}(hx:L[k]?=some x):(L.flatMap f).getD k .any=g x:=by
 have e:=Tu (f:=f) (w:=1) (i:=0) (λy=>by rw[h y];rfl) hx δ;rw[Fc,ru]at e;rw[e,h x];rfl
theorem ani{ks:List K}{f:α->List Sc}{p:α->Prop}(hk:∀cs,L2 jY cs ks->∃x,cs=f x/\p x):∀(n:Nat)(cs:List Sc),L2 jY cs (bD n ks).flatten->∃L:List α,L.length=n/\cs=L.flatMap f/\∀x∈L,p x:=by
 intro n;induction n with|zero=>intro cs h;simp only[List.replicate_zero,List.flatten_nil]at h;obtain rfl:=OA h;exact⟨[],rfl,rfl,by simp⟩|succ n ih=>
   intro cs h;rw[yc,Ce]at h;have split:∀(a b:List K)(cs:List Sc),L2 jY cs (a++b)->∃c d,cs=c++d/\L2 jY c a/\L2 jY d b:=by
    intro a;induction a with|nil=>intro b cs h;exact⟨[],cs,rfl,.nil,h⟩|cons k a ih=>
      intro b cs h;obtain⟨s,r,rfl,h1,h2⟩:=ku h;obtain⟨c,d,rfl,h3,h4⟩:=ih b r h2;exact⟨s::c,d,rfl,.cons h1 h3,h4⟩
   obtain⟨c,d,rfl,h1,h2⟩:=split _ _ _ h;obtain⟨x,rfl,hx⟩:=hk c h1;obtain⟨L,h3,rfl,h4⟩:=ih d h2;exact⟨x::L,by simp[h3],by rw[rZ],by simpa using⟨hx,h4⟩⟩
theorem azN{ks:List K}{ps:List Ch}{f:α->List Sc}{w:Nat}{dc:List Sc->Option α}{p:α->Prop}(hk:∀cs,L2 jY cs ks->∃x,cs=f x/\p x)(hw:∀x,(f x).length=w)(hd:∀x,dc (f x)=some x){fC:List AV}{H:AH}(h:j4 (.sl ks::ps) fC H):∃x r,fC=.c x::r/\j4 ps r H/\∃L:List α,dh w dc H x=some L/\(∀x∈L,p x)/\L.length<=9223372036854775807:=by
 obtain⟨r,hr,rfl|⟨id,n,rfl,h1,h2,h3,h4,h5,h6⟩⟩:=azO h
 .exact⟨_,r,rfl,hr,[],rfl,by simp,by simp⟩
 .obtain⟨L,e1,e2,e3⟩:=ani hk n _ h6;exact⟨_,r,rfl,hr,L,B4 hw hd h2.symm e1.symm e2,e3,ω⟩
section
variable {α:Type}{f:α->List Sc}{w:Nat}
theorem Bf(h:∀x,(f x).length=w){L:List α}{k:Nat}{x:α}(hx:L[k]?=some x):∃P Q,L.flatMap f=P++f x++Q/\P.length=k*w/\∀y,(L.set k y).flatMap f=P++f y++Q:=by
 have hk:k<L.length:=by
  rcases cX k L.length with h|h
  .exact h
  .rw[kf h]at hx;simp at hx
 rw[cP hk]at hx;simp only[ar]at hx;refine⟨(L.take k).flatMap f,(L.drop (k+1)).flatMap f,?_,?_,λy=>?_⟩
 .conv=>lhs;rw[<-Ho k L,Dk hk]
  rw[Hf,rZ,hx,fv]
 .rw[pF h,tg,ye ω]
 .rw[List.set_eq_take_append_cons_drop,if_pos hk,Hf,rZ,fv]
theorem az2{P M Q:List Sc}{o m:Nat}(h:o+m<=M.length):((P++M++Q).drop (P.length+o)).take m=(M.drop o).take m:=by rw[fv,zt,kN ω,jW,th,J3 ω,Dr (by rw[uS];omega)]
theorem JN{P M Q l:List Sc}{o:Nat}(h:o+l.length<=M.length):(P++M++Q).take (P.length+o)++l++(P++M++Q).drop (P.length+o+l.length)=P++(M.take o++l++M.drop (o+l.length))++Q:=by
 rw[fv P M Q,List.take_length_add_append,Dr ω,m9,List.drop_length_add_append,J3 h];simp only[fv]
end
theorem aBV{α:Type}{f:α->List Sc}{w:Nat}(h:∀x,(f x).length=w){L:List α}{k:Nat}{x:α}(hk:k<L.length):wr (L.flatMap f) (k*w) (f x)=(L.set k x).flatMap f:=by
 obtain⟨P,Q,h1,h2,h3⟩:=Bf h (cP hk);rw[h1,h3];unfold wr;have:=JN (P:=P) (M:=f L[k]) (Q:=Q) (l:=f x) (o:=0) (by rw[h,h];omega);rw[ru,h2]at this;rw[this];simp[h]
variable {i:Nat}
theorem AO{A M B a:List Sc}(h:i+a.length<=M.length):wr (A++(M++B)) (A.length+i) a=A++(wr M i a++B):=by
 unfold wr;rw[List.take_length_add_append,m9,zt,Dr ω,Nz (show A.length<=A.length+(i+a.length)by omega),show A.length+(i+a.length)-A.length=i+a.length by omega,J3 h];simp only[fv,jW]
theorem xx{A M B:List Sc}{i:Nat}(h:i<M.length):(A++(M++B)).getD (A.length+i) .any=M.getD i .any:=by
 simp only[bX];rw[List.getElem?_append_right ω,show A.length+i-A.length=i by omega,List.getElem?_append_left h]
theorem amh{A M B:List Sc}{i n:Nat}(h:i+n<=M.length):((A++(M++B)).drop (A.length+i)).take n=(M.drop i).take n:=by rw[zt,Nz ω,show A.length+i-A.length=i by omega,jW,J3 ω,Dr (by simp;omega)]
structure Rq where
 s:Bool
 v:Bool
 d:Bool
 a:BitVec 64
 i:Int
def fV(r:Rq):List Sc:=[.b r.s,.b r.v,.b r.d,.u r.a,.i r.i]
def Om:List Sc->Option Rq|[.b s,.b v,.b d,.u a,.i i]=>some ⟨s,v,d,a,i⟩|_=>none
theorem alY(r:Rq):Om (fV r)=some r:=rfl
theorem alX(cs:List Sc)(r:Rq)(h:Om cs=some r):cs=fV r:=by
 unfold Om at h;split at h
 .simp only[ar]at h;subst h;rfl
 .simp at h
theorem vT(r:Rq):(fV r).length=5:=rfl
def pO:Rq:=⟨false,false,false,0#64,0⟩
abbrev Row:={r:List Rq//r.length=8}
def jU(r:Row):List Sc:=r.1.flatMap fV
theorem uI(r:Row):(jU r).length=40:=by unfold jU;rw[pF vT,r.2]
def KA(cs:List Sc):Option Row:=if cs.length=40 then match tF 5 Om 8 cs with
 |some l=>if h:l.length=8 then some ⟨l,h⟩else none|none=>none else none
theorem al2(r:Row):KA (jU r)=some r:=by
 unfold KA;rw[if_pos (uI r)];have:=FB vT alY r.1;rw[r.2]at this;unfold jU;rw[this];simp only[r.2,dite_true]
theorem al1(cs:List Sc)(r:Row)(h:KA cs=some r):cs=jU r:=by
 unfold KA at h;split at h
 .rename_i hl;split at h
  .rename_i l hd;split at h
   .simp only[ar]at h;subst h;exact(On alX 8 cs l ω hd).2
   .simp at h
  .simp at h
 .simp at h
def jA:Row:=⟨bD 8 pO,rfl⟩
def aH(n:Int)(B:List Row):List Sc:=.i n::B.flatMap jU
theorem kK{B:List Row}(n:Int)(h:B.length=8):(aH n B).length=321:=by unfold aH;rw[cT,pF uI,h]
def Af:ae->Option (Int×List Row)|.own (.i n::cs)=>if cs.length=8*40 then(tF 40 KA 8 cs).map λB=>(n,B)else none|_=>none
variable {n:Int}
theorem Ag{B:List Row}(h:B.length=8):Af (.own (aH n B))=some (n,B):=by
 unfold aH Af;have:=FB uI al2 B;rw[h]at this;simp only[pF uI,h,if_true,this,pn]
theorem Vd{o:ae}{B:List Row}(h:Af o=some (n,B)):o=.own (aH n B)/\B.length=8:=by
 unfold Af at h;split at h
 .split at h
  .rename_i hc;simp only[eE,bE]at h;obtain⟨B',h1,rfl,rfl⟩:=h;obtain⟨h2,h3⟩:=On al1 8 _ _ hc h1;exact⟨by rw[h3];rfl,h2⟩
  .simp at h
 .simp at h
def fH(B:List Row)(t f:Nat):Rq:=match B[t]? with|some r=>(r.1[f]?).getD pO|none=>pO
def wN(B:List Row)(t f:Nat)(q:Rq):List Row:=match B[t]? with|some r=>B.set t ⟨r.1.set f q,by rw[iR];exact r.2⟩|none=>B
variable {t f:Nat}
theorem G0{B:List Row}(hB:B.length=8)(ht:t<8)(hf:f<8):((aH n B).drop (1+t*40+f*5)).take 5=fV (fH B t f):=by
 obtain⟨r,hr⟩:∃r,B[t]?=some r:=⟨_,cP ω⟩;obtain⟨q,hq⟩:∃q,r.1[f]?=some q:=⟨_,cP (by rw[r.2];omega)⟩;obtain⟨P,Q,e1,e2,_⟩:=Bf uI hr;unfold aH;rw[show 1+t*40+f*5=(t*40+f*5)+1 by omega,Dl,e1,<-e2,az2 (by rw[uI];omega)];unfold jU;rw[KO vT hq];unfold fH;rw[hr];simp only[hq,Option.getD_some]
theorem Ys{B:List Row}(hB:B.length=8)(ht:t<8)(hf:f<8)(q:Rq):(aH n B).take (1+t*40+f*5)++fV q++(aH n B).drop (1+t*40+f*5+5)=aH n (wN B t f q):=by
 obtain⟨r,hr⟩:∃r,B[t]?=some r:=⟨_,cP ω⟩;obtain⟨q0,hq⟩:∃q,r.1[f]?=some q:=⟨_,cP (by rw[r.2];omega)⟩;obtain⟨P,Q,e1,e2,e3⟩:=Bf uI hr;obtain⟨P',Q',g1,g2,g3⟩:=Bf vT hq;unfold aH wN;rw[hr];simp only;rw[e3,e1,show 1+t*40+f*5=(t*40+f*5)+1 by omega,Ds,show(t*40+f*5)+1+5=(t*40+f*5+(fV q).length)+1 by rw[vT],Dl,lf,lf];congr 1;rw[<-e2,JN (by rw[uI,vT];omega)];congr 2;unfold jU;simp only;rw[g3,g1];have:=JN (P:=P') (M:=fV q0) (Q:=Q') (l:=fV q) (o:=0) (by simp[vT]);rw[ru]at this;rw[<-g2,this];simp[fV]
theorem awM{B:List Row}{r:Row}(hB:B.length=8)(ht:t<8)(hr:B[t]?=some r):((aH n B).drop (1+t*40)).take 40=jU r:=by
 unfold aH;rw[show 1+t*40=(t*40)+1 by omega,Dl,KO uI hr]
theorem awN{B:List Row}(hB:B.length=8)(ht:t<8)(r:Row):(aH n B).take (1+t*40)++jU r++(aH n B).drop (1+t*40+40)=aH n (B.set t r):=by
 obtain⟨r0,hr⟩:∃r,B[t]?=some r:=⟨_,cP ω⟩;obtain⟨P,Q,e1,e2,e3⟩:=Bf uI hr;unfold aH;rw[e3,e1,show 1+t*40=(t*40)+1 by omega,Ds,show t*40+1+40=(t*40+40)+1 by omega,Dl,lf,lf];congr 1;have:=JN (P:=P) (M:=jU r0) (Q:=Q) (l:=jU r) (o:=0) (by simp[uI]);rw[ru,uI]at this;rw[<-e2,this];rw[List.take_zero,jW,oF,kN (by rw[uI];omega),m7]
theorem QS(B:List Row)(t f:Nat)(q:Rq):(wN B t f q).length=B.length:=by unfold wN;split<;>simp
theorem Gj(n:Int)(B:List Row)(m:Nat):(aH n B).all (Sc.aj m)=true:=by
 unfold aH;rw[bK];simp only[Sc.aj,gG];rw[sZ];exact cE.2 λr _=>by unfold jU;rw[sZ];exact cE.2 λ_ _=>rfl
theorem Qb(r:Row):(jU r).all Sc.one=true:=by unfold jU;rw[sZ];exact cE.2 λ_ _=>rfl
def BQ(r:Rq):Rq:=⟨r.s,r.v,r.d,if r.v=true then r.a else 0#64,if r.d=true then r.i else 0⟩
def Xv(args:List AV):Option AV:=match args with|[.g [.b s,.b v,.b d,.u a,.i i]]=>some (.g (fV (BQ ⟨s,v,d,a,i⟩)))|_=>none
theorem Xx{s v d a i}:Xv [.g [.b s,.b v,.b d,.u a,.i i]]=some (.g (fV (BQ ⟨s,v,d,a,i⟩))):=rfl
theorem atA:cK Tryz.prog 145 Xv:=by
 refine cR tn Tryz.func145 rfl Tryz.results145 Tryz.ntmps145 ?_;intro args v h;unfold Xv at h;split at h
 .rename_i s v d a i;simp only[ar]at h;subst h;refine⟨by simp,rfl,rfl,?_⟩;cases v<;>cases d<;>simp only[go_sem,seval,fV,BQ]
 .simp at h
def vV(a b:Rq):Bool:=(a.s==b.s)&&((a.v==b.v)&&((a.d==b.d)&&(decide (a.a=b.a)&&decide (a.i=b.i))))
theorem abb{a b:Rq}:(vV a b=true)=(a=b):=by
 apply propext;cases a;cases b;simp[vV,Rq.mk.injEq]
def lY(o r:Rq):Rq:=if o.s=false\/vV o (BQ r)=true then BQ r else⟨true,false,false,0#64,0⟩
def Xs(args:List AV):Option AV:=match args with|[.g [.b os,.b ov,.b od,.u oa,.i oi],.g [.b s,.b v,.b d,.u a,.i i]]=>some (.g (fV (lY ⟨os,ov,od,oa,oi⟩ ⟨s,v,d,a,i⟩)))|_=>none
theorem ayC{os ov od oa oi s v d a i}:Xs [.g [.b os,.b ov,.b od,.u oa,.i oi],.g [.b s,.b v,.b d,.u a,.i i]]=some (.g (fV (lY ⟨os,ov,od,oa,oi⟩ ⟨s,v,d,a,i⟩))):=rfl
theorem aty:cK Tryz.prog 91 Xs:=by
 refine cR (tu atA tn) Tryz.func91 rfl Tryz.results91 Tryz.ntmps91 ?_;intro args v h;unfold Xs at h;split at h
 .rename_i os ov od oa oi s v d a i;simp only[ar]at h;subst h;refine⟨by simp,rfl,rfl,?_⟩;generalize hp:BQ ⟨s,v,d,a,i⟩=p;obtain⟨ps,pv,pd,pa,pi⟩:=p;cases os
  .have e0:lY ⟨false,ov,od,oa,oi⟩ ⟨s,v,d,a,i⟩=⟨ps,pv,pd,pa,pi⟩:=by simp[lY,hp]
   rw[e0];simp only[go_sem,seval,Xx,hp,fV]
  .cases he:vV ⟨true,ov,od,oa,oi⟩ ⟨ps,pv,pd,pa,pi⟩
   .have e0:lY ⟨true,ov,od,oa,oi⟩ ⟨s,v,d,a,i⟩=⟨true,false,false,0#64,0⟩:=by simp[lY,hp,he]
    rw[e0];simp only[vV,Bool.true_beq]at he;simp only[go_sem,seval,Xx,hp,fV,he]
   .have e0:lY ⟨true,ov,od,oa,oi⟩ ⟨s,v,d,a,i⟩=⟨ps,pv,pd,pa,pi⟩:=by simp[lY,hp,he]
    rw[e0];simp only[vV,Bool.true_beq]at he;simp only[go_sem,seval,Xx,hp,fV,he]
 .simp at h
def gv(n h:Int):Bool:=decide (0<=h)&&decide (h<n)
def Jq(args:List AV)(H:AH):Option AV:=match args with
 |[.c (.p id 0 0),.c (.i h)]=>match Af (hg H id)with
   |some (n,_)=>some (.c (.b (gv n h)))|none=>none
 |_=>none
theorem ayA{id:Nat}{h n:Int}{B:List Row}{H:AH}(e:hg H id=.own (aH n B))(hB:B.length=8):Jq [.c (.p id 0 0),.c (.i h)] H=some (.c (.b (gv n h))):=by simp only[Jq,e,Ag hB]
theorem atw:bh Tryz.prog 73 (λargs H=>(Jq args H).map λv=>(v,H)):=by
 refine jo (s:=Jq) tn Tryz.func73 rfl Tryz.results73 Tryz.ntmps73 ?_;intro args H v h b9 hH;unfold Jq at h;split at h
 .rename_i id h';split at h
  .rename_i n B hm;simp only[ar]at h;subst h;obtain⟨e,hB⟩:=Vd hm;refine⟨by simp,rfl,?_⟩;have l:=kK n hB;have g0:(aH n B).getD 0 .any=.i n:=rfl;by_cases h1:0<=h';all_goals simp only[go_sem,seval,e,l,g0,gv,h1]
   all_goals exact aE _
  .simp at h
 .simp at h
def fk(n cd k h:Int)(rs:Bool)(i:Int):Bool:=if gv n cd=true then(if k=12 then true else if k=13 then(if rs=false then false else if i<0 then false else if 65535<i then false else gv n h&&!decide (h=cd))else if k=14 then gv n h&&!decide (h=cd)else false)else false
def aDy(args:List AV)(H:AH):Option AV:=match args with
 |[.c (.p id 0 0),.c (.i cd),.g [.i k,.u _,.u _,.i _,.i _,.i _,.u _,.u _,.b _,.i h,.b rs,.b _,.b _,.u _,.i i,.i _,.u _,.i _,.u _]]=>match Af (hg H id)with
   |some (n,_)=>some (.c (.b (fk n cd k h rs i)))|none=>none
 |_=>none
def Z8:List Row:=bD 8 jA
theorem zx:Z8.length=8:=rfl
theorem Qa:jU jA=[.b false,.b false,.b false,.u 0#64,.i 0,.b false,.b false,.b false,.u 0#64,.i 0,.b false,.b false,.b false,.u 0#64,.i 0,.b false,.b false,.b false,.u 0#64,.i 0,.b false,.b false,.b false,.u 0#64,.i 0,.b false,.b false,.b false,.u 0#64,.i 0,.b false,.b false,.b false,.u 0#64,.i 0,.b false,.b false,.b false,.u 0#64,.i 0]:=rfl
theorem Nv:zT Tryz.prog 96=some (aH 0 Z8):=κ
def Xt(args:List AV):Option AV:=match args with|[.c (.i n)]=>some (.g (aH (if 1<=n/\n<=8 then n else 0) Z8))|_=>none
theorem Xu{n}:Xt [.c (.i n)]=some (.g (aH (if 1<=n/\n<=8 then n else 0) Z8)):=rfl
theorem atz:cK Tryz.prog 22 Xt:=by
 refine cR tn Tryz.func22 rfl Tryz.results22 Tryz.ntmps22 ?_;intro args v h;unfold Xt at h;split at h
 .rename_i n;simp only[ar]at h;subst h;have pz:∀m,(aH m Z8).all Sc.pf=true:=λm=>rfl;refine⟨by simp,by first|rfl|simp only[bK,dY,AV.pf,Sc.pf,c8, *],by first|rfl|simp only[bK,dY,AV.pf,Sc.pf,c8, *],?_⟩;have l0:=λm=>kK m zx;have d1:∀m,(aH m Z8).drop 321=[]:=λm=>kN (by rw[l0];omega);have d2:∀m,(aH m Z8).drop 1=Z8.flatMap jU:=λm=>rfl;have d3:∀m,(aH m Z8).all Sc.one=true:=λm=>rfl;have d4:∀m,.i m::Z8.flatMap jU=aH m Z8:=λm=>rfl;have d5:∀m,(aH m Z8).take 321=aH m Z8:=λm=>bQ (by rw[l0];omega);by_cases h1:n<1
  .have e:(if 1<=n/\n<=8 then n else 0)=0:=if_neg ω;simp only[go_sem,seval,h1,e,Nv,l0,d1,d2,d3,d4,d5]
  by_cases h2:8<n
  .have e:(if 1<=n/\n<=8 then n else 0)=0:=if_neg ω;simp only[go_sem,seval,h1,h2,e,Nv,l0,d1,d2,d3,d4,d5]
  .have e:(if 1<=n/\n<=8 then n else 0)=n:=if_pos ω;simp only[go_sem,seval,h1,h2,e,Nv,l0,d1,d2,d3,d4,d5]
 .simp at h
def fL(d:BitVec 64)(g:Bool)(r:Row):List Sc:=.u d::.b g::jU r
def rowAt(B:List Row)(t:Nat):Row:=(B[t]?).getD jA
theorem hgS{H X:AH}{id n:Nat}{o:ae}:hg (H.set id o++X) (H.length+n)=hg X n:=by
 have:=gM (H:=H.set id o) (X:=X) (n:=n);rwa[iR]at this
theorem stS{H X:AH}{id n:Nat}{o o':ae}:(H.set id o++X).set (H.length+n) o'=H.set id o++X.set n o':=by
 have:=xS (H:=H.set id o) (X:=X) (n:=n) (o:=o');rwa[iR]at this
def nn(n:Int)(B:List Row)(cd k h:Int)(q:Rq):List Row:=if fk n cd k h q.s q.i=true then(if k=13 then wN B h.toNat cd.toNat (lY (fH B h.toNat cd.toNat) q)else if k=12 then B.set cd.toNat jA else B)else B
def nj(n:Int)(B:List Row)(cd k h:Int)(q:Rq):List Sc:=if fk n cd k h q.s q.i=true then(if k=13 then fL 0#64 false jA else if k=12 then fL 0#64 false (rowAt B cd.toNat)else fL 0#64 (vV (fH B h.toNat cd.toNat) pO) jA)else fL 0#64 false jA
variable {cd h:Int}
theorem aa0{B:List Row}{k:Int}{q:Rq}:(nn n B cd k h q).length=B.length:=by
 unfold nn;split
 .split
  .exact QS _ _ _ _
  .split
   .simp
   .rfl
 .rfl
theorem amc(n:Int)(B:List Row)(cd k h:Int)(q:Rq)(m:Nat):(nj n B cd k h q).all (Sc.aj m)=true:=by
 have:∀d g r,(fL d g r).all (Sc.aj m)=true:=λd g r=>by
  unfold fL jU;rw[bK,bK,sZ];simp only[Sc.aj,gG];exact cE.2 λ_ _=>rfl
 unfold nj;repeat' split
 all_goals exact this _ _ _
def aDx(args:List AV)(H:AH):Option (AV×AH):=match args with
 |[.c (.p id 0 0),.c (.i cd),.g [.i k,.u _,.u _,.i _,.i _,.i _,.u _,.u _,.b _,.i h,.b rs,.b rv,.b ra,.u va,.i i,.i _,.u _,.i _,.u _]]=>match Af (hg H id)with
   |some (n,B)=>if n<=8 then some (.t [.g (nj n B cd k h ⟨rs,rv,ra,va,i⟩),.c (.b (fk n cd k h rs i))],H.set id (.own (aH n (nn n B cd k h ⟨rs,rv,ra,va,i⟩))))else none|none=>none
 |_=>none
theorem Vb{k i:Int}{rs:Bool}(hm:fk n cd k h rs i=true):gv n cd=true/\(k=12\/((k=13\/k=14)/\gv n h=true)):=by
 unfold fk at hm;split at hm
 .rename_i h0;refine⟨h0,?_⟩;split at hm
  .exact .inl ‹_›
  .split at hm
   .rename_i h13;refine .inr ⟨.inl h13,?_⟩;repeat' split at hm
    all_goals first|(simp at hm;done)|(simp only[aQ]at hm;exact hm.1)
   .split at hm
    .rename_i h14;simp only[aQ]at hm;exact .inr ⟨.inr h14,hm.1⟩
    .simp at hm
 .simp at hm
def bR(x:Int):List Sc:=[.k .u8 x]
theorem Ou(x:Int):(bR x).length=1:=rfl
def d8F:List Sc->Option Int|[.k .u8 x]=>some x|_=>none
def Cs:List Sc->Option (List Int)|[]=>some []|.k .u8 n::r=>(Cs r).map (n::·)|_=>none
variable {L:List Int}
theorem SC{cs:List Sc}(h:Cs cs=some L):cs=L.flatMap bR:=by induction cs generalizing L with|nil=>simp[Cs]at h;subst h;rfl|cons a r ih=>
 unfold Cs at h;split at h
 .simp_all
 .rename_i n r' heq;simp only[cL]at heq;obtain⟨rfl,rfl⟩:=heq;rw[eE]at h;obtain⟨l',h5,rfl⟩:=h;rw[ih h5];rfl
 .simp at h
theorem Hz(L:List Int):Cs (L.flatMap bR)=some L:=by induction L with|nil=>rfl|cons a r ih=>rw[rZ];simp[bR,Cs,ih]
def iT(H:AH):Sc->Option (List Int)|.az=>some []|.sl id off v n=>if v=(hg H id).row/\off+n<=(hg H id).cells.length then Cs (((hg H id).cells.drop off).take n)else none|_=>none
variable {H:AH}{x:Sc}
theorem vO(h:iT H x=some L):(x=.az/\L=[])\/∃id off,x=.sl id off (hg H id).row L.length/\off+L.length<=(hg H id).cells.length/\((hg H id).cells.drop off).take L.length=L.flatMap bR:=by
 unfold iT at h;split at h
 .simp only[ar]at h;exact .inl ⟨rfl,h.symm⟩
 .rename_i id off v n;split at h
  .rename_i hc;obtain⟨rfl,hc⟩:=hc;have e:=SC h;have l:n=L.length:=by
    have:=congrArg List.length e;rw[pF Ou,tg,uS]at this;omega
   subst l;exact .inr ⟨id,off,rfl,hc,e⟩
  .simp at h
 .simp at h
def AI(b:Int)(v:BitVec 64):BitVec 64:=(v<<<8)|||(aw 64 b)
def mU(L:List Int):BitVec 64:=L.foldr AI 0#64
theorem ars(L M:List Int):mU (L++M)=L.foldr AI (mU M):=by unfold mU;rw[List.foldr_append]
def Jl(args:List AV)(H:AH):Option AV:=match args with
 |[.c x,.c y]=>match iT H x,iT H y with
   |some L,some M=>if L.length<=1000000/\M.length<=1000000 then some (.c (.u (mU (L++M))))else none|_,_=>none
 |_=>none
theorem Xc{y:Sc}{M:List Int}(h1:iT H x=some L)(h2:iT H y=some M)(h3:L.length<=1000000)(h4:M.length<=1000000):Jl [.c x,.c y] H=some (.c (.u (mU (L++M)))):=by simp only[Jl,h1,h2];rw[if_pos ⟨h3,h4⟩]
theorem an3(fr:Fr)(s:Nat):Am.get fr s=.c .any\/∃p∈fr,p.1=s/\Am.get fr s=p.2:=by induction fr with
 |nil=>exact .inl rfl|cons a r ih=>
   obtain⟨d,v⟩:=a;by_cases h:d=s
   .exact .inr ⟨(d,v),by simp,h,by simp[Am.get,h]⟩
   .have e:Am.get ((d,v)::r) s=Am.get r s:=by simp[Am.get,h]
    rw[e];rcases ih with h1|⟨p,h1,h2,h3⟩
    .exact .inl h1
    .exact .inr ⟨p,by simp[h1],h2,h3⟩
variable {fr:Fr}
theorem mF{n:Nat}{eh:Fr}(hf:∀p∈eh,Am.get fr p.1=p.2):Wk n fr H (eh,H):=λρ w tm h1 h2=>⟨ρ,λs=>by
   show aZ ρ (Am.get eh s) (tm s);rcases an3 eh s with e|⟨p,hp,rfl,e⟩
   .rw[e];exact trivial
   .rw[e,<-hf p hp];exact h1 p.1,h2,λi _ hi hL _=>⟨i,hi,hL⟩,λ_ _=>rfl⟩
theorem af7{M:List Int}{r i:Nat}{b:Int}(v:BitVec 64)(aG:r<M.length)(hi:i=M.length-1-r)(hb:M[i]?=some b):(M.drop (M.length-(r+1))).foldr AI v=((M.drop (M.length-r)).foldr AI v<<<8)|||(aw 64 b):=by
 have CA:i<M.length:=ω
 rw[show M.length-(r+1)=i by omega,show M.length-r=i+1 by omega,Dk CA];rw[cP CA]at hb;simp only[ar]at hb;rw[List.foldr_cons,hb];rfl
theorem adm:bh Tryz.prog 79 (λargs H=>(Jl args H).map λv=>(v,H)):=by
 refine jo (s:=Jl) tn Tryz.func79 rfl Tryz.results79 Tryz.ntmps79 ?_;intro args H v h b9 hH;unfold Jl at h;split at h
 .rename_i x y;split at h
  .rename_i L M hL hM;split at h
   .rename_i hc;obtain⟨c1,c2⟩:=hc;simp only[ar]at h;subst h;refine⟨by simp,rfl,?_⟩;rw[ars];have sG:(AV.c x).cells=some [x]:=by rcases vO hL with⟨rfl,_⟩|⟨i,o,rfl,_⟩<;>rfl
    have Iq:(AV.c y).cells=some [y]:=by rcases vO hM with⟨rfl,_⟩|⟨i,o,rfl,_⟩<;>rfl
    have CJ:=sG;have F5:=Iq;simp only[AV.cells]at CJ F5;simp only[go_sem,seval,CJ,F5];refine fB 2 (λk=>([(0,.c x),(1,.c y),(4,.c (.u 0#64)),(5,.c (.u (if k=0 then 0#64 else if k=1 then mU M else L.foldr AI (mU M)))),(11,.g [y,x]),(12,.c (.i k))],H)) (mF (by simp[Am.get])) λk hk=>?_;by_cases k2:k=2
    .subst k2;simp only[go_sem,seval];exact aE _
    have xl:∀e,nH (.sl e) (.c x)=some (.c (.i L.length)):=by rcases vO hL with⟨rfl,rfl⟩|⟨i,o,rfl,_⟩<;>intro e<;>rfl
    have yl:∀e,nH (.sl e) (.c y)=some (.c (.i M.length)):=by rcases vO hM with⟨rfl,rfl⟩|⟨i,o,rfl,_⟩<;>intro e<;>rfl
    rcases(show k=0\/k=1 by omega)with rfl|rfl
    .have w1:aA ((M.length:Int)-1)=(M.length:Int)-1:=aq ω ω;simp only[go_sem,seval,CJ,F5,xl,yl,w1];refine fB M.length (λr=>([(0,.c x),(1,.c y),(4,.c (.u 0#64)),(5,.c (.u ((M.drop (M.length-r)).foldr AI 0#64))),(7,.c y),(8,.c (.i ((M.length:Int)-1-r))),(11,.g [y,x]),(12,.c (.i 0))],H)) (mF (by simp[Am.get])) λr hr=>?_;by_cases aG:r<M.length;rotate_left
     .obtain rfl:r=M.length:=ω
      have e0:((M.length:Int)-1-(M.length:Int))=-1:=ω
      have d0:M.drop (M.length-M.length)=M:=by rw[Dx];rfl
      (repeat(first|simp only[go_sem,seval,e0,d0,CJ,F5,xl,yl]|simp(disch:=omega)only[w0]));exact⟨1,ω,ω,mF (by simp[Am.get,mU])⟩
     obtain⟨i,hi⟩:∃i,i=M.length-1-r:=⟨_,rfl⟩;have e0:((M.length:Int)-1-(r:Int))=(i:Int):=ω
     have e1:aA ((i:Int)-1)=(i:Int)-1:=aq ω ω;have k0:(0:Int)<=(i:Int):=ω
     rcases vO hM with⟨rfl,rfl⟩|⟨j,p,rfl,hp,ep⟩
     .simp at aG
     have kI:((i:Int)<(M.length:Int)):=ω
     obtain⟨b,hb⟩:∃b,M[i]?=some b:=⟨_,cP ω⟩;have b1:(p+i+1<=(hg H j).cells.length)=True:=eq_true ω;have b2:(hg H j).cells.getD (p+i) .any=.k .u8 b:=by
      have:=congrArg (λl=>l.getD i .any) ep;simp only[bX,Hj,td]at this|-;rw[if_pos ω]at this;rw[this];have g:=HV (f:=bR) (g:=Sc.k .u8) (λ_=>rfl) hb;simpa[bX]using g
     simp only[go_sem,seval,e0,e1,k0,kI,b1,b2,CJ,xl];have st:=af7 0#64 aG hi hb;have e4:(i:Int)-1=(M.length:Int)-1-((r+1:Nat):Int):=ω
     rw[<-st,e4];exact⟨r+1,ω,ω,mF (by simp[Am.get])⟩
    .have w1:aA ((L.length:Int)-1)=(L.length:Int)-1:=aq ω ω;simp only[go_sem,seval,CJ,F5,xl,yl,w1];refine fB L.length (λr=>([(0,.c x),(1,.c y),(4,.c (.u 0#64)),(5,.c (.u ((L.drop (L.length-r)).foldr AI (mU M)))),(7,.c x),(8,.c (.i ((L.length:Int)-1-r))),(11,.g [y,x]),(12,.c (.i 1))],H)) (mF (by simp[Am.get])) λr hr=>?_;by_cases aG:r<L.length;rotate_left
     .obtain rfl:r=L.length:=ω
      have e0:((L.length:Int)-1-(L.length:Int))=-1:=ω
      have d0:L.drop (L.length-L.length)=L:=by rw[Dx];rfl
      (repeat(first|simp only[go_sem,seval,e0,d0,CJ,F5,xl,yl]|simp(disch:=omega)only[w0]));exact⟨2,ω,ω,mF (by simp[Am.get,mU])⟩
     obtain⟨i,hi⟩:∃i,i=L.length-1-r:=⟨_,rfl⟩;have e0:((L.length:Int)-1-(r:Int))=(i:Int):=ω
     have e1:aA ((i:Int)-1)=(i:Int)-1:=aq ω ω;have k0:(0:Int)<=(i:Int):=ω
     rcases vO hL with⟨rfl,rfl⟩|⟨j,p,rfl,hp,ep⟩
     .simp at aG
     have kI:((i:Int)<(L.length:Int)):=ω
     obtain⟨b,hb⟩:∃b,L[i]?=some b:=⟨_,cP ω⟩;have b1:(p+i+1<=(hg H j).cells.length)=True:=eq_true ω;have b2:(hg H j).cells.getD (p+i) .any=.k .u8 b:=by
      have:=congrArg (λl=>l.getD i .any) ep;simp only[bX,Hj,td]at this|-;rw[if_pos ω]at this;rw[this];have g:=HV (f:=bR) (g:=Sc.k .u8) (λ_=>rfl) hb;simpa[bX]using g
     simp only[go_sem,seval,e0,e1,k0,kI,b1,b2,F5,yl];have st:=af7 (mU M) aG hi hb;have e4:(i:Int)-1=(L.length:Int)-1-((r+1:Nat):Int):=ω
     rw[<-st,e4];exact⟨r+1,ω,ω,mF (by simp[Am.get])⟩
   .simp at h
  .simp at h
 .simp at h
theorem xw{n:Nat}{v:AV}:∃v',some v=some v'/\Wk n [(0,v')] H ([(0,v)],H):=⟨_,rfl,λρ _ _ h1 h2=>⟨ρ,h1,h2,λi _ hi hL _=>⟨i,hi,hL⟩,λ_ _=>rfl⟩⟩
def oI(n:Int)(i:Nat):List Sc:=.i n::.u 0#64::(bD i (.u 18446744073709551615#64)++(bD (8-i) (.u 0#64)++bD 8 (.b false)))
theorem abj(h:i<=8):(oI n i).length=18:=by unfold oI;simp;omega
theorem anc(h:i<8):bJ (2+i) (oI n i)++Sc.u 18446744073709551615#64::cQ (2+i+1) (oI n i)=oI n (i+1):=by
 have:i=0\/i=1\/i=2\/i=3\/i=4\/i=5\/i=6\/i=7:=ω
 rcases this with rfl|rfl|rfl|rfl|rfl|rfl|rfl|rfl<;>rfl
theorem anb(n:Int)(i:Nat):(oI n i).all Sc.pf=true:=by
 simp only[oI,bK,fJ,List.all_replicate];simp[Sc.pf]
theorem abk(n:Int)(i:Nat):(oI n i).all Sc.one=true:=by
 simp only[oI,bK,fJ,List.all_replicate];simp[Sc.one]
theorem Wk.anB{n:Nat}{p:Fr×AH}(e:H=p.2)(h:Wk n fr H (p.1,H)):Wk n fr H p:=by subst e;exact h
def Qo(args:List AV):Option AV:=match args with|[.c (.i h)]=>if 1<=h/\h<=8 then some (.g (oI h h.toNat))else none|_=>none
theorem aye{h}:Qo [.c (.i h)]=if 1<=h/\h<=8 then some (.g (oI h h.toNat))else none:=rfl
theorem asT:cK Tryz.prog 61 Qo:=by
 refine cR tn Tryz.func61 rfl Tryz.results61 Tryz.ntmps61 ?_;intro args v h;unfold Qo at h;split at h
 .rename_i h;split at h
  .rename_i hc;simp only[ar]at h;subst h;have pp:=anb h h.toNat;refine⟨by simp,by first|rfl|simp only[bK,dY,AV.pf,Sc.pf,c8, *],by first|rfl|simp only[bK,dY,AV.pf,Sc.pf,c8, *],?_⟩;have c1:¬h<1:=ω
   have c2:¬8<h:=ω
   obtain⟨m,rfl⟩:∃m:Nat,h=(m:Int):=⟨h.toNat,ω⟩;rw[aL];simp only[go_sem,seval,c1,c2];refine fB m (λi=>([(0,.c (.i m)),(2,.c (.p 0 0 0)),(3,.c (.p 1 0 0)),(14,.c (.i m)),(15,.c (.i i))],[.own (oI 0 0),.own (oI m i)])) (Wk.anB rfl (mF (by simp[Am.get]))) λi hi=>?_;have ll:=abj (n:=m) (i:=i) ω;by_cases aG:i<m
   .have w:=anc (n:=m) (i:=i) ω;have e0:(i:Int)<(m:Int):=ω
    have e1:aA ((i:Int)+1)=((i+1:Nat):Int):=by rw[aq ω ω];omega
    (repeat(first|simp only[go_sem,seval,e0,e1,w,aL]|simp(disch:=omega)only[w0]));exact⟨i+1,ω,ω,mF (by simp[Am.get])⟩
   .obtain rfl:i=m:=ω
    have t18:bJ 18 (oI i i)=oI i i:=bQ ω;have l0:(oI 0 0).length=18:=rfl;have one:=abk i i;have dn:cQ 18 (oI 0 0)=[]:=rfl;(repeat(first|simp only[go_sem,seval,t18,ll,l0,one,dn]|simp(disch:=omega)only[w0]));done
  .simp at h
 .simp at h
def Bg(n:Int):List Sc:=.i n::(bD 32 (.k .u8 0)++(.k .u32 0::.k .u32 0::.k .u32 0::(bD 16 (.k .u32 0)++bD 16 (.k .u8 0))))
theorem ant(n:Int):(Bg n).length=68:=rfl
theorem anv(n:Int):(Bg n).all Sc.pf=true:=rfl
theorem anu(n:Int):(Bg n).all Sc.one=true:=rfl
def Qq(args:List AV):Option AV:=match args with|[.c (.i h)]=>if 1<=h/\h<=8 then some (.g (Bg h))else none|_=>none
theorem ayq{h}:Qq [.c (.i h)]=if 1<=h/\h<=8 then some (.g (Bg h))else none:=rfl
theorem as9:cK Tryz.prog 62 Qq:=by
 refine cR tn Tryz.func62 rfl Tryz.results62 Tryz.ntmps62 ?_;intro args v h;unfold Qq at h;split at h
 .rename_i h;split at h
  .rename_i hc;simp only[ar]at h;subst h;have pp:=anv h;refine⟨by simp,by first|rfl|simp only[bK,dY,AV.pf,Sc.pf,c8, *],by first|rfl|simp only[bK,dY,AV.pf,Sc.pf,c8, *],?_⟩;have c1:¬h<1:=ω
   have c2:¬8<h:=ω
   simp only[go_sem,seval,c1,c2];rfl
  .simp at h
 .simp at h
def HW:List Sc:=[.k .u8 0,.k .u8 0,.k .u8 0,.k .u8 0,.k .u8 0,.k .u8 0,.b false,.b false,.b false,.az,.az]
def Jo(args:List AV)(H:AH):Option (AV×AH):=match args with|[]=>some (.c (.p H.length 0 0),H++[.own HW])|_=>none
theorem apQ(args:List AV)(H:AH)(v:AV)(H1:AH)(h:Jo args H=some (v,H1)):H.length<=H1.length:=by
 unfold Jo at h;split at h
 .simp at h;rw[<-h.2];simp
 .simp at h
theorem ati:bh Tryz.prog 60 Jo:=by
 refine gJ (s:=Jo) tn Tryz.func60 rfl Tryz.results60 Tryz.ntmps60 apQ ?_;intro args H v H1 h b9 hH;unfold Jo at h;split at h
 .simp only[ar,bE]at h;obtain⟨rfl,rfl⟩:=h;refine⟨by simp,?_⟩;simp only[go_sem,seval];exact xw
 .simp at h
theorem ayu:Jo [] H=some (.c (.p H.length 0 0),H++[.own HW]):=rfl
def KJ(m:Nat)(n:Int):List Sc:=.p m 0 0::.i n::(oI n n.toNat++Bg n)
def Jf(args:List AV)(H:AH):Option (AV×AH):=match args with|[.c (.i n)]=>if 1<=n/\n<=8 then some (.t [.c (.p (H.length+1) 0 0),.c (.i 0)],H++[.own HW,.own (KJ H.length n)])else none|_=>none
theorem W6(h:1<=n/\n<=8):Jf [.c (.i n)] H=some (.t [.c (.p (H.length+1) 0 0),.c (.i 0)],H++[.own HW,.own (KJ H.length n)]):=if_pos h
theorem apJ(args:List AV)(H:AH)(v:AV)(H1:AH)(h:Jf args H=some (v,H1)):H.length<=H1.length:=by
 unfold Jf at h;repeat' split at h
 .simp at h;rw[<-h.2];simp
 .simp at h
 .simp at h
theorem asP:bh Tryz.prog 21 Jf:=by
 refine gJ (s:=Jf) (tp ati (tu asT (tu as9 tn))) Tryz.func21 rfl Tryz.results21 Tryz.ntmps21 apJ ?_;intro args H v H1 h b9 hH;unfold Jf at h;split at h
 .rename_i n;refine⟨by simp,?_⟩;split at h<;>try(simp at h;done)
  rename_i hn;simp only[ar,bE]at h;obtain⟨rfl,rfl⟩:=h;have c1:¬n<1:=ω
  have c2:¬8<n:=ω
  have l1:=abj (n:=n) (i:=n.toNat) ω;have l2:=ant n;have o1:=abk n n.toNat;have o2:=anu n;have t1:∀m:List Sc,bJ 18 (oI n n.toNat++m)=oI n n.toNat:=λm=>nQ l1;have t3:∀m:List Sc,cQ 86 (oI n n.toNat++m)=cQ 68 m:=λm=>by rw[zt,l1,kN ω,jW]
  have t2:bJ 68 (Bg n)=Bg n:=bQ ω;have e1:Qo [.c (.i n)]=some (.g (oI n n.toNat)):=aye.trans (if_pos hn);have e2:Qq [.c (.i n)]=some (.g (Bg n)):=ayq.trans (if_pos hn);simp only[go_sem,seval,ayu,e1,e2,c1,c2,l1,l2,o1,o2,t1,t2,t3];exact xw
 .simp at h
def AL(n m:Int):Bool:=decide (1<=n)&&decide (n<=m)
def Xh(args:List AV):Option AV:=match args with|[.c (.i n),.c (.i m)]=>some (.c (.b (AL n m)))|_=>none
theorem ayv{n m}:Xh [.c (.i n),.c (.i m)]=some (.c (.b (AL n m))):=rfl
theorem atj:cK Tryz.prog 59 Xh:=by
 refine cR tn Tryz.func59 rfl Tryz.results59 Tryz.ntmps59 ?_;intro args v h;unfold Xh at h;split at h
 .rename_i n m;simp only[ar]at h;subst h;refine⟨by simp,rfl,rfl,?_⟩;by_cases h1:1<=n;all_goals simp only[go_sem,seval,AL,h1]
 .simp at h
def Gy(h t n b:Int):Bool:=AL h 8&&(AL t 64&&(AL n 4096&&AL b 32))
def Xg(args:List AV):Option AV:=match args with|[.g [.i h,.i t,.i n,.i b]]=>some (.c (.b (Gy h t n b)))|_=>none
theorem afs{h t n b}:Xg [.g [.i h,.i t,.i n,.i b]]=some (.c (.b (Gy h t n b))):=rfl
theorem ath:cK Tryz.prog 20 Xg:=by
 refine cR (tu atj tn) Tryz.func20 rfl Tryz.results20 Tryz.ntmps20 ?_;intro args v h;unfold Xg at h;split at h
 .rename_i h t n b;simp only[ar]at h;subst h;refine⟨by simp,rfl,rfl,?_⟩;cases h1:AL h 8;all_goals cases h2:AL t 64
  all_goals cases h3:AL n 4096
  all_goals simp only[go_sem,seval,ayv,Gy,h1,h2,h3]
 .simp at h
theorem acZ(x:BitVec 64):∃n:Nat,n=x.toNat-2147483648:=⟨_,rfl⟩
noncomputable def bp(x:BitVec 64):Nat:=Classical.choose (acZ x)
theorem Vs(x:BitVec 64):bp x=x.toNat-2147483648:=Classical.choose_spec (acZ x)
noncomputable def gC(N:Nat)(x:BitVec 64)(n:Int):Bool:=decide (1<=n)&&(decide (2147483648<=x.toNat)&&(decide (bp x<N)&&decide (n<=((N-bp x:Nat):Int))))
theorem lI{N:Nat}{x:BitVec 64}:gC N x n=true↔1<=n/\2147483648<=x.toNat/\bp x<N/\n<=((N-bp x:Nat):Int):=by simp only[gC,aQ,decide_eq_true_eq]
theorem NU{a:BitVec 64}(h:2147483648<=a.toNat):(a-2147483648#64).toNat=bp a:=by
 have e:(2147483648#64).toNat=2147483648:=rfl;rw[Vs,zo,e];have:=a.isLt;omega
theorem Vu{n:Nat}(h:n<18446744073709551616):(aw 64 (n:Int)).toNat=n:=by rw[mf];omega
variable {B:List Int}{p:Nat}
section
variable {H:AH}
theorem Og(h:iT H x=some B):∀e,nH (.sl e) (.c x)=some (.c (.i B.length)):=by
 intro e;rcases vO h with⟨rfl,rfl⟩|⟨i,o,rfl,_⟩<;>rfl
theorem SZ(h:iT H x=some B):(nH (.sl 0) (.c x)).isSome=true:=by rw[Og h];rfl
theorem aaD(h:iT H x=some B):Sc.one x=true:=by rcases vO h with⟨rfl,_⟩|⟨i,o,rfl,_⟩<;>rfl
theorem Oh{id off v N:Nat}{B:List Int}(h:iT H (.sl id off v N)=some B){a n:Nat}(hn:a+n<=B.length):iT H (.sl id (off+a) v n)=some ((B.drop a).take n):=by
 rcases vO h with⟨c,_⟩|⟨i,o,e,h1,h2⟩
 .simp at c
 .simp only[Sc.sl.injEq]at e;obtain⟨rfl,rfl,rfl,rfl⟩:=e;unfold iT;simp only;rw[if_pos ⟨trivial,ω⟩];have:((hg H id).cells.drop (off+a)).take n=((B.drop a).take n).flatMap bR:=by
   rw[<-uR];have e1:(((hg H id).cells.drop off).drop a).take n=((((hg H id).cells.drop off).take B.length).drop a).take n:=by rw[List.drop_take,List.take_take,ye ω]
   rw[e1,h2];have f1:∀(L:List Int)(k:Nat),(L.flatMap bR).drop k=(L.drop k).flatMap bR:=λL k=>by have:=KM Ou L k;rwa[Fc]at this
   have f2:∀(L:List Int)(k:Nat),(L.flatMap bR).take k=(L.take k).flatMap bR:=λL k=>by induction L generalizing k with
 |nil=>simp|cons x L ih=>cases k with
 |zero=>simp|succ k=>simp[bR,rZ]at ih|-;exact ih k
   rw[f1,f2]
  rw[this,Hz]
def pg(H:AH)(p:Nat):Option (Sc×List Int):=match hg H p with|.own (.i _::.i _::.i _::.i _::x::_)=>(iT H x).map λB=>(x,B)|_=>none
theorem Nr(h:pg H p=some (x,B)):∃a b c d r,hg H p=.own (.i a::.i b::.i c::.i d::x::r)/\iT H x=some B:=by
 unfold pg at h;split at h
 .rename_i a b c d y r ho;rw[eE]at h;obtain⟨B',h1,h2⟩:=h;simp only[bE]at h2;obtain⟨rfl,rfl⟩:=h2;exact⟨a,b,c,d,r,ho,h1⟩
 .simp at h
noncomputable def MF(args:List AV)(H:AH):Option AV:=match args with
 |[.c .dk,.c (.u _),.c (.i _)]=>some (.t [.c (.i 0),.c (.b false)])|[.c (.p p 0 0),.c (.u a),.c (.i n)]=>match pg H p with
   |some (_,B)=>if B.length<=262144/\n<=9223372036854775807 then some (if gC B.length a n=true then .t [.c (.i (bp a)),.c (.b true)]else .t [.c (.i 0),.c (.b false)])else none|none=>none
 |_=>none
theorem VH:bh Tryz.prog 63 (λargs H=>(MF args H).map λv=>(v,H)):=by
 refine jo (s:=MF) tn Tryz.func63 rfl Tryz.results63 Tryz.ntmps63 ?_;intro args H v h b9 hH;unfold MF at h;split at h
 .simp only[ar]at h;subst h;refine⟨by simp,rfl,?_⟩;simp only[go_sem,seval];exact aE _
 .rename_i p a n;split at h<;>try(simp at h;done)
  rename_i x B hx;split at h<;>try(simp at h;done)
  rename_i hc;obtain⟨hB,hn⟩:=hc;simp only[ar]at h;subst h;refine⟨by simp,by split<;>rfl,?_⟩;obtain⟨c1,c2,c3,c4,r,ho,oM⟩:=Nr hx;have xl:=Og oM;have xs:=SZ oM;by_cases h1:n<1
  .have e:¬gC B.length a n=true:=by rw[lI];omega
   rw[if_neg e];simp only[go_sem,seval,h1];exact aE _
  have eb:(a<2147483648#64)=(a.toNat<2147483648):=by rw[nP];rfl
  by_cases h2:a.toNat<2147483648
  .have e:¬gC B.length a n=true:=by rw[lI];omega
   rw[if_neg e];simp only[go_sem,seval,h1,eb,h2];exact aE _
  have h3:=NU (a:=a) ω;have e0:(aw 64 (B.length:Int)).toNat=B.length:=Vu ω;have e1:(aw 64 (B.length:Int)<=a-2147483648#64)=(B.length<=bp a):=by rw[sY,h3,e0]
  by_cases h4:B.length<=bp a
  .have e:¬gC B.length a n=true:=by rw[lI];omega
   rw[if_neg e];simp only[go_sem,seval,xl,xs,xf,ho,h1,eb,h2,e1,h4];exact aE _
  obtain⟨m,rfl⟩:∃m:Nat,n=(m:Int):=⟨n.toNat,ω⟩;have e2:(aw 64 (B.length:Int)-(a-2147483648#64)<aw 64 (m:Int))=(B.length-bp a<m):=by
   rw[nP,zo,h3,e0,Vu ω];congr 1;omega
  by_cases h5:B.length-bp a<m
  .have e:¬gC B.length a m=true:=by rw[lI];omega
   rw[if_neg e];simp only[go_sem,seval,xl,xs,xf,ho,h1,eb,h2,e1,h4,e2,h5];exact aE _
  .have e:gC B.length a m=true:=by rw[lI];omega
   rw[if_pos e];have e3:(a-2147483648#64).toInt=(bp a:Int):=by rw[x9,h3,if_pos ω]
   simp only[go_sem,seval,xl,xs,xf,ho,h1,eb,h2,e1,h4,e2,h5,e3];exact aE _
 .simp at h
end
section
variable {H:AH}
theorem Xf{a:BitVec 64}(h:pg H p=some (x,B))(hl:B.length<=262144)(hn:n<=9223372036854775807):MF [.c (.p p 0 0),.c (.u a),.c (.i n)] H=some (if gC B.length a n=true then .t [.c (.i (bp a)),.c (.b true)]else .t [.c (.i 0),.c (.b false)]):=by simp only[MF,h];rw[if_pos ⟨hl,hn⟩]
noncomputable def BE(B:List Int)(a:BitVec 64)(n:Int):AV:=if gC B.length a n=true/\n<=8 then .t [.c (.u (mU ((B.drop (bp a)).take n.toNat))),.c (.b true)]else .t [.c (.u 0#64),.c (.b false)]
noncomputable def aDl(args:List AV)(H:AH):Option AV:=match args with
 |[.c .dk,.c (.u _),.c (.i _)]=>some (.t [.c (.u 0#64),.c (.b false)])|[.c (.p p 0 0),.c (.u a),.c (.i n)]=>match pg H p with
   |some (_,B)=>if B.length<=262144/\n<=9223372036854775807 then some (BE B a n)else none|none=>none
 |_=>none
noncomputable def MD(args:List AV)(H:AH):Option AV:=match args with
 |[.g [x],.c (.u a),.c (.i n)]=>match iT H x with
   |some B=>if B.length<=262144/\n<=9223372036854775807 then some (.c (.b (gC B.length a n)))else none|none=>none
 |_=>none
theorem afr{a:BitVec 64}(h:iT H x=some B)(hl:B.length<=262144)(hn:n<=9223372036854775807):MD [.g [x],.c (.u a),.c (.i n)] H=some (.c (.b (gC B.length a n))):=by simp only[MD,h];rw[if_pos ⟨hl,hn⟩]
theorem ado:bh Tryz.prog 76 (λargs H=>(MD args H).map λv=>(v,H)):=by
 refine jo (s:=MD) tn Tryz.func76 rfl Tryz.results76 Tryz.ntmps76 ?_;intro args H v h b9 hH;unfold MD at h;split at h<;>try(simp at h;done)
 rename_i x a n;split at h<;>try(simp at h;done)
 rename_i B oM;split at h<;>try(simp at h;done)
 rename_i hc;obtain⟨hB,hn⟩:=hc;simp only[ar]at h;subst h;refine⟨by simp,rfl,?_⟩;have xl:=Og oM;have xs:=SZ oM;have x1:=aaD oM;by_cases h1:n<1
 .have e:gC B.length a n=false:=by rw[<-iM,lI];omega
  rw[e];simp only[go_sem,seval,x1,h1];exact aC _ _
 have eb:(a<2147483648#64)=(a.toNat<2147483648):=by rw[nP];rfl
 by_cases h2:a.toNat<2147483648
 .have e:gC B.length a n=false:=by rw[<-iM,lI];omega
  rw[e];simp only[go_sem,seval,x1,h1,eb,h2];exact aC _ _
 have h3:=NU (a:=a) ω;have e0:(aw 64 (B.length:Int)).toNat=B.length:=Vu ω;have e1:(aw 64 (B.length:Int)<=a-2147483648#64)=(B.length<=bp a):=by rw[sY,h3,e0]
 by_cases h4:B.length<=bp a
 .have e:gC B.length a n=false:=by rw[<-iM,lI];omega
  rw[e];simp only[go_sem,seval,x1,xl,xs,xf,h1,eb,h2,e1,h4];exact aC _ _
 have e3:(a-2147483648#64).toInt=(bp a:Int):=by rw[x9,h3,if_pos ω]
 have e4:aA ((B.length:Int)-(bp a:Int))=((B.length-bp a:Nat):Int):=by rw[aq ω ω];omega
 have e:gC B.length a n=decide (n<=((B.length-bp a:Nat):Int)):=by unfold gC;rw[decide_eq_true ω,decide_eq_true ω,decide_eq_true (show bp a<B.length by omega)];simp
 rw[e];simp only[go_sem,seval,x1,xl,xs,xf,h1,eb,h2,e1,h4,e3,e4];exact aC _ _
def G2(b:Int)(v:BitVec 64):BitVec 64:=v*256#64+aw 64 b
theorem az7{b:Int}(h0:0<=b)(h1:b<=255)(v:BitVec 64):G2 b v=AI b v:=by
 unfold G2 AI;have e:v*256#64=v<<<8:=by
  apply BitVec.eq_of_toNat_eq;rw[BitVec.toNat_mul,BitVec.toNat_shiftLeft,Nat.shiftLeft_eq];rfl
 rw[e];refine BitVec.add_eq_or_of_and_eq_zero _ _ ?_;apply BitVec.eq_of_getLsbD_eq;intro i hi;rw[BitVec.getLsbD_and,BitVec.getLsbD_shiftLeft,BitVec.getLsbD_zero];by_cases c:i<8
 .simp[c]
 .have:(aw 64 b).getLsbD i=false:=by
   rw[BitVec.getLsbD,mf];apply Nat.testBit_lt_two_pow;have:2^8<=2^i:=Nat.pow_le_pow_right δ ω;have e8:(2:Nat)^8=256:=rfl;omega
  rw[this,Bool.and_false]
theorem acT(h:∀b∈L,0<=b/\b<=255):L.foldr G2 0#64=mU L:=by induction L with
 |nil=>rfl|cons b L ih=>
 have hb:=h b (by simp);rw[List.foldr_cons,ih λx hx=>h x (by simp[hx]),az7 hb.1 hb.2];rfl
noncomputable def Jn(args:List AV)(H:AH):Option AV:=match args with
 |[.g [x],.c (.u a),.c (.i n)]=>match iT H x with
   |some B=>if B.length<=262144/\n<=9223372036854775807/\(∀b∈B,0<=b/\b<=255)then some (BE B a n)else none|none=>none
 |_=>none
theorem ays{a:BitVec 64}(h:iT H x=some B)(hl:B.length<=262144)(hn:n<=9223372036854775807)(hb:∀b∈B,0<=b/\b<=255):Jn [.g [x],.c (.u a),.c (.i n)] H=some (BE B a n):=by simp only[Jn,h];rw[if_pos ⟨hl,hn,hb⟩]
theorem af8{M:List Int}{r i:Nat}{b:Int}(v:BitVec 64)(aG:r<M.length)(hi:i=M.length-1-r)(hb:M[i]?=some b):(M.drop (M.length-(r+1))).foldr G2 v=(M.drop (M.length-r)).foldr G2 v*256#64+aw 64 b:=by
 have CA:i<M.length:=ω
 rw[show M.length-(r+1)=i by omega,show M.length-r=i+1 by omega,Dk CA];rw[cP CA]at hb;simp only[ar]at hb;rw[List.foldr_cons,hb];rfl
theorem atd:bh Tryz.prog 146 (λargs H=>(Jn args H).map λv=>(v,H)):=by
 refine jo (s:=Jn) (tq ado tn) Tryz.func146 rfl Tryz.results146 Tryz.ntmps146 ?_;intro args H v h b9 hH;unfold Jn at h;split at h<;>try(simp at h;done)
 rename_i x a n;split at h<;>try(simp at h;done)
 rename_i B oM;split at h<;>try(simp at h;done)
 rename_i hc;obtain⟨hB,hn,hb⟩:=hc;simp only[ar]at h;subst h;refine⟨by simp,by unfold BE;split<;>rfl,?_⟩;have x1:=aaD oM;by_cases h8:8<n
 .have e:BE B a n=.t [.c (.u 0#64),.c (.b false)]:=if_neg ω;rw[e];simp only[go_sem,seval,x1,h8];exact aC _ _
 have bx:x.aj H.length=true:=by
  simp only[bK,AV.aj,aQ]at b9;simpa using b9.1
 have aow:∀X,iT (H++X) x=some B:=λX=>by
  rcases vO oM with⟨rfl,rfl⟩|⟨id,off,rfl,g1,g2⟩
  .rfl
  .have aD:id<H.length:=by simpa[Sc.aj]using bx
   rw[<-oM];unfold iT;simp only[cB aD]
 have sh:=λX=>afr (aow X) hB hn (a:=a);cases hh:gC B.length a n with
 |false=>
 have e:BE B a n=.t [.c (.u 0#64),.c (.b false)]:=if_neg (λc=>by rw[hh]at c;simp at c);rw[e];simp only[hh]at sh;simp only[go_sem,seval,x1,h8,sh];exact aC _ _|true=>
   have e:BE B a n=.t [.c (.u (mU ((B.drop (bp a)).take n.toNat))),.c (.b true)]:=if_pos ⟨hh,ω⟩;rw[e];simp only[hh]at sh;rw[lI]at hh;obtain⟨m,rfl⟩:∃m:Nat,n=(m:Int):=⟨n.toNat,ω⟩;rw[aL];obtain⟨L,hL⟩:∃L,L=(B.drop (bp a)).take m:=⟨_,rfl⟩;have lL:L.length=m:=by rw[hL,tg,uS];omega
   rw[<-hL,<-acT (L:=L) λb rJ=>hb b (by rw[hL]at rJ;exact List.mem_of_mem_drop (List.mem_of_mem_take rJ))];rcases vO oM with⟨rfl,rfl⟩|⟨id,off,rfl,g1,g2⟩
   .simp at hh
   have aD:id<H.length:=by simpa[Sc.aj]using bx
   have h3:=NU (a:=a) ω;have e3:(a-2147483648#64).toInt=(bp a:Int):=by rw[x9,h3,if_pos ω]
   have w1:aA ((m:Int)-1)=(m:Int)-1:=aq ω ω;simp only[go_sem,seval,h8,sh,w1];refine fB m (λr=>([(1,.c (.u a)),(3,.c (.p H.length 0 0)),(8,.c (.u ((L.drop (m-r)).foldr G2 0#64))),(9,.c (.i ((m:Int)-1-r)))],H++[.own [.sl id off (hg H id).row B.length]])) ?_ λr hr=>?_
   .exact mF (by simp[Am.get,<-lL])
   .by_cases aG:r<m;rotate_left
    .obtain rfl:r=m:=ω
     have e0:((r:Int)-1-(r:Int))=-1:=ω
     have d0:L.drop (r-r)=L:=by rw[Dx];rfl
     simp only[go_sem,seval,e0,d0];exact aC _ _
    obtain⟨i,hi⟩:∃i,i=m-1-r:=⟨_,rfl⟩;have e0:((m:Int)-1-(r:Int))=(i:Int):=ω
    have e1:aA ((i:Int)-1)=(i:Int)-1:=aq ω ω;have k0:(0:Int)<=(i:Int):=ω
    obtain⟨b,yA⟩:∃b,L[i]?=some b:=⟨_,cP ω⟩;have hbB:B[bp a+i]?=some b:=by
     rw[hL,yb ω,td]at yA;exact yA
    have w2:aA ((bp a:Int)+(i:Int))=((bp a+i:Nat):Int):=by rw[aq ω ω];omega
    have k1:(0:Int)<=((bp a+i:Nat):Int):=ω
    have k2:((bp a+i:Nat):Int)<(B.length:Int):=ω
    have b1:(off+(bp a+i)+1<=(hg H id).cells.length)=True:=eq_true ω;have b2:(hg H id).cells.getD (off+(bp a+i)) .any=.k .u8 b:=by
     have:=congrArg (λl=>l.getD (bp a+i) .any) g2;simp only[bX,Hj,td]at this|-;rw[if_pos ω]at this;rw[this];have g:=HV (f:=bR) (g:=Sc.k .u8) (λ_=>rfl) hbB;simpa[bX]using g
    have gX:∀X,hg (H++X) id=hg H id:=λX=>cB aD;simp only[go_sem,seval,e0,e1,k0,e3,w2,k1,k2,b1,b2,gX,aL];have st:=af8 0#64 (M:=L) ω ω yA (r:=r);rw[lL]at st;have e4:(i:Int)-1=(m:Int)-1-((r+1:Nat):Int):=ω
    rw[<-st,e4];exact⟨r+1,ω,ω,mF (by simp[Am.get])⟩
end
def uJ:List Sc:=[.b false,.u 0#64,.b false,.u 0#64,.b false,.u 0#64,.b false,.u 0#64,.b false,.u 0#64,.b false,.u 0#64,.b false,.u 0#64,.b false,.u 0#64]
def pP(h t n b:Int)(x:Sc)(R:List Sc)(mK:Sc)(m:List Sc):List Sc:=.i h::.i t::.i n::.i b::x::(R++mK::m)
theorem agO:zT Tryz.prog 102=some (pP 0 0 0 0 .az uJ .dk (aH 0 Z8)):=κ
section
variable {H:AH}
def Ah(k:Nat)(h t n b:Int):AH:=[.own [.i h,.i t,.i n,.i b],.own HW,.own (KJ (k+1) h),.vec 1 (bD (64*n.toNat) (.k .u8 0)),.own (pP h t n b (.sl (k+3) 0 (64*n.toNat) (64*n.toNat)) uJ (.p (k+2) 0 0) (aH h Z8))]
def C8(args:List AV)(H:AH):Option (AV×AH):=match args with|[.g [.i h,.i t,.i n,.i b]]=>if Gy h t n b=true then some (.t [.c (.p (H.length+4) 0 0),.c (.i 0)],H++Ah H.length h t n b)else some (.t [.c .dk,.c (.i 1)],H++[.own [.i h,.i t,.i n,.i b]])|_=>none
theorem apP(args:List AV)(H:AH)(v:AV)(H1:AH)(h:C8 args H=some (v,H1)):H.length<=H1.length:=by
 unfold C8 at h;repeat' split at h
 all_goals simp at h
 all_goals rw[<-h.2]
 all_goals simp
theorem adl:bh Tryz.prog 5 C8:=by
 refine gJ (s:=C8) (tu ath (tp asP (tu atz tn))) Tryz.func5 rfl Tryz.results5 Tryz.ntmps5 apP ?_;intro args H v H1 h b9 hH;unfold C8 at h;split at h<;>try(simp at h;done)
 rename_i h0 t n b;refine⟨by simp,?_⟩;cases hr:Gy h0 t n b with
 |false=>
 simp only[hr,Bool.false_eq_true,if_false,ar,bE]at h;obtain⟨rfl,rfl⟩:=h;simp only[go_sem,seval,afs,W6,Xu,hr];exact xw|true=>
   simp only[hr,if_true,ar,bE]at h;obtain⟨rfl,rfl⟩:=h;have ve:=hr;simp only[Gy,AL,aQ,decide_eq_true_eq]at ve;obtain⟨⟨a1,a2⟩,⟨b1,b2⟩,⟨c1,c2⟩,d1,d2⟩:=ve;obtain⟨m,rfl⟩:∃m:Nat,n=(m:Int):=⟨n.toNat,ω⟩;have e1:aA ((m:Int)*64)=((64*m:Nat):Int):=by rw[aq ω ω];omega
   have e2:((64*m:Nat):Int)<=1048576:=ω
   have e3:(0:Int)<=((64*m:Nat):Int):=ω
   have bn:=λK=>W6 (H:=K) (n:=h0) ⟨a1,a2⟩;have mn:=Xu (n:=h0);rw[if_pos ⟨a1,a2⟩]at mn;have l0:=λk=>kK k zx;have rep:(bD (64*m) [Sc.k .u8 0]).flatten=bD (64*m) (Sc.k .u8 0):=by
    generalize 64*m=q;induction q with
 |zero=>rfl|succ q ih=>rw[yc,Ce,ih,yc];rfl
   obtain⟨T,hT⟩:∃T:List Sc,T=uJ++.dk::aH 0 Z8:=⟨_,rfl⟩;have zW:=agO;unfold pP at zW;rw[<-hT]at zW;have Ed:uJ.length=16:=rfl;have t1:bJ 16 T=uJ:=by rw[hT];exact nQ Ed
   have t2:cQ 17 T=aH 0 Z8:=by rw[hT];rfl
   have t3:T.length=338:=by rw[hT,cj,cT,l0];rfl
   have t4:∀p,bJ 17 (uJ++p::aH 0 Z8)=uJ++[p]:=λp=>rfl;have t5:∀p,cQ 338 (uJ++p::aH 0 Z8)=[]:=λp=>kN (by rw[cj,cT,l0];exact aB _);have o1:uJ.all Sc.one=true:=rfl;have o2:(aH h0 Z8).all Sc.one=true:=rfl;have l1:(aH h0 Z8).length=321:=l0 h0;have l2:(aH 0 Z8).length=321:=l0 0;unfold Ah pP;generalize aH h0 Z8=M at*;simp only[go_sem,seval,afs,W6,Xu,hr,bn,mn,e1,e2,e3,zW,rep,Ed,t1,t2,t3,t4,t5,l1,l2,o1,o2,aL];exact xw
end
theorem aml(L:List Int)(k:Nat):(L.flatMap bR).drop k=(L.drop k).flatMap bR:=by have:=KM Ou L k;rwa[Fc]at this
theorem amm(L:List Int)(k:Nat):(L.flatMap bR).take k=(L.take k).flatMap bR:=by induction L generalizing k with
 |nil=>simp|cons x L ih=>cases k with|zero=>simp|succ k=>simp[bR,rZ]at ih|-;exact ih k
theorem yq(L:List Int):(L.flatMap bR).length=L.length:=by rw[pF Ou,Fc]
theorem aa6(L:List Int):(L.flatMap bR).all Sc.one=true:=by rw[sZ];exact cE.2 λ_ _=>rfl
def gF(B:List Int)(k:Nat)(b:List Int):List Int:=B.take k++b++B.drop (k+b.length)
variable {k:Nat}
theorem BD{b:List Int}(h:k+b.length<=B.length):(gF B k b).length=B.length:=by
 unfold gF;simp only[cj,tg,uS];omega
theorem LD:gF B k []=B:=by unfold gF;simp
theorem Rm(B b:List Int)(k:Nat):wr (B.flatMap bR) k (b.flatMap bR)=(gF B k b).flatMap bR:=by
 rw[Hb,amm,yq,aml];unfold gF;rw[Hf,Hf]
section
variable {H:AH}
def xY(H:AH)(p:Nat):Option (Nat×List Int):=match hg H p with
 |.own (.i _::.i _::.i _::.i _::.sl id 0 v N::_)=>match hg H id with
   |.vec 1 cs=>(Cs cs).bind λB=>if v=B.length/\N=B.length then some (id,B)else none|_=>none
 |_=>none
theorem YU{p id:Nat}{B:List Int}(h:xY H p=some (id,B)):(∃a b c d r,hg H p=.own (.i a::.i b::.i c::.i d::.sl id 0 B.length B.length::r))/\hg H id=.vec 1 (B.flatMap bR):=by
 unfold xY at h;split at h<;>try(simp at h;done)
 rename_i a b c d j v N r ho;split at h<;>try(simp at h;done)
 rename_i cs hj;rw[mh]at h;obtain⟨B',h1,h2⟩:=h;split at h2<;>simp at h2;rename_i hc;obtain⟨rfl,rfl⟩:=hc;obtain⟨rfl,rfl⟩:=h2;exact⟨⟨a,b,c,d,r,ho⟩,by rw[hj,SC h1]⟩
theorem Rj{p id:Nat}{a b c d:Int}{B:List Int}{r:List Sc}(h1:hg H p=.own (.i a::.i b::.i c::.i d::.sl id 0 B.length B.length::r))(h2:hg H id=.vec 1 (B.flatMap bR)):xY H p=some (id,B):=by
 unfold xY;simp[h1,h2,Hz]
theorem zH{id:Nat}{B:List Int}(h:hg H id=.vec 1 (B.flatMap bR)):iT H (.sl id 0 B.length B.length)=some B:=by
 unfold iT;simp only[h,ae.row,ae.cells,yq];rw[if_pos (by simp),List.drop_zero,bQ (by rw[yq];exact aB _),Hz]
theorem YT{p id:Nat}{B:List Int}(h:xY H p=some (id,B)):pg H p=some (.sl id 0 B.length B.length,B):=by
 obtain⟨⟨a,b,c,d,r,h1⟩,h2⟩:=YU h;unfold pg;simp only[h1,zH h2,pn]
def Es(args:List AV)(H:AH):Option (AV×AH):=match args with
 |[.c (.sl id o v n)]=>match iT H (.sl id o v n)with
   |some B=>if 0<n/\n<=262144 then some (.c (.sl H.length 0 n n),H++[.vec 1 (B.flatMap bR)])else none|none=>none
 |_=>none
theorem afl{id o v n:Nat}{B:List Int}(h:iT H (.sl id o v n)=some B)(h0:0<n)(h1:n<=262144):Es [.c (.sl id o v n)] H=some (.c (.sl H.length 0 n n),H++[.vec 1 (B.flatMap bR)]):=by simp only[Es,h];rw[if_pos ⟨h0,h1⟩]
theorem apL(args:List AV)(H:AH)(v:AV)(H1:AH)(h:Es args H=some (v,H1)):H.length<=H1.length:=by
 unfold Es at h;repeat' split at h
 all_goals simp at h
 rw[<-h.2];simp
theorem adi:bh Tryz.prog 52 Es:=by
 refine gJ (s:=Es) tn Tryz.func52 rfl Tryz.results52 Tryz.ntmps52 apL ?_;intro args H v H1 h b9 hH;unfold Es at h;split at h<;>try(simp at h;done)
 rename_i id o v n;split at h<;>try(simp at h;done)
 rename_i B oM;split at h<;>try(simp at h;done)
 rename_i hn;obtain⟨n0,n1⟩:=hn;simp only[ar,bE]at h;obtain⟨rfl,rfl⟩:=h;refine⟨by simp,?_⟩;rcases vO oM with⟨c,_⟩|⟨i,o',e,g1,g2⟩
 .simp at c
 simp only[Sc.sl.injEq]at e;obtain⟨rfl,rfl,rfl,rfl⟩:=e;have li:id<H.length:=by simpa[AV.aj,Sc.aj]using b9
 have gi:∀X,hg (H++X) id=hg H id:=λX=>cB li;have c5:B.length<=1099511627776:=ω
 have c1:=aa6 B;have lq:=yq B;have hz:¬B.length=0:=ω
 simp only[go_sem,seval,c1,g1,c5,gi,g2,lq,hz];exact xw
def Er(args:List AV)(H:AH):Option (AV×AH):=match args with
 |[.c .dk]=>some (.c .az,H)|[.c (.p p 0 0)]=>match xY H p with
   |some (_,B)=>if 0<B.length/\B.length<=262144 then some (.c (.sl H.length 0 B.length B.length),H++[.vec 1 (B.flatMap bR)])else none|none=>none
 |_=>none
theorem ayd{p id:Nat}{B:List Int}(h:xY H p=some (id,B))(h0:0<B.length)(h1:B.length<=262144):Er [.c (.p p 0 0)] H=some (.c (.sl H.length 0 B.length B.length),H++[.vec 1 (B.flatMap bR)]):=by simp only[Er,h];rw[if_pos ⟨h0,h1⟩]
theorem apK(args:List AV)(H:AH)(v:AV)(H1:AH)(h:Er args H=some (v,H1)):H.length<=H1.length:=by
 unfold Er at h;repeat' split at h
 all_goals simp at h
 .rw[<-h.2];exact aB _
 .rw[<-h.2];simp
theorem asR:bh Tryz.prog 46 Er:=by
 refine gJ (s:=Er) (tp adi tn) Tryz.func46 rfl Tryz.results46 Tryz.ntmps46 apK ?_;intro args H v H1 h b9 hH;unfold Er at h;split at h
 .simp only[ar,bE]at h;obtain⟨rfl,rfl⟩:=h;refine⟨by simp,?_⟩;simp only[go_sem,seval];exact xw
 .rename_i p;split at h<;>try(simp at h;done)
  rename_i id B hw;split at h<;>try(simp at h;done)
  rename_i hn;simp only[ar,bE]at h;obtain⟨rfl,rfl⟩:=h;refine⟨by simp,?_⟩;obtain⟨⟨a,b,c,d,r,h1⟩,h2⟩:=YU hw;have cl:=afl (zH h2) hn.1 hn.2;simp only[go_sem,seval,h1,cl];exact xw
 .simp at h
def aDq(args:List AV)(H:AH):Option (AV×AH):=match args with|[.c (.i n)]=>if 1<=n/\n<=4096 then some (.g [.sl (H.length+1) 0 (64*n.toNat) (64*n.toNat)],H++[.own [.sl (H.length+1) 0 (64*n.toNat) (64*n.toNat)],.vec 1 (bD (64*n.toNat) (.k .u8 0))])else none|_=>none
end
section
variable {H:AH}
noncomputable def Eu(args:List AV)(H:AH):Option (AV×AH):=match args with
 |[.c .dk,.c (.u _),.c _]=>some (.c (.b false),H)|[.c (.p p 0 0),.c (.u a),.c y]=>match xY H p,iT H y with
   |some (id,B),some b=>if B.length<=262144/\b.length<=262144 then if b=[]then some (.c (.b true),H)else if gC B.length a b.length=true then some (.c (.b true),H.set id (.vec 1 ((gF B (bp a) b).flatMap bR)))else some (.c (.b false),H)else none|_,_=>none
 |_=>none
theorem ayk{p id:Nat}{a:BitVec 64}{y:Sc}{B b:List Int}(h:xY H p=some (id,B))(h2:iT H y=some b)(hB:B.length<=262144)(hb:b.length<=262144):Eu [.c (.p p 0 0),.c (.u a),.c y] H=if b=[]then some (.c (.b true),H)else if gC B.length a b.length=true then some (.c (.b true),H.set id (.vec 1 ((gF B (bp a) b).flatMap bR)))else some (.c (.b false),H):=by simp only[Eu,h,h2];rw[if_pos ⟨hB,hb⟩]
theorem apM(args:List AV)(H:AH)(v:AV)(H1:AH)(h:Eu args H=some (v,H1)):H.length<=H1.length:=by
 unfold Eu at h;repeat' split at h
 all_goals simp at h
 all_goals rw[<-h.2]
 all_goals simp
theorem as0:bh Tryz.prog 23 Eu:=by
 refine gJ (s:=Eu) (tq VH tn) Tryz.func23 rfl Tryz.results23 Tryz.ntmps23 apM ?_;intro args H v H1 h b9 hH;unfold Eu at h;split at h
 .simp only[ar,bE]at h;obtain⟨rfl,rfl⟩:=h;refine⟨by simp,?_⟩;simp only[go_sem,seval];exact xw
 .rename_i p a y;split at h<;>try(simp at h;done)
  rename_i id B b hw hy;split at h<;>try(simp at h;done)
  rename_i hn;obtain⟨n1,n2⟩:=hn;refine⟨by simp,?_⟩;obtain⟨⟨c1,c2,c3,c4,r,h1⟩,h2⟩:=YU hw;have yl:=Og hy;have ys:=SZ hy;split at h
  .rename_i hb;subst hb;simp only[ar,bE]at h;obtain⟨rfl,rfl⟩:=h;simp only[fa]at yl;simp only[go_sem,seval,yl,ys,xf];exact xw
  rename_i hb;have bl:0<b.length:=List.length_pos_iff.2 hb;have bz:¬((b.length:Int)=0):=ω
  have sp:=Xf (YT hw) n1 (show((b.length:Nat):Int)<=9223372036854775807 by omega) (a:=a);split at h
  .rename_i hh;simp only[ar,bE]at h;obtain⟨rfl,rfl⟩:=h;rw[if_pos hh]at sp;rw[lI]at hh;have k0:(0:Int)<=(bp a:Int):=ω
   have k1:(bp a:Int)<=(B.length:Int):=ω
   have Ly:(bp a:Int)<(B.length:Int):=ω
   have k2:b.length<=B.length-bp a:=ω
   have k3:¬b.length=0:=ω
   have k4:bp a+b.length<=B.length:=ω
   have o1:=aa6 b;have l1:=yq b;have l2:=yq B;have w1:=Rm B b (bp a);rcases vO hy with⟨rfl,rfl⟩|⟨j,o,rfl,g1,g2⟩
   .simp at hb
   (repeat(first|simp only[go_sem,seval,yl,ys,xf,bz,sp,h1,h2,k0,k1,Ly,k2,k3,k4,o1,l1,l2,g1,g2,w1,aL]|simp(disch:=omega)only[w0]));exact xw
  .rename_i hh;simp only[ar,bE]at h;obtain⟨rfl,rfl⟩:=h;rw[if_neg hh]at sp;simp only[go_sem,seval,yl,ys,xf,bz,sp];exact xw
 .simp at h
end
theorem LF{c:List Int}{q:Int}(hk:k+c.length<B.length):gF (gF B k c) (k+c.length) [q]=gF B k (c++[q]):=by
 have l1:(B.take k++c).length=k+c.length:=by rw[cj,tg];omega
 unfold gF;rw[Dr ω,bQ ω,zt,Nz (by rw[l1];simp),l1,uR];simp only[cT,fa,cj,jW,fv];congr 4;omega
section
variable {H:AH}
def azJ:Sc->Option Nat|.sl i _ _ _=>some i|_=>none
def I5(H:AH)(id v N:Nat):Option (List Int):=match hg H id with|.vec 1 cs=>(Cs cs).bind λB=>if v=B.length/\N=B.length then some B else none|_=>none
theorem awJ{id v N:Nat}{B:List Int}(h:I5 H id v N=some B):hg H id=.vec 1 (B.flatMap bR)/\v=B.length/\N=B.length:=by
 unfold I5 at h;split at h<;>try(simp at h;done)
 rename_i cs hj;rw[mh]at h;obtain⟨B',h1,h2⟩:=h;split at h2<;>simp at h2;rename_i hc;subst h2;exact⟨by rw[hj,SC h1],hc⟩
theorem awK{id:Nat}{B:List Int}(h2:hg H id=.vec 1 (B.flatMap bR)):I5 H id B.length B.length=some B:=by
 unfold I5;simp[h2,Hz]
noncomputable def aDp(args:List AV)(H:AH):Option (AV×AH):=match args with
 |[.g [.sl id 0 v N],.c (.u a),.c y]=>match I5 H id v N,iT H y with
   |some B,some b=>if B.length<=262144/\b.length<=262144/\azJ y≠some id then if b=[]then some (.c (.b true),H++[.own [.sl id 0 v N]])else if gC B.length a b.length=true then some (.c (.b true),H.set id (.vec 1 ((gF B (bp a) b).flatMap bR))++[.own [.sl id 0 v N]])else some (.c (.b false),H++[.own [.sl id 0 v N]])else none|_,_=>none
 |_=>none
theorem Ha{n:Nat}{fr eh:Fr}{H K:AH}(h:H=K)(hf:∀p∈eh,Am.get fr p.1=p.2):Wk n fr H (eh,K):=by subst h;exact mF hf
theorem QQ{id:Nat}{o:ae}(h:hg H id=o)(hl:id<H.length):H.set id o=H:=by
 apply List.ext_getElem?;intro i;rw[List.getElem?_set];split
 .rename_i e;subst e;rw[<-h];unfold hg;rw[bX,cP hl];rfl
 .rfl
def Ep(args:List AV)(H:AH):Option AV:=match args with
 |[.c (.sl i o v n),.c (.sl j p w m)]=>match iT H (.sl i o v n),iT H (.sl j p w m)with
   |some L,some M=>if L=M/\L.length<=262144 then some (.c (.b true))else none|_,_=>none
 |_=>none
theorem ayb{o v n j m:Nat}(h1:iT H (.sl i o v n)=some L)(h2:iT H (.sl j p w m)=some L)(h3:L.length<=262144):Ep [.c (.sl i o v n),.c (.sl j p w m)] H=some (.c (.b true)):=by simp only[Ep,h1,h2];rw[if_pos ⟨trivial,h3⟩]
theorem Ky{id off v n:Nat}{L:List Int}(h:iT H (.sl id off v n)=some L):v=(hg H id).row/\n=L.length/\off+n<=(hg H id).cells.length/\∀k q,L[k]?=some q->(hg H id).cells.getD (off+k) .any=.k .u8 q/\off+k+1<=(hg H id).cells.length:=by
 rcases vO h with⟨c,_⟩|⟨i,o,e,g1,g2⟩
 .simp at c
 .simp only[Sc.sl.injEq]at e;obtain⟨rfl,rfl,rfl,rfl⟩:=e;refine⟨rfl,rfl,g1,λk q hq=>?_⟩;have kl:k<L.length:=by
   rcases cX k L.length with c|c
   .exact c
   .rw[kf c]at hq;simp at hq
  have:=congrArg (λl=>l.getD k .any) g2;simp only[bX,Hj,td]at this|-;rw[if_pos kl]at this;refine⟨?_,ω⟩;rw[this];have g:=HV (f:=bR) (g:=Sc.k .u8) (λ_=>rfl) hq;simpa[bX]using g
theorem asO:bh Tryz.prog 45 (λargs H=>(Ep args H).map λv=>(v,H)):=by
 refine jo (s:=Ep) tn Tryz.func45 rfl Tryz.results45 Tryz.ntmps45 ?_;intro args H v h b9 hH;unfold Ep at h;split at h<;>try(simp at h;done)
 rename_i i o v n j p w m;split at h<;>try(simp at h;done)
 rename_i L M h1 h2;split at h<;>try(simp at h;done)
 rename_i hc;obtain⟨rfl,hl⟩:=hc;simp only[ar]at h;subst h;refine⟨by simp,rfl,?_⟩;obtain⟨rfl,rfl,x1,x2⟩:=Ky h1;obtain⟨rfl,rfl,y1,y2⟩:=Ky h2;simp only[go_sem,seval];rw[rz];refine⟨{k:Nat//k<=L.length},λk=>([(0,.c (.sl i o (hg H i).row L.length)),(1,.c (.sl j p (hg H j).row L.length)),(5,.c (.i k.1))],H),λk=>L.length-k.1,⟨0,ω⟩,mF (by simp[Am.get]),?_⟩;rintro⟨k,hk⟩;by_cases aG:k<L.length
 .have e1:aA ((k:Int)+1)=((k+1:Nat):Int):=by rw[aq ω ω];omega
  obtain⟨q,hq⟩:∃q,L[k]?=some q:=⟨_,cP aG⟩;obtain⟨a1,a2⟩:=x2 k q hq;obtain⟨b1,b2⟩:=y2 k q hq;have k0:(0:Int)<=(k:Int):=ω
  have kI:(k:Int)<(L.length:Int):=ω
  simp only[go_sem,seval,e1,a1,a2,b1,b2,k0,kI,aL];exact⟨⟨k+1,ω⟩,by simp only;omega,mF (by simp[Am.get])⟩
 .obtain rfl:k=L.length:=ω
  have kI:¬((L.length:Int)<L.length):=ω
  simp only[go_sem,seval,kI];exact aE _
end
def aDo(args:List AV):Option AV:=match args with|[.c .dk,.c (.i n)]=>some (.t [.c (.u 0#64),.c (.b false)])|_=>none
def Xa(args:List AV):Option AV:=match args with|[.c (.i k)]=>if k=2 then some (.c (.b true))else none|_=>none
theorem asZ:cK Tryz.prog 67 Xa:=by
 refine cR tn Tryz.func67 rfl Tryz.results67 Tryz.ntmps67 ?_;intro args v h;unfold Xa at h;split at h
 .rename_i k;split at h
  .rename_i hc;simp only[ar]at h;subst h;refine⟨by simp,rfl,rfl,?_⟩;subst hc;simp only[go_sem,seval]
  .simp at h
 .simp at h
def Qp(args:List AV):Option AV:=match args with|[.c (.i k)]=>if k=2 then some (.c (.i 1))else none|_=>none
theorem adk:cK Tryz.prog 27 Qp:=by
 refine cR (tu asZ tn) Tryz.func27 rfl Tryz.results27 Tryz.ntmps27 ?_;intro args v h;unfold Qp at h;split at h
 .rename_i k;split at h
  .rename_i hc;simp only[ar]at h;subst h;refine⟨by simp,rfl,rfl,?_⟩;subst hc;have e:Xa [.c (.i 2)]=some (.c (.b true)):=rfl;simp only[go_sem,seval,e]
  .simp at h
 .simp at h
def Qr(args:List AV):Option AV:=match args with|[.g (.i k::.u a::.u x::.i c::.i s::r)]=>if k=2/\c=0/\s=8/\r.length=14/\r.all Sc.pf=true/\r.all Sc.one=true then some (.c (.b true))else none|_=>none
theorem atg:cK Tryz.prog 29 Qr:=by
 refine cR tn Tryz.func29 rfl Tryz.results29 Tryz.ntmps29 ?_;intro args v h;unfold Qr at h;split at h
 .rename_i k a x c s r;split at h
  .rename_i hc;simp only[ar]at h;subst h;have pr:=hc.2.2.2.2.1;refine⟨by simp,by first|rfl|simp only[bK,dY,AV.pf,Sc.pf,c8, *],by first|rfl|simp only[bK,dY,AV.pf,Sc.pf,c8, *],?_⟩;obtain⟨rfl,rfl,rfl,lr,pr,ro⟩:=hc;have rt:r.take 14=r:=bQ ω;simp only[go_sem,seval,lr,ro,rt]
  .simp at h
 .simp at h
section
variable {H:AH}
theorem S0{id off v N:Nat}{B:List Int}(h:iT H (.sl id off v N)=some B)(h0:0<B.length):id<H.length:=by
 obtain⟨_,e,h1,_⟩:=Ky h;rcases cX id H.length with c|c
 .exact c
 .rw[ur _ c]at h1;simp only[ae.cells,fa]at h1;omega
theorem aaF{id off v N:Nat}{B:List Int}(h:iT H (.sl id off v N)=some B)(h0:0<B.length)(X:AH):iT (H++X) (.sl id off v N)=some B:=by
 rw[<-h];unfold iT;simp only[cB (X:=X) (S0 h h0)]
theorem G8{p id off v N:Nat}{B:List Int}(h:pg H p=some (.sl id off v N,B))(h0:0<B.length)(X:AH):pg (H++X) p=some (.sl id off v N,B):=by
 obtain⟨c1,c2,c3,c4,r',ho,oM⟩:=Nr h;unfold pg;simp only[cB (X:=X) (eu (H:=H) (i:=p) (by rw[ho];rfl)),ho,aaF oM h0 X,pn]
def Et(args:List AV)(H:AH):Option AV:=match args with
 |[.c (.p p 0 0),.c (.i h)]=>match hg H p with
   |.own (.i n::.i _::.i _::.i _::_)=>some (.c (.b (decide (0<=h)&&decide (h<n))))|_=>none
 |_=>none
theorem VF:bh Tryz.prog 28 (λargs H=>(Et args H).map λv=>(v,H)):=by
 refine jo (s:=Et) tn Tryz.func28 rfl Tryz.results28 Tryz.ntmps28 ?_;intro args H v h b9 hH;unfold Et at h;split at h<;>try(simp at h;done)
 rename_i p h0;split at h<;>try(simp at h;done)
 rename_i n c1 c2 c3 r ho;simp only[ar]at h;subst h;refine⟨by simp,rfl,?_⟩;by_cases g:0<=h0
 .by_cases g2:h0<n
  .simp only[go_sem,seval,ho,g,g2];exact aE _
  .simp only[go_sem,seval,ho,g,g2];exact aE _
 .simp only[go_sem,seval,g];exact aE _
noncomputable def MC(args:List AV)(H:AH):Option AV:=match args with
 |[.c (.p p 0 0),.g (.i k::.u a::.u x::.i c::.i s::r)]=>match pg H p with
   |some (.sl id off v N,B)=>if B.length<=262144/\c=0/\s=8/\r.length=14/\r.all Sc.one=true/\gC B.length a 8=true then some (.t [.c (.sl id (off+bp a) v 8),.c .az,.c (.b true)])else none|_=>none
 |_=>none
theorem afo{p id off v N:Nat}{B:List Int}{k:Int}{a x:BitVec 64}{r:List Sc}(h:pg H p=some (.sl id off v N,B))(h1:B.length<=262144)(h2:r.length=14)(h3:r.all Sc.one=true)(h4:gC B.length a 8=true):MC [.c (.p p 0 0),.g (.i k::.u a::.u x::.i 0::.i 8::r)] H=some (.t [.c (.sl id (off+bp a) v 8),.c .az,.c (.b true)]):=by simp only[MC,h];rw[if_pos ⟨h1,trivial,trivial,h2,h3,h4⟩]
theorem adn:bh Tryz.prog 30 (λargs H=>(MC args H).map λv=>(v,H)):=by
 refine jo (s:=MC) (tq VH tn) Tryz.func30 rfl Tryz.results30 Tryz.ntmps30 ?_;intro args H v h b9 hH;unfold MC at h;split at h<;>try(simp at h;done)
 rename_i p k a x c s r;split at h<;>try(simp at h;done)
 rename_i id off v N B hx;split at h<;>try(simp at h;done)
 rename_i hc;obtain⟨hB,rfl,rfl,lr,ro,hh⟩:=hc;simp only[ar]at h;subst h;simp only[bK,AV.aj,aQ]at b9;obtain⟨c1,c2,c3,c4,r',ho,oM⟩:=Nr hx;have b0:0<B.length:=by rw[lI]at hh;omega
 have aD:=S0 oM b0;refine⟨by simp,by simp[AV.aj,Sc.aj,aD],?_⟩;have rt:r.take 14=r:=bQ ω;have sp:=λX=>Xf (H:=H++X) (p:=p) (x:=.sl id off v N) (B:=B) (a:=a) (n:=8) (G8 hx b0 X) hB δ;simp only[hh,if_true]at sp;rw[lI]at hh;obtain⟨_,rfl,_,_⟩:=Ky oM;have hX:∀X,hg (H++X) p=.own (.i c1::.i c2::.i c3::.i c4::.sl id off v B.length::r'):=λX=>by rw[cB (eu (by rw[ho];rfl)),ho]
 have w1:aA ((bp a:Int)+8)=((bp a+8:Nat):Int):=by rw[aq ω ω];omega
 have q1:(0:Int)<=(bp a:Int):=ω
 have q2:(bp a:Int)<((bp a+8:Nat):Int):=ω
 have q3:((bp a+8:Nat):Int)<=((bp a+8:Nat):Int):=AS _;have q4:((bp a+8:Nat):Int)<=(B.length:Int):=ω
 have q5:bp a+8-bp a=8:=th ..;simp only[go_sem,seval,lr,ro,rt,sp,hX,w1,q1,q2,q3,q4,q5,aL];exact aC _ _
end
def pU(v:BitVec 64):List Sc:=.u v::.b false::jU jA
theorem ZA(v:BitVec 64):(pU v).length=42:=rfl
theorem ZB(v:BitVec 64):(pU v).all Sc.one=true:=rfl
noncomputable def qV(B:List Int)(a:BitVec 64):BitVec 64:=mU ((B.drop (bp a)).take 8)
section
variable {H:AH}
noncomputable def MB(args:List AV)(H:AH):Option AV:=match args with
 |[.c (.p p 0 0),.c (.i _),.g (.i k::.u a::.u x::.i c::.i s::r)]=>match pg H p with
   |some (.sl id off v N,B)=>if B.length<=262144/\k=2/\c=0/\s=8/\r.length=14/\r.all Sc.one=true/\gC B.length a 8=true then some (.g (pU (qV B a)))else none|_=>none
 |_=>none
theorem ayo{p id off v N:Nat}{B:List Int}{h:Int}{a x:BitVec 64}{r:List Sc}(hw:pg H p=some (.sl id off v N,B))(h1:B.length<=262144)(h2:r.length=14)(h3:r.all Sc.one=true)(h4:gC B.length a 8=true):MB [.c (.p p 0 0),.c (.i h),.g (.i 2::.u a::.u x::.i 0::.i 8::r)] H=some (.g (pU (qV B a))):=by simp only[MB,hw];rw[if_pos ⟨h1,trivial,trivial,trivial,h2,h3,h4⟩]
theorem as7:bh Tryz.prog 38 (λargs H=>(MB args H).map λv=>(v,H)):=by
 refine jo (s:=MB) (tq adn (tq adm tn)) Tryz.func38 rfl Tryz.results38 Tryz.ntmps38 ?_;intro args H v h b9 hH;unfold MB at h;split at h<;>try(simp at h;done)
 rename_i p h0 k a x c s r;split at h<;>try(simp at h;done)
 rename_i id off v N B hx;split at h<;>try(simp at h;done)
 rename_i hc;obtain⟨hB,rfl,rfl,rfl,lr,ro,hh⟩:=hc;simp only[ar]at h;subst h;obtain⟨c1,c2,c3,c4,r',ho,oM⟩:=Nr hx;have FU:=hh;rw[lI]at FU;have b0:0<B.length:=ω
 refine⟨by simp,rfl,?_⟩;have rt:r.take 14=r:=bQ ω;have pt:=λX=>afo (G8 hx b0 X) hB lr ro hh (k:=2) (x:=x);have fn:=λX=>Xc (H:=H++X) (Oh (aaF oM b0 X) (a:=bp a) (n:=8) ω) (show iT (H++X) .az=some []from rfl) (by rw[tg];omega) (by simp);simp only[m7]at fn;simp only[go_sem,seval,lr,ro,rt,pt,fn];exact⟨rfl,aC _ _⟩
noncomputable def GJ(args:List AV)(H:AH):Option AV:=match args with
 |[.c .dk,.c (.i _),.g l]=>if l.length=19/\l.all Sc.one=true then some (.c (.b false))else none|[.c (.p p 0 0),.c (.i h),.g (.i k::.u a::.u x::.i c::.i s::r)]=>match pg H p,hg H p with
   |some (.sl id off v N,B),.own (.i n::.i _::.i _::.i _::_)=>if B.length<=262144/\k=2/\c=0/\s=8/\r.length=14/\(r.all Sc.pf=true/\r.all Sc.one=true)/\gC B.length a 8=true/\0<=h/\h<n then some (.c (.b true))else none|_,_=>none
 |_=>none
theorem as5:bh Tryz.prog 9 (λargs H=>(GJ args H).map λv=>(v,H)):=by
 refine jo (s:=GJ) (tu adk (tq VF (tu atg (tq adn tn)))) Tryz.func9 rfl Tryz.results9 Tryz.ntmps9 ?_;intro args H v h b9 hH;unfold GJ at h;split at h
 .rename_i h0 l;split at h<;>try(simp at h;done)
  rename_i hc;simp only[ar]at h;subst h;refine⟨by simp,rfl,?_⟩;obtain⟨l1,l2⟩:=hc;have lt:l.take 19=l:=bQ ω;simp only[go_sem,seval,l1,l2,lt];exact aC _ _
 .rename_i p h0 k a x c s r;split at h<;>try(simp at h;done)
  rename_i id off v N B n c1 c2 c3 rr hx ho;split at h<;>try(simp at h;done)
  rename_i hc;obtain⟨hB,rfl,rfl,rfl,lr,⟨rp,ro⟩,hh,n0,n1⟩:=hc;simp only[ar]at h;subst h;refine⟨by simp,rfl,?_⟩;have FU:=hh;rw[lI]at FU;have b0:0<B.length:=ω
  have rt:r.take 14=r:=bQ ω;have pt:=λX=>afo (G8 hx b0 X) hB lr ro hh (k:=2) (x:=x);have hX:∀X,hg (H++X) p=.own (.i n::.i c1::.i c2::.i c3::rr):=λX=>by rw[cB (eu (by rw[ho];rfl)),ho]
  have ht:∀X,Et [.c (.p p 0 0),.c (.i h0)] (H++X)=some (.c (.b true)):=λX=>by
   simp only[Et,hX];rw[decide_eq_true n0,decide_eq_true n1];rfl
  have gr:Qp [.c (.i 2)]=some (.c (.i 1)):=rfl;have sh:Qr [.g (.i 2::.u a::.u x::.i 0::.i 8::r)]=some (.c (.b true)):=by simp only[Qr];rw[if_pos ⟨trivial,trivial,trivial,lr,rp,ro⟩]
  simp only[go_sem,seval,lr,ro,rt,pt,ht,gr,sh];exact aC _ _
 .simp at h
theorem ayn{l:List Sc}(h1:l.length=19)(h2:l.all Sc.one=true):GJ [.c .dk,.c (.i h),.g l] H=some (.c (.b false)):=by simp only[GJ];rw[if_pos ⟨h1,h2⟩]
theorem aym{p id off v N:Nat}{B:List Int}{n c1 c2 c3 h:Int}{rr:List Sc}{a x:BitVec 64}{r:List Sc}(hw:pg H p=some (.sl id off v N,B))(ho:hg H p=.own (.i n::.i c1::.i c2::.i c3::rr))(h1:B.length<=262144)(h2:r.length=14)(hp:r.all Sc.pf=true)(h3:r.all Sc.one=true)(h4:gC B.length a 8=true)(n0:0<=h)(n1:h<n):GJ [.c (.p p 0 0),.c (.i h),.g (.i 2::.u a::.u x::.i 0::.i 8::r)] H=some (.c (.b true)):=by simp only[GJ,hw,ho];rw[if_pos ⟨h1,trivial,trivial,trivial,h2,⟨hp,h3⟩,h4,n0,n1⟩]
noncomputable def My(args:List AV)(H:AH):Option AV:=match args with
 |[.c .dk,.c (.i _),.g l]=>if l.length=19/\l.all Sc.one=true then some (.t [.g (pU 0#64),.c (.b false)])else none|[.c (.p p 0 0),.c (.i h),.g (.i k::.u a::.u x::.i c::.i s::r)]=>match pg H p,hg H p with
   |some (.sl id off v N,B),.own (.i n::.i _::.i _::.i _::_)=>if B.length<=262144/\k=2/\c=0/\s=8/\r.length=14/\(r.all Sc.pf=true/\r.all Sc.one=true)/\gC B.length a 8=true/\0<=h/\h<n then some (.t [.g (pU (qV B a)),.c (.b true)])else none|_,_=>none
 |_=>none
theorem asW:bh Tryz.prog 11 (λargs H=>(My args H).map λv=>(v,H)):=by
 refine jo (s:=My) (tq as5 (tu adk (tq as7 tn))) Tryz.func11 rfl Tryz.results11 Tryz.ntmps11 ?_;intro args H v h b9 hH;unfold My at h;split at h
 .rename_i h0 l;split at h<;>try(simp at h;done)
  rename_i hc;simp only[ar]at h;subst h;refine⟨by simp,rfl,?_⟩;obtain⟨l1,l2⟩:=hc;have lt:l.take 19=l:=bQ ω;have my:=λX=>ayn (H:=H++X) (h:=h0) l1 l2;simp only[go_sem,seval,l1,l2,lt,my];exact⟨rfl,aC _ _⟩
 .rename_i p h0 k a x c s r;split at h<;>try(simp at h;done)
  rename_i id off v N B n c1 c2 c3 rr hx ho;split at h<;>try(simp at h;done)
  rename_i hc;obtain⟨hB,rfl,rfl,rfl,lr,⟨rp,ro⟩,hh,n0,n1⟩:=hc;simp only[ar]at h;subst h;refine⟨by simp,rfl,?_⟩;have FU:=hh;rw[lI]at FU;have b0:0<B.length:=ω
  have rt:r.take 14=r:=bQ ω;have hX:∀X,hg (H++X) p=.own (.i n::.i c1::.i c2::.i c3::rr):=λX=>by rw[cB (eu (by rw[ho];rfl)),ho]
  have my:=λX=>aym (G8 hx b0 X) (hX X) hB lr rp ro hh n0 n1 (x:=x);have mm:=λX=>ayo (G8 hx b0 X) hB lr ro hh (x:=x) (h:=h0);have gr:Qp [.c (.i 2)]=some (.c (.i 1)):=rfl;have al:=ZA (qV B a);have a1:=ZB (qV B a);have cJ:(pU (qV B a)).take 42=pU (qV B a):=rfl;have ad:∀T:List Sc,T.length=42->T.drop 42=[]:=λT hT=>kN ω;generalize pU (qV B a)=Q at*;simp only[go_sem,seval,lr,ro,rt,my,mm,gr,al,a1,cJ];exact aC _ _
 .simp at h
end
def rLq:List Sc:=[.i 0,.u 0#64,.u 0#64,.b false,.i 0,.b false,.b false,.b false,.u 0#64,.i 0,.i 0,.u 0#64,.i 0,.u 0#64]
def LP:List Sc:=.i 2::.u 2147483648#64::.u 0#64::.i 0::.i 8::rLq
def rF(w:BitVec 64):List Sc:=.i 0::(LP++(pU w++[.i 0,.i 0,.i 0]))
theorem ZC(q:BitVec 64):cA Tryz.prog .neq 73 (.g (pU q)) (.g (pU 5#64))=some (.c (.b (!decide (q=5#64)))):=by
 have gT:je Tryz.prog 12 73=some (Tg.n::Tg.q::(bD 8 [Tg.q,.q,.q,.n,.n]).flatten):=κ
 rw[Ki _ κ gT];have h:jO (bD 8 [Tg.q,.q,.q,.n,.n]).flatten (jU jA) (jU jA)=some true:=κ
 have:jO (Tg.n::Tg.q::(bD 8 [Tg.q,.q,.q,.n,.n]).flatten) (pU q) (pU 5#64)=some (decide (q=5#64)):=by
  unfold pU;simp only[jO,h,vw];by_cases c:q=5#64<;>simp[c]
 rw[this];rfl
section
variable {H:AH}
open Classical in noncomputable def GL(args:List AV)(H:AH):Option AV:=match args with
 |[.c .dk,.c _]=>some (.t [.c (.i 0),.c (.b false)])|[.c (.p p 0 0),.c (.sl e 0 v n)]=>match pg H p,hg H p with
   |some (.sl id off u N,B),.own (.i m::.i _::.i _::.i _::_)=>if B.length<=262144/\gC B.length 2147483648#64 8=true/\0<m/\n=1/\v=65/\hg H e=.vec 65 (rF 5#64)then some (.t [.c (.i 0),.c (.b (decide (qV B 2147483648#64=5#64)))])else none|_,_=>none
 |_=>none
theorem afq{p id off u N e:Nat}{B:List Int}{n c1 c2 c3:Int}{rr:List Sc}(hw:pg H p=some (.sl id off u N,B))(ho:hg H p=.own (.i n::.i c1::.i c2::.i c3::rr))(h1:B.length<=262144)(h4:gC B.length 2147483648#64 8=true)(n1:0<n)(he:hg H e=.vec 65 (rF 5#64)):GL [.c (.p p 0 0),.c (.sl e 0 65 1)] H=some (.t [.c (.i 0),.c (.b (decide (qV B 2147483648#64=5#64)))]):=by simp only[GL,hw,ho];rw[if_pos ⟨h1,h4,n1,rfl,rfl,he⟩]
theorem atb:bh Tryz.prog 18 (λargs H=>(GL args H).map λv=>(v,H)):=by
 refine jo (s:=GL) (tq asW tn) Tryz.func18 rfl Tryz.results18 Tryz.ntmps18 ?_;intro args H v h b9 hH;unfold GL at h;split at h
 .simp only[ar]at h;subst h;refine⟨by simp,rfl,?_⟩;simp only[go_sem,seval];exact aE _
 .rename_i p e v n;split at h<;>try(simp at h;done)
  rename_i id off u N B m c1 c2 c3 rr hx ho;split at h<;>try(simp at h;done)
  rename_i hc;obtain⟨hB,hh,m0,rfl,rfl,he⟩:=hc;simp only[ar]at h;subst h;refine⟨by simp,rfl,?_⟩;have FU:=hh;rw[lI]at FU;have b0:0<B.length:=ω
  have le:e<H.length:=eu (by rw[he];rfl);have TW:∀X,hg (H++X) e=.vec 65 (rF 5#64):=λX=>by rw[cB le,he]
  have hX:∀X,hg (H++X) p=.own (.i m::.i c1::.i c2::.i c3::rr):=λX=>by rw[cB (eu (by rw[ho];rfl)),ho]
  have my:∀X,My [.c (.p p 0 0),.c (.i 0),.g LP] (H++X)=some (.t [.g (pU (qV B 2147483648#64)),.c (.b true)]):=λX=>by
   unfold LP;simp only[My,G8 hx b0 X,hX X];rw[if_pos ⟨hB,trivial,trivial,trivial,rfl,⟨rfl,rfl⟩,hh,AS _,m0⟩]
  have e1:(rF 5#64).length=65:=rfl;have e2:(rF 5#64).take 65=rF 5#64:=rfl;have e3:(rF 5#64).getD 0 .any=.i 0:=rfl;have e4:((rF 5#64).drop 1).take 19=LP:=rfl;have e5:((rF 5#64).drop 20).take 42=pU 5#64:=rfl;have e6:(rF 5#64).all Sc.one=true:=rfl;have al:=ZA (qV B 2147483648#64);have a1:=ZB (qV B 2147483648#64);have cJ:(pU (qV B 2147483648#64)).take 42=pU (qV B 2147483648#64):=rfl;generalize qV B 2147483648#64=q at*;simp only[go_sem,seval,he,TW,my,e1,e2,e3,e4,e5,e6,al,a1,cJ];rw[rz];refine⟨{k:Nat//k<=1/\(k=1->q=5#64)},λk=>([(0,.c (.p p 0 0)),(12,.c (.sl e 0 65 1)),(13,.c (.i 1)),(14,.c (.i k.1))],if k.1=0 then H else H++[.own (rF 5#64),.own (pU q)]),λk=>1-k.1,⟨0,ω,ω⟩,mF (by simp[Am.get]),?_⟩;rintro⟨k,hk,hq⟩;rcases(show k=0\/k=1 by omega)with rfl|rfl
  .simp only[if_true];by_cases c:q=5#64
   .have c':=eq_true c;have ab:=ZC q;rw[decide_eq_true c]at ab|-;(repeat(first|simp only[go_sem,seval,he,TW,my,e1,e2,e3,e4,e5,e6,al,a1,cJ,ab]|simp(disch:=omega)only[w0]));exact⟨⟨1,ω,λ_=>c⟩,by simp only;omega,Ha rfl (by simp[Am.get])⟩
   .have ab:=ZC q;rw[decide_eq_false c]at ab|-;simp only[go_sem,seval,he,TW,my,e1,e2,e3,e4,e5,e6,al,a1,cJ,ab];exact aC _ _
  .simp only[Nat.one_ne_zero,if_false];rw[decide_eq_true (hq rfl)];simp only[go_sem,seval];exact aC _ _
 .simp at h
end
theorem agA{p id:Nat}{B:List Int}(h:xY H p=some (id,B)):pg H p=some (.sl id 0 B.length B.length,B):=YT h
theorem PM:bp 2147483648#64=0:=by rw[Vs];rfl
theorem TK{N:Nat}{n:Int}(h1:1<=n)(h2:n<=(N:Int)):gC N 2147483648#64 n=true:=by
 rw[lI,PM];refine⟨h1,aB _,ω,ω⟩
theorem aeT(n:Nat):bD n (Sc.k .u8 0)=(bD n (0:Int)).flatMap bR:=by induction n with|zero=>rfl|succ n ih=>rw[yc,ih,yc,rZ];rfl
section
variable {H:AH}
theorem Vq(h t n b:Int)(X:AH):hg (H++(Ah H.length h t n b++X)) (H.length+4)=.own (pP h t n b (.sl (H.length+3) 0 (64*n.toNat) (64*n.toNat)) uJ (.p (H.length+2) 0 0) (aH h Z8))/\hg (H++(Ah H.length h t n b++X)) (H.length+3)=.vec 1 ((bD (64*n.toNat) (0:Int)).flatMap bR):=by
 constructor
 .rw[gM];rfl
 .rw[gM,<-aeT];rfl
theorem arH(h t n b:Int)(X:AH):xY (H++(Ah H.length h t n b++X)) (H.length+4)=some (H.length+3,bD (64*n.toNat) 0):=by
 obtain⟨h1,h2⟩:=Vq (H:=H) h t n b X;exact Rj (B:=bD (64*n.toNat) 0) (by rw[List.length_replicate];exact h1) h2
end
def B0:List Int:=bD 64 0
def B1:List Int:=gF B0 0 [5]
def Xb(args:List AV):Option AV:=match args with|[]=>some (.c (.b true))|_=>none
theorem Ji:Xb []=some (.c (.b true)):=rfl
theorem as2:cK Tryz.prog 7 Xb:=by
 refine cR (tp adl (tq atb (tp as0 tn))) Tryz.func7 rfl Tryz.results7 Tryz.ntmps7 ?_;intro args v h;unfold Xb at h;split at h
 .simp only[ar]at h;subst h;refine⟨by simp,rfl,rfl,?_⟩;obtain⟨K5,Bi⟩:∃K5:AH,K5=Ah 0 1 1 1 1:=⟨_,rfl⟩;have l5:K5.length=5:=by rw[Bi];rfl
  have n1:C8 [.g [.i 1,.i 1,.i 1,.i 1]] []=some (.t [.c (.p 4 0 0),.c (.i 0)],K5):=by
   simp only[C8];rw[if_pos δ,Bi];rfl
  have v5:∀X,xY (K5++X) 4=some (3,B0):=λX=>by
   have:=arH (H:=[]) 1 1 1 1 X;rw[jW,fa,<-Bi]at this;exact this
  have h5:∀X,hg (K5++X) 4=.own (.i 1::.i 1::.i 1::.i 1::.sl 3 0 64 64::(uJ++.p 2 0 0::aH 1 Z8)):=λX=>by
   have:=(Vq (H:=[]) 1 1 1 1 X).1;rw[jW,fa,<-Bi]at this;exact this
  have r1:∀X,GL [.c (.p 4 0 0),.c (.sl 5 0 65 1)] (K5++(.vec 65 (rF 5#64)::X))=some (.t [.c (.i 0),.c (.b false)]):=λX=>by
   have:=afq (e:=5) (agA (v5 (.vec 65 (rF 5#64)::X))) (h5 _) δ (TK δ δ) δ (by rw[<-l5,km];rfl);rw[this];have e:qV B0 2147483648#64=0#64:=by unfold qV;rw[PM];rfl
   rw[e];rfl
  obtain⟨K8,TH⟩:∃K8:AH,K8=(K5++[ae.vec 65 (rF 5#64),ae.vec 1 [.k .u8 5]]).set 3 (.vec 1 (B1.flatMap bR)):=⟨_,rfl⟩;have f1:Eu [.c (.p 4 0 0),.c (.u 2147483648#64),.c (.sl 6 0 1 1)] (K5++[ae.vec 65 (rF 5#64),ae.vec 1 [.k .u8 5]])=some (.c (.b true),K8):=by
   have h6:hg (K5++[ae.vec 65 (rF 5#64),ae.vec 1 [.k .u8 5]]) 6=.vec 1 (([5]:List Int).flatMap bR):=by
    have:=gM (H:=K5) (X:=[ae.vec 65 (rF 5#64),ae.vec 1 [.k .u8 5]]) (n:=1);rw[l5]at this;rw[this];rfl
   have fe:=ayk (a:=2147483648#64) (v5 _) (zH h6) δ δ;simp only[cT,fa,oF]at fe;rw[fe,if_neg δ,if_pos (TK δ δ),PM,TH];rfl
  have k8:∀i,i≠3->hg K8 i=hg (K5++[ae.vec 65 (rF 5#64),ae.vec 1 [.k .u8 5]]) i:=λi hi=>by rw[TH,ej (λc=>hi c.symm)]
  have r2:GL [.c (.p 4 0 0),.c (.sl 5 0 65 1)] K8=some (.t [.c (.i 0),.c (.b true)]):=by
   have h4:hg K8 4=.own (.i 1::.i 1::.i 1::.i 1::.sl 3 0 64 64::(uJ++.p 2 0 0::aH 1 Z8)):=by rw[k8 4 δ,h5]
   have h3:hg K8 3=.vec 1 (B1.flatMap bR):=by rw[TH,iN (by simp;omega)]
   have v8:xY K8 4=some (3,B1):=Rj h4 h3;have:=afq (e:=5) (agA v8) h4 δ (TK δ δ) δ (by rw[k8 5 δ,<-l5,km];rfl);rw[this];have e:qV B1 2147483648#64=5#64:=by unfold qV;rw[PM];rfl
   rw[e];rfl
  simp only[rF,LP,rLq,pU,Qa,lf,jW]at r1 f1;simp only[go_sem,seval,n1,l5,r1,f1,r2]
 .simp at h
section
variable {H:AH}
noncomputable def yO(id off v N:Nat)(a b:BitVec 64)(c s:Int):AV:=if c=0 then(if gC N a s=true then .t [.c (.sl id (off+bp a) v s.toNat),.c .az,.c (.b true)]else .t [.c .az,.c .az,.c (.b false)])else if gC N a c=true/\gC N b (s-c)=true then .t [.c (.sl id (off+bp a) v c.toNat),.c (.sl id (off+bp b) v (s-c).toNat),.c (.b true)]else .t [.c .az,.c .az,.c (.b false)]
noncomputable def Jm(args:List AV)(H:AH):Option AV:=match args with
 |[.c (.p p 0 0),.g (.i _::.u a::.u b::.i c::.i s::r)]=>match pg H p with
   |some (.sl id off v N,B)=>if 0<B.length/\B.length<=262144/\0<=c/\c<s/\s<=8/\r.length=14/\r.all Sc.one=true then some (yO id off v B.length a b c s)else none|_=>none
 |_=>none
theorem Xd{p id off v N:Nat}{B:List Int}{k c s:Int}{a b:BitVec 64}{r:List Sc}(h:pg H p=some (.sl id off v N,B))(h0:0<B.length)(h1:B.length<=262144)(c0:0<=c)(cs:c<s)(s8:s<=8)(h2:r.length=14)(h3:r.all Sc.one=true):Jm [.c (.p p 0 0),.g (.i k::.u a::.u b::.i c::.i s::r)] H=some (yO id off v B.length a b c s):=by simp only[Jm,h];rw[if_pos ⟨h0,h1,c0,cs,s8,h2,h3⟩]
theorem VG:bh Tryz.prog 30 (λargs H=>(Jm args H).map λv=>(v,H)):=by
 refine jo (s:=Jm) (tq VH tn) Tryz.func30 rfl Tryz.results30 Tryz.ntmps30 ?_;intro args H v h b9 hH;unfold Jm at h;split at h<;>try(simp at h;done)
 rename_i p k a b c s r;split at h<;>try(simp at h;done)
 rename_i id off v N B hx;split at h<;>try(simp at h;done)
 rename_i hc;obtain⟨b0,hB,c0,cs,s8,lr,ro⟩:=hc;simp only[ar]at h;subst h;obtain⟨c1,c2,c3,c4,r',ho,oM⟩:=Nr hx;have aD:=S0 oM b0;have Z0:AV.aj H.length (yO id off v N a b c s)=true:=by
  unfold yO;repeat' split
  all_goals simp[AV.aj,Sc.aj,aD]
 obtain⟨_,rfl,_,_⟩:=Ky oM;refine⟨by simp,Z0,?_⟩;clear Z0;have rt:r.take 14=r:=bQ ω;have hX:∀X,hg (H++X) p=.own (.i c1::.i c2::.i c3::.i c4::.sl id off v B.length::r'):=λX=>by rw[cB (eu (by rw[ho];rfl)),ho]
 have sp:=λX(a:BitVec 64)(n:Int)(hn:n<=8)=>Xf (H:=H++X) (p:=p) (x:=.sl id off v B.length) (B:=B) (a:=a) (n:=n) (G8 hx b0 X) hB ω;have ct:∀(a:BitVec 64)(m:Nat),gC B.length a m=true->m<=8->aA ((bp a:Int)+(m:Int))=((bp a+m:Nat):Int)/\(0:Int)<=(bp a:Int)/\(bp a:Int)<((bp a+m:Nat):Int)/\((bp a+m:Nat):Int)<=(B.length:Int)/\bp a+m-bp a=m:=λa m hh hm=>by
  rw[lI]at hh;refine⟨by rw[aq ω ω];omega,ω,ω,ω,th ..⟩
 have q3:∀x:Int,x<=x:=λx=>AS x;obtain⟨n,rfl⟩:∃n:Nat,s=(n:Int):=⟨s.toNat,ω⟩;by_cases z:c=0
 .subst z;have sa:=λX=>sp X a n s8;unfold yO;rw[if_pos rfl];by_cases hh:gC B.length a n=true
  .rw[if_pos hh];simp only[hh,if_true]at sa;obtain⟨e1,e2,e3,e4,e5⟩:=ct a n hh ω;simp only[go_sem,seval,lr,ro,rt,sa,hX,e1,e2,e3,e4,e5,q3,aL];exact aC _ _
  .rw[if_neg hh];simp only[if_neg hh]at sa;simp only[go_sem,seval,lr,ro,rt,sa,hX];exact aC _ _
 .obtain⟨m,rfl⟩:∃m:Nat,c=(m:Int):=⟨c.toNat,ω⟩;have m0:(0:Int)<(m:Int):=ω
  have sa:=λX=>sp X a m ω;have sb:=λX=>sp X b ((n-m:Nat):Int) ω;have em:aA ((n:Int)-(m:Int))=((n-m:Nat):Int):=by rw[aq ω ω];omega
  have em2:((n:Int)-(m:Int))=((n-m:Nat):Int):=ω
  unfold yO;rw[if_neg z,em2];by_cases hh:gC B.length a m=true
  .simp only[hh,if_true]at sa;obtain⟨e1,e2,e3,e4,e5⟩:=ct a m hh ω;by_cases h2:gC B.length b ((n-m:Nat):Int)=true
   .rw[if_pos ⟨hh,h2⟩];simp only[h2,if_true]at sb;obtain⟨g1,g2,g3,g4,g5⟩:=ct b (n-m) h2 ω;simp only[go_sem,seval,lr,ro,rt,sa,sb,hX,m0,z,em,e1,e2,e3,e4,e5,g1,g2,g3,g4,g5,q3,aL];exact aC _ _
   .rw[if_neg (λc=>h2 c.2)];simp only[if_neg h2]at sb;simp only[go_sem,seval,lr,ro,rt,sa,sb,hX,m0,z,em,e1,e2,e3,e4,e5,q3,aL];exact aC _ _
  .rw[if_neg (λc=>hh c.1)];simp only[if_neg hh]at sa;simp only[go_sem,seval,lr,ro,rt,sa,hX,m0,z];exact aC _ _
end
end
end Go.Proofs.YtghlfboliomhcaaGreat
