/- The types of this translation, as the abstract machine reads them: closed facts. -/
import Derived.Test.YtghlfboliomhcaaGreatProg
import Derived.Test.YtghlfboliomhcaaGreatPb2
set_option maxRecDepth 100000
set_option maxHeartbeats 8000000
open BitVec renaming ofInt->aw,toNat_sub->yp,toNat_ofInt->kU,lt_def->mY,le_def->rT,toInt_eq_toNat_cond->xe
open Bool renaming true_and->gv,and_true->cX,and_eq_true->aQ,not_eq_true->iB
open Int renaming toNat_natCast->aO,le_refl->zO
open List renaming flatMap_cons->qC,length_append->cF,length_cons->cZ,drop_succ_cons->Gs,drop_drop->uX,drop_left->MB,getElem?_eq_none->jQ,drop_eq_getElem_cons->Gr,getElem?_eq_getElem->cM,getD_eq_getElem?_getD->b9,getElem?_take_of_lt->yu,getElem?_drop->sZ,flatMap_append->MC,length_drop->ui,take_append_drop->GA,replicate->bE,replicate_succ->xn,flatten_cons->BB,append_assoc->fo,length_take->rW,drop_append->BA,drop_of_length_le->kE,nil_append->jV,drop_append_of_le_length->Jf,take_append_of_le_length->CF,drop_eq_nil_of_le->MA,length_set->js,take_succ_cons->GB,cons_append->kX,append_nil->kD,all_cons->bG,all_flatMap->rU,all_eq_true->cD,all_nil->dO,take_of_length_le->bR,getElem?_take->Gw,take->bV,drop->cY,all_append->fH,take_left'->qe,length_nil->dY
open List.cons renaming injEq->cK
open Nat renaming add_mul->uZ,one_mul->BD,add_comm->yv,lt_or_ge->cU,mul_one->Ep,add_zero->rj,min_eq_left->yw,add_sub_cancel_left->s9,add_assoc->mH,zero_add->oU,sub_self->CH,le_refl->aC
open Option renaming map_some->n9,map_eq_some_iff->ef,bind_eq_some_iff->kY
open Option.some renaming injEq->ar
open Prod.mk renaming injEq->bD
namespace Go.Proofs.YtghlfboliomhcaaGreat
open Go.Am
theorem np:Tryz.prog.follows .mixedOrders=true:=κ
theorem dT2:dT Tryz.prog 2=.int .i64:=κ
theorem dT3:dT Tryz.prog 3=.int .i64:=κ
theorem sT3:av Tryz.prog 3=1:=κ
theorem zT3:zT Tryz.prog 3=some [.i 0]:=κ
theorem dT4:dT Tryz.prog 4=.bool:=κ
theorem sT4:av Tryz.prog 4=1:=κ
theorem dT5:dT Tryz.prog 5=.int .u8:=κ
theorem sT5:av Tryz.prog 5=1:=κ
theorem bT5:lY Tryz.prog 5=1:=κ
theorem zT5:zT Tryz.prog 5=some [.k .u8 (0)]:=κ
theorem dT9:dT Tryz.prog 9=.str:=κ
theorem sT9:av Tryz.prog 9=1:=κ
theorem Zr:dT Tryz.prog 23=.st [(0,3),(1,3),(2,3),(3,3)]:=κ
theorem avH:av Tryz.prog 23=4:=κ
theorem aAJ:zT Tryz.prog 23=some [.i 0,.i 0,.i 0,.i 0]:=κ
theorem al7:iV Tryz.prog 12 23=some [.n,.n,.n,.n]:=κ
theorem apv{a b:List Sc} :cj Tryz.prog .neq 23 (.g a) (.g b)=(gB [.n,.n,.n,.n] a b).bind (qI .neq):=Jn _ (by simp only [Zr,D.agg]) al7
theorem ajU:dT Tryz.prog 24=.sl 35:=κ
theorem ajV:dT Tryz.prog 25=.int .i64:=κ
theorem avI:av Tryz.prog 25=1:=κ
theorem ajX:dT Tryz.prog 26=.int .u64:=κ
theorem avK:av Tryz.prog 26=1:=κ
theorem ahH:lY Tryz.prog 26=8:=κ
theorem aAL:zT Tryz.prog 26=some [.u 0#64]:=κ
theorem aj1:dT Tryz.prog 27=.int .i64:=κ
theorem avN:av Tryz.prog 27=1:=κ
theorem RS:dT Tryz.prog 29=.st [(0,4),(1,4),(2,4),(3,26),(4,3)]:=κ
theorem avQ:av Tryz.prog 29=5:=κ
theorem aAQ:zT Tryz.prog 29=some [.b false,.b false,.b false,.u 0#64,.i 0]:=κ
theorem aai:iV Tryz.prog 12 29=some [.q,.q,.q,.n,.n]:=κ
theorem ak0{a b:List Sc} :cj Tryz.prog .eql 29 (.g a) (.g b)=(gB [.q,.q,.q,.n,.n] a b).bind (qI .eql):=xr _ (by simp only [RS,D.agg]) aai
theorem apw{a b:List Sc} :cj Tryz.prog .neq 29 (.g a) (.g b)=(gB [.q,.q,.q,.n,.n] a b).bind (qI .neq):=Jn _ (by simp only [RS,D.agg]) aai
theorem aj5:dT Tryz.prog 33=.st [(0,25),(1,26),(2,26),(3,3),(4,3),(5,27),(6,26),(7,26),(8,4),(9,3),(10,29),(15,31)]:=κ
theorem avR:av Tryz.prog 33=19:=κ
theorem aAR:zT Tryz.prog 33=some [.i 0,.u 0#64,.u 0#64,.i 0,.i 0,.i 0,.u 0#64,.u 0#64,.b false,.i 0,.b false,.b false,.b false,.u 0#64,.i 0,.i 0,.u 0#64,.i 0,.u 0#64]:=κ
theorem aj6:dT Tryz.prog 35=.st [(0,3),(1,33)]:=κ
theorem avS:av Tryz.prog 35=20:=κ
variable {a b c:Nat}
theorem alh :cj Tryz.prog .eql 36 (.c (.p a b c)) (.c .dt)=some (.c (.b false)):=κ
theorem aln:cj Tryz.prog .eql 36 (.c .dt) (.c .dt)=some (.c (.b true)):=κ
theorem aj7:dT Tryz.prog 42=.sl 5:=κ
theorem avT:av Tryz.prog 42=1:=κ
theorem ali{n:Nat} :cj Tryz.prog .eql 42 (.c (.sl a b c n)) (.c .aA)=if n=0 then some (.c .qq) else some (.c (.b false)):=κ
theorem alo:cj Tryz.prog .eql 42 (.c .aA) (.c .aA)=some (.c (.b true)):=κ
theorem aj8:dT Tryz.prog 44=.st [(0,42)]:=κ
theorem avU:av Tryz.prog 44=1:=κ
theorem aAS:zT Tryz.prog 44=some [.aA]:=κ
theorem aj9:dT Tryz.prog 45=.arr 8 4:=κ
theorem avV:av Tryz.prog 45=8:=κ
theorem aka:dT Tryz.prog 46=.arr 8 26:=κ
theorem avW:av Tryz.prog 46=8:=κ
theorem akb:dT Tryz.prog 48=.st [(0,45),(8,46)]:=κ
theorem avX:av Tryz.prog 48=16:=κ
theorem aAT:zT Tryz.prog 48=some [.b false,.b false,.b false,.b false,.b false,.b false,.b false,.b false,.u 0#64,.u 0#64,.u 0#64,.u 0#64,.u 0#64,.u 0#64,.u 0#64,.u 0#64]:=κ
theorem akc:dT Tryz.prog 50=.st [(0,23),(4,44),(5,48)]:=κ
theorem avY:av Tryz.prog 50=21:=κ
theorem aAU:zT Tryz.prog 50=some [.i 0,.i 0,.i 0,.i 0,.aA,.b false,.b false,.b false,.b false,.b false,.b false,.b false,.b false,.u 0#64,.u 0#64,.u 0#64,.u 0#64,.u 0#64,.u 0#64,.u 0#64,.u 0#64]:=κ
theorem akd:dT Tryz.prog 52=.st [(0,3),(1,26),(2,46),(10,45)]:=κ
theorem avZ:av Tryz.prog 52=18:=κ
theorem aAV:zT Tryz.prog 52=some [.i 0,.u 0#64,.u 0#64,.u 0#64,.u 0#64,.u 0#64,.u 0#64,.u 0#64,.u 0#64,.u 0#64,.b false,.b false,.b false,.b false,.b false,.b false,.b false,.b false]:=κ
theorem ake:dT Tryz.prog 53=.arr 32 3:=κ
theorem av0:av Tryz.prog 53=32:=κ
theorem akf:dT Tryz.prog 54=.arr 32 4:=κ
theorem av1:av Tryz.prog 54=32:=κ
theorem akg:dT Tryz.prog 55=.arr 16 54:=κ
theorem av2:av Tryz.prog 55=512:=κ
theorem akh:dT Tryz.prog 56=.arr 16 3:=κ
theorem av3:av Tryz.prog 56=16:=κ
theorem aki:dT Tryz.prog 58=.st [(0,3),(1,53),(33,54),(65,54),(97,54),(129,55),(641,56)]:=κ
theorem av4:av Tryz.prog 58=657:=κ
theorem akj:dT Tryz.prog 60=.st [(0,3),(1,3),(2,3),(3,3),(4,3),(5,3),(6,4),(7,4),(8,4),(9,42),(10,42)]:=κ
theorem av5:av Tryz.prog 60=11:=κ
theorem aAW:zT Tryz.prog 60=some [.i 0,.i 0,.i 0,.i 0,.i 0,.i 0,.b false,.b false,.b false,.aA,.aA]:=κ
theorem akk:dT Tryz.prog 62=.st [(0,3),(1,52),(19,58),(676,60)]:=κ
theorem av6:av Tryz.prog 62=687:=κ
theorem akl:dT Tryz.prog 63=.arr 8 29:=κ
theorem av7:av Tryz.prog 63=40:=κ
theorem aAX:zT Tryz.prog 63=some [.b false,.b false,.b false,.u 0#64,.i 0,.b false,.b false,.b false,.u 0#64,.i 0,.b false,.b false,.b false,.u 0#64,.i 0,.b false,.b false,.b false,.u 0#64,.i 0,.b false,.b false,.b false,.u 0#64,.i 0,.b false,.b false,.b false,.u 0#64,.i 0,.b false,.b false,.b false,.u 0#64,.i 0,.b false,.b false,.b false,.u 0#64,.i 0]:=κ
theorem akm:dT Tryz.prog 64=.arr 8 63:=κ
theorem av8:av Tryz.prog 64=320:=κ
theorem akn:dT Tryz.prog 66=.st [(0,3),(1,64)]:=κ
theorem av9:av Tryz.prog 66=321:=κ
theorem ako:dT Tryz.prog 68=.st [(0,50),(21,62),(708,66)]:=κ
theorem awa:av Tryz.prog 68=1029:=κ
theorem akp:dT Tryz.prog 73=.st [(0,26),(1,4),(2,63)]:=κ
theorem awb:av Tryz.prog 73=42:=κ
theorem aAY:zT Tryz.prog 73=some [.u 0#64,.b false,.b false,.b false,.b false,.u 0#64,.i 0,.b false,.b false,.b false,.u 0#64,.i 0,.b false,.b false,.b false,.u 0#64,.i 0,.b false,.b false,.b false,.u 0#64,.i 0,.b false,.b false,.b false,.u 0#64,.i 0,.b false,.b false,.b false,.u 0#64,.i 0,.b false,.b false,.b false,.u 0#64,.i 0,.b false,.b false,.b false,.u 0#64,.i 0]:=κ
theorem akq:dT Tryz.prog 84=.sl 86:=κ
theorem akr:dT Tryz.prog 86=.st [(0,3),(1,33),(20,73),(62,3),(63,3),(64,3)]:=κ
theorem awc:av Tryz.prog 86=65:=κ
theorem aAZ:zT Tryz.prog 86=some [.i 0,.i 0,.u 0#64,.u 0#64,.i 0,.i 0,.i 0,.u 0#64,.u 0#64,.b false,.i 0,.b false,.b false,.b false,.u 0#64,.i 0,.i 0,.u 0#64,.i 0,.u 0#64,.u 0#64,.b false,.b false,.b false,.b false,.u 0#64,.i 0,.b false,.b false,.b false,.u 0#64,.i 0,.b false,.b false,.b false,.u 0#64,.i 0,.b false,.b false,.b false,.u 0#64,.i 0,.b false,.b false,.b false,.u 0#64,.i 0,.b false,.b false,.b false,.u 0#64,.i 0,.b false,.b false,.b false,.u 0#64,.i 0,.b false,.b false,.b false,.u 0#64,.i 0,.i 0,.i 0,.i 0]:=κ
theorem aks:dT Tryz.prog 92=.ptr 152:=κ
theorem awd:av Tryz.prog 92=1:=κ
theorem alj :cj Tryz.prog .eql 92 (.c (.p a b c)) (.c .dt)=some (.c (.b false)):=κ
theorem alp:cj Tryz.prog .eql 92 (.c .dt) (.c .dt)=some (.c (.b true)):=κ
theorem akt:dT Tryz.prog 96=.st [(0,3),(1,64)]:=κ
theorem awe:av Tryz.prog 96=321:=κ
theorem Zt:dT Tryz.prog 99=.st [(0,4),(1,26)]:=κ
theorem awf:av Tryz.prog 99=2:=κ
theorem aA0:zT Tryz.prog 99=some [.b false,.u 0#64]:=κ
theorem al9:iV Tryz.prog 12 99=some [.q,.n]:=κ
theorem ak1{a b:List Sc} :cj Tryz.prog .eql 99 (.g a) (.g b)=(gB [.q,.n] a b).bind (qI .eql):=xr _ (by simp only [Zt,D.agg]) al9
theorem ajE:dT Tryz.prog 100=.arr 8 99:=κ
theorem avv:av Tryz.prog 100=16:=κ
theorem ajF:dT Tryz.prog 102=.st [(0,23),(4,42),(5,100),(21,92),(22,96)]:=κ
theorem ajG:dT Tryz.prog 139=.ptr 212:=κ
theorem avw:av Tryz.prog 139=1:=κ
theorem ald :cj Tryz.prog .eql 139 (.c (.p a b c)) (.c .dt)=some (.c (.b false)):=κ
theorem alk:cj Tryz.prog .eql 139 (.c .dt) (.c .dt)=some (.c (.b true)):=κ
theorem apx :cj Tryz.prog .neq 139 (.c (.p a b c)) (.c .dt)=some (.c (.b true)):=κ
theorem apA:cj Tryz.prog .neq 139 (.c .dt) (.c .dt)=some (.c (.b false)):=κ
theorem ajH:dT Tryz.prog 142=.st [(0,3),(1,26),(2,46),(10,45)]:=κ
theorem avx:av Tryz.prog 142=18:=κ
theorem aAC:zT Tryz.prog 142=some [.i 0,.u 0#64,.u 0#64,.u 0#64,.u 0#64,.u 0#64,.u 0#64,.u 0#64,.u 0#64,.u 0#64,.b false,.b false,.b false,.b false,.b false,.b false,.b false,.b false]:=κ
theorem ajI:dT Tryz.prog 144=.arr 32 5:=κ
theorem avy:av Tryz.prog 144=32:=κ
theorem ajJ:dT Tryz.prog 145=.int .u32:=κ
theorem avz:av Tryz.prog 145=1:=κ
theorem ajK:dT Tryz.prog 146=.arr 16 145:=κ
theorem avA:av Tryz.prog 146=16:=κ
theorem ajL:dT Tryz.prog 147=.arr 16 5:=κ
theorem avB:av Tryz.prog 147=16:=κ
theorem ajM:dT Tryz.prog 149=.st [(0,3),(1,144),(33,145),(34,145),(35,145),(36,146),(52,147)]:=κ
theorem avC:av Tryz.prog 149=68:=κ
theorem aAD:zT Tryz.prog 149=some [.i 0,.k .u8 (0),.k .u8 (0),.k .u8 (0),.k .u8 (0),.k .u8 (0),.k .u8 (0),.k .u8 (0),.k .u8 (0),.k .u8 (0),.k .u8 (0),.k .u8 (0),.k .u8 (0),.k .u8 (0),.k .u8 (0),.k .u8 (0),.k .u8 (0),.k .u8 (0),.k .u8 (0),.k .u8 (0),.k .u8 (0),.k .u8 (0),.k .u8 (0),.k .u8 (0),.k .u8 (0),.k .u8 (0),.k .u8 (0),.k .u8 (0),.k .u8 (0),.k .u8 (0),.k .u8 (0),.k .u8 (0),.k .u8 (0),.k .u32 (0),.k .u32 (0),.k .u32 (0),.k .u32 (0),.k .u32 (0),.k .u32 (0),.k .u32 (0),.k .u32 (0),.k .u32 (0),.k .u32 (0),.k .u32 (0),.k .u32 (0),.k .u32 (0),.k .u32 (0),.k .u32 (0),.k .u32 (0),.k .u32 (0),.k .u32 (0),.k .u32 (0),.k .u8 (0),.k .u8 (0),.k .u8 (0),.k .u8 (0),.k .u8 (0),.k .u8 (0),.k .u8 (0),.k .u8 (0),.k .u8 (0),.k .u8 (0),.k .u8 (0),.k .u8 (0),.k .u8 (0),.k .u8 (0),.k .u8 (0),.k .u8 (0)]:=κ
theorem ajN:dT Tryz.prog 152=.st [(0,139),(1,3),(2,142),(20,149)]:=κ
theorem aAE:zT Tryz.prog 152=some [.dt,.i 0,.i 0,.u 0#64,.u 0#64,.u 0#64,.u 0#64,.u 0#64,.u 0#64,.u 0#64,.u 0#64,.u 0#64,.b false,.b false,.b false,.b false,.b false,.b false,.b false,.b false,.i 0,.k .u8 (0),.k .u8 (0),.k .u8 (0),.k .u8 (0),.k .u8 (0),.k .u8 (0),.k .u8 (0),.k .u8 (0),.k .u8 (0),.k .u8 (0),.k .u8 (0),.k .u8 (0),.k .u8 (0),.k .u8 (0),.k .u8 (0),.k .u8 (0),.k .u8 (0),.k .u8 (0),.k .u8 (0),.k .u8 (0),.k .u8 (0),.k .u8 (0),.k .u8 (0),.k .u8 (0),.k .u8 (0),.k .u8 (0),.k .u8 (0),.k .u8 (0),.k .u8 (0),.k .u8 (0),.k .u8 (0),.k .u8 (0),.k .u32 (0),.k .u32 (0),.k .u32 (0),.k .u32 (0),.k .u32 (0),.k .u32 (0),.k .u32 (0),.k .u32 (0),.k .u32 (0),.k .u32 (0),.k .u32 (0),.k .u32 (0),.k .u32 (0),.k .u32 (0),.k .u32 (0),.k .u32 (0),.k .u32 (0),.k .u32 (0),.k .u32 (0),.k .u8 (0),.k .u8 (0),.k .u8 (0),.k .u8 (0),.k .u8 (0),.k .u8 (0),.k .u8 (0),.k .u8 (0),.k .u8 (0),.k .u8 (0),.k .u8 (0),.k .u8 (0),.k .u8 (0),.k .u8 (0),.k .u8 (0),.k .u8 (0)]:=κ
theorem apy :cj Tryz.prog .neq 161 (.c (.p a b c)) (.c .dt)=some (.c (.b true)):=κ
theorem ajO:dT Tryz.prog 162=.sl 3:=κ
theorem ajP:dT Tryz.prog 165=.st [(0,26),(1,26),(2,3),(3,3)]:=κ
theorem avD:av Tryz.prog 165=4:=κ
theorem aAF:zT Tryz.prog 165=some [.u 0#64,.u 0#64,.i 0,.i 0]:=κ
theorem Zq:dT Tryz.prog 176=.st [(0,3),(1,26),(2,3)]:=κ
theorem avE:av Tryz.prog 176=3:=κ
theorem aAG:zT Tryz.prog 176=some [.i 0,.u 0#64,.i 0]:=κ
theorem al6:iV Tryz.prog 12 176=some [.n,.n,.n]:=κ
theorem apu{a b:List Sc} :cj Tryz.prog .neq 176 (.g a) (.g b)=(gB [.n,.n,.n] a b).bind (qI .neq):=Jn _ (by simp only [Zq,D.agg]) al6
theorem ajQ:dT Tryz.prog 212=.st [(0,5),(1,5),(2,5),(3,5),(4,5),(5,5),(6,4),(7,4),(8,4),(9,42),(10,42)]:=κ
theorem avF:av Tryz.prog 212=11:=κ
theorem aAH:zT Tryz.prog 212=some [.k .u8 (0),.k .u8 (0),.k .u8 (0),.k .u8 (0),.k .u8 (0),.k .u8 (0),.b false,.b false,.b false,.aA,.aA]:=κ
theorem ajR:dT Tryz.prog 213=.int .u64:=κ
theorem avG:av Tryz.prog 213=1:=κ
theorem ajS:dT Tryz.prog 220=.arr 2 42:=κ
theorem aAI:zT Tryz.prog 220=some [.aA,.aA]:=κ
theorem ajT:dT Tryz.prog 221=.sl 26:=κ
theorem ale :cj Tryz.prog .eql 235 (.c (.p a b c)) (.c .dt)=some (.c (.b false)):=κ
theorem apz :cj Tryz.prog .neq 235 (.c (.p a b c)) (.c .dt)=some (.c (.b true)):=κ
theorem alf :cj Tryz.prog .eql 236 (.c (.p a b c)) (.c .dt)=some (.c (.b false)):=κ
theorem Zs:dT Tryz.prog 253=.arr 9 5:=κ
theorem avJ:av Tryz.prog 253=9:=κ
theorem aAK:zT Tryz.prog 253=some [.k .u8 (0),.k .u8 (0),.k .u8 (0),.k .u8 (0),.k .u8 (0),.k .u8 (0),.k .u8 (0),.k .u8 (0),.k .u8 (0)]:=κ
theorem al8:iV Tryz.prog 12 253=some [.n,.n,.n,.n,.n,.n,.n,.n,.n]:=κ
theorem akZ{a b:List Sc} :cj Tryz.prog .eql 253 (.g a) (.g b)=(gB [.n,.n,.n,.n,.n,.n,.n,.n,.n] a b).bind (qI .eql):=xr _ (by simp only [Zs,D.agg]) al8
theorem ajW:dT Tryz.prog 259=.sl 9:=κ
theorem ajY:dT Tryz.prog 261=.sl 266:=κ
theorem ajZ:dT Tryz.prog 263=.st [(0,26),(1,26),(2,3),(3,3)]:=κ
theorem avL:av Tryz.prog 263=4:=κ
theorem aAM:zT Tryz.prog 263=some [.u 0#64,.u 0#64,.i 0,.i 0]:=κ
theorem aj0:dT Tryz.prog 266=.st [(0,26),(1,3),(2,3)]:=κ
theorem avM:av Tryz.prog 266=3:=κ
theorem ahI:lY Tryz.prog 266=24:=κ
theorem aAN:zT Tryz.prog 266=some [.u 0#64,.i 0,.i 0]:=κ
theorem aj2:dT Tryz.prog 272=.ptr 26:=κ
theorem avO:av Tryz.prog 272=1:=κ
theorem alg :cj Tryz.prog .eql 272 (.c (.p a b c)) (.c .dt)=some (.c (.b false)):=κ
theorem alm:cj Tryz.prog .eql 272 (.c .dt) (.c .dt)=some (.c (.b true)):=κ
theorem aj3:dT Tryz.prog 274=.st [(0,3),(1,272),(2,213)]:=κ
theorem avP:av Tryz.prog 274=3:=κ
theorem aAO:zT Tryz.prog 274=some [.i 0,.dt,.u 0#64]:=κ
theorem aj4:dT Tryz.prog 289=.arr 3 4:=κ
theorem aAP:zT Tryz.prog 289=some [.b false,.b false,.b false]:=κ
variable {s:List AV->Option AV}
theorem tu{n:Nat}{t:je} (h:cE Tryz.prog n s) (k:jw Tryz.prog t):jw Tryz.prog ((n,.pu s)::t):=jw.cons (e:=.pu s) h k
theorem tp{n:Nat}{s:List AV->AH->Option (AV×AH)}{t:je} (h:aZ Tryz.prog n s) (k:jw Tryz.prog t):jw Tryz.prog ((n,.fp s)::t):=jw.cons (e:=.fp s) h k
theorem tq{n:Nat}{s:List AV->AH->Option AV}{t:je} (h:aZ Tryz.prog n λa H=>(s a H).map λv=>(v,H)) (k:jw Tryz.prog t):jw Tryz.prog ((n,.fq s)::t):=jw.cons (e:=.fq s) h k
theorem tn:jw Tryz.prog []:=jw.nil
theorem w0:(∀n:Int,-9223372036854775808<=n->n<=9223372036854775807->az n=n)/\(∀{α:Type} {c:Prop} [Decidable c] {a b:α},c->(if c then a else b)=a)/\(∀{α:Type} {c:Prop} [Decidable c] {a b:α},¬c->(if c then a else b)=b)/\(∀{p:Prop} [Decidable p],p->decide p=true)/\∀{p:Prop} [Decidable p],¬p->decide p=false:=⟨λ_=>aq,λh=>if_pos h,λh=>if_neg h,λh=>decide_eq_true h,λh=>decide_eq_false h⟩
section
variable {f:Nat} {fn:Func} {code:Code} {rs:List ResultVar} {n:Nat} {aa:je} (ht:jw Tryz.prog aa) (hf:Tryz.prog.funcs[f]?=some fn) (hb:fn.body=some code) (oH:fn.results=rs.toArray) (hn:fn.ntmps=n)
include ht hf hb oH hn
theorem cN (h:∀args v,s args=some v->args.length<=n/\args.all AV.pf=true/\v.pf=true/\aM Tryz.prog aa [.c code] (sd 0 args) [] (λfr H=>rG Tryz.prog fr H rs=some v)) (qQ:(fn.name== "runtime.NumGoroutine")=false:=by kernel_rfl) (aR:mf n vY code=true:=by kernel_rfl):cE Tryz.prog f s:=auN np ht hf hb oH hn qQ aR h
theorem fU{s:List AV->AH->Option (AV×AH)} (hle:∀args H v H1,s args H=some (v,H1)->H.length<=H1.length) (h:∀args H v H1,s args H=some (v,H1)->(args.all (AV.aj H.length))=true->dk H=true->args.length<=n/\aM Tryz.prog ((1000000,.lo H.length)::aa) [.c code] (sd 0 args) H (λfr H'=>∃v',rG Tryz.prog fr H' rs=some v'/\Wk H.length [(0,v')] H' ([(0,v)],H1))) (qQ:(fn.name== "runtime.NumGoroutine")=false:=by kernel_rfl) (aR:mf n vY code=true:=by kernel_rfl):aZ Tryz.prog f s:=Sd np ht hf hb oH hn qQ aR hle h
theorem iR {s:List AV->AH->Option AV} (h:∀args H v,s args H=some v->(args.all (AV.aj H.length))=true->dk H=true->args.length<=n/\v.aj H.length=true/\aM Tryz.prog ((1000000,.lo H.length)::aa) [.c code] (sd 0 args) H (λfr H'=>rG Tryz.prog fr H' rs=some v/\pQ H H')) (qQ:(fn.name== "runtime.NumGoroutine")=false:=by kernel_rfl) (aR:mf n vY code=true:=by kernel_rfl):aZ Tryz.prog f λargs H=>(s args H).map λv=>(v,H):=Z4 np ht hf hb oH hn qQ aR h
end
attribute [go_sem] dT2 dT3 sT3 zT3 dT4 sT4 dT5 sT5 bT5 zT5 dT9 sT9 Zr avH aAJ apv ajU ajV avI ajX avK ahH aAL aj1 avN RS avQ aAQ ak0 apw aj5 avR aAR aj6 avS alh aln aj7 avT ali alo aj8 avU aAS aj9 avV aka avW akb avX aAT akc avY aAU akd avZ aAV ake av0 akf av1 akg av2 akh av3 aki av4 akj av5 aAW akk av6 akl av7 aAX akm av8 akn av9 ako awa akp awb aAY akq akr awc aAZ aks awd alj alp akt awe Zt awf aA0 ak1 ajE avv ajF ajG avw ald alk apx apA ajH avx aAC ajI avy ajJ avz ajK avA ajL avB ajM avC aAD ajN aAE apy ajO ajP avD aAF Zq avE aAG apu ajQ avF aAH ajR avG ajS aAI ajT ale apz alf Zs avJ aAK akZ ajW ajY ajZ avL aAM aj0 avM ahI aAN aj2 avO alg alm aj3 avP aAO aj4 aAP
end Go.Proofs.YtghlfboliomhcaaGreat
set_option maxRecDepth 100000
set_option maxHeartbeats 8000000
namespace Go.Proofs.YtghlfboliomhcaaGreat
open Go.Am
set_option linter.all false
noncomputable section
section
variable {α:Type}{f:α->List Sc}{w:Nat}
theorem qK(h:∀x,(f x).length=w):∀L:List α,(L.flatMap f).length=L.length*w|[]=>by simp|x::L=>by rw[qC,cF,qK h L,h x,cZ,uZ,BD,yv]
theorem JP(h:∀x,(f x).length=w):∀(L:List α)(k:Nat),(L.flatMap f).drop (k*w)=(L.drop k).flatMap f
 |[],k=>by simp|x::L,0=>by simp|x::L,k+1=>by
   rw[qC,Gs,<-JP h L k];have e:(k+1)*w=(f x).length+k*w:=by rw[h x,uZ,BD,yv]
   rw[e,<-uX,MB]
theorem JQ(h:∀x,(f x).length=w){L:List α}{k:Nat}{x:α}(hx:L[k]?=some x):((L.flatMap f).drop (k*w)).take w=f x:=by
 rw[JP h];have hk:k<L.length:=by
  rcases cU k L.length with h|h
  .exact h
  .rw[jQ h]at hx;simp at hx
 rw[Gr hk,qC];rw[cM hk]at hx;simp only[ar]at hx;rw[hx,<-h x,List.take_left]
theorem Sb(h:∀x,(f x).length=w){L:List α}{k i:Nat}{x:α}(hx:L[k]?=some x)(hi:i<w):(L.flatMap f).getD (k*w+i) .any=(f x).getD i .any:=by
 have e:=JQ h hx;rw[<-e,b9,b9,yu hi,sZ]
theorem NF(h:∀x,(f x).length=w){L:List α}{k:Nat}(hk:k<L.length):k*w+w<=(L.flatMap f).length:=by
 rw[qK h];have:(k+1)*w<=L.length*w:=Nat.mul_le_mul_right _ hk;rw[uZ,BD]at this;exact this
theorem ND{L M:List α}:(L++M).flatMap f=L.flatMap f++M.flatMap f:=MC
end
def ur{α:Type}(w:Nat)(dc:List Sc->Option α):Nat->List Sc->Option (List α)|0,_=>some []|n+1,cs=>match dc (cs.take w),ur w dc n (cs.drop w)with|some a,some l=>some (a::l)|_,_=>none
theorem EJ{α:Type}{w:Nat}{dc:List Sc->Option α}{f:α->List Sc}(h:∀x,(f x).length=w)(hd:∀x,dc (f x)=some x):∀L:List α,ur w dc L.length (L.flatMap f)=some L
 |[]=>rfl|x::L=>by
   simp only[cZ,ur,qC];rw[<-h x,List.take_left,MB,hd,h x,EJ h hd L]
variable {α:Type}{w:Nat}
theorem Nr{dc:List Sc->Option α}{f:α->List Sc}(hd:∀cs x,dc cs=some x->cs=f x):∀(n:Nat)(cs:List Sc)(L:List α),cs.length=n*w->ur w dc n cs=some L->L.length=n/\cs=L.flatMap f:=by
 intro n;induction n with
 |zero=>intro cs L h1 h2;simp[ur]at h2;subst h2;exact⟨rfl,by simpa using h1⟩|succ n ih=>
   intro cs L h1 h2;simp only[ur]at h2;split at h2
   .rename_i a l e1 e2;simp only[ar]at h2;subst h2;obtain⟨g1,g2⟩:=ih _ _ (by rw[ui,h1,uZ,BD];omega) e2;refine⟨by simp[g1],?_⟩;rw[qC,<-hd _ _ e1,<-g2,GA]
   .simp at h2
def fL{α:Type}(w:Nat)(dc:List Sc->Option α)(H:AH):Sc->Option (List α)|.aA=>some []|.sl id 0 v n=>if v=(hg H id).row/\(hg H id).cells.length=n*w then ur w dc n (hg H id).cells else none|_=>none
theorem D6{dc:List Sc->Option α}{f:α->List Sc}(h:∀x,(f x).length=w)(hd:∀x,dc (f x)=some x){H:AH}{id v n:Nat}{L:List α}(hv:v=(hg H id).row)(hn:n=L.length)(hc:(hg H id).cells=L.flatMap f):fL w dc H (.sl id 0 v n)=some L:=by
 subst hn;simp only[fL,hv,hc,qK h,and_self,if_true];exact EJ h hd L
theorem CA{α:Type}{w:Nat}{dc:List Sc->Option α}{f:α->List Sc}(hd:∀cs x,dc cs=some x->cs=f x){H:AH}{x:Sc}{L:List α}(h:fL w dc H x=some L):(x=.aA/\L=[])\/∃id v,x=.sl id 0 v L.length/\v=(hg H id).row/\(hg H id).cells=L.flatMap f:=by
 unfold fL at h;split at h
 .simp at h;exact .inl ⟨rfl,h⟩
 .split at h
  .rename_i id v n hc;obtain⟨e1,e2⟩:=Nr hd _ _ _ hc.2 h;exact .inr ⟨id,v,by rw[e1],hc.1,e2⟩
  .simp at h
 .simp at h
def R3(x:BitVec 64):List Sc:=[.u x]
def tj:List Sc->Option (BitVec 64)|[.u x]=>some x|_=>none
theorem Zx(x:BitVec 64):tj (R3 x)=some x:=rfl
theorem akx(cs:List Sc)(x:BitVec 64)(h:tj cs=some x):cs=R3 x:=by unfold tj at h;split at h<;>simp_all[R3]
theorem G9{α:Type}{f:α->List Sc}{g:α->Sc}(h:∀x,f x=[g x]){L:List α}{k:Nat}{x:α}(hx:L[k]?=some x):(L.flatMap f).getD k .any=g x:=by
 have e:=Sb (f:=f) (w:=1) (i:=0) (λy=>by rw[h y];rfl) hx δ;rw[Ep,rj]at e;rw[e,h x];rfl
theorem alN{ks:List K}{f:α->List Sc}{p:α->Prop}(hk:∀cs,L2 kF cs ks->∃x,cs=f x/\p x):∀(n:Nat)(cs:List Sc),L2 kF cs (bE n ks).flatten->∃L:List α,L.length=n/\cs=L.flatMap f/\∀x∈L,p x:=by
 intro n;induction n with|zero=>intro cs h;simp only[List.replicate_zero,List.flatten_nil]at h;obtain rfl:=R5 h;exact⟨[],rfl,rfl,by simp⟩|succ n ih=>
   intro cs h;rw[xn,BB]at h;have split:∀(a b:List K)(cs:List Sc),L2 kF cs (a++b)->∃c d,cs=c++d/\L2 kF c a/\L2 kF d b:=by
    intro a;induction a with|nil=>intro b cs h;exact⟨[],cs,rfl,.nil,h⟩|cons k a ih=>
      intro b cs h;obtain⟨s,r,rfl,h1,h2⟩:=mK h;obtain⟨c,d,rfl,h3,h4⟩:=ih b r h2;exact⟨s::c,d,rfl,.cons h1 h3,h4⟩
   obtain⟨c,d,rfl,h1,h2⟩:=split _ _ _ h;obtain⟨x,rfl,hx⟩:=hk c h1;obtain⟨L,h3,rfl,h4⟩:=ih d h2;exact⟨x::L,by simp[h3],by rw[qC],by simpa using⟨hx,h4⟩⟩
theorem ayb{ks:List K}{ps:List zV}{f:α->List Sc}{w:Nat}{dc:List Sc->Option α}{p:α->Prop}(hk:∀cs,L2 kF cs ks->∃x,cs=f x/\p x)(hw:∀x,(f x).length=w)(hd:∀x,dc (f x)=some x){fz:List AV}{H:AH}(h:kj (.sl ks::ps) fz H):∃x r,fz=.c x::r/\kj ps r H/\∃L:List α,fL w dc H x=some L/\(∀x∈L,p x)/\L.length<=9223372036854775807:=by
 obtain⟨r,hr,rfl|⟨id,n,rfl,h1,h2,h3,h4,h5,h6⟩⟩:=ayc h
 .exact⟨_,r,rfl,hr,[],rfl,by simp,by simp⟩
 .obtain⟨L,e1,e2,e3⟩:=alN hk n _ h6;exact⟨_,r,rfl,hr,L,D6 hw hd h2.symm e1.symm e2,e3,ω⟩
section
variable {α:Type}{f:α->List Sc}{w:Nat}
theorem CS(h:∀x,(f x).length=w){L:List α}{k:Nat}{x:α}(hx:L[k]?=some x):∃P Q,L.flatMap f=P++f x++Q/\P.length=k*w/\∀y,(L.set k y).flatMap f=P++f y++Q:=by
 have hk:k<L.length:=by
  rcases cU k L.length with h|h
  .exact h
  .rw[jQ h]at hx;simp at hx
 rw[cM hk]at hx;simp only[ar]at hx;refine⟨(L.take k).flatMap f,(L.drop (k+1)).flatMap f,?_,?_,λy=>?_⟩
 .conv=>lhs;rw[<-GA k L,Gr hk]
  rw[MC,qC,hx,fo]
 .rw[qK h,rW,yw ω]
 .rw[List.set_eq_take_append_cons_drop,if_pos hk,MC,qC,fo]
theorem ayq{P M Q:List Sc}{o m:Nat}(h:o+m<=M.length):((P++M++Q).drop (P.length+o)).take m=(M.drop o).take m:=by rw[fo,BA,kE ω,jV,s9,Jf ω,CF (by rw[ui];omega)]
theorem Mo{P M Q l:List Sc}{o:Nat}(h:o+l.length<=M.length):(P++M++Q).take (P.length+o)++l++(P++M++Q).drop (P.length+o+l.length)=P++(M.take o++l++M.drop (o+l.length))++Q:=by
 rw[fo P M Q,List.take_length_add_append,CF ω,mH,List.drop_length_add_append,Jf h];simp only[fo]
end
theorem aAn{α:Type}{f:α->List Sc}{w:Nat}(h:∀x,(f x).length=w){L:List α}{k:Nat}{x:α}(hk:k<L.length):wr (L.flatMap f) (k*w) (f x)=(L.set k x).flatMap f:=by
 obtain⟨P,Q,h1,h2,h3⟩:=CS h (cM hk);rw[h1,h3];unfold wr;have:=Mo (P:=P) (M:=f L[k]) (Q:=Q) (l:=f x) (o:=0) (by rw[h,h];omega);rw[rj,h2]at this;rw[this];simp[h]
variable {i:Nat}
theorem zJ{A M B a:List Sc}(h:i+a.length<=M.length):wr (A++(M++B)) (A.length+i) a=A++(wr M i a++B):=by
 unfold wr;rw[List.take_length_add_append,mH,BA,CF ω,MA (show A.length<=A.length+(i+a.length)by omega),show A.length+(i+a.length)-A.length=i+a.length by omega,Jf h];simp only[fo,jV]
theorem wj{A M B:List Sc}{i:Nat}(h:i<M.length):(A++(M++B)).getD (A.length+i) .any=M.getD i .any:=by
 simp only[b9];rw[List.getElem?_append_right ω,show A.length+i-A.length=i by omega,List.getElem?_append_left h]
theorem akN{A M B:List Sc}{i n:Nat}(h:i+n<=M.length):((A++(M++B)).drop (A.length+i)).take n=(M.drop i).take n:=by rw[BA,MA ω,show A.length+i-A.length=i by omega,jV,Jf ω,CF (by simp;omega)]
structure Rq where
 s:Bool
 v:Bool
 d:Bool
 a:BitVec 64
 i:Int
def fA(r:Rq):List Sc:=[.b r.s,.b r.v,.b r.d,.u r.a,.i r.i]
def Nq:List Sc->Option Rq|[.b s,.b v,.b d,.u a,.i i]=>some ⟨s,v,d,a,i⟩|_=>none
theorem akw(r:Rq):Nq (fA r)=some r:=rfl
theorem akv(cs:List Sc)(r:Rq)(h:Nq cs=some r):cs=fA r:=by
 unfold Nq at h;split at h
 .simp only[ar]at h;subst h;rfl
 .simp at h
theorem vf(r:Rq):(fA r).length=5:=rfl
def oP:Rq:=⟨false,false,false,0#64,0⟩
abbrev Row:={r:List Rq//r.length=8}
def jC(r:Row):List Sc:=r.1.flatMap fA
theorem tY(r:Row):(jC r).length=40:=by unfold jC;rw[qK vf,r.2]
def JD(cs:List Sc):Option Row:=if cs.length=40 then match ur 5 Nq 8 cs with
 |some l=>if h:l.length=8 then some ⟨l,h⟩else none|none=>none else none
theorem akz(r:Row):JD (jC r)=some r:=by
 unfold JD;rw[if_pos (tY r)];have:=EJ vf akw r.1;rw[r.2]at this;unfold jC;rw[this];simp only[r.2,dite_true]
theorem aky(cs:List Sc)(r:Row)(h:JD cs=some r):cs=jC r:=by
 unfold JD at h;split at h
 .rename_i hl;split at h
  .rename_i l hd;split at h
   .simp only[ar]at h;subst h;exact(Nr akv 8 cs l ω hd).2
   .simp at h
  .simp at h
 .simp at h
def ju:Row:=⟨bE 8 oP,rfl⟩
def aG(n:Int)(B:List Row):List Sc:=.i n::B.flatMap jC
theorem kh{B:List Row}(n:Int)(h:B.length=8):(aG n B).length=321:=by unfold aG;rw[cZ,qK tY,h]
def Ce:ae->Option (Int×List Row)|.own (.i n::cs)=>if cs.length=8*40 then(ur 40 JD 8 cs).map λB=>(n,B)else none|_=>none
variable {n:Int}
theorem za{B:List Row}(h:B.length=8):Ce (.own (aG n B))=some (n,B):=by
 unfold aG Ce;have:=EJ tY akz B;rw[h]at this;simp only[qK tY,h,if_true,this,n9]
theorem T8{o:ae}{B:List Row}(h:Ce o=some (n,B)):o=.own (aG n B)/\B.length=8:=by
 unfold Ce at h;split at h
 .split at h
  .rename_i hc;simp only[ef,bD]at h;obtain⟨B',h1,rfl,rfl⟩:=h;obtain⟨h2,h3⟩:=Nr aky 8 _ _ hc h1;exact⟨by rw[h3];rfl,h2⟩
  .simp at h
 .simp at h
def fk(B:List Row)(t f:Nat):Rq:=match B[t]? with|some r=>(r.1[f]?).getD oP|none=>oP
def vE(B:List Row)(t f:Nat)(q:Rq):List Row:=match B[t]? with|some r=>B.set t ⟨r.1.set f q,by rw[js];exact r.2⟩|none=>B
variable {t f:Nat}
theorem Gc{B:List Row}(hB:B.length=8)(ht:t<8)(hf:f<8):((aG n B).drop (1+t*40+f*5)).take 5=fA (fk B t f):=by
 obtain⟨r,hr⟩:∃r,B[t]?=some r:=⟨_,cM ω⟩;obtain⟨q,hq⟩:∃q,r.1[f]?=some q:=⟨_,cM (by rw[r.2];omega)⟩;obtain⟨P,Q,e1,e2,_⟩:=CS tY hr;unfold aG;rw[show 1+t*40+f*5=(t*40+f*5)+1 by omega,Gs,e1,<-e2,ayq (by rw[tY];omega)];unfold jC;rw[JQ vf hq];unfold fk;rw[hr];simp only[hq,Option.getD_some]
theorem WY{B:List Row}(hB:B.length=8)(ht:t<8)(hf:f<8)(q:Rq):(aG n B).take (1+t*40+f*5)++fA q++(aG n B).drop (1+t*40+f*5+5)=aG n (vE B t f q):=by
 obtain⟨r,hr⟩:∃r,B[t]?=some r:=⟨_,cM ω⟩;obtain⟨q0,hq⟩:∃q,r.1[f]?=some q:=⟨_,cM (by rw[r.2];omega)⟩;obtain⟨P,Q,e1,e2,e3⟩:=CS tY hr;obtain⟨P',Q',g1,g2,g3⟩:=CS vf hq;unfold aG vE;rw[hr];simp only;rw[e3,e1,show 1+t*40+f*5=(t*40+f*5)+1 by omega,GB,show(t*40+f*5)+1+5=(t*40+f*5+(fA q).length)+1 by rw[vf],Gs,kX,kX];congr 1;rw[<-e2,Mo (by rw[tY,vf];omega)];congr 2;unfold jC;simp only;rw[g3,g1];have:=Mo (P:=P') (M:=fA q0) (Q:=Q') (l:=fA q) (o:=0) (by simp[vf]);rw[rj]at this;rw[<-g2,this];simp[fA]
theorem avb{B:List Row}{r:Row}(hB:B.length=8)(ht:t<8)(hr:B[t]?=some r):((aG n B).drop (1+t*40)).take 40=jC r:=by
 unfold aG;rw[show 1+t*40=(t*40)+1 by omega,Gs,JQ tY hr]
theorem avc{B:List Row}(hB:B.length=8)(ht:t<8)(r:Row):(aG n B).take (1+t*40)++jC r++(aG n B).drop (1+t*40+40)=aG n (B.set t r):=by
 obtain⟨r0,hr⟩:∃r,B[t]?=some r:=⟨_,cM ω⟩;obtain⟨P,Q,e1,e2,e3⟩:=CS tY hr;unfold aG;rw[e3,e1,show 1+t*40=(t*40)+1 by omega,GB,show t*40+1+40=(t*40+40)+1 by omega,Gs,kX,kX];congr 1;have:=Mo (P:=P) (M:=jC r0) (Q:=Q) (l:=jC r) (o:=0) (by simp[tY]);rw[rj,tY]at this;rw[<-e2,this];rw[List.take_zero,jV,oU,kE (by rw[tY];omega),kD]
theorem PY(B:List Row)(t f:Nat)(q:Rq):(vE B t f q).length=B.length:=by unfold vE;split<;>simp
theorem Fz(n:Int)(B:List Row)(m:Nat):(aG n B).all (Sc.aj m)=true:=by
 unfold aG;rw[bG];simp only[Sc.aj,gv];rw[rU];exact cD.2 λr _=>by unfold jC;rw[rU];exact cD.2 λ_ _=>rfl
theorem Pe(r:Row):(jC r).all Sc.one=true:=by unfold jC;rw[rU];exact cD.2 λ_ _=>rfl
def A6(r:Rq):Rq:=⟨r.s,r.v,r.d,if r.v=true then r.a else 0#64,if r.d=true then r.i else 0⟩
def V7(args:List AV):Option AV:=match args with|[.g [.b s,.b v,.b d,.u a,.i i]]=>some (.g (fA (A6 ⟨s,v,d,a,i⟩)))|_=>none
theorem V8{s v d a i}:V7 [.g [.b s,.b v,.b d,.u a,.i i]]=some (.g (fA (A6 ⟨s,v,d,a,i⟩))):=rfl
theorem arX:cE Tryz.prog 145 V7:=by
 refine cN tn Tryz.func145 rfl Tryz.results145 Tryz.ntmps145 ?_;intro args v h;unfold V7 at h;split at h
 .rename_i s v d a i;simp only[ar]at h;subst h;refine⟨by simp,rfl,rfl,?_⟩;cases v<;>cases d<;>simp only[go_sem,seval,fA,A6]
 .simp at h
def vh(a b:Rq):Bool:=(a.s==b.s)&&((a.v==b.v)&&((a.d==b.d)&&(decide (a.a=b.a)&&decide (a.i=b.i))))
theorem ZO{a b:Rq}:(vh a b=true)=(a=b):=by
 apply propext;cases a;cases b;simp[vh,Rq.mk.injEq]
def kO(o r:Rq):Rq:=if o.s=false\/vh o (A6 r)=true then A6 r else⟨true,false,false,0#64,0⟩
def V4(args:List AV):Option AV:=match args with|[.g [.b os,.b ov,.b od,.u oa,.i oi],.g [.b s,.b v,.b d,.u a,.i i]]=>some (.g (fA (kO ⟨os,ov,od,oa,oi⟩ ⟨s,v,d,a,i⟩)))|_=>none
theorem aw2{os ov od oa oi s v d a i}:V4 [.g [.b os,.b ov,.b od,.u oa,.i oi],.g [.b s,.b v,.b d,.u a,.i i]]=some (.g (fA (kO ⟨os,ov,od,oa,oi⟩ ⟨s,v,d,a,i⟩))):=rfl
theorem arV:cE Tryz.prog 91 V4:=by
 refine cN (tu arX tn) Tryz.func91 rfl Tryz.results91 Tryz.ntmps91 ?_;intro args v h;unfold V4 at h;split at h
 .rename_i os ov od oa oi s v d a i;simp only[ar]at h;subst h;refine⟨by simp,rfl,rfl,?_⟩;generalize hp:A6 ⟨s,v,d,a,i⟩=p;obtain⟨ps,pv,pd,pa,pi⟩:=p;cases os
  .have e0:kO ⟨false,ov,od,oa,oi⟩ ⟨s,v,d,a,i⟩=⟨ps,pv,pd,pa,pi⟩:=by simp[kO,hp]
   rw[e0];simp only[go_sem,seval,V8,hp,fA]
  .cases he:vh ⟨true,ov,od,oa,oi⟩ ⟨ps,pv,pd,pa,pi⟩
   .have e0:kO ⟨true,ov,od,oa,oi⟩ ⟨s,v,d,a,i⟩=⟨true,false,false,0#64,0⟩:=by simp[kO,hp,he]
    rw[e0];simp only[vh,Bool.true_beq]at he;simp only[go_sem,seval,V8,hp,fA,he]
   .have e0:kO ⟨true,ov,od,oa,oi⟩ ⟨s,v,d,a,i⟩=⟨ps,pv,pd,pa,pi⟩:=by simp[kO,hp,he]
    rw[e0];simp only[vh,Bool.true_beq]at he;simp only[go_sem,seval,V8,hp,fA,he]
 .simp at h
def fV(n h:Int):Bool:=decide (0<=h)&&decide (h<n)
def IB(args:List AV)(H:AH):Option AV:=match args with
 |[.c (.p id 0 0),.c (.i h)]=>match Ce (hg H id)with
   |some (n,_)=>some (.c (.b (fV n h)))|none=>none
 |_=>none
theorem aw0{id:Nat}{h n:Int}{B:List Row}{H:AH}(e:hg H id=.own (aG n B))(hB:B.length=8):IB [.c (.p id 0 0),.c (.i h)] H=some (.c (.b (fV n h))):=by simp only[IB,e,za hB]
theorem arT:aZ Tryz.prog 73 (λargs H=>(IB args H).map λv=>(v,H)):=by
 refine iR (s:=IB) tn Tryz.func73 rfl Tryz.results73 Tryz.ntmps73 ?_;intro args H v h bM hH;unfold IB at h;split at h
 .rename_i id h';split at h
  .rename_i n B hm;simp only[ar]at h;subst h;obtain⟨e,hB⟩:=T8 hm;refine⟨by simp,rfl,?_⟩;have l:=kh n hB;have g0:(aG n B).getD 0 .any=.i n:=rfl;by_cases h1:0<=h';all_goals simp only[go_sem,seval,e,l,g0,fV,h1]
   all_goals exact aE _
  .simp at h
 .simp at h
def fh(n cf k h:Int)(rs:Bool)(i:Int):Bool:=if fV n cf=true then(if k=12 then true else if k=13 then(if rs=false then false else if i<0 then false else if 65535<i then false else fV n h&&!decide (h=cf))else if k=14 then fV n h&&!decide (h=cf)else false)else false
def Z8:List Row:=bE 8 ju
theorem yy:Z8.length=8:=rfl
theorem Vj:jC ju=[.b false,.b false,.b false,.u 0#64,.i 0,.b false,.b false,.b false,.u 0#64,.i 0,.b false,.b false,.b false,.u 0#64,.i 0,.b false,.b false,.b false,.u 0#64,.i 0,.b false,.b false,.b false,.u 0#64,.i 0,.b false,.b false,.b false,.u 0#64,.i 0,.b false,.b false,.b false,.u 0#64,.i 0,.b false,.b false,.b false,.u 0#64,.i 0]:=rfl
theorem Mw:zT Tryz.prog 96=some (aG 0 Z8):=κ
def V5(args:List AV):Option AV:=match args with|[.c (.i n)]=>some (.g (aG (if 1<=n/\n<=8 then n else 0) Z8))|_=>none
theorem V6{n}:V5 [.c (.i n)]=some (.g (aG (if 1<=n/\n<=8 then n else 0) Z8)):=rfl
theorem arW:cE Tryz.prog 22 V5:=by
 refine cN tn Tryz.func22 rfl Tryz.results22 Tryz.ntmps22 ?_;intro args v h;unfold V5 at h;split at h
 .rename_i n;simp only[ar]at h;subst h;have pz:∀m,(aG m Z8).all Sc.pf=true:=λm=>rfl;refine⟨by simp,by first|rfl|simp only[bG,dO,AV.pf,Sc.pf,cX, *],by first|rfl|simp only[bG,dO,AV.pf,Sc.pf,cX, *],?_⟩;have l0:=λm=>kh m yy;have d1:∀m,(aG m Z8).drop 321=[]:=λm=>kE (by rw[l0];omega);have d2:∀m,(aG m Z8).drop 1=Z8.flatMap jC:=λm=>rfl;have d3:∀m,(aG m Z8).all Sc.one=true:=λm=>rfl;have d4:∀m,.i m::Z8.flatMap jC=aG m Z8:=λm=>rfl;have d5:∀m,(aG m Z8).take 321=aG m Z8:=λm=>bR (by rw[l0];omega);by_cases h1:n<1
  .have e:(if 1<=n/\n<=8 then n else 0)=0:=if_neg ω;simp only[go_sem,seval,h1,e,Mw,l0,d1,d2,d3,d4,d5]
  by_cases h2:8<n
  .have e:(if 1<=n/\n<=8 then n else 0)=0:=if_neg ω;simp only[go_sem,seval,h1,h2,e,Mw,l0,d1,d2,d3,d4,d5]
  .have e:(if 1<=n/\n<=8 then n else 0)=n:=if_pos ω;simp only[go_sem,seval,h1,h2,e,Mw,l0,d1,d2,d3,d4,d5]
 .simp at h
def fD(d:BitVec 64)(g:Bool)(r:Row):List Sc:=.u d::.b g::jC r
def rowAt(B:List Row)(t:Nat):Row:=(B[t]?).getD ju
theorem hgS{H X:AH}{id n:Nat}{o:ae}:hg (H.set id o++X) (H.length+n)=hg X n:=by
 have:=gY (H:=H.set id o) (X:=X) (n:=n);rwa[js]at this
theorem stS{H X:AH}{id n:Nat}{o o':ae}:(H.set id o++X).set (H.length+n) o'=H.set id o++X.set n o':=by
 have:=vF (H:=H.set id o) (X:=X) (n:=n) (o:=o');rwa[js]at this
def nh(n:Int)(B:List Row)(cf k h:Int)(q:Rq):List Row:=if fh n cf k h q.s q.i=true then(if k=13 then vE B h.toNat cf.toNat (kO (fk B h.toNat cf.toNat) q)else if k=12 then B.set cf.toNat ju else B)else B
def ou(n:Int)(B:List Row)(cf k h:Int)(q:Rq):List Sc:=if fh n cf k h q.s q.i=true then(if k=13 then fD 0#64 false ju else if k=12 then fD 0#64 false (rowAt B cf.toNat)else fD 0#64 (vh (fk B h.toNat cf.toNat) oP) ju)else fD 0#64 false ju
variable {cf h:Int}
theorem ZD{B:List Row}{k:Int}{q:Rq}:(nh n B cf k h q).length=B.length:=by
 unfold nh;split
 .split
  .exact PY _ _ _ _
  .split
   .simp
   .rfl
 .rfl
theorem akI(n:Int)(B:List Row)(cf k h:Int)(q:Rq)(m:Nat):(ou n B cf k h q).all (Sc.aj m)=true:=by
 have:∀d g r,(fD d g r).all (Sc.aj m)=true:=λd g r=>by
  unfold fD jC;rw[bG,bG,rU];simp only[Sc.aj,gv];exact cD.2 λ_ _=>rfl
 unfold ou;repeat' split
 all_goals exact this _ _ _
theorem T6{k i:Int}{rs:Bool}(hm:fh n cf k h rs i=true):fV n cf=true/\(k=12\/((k=13\/k=14)/\fV n h=true)):=by
 unfold fh at hm;split at hm
 .rename_i h0;refine⟨h0,?_⟩;split at hm
  .exact .inl ‹_›
  .split at hm
   .rename_i h13;refine .inr ⟨.inl h13,?_⟩;repeat' split at hm
    all_goals first|(simp at hm;done)|(simp only[aQ]at hm;exact hm.1)
   .split at hm
    .rename_i h14;simp only[aQ]at hm;exact .inr ⟨.inr h14,hm.1⟩
    .simp at hm
 .simp at hm
def bQ(x:Int):List Sc:=[.k .u8 x]
theorem Nv(x:Int):(bQ x).length=1:=rfl
def d8F:List Sc->Option Int|[.k .u8 x]=>some x|_=>none
def BN:List Sc->Option (List Int)|[]=>some []|.k .u8 n::r=>(BN r).map (n::·)|_=>none
variable {L:List Int}
theorem Ry{cs:List Sc}(h:BN cs=some L):cs=L.flatMap bQ:=by induction cs generalizing L with|nil=>simp[BN]at h;subst h;rfl|cons a r ih=>
 unfold BN at h;split at h
 .simp_all
 .rename_i n r' heq;simp only[cK]at heq;obtain⟨rfl,rfl⟩:=heq;rw[ef]at h;obtain⟨l',h5,rfl⟩:=h;rw[ih h5];rfl
 .simp at h
theorem GN(L:List Int):BN (L.flatMap bQ)=some L:=by induction L with|nil=>rfl|cons a r ih=>rw[qC];simp[bQ,BN,ih]
def iC(H:AH):Sc->Option (List Int)|.aA=>some []|.sl id off v n=>if v=(hg H id).row/\off+n<=(hg H id).cells.length then BN (((hg H id).cells.drop off).take n)else none|_=>none
variable {H:AH}{x:Sc}
theorem uq(h:iC H x=some L):(x=.aA/\L=[])\/∃id off,x=.sl id off (hg H id).row L.length/\off+L.length<=(hg H id).cells.length/\((hg H id).cells.drop off).take L.length=L.flatMap bQ:=by
 unfold iC at h;split at h
 .simp only[ar]at h;exact .inl ⟨rfl,h.symm⟩
 .rename_i id off v n;split at h
  .rename_i hc;obtain⟨rfl,hc⟩:=hc;have e:=Ry h;have l:n=L.length:=by
    have:=congrArg List.length e;rw[qK Nv,rW,ui]at this;omega
   subst l;exact .inr ⟨id,off,rfl,hc,e⟩
  .simp at h
 .simp at h
def zD(b:Int)(v:BitVec 64):BitVec 64:=(v<<<8)|||(aw 64 b)
def mB(L:List Int):BitVec 64:=L.foldr zD 0#64
theorem apQ(L M:List Int):mB (L++M)=L.foldr zD (mB M):=by unfold mB;rw[List.foldr_append]
def Is(args:List AV)(H:AH):Option AV:=match args with
 |[.c x,.c y]=>match iC H x,iC H y with
   |some L,some M=>if L.length<=1000000/\M.length<=1000000 then some (.c (.u (mB (L++M))))else none|_,_=>none
 |_=>none
theorem VO{y:Sc}{M:List Int}(h1:iC H x=some L)(h2:iC H y=some M)(h3:L.length<=1000000)(h4:M.length<=1000000):Is [.c x,.c y] H=some (.c (.u (mB (L++M)))):=by simp only[Is,h1,h2];rw[if_pos ⟨h3,h4⟩]
theorem amt(fr:Fr)(s:Nat):Am.get fr s=.c .any\/∃p∈fr,p.1=s/\Am.get fr s=p.2:=by induction fr with
 |nil=>exact .inl rfl|cons a r ih=>
   obtain⟨d,v⟩:=a;by_cases h:d=s
   .exact .inr ⟨(d,v),by simp,h,by simp[Am.get,h]⟩
   .have e:Am.get ((d,v)::r) s=Am.get r s:=by simp[Am.get,h]
    rw[e];rcases ih with h1|⟨p,h1,h2,h3⟩
    .exact .inl h1
    .exact .inr ⟨p,by simp[h1],h2,h3⟩
variable {fr:Fr}
theorem kT{n:Nat}{dP:Fr}(hf:∀p∈dP,Am.get fr p.1=p.2):Wk n fr H (dP,H):=λρ w tm h1 h2=>⟨ρ,λs=>by
   show bg ρ (Am.get dP s) (tm s);rcases amt dP s with e|⟨p,hp,rfl,e⟩
   .rw[e];exact trivial
   .rw[e,<-hf p hp];exact h1 p.1,h2,λi _ hi hL _=>⟨i,hi,hL⟩,λ_ _=>rfl⟩
theorem aeL{M:List Int}{r i:Nat}{b:Int}(v:BitVec 64)(aL:r<M.length)(hi:i=M.length-1-r)(hb:M[i]?=some b):(M.drop (M.length-(r+1))).foldr zD v=((M.drop (M.length-r)).foldr zD v<<<8)|||(aw 64 b):=by
 have BT:i<M.length:=ω
 rw[show M.length-(r+1)=i by omega,show M.length-r=i+1 by omega,Gr BT];rw[cM BT]at hb;simp only[ar]at hb;rw[List.foldr_cons,hb];rfl
theorem abW:aZ Tryz.prog 79 (λargs H=>(Is args H).map λv=>(v,H)):=by
 refine iR (s:=Is) tn Tryz.func79 rfl Tryz.results79 Tryz.ntmps79 ?_;intro args H v h bM hH;unfold Is at h;split at h
 .rename_i x y;split at h
  .rename_i L M hL hM;split at h
   .rename_i hc;obtain⟨c1,c2⟩:=hc;simp only[ar]at h;subst h;refine⟨by simp,rfl,?_⟩;rw[apQ];have rD:(AV.c x).cells=some [x]:=by rcases uq hL with⟨rfl,_⟩|⟨i,o,rfl,_⟩<;>rfl
    have HA:(AV.c y).cells=some [y]:=by rcases uq hM with⟨rfl,_⟩|⟨i,o,rfl,_⟩<;>rfl
    have B7:=rD;have Fh:=HA;simp only[AV.cells]at B7 Fh;simp only[go_sem,seval,B7,Fh];refine eY 2 (λk=>([(0,.c x),(1,.c y),(4,.c (.u 0#64)),(5,.c (.u (if k=0 then 0#64 else if k=1 then mB M else L.foldr zD (mB M)))),(11,.g [y,x]),(12,.c (.i k))],H)) (kT (by simp[Am.get])) λk hk=>?_;by_cases k2:k=2
    .subst k2;simp only[go_sem,seval];exact aE _
    have xl:∀e,oJ (.sl e) (.c x)=some (.c (.i L.length)):=by rcases uq hL with⟨rfl,rfl⟩|⟨i,o,rfl,_⟩<;>intro e<;>rfl
    have yl:∀e,oJ (.sl e) (.c y)=some (.c (.i M.length)):=by rcases uq hM with⟨rfl,rfl⟩|⟨i,o,rfl,_⟩<;>intro e<;>rfl
    rcases(show k=0\/k=1 by omega)with rfl|rfl
    .have w1:az ((M.length:Int)-1)=(M.length:Int)-1:=aq ω ω;simp only[go_sem,seval,B7,Fh,xl,yl,w1];refine eY M.length (λr=>([(0,.c x),(1,.c y),(4,.c (.u 0#64)),(5,.c (.u ((M.drop (M.length-r)).foldr zD 0#64))),(7,.c y),(8,.c (.i ((M.length:Int)-1-r))),(11,.g [y,x]),(12,.c (.i 0))],H)) (kT (by simp[Am.get])) λr hr=>?_;by_cases aL:r<M.length;rotate_left
     .obtain rfl:r=M.length:=ω
      have e0:((M.length:Int)-1-(M.length:Int))=-1:=ω
      have d0:M.drop (M.length-M.length)=M:=by rw[CH];rfl
      (repeat(first|simp only[go_sem,seval,e0,d0,B7,Fh,xl,yl]|simp(disch:=omega)only[w0]));exact⟨1,ω,ω,kT (by simp[Am.get,mB])⟩
     obtain⟨i,hi⟩:∃i,i=M.length-1-r:=⟨_,rfl⟩;have e0:((M.length:Int)-1-(r:Int))=(i:Int):=ω
     have e1:az ((i:Int)-1)=(i:Int)-1:=aq ω ω;have k0:(0:Int)<=(i:Int):=ω
     rcases uq hM with⟨rfl,rfl⟩|⟨j,p,rfl,hp,ep⟩
     .simp at aL
     have kI:((i:Int)<(M.length:Int)):=ω
     obtain⟨b,hb⟩:∃b,M[i]?=some b:=⟨_,cM ω⟩;have b1:(p+i+1<=(hg H j).cells.length)=True:=eq_true ω;have b2:(hg H j).cells.getD (p+i) .any=.k .u8 b:=by
      have:=congrArg (λl=>l.getD i .any) ep;simp only[b9,Gw,sZ]at this|-;rw[if_pos ω]at this;rw[this];have g:=G9 (f:=bQ) (g:=Sc.k .u8) (λ_=>rfl) hb;simpa[b9]using g
     simp only[go_sem,seval,e0,e1,k0,kI,b1,b2,B7,xl];have st:=aeL 0#64 aL hi hb;have e4:(i:Int)-1=(M.length:Int)-1-((r+1:Nat):Int):=ω
     rw[<-st,e4];exact⟨r+1,ω,ω,kT (by simp[Am.get])⟩
    .have w1:az ((L.length:Int)-1)=(L.length:Int)-1:=aq ω ω;simp only[go_sem,seval,B7,Fh,xl,yl,w1];refine eY L.length (λr=>([(0,.c x),(1,.c y),(4,.c (.u 0#64)),(5,.c (.u ((L.drop (L.length-r)).foldr zD (mB M)))),(7,.c x),(8,.c (.i ((L.length:Int)-1-r))),(11,.g [y,x]),(12,.c (.i 1))],H)) (kT (by simp[Am.get])) λr hr=>?_;by_cases aL:r<L.length;rotate_left
     .obtain rfl:r=L.length:=ω
      have e0:((L.length:Int)-1-(L.length:Int))=-1:=ω
      have d0:L.drop (L.length-L.length)=L:=by rw[CH];rfl
      (repeat(first|simp only[go_sem,seval,e0,d0,B7,Fh,xl,yl]|simp(disch:=omega)only[w0]));exact⟨2,ω,ω,kT (by simp[Am.get,mB])⟩
     obtain⟨i,hi⟩:∃i,i=L.length-1-r:=⟨_,rfl⟩;have e0:((L.length:Int)-1-(r:Int))=(i:Int):=ω
     have e1:az ((i:Int)-1)=(i:Int)-1:=aq ω ω;have k0:(0:Int)<=(i:Int):=ω
     rcases uq hL with⟨rfl,rfl⟩|⟨j,p,rfl,hp,ep⟩
     .simp at aL
     have kI:((i:Int)<(L.length:Int)):=ω
     obtain⟨b,hb⟩:∃b,L[i]?=some b:=⟨_,cM ω⟩;have b1:(p+i+1<=(hg H j).cells.length)=True:=eq_true ω;have b2:(hg H j).cells.getD (p+i) .any=.k .u8 b:=by
      have:=congrArg (λl=>l.getD i .any) ep;simp only[b9,Gw,sZ]at this|-;rw[if_pos ω]at this;rw[this];have g:=G9 (f:=bQ) (g:=Sc.k .u8) (λ_=>rfl) hb;simpa[b9]using g
     simp only[go_sem,seval,e0,e1,k0,kI,b1,b2,Fh,yl];have st:=aeL (mB M) aL hi hb;have e4:(i:Int)-1=(L.length:Int)-1-((r+1:Nat):Int):=ω
     rw[<-st,e4];exact⟨r+1,ω,ω,kT (by simp[Am.get])⟩
   .simp at h
  .simp at h
 .simp at h
theorem uv{n:Nat}{v:AV}:∃v',some v=some v'/\Wk n [(0,v')] H ([(0,v)],H):=⟨_,rfl,λρ _ _ h1 h2=>⟨ρ,h1,h2,λi _ hi hL _=>⟨i,hi,hL⟩,λ_ _=>rfl⟩⟩
def nM(n:Int)(i:Nat):List Sc:=.i n::.u 0#64::(bE i (.u 18446744073709551615#64)++(bE (8-i) (.u 0#64)++bE 8 (.b false)))
theorem ZU(h:i<=8):(nM n i).length=18:=by unfold nM;simp;omega
theorem alI(h:i<8):bV (2+i) (nM n i)++Sc.u 18446744073709551615#64::cY (2+i+1) (nM n i)=nM n (i+1):=by
 have:i=0\/i=1\/i=2\/i=3\/i=4\/i=5\/i=6\/i=7:=ω
 rcases this with rfl|rfl|rfl|rfl|rfl|rfl|rfl|rfl<;>rfl
theorem alH(n:Int)(i:Nat):(nM n i).all Sc.pf=true:=by
 simp only[nM,bG,fH,List.all_replicate];simp[Sc.pf]
theorem ZV(n:Int)(i:Nat):(nM n i).all Sc.one=true:=by
 simp only[nM,bG,fH,List.all_replicate];simp[Sc.one]
theorem Wk.al2{n:Nat}{p:Fr×AH}(e:H=p.2)(h:Wk n fr H (p.1,H)):Wk n fr H p:=by subst e;exact h
def Pu(args:List AV):Option AV:=match args with|[.c (.i h)]=>if 1<=h/\h<=8 then some (.g (nM h h.toNat))else none|_=>none
theorem awD{h}:Pu [.c (.i h)]=if 1<=h/\h<=8 then some (.g (nM h h.toNat))else none:=rfl
theorem are:cE Tryz.prog 61 Pu:=by
 refine cN tn Tryz.func61 rfl Tryz.results61 Tryz.ntmps61 ?_;intro args v h;unfold Pu at h;split at h
 .rename_i h;split at h
  .rename_i hc;simp only[ar]at h;subst h;have pp:=alH h h.toNat;refine⟨by simp,by first|rfl|simp only[bG,dO,AV.pf,Sc.pf,cX, *],by first|rfl|simp only[bG,dO,AV.pf,Sc.pf,cX, *],?_⟩;have c1:¬h<1:=ω
   have c2:¬8<h:=ω
   obtain⟨m,rfl⟩:∃m:Nat,h=(m:Int):=⟨h.toNat,ω⟩;rw[aO];simp only[go_sem,seval,c1,c2];refine eY m (λi=>([(0,.c (.i m)),(2,.c (.p 0 0 0)),(3,.c (.p 1 0 0)),(14,.c (.i m)),(15,.c (.i i))],[.own (nM 0 0),.own (nM m i)])) (Wk.al2 rfl (kT (by simp[Am.get]))) λi hi=>?_;have ll:=ZU (n:=m) (i:=i) ω;by_cases aL:i<m
   .have w:=alI (n:=m) (i:=i) ω;have e0:(i:Int)<(m:Int):=ω
    have e1:az ((i:Int)+1)=((i+1:Nat):Int):=by rw[aq ω ω];omega
    (repeat(first|simp only[go_sem,seval,e0,e1,w,aO]|simp(disch:=omega)only[w0]));exact⟨i+1,ω,ω,kT (by simp[Am.get])⟩
   .obtain rfl:i=m:=ω
    have t18:bV 18 (nM i i)=nM i i:=bR ω;have l0:(nM 0 0).length=18:=rfl;have one:=ZV i i;have dn:cY 18 (nM 0 0)=[]:=rfl;(repeat(first|simp only[go_sem,seval,t18,ll,l0,one,dn]|simp(disch:=omega)only[w0]));done
  .simp at h
 .simp at h
def Ao(n:Int):List Sc:=.i n::(bE 32 (.k .u8 0)++(.k .u32 0::.k .u32 0::.k .u32 0::(bE 16 (.k .u32 0)++bE 16 (.k .u8 0))))
theorem alW(n:Int):(Ao n).length=68:=rfl
theorem alY(n:Int):(Ao n).all Sc.pf=true:=rfl
theorem alX(n:Int):(Ao n).all Sc.one=true:=rfl
def Px(args:List AV):Option AV:=match args with|[.c (.i h)]=>if 1<=h/\h<=8 then some (.g (Ao h))else none|_=>none
theorem awQ{h}:Px [.c (.i h)]=if 1<=h/\h<=8 then some (.g (Ao h))else none:=rfl
theorem arx:cE Tryz.prog 62 Px:=by
 refine cN tn Tryz.func62 rfl Tryz.results62 Tryz.ntmps62 ?_;intro args v h;unfold Px at h;split at h
 .rename_i h;split at h
  .rename_i hc;simp only[ar]at h;subst h;have pp:=alY h;refine⟨by simp,by first|rfl|simp only[bG,dO,AV.pf,Sc.pf,cX, *],by first|rfl|simp only[bG,dO,AV.pf,Sc.pf,cX, *],?_⟩;have c1:¬h<1:=ω
   have c2:¬8<h:=ω
   simp only[go_sem,seval,c1,c2];rfl
  .simp at h
 .simp at h
def Ha:List Sc:=[.k .u8 0,.k .u8 0,.k .u8 0,.k .u8 0,.k .u8 0,.k .u8 0,.b false,.b false,.b false,.aA,.aA]
def Iy(args:List AV)(H:AH):Option (AV×AH):=match args with|[]=>some (.c (.p H.length 0 0),H++[.own Ha])|_=>none
theorem aoh(args:List AV)(H:AH)(v:AV)(H1:AH)(h:Iy args H=some (v,H1)):H.length<=H1.length:=by
 unfold Iy at h;split at h
 .simp at h;rw[<-h.2];simp
 .simp at h
theorem arF:aZ Tryz.prog 60 Iy:=by
 refine fU (s:=Iy) tn Tryz.func60 rfl Tryz.results60 Tryz.ntmps60 aoh ?_;intro args H v H1 h bM hH;unfold Iy at h;split at h
 .simp only[ar,bD]at h;obtain⟨rfl,rfl⟩:=h;refine⟨by simp,?_⟩;simp only[go_sem,seval];exact uv
 .simp at h
theorem awU:Iy [] H=some (.c (.p H.length 0 0),H++[.own Ha]):=rfl
def JM(m:Nat)(n:Int):List Sc:=.p m 0 0::.i n::(nM n n.toNat++Ao n)
def Io(args:List AV)(H:AH):Option (AV×AH):=match args with|[.c (.i n)]=>if 1<=n/\n<=8 then some (.t [.c (.p (H.length+1) 0 0),.c (.i 0)],H++[.own Ha,.own (JM H.length n)])else none|_=>none
theorem VJ(h:1<=n/\n<=8):Io [.c (.i n)] H=some (.t [.c (.p (H.length+1) 0 0),.c (.i 0)],H++[.own Ha,.own (JM H.length n)]):=if_pos h
theorem aoa(args:List AV)(H:AH)(v:AV)(H1:AH)(h:Io args H=some (v,H1)):H.length<=H1.length:=by
 unfold Io at h;repeat' split at h
 .simp at h;rw[<-h.2];simp
 .simp at h
 .simp at h
theorem ara:aZ Tryz.prog 21 Io:=by
 refine fU (s:=Io) (tp arF (tu are (tu arx tn))) Tryz.func21 rfl Tryz.results21 Tryz.ntmps21 aoa ?_;intro args H v H1 h bM hH;unfold Io at h;split at h
 .rename_i n;refine⟨by simp,?_⟩;split at h<;>try(simp at h;done)
  rename_i hn;simp only[ar,bD]at h;obtain⟨rfl,rfl⟩:=h;have c1:¬n<1:=ω
  have c2:¬8<n:=ω
  have l1:=ZU (n:=n) (i:=n.toNat) ω;have l2:=alW n;have o1:=ZV n n.toNat;have o2:=alX n;have t1:∀m:List Sc,bV 18 (nM n n.toNat++m)=nM n n.toNat:=λm=>qe l1;have t3:∀m:List Sc,cY 86 (nM n n.toNat++m)=cY 68 m:=λm=>by rw[BA,l1,kE ω,jV]
  have t2:bV 68 (Ao n)=Ao n:=bR ω;have e1:Pu [.c (.i n)]=some (.g (nM n n.toNat)):=awD.trans (if_pos hn);have e2:Px [.c (.i n)]=some (.g (Ao n)):=awQ.trans (if_pos hn);simp only[go_sem,seval,awU,e1,e2,c1,c2,l1,l2,o1,o2,t1,t2,t3];exact uv
 .simp at h
def zG(n m:Int):Bool:=decide (1<=n)&&decide (n<=m)
def VS(args:List AV):Option AV:=match args with|[.c (.i n),.c (.i m)]=>some (.c (.b (zG n m)))|_=>none
theorem awV{n m}:VS [.c (.i n),.c (.i m)]=some (.c (.b (zG n m))):=rfl
theorem arG:cE Tryz.prog 59 VS:=by
 refine cN tn Tryz.func59 rfl Tryz.results59 Tryz.ntmps59 ?_;intro args v h;unfold VS at h;split at h
 .rename_i n m;simp only[ar]at h;subst h;refine⟨by simp,rfl,rfl,?_⟩;by_cases h1:1<=n;all_goals simp only[go_sem,seval,zG,h1]
 .simp at h
def FO(h t n b:Int):Bool:=zG h 8&&(zG t 64&&(zG n 4096&&zG b 32))
def VR(args:List AV):Option AV:=match args with|[.g [.i h,.i t,.i n,.i b]]=>some (.c (.b (FO h t n b)))|_=>none
theorem ad6{h t n b}:VR [.g [.i h,.i t,.i n,.i b]]=some (.c (.b (FO h t n b))):=rfl
theorem arE:cE Tryz.prog 20 VR:=by
 refine cN (tu arG tn) Tryz.func20 rfl Tryz.results20 Tryz.ntmps20 ?_;intro args v h;unfold VR at h;split at h
 .rename_i h t n b;simp only[ar]at h;subst h;refine⟨by simp,rfl,rfl,?_⟩;cases h1:zG h 8;all_goals cases h2:zG t 64
  all_goals cases h3:zG n 4096
  all_goals simp only[go_sem,seval,awV,FO,h1,h2,h3]
 .simp at h
theorem abB(x:BitVec 64):∃n:Nat,n=x.toNat-2147483648:=⟨_,rfl⟩
noncomputable def bp(x:BitVec 64):Nat:=Classical.choose (abB x)
theorem Um(x:BitVec 64):bp x=x.toNat-2147483648:=Classical.choose_spec (abB x)
noncomputable def fY(N:Nat)(x:BitVec 64)(n:Int):Bool:=decide (1<=n)&&(decide (2147483648<=x.toNat)&&(decide (bp x<N)&&decide (n<=((N-bp x:Nat):Int))))
theorem kJ{N:Nat}{x:BitVec 64}:fY N x n=true↔1<=n/\2147483648<=x.toNat/\bp x<N/\n<=((N-bp x:Nat):Int):=by simp only[fY,aQ,decide_eq_true_eq]
theorem MZ{a:BitVec 64}(h:2147483648<=a.toNat):(a-2147483648#64).toNat=bp a:=by
 have e:(2147483648#64).toNat=2147483648:=rfl;rw[Um,yp,e];have:=a.isLt;omega
theorem Un{n:Nat}(h:n<18446744073709551616):(aw 64 (n:Int)).toNat=n:=by rw[kU];omega
variable {B:List Int}{p:Nat}
section
variable {H:AH}
theorem Nl(h:iC H x=some B):∀e,oJ (.sl e) (.c x)=some (.c (.i B.length)):=by
 intro e;rcases uq h with⟨rfl,rfl⟩|⟨i,o,rfl,_⟩<;>rfl
theorem RN(h:iC H x=some B):(oJ (.sl 0) (.c x)).isSome=true:=by rw[Nl h];rfl
theorem Zh(h:iC H x=some B):Sc.one x=true:=by rcases uq h with⟨rfl,_⟩|⟨i,o,rfl,_⟩<;>rfl
theorem Nm{id off v N:Nat}{B:List Int}(h:iC H (.sl id off v N)=some B){a n:Nat}(hn:a+n<=B.length):iC H (.sl id (off+a) v n)=some ((B.drop a).take n):=by
 rcases uq h with⟨c,_⟩|⟨i,o,e,h1,h2⟩
 .simp at c
 .simp only[Sc.sl.injEq]at e;obtain⟨rfl,rfl,rfl,rfl⟩:=e;unfold iC;simp only;rw[if_pos ⟨trivial,ω⟩];have:((hg H id).cells.drop (off+a)).take n=((B.drop a).take n).flatMap bQ:=by
   rw[<-uX];have e1:(((hg H id).cells.drop off).drop a).take n=((((hg H id).cells.drop off).take B.length).drop a).take n:=by rw[List.drop_take,List.take_take,yw ω]
   rw[e1,h2];have f1:∀(L:List Int)(k:Nat),(L.flatMap bQ).drop k=(L.drop k).flatMap bQ:=λL k=>by have:=JP Nv L k;rwa[Ep]at this
   have f2:∀(L:List Int)(k:Nat),(L.flatMap bQ).take k=(L.take k).flatMap bQ:=λL k=>by induction L generalizing k with
 |nil=>simp|cons x L ih=>cases k with
 |zero=>simp|succ k=>simp[bQ,qC]at ih|-;exact ih k
   rw[f1,f2]
  rw[this,GN]
def nY(H:AH)(p:Nat):Option (Sc×List Int):=match hg H p with|.own (.i _::.i _::.i _::.i _::x::_)=>(iC H x).map λB=>(x,B)|_=>none
theorem Mt(h:nY H p=some (x,B)):∃a b c d r,hg H p=.own (.i a::.i b::.i c::.i d::x::r)/\iC H x=some B:=by
 unfold nY at h;split at h
 .rename_i a b c d y r ho;rw[ef]at h;obtain⟨B',h1,h2⟩:=h;simp only[bD]at h2;obtain⟨rfl,rfl⟩:=h2;exact⟨a,b,c,d,r,ho,h1⟩
 .simp at h
noncomputable def LB(args:List AV)(H:AH):Option AV:=match args with
 |[.c .dt,.c (.u _),.c (.i _)]=>some (.t [.c (.i 0),.c (.b false)])|[.c (.p p 0 0),.c (.u a),.c (.i n)]=>match nY H p with
   |some (_,B)=>if B.length<=262144/\n<=9223372036854775807 then some (if fY B.length a n=true then .t [.c (.i (bp a)),.c (.b true)]else .t [.c (.i 0),.c (.b false)])else none|none=>none
 |_=>none
theorem Uz:aZ Tryz.prog 63 (λargs H=>(LB args H).map λv=>(v,H)):=by
 refine iR (s:=LB) tn Tryz.func63 rfl Tryz.results63 Tryz.ntmps63 ?_;intro args H v h bM hH;unfold LB at h;split at h
 .simp only[ar]at h;subst h;refine⟨by simp,rfl,?_⟩;simp only[go_sem,seval];exact aE _
 .rename_i p a n;split at h<;>try(simp at h;done)
  rename_i x B hx;split at h<;>try(simp at h;done)
  rename_i hc;obtain⟨hB,hn⟩:=hc;simp only[ar]at h;subst h;refine⟨by simp,by split<;>rfl,?_⟩;obtain⟨c1,c2,c3,c4,r,ho,mN⟩:=Mt hx;have xl:=Nl mN;have xs:=RN mN;by_cases h1:n<1
  .have e:¬fY B.length a n=true:=by rw[kJ];omega
   rw[if_neg e];simp only[go_sem,seval,h1];exact aE _
  have eb:(a<2147483648#64)=(a.toNat<2147483648):=by rw[mY];rfl
  by_cases h2:a.toNat<2147483648
  .have e:¬fY B.length a n=true:=by rw[kJ];omega
   rw[if_neg e];simp only[go_sem,seval,h1,eb,h2];exact aE _
  have h3:=MZ (a:=a) ω;have e0:(aw 64 (B.length:Int)).toNat=B.length:=Un ω;have e1:(aw 64 (B.length:Int)<=a-2147483648#64)=(B.length<=bp a):=by rw[rT,h3,e0]
  by_cases h4:B.length<=bp a
  .have e:¬fY B.length a n=true:=by rw[kJ];omega
   rw[if_neg e];simp only[go_sem,seval,xl,xs,vR,ho,h1,eb,h2,e1,h4];exact aE _
  obtain⟨m,rfl⟩:∃m:Nat,n=(m:Int):=⟨n.toNat,ω⟩;have e2:(aw 64 (B.length:Int)-(a-2147483648#64)<aw 64 (m:Int))=(B.length-bp a<m):=by
   rw[mY,yp,h3,e0,Un ω];congr 1;omega
  by_cases h5:B.length-bp a<m
  .have e:¬fY B.length a m=true:=by rw[kJ];omega
   rw[if_neg e];simp only[go_sem,seval,xl,xs,vR,ho,h1,eb,h2,e1,h4,e2,h5];exact aE _
  .have e:fY B.length a m=true:=by rw[kJ];omega
   rw[if_pos e];have e3:(a-2147483648#64).toInt=(bp a:Int):=by rw[xe,h3,if_pos ω]
   simp only[go_sem,seval,xl,xs,vR,ho,h1,eb,h2,e1,h4,e2,h5,e3];exact aE _
 .simp at h
end
section
variable {H:AH}
theorem VQ{a:BitVec 64}(h:nY H p=some (x,B))(hl:B.length<=262144)(hn:n<=9223372036854775807):LB [.c (.p p 0 0),.c (.u a),.c (.i n)] H=some (if fY B.length a n=true then .t [.c (.i (bp a)),.c (.b true)]else .t [.c (.i 0),.c (.b false)]):=by simp only[LB,h];rw[if_pos ⟨hl,hn⟩]
noncomputable def AR(B:List Int)(a:BitVec 64)(n:Int):AV:=if fY B.length a n=true/\n<=8 then .t [.c (.u (mB ((B.drop (bp a)).take n.toNat))),.c (.b true)]else .t [.c (.u 0#64),.c (.b false)]
noncomputable def aBw(args:List AV)(H:AH):Option AV:=match args with
 |[.c .dt,.c (.u _),.c (.i _)]=>some (.t [.c (.u 0#64),.c (.b false)])|[.c (.p p 0 0),.c (.u a),.c (.i n)]=>match nY H p with
   |some (_,B)=>if B.length<=262144/\n<=9223372036854775807 then some (AR B a n)else none|none=>none
 |_=>none
noncomputable def Lz(args:List AV)(H:AH):Option AV:=match args with
 |[.g [x],.c (.u a),.c (.i n)]=>match iC H x with
   |some B=>if B.length<=262144/\n<=9223372036854775807 then some (.c (.b (fY B.length a n)))else none|none=>none
 |_=>none
theorem ad4{a:BitVec 64}(h:iC H x=some B)(hl:B.length<=262144)(hn:n<=9223372036854775807):Lz [.g [x],.c (.u a),.c (.i n)] H=some (.c (.b (fY B.length a n))):=by simp only[Lz,h];rw[if_pos ⟨hl,hn⟩]
theorem abY:aZ Tryz.prog 76 (λargs H=>(Lz args H).map λv=>(v,H)):=by
 refine iR (s:=Lz) tn Tryz.func76 rfl Tryz.results76 Tryz.ntmps76 ?_;intro args H v h bM hH;unfold Lz at h;split at h<;>try(simp at h;done)
 rename_i x a n;split at h<;>try(simp at h;done)
 rename_i B mN;split at h<;>try(simp at h;done)
 rename_i hc;obtain⟨hB,hn⟩:=hc;simp only[ar]at h;subst h;refine⟨by simp,rfl,?_⟩;have xl:=Nl mN;have xs:=RN mN;have x1:=Zh mN;by_cases h1:n<1
 .have e:fY B.length a n=false:=by rw[<-iB,kJ];omega
  rw[e];simp only[go_sem,seval,x1,h1];exact aB _ _
 have eb:(a<2147483648#64)=(a.toNat<2147483648):=by rw[mY];rfl
 by_cases h2:a.toNat<2147483648
 .have e:fY B.length a n=false:=by rw[<-iB,kJ];omega
  rw[e];simp only[go_sem,seval,x1,h1,eb,h2];exact aB _ _
 have h3:=MZ (a:=a) ω;have e0:(aw 64 (B.length:Int)).toNat=B.length:=Un ω;have e1:(aw 64 (B.length:Int)<=a-2147483648#64)=(B.length<=bp a):=by rw[rT,h3,e0]
 by_cases h4:B.length<=bp a
 .have e:fY B.length a n=false:=by rw[<-iB,kJ];omega
  rw[e];simp only[go_sem,seval,x1,xl,xs,vR,h1,eb,h2,e1,h4];exact aB _ _
 have e3:(a-2147483648#64).toInt=(bp a:Int):=by rw[xe,h3,if_pos ω]
 have e4:az ((B.length:Int)-(bp a:Int))=((B.length-bp a:Nat):Int):=by rw[aq ω ω];omega
 have e:fY B.length a n=decide (n<=((B.length-bp a:Nat):Int)):=by unfold fY;rw[decide_eq_true ω,decide_eq_true ω,decide_eq_true (show bp a<B.length by omega)];simp
 rw[e];simp only[go_sem,seval,x1,xl,xs,vR,h1,eb,h2,e1,h4,e3,e4];exact aB _ _
def Gf(b:Int)(v:BitVec 64):BitVec 64:=v*256#64+aw 64 b
theorem ayv{b:Int}(h0:0<=b)(h1:b<=255)(v:BitVec 64):Gf b v=zD b v:=by
 unfold Gf zD;have e:v*256#64=v<<<8:=by
  apply BitVec.eq_of_toNat_eq;rw[BitVec.toNat_mul,BitVec.toNat_shiftLeft,Nat.shiftLeft_eq];rfl
 rw[e];refine BitVec.add_eq_or_of_and_eq_zero _ _ ?_;apply BitVec.eq_of_getLsbD_eq;intro i hi;rw[BitVec.getLsbD_and,BitVec.getLsbD_shiftLeft,BitVec.getLsbD_zero];by_cases c:i<8
 .simp[c]
 .have:(aw 64 b).getLsbD i=false:=by
   rw[BitVec.getLsbD,kU];apply Nat.testBit_lt_two_pow;have:2^8<=2^i:=Nat.pow_le_pow_right δ ω;have e8:(2:Nat)^8=256:=rfl;omega
  rw[this,Bool.and_false]
theorem abv(h:∀b∈L,0<=b/\b<=255):L.foldr Gf 0#64=mB L:=by induction L with
 |nil=>rfl|cons b L ih=>
 have hb:=h b (by simp);rw[List.foldr_cons,ih λx hx=>h x (by simp[hx]),ayv hb.1 hb.2];rfl
noncomputable def Iv(args:List AV)(H:AH):Option AV:=match args with
 |[.g [x],.c (.u a),.c (.i n)]=>match iC H x with
   |some B=>if B.length<=262144/\n<=9223372036854775807/\(∀b∈B,0<=b/\b<=255)then some (AR B a n)else none|none=>none
 |_=>none
theorem awS{a:BitVec 64}(h:iC H x=some B)(hl:B.length<=262144)(hn:n<=9223372036854775807)(hb:∀b∈B,0<=b/\b<=255):Iv [.g [x],.c (.u a),.c (.i n)] H=some (AR B a n):=by simp only[Iv,h];rw[if_pos ⟨hl,hn,hb⟩]
theorem aeM{M:List Int}{r i:Nat}{b:Int}(v:BitVec 64)(aL:r<M.length)(hi:i=M.length-1-r)(hb:M[i]?=some b):(M.drop (M.length-(r+1))).foldr Gf v=(M.drop (M.length-r)).foldr Gf v*256#64+aw 64 b:=by
 have BT:i<M.length:=ω
 rw[show M.length-(r+1)=i by omega,show M.length-r=i+1 by omega,Gr BT];rw[cM BT]at hb;simp only[ar]at hb;rw[List.foldr_cons,hb];rfl
theorem arA:aZ Tryz.prog 146 (λargs H=>(Iv args H).map λv=>(v,H)):=by
 refine iR (s:=Iv) (tq abY tn) Tryz.func146 rfl Tryz.results146 Tryz.ntmps146 ?_;intro args H v h bM hH;unfold Iv at h;split at h<;>try(simp at h;done)
 rename_i x a n;split at h<;>try(simp at h;done)
 rename_i B mN;split at h<;>try(simp at h;done)
 rename_i hc;obtain⟨hB,hn,hb⟩:=hc;simp only[ar]at h;subst h;refine⟨by simp,by unfold AR;split<;>rfl,?_⟩;have x1:=Zh mN;by_cases h8:8<n
 .have e:AR B a n=.t [.c (.u 0#64),.c (.b false)]:=if_neg ω;rw[e];simp only[go_sem,seval,x1,h8];exact aB _ _
 have bx:x.aj H.length=true:=by
  simp only[bG,AV.aj,aQ]at bM;simpa using bM.1
 have amV:∀X,iC (H++X) x=some B:=λX=>by
  rcases uq mN with⟨rfl,rfl⟩|⟨id,off,rfl,g1,g2⟩
  .rfl
  .have aD:id<H.length:=by simpa[Sc.aj]using bx
   rw[<-mN];unfold iC;simp only[cL aD]
 have sh:=λX=>ad4 (amV X) hB hn (a:=a);cases hh:fY B.length a n with
 |false=>
 have e:AR B a n=.t [.c (.u 0#64),.c (.b false)]:=if_neg (λc=>by rw[hh]at c;simp at c);rw[e];simp only[hh]at sh;simp only[go_sem,seval,x1,h8,sh];exact aB _ _|true=>
   have e:AR B a n=.t [.c (.u (mB ((B.drop (bp a)).take n.toNat))),.c (.b true)]:=if_pos ⟨hh,ω⟩;rw[e];simp only[hh]at sh;rw[kJ]at hh;obtain⟨m,rfl⟩:∃m:Nat,n=(m:Int):=⟨n.toNat,ω⟩;rw[aO];obtain⟨L,hL⟩:∃L,L=(B.drop (bp a)).take m:=⟨_,rfl⟩;have lL:L.length=m:=by rw[hL,rW,ui];omega
   rw[<-hL,<-abv (L:=L) λb qN=>hb b (by rw[hL]at qN;exact List.mem_of_mem_drop (List.mem_of_mem_take qN))];rcases uq mN with⟨rfl,rfl⟩|⟨id,off,rfl,g1,g2⟩
   .simp at hh
   have aD:id<H.length:=by simpa[Sc.aj]using bx
   have h3:=MZ (a:=a) ω;have e3:(a-2147483648#64).toInt=(bp a:Int):=by rw[xe,h3,if_pos ω]
   have w1:az ((m:Int)-1)=(m:Int)-1:=aq ω ω;simp only[go_sem,seval,h8,sh,w1];refine eY m (λr=>([(1,.c (.u a)),(3,.c (.p H.length 0 0)),(8,.c (.u ((L.drop (m-r)).foldr Gf 0#64))),(9,.c (.i ((m:Int)-1-r)))],H++[.own [.sl id off (hg H id).row B.length]])) ?_ λr hr=>?_
   .exact kT (by simp[Am.get,<-lL])
   .by_cases aL:r<m;rotate_left
    .obtain rfl:r=m:=ω
     have e0:((r:Int)-1-(r:Int))=-1:=ω
     have d0:L.drop (r-r)=L:=by rw[CH];rfl
     simp only[go_sem,seval,e0,d0];exact aB _ _
    obtain⟨i,hi⟩:∃i,i=m-1-r:=⟨_,rfl⟩;have e0:((m:Int)-1-(r:Int))=(i:Int):=ω
    have e1:az ((i:Int)-1)=(i:Int)-1:=aq ω ω;have k0:(0:Int)<=(i:Int):=ω
    obtain⟨b,xJ⟩:∃b,L[i]?=some b:=⟨_,cM ω⟩;have hbB:B[bp a+i]?=some b:=by
     rw[hL,yu ω,sZ]at xJ;exact xJ
    have w2:az ((bp a:Int)+(i:Int))=((bp a+i:Nat):Int):=by rw[aq ω ω];omega
    have k1:(0:Int)<=((bp a+i:Nat):Int):=ω
    have k2:((bp a+i:Nat):Int)<(B.length:Int):=ω
    have b1:(off+(bp a+i)+1<=(hg H id).cells.length)=True:=eq_true ω;have b2:(hg H id).cells.getD (off+(bp a+i)) .any=.k .u8 b:=by
     have:=congrArg (λl=>l.getD (bp a+i) .any) g2;simp only[b9,Gw,sZ]at this|-;rw[if_pos ω]at this;rw[this];have g:=G9 (f:=bQ) (g:=Sc.k .u8) (λ_=>rfl) hbB;simpa[b9]using g
    have gX:∀X,hg (H++X) id=hg H id:=λX=>cL aD;simp only[go_sem,seval,e0,e1,k0,e3,w2,k1,k2,b1,b2,gX,aO];have st:=aeM 0#64 (M:=L) ω ω xJ (r:=r);rw[lL]at st;have e4:(i:Int)-1=(m:Int)-1-((r+1:Nat):Int):=ω
    rw[<-st,e4];exact⟨r+1,ω,ω,kT (by simp[Am.get])⟩
end
def tZ:List Sc:=[.b false,.u 0#64,.b false,.u 0#64,.b false,.u 0#64,.b false,.u 0#64,.b false,.u 0#64,.b false,.u 0#64,.b false,.u 0#64,.b false,.u 0#64]
def oQ(h t n b:Int)(x:Sc)(R:List Sc)(mj:Sc)(m:List Sc):List Sc:=.i h::.i t::.i n::.i b::x::(R++mj::m)
theorem afp:zT Tryz.prog 102=some (oQ 0 0 0 0 .aA tZ .dt (aG 0 Z8)):=κ
section
variable {H:AH}
def uE(k:Nat)(h t n b:Int):AH:=[.own [.i h,.i t,.i n,.i b],.own Ha,.own (JM (k+1) h),.vec 1 (bE (64*n.toNat) (.k .u8 0)),.own (oQ h t n b (.sl (k+3) 0 (64*n.toNat) (64*n.toNat)) tZ (.p (k+2) 0 0) (aG h Z8))]
def zq(args:List AV)(H:AH):Option (AV×AH):=match args with|[.g [.i h,.i t,.i n,.i b]]=>if FO h t n b=true then some (.t [.c (.p (H.length+4) 0 0),.c (.i 0)],H++uE H.length h t n b)else some (.t [.c .dt,.c (.i 1)],H++[.own [.i h,.i t,.i n,.i b]])|_=>none
theorem aog(args:List AV)(H:AH)(v:AV)(H1:AH)(h:zq args H=some (v,H1)):H.length<=H1.length:=by
 unfold zq at h;repeat' split at h
 all_goals simp at h
 all_goals rw[<-h.2]
 all_goals simp
theorem abV:aZ Tryz.prog 5 zq:=by
 refine fU (s:=zq) (tu arE (tp ara (tu arW tn))) Tryz.func5 rfl Tryz.results5 Tryz.ntmps5 aog ?_;intro args H v H1 h bM hH;unfold zq at h;split at h<;>try(simp at h;done)
 rename_i h0 t n b;refine⟨by simp,?_⟩;cases hr:FO h0 t n b with
 |false=>
 simp only[hr,Bool.false_eq_true,if_false,ar,bD]at h;obtain⟨rfl,rfl⟩:=h;simp only[go_sem,seval,ad6,VJ,V6,hr];exact uv|true=>
   simp only[hr,if_true,ar,bD]at h;obtain⟨rfl,rfl⟩:=h;have uB:=hr;simp only[FO,zG,aQ,decide_eq_true_eq]at uB;obtain⟨⟨a1,a2⟩,⟨b1,b2⟩,⟨c1,c2⟩,d1,d2⟩:=uB;obtain⟨m,rfl⟩:∃m:Nat,n=(m:Int):=⟨n.toNat,ω⟩;have e1:az ((m:Int)*64)=((64*m:Nat):Int):=by rw[aq ω ω];omega
   have e2:((64*m:Nat):Int)<=1048576:=ω
   have e3:(0:Int)<=((64*m:Nat):Int):=ω
   have bn:=λK=>VJ (H:=K) (n:=h0) ⟨a1,a2⟩;have mn:=V6 (n:=h0);rw[if_pos ⟨a1,a2⟩]at mn;have l0:=λk=>kh k yy;have rep:(bE (64*m) [Sc.k .u8 0]).flatten=bE (64*m) (Sc.k .u8 0):=by
    generalize 64*m=q;induction q with
 |zero=>rfl|succ q ih=>rw[xn,BB,ih,xn];rfl
   obtain⟨T,hT⟩:∃T:List Sc,T=tZ++.dt::aG 0 Z8:=⟨_,rfl⟩;have zW:=afp;unfold oQ at zW;rw[<-hT]at zW;have O3:tZ.length=16:=rfl;have t1:bV 16 T=tZ:=by rw[hT];exact qe O3
   have t2:cY 17 T=aG 0 Z8:=by rw[hT];rfl
   have t3:T.length=338:=by rw[hT,cF,cZ,l0];rfl
   have t4:∀p,bV 17 (tZ++p::aG 0 Z8)=tZ++[p]:=λp=>rfl;have t5:∀p,cY 338 (tZ++p::aG 0 Z8)=[]:=λp=>kE (by rw[cF,cZ,l0];exact aC _);have o1:tZ.all Sc.one=true:=rfl;have o2:(aG h0 Z8).all Sc.one=true:=rfl;have l1:(aG h0 Z8).length=321:=l0 h0;have l2:(aG 0 Z8).length=321:=l0 0;unfold uE oQ;generalize aG h0 Z8=M at*;simp only[go_sem,seval,ad6,VJ,V6,hr,bn,mn,e1,e2,e3,zW,rep,O3,t1,t2,t3,t4,t5,l1,l2,o1,o2,aO];exact uv
end
theorem akR(L:List Int)(k:Nat):(L.flatMap bQ).drop k=(L.drop k).flatMap bQ:=by have:=JP Nv L k;rwa[Ep]at this
theorem akS(L:List Int)(k:Nat):(L.flatMap bQ).take k=(L.take k).flatMap bQ:=by induction L generalizing k with
 |nil=>simp|cons x L ih=>cases k with|zero=>simp|succ k=>simp[bQ,qC]at ih|-;exact ih k
theorem wa(L:List Int):(L.flatMap bQ).length=L.length:=by rw[qK Nv,Ep]
theorem R1(L:List Int):(L.flatMap bQ).all Sc.one=true:=by rw[rU];exact cD.2 λ_ _=>rfl
def gp(B:List Int)(k:Nat)(b:List Int):List Int:=B.take k++b++B.drop (k+b.length)
variable {k:Nat}
theorem AQ{b:List Int}(h:k+b.length<=B.length):(gp B k b).length=B.length:=by
 unfold gp;simp only[cF,rW,ui];omega
theorem Ky:gp B k []=B:=by unfold gp;simp
theorem Qn(B b:List Int)(k:Nat):wr (B.flatMap bQ) k (b.flatMap bQ)=(gp B k b).flatMap bQ:=by
 rw[Gm,akS,wa,akR];unfold gp;rw[MC,MC]
section
variable {H:AH}
def w9(H:AH)(p:Nat):Option (Nat×List Int):=match hg H p with
 |.own (.i _::.i _::.i _::.i _::.sl id 0 v N::_)=>match hg H id with
   |.vec 1 cs=>(BN cs).bind λB=>if v=B.length/\N=B.length then some (id,B)else none|_=>none
 |_=>none
theorem Xt{p id:Nat}{B:List Int}(h:w9 H p=some (id,B)):(∃a b c d r,hg H p=.own (.i a::.i b::.i c::.i d::.sl id 0 B.length B.length::r))/\hg H id=.vec 1 (B.flatMap bQ):=by
 unfold w9 at h;split at h<;>try(simp at h;done)
 rename_i a b c d j v N r ho;split at h<;>try(simp at h;done)
 rename_i cs hj;rw[kY]at h;obtain⟨B',h1,h2⟩:=h;split at h2<;>simp at h2;rename_i hc;obtain⟨rfl,rfl⟩:=hc;obtain⟨rfl,rfl⟩:=h2;exact⟨⟨a,b,c,d,r,ho⟩,by rw[hj,Ry h1]⟩
theorem Qk{p id:Nat}{a b c d:Int}{B:List Int}{r:List Sc}(h1:hg H p=.own (.i a::.i b::.i c::.i d::.sl id 0 B.length B.length::r))(h2:hg H id=.vec 1 (B.flatMap bQ)):w9 H p=some (id,B):=by
 unfold w9;simp[h1,h2,GN]
theorem xA{id:Nat}{B:List Int}(h:hg H id=.vec 1 (B.flatMap bQ)):iC H (.sl id 0 B.length B.length)=some B:=by
 unfold iC;simp only[h,ae.row,ae.cells,wa];rw[if_pos (by simp),List.drop_zero,bR (by rw[wa];exact aC _),GN]
theorem Xs{p id:Nat}{B:List Int}(h:w9 H p=some (id,B)):nY H p=some (.sl id 0 B.length B.length,B):=by
 obtain⟨⟨a,b,c,d,r,h1⟩,h2⟩:=Xt h;unfold nY;simp only[h1,xA h2,n9]
def DI(args:List AV)(H:AH):Option (AV×AH):=match args with
 |[.c (.sl id o v n)]=>match iC H (.sl id o v n)with
   |some B=>if 0<n/\n<=262144 then some (.c (.sl H.length 0 n n),H++[.vec 1 (B.flatMap bQ)])else none|none=>none
 |_=>none
theorem ad0{id o v n:Nat}{B:List Int}(h:iC H (.sl id o v n)=some B)(h0:0<n)(h1:n<=262144):DI [.c (.sl id o v n)] H=some (.c (.sl H.length 0 n n),H++[.vec 1 (B.flatMap bQ)]):=by simp only[DI,h];rw[if_pos ⟨h0,h1⟩]
theorem aoc(args:List AV)(H:AH)(v:AV)(H1:AH)(h:DI args H=some (v,H1)):H.length<=H1.length:=by
 unfold DI at h;repeat' split at h
 all_goals simp at h
 rw[<-h.2];simp
theorem abS:aZ Tryz.prog 52 DI:=by
 refine fU (s:=DI) tn Tryz.func52 rfl Tryz.results52 Tryz.ntmps52 aoc ?_;intro args H v H1 h bM hH;unfold DI at h;split at h<;>try(simp at h;done)
 rename_i id o v n;split at h<;>try(simp at h;done)
 rename_i B mN;split at h<;>try(simp at h;done)
 rename_i hn;obtain⟨n0,n1⟩:=hn;simp only[ar,bD]at h;obtain⟨rfl,rfl⟩:=h;refine⟨by simp,?_⟩;rcases uq mN with⟨c,_⟩|⟨i,o',e,g1,g2⟩
 .simp at c
 simp only[Sc.sl.injEq]at e;obtain⟨rfl,rfl,rfl,rfl⟩:=e;have li:id<H.length:=by simpa[AV.aj,Sc.aj]using bM
 have gi:∀X,hg (H++X) id=hg H id:=λX=>cL li;have c5:B.length<=1099511627776:=ω
 have c1:=R1 B;have lq:=wa B;have hz:¬B.length=0:=ω
 simp only[go_sem,seval,c1,g1,c5,gi,g2,lq,hz];exact uv
def DH(args:List AV)(H:AH):Option (AV×AH):=match args with
 |[.c .dt]=>some (.c .aA,H)|[.c (.p p 0 0)]=>match w9 H p with
   |some (_,B)=>if 0<B.length/\B.length<=262144 then some (.c (.sl H.length 0 B.length B.length),H++[.vec 1 (B.flatMap bQ)])else none|none=>none
 |_=>none
theorem awB{p id:Nat}{B:List Int}(h:w9 H p=some (id,B))(h0:0<B.length)(h1:B.length<=262144):DH [.c (.p p 0 0)] H=some (.c (.sl H.length 0 B.length B.length),H++[.vec 1 (B.flatMap bQ)]):=by simp only[DH,h];rw[if_pos ⟨h0,h1⟩]
theorem aob(args:List AV)(H:AH)(v:AV)(H1:AH)(h:DH args H=some (v,H1)):H.length<=H1.length:=by
 unfold DH at h;repeat' split at h
 all_goals simp at h
 .rw[<-h.2];exact aC _
 .rw[<-h.2];simp
theorem arc:aZ Tryz.prog 46 DH:=by
 refine fU (s:=DH) (tp abS tn) Tryz.func46 rfl Tryz.results46 Tryz.ntmps46 aob ?_;intro args H v H1 h bM hH;unfold DH at h;split at h
 .simp only[ar,bD]at h;obtain⟨rfl,rfl⟩:=h;refine⟨by simp,?_⟩;simp only[go_sem,seval];exact uv
 .rename_i p;split at h<;>try(simp at h;done)
  rename_i id B hw;split at h<;>try(simp at h;done)
  rename_i hn;simp only[ar,bD]at h;obtain⟨rfl,rfl⟩:=h;refine⟨by simp,?_⟩;obtain⟨⟨a,b,c,d,r,h1⟩,h2⟩:=Xt hw;have cl:=ad0 (xA h2) hn.1 hn.2;simp only[go_sem,seval,h1,cl];exact uv
 .simp at h
end
section
variable {H:AH}
noncomputable def DK(args:List AV)(H:AH):Option (AV×AH):=match args with
 |[.c .dt,.c (.u _),.c _]=>some (.c (.b false),H)|[.c (.p p 0 0),.c (.u a),.c y]=>match w9 H p,iC H y with
   |some (id,B),some b=>if B.length<=262144/\b.length<=262144 then if b=[]then some (.c (.b true),H)else if fY B.length a b.length=true then some (.c (.b true),H.set id (.vec 1 ((gp B (bp a) b).flatMap bQ)))else some (.c (.b false),H)else none|_,_=>none
 |_=>none
theorem awK{p id:Nat}{a:BitVec 64}{y:Sc}{B b:List Int}(h:w9 H p=some (id,B))(h2:iC H y=some b)(hB:B.length<=262144)(hb:b.length<=262144):DK [.c (.p p 0 0),.c (.u a),.c y] H=if b=[]then some (.c (.b true),H)else if fY B.length a b.length=true then some (.c (.b true),H.set id (.vec 1 ((gp B (bp a) b).flatMap bQ)))else some (.c (.b false),H):=by simp only[DK,h,h2];rw[if_pos ⟨hB,hb⟩]
theorem aod(args:List AV)(H:AH)(v:AV)(H1:AH)(h:DK args H=some (v,H1)):H.length<=H1.length:=by
 unfold DK at h;repeat' split at h
 all_goals simp at h
 all_goals rw[<-h.2]
 all_goals simp
theorem aro:aZ Tryz.prog 23 DK:=by
 refine fU (s:=DK) (tq Uz tn) Tryz.func23 rfl Tryz.results23 Tryz.ntmps23 aod ?_;intro args H v H1 h bM hH;unfold DK at h;split at h
 .simp only[ar,bD]at h;obtain⟨rfl,rfl⟩:=h;refine⟨by simp,?_⟩;simp only[go_sem,seval];exact uv
 .rename_i p a y;split at h<;>try(simp at h;done)
  rename_i id B b hw hy;split at h<;>try(simp at h;done)
  rename_i hn;obtain⟨n1,n2⟩:=hn;refine⟨by simp,?_⟩;obtain⟨⟨c1,c2,c3,c4,r,h1⟩,h2⟩:=Xt hw;have yl:=Nl hy;have ys:=RN hy;split at h
  .rename_i hb;subst hb;simp only[ar,bD]at h;obtain⟨rfl,rfl⟩:=h;simp only[dY]at yl;simp only[go_sem,seval,yl,ys,vR];exact uv
  rename_i hb;have bl:0<b.length:=List.length_pos_iff.2 hb;have bz:¬((b.length:Int)=0):=ω
  have sp:=VQ (Xs hw) n1 (show((b.length:Nat):Int)<=9223372036854775807 by omega) (a:=a);split at h
  .rename_i hh;simp only[ar,bD]at h;obtain⟨rfl,rfl⟩:=h;rw[if_pos hh]at sp;rw[kJ]at hh;have k0:(0:Int)<=(bp a:Int):=ω
   have k1:(bp a:Int)<=(B.length:Int):=ω
   have Ks:(bp a:Int)<(B.length:Int):=ω
   have k2:b.length<=B.length-bp a:=ω
   have k3:¬b.length=0:=ω
   have k4:bp a+b.length<=B.length:=ω
   have o1:=R1 b;have l1:=wa b;have l2:=wa B;have w1:=Qn B b (bp a);rcases uq hy with⟨rfl,rfl⟩|⟨j,o,rfl,g1,g2⟩
   .simp at hb
   (repeat(first|simp only[go_sem,seval,yl,ys,vR,bz,sp,h1,h2,k0,k1,Ks,k2,k3,k4,o1,l1,l2,g1,g2,w1,aO]|simp(disch:=omega)only[w0]));exact uv
  .rename_i hh;simp only[ar,bD]at h;obtain⟨rfl,rfl⟩:=h;rw[if_neg hh]at sp;simp only[go_sem,seval,yl,ys,vR,bz,sp];exact uv
 .simp at h
end
theorem Kz{c:List Int}{q:Int}(hk:k+c.length<B.length):gp (gp B k c) (k+c.length) [q]=gp B k (c++[q]):=by
 have l1:(B.take k++c).length=k+c.length:=by rw[cF,rW];omega
 unfold gp;rw[CF ω,bR ω,BA,MA (by rw[l1];simp),l1,uX];simp only[cZ,dY,cF,jV,fo];congr 4;omega
section
variable {H:AH}
def ax8:Sc->Option Nat|.sl i _ _ _=>some i|_=>none
def Ib(H:AH)(id v N:Nat):Option (List Int):=match hg H id with|.vec 1 cs=>(BN cs).bind λB=>if v=B.length/\N=B.length then some B else none|_=>none
theorem au8{id v N:Nat}{B:List Int}(h:Ib H id v N=some B):hg H id=.vec 1 (B.flatMap bQ)/\v=B.length/\N=B.length:=by
 unfold Ib at h;split at h<;>try(simp at h;done)
 rename_i cs hj;rw[kY]at h;obtain⟨B',h1,h2⟩:=h;split at h2<;>simp at h2;rename_i hc;subst h2;exact⟨by rw[hj,Ry h1],hc⟩
theorem au9{id:Nat}{B:List Int}(h2:hg H id=.vec 1 (B.flatMap bQ)):Ib H id B.length B.length=some B:=by
 unfold Ib;simp[h2,GN]
noncomputable def aBy(args:List AV)(H:AH):Option (AV×AH):=match args with
 |[.g [.sl id 0 v N],.c (.u a),.c y]=>match Ib H id v N,iC H y with
   |some B,some b=>if B.length<=262144/\b.length<=262144/\ax8 y≠some id then if b=[]then some (.c (.b true),H++[.own [.sl id 0 v N]])else if fY B.length a b.length=true then some (.c (.b true),H.set id (.vec 1 ((gp B (bp a) b).flatMap bQ))++[.own [.sl id 0 v N]])else some (.c (.b false),H++[.own [.sl id 0 v N]])else none|_,_=>none
 |_=>none
theorem Gl{n:Nat}{fr dP:Fr}{H K:AH}(h:H=K)(hf:∀p∈dP,Am.get fr p.1=p.2):Wk n fr H (dP,K):=by subst h;exact kT hf
theorem PW{id:Nat}{o:ae}(h:hg H id=o)(hl:id<H.length):H.set id o=H:=by
 apply List.ext_getElem?;intro i;rw[List.getElem?_set];split
 .rename_i e;subst e;rw[<-h];unfold hg;rw[b9,cM hl];rfl
 .rfl
def DG(args:List AV)(H:AH):Option AV:=match args with
 |[.c (.sl i o v n),.c (.sl j p w m)]=>match iC H (.sl i o v n),iC H (.sl j p w m)with
   |some L,some M=>if L=M/\L.length<=262144 then some (.c (.b true))else none|_,_=>none
 |_=>none
theorem awz{o v n j m:Nat}(h1:iC H (.sl i o v n)=some L)(h2:iC H (.sl j p w m)=some L)(h3:L.length<=262144):DG [.c (.sl i o v n),.c (.sl j p w m)] H=some (.c (.b true)):=by simp only[DG,h1,h2];rw[if_pos ⟨trivial,h3⟩]
theorem EE{id off v n:Nat}{L:List Int}(h:iC H (.sl id off v n)=some L):v=(hg H id).row/\n=L.length/\off+n<=(hg H id).cells.length/\∀k q,L[k]?=some q->(hg H id).cells.getD (off+k) .any=.k .u8 q/\off+k+1<=(hg H id).cells.length:=by
 rcases uq h with⟨c,_⟩|⟨i,o,e,g1,g2⟩
 .simp at c
 .simp only[Sc.sl.injEq]at e;obtain⟨rfl,rfl,rfl,rfl⟩:=e;refine⟨rfl,rfl,g1,λk q hq=>?_⟩;have kl:k<L.length:=by
   rcases cU k L.length with c|c
   .exact c
   .rw[jQ c]at hq;simp at hq
  have:=congrArg (λl=>l.getD k .any) g2;simp only[b9,Gw,sZ]at this|-;rw[if_pos kl]at this;refine⟨?_,ω⟩;rw[this];have g:=G9 (f:=bQ) (g:=Sc.k .u8) (λ_=>rfl) hq;simpa[b9]using g
theorem aq9:aZ Tryz.prog 45 (λargs H=>(DG args H).map λv=>(v,H)):=by
 refine iR (s:=DG) tn Tryz.func45 rfl Tryz.results45 Tryz.ntmps45 ?_;intro args H v h bM hH;unfold DG at h;split at h<;>try(simp at h;done)
 rename_i i o v n j p w m;split at h<;>try(simp at h;done)
 rename_i L M h1 h2;split at h<;>try(simp at h;done)
 rename_i hc;obtain⟨rfl,hl⟩:=hc;simp only[ar]at h;subst h;refine⟨by simp,rfl,?_⟩;obtain⟨rfl,rfl,x1,x2⟩:=EE h1;obtain⟨rfl,rfl,y1,y2⟩:=EE h2;simp only[go_sem,seval];rw[rk];refine⟨{k:Nat//k<=L.length},λk=>([(0,.c (.sl i o (hg H i).row L.length)),(1,.c (.sl j p (hg H j).row L.length)),(5,.c (.i k.1))],H),λk=>L.length-k.1,⟨0,ω⟩,kT (by simp[Am.get]),?_⟩;rintro⟨k,hk⟩;by_cases aL:k<L.length
 .have e1:az ((k:Int)+1)=((k+1:Nat):Int):=by rw[aq ω ω];omega
  obtain⟨q,hq⟩:∃q,L[k]?=some q:=⟨_,cM aL⟩;obtain⟨a1,a2⟩:=x2 k q hq;obtain⟨b1,b2⟩:=y2 k q hq;have k0:(0:Int)<=(k:Int):=ω
  have kI:(k:Int)<(L.length:Int):=ω
  simp only[go_sem,seval,e1,a1,a2,b1,b2,k0,kI,aO];exact⟨⟨k+1,ω⟩,by simp only;omega,kT (by simp[Am.get])⟩
 .obtain rfl:k=L.length:=ω
  have kI:¬((L.length:Int)<L.length):=ω
  simp only[go_sem,seval,kI];exact aE _
end
def aBx(args:List AV):Option AV:=match args with|[.c .dt,.c (.i n)]=>some (.t [.c (.u 0#64),.c (.b false)])|_=>none
def VM(args:List AV):Option AV:=match args with|[.c (.i k)]=>if k=2 then some (.c (.b true))else none|_=>none
theorem arn:cE Tryz.prog 67 VM:=by
 refine cN tn Tryz.func67 rfl Tryz.results67 Tryz.ntmps67 ?_;intro args v h;unfold VM at h;split at h
 .rename_i k;split at h
  .rename_i hc;simp only[ar]at h;subst h;refine⟨by simp,rfl,rfl,?_⟩;subst hc;simp only[go_sem,seval]
  .simp at h
 .simp at h
def Pv(args:List AV):Option AV:=match args with|[.c (.i k)]=>if k=2 then some (.c (.i 1))else none|_=>none
theorem abT:cE Tryz.prog 27 Pv:=by
 refine cN (tu arn tn) Tryz.func27 rfl Tryz.results27 Tryz.ntmps27 ?_;intro args v h;unfold Pv at h;split at h
 .rename_i k;split at h
  .rename_i hc;simp only[ar]at h;subst h;refine⟨by simp,rfl,rfl,?_⟩;subst hc;have e:VM [.c (.i 2)]=some (.c (.b true)):=rfl;simp only[go_sem,seval,e]
  .simp at h
 .simp at h
def Py(args:List AV):Option AV:=match args with|[.g (.i k::.u a::.u x::.i c::.i s::r)]=>if k=2/\c=0/\s=8/\r.length=14/\r.all Sc.pf=true/\r.all Sc.one=true then some (.c (.b true))else none|_=>none
theorem arD:cE Tryz.prog 29 Py:=by
 refine cN tn Tryz.func29 rfl Tryz.results29 Tryz.ntmps29 ?_;intro args v h;unfold Py at h;split at h
 .rename_i k a x c s r;split at h
  .rename_i hc;simp only[ar]at h;subst h;have pr:=hc.2.2.2.2.1;refine⟨by simp,by first|rfl|simp only[bG,dO,AV.pf,Sc.pf,cX, *],by first|rfl|simp only[bG,dO,AV.pf,Sc.pf,cX, *],?_⟩;obtain⟨rfl,rfl,rfl,lr,pr,ro⟩:=hc;have rt:r.take 14=r:=bR ω;simp only[go_sem,seval,lr,ro,rt]
  .simp at h
 .simp at h
section
variable {H:AH}
theorem RO{id off v N:Nat}{B:List Int}(h:iC H (.sl id off v N)=some B)(h0:0<B.length):id<H.length:=by
 obtain⟨_,e,h1,_⟩:=EE h;rcases cU id H.length with c|c
 .exact c
 .rw[tG _ c]at h1;simp only[ae.cells,dY]at h1;omega
theorem Zj{id off v N:Nat}{B:List Int}(h:iC H (.sl id off v N)=some B)(h0:0<B.length)(X:AH):iC (H++X) (.sl id off v N)=some B:=by
 rw[<-h];unfold iC;simp only[cL (X:=X) (RO h h0)]
theorem Gk{p id off v N:Nat}{B:List Int}(h:nY H p=some (.sl id off v N,B))(h0:0<B.length)(X:AH):nY (H++X) p=some (.sl id off v N,B):=by
 obtain⟨c1,c2,c3,c4,r',ho,mN⟩:=Mt h;unfold nY;simp only[cL (X:=X) (dU (H:=H) (i:=p) (by rw[ho];rfl)),ho,Zj mN h0 X,n9]
def DJ(args:List AV)(H:AH):Option AV:=match args with
 |[.c (.p p 0 0),.c (.i h)]=>match hg H p with
   |.own (.i n::.i _::.i _::.i _::_)=>some (.c (.b (decide (0<=h)&&decide (h<n))))|_=>none
 |_=>none
theorem Ux:aZ Tryz.prog 28 (λargs H=>(DJ args H).map λv=>(v,H)):=by
 refine iR (s:=DJ) tn Tryz.func28 rfl Tryz.results28 Tryz.ntmps28 ?_;intro args H v h bM hH;unfold DJ at h;split at h<;>try(simp at h;done)
 rename_i p h0;split at h<;>try(simp at h;done)
 rename_i n c1 c2 c3 r ho;simp only[ar]at h;subst h;refine⟨by simp,rfl,?_⟩;by_cases g:0<=h0
 .by_cases g2:h0<n
  .simp only[go_sem,seval,ho,g,g2];exact aE _
  .simp only[go_sem,seval,ho,g,g2];exact aE _
 .simp only[go_sem,seval,g];exact aE _
noncomputable def Ly(args:List AV)(H:AH):Option AV:=match args with
 |[.c (.p p 0 0),.g (.i k::.u a::.u x::.i c::.i s::r)]=>match nY H p with
   |some (.sl id off v N,B)=>if B.length<=262144/\c=0/\s=8/\r.length=14/\r.all Sc.one=true/\fY B.length a 8=true then some (.t [.c (.sl id (off+bp a) v 8),.c .aA,.c (.b true)])else none|_=>none
 |_=>none
theorem ad2{p id off v N:Nat}{B:List Int}{k:Int}{a x:BitVec 64}{r:List Sc}(h:nY H p=some (.sl id off v N,B))(h1:B.length<=262144)(h2:r.length=14)(h3:r.all Sc.one=true)(h4:fY B.length a 8=true):Ly [.c (.p p 0 0),.g (.i k::.u a::.u x::.i 0::.i 8::r)] H=some (.t [.c (.sl id (off+bp a) v 8),.c .aA,.c (.b true)]):=by simp only[Ly,h];rw[if_pos ⟨h1,trivial,trivial,h2,h3,h4⟩]
theorem abX:aZ Tryz.prog 30 (λargs H=>(Ly args H).map λv=>(v,H)):=by
 refine iR (s:=Ly) (tq Uz tn) Tryz.func30 rfl Tryz.results30 Tryz.ntmps30 ?_;intro args H v h bM hH;unfold Ly at h;split at h<;>try(simp at h;done)
 rename_i p k a x c s r;split at h<;>try(simp at h;done)
 rename_i id off v N B hx;split at h<;>try(simp at h;done)
 rename_i hc;obtain⟨hB,rfl,rfl,lr,ro,hh⟩:=hc;simp only[ar]at h;subst h;simp only[bG,AV.aj,aQ]at bM;obtain⟨c1,c2,c3,c4,r',ho,mN⟩:=Mt hx;have b0:0<B.length:=by rw[kJ]at hh;omega
 have aD:=RO mN b0;refine⟨by simp,by simp[AV.aj,Sc.aj,aD],?_⟩;have rt:r.take 14=r:=bR ω;have sp:=λX=>VQ (H:=H++X) (p:=p) (x:=.sl id off v N) (B:=B) (a:=a) (n:=8) (Gk hx b0 X) hB δ;simp only[hh,if_true]at sp;rw[kJ]at hh;obtain⟨_,rfl,_,_⟩:=EE mN;have hX:∀X,hg (H++X) p=.own (.i c1::.i c2::.i c3::.i c4::.sl id off v B.length::r'):=λX=>by rw[cL (dU (by rw[ho];rfl)),ho]
 have w1:az ((bp a:Int)+8)=((bp a+8:Nat):Int):=by rw[aq ω ω];omega
 have q1:(0:Int)<=(bp a:Int):=ω
 have q2:(bp a:Int)<((bp a+8:Nat):Int):=ω
 have q3:((bp a+8:Nat):Int)<=((bp a+8:Nat):Int):=zO _;have q4:((bp a+8:Nat):Int)<=(B.length:Int):=ω
 have q5:bp a+8-bp a=8:=s9 ..;simp only[go_sem,seval,lr,ro,rt,sp,hX,w1,q1,q2,q3,q4,q5,aO];exact aB _ _
end
def oY(v:BitVec 64):List Sc:=.u v::.b false::jC ju
theorem Yb(v:BitVec 64):(oY v).length=42:=rfl
theorem Yc(v:BitVec 64):(oY v).all Sc.one=true:=rfl
noncomputable def qu(B:List Int)(a:BitVec 64):BitVec 64:=mB ((B.drop (bp a)).take 8)
section
variable {H:AH}
noncomputable def Lx(args:List AV)(H:AH):Option AV:=match args with
 |[.c (.p p 0 0),.c (.i _),.g (.i k::.u a::.u x::.i c::.i s::r)]=>match nY H p with
   |some (.sl id off v N,B)=>if B.length<=262144/\k=2/\c=0/\s=8/\r.length=14/\r.all Sc.one=true/\fY B.length a 8=true then some (.g (oY (qu B a)))else none|_=>none
 |_=>none
theorem awO{p id off v N:Nat}{B:List Int}{h:Int}{a x:BitVec 64}{r:List Sc}(hw:nY H p=some (.sl id off v N,B))(h1:B.length<=262144)(h2:r.length=14)(h3:r.all Sc.one=true)(h4:fY B.length a 8=true):Lx [.c (.p p 0 0),.c (.i h),.g (.i 2::.u a::.u x::.i 0::.i 8::r)] H=some (.g (oY (qu B a))):=by simp only[Lx,hw];rw[if_pos ⟨h1,trivial,trivial,trivial,h2,h3,h4⟩]
theorem arv:aZ Tryz.prog 38 (λargs H=>(Lx args H).map λv=>(v,H)):=by
 refine iR (s:=Lx) (tq abX (tq abW tn)) Tryz.func38 rfl Tryz.results38 Tryz.ntmps38 ?_;intro args H v h bM hH;unfold Lx at h;split at h<;>try(simp at h;done)
 rename_i p h0 k a x c s r;split at h<;>try(simp at h;done)
 rename_i id off v N B hx;split at h<;>try(simp at h;done)
 rename_i hc;obtain⟨hB,rfl,rfl,rfl,lr,ro,hh⟩:=hc;simp only[ar]at h;subst h;obtain⟨c1,c2,c3,c4,r',ho,mN⟩:=Mt hx;have E8:=hh;rw[kJ]at E8;have b0:0<B.length:=ω
 refine⟨by simp,rfl,?_⟩;have rt:r.take 14=r:=bR ω;have pt:=λX=>ad2 (Gk hx b0 X) hB lr ro hh (k:=2) (x:=x);have fn:=λX=>VO (H:=H++X) (Nm (Zj mN b0 X) (a:=bp a) (n:=8) ω) (show iC (H++X) .aA=some []from rfl) (by rw[rW];omega) (by simp);simp only[kD]at fn;simp only[go_sem,seval,lr,ro,rt,pt,fn];exact⟨rfl,aB _ _⟩
noncomputable def FX(args:List AV)(H:AH):Option AV:=match args with
 |[.c .dt,.c (.i _),.g l]=>if l.length=19/\l.all Sc.one=true then some (.c (.b false))else none|[.c (.p p 0 0),.c (.i h),.g (.i k::.u a::.u x::.i c::.i s::r)]=>match nY H p,hg H p with
   |some (.sl id off v N,B),.own (.i n::.i _::.i _::.i _::_)=>if B.length<=262144/\k=2/\c=0/\s=8/\r.length=14/\(r.all Sc.pf=true/\r.all Sc.one=true)/\fY B.length a 8=true/\0<=h/\h<n then some (.c (.b true))else none|_,_=>none
 |_=>none
theorem aru:aZ Tryz.prog 9 (λargs H=>(FX args H).map λv=>(v,H)):=by
 refine iR (s:=FX) (tu abT (tq Ux (tu arD (tq abX tn)))) Tryz.func9 rfl Tryz.results9 Tryz.ntmps9 ?_;intro args H v h bM hH;unfold FX at h;split at h
 .rename_i h0 l;split at h<;>try(simp at h;done)
  rename_i hc;simp only[ar]at h;subst h;refine⟨by simp,rfl,?_⟩;obtain⟨l1,l2⟩:=hc;have lt:l.take 19=l:=bR ω;simp only[go_sem,seval,l1,l2,lt];exact aB _ _
 .rename_i p h0 k a x c s r;split at h<;>try(simp at h;done)
  rename_i id off v N B n c1 c2 c3 rr hx ho;split at h<;>try(simp at h;done)
  rename_i hc;obtain⟨hB,rfl,rfl,rfl,lr,⟨rp,ro⟩,hh,n0,n1⟩:=hc;simp only[ar]at h;subst h;refine⟨by simp,rfl,?_⟩;have E8:=hh;rw[kJ]at E8;have b0:0<B.length:=ω
  have rt:r.take 14=r:=bR ω;have pt:=λX=>ad2 (Gk hx b0 X) hB lr ro hh (k:=2) (x:=x);have hX:∀X,hg (H++X) p=.own (.i n::.i c1::.i c2::.i c3::rr):=λX=>by rw[cL (dU (by rw[ho];rfl)),ho]
  have ht:∀X,DJ [.c (.p p 0 0),.c (.i h0)] (H++X)=some (.c (.b true)):=λX=>by
   simp only[DJ,hX];rw[decide_eq_true n0,decide_eq_true n1];rfl
  have gr:Pv [.c (.i 2)]=some (.c (.i 1)):=rfl;have sh:Py [.g (.i 2::.u a::.u x::.i 0::.i 8::r)]=some (.c (.b true)):=by simp only[Py];rw[if_pos ⟨trivial,trivial,trivial,lr,rp,ro⟩]
  simp only[go_sem,seval,lr,ro,rt,pt,ht,gr,sh];exact aB _ _
 .simp at h
theorem awN{l:List Sc}(h1:l.length=19)(h2:l.all Sc.one=true):FX [.c .dt,.c (.i h),.g l] H=some (.c (.b false)):=by simp only[FX];rw[if_pos ⟨h1,h2⟩]
theorem awM{p id off v N:Nat}{B:List Int}{n c1 c2 c3 h:Int}{rr:List Sc}{a x:BitVec 64}{r:List Sc}(hw:nY H p=some (.sl id off v N,B))(ho:hg H p=.own (.i n::.i c1::.i c2::.i c3::rr))(h1:B.length<=262144)(h2:r.length=14)(hp:r.all Sc.pf=true)(h3:r.all Sc.one=true)(h4:fY B.length a 8=true)(n0:0<=h)(n1:h<n):FX [.c (.p p 0 0),.c (.i h),.g (.i 2::.u a::.u x::.i 0::.i 8::r)] H=some (.c (.b true)):=by simp only[FX,hw,ho];rw[if_pos ⟨h1,trivial,trivial,trivial,h2,⟨hp,h3⟩,h4,n0,n1⟩]
noncomputable def Lu(args:List AV)(H:AH):Option AV:=match args with
 |[.c .dt,.c (.i _),.g l]=>if l.length=19/\l.all Sc.one=true then some (.t [.g (oY 0#64),.c (.b false)])else none|[.c (.p p 0 0),.c (.i h),.g (.i k::.u a::.u x::.i c::.i s::r)]=>match nY H p,hg H p with
   |some (.sl id off v N,B),.own (.i n::.i _::.i _::.i _::_)=>if B.length<=262144/\k=2/\c=0/\s=8/\r.length=14/\(r.all Sc.pf=true/\r.all Sc.one=true)/\fY B.length a 8=true/\0<=h/\h<n then some (.t [.g (oY (qu B a)),.c (.b true)])else none|_,_=>none
 |_=>none
theorem ari:aZ Tryz.prog 11 (λargs H=>(Lu args H).map λv=>(v,H)):=by
 refine iR (s:=Lu) (tq aru (tu abT (tq arv tn))) Tryz.func11 rfl Tryz.results11 Tryz.ntmps11 ?_;intro args H v h bM hH;unfold Lu at h;split at h
 .rename_i h0 l;split at h<;>try(simp at h;done)
  rename_i hc;simp only[ar]at h;subst h;refine⟨by simp,rfl,?_⟩;obtain⟨l1,l2⟩:=hc;have lt:l.take 19=l:=bR ω;have my:=λX=>awN (H:=H++X) (h:=h0) l1 l2;simp only[go_sem,seval,l1,l2,lt,my];exact⟨rfl,aB _ _⟩
 .rename_i p h0 k a x c s r;split at h<;>try(simp at h;done)
  rename_i id off v N B n c1 c2 c3 rr hx ho;split at h<;>try(simp at h;done)
  rename_i hc;obtain⟨hB,rfl,rfl,rfl,lr,⟨rp,ro⟩,hh,n0,n1⟩:=hc;simp only[ar]at h;subst h;refine⟨by simp,rfl,?_⟩;have E8:=hh;rw[kJ]at E8;have b0:0<B.length:=ω
  have rt:r.take 14=r:=bR ω;have hX:∀X,hg (H++X) p=.own (.i n::.i c1::.i c2::.i c3::rr):=λX=>by rw[cL (dU (by rw[ho];rfl)),ho]
  have my:=λX=>awM (Gk hx b0 X) (hX X) hB lr rp ro hh n0 n1 (x:=x);have mm:=λX=>awO (Gk hx b0 X) hB lr ro hh (x:=x) (h:=h0);have gr:Pv [.c (.i 2)]=some (.c (.i 1)):=rfl;have al:=Yb (qu B a);have a1:=Yc (qu B a);have cQ:(oY (qu B a)).take 42=oY (qu B a):=rfl;have ad:∀T:List Sc,T.length=42->T.drop 42=[]:=λT hT=>kE ω;generalize oY (qu B a)=Q at*;simp only[go_sem,seval,lr,ro,rt,my,mm,gr,al,a1,cQ];exact aB _ _
 .simp at h
end
def rLq:List Sc:=[.i 0,.u 0#64,.u 0#64,.b false,.i 0,.b false,.b false,.b false,.u 0#64,.i 0,.i 0,.u 0#64,.i 0,.u 0#64]
def KI:List Sc:=.i 2::.u 2147483648#64::.u 0#64::.i 0::.i 8::rLq
def qJ(w:BitVec 64):List Sc:=.i 0::(KI++(oY w++[.i 0,.i 0,.i 0]))
theorem Yd(q:BitVec 64):cj Tryz.prog .neq 73 (.g (oY q)) (.g (oY 5#64))=some (.c (.b (!decide (q=5#64)))):=by
 have gT:iV Tryz.prog 12 73=some (Tg.n::Tg.q::(bE 8 [Tg.q,.q,.q,.n,.n]).flatten):=κ
 rw[Jn _ κ gT];have h:gB (bE 8 [Tg.q,.q,.q,.n,.n]).flatten (jC ju) (jC ju)=some true:=κ
 have:gB (Tg.n::Tg.q::(bE 8 [Tg.q,.q,.q,.n,.n]).flatten) (oY q) (oY 5#64)=some (decide (q=5#64)):=by
  unfold oY;simp only[gB,h,rJ];by_cases c:q=5#64<;>simp[c]
 rw[this];rfl
section
variable {H:AH}
open Classical in noncomputable def FY(args:List AV)(H:AH):Option AV:=match args with
 |[.c .dt,.c _]=>some (.t [.c (.i 0),.c (.b false)])|[.c (.p p 0 0),.c (.sl e 0 v n)]=>match nY H p,hg H p with
   |some (.sl id off u N,B),.own (.i m::.i _::.i _::.i _::_)=>if B.length<=262144/\fY B.length 2147483648#64 8=true/\0<m/\n=1/\v=65/\hg H e=.vec 65 (qJ 5#64)then some (.t [.c (.i 0),.c (.b (decide (qu B 2147483648#64=5#64)))])else none|_,_=>none
 |_=>none
theorem ad3{p id off u N e:Nat}{B:List Int}{n c1 c2 c3:Int}{rr:List Sc}(hw:nY H p=some (.sl id off u N,B))(ho:hg H p=.own (.i n::.i c1::.i c2::.i c3::rr))(h1:B.length<=262144)(h4:fY B.length 2147483648#64 8=true)(n1:0<n)(he:hg H e=.vec 65 (qJ 5#64)):FY [.c (.p p 0 0),.c (.sl e 0 65 1)] H=some (.t [.c (.i 0),.c (.b (decide (qu B 2147483648#64=5#64)))]):=by simp only[FY,hw,ho];rw[if_pos ⟨h1,h4,n1,rfl,rfl,he⟩]
theorem ary:aZ Tryz.prog 18 (λargs H=>(FY args H).map λv=>(v,H)):=by
 refine iR (s:=FY) (tq ari tn) Tryz.func18 rfl Tryz.results18 Tryz.ntmps18 ?_;intro args H v h bM hH;unfold FY at h;split at h
 .simp only[ar]at h;subst h;refine⟨by simp,rfl,?_⟩;simp only[go_sem,seval];exact aE _
 .rename_i p e v n;split at h<;>try(simp at h;done)
  rename_i id off u N B m c1 c2 c3 rr hx ho;split at h<;>try(simp at h;done)
  rename_i hc;obtain⟨hB,hh,m0,rfl,rfl,he⟩:=hc;simp only[ar]at h;subst h;refine⟨by simp,rfl,?_⟩;have E8:=hh;rw[kJ]at E8;have b0:0<B.length:=ω
  have le:e<H.length:=dU (by rw[he];rfl);have SK:∀X,hg (H++X) e=.vec 65 (qJ 5#64):=λX=>by rw[cL le,he]
  have hX:∀X,hg (H++X) p=.own (.i m::.i c1::.i c2::.i c3::rr):=λX=>by rw[cL (dU (by rw[ho];rfl)),ho]
  have my:∀X,Lu [.c (.p p 0 0),.c (.i 0),.g KI] (H++X)=some (.t [.g (oY (qu B 2147483648#64)),.c (.b true)]):=λX=>by
   unfold KI;simp only[Lu,Gk hx b0 X,hX X];rw[if_pos ⟨hB,trivial,trivial,trivial,rfl,⟨rfl,rfl⟩,hh,zO _,m0⟩]
  have e1:(qJ 5#64).length=65:=rfl;have e2:(qJ 5#64).take 65=qJ 5#64:=rfl;have e3:(qJ 5#64).getD 0 .any=.i 0:=rfl;have e4:((qJ 5#64).drop 1).take 19=KI:=rfl;have e5:((qJ 5#64).drop 20).take 42=oY 5#64:=rfl;have e6:(qJ 5#64).all Sc.one=true:=rfl;have al:=Yb (qu B 2147483648#64);have a1:=Yc (qu B 2147483648#64);have cQ:(oY (qu B 2147483648#64)).take 42=oY (qu B 2147483648#64):=rfl;generalize qu B 2147483648#64=q at*;simp only[go_sem,seval,he,SK,my,e1,e2,e3,e4,e5,e6,al,a1,cQ];rw[rk];refine⟨{k:Nat//k<=1/\(k=1->q=5#64)},λk=>([(0,.c (.p p 0 0)),(12,.c (.sl e 0 65 1)),(13,.c (.i 1)),(14,.c (.i k.1))],if k.1=0 then H else H++[.own (qJ 5#64),.own (oY q)]),λk=>1-k.1,⟨0,ω,ω⟩,kT (by simp[Am.get]),?_⟩;rintro⟨k,hk,hq⟩;rcases(show k=0\/k=1 by omega)with rfl|rfl
  .simp only[if_true];by_cases c:q=5#64
   .have c':=eq_true c;have ab:=Yd q;rw[decide_eq_true c]at ab|-;(repeat(first|simp only[go_sem,seval,he,SK,my,e1,e2,e3,e4,e5,e6,al,a1,cQ,ab]|simp(disch:=omega)only[w0]));exact⟨⟨1,ω,λ_=>c⟩,by simp only;omega,Gl rfl (by simp[Am.get])⟩
   .have ab:=Yd q;rw[decide_eq_false c]at ab|-;simp only[go_sem,seval,he,SK,my,e1,e2,e3,e4,e5,e6,al,a1,cQ,ab];exact aB _ _
  .simp only[Nat.one_ne_zero,if_false];rw[decide_eq_true (hq rfl)];simp only[go_sem,seval];exact aB _ _
 .simp at h
end
theorem afc{p id:Nat}{B:List Int}(h:w9 H p=some (id,B)):nY H p=some (.sl id 0 B.length B.length,B):=Xs h
theorem OL:bp 2147483648#64=0:=by rw[Um];rfl
theorem Sy{N:Nat}{n:Int}(h1:1<=n)(h2:n<=(N:Int)):fY N 2147483648#64 n=true:=by
 rw[kJ,OL];refine⟨h1,aC _,ω,ω⟩
theorem adz(n:Nat):bE n (Sc.k .u8 0)=(bE n (0:Int)).flatMap bQ:=by induction n with|zero=>rfl|succ n ih=>rw[xn,ih,xn,qC];rfl
section
variable {H:AH}
theorem Uk(h t n b:Int)(X:AH):hg (H++(uE H.length h t n b++X)) (H.length+4)=.own (oQ h t n b (.sl (H.length+3) 0 (64*n.toNat) (64*n.toNat)) tZ (.p (H.length+2) 0 0) (aG h Z8))/\hg (H++(uE H.length h t n b++X)) (H.length+3)=.vec 1 ((bE (64*n.toNat) (0:Int)).flatMap bQ):=by
 constructor
 .rw[gY];rfl
 .rw[gY,<-adz];rfl
theorem ap5(h t n b:Int)(X:AH):w9 (H++(uE H.length h t n b++X)) (H.length+4)=some (H.length+3,bE (64*n.toNat) 0):=by
 obtain⟨h1,h2⟩:=Uk (H:=H) h t n b X;exact Qk (B:=bE (64*n.toNat) 0) (by rw[List.length_replicate];exact h1) h2
end
def B0:List Int:=bE 64 0
def B1:List Int:=gp B0 0 [5]
def VN(args:List AV):Option AV:=match args with|[]=>some (.c (.b true))|_=>none
theorem Pw:VN []=some (.c (.b true)):=rfl
theorem arq:cE Tryz.prog 7 VN:=by
 refine cN (tp abV (tq ary (tp aro tn))) Tryz.func7 rfl Tryz.results7 Tryz.ntmps7 ?_;intro args v h;unfold VN at h;split at h
 .simp only[ar]at h;subst h;refine⟨by simp,rfl,rfl,?_⟩;obtain⟨K5,N0⟩:∃K5:AH,K5=uE 0 1 1 1 1:=⟨_,rfl⟩;have l5:K5.length=5:=by rw[N0];rfl
  have n1:zq [.g [.i 1,.i 1,.i 1,.i 1]] []=some (.t [.c (.p 4 0 0),.c (.i 0)],K5):=by
   simp only[zq];rw[if_pos δ,N0];rfl
  have v5:∀X,w9 (K5++X) 4=some (3,B0):=λX=>by
   have:=ap5 (H:=[]) 1 1 1 1 X;rw[jV,dY,<-N0]at this;exact this
  have h5:∀X,hg (K5++X) 4=.own (.i 1::.i 1::.i 1::.i 1::.sl 3 0 64 64::(tZ++.p 2 0 0::aG 1 Z8)):=λX=>by
   have:=(Uk (H:=[]) 1 1 1 1 X).1;rw[jV,dY,<-N0]at this;exact this
  have r1:∀X,FY [.c (.p 4 0 0),.c (.sl 5 0 65 1)] (K5++(.vec 65 (qJ 5#64)::X))=some (.t [.c (.i 0),.c (.b false)]):=λX=>by
   have:=ad3 (e:=5) (afc (v5 (.vec 65 (qJ 5#64)::X))) (h5 _) δ (Sy δ δ) δ (by rw[<-l5,me];rfl);rw[this];have e:qu B0 2147483648#64=0#64:=by unfold qu;rw[OL];rfl
   rw[e];rfl
  obtain⟨K8,Su⟩:∃K8:AH,K8=(K5++[ae.vec 65 (qJ 5#64),ae.vec 1 [.k .u8 5]]).set 3 (.vec 1 (B1.flatMap bQ)):=⟨_,rfl⟩;have f1:DK [.c (.p 4 0 0),.c (.u 2147483648#64),.c (.sl 6 0 1 1)] (K5++[ae.vec 65 (qJ 5#64),ae.vec 1 [.k .u8 5]])=some (.c (.b true),K8):=by
   have h6:hg (K5++[ae.vec 65 (qJ 5#64),ae.vec 1 [.k .u8 5]]) 6=.vec 1 (([5]:List Int).flatMap bQ):=by
    have:=gY (H:=K5) (X:=[ae.vec 65 (qJ 5#64),ae.vec 1 [.k .u8 5]]) (n:=1);rw[l5]at this;rw[this];rfl
   have fe:=awK (a:=2147483648#64) (v5 _) (xA h6) δ δ;simp only[cZ,dY,oU]at fe;rw[fe,if_neg δ,if_pos (Sy δ δ),OL,Su];rfl
  have k8:∀i,i≠3->hg K8 i=hg (K5++[ae.vec 65 (qJ 5#64),ae.vec 1 [.k .u8 5]]) i:=λi hi=>by rw[Su,fg (λc=>hi c.symm)]
  have r2:FY [.c (.p 4 0 0),.c (.sl 5 0 65 1)] K8=some (.t [.c (.i 0),.c (.b true)]):=by
   have h4:hg K8 4=.own (.i 1::.i 1::.i 1::.i 1::.sl 3 0 64 64::(tZ++.p 2 0 0::aG 1 Z8)):=by rw[k8 4 δ,h5]
   have h3:hg K8 3=.vec 1 (B1.flatMap bQ):=by rw[Su,jj (by simp;omega)]
   have v8:w9 K8 4=some (3,B1):=Qk h4 h3;have:=ad3 (e:=5) (afc v8) h4 δ (Sy δ δ) δ (by rw[k8 5 δ,<-l5,me];rfl);rw[this];have e:qu B1 2147483648#64=5#64:=by unfold qu;rw[OL];rfl
   rw[e];rfl
  simp only[qJ,KI,rLq,oY,Vj,kX,jV]at r1 f1;simp only[go_sem,seval,n1,l5,r1,f1,r2]
 .simp at h
section
variable {H:AH}
noncomputable def xV(id off v N:Nat)(a b:BitVec 64)(c s:Int):AV:=if c=0 then(if fY N a s=true then .t [.c (.sl id (off+bp a) v s.toNat),.c .aA,.c (.b true)]else .t [.c .aA,.c .aA,.c (.b false)])else if fY N a c=true/\fY N b (s-c)=true then .t [.c (.sl id (off+bp a) v c.toNat),.c (.sl id (off+bp b) v (s-c).toNat),.c (.b true)]else .t [.c .aA,.c .aA,.c (.b false)]
noncomputable def Iu(args:List AV)(H:AH):Option AV:=match args with
 |[.c (.p p 0 0),.g (.i _::.u a::.u b::.i c::.i s::r)]=>match nY H p with
   |some (.sl id off v N,B)=>if 0<B.length/\B.length<=262144/\0<=c/\c<s/\s<=8/\r.length=14/\r.all Sc.one=true then some (xV id off v B.length a b c s)else none|_=>none
 |_=>none
theorem VP{p id off v N:Nat}{B:List Int}{k c s:Int}{a b:BitVec 64}{r:List Sc}(h:nY H p=some (.sl id off v N,B))(h0:0<B.length)(h1:B.length<=262144)(c0:0<=c)(cs:c<s)(s8:s<=8)(h2:r.length=14)(h3:r.all Sc.one=true):Iu [.c (.p p 0 0),.g (.i k::.u a::.u b::.i c::.i s::r)] H=some (xV id off v B.length a b c s):=by simp only[Iu,h];rw[if_pos ⟨h0,h1,c0,cs,s8,h2,h3⟩]
theorem Uy:aZ Tryz.prog 30 (λargs H=>(Iu args H).map λv=>(v,H)):=by
 refine iR (s:=Iu) (tq Uz tn) Tryz.func30 rfl Tryz.results30 Tryz.ntmps30 ?_;intro args H v h bM hH;unfold Iu at h;split at h<;>try(simp at h;done)
 rename_i p k a b c s r;split at h<;>try(simp at h;done)
 rename_i id off v N B hx;split at h<;>try(simp at h;done)
 rename_i hc;obtain⟨b0,hB,c0,cs,s8,lr,ro⟩:=hc;simp only[ar]at h;subst h;obtain⟨c1,c2,c3,c4,r',ho,mN⟩:=Mt hx;have aD:=RO mN b0;have YA:AV.aj H.length (xV id off v N a b c s)=true:=by
  unfold xV;repeat' split
  all_goals simp[AV.aj,Sc.aj,aD]
 obtain⟨_,rfl,_,_⟩:=EE mN;refine⟨by simp,YA,?_⟩;clear YA;have rt:r.take 14=r:=bR ω;have hX:∀X,hg (H++X) p=.own (.i c1::.i c2::.i c3::.i c4::.sl id off v B.length::r'):=λX=>by rw[cL (dU (by rw[ho];rfl)),ho]
 have sp:=λX(a:BitVec 64)(n:Int)(hn:n<=8)=>VQ (H:=H++X) (p:=p) (x:=.sl id off v B.length) (B:=B) (a:=a) (n:=n) (Gk hx b0 X) hB ω;have ct:∀(a:BitVec 64)(m:Nat),fY B.length a m=true->m<=8->az ((bp a:Int)+(m:Int))=((bp a+m:Nat):Int)/\(0:Int)<=(bp a:Int)/\(bp a:Int)<((bp a+m:Nat):Int)/\((bp a+m:Nat):Int)<=(B.length:Int)/\bp a+m-bp a=m:=λa m hh hm=>by
  rw[kJ]at hh;refine⟨by rw[aq ω ω];omega,ω,ω,ω,s9 ..⟩
 have q3:∀x:Int,x<=x:=λx=>zO x;obtain⟨n,rfl⟩:∃n:Nat,s=(n:Int):=⟨s.toNat,ω⟩;by_cases z:c=0
 .subst z;have sa:=λX=>sp X a n s8;unfold xV;rw[if_pos rfl];by_cases hh:fY B.length a n=true
  .rw[if_pos hh];simp only[hh,if_true]at sa;obtain⟨e1,e2,e3,e4,e5⟩:=ct a n hh ω;simp only[go_sem,seval,lr,ro,rt,sa,hX,e1,e2,e3,e4,e5,q3,aO];exact aB _ _
  .rw[if_neg hh];simp only[if_neg hh]at sa;simp only[go_sem,seval,lr,ro,rt,sa,hX];exact aB _ _
 .obtain⟨m,rfl⟩:∃m:Nat,c=(m:Int):=⟨c.toNat,ω⟩;have m0:(0:Int)<(m:Int):=ω
  have sa:=λX=>sp X a m ω;have sb:=λX=>sp X b ((n-m:Nat):Int) ω;have em:az ((n:Int)-(m:Int))=((n-m:Nat):Int):=by rw[aq ω ω];omega
  have em2:((n:Int)-(m:Int))=((n-m:Nat):Int):=ω
  unfold xV;rw[if_neg z,em2];by_cases hh:fY B.length a m=true
  .simp only[hh,if_true]at sa;obtain⟨e1,e2,e3,e4,e5⟩:=ct a m hh ω;by_cases h2:fY B.length b ((n-m:Nat):Int)=true
   .rw[if_pos ⟨hh,h2⟩];simp only[h2,if_true]at sb;obtain⟨g1,g2,g3,g4,g5⟩:=ct b (n-m) h2 ω;simp only[go_sem,seval,lr,ro,rt,sa,sb,hX,m0,z,em,e1,e2,e3,e4,e5,g1,g2,g3,g4,g5,q3,aO];exact aB _ _
   .rw[if_neg (λc=>h2 c.2)];simp only[if_neg h2]at sb;simp only[go_sem,seval,lr,ro,rt,sa,sb,hX,m0,z,em,e1,e2,e3,e4,e5,q3,aO];exact aB _ _
  .rw[if_neg (λc=>hh c.1)];simp only[if_neg hh]at sa;simp only[go_sem,seval,lr,ro,rt,sa,hX,m0,z];exact aB _ _
end
end
end Go.Proofs.YtghlfboliomhcaaGreat
