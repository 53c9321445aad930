/- Texts on which the proof of this claim stands: Fl8, Fl9, K37, Fl10, Fl11, FlH. -/
import Derived.Test.YtfgdepggdiibdaaGreatDoorP6
import Derived.Test.YtfgdepggdiibdaaGreatDoorP2
import Derived.Test.YtfgdepggdiibdaaGreatDoorP1
import Derived.Test.YtfgdepggdiibdaaGreatDoorP4
import Derived.Test.YtfgdepggdiibdaaGreatDoorP3
set_option linter.unusedVariables false
set_option maxRecDepth 100000
set_option maxHeartbeats 8000000
namespace Go.Proofs.YtfgdepggdiibdaaGreatDoor
open List (replicate)
section
open K
theorem fPut (z:BM) (v:BV) (T:Tb) (nm da:ByteArray) (w:World) (hA:Has w (batO z v T)) (hd:((batO z v T).map (·.1)).Nodup) (hb:BOk v T) (hn:nm.size≤72) (hda:da.size≤32768) :
  Calls Tryz.prog 76 #[.pointer (some ⟨z.bb,0,none⟩),.string nm,.string da] w fun e w'=>∃v2:BV,(BOk v2 (putF T (dmF v.Dt) nm da).2.1∧dmF v2.Dt=(putF T (dmF v.Dt) nm da).2.2)∧e=.returned (.int .i64 (putF T (dmF v.Dt) nm da).1)∧∃R1,HP w ((batO z v T).map (·.1)) R1 (batO z v2 (putF T (dmF v.Dt) nm da).2.1) w':=by
 have hf9:=hb.tb.f
 have hl9:=hb.tb.l
 have hsd:secs da.size≤64:=by unfold secs;omega
 refine enter ((batO z v T).map (·.1)) [] ([cl z.bb #[pT z.tb,.map (some z.db)] 96,(z.db,.map v.y.1 v.y.2),cl z.tb (tbC T.ps z.nr z.rm) 88,(z.nr,.map v.x.1 v.x.2)]++(spO z.rm 121 v.o T.fr++(dsO v.Ds++[]))) Tryz.func76 rfl kr (by rw[zm];exact HP.ofL hA hd (R:=[]) (fun e he=>by cases he) (fun e he=>by cases he)) ?_
 refine Rq [0,1,2] ?_
 refine Bp 8 [dZ,dZ,dZ,(dS (pT z.tb)),dZ,dZ,(dS (.map (some z.nr)))] (some [0,1,2,20,21]) (fun S=>[(∀w1,S w1→w1.cell? ⟨z.bb,0,none⟩=some (pT z.tb)),(∀w1,S w1→w1.cell? ⟨z.tb,432,none⟩=some (.map (some z.nr)))]) ⟨(oC 0 rfl rfl),(fun w1 h=>h.ocell 2 rfl (tb_names hb.tb.l)),trivial⟩ ?_
 refine Lu (Eff.sGet (z:=.int .i64 0) (r:=z.nr) (k:=nm) (es:=v.x.1) (ck:=v.x.2) (W:=T.W) rfl Tryz.underlying81 Tryz.underlying9 kr kr kr hb.sm (fun w1 h=>(h.own (z.nr,Obj.map v.x.1 v.x.2) (show(z.nr,Obj.map v.x.1 v.x.2)∈([cl z.bb #[pT z.tb,.map (some z.db)] 96,(z.db,Obj.map v.y.1 v.y.2),cl z.tb (tbC T.ps z.nr z.rm) 88,(z.nr,Obj.map v.x.1 v.x.2)]++(spO z.rm 121 v.o T.fr++(dsO v.Ds++[]))) from(mL (mG 3 rfl)))))) ?_
 refine Ld 5 [0,1,2,7,8] ?_
 refine Rq [0,1,2,7,25] ?_
 refine zX rfl (b:=(smget T.W nm).isSome) kr (fun c1r=>?_) (fun c1r=>?_)
 ·have c1:((smget T.W nm).isSome=true):=c1r
  obtain⟨k,hk,hsk⟩:=hb.w.at (s:=nm) c1
  have hpk:PlOk (T.ps.getD k plz):=hb.tb.o _ (K.getD_mem (by rw[hb.tb.l];exact hk))
  refine zN 7 (show(smget T.W nm).getD (.int .i64 0)=iN k from by rw[hsk];rfl) ?_
  refine yo rfl kr ([cl z.bb #[pT z.tb,.map (some z.db)] 96,(z.db,.map v.y.1 v.y.2),cl z.tb (tbC T.ps z.nr z.rm) 88,(z.nr,.map v.x.1 v.x.2)]++(dsO v.Ds++[])) ?_
  refine Ap (List.range 16) [dZ,dZ,dZ,(dS (pT z.tb)),dZ,dZ,(dS (pT z.rm)),dZ,dZ,dZ,(dS (pT z.tb)),dZ,dZ,dZ,dZ,(dS (.agg (plc (T.ps.getD k plz)).toArray))] (some [0,1,2,7,32,41]) (tF 16 2) (cO (cO (cO (cO (show List.Sublist (dsO v.Ds++[]) (spO z.rm 121 v.o T.fr++(dsO v.Ds++[])) from(zE (List.Sublist.append (zQ (dsO v.Ds)) nL) (zj (spO z.rm 121 v.o T.fr) _))))))) 2 (fun S=>[(∀w1,S w1→w1.cell? ⟨z.bb,0,none⟩=some (pT z.tb)),(∀w1,S w1→w1.cell? ⟨z.tb,433,none⟩=some (pT z.rm)),(∀w1,S w1→w1.cell? ⟨z.bb,0,none⟩=some (pT z.tb)),(iL (k:Int) 144),(lV S 85 z.tb (k*3) (.agg (plc (T.ps.getD k plz)).toArray))]) ⟨(oC 0 rfl rfl),(fun w1 h=>h.ocell 2 rfl (tb_room hb.tb.l)),(oC 0 rfl rfl),om,(fun w1 h=>yw (vs:=plc (T.ps.getD k plz)) Tryz.underlying85 rfl kr (plc_len _) (fun q9 v hq9=>h.ocell 2 rfl (tb_cell (by rw[hb.tb.l];exact hk) hq9))),trivial⟩ ?_
  refine Ae 16 rfl 1  (zY (fun rb:Nat=>.slice (rA (T.ps.getD k plz) rb) ((yQ (T.ps.getD k plz)).length) ((yQ (T.ps.getD k plz)).length)) [] (fun rb=>rnO (T.ps.getD k plz) rb) (fun _=>True) [cl z.bb #[pT z.tb,.map (some z.db)] 96,(z.db,.map v.y.1 v.y.2),cl z.tb (tbC T.ps z.nr z.rm) 88,(z.nr,.map v.x.1 v.x.2)] (spO z.rm 121 v.o T.fr++(dsO v.Ds++[])) rfl rfl Tryz.func44 rfl rfl kr (fun w1 h _ _=>fRunU (T.ps.getD k plz) w1 hpk)) (by rintro rb -;exact(cO (cO (cO (cO (show List.Sublist (dsO v.Ds++[]) (rnO (T.ps.getD k plz) rb++(spO z.rm 121 v.o T.fr++(dsO v.Ds++[]))) from(zE (zE (List.Sublist.append (zQ (dsO v.Ds)) nL) (zj (spO z.rm 121 v.o T.fr) _)) (zj (rnO (T.ps.getD k plz) rb) _)))))))) ?_
  rintro rb -
  refine Ae 17 rfl 0  (zY (fun _:K.Own=>.int .i64 ((ql 121 T.fr.length true (yQ (T.ps.getD k plz)) T.fr).1:Int)) (spO z.rm 121 v.o T.fr) (fun o=>spO z.rm 121 o (yS 121 true (yQ (T.ps.getD k plz)) T.fr)) (fun o=>Good o (yS 121 true (yQ (T.ps.getD k plz)) T.fr)) ([cl z.bb #[pT z.tb,.map (some z.db)] 96,(z.db,.map v.y.1 v.y.2),cl z.tb (tbC T.ps z.nr z.rm) 88,(z.nr,.map v.x.1 v.x.2)]++(rnO (T.ps.getD k plz) rb)) (dsO v.Ds++[]) rfl rfl Tryz.func77 rfl rfl kr (fun w1 h hA1 hd1=>giveP hpk rb z.rm v.o T.fr w1 hb.tb.f hb.g hA1 hd1 (HP.giv (F:=[cl z.bb #[pT z.tb,.map (some z.db)] 96,(z.db,.map v.y.1 v.y.2),cl z.tb (tbC T.ps z.nr z.rm) 88,(z.nr,.map v.x.1 v.x.2)]) (Rn:=rnO (T.ps.getD k plz) rb) (Sp:=spO z.rm 121 v.o T.fr) (Tl:=(dsO v.Ds++[])) h).1 (HP.giv (F:=[cl z.bb #[pT z.tb,.map (some z.db)] 96,(z.db,.map v.y.1 v.y.2),cl z.tb (tbC T.ps z.nr z.rm) 88,(z.nr,.map v.x.1 v.x.2)]) (Rn:=rnO (T.ps.getD k plz) rb) (Sp:=spO z.rm 121 v.o T.fr) (Tl:=(dsO v.Ds++[])) h).2)) (by rintro o1 hg1;exact(cO (cO (cO (cO (show List.Sublist (dsO v.Ds++[]) (rnO (T.ps.getD k plz) rb++(spO z.rm 121 o1 (yS 121 true (yQ (T.ps.getD k plz)) T.fr)++(dsO v.Ds++[]))) from(zE (zE (List.Sublist.append (zQ (dsO v.Ds)) nL) (zj (spO z.rm 121 o1 (yS 121 true (yQ (T.ps.getD k plz)) T.fr)) _)) (zj (rnO (T.ps.getD k plz) rb) _)))))))) ?_
  rintro o1 hg1
  refine z6 kr ?_
  refine Cg (Γ':=[(7,[],iN k),(0,[],pT z.bb),(1,[],.string nm),(2,[],.string da)]) ?_
  obtain⟨fr1,hf1⟩:∃f,f=(yS 121 true (yQ (T.ps.getD k plz)) T.fr):=⟨_,rfl⟩
  have hl1:fr1.length=T.fr.length:=by rw[hf1];exact turnR_len _ _ _ _
  have hgd1:Good o1 fr1:=by rw[hf1];exact hg1
  have hput:putF T (dmF v.Dt) nm da=putG T (dmF v.Dt) nm da k fr1:=by rw[hf1];exact putF_there hsk
  refine zU (congrArg (fun(xq:List Bool)=>(([(z.bb,.cells #[.pointer (some ⟨z.tb,0,none⟩),.map (some z.db)] 96 (0,0)),(z.db,.map v.y.1 v.y.2),(z.tb,.cells (tbC T.ps z.nr z.rm) 88 (0,0)),(z.nr,.map v.x.1 v.x.2)]++(rnO (T.ps.getD k plz) rb++(spO z.rm 121 o1 xq++(dsO v.Ds++[])))):LO)) (show _=fr1 from by rw[hf1])) ?_
  refine Bp 4 [dZ,dZ,dZ,(dS (.agg (plc ⟨nm,0,da.size⟩).toArray))] (some [0,1,2,7,57]) (fun S=>[(∀w1,S w1→(Instr.build 85 #[(0,.string nm),(2,iN da.size)]).run Tryz.prog w1=.ok (.agg (plc ⟨nm,0,da.size⟩).toArray) w1)]) ⟨(fun _ _=>kr),trivial⟩ ?_
  refine Le (zM (z:=(.agg (plc plz).toArray)) rfl kr) ?_
  rintro pb ⟨hpb,npb⟩
  refine Lu (zC (b:=pb) (off:=0) (vs:=(plc ⟨nm,0,da.size⟩).toArray) (n:=3) rfl kr kr kr rfl (all_plc _) 0 (cs:=(plc plz).toArray) (e:=85) kr (zD 3)) ?_
  refine yF (congrArg (fun(xq:Array Value)=>(([cl pb xq 85,cl z.bb #[pT z.tb,.map (some z.db)] 96,(z.db,.map v.y.1 v.y.2),cl z.tb (tbC T.ps z.nr z.rm) 88,(z.nr,.map v.x.1 v.x.2)]++(rnO (T.ps.getD k plz) rb++(spO z.rm 121 o1 fr1++(dsO v.Ds++[])))):LO)) (show _=((plc ⟨nm,0,da.size⟩).toArray) from(show spl (plc plz).toArray 0 (plc ⟨nm,0,da.size⟩).toArray.toList=_ from yx rfl))) ?_
  refine zg rfl ?_
  refine Cg (Γ':=[(9,[],pT pb),(7,[],iN k),(0,[],pT z.bb),(1,[],.string nm),(2,[],.string da)]) ?_
  refine Rg [0,1,2,7,9,10] [] (fun _=>[(i6 ((da.size:Int)+512)),(i6 (((da.size:Int)+512)-1)),(0≤(((da.size:Int)+512)-1)∧(((da.size:Int)+512)-1)≤9223372036854775807∧0<(512:Int))]) ⟨om,om,om,trivial⟩ ?_
  refine sI 10 (show((((da.size:Int)+512)-1) / 512)=((secs da.size):Int)from by unfold secs;omega) ?_
  refine Rq [0,1,2,7,9,10,64] ?_
  refine eC rfl (p:=(((secs da.size):Int)>(0:Int))) kr (fun c2=>?_) (fun c2=>?_)
  ·refine Bp 8 [dZ,dZ,dZ,(dS (pT z.tb)),dZ,dZ,(dS (pT z.rm))] (some [0,1,2,7,9,72,73]) (fun S=>[(∀w1,S w1→w1.cell? ⟨z.bb,0,none⟩=some (pT z.tb)),(∀w1,S w1→w1.cell? ⟨z.tb,433,none⟩=some (pT z.rm))]) ⟨(oC 1 rfl rfl),(fun w1 h=>h.ocell 3 rfl (tb_room hb.tb.l)),trivial⟩ ?_
   refine Le (zY (fun _:K.Own=>.tuple #[.int .i64 ((yr 121 fr1 (secs da.size:Int)).1),.int .i64 ((yr 121 fr1 (secs da.size:Int)).2.1:Int)]) (spO z.rm 121 o1 fr1) (fun o=>spO z.rm 121 o (yr 121 fr1 (secs da.size:Int)).2.2) (fun o=>Good o (yr 121 fr1 (secs da.size:Int)).2.2) ([cl pb ((plc ⟨nm,0,da.size⟩).toArray) 85,cl z.bb #[pT z.tb,.map (some z.db)] 96,(z.db,.map v.y.1 v.y.2),cl z.tb (tbC T.ps z.nr z.rm) 88,(z.nr,.map v.x.1 v.x.2)]++(rnO (T.ps.getD k plz) rb)) (dsO v.Ds++[]) rfl rfl Tryz.func97 rfl rfl kr (fun w1 h hA1 hd1=>takeU z.rm 121 o1 fr1 (secs da.size:Int) w1 om om hgd1 (by unfold I64;omega) hA1 hd1)) ?_
   rintro o2 hg2
   refine Ld 5 [0,1,2,7,9,11,12] ?_
   refine Rq [0,1,2,7,9,11,12,78] ?_
   refine zX rfl (b:=(((yr 121 fr1 (secs da.size:Int)).2.1:Int) != (0:Int))) kr (fun c3r=>?_) (fun c3r=>?_)
   ·have c3:=(bne_iff_ne.1 c3r)
    refine Rq [6] ?_
    refine Rt [.int .i64 ((yr 121 fr1 (secs da.size:Int)).2.1:Int)] (fun w1 hp=>?_)
    have hfin:putF T (dmF v.Dt) nm da=(((yr 121 fr1 (secs da.size:Int)).2.1:Int),⟨T.ps,T.W,(yr 121 fr1 (secs da.size:Int)).2.2⟩,dmF v.Dt):=hput.trans ((if_neg om).trans (if_pos om))
    rw[hfin]
    have h9:HP w ((batO z v T).map (·.1)) [] ([(z.bb,Obj.cells #[.pointer (some ⟨z.tb,0,none⟩),.map (some z.db)] 96 (0,0)),(z.db,Obj.map v.y.1 v.y.2),(z.tb,Obj.cells (tbC T.ps z.nr z.rm) 88 (0,0)),(z.nr,Obj.map v.x.1 v.x.2)]++(spO z.rm 121 o2 ((yr 121 fr1 (secs da.size:Int)).2.2)++(dsO v.Ds++[]))) w1:=hp.sub (.cons _ (.cons_cons _ (.cons_cons _ (.cons_cons _ (.cons_cons _ (show List.Sublist (spO z.rm 121 o2 ((yr 121 fr1 (secs da.size:Int)).2.2)++(dsO v.Ds++[])) (rnO (T.ps.getD k plz) rb++(spO z.rm 121 o2 ((yr 121 fr1 (secs da.size:Int)).2.2)++(dsO v.Ds++[]))) from(zE (List.Sublist.append (zQ (spO z.rm 121 o2 ((yr 121 fr1 (secs da.size:Int)).2.2))) (List.Sublist.append (zQ (dsO v.Ds)) (zz _))) (zj (rnO (T.ps.getD k plz) rb) _))))))))
    rw[zm]at h9
    exact⟨⟨o2,v.x,v.y,v.Dt,v.Ds⟩,⟨⟨⟨hb.tb.l,hb.tb.o,by show(yr 121 fr1 (secs da.size:Int)).2.2.length≤4096;rw[takeF_len];omega⟩,hb.w,hg2,hb.sm,hb.m,hb.d⟩,rfl⟩,rfl,_,h9⟩
   have c3:=(bne_eq_false_iff_eq.1 c3r)
   have htk:=takeF_at (f:=121) (fr:=fr1) (n:=(secs da.size:Int)) om
   obtain⟨a1,ha1⟩:=Int.eq_ofNat_of_zero_le (show 0≤(yr 121 fr1 (secs da.size:Int)).1 by omega)
   refine sI 11 (show((yr 121 fr1 (secs da.size:Int)).1)=(a1:Int)from ha1) ?_
   refine Bq 2 [0,1,2,7,9,80,81] ?_
   refine Lu (zS (b:=pb) (off:=1) (v:=iN a1) rfl kr kr rfl kr 0 (cs:=(plc ⟨nm,0,da.size⟩).toArray) (e:=85) kr (by show 1<3;decide)) ?_
   refine zg rfl ?_
   refine Cg (Γ':=[(9,[],pT pb),(7,[],iN k),(0,[],pT z.bb),(1,[],.string nm),(2,[],.string da)]) ?_
   obtain⟨P,hP⟩:∃P:Pl,P=⟨nm,a1,da.size⟩:=⟨_,rfl⟩
   have hPo:PlOk P:=by rw[hP];exact⟨hn,by show a1<4294967296;omega,hda⟩
   refine zU (congrArg (fun(xq:Array Value)=>(([(pb,.cells xq 85 (0,0)),(z.bb,.cells #[.pointer (some ⟨z.tb,0,none⟩),.map (some z.db)] 96 (0,0)),(z.db,.map v.y.1 v.y.2),(z.tb,.cells (tbC T.ps z.nr z.rm) 88 (0,0)),(z.nr,.map v.x.1 v.x.2)]++(rnO (T.ps.getD k plz) rb++(spO z.rm 121 o2 ((yr 121 fr1 (secs da.size:Int)).2.2)++(dsO v.Ds++[])))):LO)) (show _=((plc P).toArray)from by rw[hP] <;> rfl)) ?_
   refine yo rfl kr ([cl pb ((plc P).toArray) 85,cl z.bb #[pT z.tb,.map (some z.db)] 96,(z.db,.map v.y.1 v.y.2),(z.nr,.map v.x.1 v.x.2)]++(rnO (T.ps.getD k plz) rb++(spO z.rm 121 o2 ((yr 121 fr1 (secs da.size:Int)).2.2)++(dsO v.Ds++[])))) ?_
   refine Ap (List.range 9) [dZ,dZ,dZ,(dS (pT z.tb)),dZ,(dS (.agg (plc P).toArray))] (some [0,1,2,7,87,90]) (tF 9 1) (cO (cO (cO (.cons _ slr)))) 1 (fun S=>[(∀w1,S w1→w1.cell? ⟨z.bb,0,none⟩=some (pT z.tb)),(lV S 85 pb 0 (.agg (plc P).toArray)),(iL (k:Int) 144)]) ⟨(oC 1 rfl rfl),(fun w1 h=>yw (vs:=plc P) Tryz.underlying85 rfl kr (plc_len _) (fun q9 v hq9=>h.ocell 0 rfl (by rw[zo,zF];exact hq9))),om,trivial⟩ ?_
   refine Au 9 rfl 0  (zC (b:=z.tb) (off:=(k*3)) (vs:=(plc P).toArray) (n:=3) rfl kr kr kr rfl (all_plc _) 3 (cs:=(tbC T.ps z.nr z.rm)) (e:=88) kr (by unfold tbC;rw[zp,zh,plf_len];simp only[List.length_cons,List.length_nil];omega)) (fun _ _=>(cO (cO (cO (.cons _ slr))))) ?_
   refine CfgA.setO (congrArg (fun(xq:Array Value)=>(([cl pb ((plc P).toArray) 85,cl z.bb #[pT z.tb,.map (some z.db)] 96,(z.db,.map v.y.1 v.y.2),cl z.tb xq 88,(z.nr,.map v.x.1 v.x.2)]++(rnO (T.ps.getD k plz) rb++(spO z.rm 121 o2 ((yr 121 fr1 (secs da.size:Int)).2.2)++(dsO v.Ds++[])))):LO)) (show _=(tbC (T.ps.set k P) z.nr z.rm)from tb_set2 (by rw[hb.tb.l];exact hk) rfl)) ?_
   refine z6 kr ?_
   refine Cg (Γ':=[(7,[],iN k),(0,[],pT z.bb),(1,[],.string nm),(2,[],.string da)]) ?_
   refine Bp 9 [dZ,dZ,dZ,(dS (.pointer (some ⟨z.tb,0,none⟩))),dZ,dZ,(dS (.map (some z.nr)))] (some [0,2,7,97,98,99]) (fun S=>[(∀w1,S w1→w1.cell? ⟨z.bb,0,none⟩=some (.pointer (some ⟨z.tb,0,none⟩))),(∀w1,S w1→w1.cell? ⟨z.tb,432,none⟩=some (.map (some z.nr)))]) ⟨(oC 1 rfl rfl),(fun w1 h=>h.ocell 3 rfl (tb_names (show(T.ps.set k P).length=144 by rw[yc];exact hb.tb.l))),trivial⟩ ?_
   refine Le (Eff.sSet (r:=z.nr) (k:=nm) (u:=iN k) (es:=v.x.1) (ck:=v.x.2) rfl Tryz.underlying81 Tryz.underlying9 kr kr kr hb.sm 4 kr) ?_
   rintro x2 hx2
   refine zg rfl ?_
   refine Cg (Γ':=[(7,[],iN k),(0,[],pT z.bb),(2,[],.string da)]) ?_
   refine Bp 6 [dZ,dZ,dZ,(dS (.map (some z.db)))] (some [103,104,105]) (fun S=>[(∀w1,S w1→w1.cell? ⟨z.bb,1,none⟩=some (.map (some z.db)))]) ⟨(oC 1 rfl rfl),trivial⟩ ?_
   refine Le (Eff.toBytes rfl Tryz.underlying9 Tryz.underlying111 Tryz.underlying5 (t:=da) kr [cl pb ((plc P).toArray) 85,cl z.bb #[pT z.tb,.map (some z.db)] 96,(z.db,.map v.y.1 v.y.2),cl z.tb (tbC (T.ps.set k P) z.nr z.rm) 88,(z.nr,.map x2.1 x2.2)] (rnO (T.ps.getD k plz) rb++(spO z.rm 121 o2 ((yr 121 fr1 (secs da.size:Int)).2.2)++(dsO v.Ds++[]))) rfl) ?_
   rintro d1 hd1
   refine Le (Eff.mapSet (r:=z.db) (k:=(k:Int)) (u:=dval (d1,da)) (es:=v.y.1) (ck:=v.y.2) rfl Tryz.underlying94 Tryz.underlying3 kr kr kr hb.m 2 kr) ?_
   rintro y2 hy2
   refine zg rfl ?_
   refine Cg (Γ':=[]) ?_
   refine Rq [6] ?_
   refine Rt [.int .i64 0] (fun w1 hp=>?_)
   have hfin:putF T (dmF v.Dt) nm da=(0,⟨T.ps.set k P,smset T.W nm (.int .i64 (k:Int)),(yr 121 fr1 (secs da.size:Int)).2.2⟩,gset (dmF v.Dt) (k:Int) da):=by
    rw[show P=⟨nm,(yr 121 fr1 (secs da.size:Int)).1.toNat,da.size⟩ by rw[hP];simp only[ha1,Int.toNat_natCast]]
    exact hput.trans ((if_neg om).trans (if_neg om))
   rw[hfin]
   have hy3:MapOk y2.1 y2.2 (dv (gset v.Dt (k:Int) (d1,da))):=by
    have h8:=hy2
    rw[mset_g]at h8
    unfold dv
    rw[←gset_map]
    exact h8
   have h8:HP w ((batO z v T).map (·.1)) [] ([(z.bb,Obj.cells #[.pointer (some ⟨z.tb,0,none⟩),.map (some z.db)] 96 (0,0)),(z.db,Obj.map y2.1 y2.2),(z.tb,Obj.cells (tbC (T.ps.set k P) z.nr z.rm) 88 (0,0)),(z.nr,Obj.map x2.1 x2.2)]++(MO.o 5 (bv da.data.toList).toList d1++(spO z.rm 121 o2 ((yr 121 fr1 (secs da.size:Int)).2.2)++(dsO v.Ds++[])))) w1:=hp.sub (.cons _ (.cons_cons _ (.cons_cons _ (.cons_cons _ (.cons_cons _ (show List.Sublist (MO.o 5 (bv da.data.toList).toList d1++(spO z.rm 121 o2 ((yr 121 fr1 (secs da.size:Int)).2.2)++(dsO v.Ds++[]))) (MO.o 5 (bv da.data.toList).toList d1++(rnO (T.ps.getD k plz) rb++(spO z.rm 121 o2 ((yr 121 fr1 (secs da.size:Int)).2.2)++(dsO v.Ds++[])))) from(List.Sublist.append (zQ (MO.o 5 (bv da.data.toList).toList d1)) (zE (List.Sublist.append (zQ (spO z.rm 121 o2 ((yr 121 fr1 (secs da.size:Int)).2.2))) (List.Sublist.append (zQ (dsO v.Ds)) (zz _))) (zj (rnO (T.ps.getD k plz) rb) _)))))))))
   have h9:=h8.perm (List.Perm.append_left [(z.bb,Obj.cells #[.pointer (some ⟨z.tb,0,none⟩),.map (some z.db)] 96 (0,0)),(z.db,Obj.map y2.1 y2.2),(z.tb,Obj.cells (tbC (T.ps.set k P) z.nr z.rm) 88 (0,0)),(z.nr,Obj.map x2.1 x2.2)] (yp (MO.o 5 (bv da.data.toList).toList d1) (spO z.rm 121 o2 ((yr 121 fr1 (secs da.size:Int)).2.2)) (dsO v.Ds++[])))
   rw[zm]at h9
   exact⟨⟨o2,x2,y2,gset v.Dt (k:Int) (d1,da),(d1,da)::v.Ds⟩,⟨⟨tb_in hb.tb hPo hk (W:=smset T.W nm (.int .i64 (k:Int))) (fr:=(yr 121 fr1 (secs da.size:Int)).2.2) (by rw[takeF_len];omega),hb.w.set nm hk,hg2,hx2,hy3,hb.d.put hk hd1 hda⟩,(gset_map (fun d:DE=>d.2) (k:Int) (d1,da) v.Dt).symm⟩,rfl,_,h9⟩
  obtain⟨P,hP⟩:∃P:Pl,P=⟨nm,0,da.size⟩:=⟨_,rfl⟩
  have hPo:PlOk P:=by rw[hP];exact⟨hn,by show 0<4294967296;omega,hda⟩
  refine zU (congrArg (fun(xq:Array Value)=>(([(pb,.cells xq 85 (0,0)),(z.bb,.cells #[.pointer (some ⟨z.tb,0,none⟩),.map (some z.db)] 96 (0,0)),(z.db,.map v.y.1 v.y.2),(z.tb,.cells (tbC T.ps z.nr z.rm) 88 (0,0)),(z.nr,.map v.x.1 v.x.2)]++(rnO (T.ps.getD k plz) rb++(spO z.rm 121 o1 fr1++(dsO v.Ds++[])))):LO)) (show _=((plc P).toArray)from by rw[hP] <;> rfl)) ?_
  refine yo rfl kr ([cl pb ((plc P).toArray) 85,cl z.bb #[pT z.tb,.map (some z.db)] 96,(z.db,.map v.y.1 v.y.2),(z.nr,.map v.x.1 v.x.2)]++(rnO (T.ps.getD k plz) rb++(spO z.rm 121 o1 fr1++(dsO v.Ds++[])))) ?_
  refine Ap (List.range 9) [dZ,dZ,dZ,(dS (pT z.tb)),dZ,(dS (.agg (plc P).toArray))] (some [0,1,2,7,87,90]) (tF 9 1) (cO (cO (cO (.cons _ slr)))) 1 (fun S=>[(∀w1,S w1→w1.cell? ⟨z.bb,0,none⟩=some (pT z.tb)),(lV S 85 pb 0 (.agg (plc P).toArray)),(iL (k:Int) 144)]) ⟨(oC 1 rfl rfl),(fun w1 h=>yw (vs:=plc P) Tryz.underlying85 rfl kr (plc_len _) (fun q9 v hq9=>h.ocell 0 rfl (by rw[zo,zF];exact hq9))),om,trivial⟩ ?_
  refine Au 9 rfl 0  (zC (b:=z.tb) (off:=(k*3)) (vs:=(plc P).toArray) (n:=3) rfl kr kr kr rfl (all_plc _) 3 (cs:=(tbC T.ps z.nr z.rm)) (e:=88) kr (by unfold tbC;rw[zp,zh,plf_len];simp only[List.length_cons,List.length_nil];omega)) (fun _ _=>(cO (cO (cO (.cons _ slr))))) ?_
  refine CfgA.setO (congrArg (fun(xq:Array Value)=>(([cl pb ((plc P).toArray) 85,cl z.bb #[pT z.tb,.map (some z.db)] 96,(z.db,.map v.y.1 v.y.2),cl z.tb xq 88,(z.nr,.map v.x.1 v.x.2)]++(rnO (T.ps.getD k plz) rb++(spO z.rm 121 o1 fr1++(dsO v.Ds++[])))):LO)) (show _=(tbC (T.ps.set k P) z.nr z.rm)from tb_set2 (by rw[hb.tb.l];exact hk) rfl)) ?_
  refine z6 kr ?_
  refine Cg (Γ':=[(7,[],iN k),(0,[],pT z.bb),(1,[],.string nm),(2,[],.string da)]) ?_
  refine Bp 9 [dZ,dZ,dZ,(dS (.pointer (some ⟨z.tb,0,none⟩))),dZ,dZ,(dS (.map (some z.nr)))] (some [0,2,7,97,98,99]) (fun S=>[(∀w1,S w1→w1.cell? ⟨z.bb,0,none⟩=some (.pointer (some ⟨z.tb,0,none⟩))),(∀w1,S w1→w1.cell? ⟨z.tb,432,none⟩=some (.map (some z.nr)))]) ⟨(oC 1 rfl rfl),(fun w1 h=>h.ocell 3 rfl (tb_names (show(T.ps.set k P).length=144 by rw[yc];exact hb.tb.l))),trivial⟩ ?_
  refine Le (Eff.sSet (r:=z.nr) (k:=nm) (u:=iN k) (es:=v.x.1) (ck:=v.x.2) rfl Tryz.underlying81 Tryz.underlying9 kr kr kr hb.sm 4 kr) ?_
  rintro x2 hx2
  refine zg rfl ?_
  refine Cg (Γ':=[(7,[],iN k),(0,[],pT z.bb),(2,[],.string da)]) ?_
  refine Bp 6 [dZ,dZ,dZ,(dS (.map (some z.db)))] (some [103,104,105]) (fun S=>[(∀w1,S w1→w1.cell? ⟨z.bb,1,none⟩=some (.map (some z.db)))]) ⟨(oC 1 rfl rfl),trivial⟩ ?_
  refine Le (Eff.toBytes rfl Tryz.underlying9 Tryz.underlying111 Tryz.underlying5 (t:=da) kr [cl pb ((plc P).toArray) 85,cl z.bb #[pT z.tb,.map (some z.db)] 96,(z.db,.map v.y.1 v.y.2),cl z.tb (tbC (T.ps.set k P) z.nr z.rm) 88,(z.nr,.map x2.1 x2.2)] (rnO (T.ps.getD k plz) rb++(spO z.rm 121 o1 fr1++(dsO v.Ds++[]))) rfl) ?_
  rintro d1 hd1
  refine Le (Eff.mapSet (r:=z.db) (k:=(k:Int)) (u:=dval (d1,da)) (es:=v.y.1) (ck:=v.y.2) rfl Tryz.underlying94 Tryz.underlying3 kr kr kr hb.m 2 kr) ?_
  rintro y2 hy2
  refine zg rfl ?_
  refine Cg (Γ':=[]) ?_
  refine Rq [6] ?_
  refine Rt [.int .i64 0] (fun w1 hp=>?_)
  have hfin:putF T (dmF v.Dt) nm da=(0,⟨T.ps.set k P,smset T.W nm (.int .i64 (k:Int)),fr1⟩,gset (dmF v.Dt) (k:Int) da):=by
   rw[show P=⟨nm,0,da.size⟩ by rw[hP]]
   exact hput.trans (if_pos om)
  rw[hfin]
  have hy3:MapOk y2.1 y2.2 (dv (gset v.Dt (k:Int) (d1,da))):=by
   have h8:=hy2
   rw[mset_g]at h8
   unfold dv
   rw[←gset_map]
   exact h8
  have h8:HP w ((batO z v T).map (·.1)) [] ([(z.bb,Obj.cells #[.pointer (some ⟨z.tb,0,none⟩),.map (some z.db)] 96 (0,0)),(z.db,Obj.map y2.1 y2.2),(z.tb,Obj.cells (tbC (T.ps.set k P) z.nr z.rm) 88 (0,0)),(z.nr,Obj.map x2.1 x2.2)]++(MO.o 5 (bv da.data.toList).toList d1++(spO z.rm 121 o1 fr1++(dsO v.Ds++[])))) w1:=hp.sub (.cons _ (.cons_cons _ (.cons_cons _ (.cons_cons _ (.cons_cons _ (show List.Sublist (MO.o 5 (bv da.data.toList).toList d1++(spO z.rm 121 o1 fr1++(dsO v.Ds++[]))) (MO.o 5 (bv da.data.toList).toList d1++(rnO (T.ps.getD k plz) rb++(spO z.rm 121 o1 fr1++(dsO v.Ds++[])))) from(List.Sublist.append (zQ (MO.o 5 (bv da.data.toList).toList d1)) (zE (List.Sublist.append (zQ (spO z.rm 121 o1 fr1)) (List.Sublist.append (zQ (dsO v.Ds)) (zz _))) (zj (rnO (T.ps.getD k plz) rb) _)))))))))
  have h9:=h8.perm (List.Perm.append_left [(z.bb,Obj.cells #[.pointer (some ⟨z.tb,0,none⟩),.map (some z.db)] 96 (0,0)),(z.db,Obj.map y2.1 y2.2),(z.tb,Obj.cells (tbC (T.ps.set k P) z.nr z.rm) 88 (0,0)),(z.nr,Obj.map x2.1 x2.2)] (yp (MO.o 5 (bv da.data.toList).toList d1) (spO z.rm 121 o1 fr1) (dsO v.Ds++[])))
  rw[zm]at h9
  exact⟨⟨o1,x2,y2,gset v.Dt (k:Int) (d1,da),(d1,da)::v.Ds⟩,⟨⟨tb_in hb.tb hPo hk (W:=smset T.W nm (.int .i64 (k:Int))) (fr:=fr1) om,hb.w.set nm hk,hgd1,hx2,hy3,hb.d.put hk hd1 hda⟩,(gset_map (fun d:DE=>d.2) (k:Int) (d1,da) v.Dt).symm⟩,rfl,_,h9⟩
 have c1:((smget T.W nm).isSome=false):=c1r
 refine Bp 7 [dZ,dZ,dZ,(dS (pT z.tb))] (some [0,1,2,7,50]) (fun S=>[(∀w1,S w1→w1.cell? ⟨z.bb,0,none⟩=some (pT z.tb)),(144≤144)]) ⟨(oC 0 rfl rfl),om,trivial⟩ ?_
 refine Lu (zr (.int .i64 (pfx T.ps 0)) rfl Tryz.func118 rfl rfl kr (fun w1 h=>fIdx z.tb z.nr z.rm T.ps w1 (fun e he=>by rw[zi.1 he];exact(h.own (z.tb,Obj.cells (tbC T.ps z.nr z.rm) 88 (0,0)) (show(z.tb,Obj.cells (tbC T.ps z.nr z.rm) 88 (0,0))∈([(z.bb,Obj.cells #[.pointer (some ⟨z.tb,0,none⟩),.map (some z.db)] 96 (0,0)),(z.db,Obj.map v.y.1 v.y.2),(z.tb,Obj.cells (tbC T.ps z.nr z.rm) 88 (0,0)),(z.nr,Obj.map v.x.1 v.x.2)]++(spO z.rm 121 v.o T.fr++(dsO v.Ds++[]))) from(mL (mG 2 rfl))))) hb.tb.l)) ?_
 refine Ld 1 [0,1,2,7] ?_
 refine Rq [0,1,2,7,53] ?_
 refine eC rfl (p:=((pfx T.ps 0)<(0:Int))) kr (fun c4=>?_) (fun c4=>?_)
 ·refine Rq [6] ?_
  refine Rt [.int .i64 6] (fun w1 hp=>?_)
  rw[putF_many (Option.isNone_iff_eq_none.1 (by simpa using c1)) om]
  have h9:HP w ((batO z v T).map (·.1)) [] ([(z.bb,Obj.cells #[.pointer (some ⟨z.tb,0,none⟩),.map (some z.db)] 96 (0,0)),(z.db,Obj.map v.y.1 v.y.2),(z.tb,Obj.cells (tbC T.ps z.nr z.rm) 88 (0,0)),(z.nr,Obj.map v.x.1 v.x.2)]++(spO z.rm 121 v.o T.fr++(dsO v.Ds++[]))) w1:=hp.sub slr
  rw[zm]at h9
  exact⟨v,⟨hb,rfl⟩,rfl,_,h9⟩
 obtain⟨k,hk7,hk⟩:∃k:Nat,pfx T.ps 0=(k:Int)∧k<144:=by
  rcases pfx_lt T.ps 0 with h|⟨k,h1,h2⟩
  ·omega
  ·exact⟨k,h1,by omega⟩
 refine sI 7 (show(pfx T.ps 0)=(k:Int)from hk7) ?_
 obtain⟨fr1,hf1⟩:∃f,f=T.fr:=⟨_,rfl⟩
 have hl1:fr1.length=T.fr.length:=by rw[hf1]
 have hgd1:Good v.o fr1:=by rw[hf1];exact hb.g
 have hput:putF T (dmF v.Dt) nm da=putG T (dmF v.Dt) nm da k fr1:=by rw[hf1];exact putF_new (Option.isNone_iff_eq_none.1 (by simpa using c1)) hk7
 refine zU (congrArg (fun(xq:List Bool)=>(([(z.bb,.cells #[.pointer (some ⟨z.tb,0,none⟩),.map (some z.db)] 96 (0,0)),(z.db,.map v.y.1 v.y.2),(z.tb,.cells (tbC T.ps z.nr z.rm) 88 (0,0)),(z.nr,.map v.x.1 v.x.2)]++(spO z.rm 121 v.o xq++(dsO v.Ds++[]))):LO)) (show _=fr1 from by rw[hf1])) ?_
 refine Bp 4 [dZ,dZ,dZ,(dS (.agg (plc ⟨nm,0,da.size⟩).toArray))] (some [0,1,2,7,57]) (fun S=>[(∀w1,S w1→(Instr.build 85 #[(0,.string nm),(2,iN da.size)]).run Tryz.prog w1=.ok (.agg (plc ⟨nm,0,da.size⟩).toArray) w1)]) ⟨(fun _ _=>kr),trivial⟩ ?_
 refine Le (zM (z:=(.agg (plc plz).toArray)) rfl kr) ?_
 rintro pb ⟨hpb,npb⟩
 refine Lu (zC (b:=pb) (off:=0) (vs:=(plc ⟨nm,0,da.size⟩).toArray) (n:=3) rfl kr kr kr rfl (all_plc _) 0 (cs:=(plc plz).toArray) (e:=85) kr (zD 3)) ?_
 refine yF (congrArg (fun(xq:Array Value)=>(([cl pb xq 85,cl z.bb #[pT z.tb,.map (some z.db)] 96,(z.db,.map v.y.1 v.y.2),cl z.tb (tbC T.ps z.nr z.rm) 88,(z.nr,.map v.x.1 v.x.2)]++(spO z.rm 121 v.o fr1++(dsO v.Ds++[]))):LO)) (show _=((plc ⟨nm,0,da.size⟩).toArray) from(show spl (plc plz).toArray 0 (plc ⟨nm,0,da.size⟩).toArray.toList=_ from yx rfl))) ?_
 refine zg rfl ?_
 refine Cg (Γ':=[(9,[],pT pb),(7,[],iN k),(0,[],pT z.bb),(1,[],.string nm),(2,[],.string da)]) ?_
 refine Rg [0,1,2,7,9,10] [] (fun _=>[(i6 ((da.size:Int)+512)),(i6 (((da.size:Int)+512)-1)),(0≤(((da.size:Int)+512)-1)∧(((da.size:Int)+512)-1)≤9223372036854775807∧0<(512:Int))]) ⟨om,om,om,trivial⟩ ?_
 refine sI 10 (show((((da.size:Int)+512)-1) / 512)=((secs da.size):Int)from by unfold secs;omega) ?_
 refine Rq [0,1,2,7,9,10,64] ?_
 refine eC rfl (p:=(((secs da.size):Int)>(0:Int))) kr (fun c5=>?_) (fun c5=>?_)
 ·refine Bp 8 [dZ,dZ,dZ,(dS (pT z.tb)),dZ,dZ,(dS (pT z.rm))] (some [0,1,2,7,9,72,73]) (fun S=>[(∀w1,S w1→w1.cell? ⟨z.bb,0,none⟩=some (pT z.tb)),(∀w1,S w1→w1.cell? ⟨z.tb,433,none⟩=some (pT z.rm))]) ⟨(oC 1 rfl rfl),(fun w1 h=>h.ocell 3 rfl (tb_room hb.tb.l)),trivial⟩ ?_
  refine Le (zY (fun _:K.Own=>.tuple #[.int .i64 ((yr 121 fr1 (secs da.size:Int)).1),.int .i64 ((yr 121 fr1 (secs da.size:Int)).2.1:Int)]) (spO z.rm 121 v.o fr1) (fun o=>spO z.rm 121 o (yr 121 fr1 (secs da.size:Int)).2.2) (fun o=>Good o (yr 121 fr1 (secs da.size:Int)).2.2) [cl pb ((plc ⟨nm,0,da.size⟩).toArray) 85,cl z.bb #[pT z.tb,.map (some z.db)] 96,(z.db,.map v.y.1 v.y.2),cl z.tb (tbC T.ps z.nr z.rm) 88,(z.nr,.map v.x.1 v.x.2)] (dsO v.Ds++[]) rfl rfl Tryz.func97 rfl rfl kr (fun w1 h hA1 hd1=>takeU z.rm 121 v.o fr1 (secs da.size:Int) w1 om om hgd1 (by unfold I64;omega) hA1 hd1)) ?_
  rintro o2 hg2
  refine Ld 5 [0,1,2,7,9,11,12] ?_
  refine Rq [0,1,2,7,9,11,12,78] ?_
  refine zX rfl (b:=(((yr 121 fr1 (secs da.size:Int)).2.1:Int) != (0:Int))) kr (fun c6r=>?_) (fun c6r=>?_)
  ·have c6:=(bne_iff_ne.1 c6r)
   refine Rq [6] ?_
   refine Rt [.int .i64 ((yr 121 fr1 (secs da.size:Int)).2.1:Int)] (fun w1 hp=>?_)
   have hfin:putF T (dmF v.Dt) nm da=(((yr 121 fr1 (secs da.size:Int)).2.1:Int),⟨T.ps,T.W,(yr 121 fr1 (secs da.size:Int)).2.2⟩,dmF v.Dt):=hput.trans ((if_neg om).trans (if_pos om))
   rw[hfin]
   have h9:HP w ((batO z v T).map (·.1)) [] ([(z.bb,Obj.cells #[.pointer (some ⟨z.tb,0,none⟩),.map (some z.db)] 96 (0,0)),(z.db,Obj.map v.y.1 v.y.2),(z.tb,Obj.cells (tbC T.ps z.nr z.rm) 88 (0,0)),(z.nr,Obj.map v.x.1 v.x.2)]++(spO z.rm 121 o2 ((yr 121 fr1 (secs da.size:Int)).2.2)++(dsO v.Ds++[]))) w1:=hp.sub (.cons _ slr)
   rw[zm]at h9
   exact⟨⟨o2,v.x,v.y,v.Dt,v.Ds⟩,⟨⟨⟨hb.tb.l,hb.tb.o,by show(yr 121 fr1 (secs da.size:Int)).2.2.length≤4096;rw[takeF_len];omega⟩,hb.w,hg2,hb.sm,hb.m,hb.d⟩,rfl⟩,rfl,_,h9⟩
  have c6:=(bne_eq_false_iff_eq.1 c6r)
  have htk:=takeF_at (f:=121) (fr:=fr1) (n:=(secs da.size:Int)) om
  obtain⟨a1,ha1⟩:=Int.eq_ofNat_of_zero_le (show 0≤(yr 121 fr1 (secs da.size:Int)).1 by omega)
  refine sI 11 (show((yr 121 fr1 (secs da.size:Int)).1)=(a1:Int)from ha1) ?_
  refine Bq 2 [0,1,2,7,9,80,81] ?_
  refine Lu (zS (b:=pb) (off:=1) (v:=iN a1) rfl kr kr rfl kr 0 (cs:=(plc ⟨nm,0,da.size⟩).toArray) (e:=85) kr (by show 1<3;decide)) ?_
  refine zg rfl ?_
  refine Cg (Γ':=[(9,[],pT pb),(7,[],iN k),(0,[],pT z.bb),(1,[],.string nm),(2,[],.string da)]) ?_
  obtain⟨P,hP⟩:∃P:Pl,P=⟨nm,a1,da.size⟩:=⟨_,rfl⟩
  have hPo:PlOk P:=by rw[hP];exact⟨hn,by show a1<4294967296;omega,hda⟩
  refine zU (congrArg (fun(xq:Array Value)=>(([(pb,.cells xq 85 (0,0)),(z.bb,.cells #[.pointer (some ⟨z.tb,0,none⟩),.map (some z.db)] 96 (0,0)),(z.db,.map v.y.1 v.y.2),(z.tb,.cells (tbC T.ps z.nr z.rm) 88 (0,0)),(z.nr,.map v.x.1 v.x.2)]++(spO z.rm 121 o2 ((yr 121 fr1 (secs da.size:Int)).2.2)++(dsO v.Ds++[]))):LO)) (show _=((plc P).toArray)from by rw[hP] <;> rfl)) ?_
  refine yo rfl kr ([cl pb ((plc P).toArray) 85,cl z.bb #[pT z.tb,.map (some z.db)] 96,(z.db,.map v.y.1 v.y.2),(z.nr,.map v.x.1 v.x.2)]++(spO z.rm 121 o2 ((yr 121 fr1 (secs da.size:Int)).2.2)++(dsO v.Ds++[]))) ?_
  refine Ap (List.range 9) [dZ,dZ,dZ,(dS (pT z.tb)),dZ,(dS (.agg (plc P).toArray))] (some [0,1,2,7,87,90]) (tF 9 1) (cO (cO (cO (.cons _ slr)))) 1 (fun S=>[(∀w1,S w1→w1.cell? ⟨z.bb,0,none⟩=some (pT z.tb)),(lV S 85 pb 0 (.agg (plc P).toArray)),(iL (k:Int) 144)]) ⟨(oC 1 rfl rfl),(fun w1 h=>yw (vs:=plc P) Tryz.underlying85 rfl kr (plc_len _) (fun q9 v hq9=>h.ocell 0 rfl (by rw[zo,zF];exact hq9))),om,trivial⟩ ?_
  refine Au 9 rfl 0  (zC (b:=z.tb) (off:=(k*3)) (vs:=(plc P).toArray) (n:=3) rfl kr kr kr rfl (all_plc _) 3 (cs:=(tbC T.ps z.nr z.rm)) (e:=88) kr (by unfold tbC;rw[zp,zh,plf_len];simp only[List.length_cons,List.length_nil];omega)) (fun _ _=>(cO (cO (cO (.cons _ slr))))) ?_
  refine CfgA.setO (congrArg (fun(xq:Array Value)=>(([cl pb ((plc P).toArray) 85,cl z.bb #[pT z.tb,.map (some z.db)] 96,(z.db,.map v.y.1 v.y.2),cl z.tb xq 88,(z.nr,.map v.x.1 v.x.2)]++(spO z.rm 121 o2 ((yr 121 fr1 (secs da.size:Int)).2.2)++(dsO v.Ds++[]))):LO)) (show _=(tbC (T.ps.set k P) z.nr z.rm)from tb_set2 (by rw[hb.tb.l];exact hk) rfl)) ?_
  refine z6 kr ?_
  refine Cg (Γ':=[(7,[],iN k),(0,[],pT z.bb),(1,[],.string nm),(2,[],.string da)]) ?_
  refine Bp 9 [dZ,dZ,dZ,(dS (.pointer (some ⟨z.tb,0,none⟩))),dZ,dZ,(dS (.map (some z.nr)))] (some [0,2,7,97,98,99]) (fun S=>[(∀w1,S w1→w1.cell? ⟨z.bb,0,none⟩=some (.pointer (some ⟨z.tb,0,none⟩))),(∀w1,S w1→w1.cell? ⟨z.tb,432,none⟩=some (.map (some z.nr)))]) ⟨(oC 1 rfl rfl),(fun w1 h=>h.ocell 3 rfl (tb_names (show(T.ps.set k P).length=144 by rw[yc];exact hb.tb.l))),trivial⟩ ?_
  refine Le (Eff.sSet (r:=z.nr) (k:=nm) (u:=iN k) (es:=v.x.1) (ck:=v.x.2) rfl Tryz.underlying81 Tryz.underlying9 kr kr kr hb.sm 4 kr) ?_
  rintro x2 hx2
  refine zg rfl ?_
  refine Cg (Γ':=[(7,[],iN k),(0,[],pT z.bb),(2,[],.string da)]) ?_
  refine Bp 6 [dZ,dZ,dZ,(dS (.map (some z.db)))] (some [103,104,105]) (fun S=>[(∀w1,S w1→w1.cell? ⟨z.bb,1,none⟩=some (.map (some z.db)))]) ⟨(oC 1 rfl rfl),trivial⟩ ?_
  refine Le (Eff.toBytes rfl Tryz.underlying9 Tryz.underlying111 Tryz.underlying5 (t:=da) kr [cl pb ((plc P).toArray) 85,cl z.bb #[pT z.tb,.map (some z.db)] 96,(z.db,.map v.y.1 v.y.2),cl z.tb (tbC (T.ps.set k P) z.nr z.rm) 88,(z.nr,.map x2.1 x2.2)] (spO z.rm 121 o2 ((yr 121 fr1 (secs da.size:Int)).2.2)++(dsO v.Ds++[])) rfl) ?_
  rintro d1 hd1
  refine Le (Eff.mapSet (r:=z.db) (k:=(k:Int)) (u:=dval (d1,da)) (es:=v.y.1) (ck:=v.y.2) rfl Tryz.underlying94 Tryz.underlying3 kr kr kr hb.m 2 kr) ?_
  rintro y2 hy2
  refine zg rfl ?_
  refine Cg (Γ':=[]) ?_
  refine Rq [6] ?_
  refine Rt [.int .i64 0] (fun w1 hp=>?_)
  have hfin:putF T (dmF v.Dt) nm da=(0,⟨T.ps.set k P,smset T.W nm (.int .i64 (k:Int)),(yr 121 fr1 (secs da.size:Int)).2.2⟩,gset (dmF v.Dt) (k:Int) da):=by
   rw[show P=⟨nm,(yr 121 fr1 (secs da.size:Int)).1.toNat,da.size⟩ by rw[hP];simp only[ha1,Int.toNat_natCast]]
   exact hput.trans ((if_neg om).trans (if_neg om))
  rw[hfin]
  have hy3:MapOk y2.1 y2.2 (dv (gset v.Dt (k:Int) (d1,da))):=by
   have h8:=hy2
   rw[mset_g]at h8
   unfold dv
   rw[←gset_map]
   exact h8
  have h8:HP w ((batO z v T).map (·.1)) [] ([(z.bb,Obj.cells #[.pointer (some ⟨z.tb,0,none⟩),.map (some z.db)] 96 (0,0)),(z.db,Obj.map y2.1 y2.2),(z.tb,Obj.cells (tbC (T.ps.set k P) z.nr z.rm) 88 (0,0)),(z.nr,Obj.map x2.1 x2.2)]++(MO.o 5 (bv da.data.toList).toList d1++(spO z.rm 121 o2 ((yr 121 fr1 (secs da.size:Int)).2.2)++(dsO v.Ds++[])))) w1:=hp.sub (.cons _ slr)
  have h9:=h8.perm (List.Perm.append_left [(z.bb,Obj.cells #[.pointer (some ⟨z.tb,0,none⟩),.map (some z.db)] 96 (0,0)),(z.db,Obj.map y2.1 y2.2),(z.tb,Obj.cells (tbC (T.ps.set k P) z.nr z.rm) 88 (0,0)),(z.nr,Obj.map x2.1 x2.2)] (yp (MO.o 5 (bv da.data.toList).toList d1) (spO z.rm 121 o2 ((yr 121 fr1 (secs da.size:Int)).2.2)) (dsO v.Ds++[])))
  rw[zm]at h9
  exact⟨⟨o2,x2,y2,gset v.Dt (k:Int) (d1,da),(d1,da)::v.Ds⟩,⟨⟨tb_in hb.tb hPo hk (W:=smset T.W nm (.int .i64 (k:Int))) (fr:=(yr 121 fr1 (secs da.size:Int)).2.2) (by rw[takeF_len];omega),hb.w.set nm hk,hg2,hx2,hy3,hb.d.put hk hd1 hda⟩,(gset_map (fun d:DE=>d.2) (k:Int) (d1,da) v.Dt).symm⟩,rfl,_,h9⟩
 obtain⟨P,hP⟩:∃P:Pl,P=⟨nm,0,da.size⟩:=⟨_,rfl⟩
 have hPo:PlOk P:=by rw[hP];exact⟨hn,by show 0<4294967296;omega,hda⟩
 refine zU (congrArg (fun(xq:Array Value)=>(([(pb,.cells xq 85 (0,0)),(z.bb,.cells #[.pointer (some ⟨z.tb,0,none⟩),.map (some z.db)] 96 (0,0)),(z.db,.map v.y.1 v.y.2),(z.tb,.cells (tbC T.ps z.nr z.rm) 88 (0,0)),(z.nr,.map v.x.1 v.x.2)]++(spO z.rm 121 v.o fr1++(dsO v.Ds++[]))):LO)) (show _=((plc P).toArray)from by rw[hP] <;> rfl)) ?_
 refine yo rfl kr ([cl pb ((plc P).toArray) 85,cl z.bb #[pT z.tb,.map (some z.db)] 96,(z.db,.map v.y.1 v.y.2),(z.nr,.map v.x.1 v.x.2)]++(spO z.rm 121 v.o fr1++(dsO v.Ds++[]))) ?_
 refine Ap (List.range 9) [dZ,dZ,dZ,(dS (pT z.tb)),dZ,(dS (.agg (plc P).toArray))] (some [0,1,2,7,87,90]) (tF 9 1) (cO (cO (cO (.cons _ slr)))) 1 (fun S=>[(∀w1,S w1→w1.cell? ⟨z.bb,0,none⟩=some (pT z.tb)),(lV S 85 pb 0 (.agg (plc P).toArray)),(iL (k:Int) 144)]) ⟨(oC 1 rfl rfl),(fun w1 h=>yw (vs:=plc P) Tryz.underlying85 rfl kr (plc_len _) (fun q9 v hq9=>h.ocell 0 rfl (by rw[zo,zF];exact hq9))),om,trivial⟩ ?_
 refine Au 9 rfl 0  (zC (b:=z.tb) (off:=(k*3)) (vs:=(plc P).toArray) (n:=3) rfl kr kr kr rfl (all_plc _) 3 (cs:=(tbC T.ps z.nr z.rm)) (e:=88) kr (by unfold tbC;rw[zp,zh,plf_len];simp only[List.length_cons,List.length_nil];omega)) (fun _ _=>(cO (cO (cO (.cons _ slr))))) ?_
 refine CfgA.setO (congrArg (fun(xq:Array Value)=>(([cl pb ((plc P).toArray) 85,cl z.bb #[pT z.tb,.map (some z.db)] 96,(z.db,.map v.y.1 v.y.2),cl z.tb xq 88,(z.nr,.map v.x.1 v.x.2)]++(spO z.rm 121 v.o fr1++(dsO v.Ds++[]))):LO)) (show _=(tbC (T.ps.set k P) z.nr z.rm)from tb_set2 (by rw[hb.tb.l];exact hk) rfl)) ?_
 refine z6 kr ?_
 refine Cg (Γ':=[(7,[],iN k),(0,[],pT z.bb),(1,[],.string nm),(2,[],.string da)]) ?_
 refine Bp 9 [dZ,dZ,dZ,(dS (.pointer (some ⟨z.tb,0,none⟩))),dZ,dZ,(dS (.map (some z.nr)))] (some [0,2,7,97,98,99]) (fun S=>[(∀w1,S w1→w1.cell? ⟨z.bb,0,none⟩=some (.pointer (some ⟨z.tb,0,none⟩))),(∀w1,S w1→w1.cell? ⟨z.tb,432,none⟩=some (.map (some z.nr)))]) ⟨(oC 1 rfl rfl),(fun w1 h=>h.ocell 3 rfl (tb_names (show(T.ps.set k P).length=144 by rw[yc];exact hb.tb.l))),trivial⟩ ?_
 refine Le (Eff.sSet (r:=z.nr) (k:=nm) (u:=iN k) (es:=v.x.1) (ck:=v.x.2) rfl Tryz.underlying81 Tryz.underlying9 kr kr kr hb.sm 4 kr) ?_
 rintro x2 hx2
 refine zg rfl ?_
 refine Cg (Γ':=[(7,[],iN k),(0,[],pT z.bb),(2,[],.string da)]) ?_
 refine Bp 6 [dZ,dZ,dZ,(dS (.map (some z.db)))] (some [103,104,105]) (fun S=>[(∀w1,S w1→w1.cell? ⟨z.bb,1,none⟩=some (.map (some z.db)))]) ⟨(oC 1 rfl rfl),trivial⟩ ?_
 refine Le (Eff.toBytes rfl Tryz.underlying9 Tryz.underlying111 Tryz.underlying5 (t:=da) kr [cl pb ((plc P).toArray) 85,cl z.bb #[pT z.tb,.map (some z.db)] 96,(z.db,.map v.y.1 v.y.2),cl z.tb (tbC (T.ps.set k P) z.nr z.rm) 88,(z.nr,.map x2.1 x2.2)] (spO z.rm 121 v.o fr1++(dsO v.Ds++[])) rfl) ?_
 rintro d1 hd1
 refine Le (Eff.mapSet (r:=z.db) (k:=(k:Int)) (u:=dval (d1,da)) (es:=v.y.1) (ck:=v.y.2) rfl Tryz.underlying94 Tryz.underlying3 kr kr kr hb.m 2 kr) ?_
 rintro y2 hy2
 refine zg rfl ?_
 refine Cg (Γ':=[]) ?_
 refine Rq [6] ?_
 refine Rt [.int .i64 0] (fun w1 hp=>?_)
 have hfin:putF T (dmF v.Dt) nm da=(0,⟨T.ps.set k P,smset T.W nm (.int .i64 (k:Int)),fr1⟩,gset (dmF v.Dt) (k:Int) da):=by
  rw[show P=⟨nm,0,da.size⟩ by rw[hP]]
  exact hput.trans (if_pos om)
 rw[hfin]
 have hy3:MapOk y2.1 y2.2 (dv (gset v.Dt (k:Int) (d1,da))):=by
  have h8:=hy2
  rw[mset_g]at h8
  unfold dv
  rw[←gset_map]
  exact h8
 have h8:HP w ((batO z v T).map (·.1)) [] ([(z.bb,Obj.cells #[.pointer (some ⟨z.tb,0,none⟩),.map (some z.db)] 96 (0,0)),(z.db,Obj.map y2.1 y2.2),(z.tb,Obj.cells (tbC (T.ps.set k P) z.nr z.rm) 88 (0,0)),(z.nr,Obj.map x2.1 x2.2)]++(MO.o 5 (bv da.data.toList).toList d1++(spO z.rm 121 v.o fr1++(dsO v.Ds++[])))) w1:=hp.sub (.cons _ slr)
 have h9:=h8.perm (List.Perm.append_left [(z.bb,Obj.cells #[.pointer (some ⟨z.tb,0,none⟩),.map (some z.db)] 96 (0,0)),(z.db,Obj.map y2.1 y2.2),(z.tb,Obj.cells (tbC (T.ps.set k P) z.nr z.rm) 88 (0,0)),(z.nr,Obj.map x2.1 x2.2)] (yp (MO.o 5 (bv da.data.toList).toList d1) (spO z.rm 121 v.o fr1) (dsO v.Ds++[])))
 rw[zm]at h9
 exact⟨⟨v.o,x2,y2,gset v.Dt (k:Int) (d1,da),(d1,da)::v.Ds⟩,⟨⟨tb_in hb.tb hPo hk (W:=smset T.W nm (.int .i64 (k:Int))) (fr:=fr1) om,hb.w.set nm hk,hgd1,hx2,hy3,hb.d.put hk hd1 hda⟩,(gset_map (fun d:DE=>d.2) (k:Int) (d1,da) v.Dt).symm⟩,rfl,_,h9⟩
end
section
open K
theorem namB_le {s:ByteArray} (h:namB s=true):s.size≤72:=by
 unfold namB at h
 rw[q4,decide_eq_true_eq]at h
 exact h.1.2
theorem chk_all {a:FA} (h:chkF a=0):(1≤a.k∧a.k≤3)∧namB a.nm=true∧(a.k=3→namB a.t2=true)∧(a.k=1→a.da.size≤32768):=by
 unfold chkF at h
 split at h
 ·cases h
 rename_i h1
 split at h
 ·cases h
 rename_i h2
 split at h
 ·cases h
 rename_i h3
 split at h
 ·cases h
 rename_i h4
 exact⟨by omega,by simpa using h2,fun e=>by simpa using fun x=>h3 ⟨e,x⟩,fun e=>Nat.le_of_not_lt fun x=>h4 ⟨e,x⟩⟩
theorem set_same {cs:Array Value} {i:Nat} {v:Value} (h:cs[i]? = some v):cs.setIfInBounds i v=cs:=by
 apply Array.ext_getElem?
 intro j
 rw[Array.getElem?_setIfInBounds]
 split
 ·rename_i e
  subst e
  have:=(jf.1 h).1
  rw[if_pos this,h]
 rfl
theorem tb_name {ps:List Pl} {nr rm q:Nat} {s:ByteArray} (hq:q<ps.length):(tbC ps nr rm).setIfInBounds (q*3) (.string s)=tbC (ps.set q ⟨s,(ps.getD q plz).at_,(ps.getD q plz).sz⟩) nr rm:=by
 rw[←tb_set (p:=⟨s,(ps.getD q plz).at_,(ps.getD q plz).sz⟩) hq]
 show _=(((tbC ps nr rm).setIfInBounds (q*3) (.string s)).setIfInBounds (q*3+1) (.int .i64 ((ps.getD q plz).at_:Int))).setIfInBounds (q*3+1+1) (.int .i64 ((ps.getD q plz).sz:Int))
 have e1:((tbC ps nr rm).setIfInBounds (q*3) (.string s))[q*3+1]? = some (.int .i64 ((ps.getD q plz).at_:Int)):=by
  rw[Array.getElem?_setIfInBounds,if_neg om];exact tb_cell hq rfl
 have e2:((tbC ps nr rm).setIfInBounds (q*3) (.string s))[q*3+1+1]? = some (.int .i64 ((ps.getD q plz).sz:Int)):=by
  rw[Array.getElem?_setIfInBounds,if_neg om];exact tb_cell (j:=2) hq rfl
 rw[set_same e1,set_same e2]
def actF (T:Tb) (dm:Dm) (a:FA):Int×Tb×Dm:=
 if chkF a≠0 then(chkF a,T,dm)else if a.k=1 then putF T dm a.nm a.da else match smget T.W a.nm with
 | none=>(16,T,dm)
 | some v=>if a.k=2 then(0,⟨T.ps.set (vk v) plz,smdel T.W a.nm,yS 121 true (yQ (T.ps.getD (vk v) plz)) T.fr⟩,gdel dm (vk v:Int))
  else if(smget T.W a.t2).isSome then(17,T,dm) else(0,⟨T.ps.set (vk v) ⟨a.t2,(T.ps.getD (vk v) plz).at_,(T.ps.getD (vk v) plz).sz⟩,smdel (smset T.W a.t2 (.int .i64 (vk v:Int))) a.nm,T.fr⟩,dm)
theorem act_chk {T:Tb} {dm:Dm} {a:FA} (h:chkF a≠0):actF T dm a=(chkF a,T,dm):=if_pos h
theorem act_put {T:Tb} {dm:Dm} {a:FA} (h:chkF a=0) (h1:a.k=1):actF T dm a=putF T dm a.nm a.da:=(if_neg (fun e=>e h)).trans (if_pos h1)
theorem act_none {T:Tb} {dm:Dm} {a:FA} (h:chkF a=0) (h1:¬a.k=1) (h2:smget T.W a.nm=none):actF T dm a=(16,T,dm):=(if_neg (fun e=>e h)).trans ((if_neg h1).trans (by rw[h2]))
theorem act_del {T:Tb} {dm:Dm} {a:FA} {k:Nat} (h:chkF a=0) (h1:a.k=2) (h2:smget T.W a.nm=some (.int .i64 (k:Int))):actF T dm a=(0,⟨T.ps.set k plz,smdel T.W a.nm,yS 121 true (yQ (T.ps.getD k plz)) T.fr⟩,gdel dm (k:Int)):=
 (if_neg (fun e=>e h)).trans ((if_neg om).trans (by rw[h2];exact if_pos h1))
theorem act_there {T:Tb} {dm:Dm} {a:FA} {k:Nat} (h:chkF a=0) (h1:a.k=3) (h2:smget T.W a.nm=some (.int .i64 (k:Int))) (h3:(smget T.W a.t2).isSome=true):actF T dm a=(17,T,dm):=
 (if_neg (fun e=>e h)).trans ((if_neg om).trans (by rw[h2];exact(if_neg om).trans (if_pos h3)))
theorem act_ren {T:Tb} {dm:Dm} {a:FA} {k:Nat} (h:chkF a=0) (h1:a.k=3) (h2:smget T.W a.nm=some (.int .i64 (k:Int))) (h3:(smget T.W a.t2).isSome=false):actF T dm a=(0,⟨T.ps.set k ⟨a.t2,(T.ps.getD k plz).at_,(T.ps.getD k plz).sz⟩,smdel (smset T.W a.t2 (.int .i64 (k:Int))) a.nm,T.fr⟩,dm):=
 (if_neg (fun e=>e h)).trans ((if_neg om).trans (by rw[h2];exact(if_neg om).trans (if_neg (by rw[h3];decide))))
theorem fAct (z:BM) (v:BV) (T:Tb) (a:FA) (w:World) (hA:Has w (batO z v T)) (hd:((batO z v T).map (·.1)).Nodup) (hb:BOk v T) (ha:a.nm.size≤maxLen∧a.t2.size≤maxLen) :
  Calls Tryz.prog 36 #[.pointer (some ⟨z.bb,0,none⟩),.agg (acC a)] w fun e w'=>∃v2:BV,(BOk v2 (actF T (dmF v.Dt) a).2.1∧dmF v2.Dt=(actF T (dmF v.Dt) a).2.2)∧e=.returned (.int .i64 (actF T (dmF v.Dt) a).1)∧∃R1,HP w ((batO z v T).map (·.1)) R1 (batO z v2 (actF T (dmF v.Dt) a).2.1) w':=by
 have hf9:=hb.tb.f
 have hl9:=hb.tb.l
 refine enter ((batO z v T).map (·.1)) [] ([cl z.bb #[pT z.tb,.map (some z.db)] 96,(z.db,.map v.y.1 v.y.2),cl z.tb (tbC T.ps z.nr z.rm) 88,(z.nr,.map v.x.1 v.x.2)]++(spO z.rm 121 v.o T.fr++(dsO v.Ds++[]))) Tryz.func36 rfl kr (by rw[zm];exact HP.ofL hA hd (R:=[]) (fun e he=>by cases he) (fun e he=>by cases he)) ?_
 refine Be rfl rfl (y7 (v:=.agg (acC a)) rfl kr) ?_
 rintro ab ⟨hab,nab⟩
 refine Ld 1 [0,3] ?_
 refine Bp 1 [(dS (.agg (acC a)))] none (fun S=>[(lV S 34 ab 0 (.agg (acC a)))]) ⟨(fun w1 h=>h.oload 0 rfl Tryz.underlying34 rfl (n:=4) kr rfl),trivial⟩ ?_
 refine Lu (zr (.int .i64 (chkF a)) rfl Tryz.func75 rfl rfl kr (fun w1 _=>fCheck a w1 ha)) ?_
 refine Ld 1 [0,3,5] ?_
 refine Rq [0,3,5,13] ?_
 refine zX rfl (b:=((chkF a) != (0:Int))) kr (fun c1r=>?_) (fun c1r=>?_)
 ·have c1:=(bne_iff_ne.1 c1r)
  refine Rq [4] ?_
  refine Rt [.int .i64 (chkF a)] (fun w1 hp=>?_)
  rw[act_chk om]
  have h9:HP w ((batO z v T).map (·.1)) [] ([(z.bb,Obj.cells #[.pointer (some ⟨z.tb,0,none⟩),.map (some z.db)] 96 (0,0)),(z.db,Obj.map v.y.1 v.y.2),(z.tb,Obj.cells (tbC T.ps z.nr z.rm) 88 (0,0)),(z.nr,Obj.map v.x.1 v.x.2)]++(spO z.rm 121 v.o T.fr++(dsO v.Ds++[]))) w1:=hp.sub (.cons _ slr)
  rw[zm]at h9
  exact⟨v,⟨hb,rfl⟩,rfl,_,h9⟩
 have c1:=(bne_eq_false_iff_eq.1 c1r)
 have hck:=chk_all (a:=a) om
 refine Rg [0,3,17] [dZ,(dS (.int .i64 a.k))] (fun S=>[(cE S ab 0 (.int .i64 a.k))]) ⟨(oC 0 rfl rfl),trivial⟩ ?_
 refine zX rfl (b:=(a.k==(1:Int))) kr (fun c2r=>?_) (fun c2r=>?_)
 ·have c2:=(beq_iff_eq.1 c2r)
  refine Bp 5 [dZ,dZ,(dS (.string a.nm)),dZ,(dS (.string a.da))] (some [18,20,22]) (fun S=>[(cE S ab 1 (.string a.nm)),(cE S ab 3 (.string a.da))]) ⟨(oC 0 rfl rfl),(oC 0 rfl rfl),trivial⟩ ?_
  refine Le (zY (fun _:BV=>.int .i64 ((putF T (dmF v.Dt) a.nm a.da).1)) (batO z v T) (fun v2=>batO z v2 (putF T (dmF v.Dt) a.nm a.da).2.1) (fun v2=>BOk v2 (putF T (dmF v.Dt) a.nm a.da).2.1∧dmF v2.Dt=(putF T (dmF v.Dt) a.nm a.da).2.2) [cl ab (acC a) 34] [] (by simp only[List.append_nil];rfl) rfl Tryz.func76 rfl rfl kr (fun w1 h hA1 hd1=>fPut z v T a.nm a.da w1 hA1 hd1 hb (namB_le hck.2.1) (hck.2.2.2 c2))) ?_
  rintro v2 ⟨hv2,hdm2⟩
  refine qL 1 [] (some [4]) (Γ':=[(4,[],.int .i64 ((putF T (dmF v.Dt) a.nm a.da).1))]) (nd:=(fun _=>[])) kr (fun _=>kr) trivial ?_
  refine zg rfl ?_
  refine Rt [.int .i64 ((putF T (dmF v.Dt) a.nm a.da).1)] (fun w1 hp=>?_)
  rw[act_put om c2]
  have h9:HP w ((batO z v T).map (·.1)) [] (batO z v2 (putF T (dmF v.Dt) a.nm a.da).2.1++[]) w1:=hp.sub (zj _ _)
  rw[zm]at h9
  exact⟨v2,⟨hv2,hdm2⟩,rfl,_,h9⟩
 have c2:=(beq_eq_false_iff_ne.1 c2r)
 refine yo rfl kr ([cl ab (acC a) 34,cl z.bb #[pT z.tb,.map (some z.db)] 96,(z.db,.map v.y.1 v.y.2),cl z.tb (tbC T.ps z.nr z.rm) 88,(z.nr,.map v.x.1 v.x.2)]++(spO z.rm 121 v.o T.fr++(dsO v.Ds++[]))) ?_
 refine Ap (List.range 9) [dZ,dZ,dZ,(dS (pT z.tb)),dZ,dZ,(dS (.map (some z.nr))),dZ,(dS (.string a.nm))] (some [0,3,31,33]) (tF 9 6) slr 6 (fun S=>[(∀w1,S w1→w1.cell? ⟨z.bb,0,none⟩=some (pT z.tb)),(∀w1,S w1→w1.cell? ⟨z.tb,432,none⟩=some (.map (some z.nr))),(cE S ab 1 (.string a.nm))]) ⟨(oC 1 rfl rfl),(fun w1 h=>h.ocell 3 rfl (tb_names hb.tb.l)),(oC 0 rfl rfl),trivial⟩ ?_
 refine Au 9 rfl 5  (Eff.sGet (z:=.int .i64 0) (r:=z.nr) (k:=a.nm) (es:=v.x.1) (ck:=v.x.2) (W:=T.W) rfl Tryz.underlying81 Tryz.underlying9 kr kr kr hb.sm (fun w1 h=>(h.own (z.nr,Obj.map v.x.1 v.x.2) (show(z.nr,Obj.map v.x.1 v.x.2)∈([cl ab (acC a) 34,cl z.bb #[pT z.tb,.map (some z.db)] 96,(z.db,Obj.map v.y.1 v.y.2),cl z.tb (tbC T.ps z.nr z.rm) 88,(z.nr,Obj.map v.x.1 v.x.2)]++(spO z.rm 121 v.o T.fr++(dsO v.Ds++[]))) from(mL (mG 4 rfl)))))) (fun _ _=>slr) ?_
 refine Ap [10,11,12,13,14] [] (some [0,3,6,7]) (tF 15 0) slr 0 n0 trivial ?_
 refine z6 kr ?_
 refine Rq [0,3,6,38] ?_
 refine zX rfl (b:=(!(smget T.W a.nm).isSome)) kr (fun c3r=>?_) (fun c3r=>?_)
 ·have c3:((smget T.W a.nm).isSome=false):=(notT c3r)
  refine Rq [4] ?_
  refine Rt [.int .i64 16] (fun w1 hp=>?_)
  rw[act_none om c2 (Option.isNone_iff_eq_none.1 (by simpa using c3))]
  have h9:HP w ((batO z v T).map (·.1)) [] ([(z.bb,Obj.cells #[.pointer (some ⟨z.tb,0,none⟩),.map (some z.db)] 96 (0,0)),(z.db,Obj.map v.y.1 v.y.2),(z.tb,Obj.cells (tbC T.ps z.nr z.rm) 88 (0,0)),(z.nr,Obj.map v.x.1 v.x.2)]++(spO z.rm 121 v.o T.fr++(dsO v.Ds++[]))) w1:=hp.sub (.cons _ slr)
  rw[zm]at h9
  exact⟨v,⟨hb,rfl⟩,rfl,_,h9⟩
 have c3:((smget T.W a.nm).isSome=true):=(notF c3r)
 obtain⟨k,hk,hsk⟩:=hb.w.at (s:=a.nm) (by simpa using c3)
 have hpk:PlOk (T.ps.getD k plz):=hb.tb.o _ (K.getD_mem (by rw[hb.tb.l];exact hk))
 refine zN 6 (show(smget T.W a.nm).getD (.int .i64 0)=iN k from by rw[hsk];rfl) ?_
 refine Rg [0,3,6,41] [dZ,(dS (.int .i64 a.k))] (fun S=>[(cE S ab 0 (.int .i64 a.k))]) ⟨(oC 0 rfl rfl),trivial⟩ ?_
 refine zX rfl (b:=(a.k==(2:Int))) kr (fun c4r=>?_) (fun c4r=>?_)
 ·have c4:=(beq_iff_eq.1 c4r)
  refine yo rfl kr ([cl ab (acC a) 34,cl z.bb #[pT z.tb,.map (some z.db)] 96,(z.db,.map v.y.1 v.y.2),cl z.tb (tbC T.ps z.nr z.rm) 88,(z.nr,.map v.x.1 v.x.2)]++(dsO v.Ds++[])) ?_
  refine Ap (List.range 16) [dZ,dZ,dZ,(dS (pT z.tb)),dZ,dZ,(dS (pT z.rm)),dZ,dZ,dZ,(dS (pT z.tb)),dZ,dZ,dZ,dZ,(dS (.agg (plc (T.ps.getD k plz)).toArray))] (some [0,3,6,48,57]) (tF 16 2) (cO (cO (cO (cO (cO (show List.Sublist (dsO v.Ds++[]) (spO z.rm 121 v.o T.fr++(dsO v.Ds++[])) from(zE (List.Sublist.append (zQ (dsO v.Ds)) nL) (zj (spO z.rm 121 v.o T.fr) _)))))))) 2 (fun S=>[(∀w1,S w1→w1.cell? ⟨z.bb,0,none⟩=some (pT z.tb)),(∀w1,S w1→w1.cell? ⟨z.tb,433,none⟩=some (pT z.rm)),(∀w1,S w1→w1.cell? ⟨z.bb,0,none⟩=some (pT z.tb)),(iL (k:Int) 144),(lV S 85 z.tb (k*3) (.agg (plc (T.ps.getD k plz)).toArray))]) ⟨(oC 1 rfl rfl),(fun w1 h=>h.ocell 3 rfl (tb_room hb.tb.l)),(oC 1 rfl rfl),om,(fun w1 h=>yw (vs:=plc (T.ps.getD k plz)) Tryz.underlying85 rfl kr (plc_len _) (fun q9 v hq9=>h.ocell 3 rfl (tb_cell (by rw[hb.tb.l];exact hk) hq9))),trivial⟩ ?_
  refine Ae 16 rfl 1  (zY (fun rb:Nat=>.slice (rA (T.ps.getD k plz) rb) ((yQ (T.ps.getD k plz)).length) ((yQ (T.ps.getD k plz)).length)) [] (fun rb=>rnO (T.ps.getD k plz) rb) (fun _=>True) [cl ab (acC a) 34,cl z.bb #[pT z.tb,.map (some z.db)] 96,(z.db,.map v.y.1 v.y.2),cl z.tb (tbC T.ps z.nr z.rm) 88,(z.nr,.map v.x.1 v.x.2)] (spO z.rm 121 v.o T.fr++(dsO v.Ds++[])) rfl rfl Tryz.func44 rfl rfl kr (fun w1 h _ _=>fRunU (T.ps.getD k plz) w1 hpk)) (by rintro rb -;exact(cO (cO (cO (cO (cO (show List.Sublist (dsO v.Ds++[]) (rnO (T.ps.getD k plz) rb++(spO z.rm 121 v.o T.fr++(dsO v.Ds++[]))) from(zE (zE (List.Sublist.append (zQ (dsO v.Ds)) nL) (zj (spO z.rm 121 v.o T.fr) _)) (zj (rnO (T.ps.getD k plz) rb) _))))))))) ?_
  rintro rb -
  refine Ae 17 rfl 0  (zY (fun _:K.Own=>.int .i64 ((ql 121 T.fr.length true (yQ (T.ps.getD k plz)) T.fr).1:Int)) (spO z.rm 121 v.o T.fr) (fun o=>spO z.rm 121 o (yS 121 true (yQ (T.ps.getD k plz)) T.fr)) (fun o=>Good o (yS 121 true (yQ (T.ps.getD k plz)) T.fr)) ([cl ab (acC a) 34,cl z.bb #[pT z.tb,.map (some z.db)] 96,(z.db,.map v.y.1 v.y.2),cl z.tb (tbC T.ps z.nr z.rm) 88,(z.nr,.map v.x.1 v.x.2)]++(rnO (T.ps.getD k plz) rb)) (dsO v.Ds++[]) rfl rfl Tryz.func77 rfl rfl kr (fun w1 h hA1 hd1=>giveP hpk rb z.rm v.o T.fr w1 hb.tb.f hb.g hA1 hd1 (HP.giv (F:=[cl ab (acC a) 34,cl z.bb #[pT z.tb,.map (some z.db)] 96,(z.db,.map v.y.1 v.y.2),cl z.tb (tbC T.ps z.nr z.rm) 88,(z.nr,.map v.x.1 v.x.2)]) (Rn:=rnO (T.ps.getD k plz) rb) (Sp:=spO z.rm 121 v.o T.fr) (Tl:=(dsO v.Ds++[])) h).1 (HP.giv (F:=[cl ab (acC a) 34,cl z.bb #[pT z.tb,.map (some z.db)] 96,(z.db,.map v.y.1 v.y.2),cl z.tb (tbC T.ps z.nr z.rm) 88,(z.nr,.map v.x.1 v.x.2)]) (Rn:=rnO (T.ps.getD k plz) rb) (Sp:=spO z.rm 121 v.o T.fr) (Tl:=(dsO v.Ds++[])) h).2)) (by rintro o1 hg1;exact(cO (cO (cO (cO (cO (show List.Sublist (dsO v.Ds++[]) (rnO (T.ps.getD k plz) rb++(spO z.rm 121 o1 (yS 121 true (yQ (T.ps.getD k plz)) T.fr)++(dsO v.Ds++[]))) from(zE (zE (List.Sublist.append (zQ (dsO v.Ds)) nL) (zj (spO z.rm 121 o1 (yS 121 true (yQ (T.ps.getD k plz)) T.fr)) _)) (zj (rnO (T.ps.getD k plz) rb) _))))))))) ?_
  rintro o1 hg1
  refine z6 kr ?_
  refine Cg (Γ':=[(6,[],iN k),(3,[],pT ab),(0,[],pT z.bb)]) ?_
  refine Bp 9 [dZ,dZ,dZ,(dS (pT z.tb)),dZ,(dS (.agg (plc plz).toArray))] (some [0,3,6,65,68]) (fun S=>[(∀w1,S w1→w1.cell? ⟨z.bb,0,none⟩=some (pT z.tb)),(∀w1,S w1→(Instr.build 85 #[]).run Tryz.prog w1=.ok (.agg (plc plz).toArray) w1),(iL (k:Int) 144)]) ⟨(oC 1 rfl rfl),(fun _ _=>kr),om,trivial⟩ ?_
  refine Lu (zC (b:=z.tb) (off:=(k*3)) (vs:=(plc plz).toArray) (n:=3) rfl kr kr kr rfl (all_plc _) 3 (cs:=(tbC T.ps z.nr z.rm)) (e:=88) kr (by unfold tbC;rw[zp,zh,plf_len];simp only[List.length_cons,List.length_nil];omega)) ?_
  refine yF (congrArg (fun(xq:Array Value)=>(([cl ab (acC a) 34,cl z.bb #[pT z.tb,.map (some z.db)] 96,(z.db,.map v.y.1 v.y.2),cl z.tb xq 88,(z.nr,.map v.x.1 v.x.2)]++(rnO (T.ps.getD k plz) rb++(spO z.rm 121 o1 (yS 121 true (yQ (T.ps.getD k plz)) T.fr)++(dsO v.Ds++[])))):LO)) (show _=(tbC (T.ps.set k plz) z.nr z.rm)from tb_set2 (by rw[hb.tb.l];exact hk) rfl)) ?_
  refine zg rfl ?_
  refine Cg (Γ':=[(6,[],iN k),(3,[],pT ab),(0,[],pT z.bb)]) ?_
  refine Bp 5 [dZ,dZ,dZ,(dS (.map (some z.db)))] (some [0,3,72,73]) (fun S=>[(∀w1,S w1→w1.cell? ⟨z.bb,1,none⟩=some (.map (some z.db)))]) ⟨(oC 1 rfl rfl),trivial⟩ ?_
  refine Le (Eff.mDel (r:=z.db) (k:=(k:Int)) (es:=v.y.1) (ck:=v.y.2) rfl (by rfl) Tryz.underlying94 Tryz.underlying3 kr kr hb.m 2 kr) ?_
  rintro y3 hy3
  refine zg rfl ?_
  refine Cg (Γ':=[(3,[],pT ab),(0,[],pT z.bb)]) ?_
  refine yo rfl kr ([cl ab (acC a) 34,cl z.bb #[pT z.tb,.map (some z.db)] 96,(z.db,.map y3 v.y.2),cl z.tb (tbC (T.ps.set k plz) z.nr z.rm) 88]++(rnO (T.ps.getD k plz) rb++(spO z.rm 121 o1 (yS 121 true (yQ (T.ps.getD k plz)) T.fr)++(dsO v.Ds++[])))) ?_
  refine Ap (List.range 9) [dZ,dZ,dZ,(dS (.pointer (some ⟨z.tb,0,none⟩))),dZ,dZ,(dS (.map (some z.nr))),dZ,(dS (.string a.nm))] (some [115,117]) (tF 9 1) (.cons_cons _ (.cons_cons _ (.cons_cons _ (.cons_cons _ (.cons _ slr))))) 1 (fun S=>[(∀w1,S w1→w1.cell? ⟨z.bb,0,none⟩=some (.pointer (some ⟨z.tb,0,none⟩))),(∀w1,S w1→w1.cell? ⟨z.tb,432,none⟩=some (.map (some z.nr))),(cE S ab 1 (.string a.nm))]) ⟨(oC 1 rfl rfl),(fun w1 h=>h.ocell 3 rfl (tb_names (show(T.ps.set k plz).length=144 by rw[yc];exact hb.tb.l))),(oC 0 rfl rfl),trivial⟩ ?_
  refine Ae 9 rfl 0  (Eff.sDel (r:=z.nr) (k:=a.nm) (es:=v.x.1) (ck:=v.x.2) rfl (by rfl) Tryz.underlying81 Tryz.underlying9 kr kr hb.sm 4 kr) (fun _ _=>(cO (cO (cO (cO (.cons _ slr)))))) ?_
  rintro x3 hx3
  refine z6 kr ?_
  refine Cg (Γ':=[]) ?_
  refine Rq [4] ?_
  refine Rt [.int .i64 0] (fun w1 hp=>?_)
  have hy4:MapOk y3 v.y.2 (dv (gdel v.Dt (k:Int))):=by
   have h8:=hy3
   rw[mdel_g]at h8
   unfold dv
   rw[←gdel_map]
   exact h8
  rw[act_del om c4 hsk]
  have h9:HP w ((batO z v T).map (·.1)) [] ([(z.bb,Obj.cells #[.pointer (some ⟨z.tb,0,none⟩),.map (some z.db)] 96 (0,0)),(z.db,Obj.map y3 v.y.2),(z.tb,Obj.cells (tbC (T.ps.set k plz) z.nr z.rm) 88 (0,0)),(z.nr,Obj.map x3 v.x.2)]++(spO z.rm 121 o1 (yS 121 true (yQ (T.ps.getD k plz)) T.fr)++(dsO v.Ds++[]))) w1:=hp.sub (.cons _ (.cons_cons _ (.cons_cons _ (.cons_cons _ (.cons_cons _ (show List.Sublist (spO z.rm 121 o1 (yS 121 true (yQ (T.ps.getD k plz)) T.fr)++(dsO v.Ds++[])) (rnO (T.ps.getD k plz) rb++(spO z.rm 121 o1 (yS 121 true (yQ (T.ps.getD k plz)) T.fr)++(dsO v.Ds++[]))) from(zE (List.Sublist.append (zQ (spO z.rm 121 o1 (yS 121 true (yQ (T.ps.getD k plz)) T.fr))) (List.Sublist.append (zQ (dsO v.Ds)) (zz _))) (zj (rnO (T.ps.getD k plz) rb) _))))))))
  rw[zm]at h9
  exact⟨⟨o1,(x3,v.x.2),(y3,v.y.2),gdel v.Dt (k:Int),v.Ds⟩,⟨⟨tb_in hb.tb PlOk.z hk (W:=smdel T.W a.nm) (fr:=yS 121 true (yQ (T.ps.getD k plz)) T.fr) (turnR_len _ _ _ _),hb.w.del _,hg1,hx3,hy4,hb.d.del _⟩,(gdel_map (fun d:DE=>d.2) (k:Int) v.Dt).symm⟩,rfl,_,h9⟩
 have c4:=(beq_eq_false_iff_ne.1 c4r)
 refine yo rfl kr ([cl ab (acC a) 34,cl z.bb #[pT z.tb,.map (some z.db)] 96,(z.db,.map v.y.1 v.y.2),cl z.tb (tbC T.ps z.nr z.rm) 88,(z.nr,.map v.x.1 v.x.2)]++(spO z.rm 121 v.o T.fr++(dsO v.Ds++[]))) ?_
 refine Ap (List.range 9) [dZ,dZ,dZ,(dS (pT z.tb)),dZ,dZ,(dS (.map (some z.nr))),dZ,(dS (.string a.t2))] (some [0,3,6,81,83]) (tF 9 6) slr 6 (fun S=>[(∀w1,S w1→w1.cell? ⟨z.bb,0,none⟩=some (pT z.tb)),(∀w1,S w1→w1.cell? ⟨z.tb,432,none⟩=some (.map (some z.nr))),(cE S ab 2 (.string a.t2))]) ⟨(oC 1 rfl rfl),(fun w1 h=>h.ocell 3 rfl (tb_names hb.tb.l)),(oC 0 rfl rfl),trivial⟩ ?_
 refine Au 9 rfl 5  (Eff.sGet (z:=.int .i64 0) (r:=z.nr) (k:=a.t2) (es:=v.x.1) (ck:=v.x.2) (W:=T.W) rfl Tryz.underlying81 Tryz.underlying9 kr kr kr hb.sm (fun w1 h=>(h.own (z.nr,Obj.map v.x.1 v.x.2) (show(z.nr,Obj.map v.x.1 v.x.2)∈([cl ab (acC a) 34,cl z.bb #[pT z.tb,.map (some z.db)] 96,(z.db,Obj.map v.y.1 v.y.2),cl z.tb (tbC T.ps z.nr z.rm) 88,(z.nr,Obj.map v.x.1 v.x.2)]++(spO z.rm 121 v.o T.fr++(dsO v.Ds++[]))) from(mL (mG 4 rfl)))))) (fun _ _=>slr) ?_
 refine Ap [10,11,12,13,14] [] (some [0,3,6,9]) (tF 15 0) slr 0 n0 trivial ?_
 refine z6 kr ?_
 refine Rq [0,3,6,87] ?_
 refine zX rfl (b:=(smget T.W a.t2).isSome) kr (fun c5r=>?_) (fun c5r=>?_)
 ·have c5:((smget T.W a.t2).isSome=true):=c5r
  refine Rq [4] ?_
  refine Rt [.int .i64 17] (fun w1 hp=>?_)
  rw[act_there om om hsk (by simpa using c5)]
  have h9:HP w ((batO z v T).map (·.1)) [] ([(z.bb,Obj.cells #[.pointer (some ⟨z.tb,0,none⟩),.map (some z.db)] 96 (0,0)),(z.db,Obj.map v.y.1 v.y.2),(z.tb,Obj.cells (tbC T.ps z.nr z.rm) 88 (0,0)),(z.nr,Obj.map v.x.1 v.x.2)]++(spO z.rm 121 v.o T.fr++(dsO v.Ds++[]))) w1:=hp.sub (.cons _ slr)
  rw[zm]at h9
  exact⟨v,⟨hb,rfl⟩,rfl,_,h9⟩
 have c5:((smget T.W a.t2).isSome=false):=c5r
 refine yo rfl kr ([cl ab (acC a) 34,cl z.bb #[pT z.tb,.map (some z.db)] 96,(z.db,.map v.y.1 v.y.2),(z.nr,.map v.x.1 v.x.2)]++(spO z.rm 121 v.o T.fr++(dsO v.Ds++[]))) ?_
 refine Ap (List.range 11) [dZ,dZ,dZ,(dS (pT z.tb)),dZ,dZ,(dS (.string a.t2))] (some [0,3,6,94,98]) (tF 11 1) (cO (cO (cO (.cons _ slr)))) 1 (fun S=>[(∀w1,S w1→w1.cell? ⟨z.bb,0,none⟩=some (pT z.tb)),(cE S ab 2 (.string a.t2)),(iL (k:Int) 144)]) ⟨(oC 1 rfl rfl),(oC 0 rfl rfl),om,trivial⟩ ?_
 refine Au 11 rfl 0  (zS (b:=z.tb) (off:=(k*3)) (v:=.string a.t2) rfl kr kr rfl kr 3 (cs:=(tbC T.ps z.nr z.rm)) (e:=88) kr (by unfold tbC;rw[zp,zh,plf_len];simp only[List.length_cons,List.length_nil];omega)) (fun _ _=>(cO (cO (cO (.cons _ slr))))) ?_
 refine z6 kr ?_
 refine Cg (Γ':=[(6,[],iN k),(3,[],pT ab),(0,[],pT z.bb)]) ?_
 refine zU (congrArg (fun(xq:Array Value)=>(([cl ab (acC a) 34,cl z.bb #[pT z.tb,.map (some z.db)] 96,(z.db,.map v.y.1 v.y.2),cl z.tb xq 88,(z.nr,.map v.x.1 v.x.2)]++(spO z.rm 121 v.o T.fr++(dsO v.Ds++[]))):LO)) (show _=(tbC (T.ps.set k ⟨a.t2,(T.ps.getD k plz).at_,(T.ps.getD k plz).sz⟩) z.nr z.rm)from tb_name (by rw[hb.tb.l];exact hk))) ?_
 refine yo rfl kr ([cl ab (acC a) 34,cl z.bb #[pT z.tb,.map (some z.db)] 96,(z.db,.map v.y.1 v.y.2),cl z.tb (tbC (T.ps.set k ⟨a.t2,(T.ps.getD k plz).at_,(T.ps.getD k plz).sz⟩) z.nr z.rm) 88]++(spO z.rm 121 v.o T.fr++(dsO v.Ds++[]))) ?_
 refine Ap (List.range 10) [dZ,dZ,dZ,(dS (.pointer (some ⟨z.tb,0,none⟩))),dZ,dZ,(dS (.map (some z.nr))),dZ,(dS (.string a.t2))] (some [0,3,105,107,108]) (tF 10 1) (.cons_cons _ (.cons_cons _ (.cons_cons _ (.cons_cons _ (.cons _ slr))))) 1 (fun S=>[(∀w1,S w1→w1.cell? ⟨z.bb,0,none⟩=some (.pointer (some ⟨z.tb,0,none⟩))),(∀w1,S w1→w1.cell? ⟨z.tb,432,none⟩=some (.map (some z.nr))),(cE S ab 2 (.string a.t2))]) ⟨(oC 1 rfl rfl),(fun w1 h=>h.ocell 3 rfl (tb_names (show(T.ps.set k _).length=144 by rw[yc];exact hb.tb.l))),(oC 0 rfl rfl),trivial⟩ ?_
 refine Ae 10 rfl 0  (Eff.sSet (r:=z.nr) (k:=a.t2) (u:=iN k) (es:=v.x.1) (ck:=v.x.2) rfl Tryz.underlying81 Tryz.underlying9 kr kr kr hb.sm 4 kr) (fun _ _=>(cO (cO (cO (cO (.cons _ slr)))))) ?_
 rintro x2 hx2
 refine z6 kr ?_
 refine Cg (Γ':=[(3,[],pT ab),(0,[],pT z.bb)]) ?_
 refine yo rfl kr ([cl ab (acC a) 34,cl z.bb #[pT z.tb,.map (some z.db)] 96,(z.db,.map v.y.1 v.y.2),cl z.tb (tbC (T.ps.set k ⟨a.t2,(T.ps.getD k plz).at_,(T.ps.getD k plz).sz⟩) z.nr z.rm) 88]++(spO z.rm 121 v.o T.fr++(dsO v.Ds++[]))) ?_
 refine Ap (List.range 9) [dZ,dZ,dZ,(dS (.pointer (some ⟨z.tb,0,none⟩))),dZ,dZ,(dS (.map (some z.nr))),dZ,(dS (.string a.nm))] (some [115,117]) (tF 9 1) (.cons_cons _ (.cons_cons _ (.cons_cons _ (.cons_cons _ (.cons _ slr))))) 1 (fun S=>[(∀w1,S w1→w1.cell? ⟨z.bb,0,none⟩=some (.pointer (some ⟨z.tb,0,none⟩))),(∀w1,S w1→w1.cell? ⟨z.tb,432,none⟩=some (.map (some z.nr))),(cE S ab 1 (.string a.nm))]) ⟨(oC 1 rfl rfl),(fun w1 h=>h.ocell 3 rfl (tb_names (show(T.ps.set k _).length=144 by rw[yc];exact hb.tb.l))),(oC 0 rfl rfl),trivial⟩ ?_
 refine Ae 9 rfl 0  (Eff.sDel (r:=z.nr) (k:=a.nm) (es:=x2.1) (ck:=x2.2) rfl (by rfl) Tryz.underlying81 Tryz.underlying9 kr kr hx2 4 kr) (fun _ _=>(cO (cO (cO (cO (.cons _ slr)))))) ?_
 rintro x3 hx3
 refine z6 kr ?_
 refine Cg (Γ':=[]) ?_
 refine Rq [4] ?_
 refine Rt [.int .i64 0] (fun w1 hp=>?_)
 rw[act_ren om om hsk (by simpa using c5)]
 have h9:HP w ((batO z v T).map (·.1)) [] ([(z.bb,Obj.cells #[.pointer (some ⟨z.tb,0,none⟩),.map (some z.db)] 96 (0,0)),(z.db,Obj.map v.y.1 v.y.2),(z.tb,Obj.cells (tbC (T.ps.set k ⟨a.t2,(T.ps.getD k plz).at_,(T.ps.getD k plz).sz⟩) z.nr z.rm) 88 (0,0)),(z.nr,Obj.map x3 x2.2)]++(spO z.rm 121 v.o T.fr++(dsO v.Ds++[]))) w1:=hp.sub (.cons _ slr)
 rw[zm]at h9
 exact⟨⟨v.o,(x3,x2.2),v.y,v.Dt,v.Ds⟩,⟨⟨tb_in hb.tb (p:=⟨a.t2,(T.ps.getD k plz).at_,(T.ps.getD k plz).sz⟩) ⟨namB_le (hck.2.2.1 om),hpk.at_,hpk.sz⟩ hk (W:=smdel (smset T.W a.t2 (.int .i64 (k:Int))) a.nm) (fr:=T.fr) rfl,(hb.w.set _ hk).del _,hb.g,hx3,hb.m,hb.d⟩,rfl⟩,rfl,_,h9⟩
end
namespace K
section
variable {P:Program} {fn:Func} {post:Ending→World→Prop} {w0:World} {M D:List Nat} {R O:List (Nat×Obj)} {Γ:Env} {ks ks':List KI}
def AgainM (fn:Func) (w0:World) (M:List Nat) (R:List (Nat×Obj)) {ι:Type} (Di:ι→List Nat) (Γi:ι→Env) (Oi:ι→List (Nat×Obj)) (I:ι→Prop) (μ:ι→Nat) (x:ι) (a:Act) (w:World):Prop:=
 ∃y,I y∧μ y<μ x∧St fn.ntmps ((Di y).map mkd) (Γi y) a∧HP w0 M R (Oi y) w
theorem Cfg.loopM {c:Code} (hk:K.nrm 99 ks=.inl (.loop c)::ks') {ι:Type} (Di:ι→List Nat) (Γi:ι→Env) (Oi:ι→List (Nat×Obj)) (I:ι→Prop) (μ:ι→Nat) (x0:ι) (h0:I x0) (hD:Di x0=D) (hΓ:Conv Γ (Γi x0)) (hO:(Oi x0).Sublist O)
  (round:∀x,I x→Cfg (Cx.marks P fn post w0 M (Di x)) R (Oi x) (Γi x) (.inl c::.inr (.inr (AgainM fn w0 M R Di Γi Oi I μ x))::ks')):Cfg (Cx.marks P fn post w0 M D) R O Γ ks:=by
 subst hD
 refine Cfg.nrm ?_
 rw[hk]
 intro a w hs hp
 refine wpIn_loop_ghost (fun m a w=>∃x,μ x=m∧I x∧St fn.ntmps ((Di x).map mkd) (Γi x) a∧HP w0 M R (Oi x) w) (μ x0) ⟨x0,rfl,h0,hΓ.st hs,hp.sub hO⟩ ?_
 rintro m a w ⟨x,rfl,hI,hs,hp⟩
 refine wpIn_mono (round x hI a w hs hp) ?_
 intro e a' w' hq
 have hq':=congrFun (congrFun (congrFun (aft_inv (P:=P) (ro:=none) (Q:=Q0M P fn post) (AgainM fn w0 M R Di Γi Oi I μ x) ks') e) a') w'▸hq
 clear hq
 cases e with
 | normal=>
  obtain⟨y,h1,h2,h3,h4⟩:=hq'
  exact⟨μ y,h2,y,rfl,h1,h3,h4⟩
 | _=>exact hq'
theorem Cfg.againM {ι:Type} {Di:ι→List Nat} {Γi:ι→Env} {Oi:ι→List (Nat×Obj)} {I:ι→Prop} {μ:ι→Nat} {x:ι} (hk:K.nrm 99 ks=.inr (.inr (AgainM fn w0 M R Di Γi Oi I μ x))::ks') (y:ι) (hI:I y) (hμ:μ y<μ x)
  (hD:Di y=D) (hΓ:Conv Γ (Γi y)) (hO:(Oi y).Sublist O):Cfg (Cx.marks P fn post w0 M D) R O Γ ks:=by
 subst hD
 refine Cfg.nrm ?_
 rw[hk]
 intro a w hs hp
 exact⟨y,hI,hμ,hΓ.st hs,hp.sub hO⟩
end
theorem Eff.slice3B {C:Cx} {R O:List (Nat×Obj)} {Γ:Env} {op:Oper} {t e:TypeId} {x l h m:Operand} (ho:op.op=.slice t x (some l) (some h) (some m)) (ht:C.P.underlying t=some (.slice e)) (hsz:(C.P.info? e).map (·.size)=some 1)
  {b n c i j:Nat} (hx:opd Γ [] x=some (.slice (some ⟨b,0,none⟩) n c)) (hl:opd Γ [] l=some (.int .i64 (i:Int))) (hh:opd Γ [] h=some (.int .i64 (j:Int))) (hm:opd Γ [] m=some (.int .i64 (j:Int))) (h0:i<j∧j≤c) :
  Eff C R O Γ op Unit (fun _=>.slice (some ⟨b,i,none⟩) (j-i) (j-i)) (fun _=>O) (fun _=>True):=by
 obtain⟨inf,hi,hs1⟩:=zZ.1 hsz
 refine yL fun ac w hs hp=>⟨(),w,trivial,?_,hp⟩
 have hb:∀(x y:Nat) (code:BoundsCode),x≤y→(Instr.sliceBound (.int .i64 (x:Int)) y code).run C.P w=.ok x w:=by
  intro x y code hxy
  have hai:(asIntOf (.int .i64 (x:Int))).run C.P w=.ok (.i64,(x:Int)) w:=rfl
  have h2:(0:Int)≤(x:Int)∧(x:Int)≤(y:Int):=⟨by omega,by omega⟩
  simp[Instr.sliceBound,hai,hxy]
 have hbs:(Instr.sliceBounds true n c (some (.int .i64 (i:Int))) (some (.int .i64 (j:Int))) (some (.int .i64 (j:Int)))).run C.P w=.ok (i,j,j) w:=by
  simp only[Instr.sliceBounds,Sem.run_bind,hb j c _ om,Result.andThen_ok,hb j j _ om,hb i j _ om,Sem.run_pure]
 have hr:(Instr.slice t (.slice (some ⟨b,0,none⟩) n c) (some (.int .i64 (i:Int))) (some (.int .i64 (j:Int))) (some (.int .i64 (j:Int)))).run C.P w=.ok (.slice (some ⟨b,i,none⟩) (j-i) (j-i)) w:=by
  simp only[Instr.slice,Sem.run_bind,zx ht,Result.andThen_ok,hbs,yT hi,Sem.run_pure,hs1]
  rw[if_neg om]
  simp[add_none]
 have e1:=yI hs (zW _) hx
 have e2:=yI hs (zW _) hl
 have e3:=yI hs (zW _) hh
 have e4:=yI hs (zW _) hm
 simp only[execOp,ho]
 refine run_v ?_
 simp only[Option.map_some,e1,e2,e3,e4,Instr.sliceAt,Sem.run_bind,zx ht,Result.andThen_ok]
 exact hr
theorem Eff.slice3D {C:Cx} {R O:List (Nat×Obj)} {Γ:Env} {op:Oper} {t e:TypeId} {x l h m:Operand} (ho:op.op=.slice t x (some l) (some h) (some m)) (ht:C.P.underlying t=some (.slice e)) (hsz:(C.P.info? e).map (·.size)=some 1)
  {b n c i d:Nat} (hx:opd Γ [] x=some (.slice (some ⟨b,0,none⟩) n c)) (hl:opd Γ [] l=some (.int .i64 (i:Int))) (hh:opd Γ [] h=some (.int .i64 ((i+d:Nat):Int))) (hm:opd Γ [] m=some (.int .i64 ((i+d:Nat):Int))) (h0:0<d∧i+d≤c) :
  Eff C R O Γ op Unit (fun _=>.slice (some ⟨b,i,none⟩) d d) (fun _=>O) (fun _=>True):=by
 have h9:=Eff.slice3B (R:=R) (O:=O) (i:=i) (j:=i+d) ho ht hsz hx hl hh hm ⟨by omega,h0.2⟩
 rw[Nat.add_sub_cancel_left]at h9
 exact h9
theorem pdr2 {α:Type} {x:α} {A B C T:List α}:(x::(A++(B++(C++T)))).Perm (A++(B++(C++(x::T)))):=by
 have h:=(List.perm_middle (a:=x) (l₁:=A++(B++C)) (l₂:=T)).symm
 simpa only[List.append_assoc] using h
theorem pfr2 {α:Type} {A B C M:List α}:(A++(B++(C++(M++[])))).Perm (M++(A++(B++(C++[])))):=by
 have h:=List.perm_append_comm (l₁:=A++(B++C)) (l₂:=M)
 simpa only[List.append_assoc,List.append_nil] using h
end K
section
open K
def mC (n k:Nat):Nat:=min 512 (n-512*k)
theorem range_split {m k:Nat} (h:k<m):List.range m=List.range k++k::(List.range m).drop (k+1):=by
 have h1:k<(List.range m).length:=by rw[qk];exact h
 have h2:=(yz k (List.range m)).symm
 rw[yn h1,List.getElem_range,List.take_range,qC om]at h2
 exact h2
theorem mem_range_succ {k:Nat} {p:Nat→Bool} (h:∀y∈List.range k,p y=true) (hk:p k=true):∀y∈List.range (k+1),p y=true:=fun y hy=>by
 rw[qc]at hy
 rcases yG.1 hy with hy|hy
 ·exact h y hy
 rw[zi.1 hy];exact hk
theorem fChunk (b n c:Nat) (w:World) :
  Calls Tryz.prog 80 #[.slice (some ⟨b,0,none⟩) n c,.int .i64 512] w fun e w'=>∃q:Nat×Nat,True∧e=.returned (.func (.func 123) #[] #[.pointer (some ⟨q.1,0,none⟩),.pointer (some ⟨q.2,0,none⟩)])∧∃R1,HP w [] R1 [(q.2,.cells #[.int .i64 512] 3 (0,0)),(q.1,.cells #[.slice (some ⟨b,0,none⟩) n c] 111 (0,0))] w':=by
 refine enter [] [] [] Tryz.func80 rfl kr (yy w) ?_
 refine Be rfl rfl (y7 (v:=sP b 0 n c) rfl kr) ?_
 rintro k1 ⟨hk1,nk1⟩
 refine Le (y7 (v:=.int .i64 512) rfl kr) ?_
 rintro k2 ⟨hk2,nk2⟩
 refine Ld 1 [2,3] ?_
 refine Rg [2,3,6] [(dS (.int .i64 512))] (fun S=>[(cE S k2 0 (.int .i64 512))]) ⟨(oC 0 rfl rfl),trivial⟩ ?_
 refine yb rfl (b:=false) kr rfl ?_
 refine Rq [4] ?_
 refine Rt [.func (.func 123) #[] #[pT k1,pT k2]] (fun w1 hp=>?_)
 exact⟨(k1,k2),trivial,rfl,_,hp⟩
theorem chunkIt0 (l dr k1 k2 b n c:Nat) (fi:FuncId) (T:Array Value) (ps:Array Tmp) (assign body:Code) (σ:Type) (A:σ→List (Nat×Obj)) (J:List Nat→σ→Prop) (s0:σ) (p:Nat→Bool) (w:World) (hn:n≤32768) (hc:n≤c) (hps:ps.size=1) (hJ:J [] s0) (hA:Has w (A s0)) (hd:((A s0).map (·.1)).Nodup) (hmem:∀pre x,(∀y∈pre,p y=true)→J pre x→(∀e∈[(k1,Obj.cells #[.slice (some ⟨b,0,none⟩) n c] 111 (0,0)),(k2,Obj.cells #[.int .i64 512] 3 (0,0))],e∈A x)∧(l,Obj.loop (rec0 fi T ps assign body dr .ready none))∈A x) (hy:∀pre x (a:Nat) rest,(∀y∈pre,p y=true)→J pre x→List.range (secs n)=pre++a::rest→∀w,Has w (A x)→((A x).map (·.1)).Nodup→RoundIn Fence.wide 0 Tryz.prog l fi ((ps.zip #[(fun(k:Nat)=>Value.slice (some ⟨b,512*k,none⟩) (mC n k) (mC n k)) a]).foldl (fun tmps (t,a)=>tmps.setIfInBounds t a) T) assign body w fun e w'=>∃y,J (pre++[a]) y∧e=.returned (.bool (p a))∧∃R1,HP w ((A x).map (·.1)) R1 (A y) w') :
  Calls Tryz.prog 123 #[.func (.yield l) #[] #[],.pointer (some ⟨k1,0,none⟩),.pointer (some ⟨k2,0,none⟩)] w fun e w'=>∃y,J (vis p (List.range (secs n))) y∧e=.returned (.tuple #[])∧∃R1,HP w ((A s0).map (·.1)) R1 (A y) w':=by
 refine enter ((A s0).map (·.1)) [] ([]++(A s0++[])) Tryz.func123 rfl kr (by have h0:=HP.ofL hA hd (R:=[]) (fun e he=>by cases he) (fun e he=>by cases he);simpa using h0) ?_
 refine Rq [0,1,2,4] ?_
 refine ye rfl (ι:=Nat×σ) (fun(k,x)=>[(4,[],iN ((512*k))),(0,[],.func (.yield l) #[] #[]),(1,[],pT k1),(2,[],pT k2)]) (fun(k,x)=>([]++(A x++[]))) (fun(k,x)=>(k≤secs n)∧(∀x∈List.range k,p x=true)∧(J (List.range k) x)) (fun(k,x)=>secs n-k) (0,s0) ?_ (Conv.mk kr) slr ?_
 ·exact⟨zH _,(fun x hx=>by cases hx),hJ⟩
 rintro⟨k,x⟩ ⟨hk,hal,hJx⟩
 have hsn:secs n=(n+511) / 512:=rfl
 refine Rg [0,1,2,4,9] [dZ,(dS (sP b 0 n c))] (fun S=>[(cE S k1 0 (sP b 0 n c))]) ⟨(fun w1 h=>zI (h.own _ (inA ((hmem _ x hal hJx).1 _ mH)))),trivial⟩ ?_
 refine eC rfl (p:=((((512*k):Nat):Int)<(n:Int))) kr (fun c1=>?_) (fun c1=>?_)
 ·have hk2:k<secs n:=by unfold secs;omega
  have hR2:=range_split hk2
  have hmC:0<mC n k∧512*k+mC n k≤c∧mC n k≤512:=by unfold mC;omega
  have hmm:(if((n-512*k:Nat):Int)<(512:Int) then((n-512*k:Nat):Int) else(512:Int))=((mC n k:Nat):Int):=by unfold mC;split <;> omega
  refine yo rfl kr ([]++(A x++[])) ?_
  refine Ap [2] [] (some [0,1,2,4,15]) (bF 4 7) slr 6 n0 trivial ?_
  refine CfgA.two 0 1 kr (fuel':=5) rfl ?_ ?_
  ·
   refine Iu rfl  (qm (raw:=false) (orc:=some (.int .i64 512)) (v:=.int .i64 512) (nd:=(fun S=>[(cE S k2 0 (.int .i64 512))])) (fun _=>kr) ⟨(fun w1 h=>zI (h.own _ (inA ((hmem _ x hal hJx).1 _ (zf _ mH))))),trivial⟩ kr) (fun _ _=>slr) ?_
   refine Au 1 rfl 4  (qm (raw:=false) (orc:=some (sP b 0 n c)) (v:=sP b 0 n c) (nd:=(fun S=>[(cE S k1 0 (sP b 0 n c))])) (fun _=>kr) ⟨(fun w1 h=>zI (h.own _ (inA ((hmem _ x hal hJx).1 _ mH)))),trivial⟩ kr) (fun _ _=>slr) ?_
   refine Ap [3,4] [] (some [0,1,2,4,13,17]) (tF 5 2) slr 2 (fun _=>[(0≤(((512*k):Nat):Int)),(((512*k))≤n∧n≤c)]) ⟨om,om,trivial⟩ ?_
   refine Au 5 rfl 1  (Eff.minI2 (k:=.i64) (a:=(512:Int)) (b:=(((n-(((512*k)))):Nat):Int)) ((mC n k:Nat):Int) hmm rfl kr kr) (fun _ _=>slr) ?_
   refine Ap [6] [] (some [0,1,2,4,5]) (tF 7 0) slr 0 n0 trivial ?_
   refine z6 kr ?_
   refine Bp 9 [dZ,(dS (sP b 0 n c))] (some [0,1,2,4,19,20,21,24,27]) (fun S=>[(cE S k1 0 (sP b 0 n c)),(i6 ((((512*k):Nat):Int)+((mC n k):Int))),(i6 ((((512*k):Nat):Int)+((mC n k):Int)))]) ⟨(fun w1 h=>zI (h.own _ (inA ((hmem _ x hal hJx).1 _ mH)))),om,om,trivial⟩ ?_
   refine Lu (Eff.slice3D (b:=b) (n:=n) (c:=c) (i:=512*k) (d:=mC n k) rfl Tryz.underlying111 (e:=5) kr kr kr kr kr om) ?_
   refine CfgL.effI (o:=_) rfl kr kr (EffI.yield (ι:=σ) (vs:=[.slice (some ⟨b,512*k,none⟩) (mC n k) (mC n k)]) (fun _=>.bool (p k)) (A x) (fun y=>A y) (fun y=>J (List.range k++[k]) y) [] [] rfl rfl kr kr hps.symm (hmem _ x hal hJx).2 (fun w1 hh hdn=>hy _ x k _ hal hJx hR2 w1 hh hdn)) ?_
   rintro y hJy
   refine Ld 1 [0,1,2,4,30] ?_
   refine zX rfl (b:=(!(p k))) kr (fun c2r=>?_) (fun c2r=>?_)
   ·have c2:((p k)=false):=(notT c2r)
    refine yD rfl (rs:=[]) rfl [] trivial (fun w1 hp=>?_)
    have hv:vis p (List.range (secs n))=List.range k++[k]:=by rw[hR2];exact vis_stop hal (by simpa using c2r)
    rw[hv]
    have h3:HP w ((A s0).map (·.1)) [] ([]++(A y++[])) w1:=hp
    rw[yM,zm]at h3
    exact⟨y,hJy,rfl,_,h3⟩
   have c2:((p k)=true):=(notF c2r)
   refine Cfg.reg rfl [0,1,2,4] [dZ,(dS (.int .i64 512))] (Γ':=[(4,[],.int .i64 ((((512*k):Nat):Int)+512)),(0,[],.func (.yield l) #[] #[]),(1,[],pT k1),(2,[],pT k2)]) (nd:=(fun S=>[(cE S k2 0 (.int .i64 512)),(i6 ((((512*k):Nat):Int)+512))])) (fun _=>kr) ⟨(fun w1 h=>zI (h.own _ (inA ((hmem _ y (fun z hz=>mem_range_succ hal (by simpa using c2r) z (by rw[qc];exact hz)) hJy).1 _ (zf _ mH))))),om,trivial⟩ ?_
   refine sI 4 (show((((512*k):Nat):Int)+512)=(((512*(k+1)):Nat):Int)from by omega) ?_
   refine zG rfl (k+1,y) ⟨by omega,mem_range_succ hal (by simpa using c2r),qc▸hJy⟩ (by show secs n-(k+1)<secs n-k;omega) (Conv.mk kr) slr
  
  refine Iu rfl  (qm (raw:=false) (orc:=some (sP b 0 n c)) (v:=sP b 0 n c) (nd:=(fun S=>[(cE S k1 0 (sP b 0 n c))])) (fun _=>kr) ⟨(fun w1 h=>zI (h.own _ (inA ((hmem _ x hal hJx).1 _ mH)))),trivial⟩ kr) (fun _ _=>slr) ?_
  refine Ap [3,4] [] (some [0,1,2,4,17]) (bF 30 7) slr 3 (fun _=>[(0≤(((512*k):Nat):Int)),(((512*k))≤n∧n≤c)]) ⟨om,om,trivial⟩ ?_
  refine Au 0 rfl 2  (qm (raw:=false) (orc:=some (.int .i64 512)) (v:=.int .i64 512) (nd:=(fun S=>[(cE S k2 0 (.int .i64 512))])) (fun _=>kr) ⟨(fun w1 h=>zI (h.own _ (inA ((hmem _ x hal hJx).1 _ (zf _ mH))))),trivial⟩ kr) (fun _ _=>slr) ?_
  refine Au 5 rfl 1  (Eff.minI2 (k:=.i64) (a:=(512:Int)) (b:=(((n-(((512*k)))):Nat):Int)) ((mC n k:Nat):Int) hmm rfl kr kr) (fun _ _=>slr) ?_
  refine Ap [6] [] (some [0,1,2,4,5]) (tF 7 0) slr 0 n0 trivial ?_
  refine z6 kr ?_
  refine Bp 9 [dZ,(dS (sP b 0 n c))] (some [0,1,2,4,19,20,21,24,27]) (fun S=>[(cE S k1 0 (sP b 0 n c)),(i6 ((((512*k):Nat):Int)+((mC n k):Int))),(i6 ((((512*k):Nat):Int)+((mC n k):Int)))]) ⟨(fun w1 h=>zI (h.own _ (inA ((hmem _ x hal hJx).1 _ mH)))),om,om,trivial⟩ ?_
  refine Lu (Eff.slice3D (b:=b) (n:=n) (c:=c) (i:=512*k) (d:=mC n k) rfl Tryz.underlying111 (e:=5) kr kr kr kr kr om) ?_
  refine CfgL.effI (o:=_) rfl kr kr (EffI.yield (ι:=σ) (vs:=[.slice (some ⟨b,512*k,none⟩) (mC n k) (mC n k)]) (fun _=>.bool (p k)) (A x) (fun y=>A y) (fun y=>J (List.range k++[k]) y) [] [] rfl rfl kr kr hps.symm (hmem _ x hal hJx).2 (fun w1 hh hdn=>hy _ x k _ hal hJx hR2 w1 hh hdn)) ?_
  rintro y hJy
  refine Ld 1 [0,1,2,4,30] ?_
  refine zX rfl (b:=(!(p k))) kr (fun c3r=>?_) (fun c3r=>?_)
  ·have c3:((p k)=false):=(notT c3r)
   refine yD rfl (rs:=[]) rfl [] trivial (fun w1 hp=>?_)
   have hv:vis p (List.range (secs n))=List.range k++[k]:=by rw[hR2];exact vis_stop hal (by simpa using c3r)
   rw[hv]
   have h3:HP w ((A s0).map (·.1)) [] ([]++(A y++[])) w1:=hp
   rw[yM,zm]at h3
   exact⟨y,hJy,rfl,_,h3⟩
  have c3:((p k)=true):=(notF c3r)
  refine Rg [0,1,2,4] [dZ,(dS (.int .i64 512))] (fun S=>[(cE S k2 0 (.int .i64 512)),(i6 ((((512*k):Nat):Int)+512))]) ⟨(fun w1 h=>zI (h.own _ (inA ((hmem _ y (fun z hz=>mem_range_succ hal (by simpa using c3r) z (by rw[qc];exact hz)) hJy).1 _ (zf _ mH))))),om,trivial⟩ ?_
  refine sI 4 (show((((512*k):Nat):Int)+512)=(((512*(k+1)):Nat):Int)from by omega) ?_
  refine zG rfl (k+1,y) ⟨by omega,mem_range_succ hal (by simpa using c3r),qc▸hJy⟩ (by show secs n-(k+1)<secs n-k;omega) (Conv.mk kr) slr
 refine Cfg.fin rfl (rs:=[]) rfl [] trivial (fun w1 hp=>?_)
 have hke:k=secs n:=by omega
 rw[hke]at hal hJx
 rw[vis_all hal]
 have h3:HP w ((A s0).map (·.1)) [] ([]++(A x++[])) w1:=hp
 rw[yM,zm]at h3
 exact⟨x,hJx,rfl,_,h3⟩
theorem chunkIt (k1 k2 b n c:Nat) (hn:n≤32768) (hc:n≤c) :
  IterSpec Tryz.prog 123 #[.pointer (some ⟨k1,0,none⟩),.pointer (some ⟨k2,0,none⟩)] [(k1,Obj.cells #[.slice (some ⟨b,0,none⟩) n c] 111 (0,0)),(k2,Obj.cells #[.int .i64 512] 3 (0,0))] (List.range (secs n)) (fun(k:Nat)=>Value.slice (some ⟨b,512*k,none⟩) (mC n k) (mC n k)):=
 fun l dr fi T ps assign body σ A J s0 p w hps hJ hA hd hmem hy=>chunkIt0 l dr k1 k2 b n c fi T ps assign body σ A J s0 p w hn hc hps hJ hA hd hmem hy
end
section
open K
theorem shd_w {ps:List Pl} (hl:ps.length=144) (ho:∀p∈ps,PlOk p) {n:Nat} (hn:n<24):(yN ps n).length=512:=sheetF_len hl hn ho
def shWs (ps:List Pl) (i:Nat):List Wr:=(List.range i).map fun(n:Nat)=>((97:Int)+(n:Int),yN ps n)
theorem shWs_next (ps:List Pl) (i:Nat):shWs ps (i+1)=shWs ps i++[((97:Int)+(i:Int),yN ps i)]:=by unfold shWs;rw[qc,yf];rfl
theorem shWs_len (ps:List Pl) (i:Nat):(shWs ps i).length=i:=by unfold shWs;rw[zA,qk]
theorem shWs_jv (ps:List Pl) (i:Nat):jv (shWs ps i)++jc ((97:Int)+(i:Int),yN ps i)=jv (shWs ps (i+1)):=by rw[shWs_next,jv_app,jv_one]
def chL (da:ByteArray) (k:Nat):List UInt8:=(da.data.toList.drop (512*k)).take 512
def qt (da:ByteArray) (k:Nat):List UInt8:=chL da k++replicate (512-(chL da k).length) 0
theorem chL_len (da:ByteArray) (k:Nat):(chL da k).length=mC da.size k:=by
 unfold chL mC
 rw[z8,qg,ba_len]
theorem chunkF_len (da:ByteArray) (k:Nat):(qt da k).length=512:=by
 have h:=chL_len da k
 unfold mC at h
 unfold qt
 rw[zh,zk];omega
def fileW (p:Pl) (da:ByteArray) (i:Nat):List Wr:=(List.range i).map fun(k:Nat)=>(((p.at_+k:Nat):Int),qt da k)
theorem fileW_next (p:Pl) (da:ByteArray) (i:Nat):fileW p da (i+1)=fileW p da i++[(((p.at_+i:Nat):Int),qt da i)]:=by unfold fileW;rw[qc,yf];rfl
theorem fileW_len (p:Pl) (da:ByteArray) (i:Nat):(fileW p da i).length=i:=by unfold fileW;rw[zA,qk]
theorem fileW_jv (s:List Wr) (p:Pl) (da:ByteArray) (i:Nat):jv (s++fileW p da i)++jc (((p.at_+i:Nat):Int),qt da i)=jv (s++fileW p da (i+1)):=by rw[fileW_next,←zO,jv_app (s++fileW p da i),jv_one]
def keyW (T:Tb) (dm:Dm) (k:Int):List Wr:=fileW (T.ps.getD k.toNat plz) ((gget dm k).getD ByteArray.empty) (secs ((gget dm k).getD ByteArray.empty).size)
def keysF (dm:Dm):List Int:=srt (dm.map (·.1))
def secJ (T:Tb) (dm:Dm) (j:Nat):List Wr:=shWs T.ps 24++((keysF dm).take j).flatMap (keyW T dm)
def secF (T:Tb) (dm:Dm):List Wr:=shWs T.ps 24++(keysF dm).flatMap (keyW T dm)
theorem secJ_0 (T:Tb) (dm:Dm):secJ T dm 0=shWs T.ps 24:=by unfold secJ;rw[qG];exact zm _
theorem keysF_len (Dt:List (Int×DE)):(keysF (dmF Dt)).length=Dt.length:=by unfold keysF dmF;rw[srt_len,zA,zA]
theorem dv_len (Dt:List (Int×DE)):(dv Dt).length=Dt.length:=by unfold dv;rw[zA]
theorem dv_keys (Dt:List (Int×DE)):srt ((dv Dt).map (·.1))=keysF (dmF Dt):=by unfold dv keysF dmF;rw[q5,q5];rfl
theorem DtOk.len {Dt:List (Int×DE)} {Ds:List DE} (h:DtOk Dt Ds):Dt.length≤144:=by
 have:=nodup_len 144 (Dt.map (·.1)) h.nd (fun x hx=>by obtain⟨p,hp,rfl⟩:=zv.1 hx;exact h.k p hp)
 rwa [zA]at this
theorem gget_in {α:Type} {W:List (Int×α)} {k:Int} {v:α} (h:gget W k=some v):(k,v)∈W:=by
 induction W with
 | nil=>cases h
 | cons p W ih=>
  unfold gget at h
  split at h
  ·rename_i hk
   injection h with h
   rw[hk,←h];exact mH
  ·exact zf _ (ih h)
theorem gget_is {α:Type} {W:List (Int×α)} {k:Int} (h:k∈W.map (·.1)):∃v,gget W k=some v:=by
 induction W with
 | nil=>cases h
 | cons p W ih=>
  unfold gget
  split
  ·exact⟨_,rfl⟩
  ·rename_i hk
   rcases zq.1 h with h|h
   ·exact absurd h hk
   ·exact ih h
theorem key_dt {Dt:List (Int×DE)} {Ds:List DE} (h:DtOk Dt Ds) {j:Nat} (hj:j<Dt.length):∃(k:Nat) (d:DE),(keysF (dmF Dt)).getD j 0=(k:Int)∧k<144∧gget Dt (k:Int)=some d∧d∈Ds:=by
 have hk:j<(keysF (dmF Dt)).length:=by rw[keysF_len];exact hj
 have h1:(keysF (dmF Dt)).getD j 0∈keysF (dmF Dt):=by rw[zc,zd hk];exact qr hk
 have h2:(keysF (dmF Dt)).getD j 0∈Dt.map (·.1):=by
  have h3:=(srt_perm _).mem_iff.1 h1
  unfold dmF at h3 ⊢
  rw[q5]at h3;exact h3
 obtain⟨p,hp,e⟩:=zv.1 h2
 have hr:=h.k p hp
 obtain⟨k,hk2⟩:=Int.eq_ofNat_of_zero_le hr.1
 rw[←e,hk2]
 obtain⟨d,hd⟩:=gget_is (W:=Dt) (k:=(k:Int)) (by rw[←hk2];exact zv.2 ⟨p,hp,rfl⟩)
 exact⟨k,d,rfl,by omega,hd,h.i _ (gget_in hd)⟩
theorem mget_dv {Dt:List (Int×DE)} {k:Int} {d:DE} (h:gget Dt k=some d):mget (dv Dt) k=some (dval d):=by
 rw[mget_g]
 unfold dv
 rw[gget_map dval,h];rfl
theorem keyW_at {Dt:List (Int×DE)} {k:Nat} {d:DE} (h:gget Dt (k:Int)=some d) (T:Tb):keyW T (dmF Dt) (k:Int)=fileW (T.ps.getD k plz) d.2 (secs d.2.size):=by
 have e:gget (dmF Dt) (k:Int)=some d.2:=by unfold dmF;rw[gget_map (fun d:DE=>d.2),h];rfl
 unfold keyW
 rw[e,yk];rfl
theorem secJ_next {Dt:List (Int×DE)} {j k:Nat} {d:DE} (hj:j<Dt.length) (hk:(keysF (dmF Dt)).getD j 0=(k:Int)) (h:gget Dt (k:Int)=some d) (T:Tb):secJ T (dmF Dt) (j+1)=secJ T (dmF Dt) j++fileW (T.ps.getD k plz) d.2 (secs d.2.size):=by
 have hl:j<(keysF (dmF Dt)).length:=by rw[keysF_len];exact hj
 unfold secJ
 rw[zV hl,yY,←keyW_at h T,←hk,zO,zc,zd hl,yv,qY,zm];rfl
theorem dsO_in:∀ {Ds:List DE} {d:DE},d∈Ds→∀e∈d.1.o 5 (bv d.2.data.toList).toList,e∈dsO Ds
 | x::Ds,d,h,e,he=>by
  unfold dsO
  rcases zq.1 h with h|h
  ·exact mL (h▸he)
  exact mR (dsO_in h e he)
theorem bat_ds {z:BM} {v:BV} {T:Tb} {d:DE} (h:d∈v.Ds) {e:Nat×Obj} (he:e∈d.1.o 5 (bv d.2.data.toList).toList):e∈batO z v T:=zf _ (zf _ (zf _ (zf _ (qJ _ (dsO_in h e he)))))
theorem range_hit {m:Nat} {pre rest:List Nat} {a:Nat} (h:List.range m=pre++a::rest):pre.length=a∧a<m:=by
 have hl:=congrArg List.length h
 rw[qk,zh,zL]at hl
 have h1:(List.range m)[pre.length]? = some a:=by rw[h,yd (zD _),qH];rfl
 rw[List.getElem?_range om]at h1
 injection h1 with h1
 exact⟨h1,by omega⟩
theorem bv_drop (L:List UInt8) (i j:Nat) {v:Value} (h:(bv ((L.drop i).take 512)).toList[j]? = some v):(bv L).toList[i+j]? = some v:=by
 have e:∀l:List UInt8,(bv l).toList=l.map fun x=>Value.int .u8 (x.toNat:Int):=fun l=>rfl
 rw[e,qa]at h ⊢
 rw[List.getElem?_take]at h
 split at h
 ·rw[List.getElem?_drop]at h;exact h
 cases h
theorem chunk_src {w:World} {d:DE} {t:TypeId} (h:w.heap[d.1.b]? = some (.cells ((bv d.2.data.toList).toList++d.1.junk).toArray t d.1.fr)) {k j:Nat} {v:Value} (hj:(bv (chL d.2 k)).toList[j]? = some v):w.cell? ⟨d.1.b,512*k+j,none⟩=some v:=by
 have h1:=bv_drop d.2.data.toList (512*k) j hj
 rw[zI h,zo,zJ (yu.1 h1).1];exact h1
theorem jc_copy (a:Int) {L:List UInt8} (h:L.length≤512):spl (jc (a,zb)).toArray 1 (bv L).toList=(jc (a,L++replicate (512-L.length) 0)).toArray:=by
 have e:∀l:List UInt8,(bv l).toList=l.map fun x=>Value.int .u8 (x.toNat:Int):=fun l=>rfl
 have hz:(bv zb).toList=(bv (replicate L.length 0)).toList++(bv (replicate (512-L.length) 0)).toList:=by
  rw[e,e,e,←yf,List.replicate_append_replicate,show L.length+(512-L.length)=512 by omega];rfl
 have h2:=spl_at (L:=jc (a,zb)) (A:=[Value.int .i64 a]) (B:=(bv (replicate L.length 0)).toList) (T:=(bv (replicate (512-L.length) 0)).toList) (vs:=(bv L).toList) (off:=1) (by unfold jc;rw[hz];simp only[List.cons_append,List.nil_append]) rfl (by rw[z7,z7,zP,zP,zk])
 rw[h2]
 unfold jc
 rw[e L,e (L++_),yf,e];simp only[List.cons_append,List.nil_append]
theorem fSectors (z:BM) (v:BV) (T:Tb) (w:World) (hR:Has w (batO z v T)) (hb:BOk v T) :
  Calls Tryz.prog 37 #[.pointer (some ⟨z.bb,0,none⟩)] w fun e w'=>∃o:K.Own,OwnOk o 513 (secF T (dmF v.Dt)).length (jv (secF T (dmF v.Dt)))∧e=.returned (.slice (Own.a o) (secF T (dmF v.Dt)).length (Own.c o))∧∃R1,HP w [] R1 (Own.o 101 (jv (secF T (dmF v.Dt))) o) w':=by
 have hdl:=hb.d.len
 refine enterM [] (batO z v T) [] Tryz.func37 rfl kr (yj hR) ?_
 refine Rq [0] ?_
 refine Be rfl rfl (zM (z:=(.slice none 0 0)) rfl kr) ?_
 rintro lb ⟨hlb,nlb⟩
 refine zg rfl ?_
 refine Rq [0,3,10] ?_
 refine oB 0 rfl (show _ = #[sO none 0]from rfl) ?_
 refine ye rfl (ι:=Nat×K.Own) (fun(i,or)=>[(10,[],iN i),(3,[],pT lb),(0,[],pT z.bb)]) (fun(i,or)=>([cl lb #[sO or i] 98]++(Own.o 101 (jv (shWs T.ps i)) or++[]))) (fun(i,or)=>(i≤24)∧(OwnOk or 513 i (jv (shWs T.ps i)))) (fun(i,or)=>24-i) (0,none) ?_ (Conv.mk kr) slr ?_
 ·exact⟨zH _,OwnOk.none _⟩
 rintro⟨i,or⟩ ⟨hi,hor⟩
 refine Rq [0,3,10,11] ?_
 refine eC rfl (p:=((i:Int)<(24:Int))) kr (fun c1=>?_) (fun c1=>?_)
 ·refine Rq [0,3,4,10] ?_
  refine yo rfl kr [] ?_
  refine Ap [1,2,3,4,5,6,7] [dZ,dZ,dZ,dZ,dZ,(dS (pT z.tb))] (some [0,3,10,15,19,20]) (bF 254 13) (.cons _ nL) 6 (fun S=>[(i6 (97+(i:Int))),(∀w1,S w1→w1.cell? ⟨z.bb,0,none⟩=some (pT z.tb))]) ⟨om,(rC 0 rfl rfl),trivial⟩ ?_
  refine CfgA.two 0 8 kr (fuel':=5) rfl ?_ ?_
  ·
   refine Iu rfl  (qm (raw:=false) (orc:=some (sO or i)) (v:=sO or i) (nd:=(fun S=>[(cE S lb 0 (sO or i))])) (fun _=>kr) ⟨(oC 0 rfl rfl),trivial⟩ kr) (fun _ _=>zz _) ?_
   refine Au 8 rfl 4  (zr (.agg (bv (yN T.ps i))) rfl Tryz.func72 rfl rfl kr (fun w1 h=>fSheet z.tb z.nr z.rm T.ps i w1 (fun e he=>by rw[zi.1 he];exact(h.ro _ (mG 2 rfl))) hb.tb.l hb.tb.o om)) (fun _ _=>zz _) ?_
   refine Ap [9] [(dS (.agg (jc ((97+(i:Int)),yN T.ps i)).toArray))] (some [0,3,10,13,22]) (tF 10 3) (.cons _ nL) 3 (fun S=>[(∀w1,S w1→(Instr.build 101 #[(0,.int .i64 (97+(i:Int))),(1,.agg (bv (yN T.ps i)))]).run Tryz.prog w1=.ok (.agg (jc ((97+(i:Int)),yN T.ps i)).toArray) w1)]) ⟨(fun w1 _=>build_wr ((97+(i:Int))) (shd_w hb.tb.l hb.tb.o om) w1),trivial⟩ ?_
   refine Ae 10 rfl 2  (yR (vs:=(jc ((97+(i:Int)),yN T.ps i)).toArray) (n:=513) rfl kr Tryz.underlying98 kr (z:=(.agg (jc wz).toArray)) kr (by rw[zp];exact yl (shd_w hb.tb.l hb.tb.o om)) (by decide) (by decide)) (fun _ _=>zz _) ?_
   rintro wb ⟨hwb,nwb⟩
   refine Ae 11 rfl 1  (y8 rfl 513 520 Tryz.underlying98 kr (z:=(.agg (jc wz).toArray)) kr kr or (xs:=(jv (shWs T.ps i))) hor kr (b2:=wb) (off2:=0) (m:=1) (c2:=1) kr (jc ((97+(i:Int)),yN T.ps i)) (yl (shd_w hb.tb.l hb.tb.o om)) (jc_all _) [(wb,.cells ((jc ((97+(i:Int)),yN T.ps i)).toArray) 101 (0,0)),(lb,.cells #[.slice (Own.a or) i (Own.c or)] 98 (0,0))] [] (by rfl) (fun w1 h j v hj=>by rw[zF];exact h.ocell 0 rfl (by rw[zo];exact hj)) om om) (fun _ _=>zz _) ?_
   rintro o2 ko2
   refine Au 12 rfl 0  (zS (b:=lb) (off:=0) (v:=sO o2 ((i+1))) rfl kr kr rfl kr 1 (cs:=#[sO or i]) (e:=98) kr (by show 0<1;decide)) (fun _ _=>zz _) ?_
   refine z6 kr ?_
   refine Cg (Γ':=[(10,[],iN i),(3,[],pT lb),(0,[],pT z.bb)]) ?_
   refine Rg [0,3,10] [] (fun _=>[(i6 ((i:Int)+1))]) ⟨om,trivial⟩ ?_
   have hrv:=shWs_jv T.ps i
   refine zU (congrArg (fun(xq:Array Value)=>(([cl wb ((jc ((97+(i:Int)),yN T.ps i)).toArray) 101,cl lb xq 98]++(Own.o 101 ((jv (shWs T.ps i))++(jc ((97+(i:Int)),yN T.ps i))) o2++[])):LO)) (show _ = #[sO o2 ((i+1))]from rfl)) ?_
   refine zU (congrArg (fun(xq:List Value)=>(([cl wb ((jc ((97+(i:Int)),yN T.ps i)).toArray) 101,cl lb #[sO o2 ((i+1))] 98]++(Own.o 101 xq o2++[])):LO)) (show _=(jv (shWs T.ps (i+1)))from hrv)) ?_
   refine zG rfl (i+1,o2) ⟨by omega,hrv▸ko2⟩ (by show 24-(i+1)<24-i;omega) (Conv.mk kr) (.cons _ slr)
  
  refine Iu rfl  (zr (.agg (bv (yN T.ps i))) rfl Tryz.func72 rfl rfl kr (fun w1 h=>fSheet z.tb z.nr z.rm T.ps i w1 (fun e he=>by rw[zi.1 he];exact(h.ro _ (mG 2 rfl))) hb.tb.l hb.tb.o om)) (fun _ _=>zz _) ?_
  refine Ap [9] [(dS (.agg (jc ((97+(i:Int)),yN T.ps i)).toArray))] (some [0,3,10,22]) (bF 1022 13) (.cons _ nL) 4 (fun S=>[(∀w1,S w1→(Instr.build 101 #[(0,.int .i64 (97+(i:Int))),(1,.agg (bv (yN T.ps i)))]).run Tryz.prog w1=.ok (.agg (jc ((97+(i:Int)),yN T.ps i)).toArray) w1)]) ⟨(fun w1 _=>build_wr ((97+(i:Int))) (shd_w hb.tb.l hb.tb.o om) w1),trivial⟩ ?_
  refine CfgA.two 0 10 kr (fuel':=3) rfl ?_ ?_
  ·
   refine Iu rfl  (qm (raw:=false) (orc:=some (sO or i)) (v:=sO or i) (nd:=(fun S=>[(cE S lb 0 (sO or i))])) (fun _=>kr) ⟨(oC 0 rfl rfl),trivial⟩ kr) (fun _ _=>zz _) ?_
   refine Ae 10 rfl 2  (yR (vs:=(jc ((97+(i:Int)),yN T.ps i)).toArray) (n:=513) rfl kr Tryz.underlying98 kr (z:=(.agg (jc wz).toArray)) kr (by rw[zp];exact yl (shd_w hb.tb.l hb.tb.o om)) (by decide) (by decide)) (fun _ _=>zz _) ?_
   rintro wb ⟨hwb,nwb⟩
   refine Ae 11 rfl 1  (y8 rfl 513 520 Tryz.underlying98 kr (z:=(.agg (jc wz).toArray)) kr kr or (xs:=(jv (shWs T.ps i))) hor kr (b2:=wb) (off2:=0) (m:=1) (c2:=1) kr (jc ((97+(i:Int)),yN T.ps i)) (yl (shd_w hb.tb.l hb.tb.o om)) (jc_all _) [(wb,.cells ((jc ((97+(i:Int)),yN T.ps i)).toArray) 101 (0,0)),(lb,.cells #[.slice (Own.a or) i (Own.c or)] 98 (0,0))] [] (by rfl) (fun w1 h j v hj=>by rw[zF];exact h.ocell 0 rfl (by rw[zo];exact hj)) om om) (fun _ _=>zz _) ?_
   rintro o4 ko4
   refine Au 12 rfl 0  (zS (b:=lb) (off:=0) (v:=sO o4 ((i+1))) rfl kr kr rfl kr 1 (cs:=#[sO or i]) (e:=98) kr (by show 0<1;decide)) (fun _ _=>zz _) ?_
   refine z6 kr ?_
   refine Cg (Γ':=[(10,[],iN i),(3,[],pT lb),(0,[],pT z.bb)]) ?_
   refine Rg [0,3,10] [] (fun _=>[(i6 ((i:Int)+1))]) ⟨om,trivial⟩ ?_
   have hrv:=shWs_jv T.ps i
   refine zU (congrArg (fun(xq:Array Value)=>(([cl wb ((jc ((97+(i:Int)),yN T.ps i)).toArray) 101,cl lb xq 98]++(Own.o 101 ((jv (shWs T.ps i))++(jc ((97+(i:Int)),yN T.ps i))) o4++[])):LO)) (show _ = #[sO o4 ((i+1))]from rfl)) ?_
   refine zU (congrArg (fun(xq:List Value)=>(([cl wb ((jc ((97+(i:Int)),yN T.ps i)).toArray) 101,cl lb #[sO o4 ((i+1))] 98]++(Own.o 101 xq o4++[])):LO)) (show _=(jv (shWs T.ps (i+1)))from hrv)) ?_
   refine zG rfl (i+1,o4) ⟨by omega,hrv▸ko4⟩ (by show 24-(i+1)<24-i;omega) (Conv.mk kr) (.cons _ slr)
  
  refine Ie rfl  (yR (vs:=(jc ((97+(i:Int)),yN T.ps i)).toArray) (n:=513) rfl kr Tryz.underlying98 kr (z:=(.agg (jc wz).toArray)) kr (by rw[zp];exact yl (shd_w hb.tb.l hb.tb.o om)) (by decide) (by decide)) (fun _ _=>zz _) ?_
  rintro wb ⟨hwb,nwb⟩
  refine Au 0 rfl 2  (qm (raw:=false) (orc:=some (sO or i)) (v:=sO or i) (nd:=(fun S=>[(cE S lb 0 (sO or i))])) (fun _=>kr) ⟨(oC 1 rfl rfl),trivial⟩ kr) (fun _ _=>zz _) ?_
  refine Ae 11 rfl 1  (y8 rfl 513 520 Tryz.underlying98 kr (z:=(.agg (jc wz).toArray)) kr kr or (xs:=(jv (shWs T.ps i))) hor kr (b2:=wb) (off2:=0) (m:=1) (c2:=1) kr (jc ((97+(i:Int)),yN T.ps i)) (yl (shd_w hb.tb.l hb.tb.o om)) (jc_all _) [(wb,.cells ((jc ((97+(i:Int)),yN T.ps i)).toArray) 101 (0,0)),(lb,.cells #[.slice (Own.a or) i (Own.c or)] 98 (0,0))] [] (by rfl) (fun w1 h j v hj=>by rw[zF];exact h.ocell 0 rfl (by rw[zo];exact hj)) om om) (fun _ _=>zz _) ?_
  rintro o5 ko5
  refine Au 12 rfl 0  (zS (b:=lb) (off:=0) (v:=sO o5 ((i+1))) rfl kr kr rfl kr 1 (cs:=#[sO or i]) (e:=98) kr (by show 0<1;decide)) (fun _ _=>zz _) ?_
  refine z6 kr ?_
  refine Cg (Γ':=[(10,[],iN i),(3,[],pT lb),(0,[],pT z.bb)]) ?_
  refine Rg [0,3,10] [] (fun _=>[(i6 ((i:Int)+1))]) ⟨om,trivial⟩ ?_
  have hrv:=shWs_jv T.ps i
  refine zU (congrArg (fun(xq:Array Value)=>(([cl wb ((jc ((97+(i:Int)),yN T.ps i)).toArray) 101,cl lb xq 98]++(Own.o 101 ((jv (shWs T.ps i))++(jc ((97+(i:Int)),yN T.ps i))) o5++[])):LO)) (show _ = #[sO o5 ((i+1))]from rfl)) ?_
  refine zU (congrArg (fun(xq:List Value)=>(([cl wb ((jc ((97+(i:Int)),yN T.ps i)).toArray) 101,cl lb #[sO o5 ((i+1))] 98]++(Own.o 101 xq o5++[])):LO)) (show _=(jv (shWs T.ps (i+1)))from hrv)) ?_
  refine zG rfl (i+1,o5) ⟨by omega,hrv▸ko5⟩ (by show 24-(i+1)<24-i;omega) (Conv.mk kr) (.cons _ slr)
 have hi24:i=24:=by omega
 refine Bp 4 [dZ,dZ,dZ,(dS (.map (some z.db)))] (some [0,3,29]) (fun S=>[(∀w1,S w1→w1.cell? ⟨z.bb,1,none⟩=some (.map (some z.db)))]) ⟨(rC 0 rfl rfl),trivial⟩ ?_
 refine Le (Eff.callN (fun tq=>.func (.func 122) #[] #[pT tq]) (fun tq=>tq) (fun _=>.cells #[.map (some z.db)] 94 (0,0)) (fun _=>True) rfl Tryz.func79 rfl rfl kr (fun w1 h=>mKeysI z.db w1)) ?_
 rintro tq -
 refine Le (Eff.callOF (vs:=[.func (.func 122) #[] #[pT tq]]) 3 1 v.Dt.length ((keysF (dmF v.Dt)).map Go.encZ) [cl tq #[.map (some z.db)] 94,cl lb #[sO or i] 98] (Own.o 101 (jv (shWs T.ps i)) or++[]) rfl rfl Tryz.func78 rfl rfl kr (fun w1 h=>by have h9:=sorted_gives L.ksorted79 tq z.db v.y.1 v.y.2 (dv v.Dt) w1 hb.m (h.ro _ (mG 1 rfl)) (fun p hp=>by obtain⟨q,hq,rfl⟩:=zv.1 hp;have:=hb.d.k q hq;simp only;omega) (by rw[dv_len];omega) (h.ocell 0 rfl rfl);rw[dv_len,dv_keys]at h9;exact h9)) ?_
 rintro ok kok
 refine Ld 2 [0,3,31,32,33] ?_
 refine zU (congrArg (fun(xq:Array Value)=>(([(tq,.cells #[.map (some z.db)] 94 (0,0)),(lb,.cells xq 98 (0,0))]++(Own.o 3 ((keysF (dmF v.Dt)).map Go.encZ) ok++(Own.o 101 (jv (shWs T.ps i)) or++[]))):LO)) (show _ = #[.slice (Own.a or) ((secJ T (dmF v.Dt) 0).length) (Own.c or)]from by rw[secJ_0,shWs_len,hi24])) ?_
 refine zU (congrArg (fun(xq:List Value)=>(([(tq,.cells #[.map (some z.db)] 94 (0,0)),(lb,.cells #[.slice (Own.a or) ((secJ T (dmF v.Dt) 0).length) (Own.c or)] 98 (0,0))]++(Own.o 3 ((keysF (dmF v.Dt)).map Go.encZ) ok++(Own.o 101 xq or++[]))):LO)) (show _=(jv (secJ T (dmF v.Dt) 0))from by rw[secJ_0,hi24])) ?_
 refine Cfg.loopM rfl (ι:=Nat×K.Own×List Nat) (fun(j,ow,D)=>D) (fun(j,ow,D)=>[(33,[],iN j),(32,[],iN v.Dt.length),(31,[],sO ok v.Dt.length),(3,[],pT lb),(0,[],pT z.bb)]) (fun(j,ow,D)=>([cl lb #[sO ow ((secJ T (dmF v.Dt) j).length)] 98]++(Own.o 3 ((keysF (dmF v.Dt)).map Go.encZ) ok++(Own.o 101 (jv (secJ T (dmF v.Dt) j)) ow++(markO D++[]))))) (fun(j,ow,D)=>(j≤v.Dt.length)∧((secJ T (dmF v.Dt) j).length≤24+64*j)∧(OwnOk ow 513 (secJ T (dmF v.Dt) j).length (jv (secJ T (dmF v.Dt) j)))) (fun(j,ow,D)=>v.Dt.length-j) (0,or,[]) ?_ rfl (Conv.mk kr) (.cons _ slr) ?_
 ·exact⟨zH _,by rw[secJ_0,shWs_len];omega,by rw[secJ_0,shWs_len];exact hi24▸hor⟩
 rintro⟨j,ow,D⟩ ⟨hj,hln,how⟩
 refine Rq [0,3,31,32,33,34] ?_
 refine eC rfl (p:=((j:Int)<(v.Dt.length:Int))) kr (fun c2=>?_) (fun c2=>?_)
 ·obtain⟨⟨ob,oc,oj⟩,hok2⟩:=own_some kok om
  obtain⟨k,d,hkk,hk,hgd,hdm⟩:=key_dt hb.d (j:=j) om
  obtain⟨P,hP⟩:∃P,P=T.ps.getD k plz:=⟨_,rfl⟩
  have hstep:=secJ_next om hkk hgd T
  rw[←hP]at hstep
  have hds:=hb.d.s d hdm
  have hsd:secs d.2.size≤64:=by have:=hds.2;unfold secs;omega
  have hPo:PlOk P:=by rw[hP];exact hb.tb.o _ (K.getD_mem (by rw[hb.tb.l];exact hk))
  have hPa:=hPo.at_
  have hdc:d.2.size≤d.1.cap:=by have:=hds.1.junk;omega
  refine zN 31 (show .slice (Own.a ok) v.Dt.length (Own.c ok)=.slice (some ⟨ob,0,none⟩) v.Dt.length oc from by rw[hok2];rfl) ?_
  refine Rg [0,3,6,31,32,33] [dZ,(dS (.int .i64 ((keysF (dmF v.Dt)).getD j 0)))] (fun S=>[(iL (j:Int) (v.Dt.length:Int)),(cE S ob j (.int .i64 ((keysF (dmF v.Dt)).getD j 0)))]) ⟨om,(fun w1 h=>key_cell (h.own (ob,Obj.cells (((keysF (dmF v.Dt)).map Go.encZ)++oj).toArray 3 (0,0)) (show(ob,Obj.cells (((keysF (dmF v.Dt)).map Go.encZ)++oj).toArray 3 (0,0))∈([cl lb #[sO ow ((secJ T (dmF v.Dt) j).length)] 98]++(Own.o 3 ((keysF (dmF v.Dt)).map Go.encZ) ok++(Own.o 101 (jv (secJ T (dmF v.Dt) j)) ow++(markO D++[]))))from mR (mL (by rw[hok2];exact mH)))) (by rw[keysF_len];omega)),trivial⟩ ?_
  refine sI 6 (show((keysF (dmF v.Dt)).getD j 0)=(k:Int)from hkk) ?_
  refine Bp 10 [dZ,dZ,dZ,(dS (pT z.tb)),dZ,dZ,dZ,dZ,dZ,(dS (iN P.at_))] (some [0,3,6,31,32,33,46]) (fun S=>[(∀w1,S w1→w1.cell? ⟨z.bb,0,none⟩=some (pT z.tb)),(iL (k:Int) 144),(∀w1,S w1→w1.cell? ⟨z.tb,((k*3)+1),none⟩=some (iN P.at_))]) ⟨(rC 0 rfl rfl),om,(fun w1 h=>h.rcell 2 rfl (tb_cell (by rw[hb.tb.l];exact hk) (by rw[←hP];rfl))),trivial⟩ ?_
  refine Le (zM (z:=(.int .i64 0)) rfl kr) ?_
  rintro ab ⟨hab,nab⟩
  refine Lu (zS (b:=ab) (off:=0) (v:=iN P.at_) rfl kr kr rfl kr 0 (cs:=#[.int .i64 0]) (e:=3) kr (by show 0<1;decide)) ?_
  refine zg rfl ?_
  refine Cg (Γ':=[(7,[],pT ab),(6,[],iN k),(33,[],iN j),(32,[],iN v.Dt.length),(31,[],sP ob 0 v.Dt.length oc),(3,[],pT lb),(0,[],pT z.bb)]) ?_
  refine Bp 5 [dZ,dZ,dZ,(dS (.map (some z.db)))] (some [0,3,7,31,32,33,50,51]) (fun S=>[(∀w1,S w1→w1.cell? ⟨z.bb,1,none⟩=some (.map (some z.db)))]) ⟨(rC 0 rfl rfl),trivial⟩ ?_
  refine Lu (Eff.mapGetV (z:=.slice none 0 0) (r:=z.db) (k:=(k:Int)) (v:=dval d) rfl Tryz.underlying94 Tryz.underlying3 kr kr kr hb.m (fun w1 h=>(h.ro _ (mG 1 rfl))) (mget_dv hgd)) ?_
  refine Le (zY (fun q:Nat×Nat=>.func (.func 123) #[] #[pT q.1,pT q.2]) [] (fun q=>[cl q.2 #[.int .i64 512] 3,cl q.1 #[sP d.1.b 0 d.2.size d.1.cap] 111]) (fun _=>True) [] (([cl ab (#[.int .i64 0].setIfInBounds 0 (iN P.at_)) 3,cl lb #[sO ow ((secJ T (dmF v.Dt) j).length)] 98]++(Own.o 3 ((keysF (dmF v.Dt)).map Go.encZ) ok++(Own.o 101 (jv (secJ T (dmF v.Dt) j)) ow++(markO D++[]))))) rfl rfl Tryz.func80 rfl rfl kr (fun w1 h _ _=>fChunk d.1.b d.2.size d.1.cap w1)) ?_
  rintro⟨k1,k2⟩ -
  refine zg rfl ?_
  refine Cg (Γ':=[(53,[],.func (.func 123) #[] #[pT k1,pT k2]),(7,[],pT ab),(33,[],iN j),(32,[],iN v.Dt.length),(31,[],sP ob 0 v.Dt.length oc),(3,[],pT lb),(0,[],pT z.bb)]) ?_
  refine zU (congrArg (fun(xq:Array Value)=>(([cl k2 #[.int .i64 512] 3,cl k1 #[sP d.1.b 0 d.2.size d.1.cap] 111,cl ab xq 3,cl lb #[sO ow ((secJ T (dmF v.Dt) j).length)] 98]++(Own.o 3 ((keysF (dmF v.Dt)).map Go.encZ) ok++(Own.o 101 (jv (secJ T (dmF v.Dt) j)) ow++(markO D++[])))):LO)) (show _ = #[iN ((P.at_+0))]from rfl)) ?_
  refine zU (congrArg (fun(xq:Array Value)=>(([cl k2 #[.int .i64 512] 3,cl k1 #[sP d.1.b 0 d.2.size d.1.cap] 111,cl ab #[iN ((P.at_+0))] 3,cl lb xq 98]++(Own.o 3 ((keysF (dmF v.Dt)).map Go.encZ) ok++(Own.o 101 (jv (secJ T (dmF v.Dt) j)) ow++(markO D++[])))):LO)) (show _ = #[sO ow (((secJ T (dmF v.Dt) j).length+0))]from rfl)) ?_
  refine zU (congrArg (fun(xq:List Value)=>(([cl k2 #[.int .i64 512] 3,cl k1 #[sP d.1.b 0 d.2.size d.1.cap] 111,cl ab #[iN ((P.at_+0))] 3,cl lb #[sO ow (((secJ T (dmF v.Dt) j).length+0))] 98]++(Own.o 3 ((keysF (dmF v.Dt)).map Go.encZ) ok++(Own.o 101 xq ow++(markO D++[])))):LO)) (show _=(jv ((secJ T (dmF v.Dt) j)++fileW P d.2 0)) from(congrArg jv (zm _)).symm)) ?_
  refine Cfg.rangeJ rfl (caps:=#[pT k1,pT k2]) kr Tryz.func123 kr rfl kr (chunkIt k1 k2 d.1.b d.2.size d.1.cap hds.2 hdc) (σ:=K.Own×Nat) (fun(x:K.Own×Nat)=>([cl k2 #[.int .i64 512] 3,cl k1 #[sP d.1.b 0 d.2.size d.1.cap] 111,cl ab #[iN ((P.at_+x.2))] 3,cl lb #[sO x.1 (((secJ T (dmF v.Dt) j).length+x.2))] 98]++(Own.o 3 ((keysF (dmF v.Dt)).map Go.encZ) ok++(Own.o 101 (jv ((secJ T (dmF v.Dt) j)++fileW P d.2 x.2)) x.1++(markO D++[]))))) (fun(pre:List Nat) (x:K.Own×Nat)=>x.2=pre.length∧OwnOk x.1 513 ((secJ T (dmF v.Dt) j).length+x.2) (jv ((secJ T (dmF v.Dt) j)++fileW P d.2 x.2))) (ow,0) ⟨rfl,by rw[show fileW P d.2 0=[]from rfl,zm];exact how⟩ [(d.1.b,.cells ((bv d.2.data.toList).toList++d.1.junk).toArray 5 d.1.fr)] (by rfl) (fun e he=>bat_ds hdm he) (fun w1 h=>qd.2 ⟨(fun h=>by cases h),qX⟩) (fun(x:K.Own×Nat)=>([cl k2 #[.int .i64 512] 3,cl k1 #[sP d.1.b 0 d.2.size d.1.cap] 111,cl ab #[iN ((P.at_+x.2))] 3,cl lb #[sO x.1 (((secJ T (dmF v.Dt) j).length+x.2))] 98]++(Own.o 3 ((keysF (dmF v.Dt)).map Go.encZ) ok++(Own.o 101 (jv ((secJ T (dmF v.Dt) j)++fileW P d.2 x.2)) x.1++(markO D++([(d.1.b,Obj.cells ((bv d.2.data.toList).toList++d.1.junk).toArray 5 d.1.fr)]++[])))))) (fun _=>by simp only[List.append_assoc,List.nil_append,List.append_nil,List.cons_append]) (fun _=>true) (fun pre x _ _ e he=>by simp only[List.mem_cons,List.not_mem_nil,or_false]at he;rcases he with rfl|rfl;exact mL (zf _ mH);exact mL mH) (.ret) rfl ?_ ?_ ?_
  ·intro l ob1 ob2 w2 M2 pre ⟨o,i⟩ k9 rest hal hJx hit
   obtain⟨hx1,hx2⟩:=hJx
   obtain⟨hx3,hx4⟩:=range_hit hit
   simp only at hx1 hx2
   obtain rfl:i=k9:=by omega
   refine⟨Unit,fun _=>True,fun(_:Unit)=>[(8,[],.slice (some ⟨d.1.b,512*i,none⟩) (mC d.2.size i) (mC d.2.size i)),(7,[],pT ab),(3,[],pT lb)],fun(_:Unit)=>([cl k2 #[.int .i64 512] 3,cl k1 #[sP d.1.b 0 d.2.size d.1.cap] 111,cl ab #[iN ((P.at_+i))] 3,cl lb #[sO o (((secJ T (dmF v.Dt) j).length+i))] 98]++(Own.o 3 ((keysF (dmF v.Dt)).map Go.encZ) ok++(Own.o 101 (jv ((secJ T (dmF v.Dt) j)++fileW P d.2 i)) o++(markO D++([(d.1.b,Obj.cells ((bv d.2.data.toList).toList++d.1.junk).toArray 5 d.1.fr)]++[]))))),?_,?_⟩
   ·
    refine Rq [3,7,8] ?_
    refine Cfg.mid rfl () trivial (Conv.mk kr) slr
   rintro⟨⟩ -
   refine Bp 2 [(dS (iN ((P.at_+i)))),(dS (.agg (jc ((((P.at_+i):Nat):Int),zb)).toArray))] (some [3,7,8,56]) (fun S=>[(cE S ab 0 (iN ((P.at_+i)))),(∀w1,S w1→(Instr.build 101 #[(0,iN ((P.at_+i)))]).run Tryz.prog w1=.ok (.agg (jc ((((P.at_+i):Nat):Int),zb)).toArray) w1)]) ⟨(oC 3 rfl rfl),(fun w1 _=>kr),trivial⟩ ?_
   refine Le (zM (z:=(.agg (jc wz).toArray)) rfl kr) ?_
   rintro wq ⟨hwq,nwq⟩
   refine Lu (zC (b:=wq) (off:=0) (vs:=(jc ((((P.at_+i):Nat):Int),zb)).toArray) (n:=513) rfl kr kr kr (by rw[zp,yl qA]) (jc_all _) 0 (cs:=(jc wz).toArray) (e:=101) kr (by show 0+513≤(jc wz).toArray.size;rw[zp,yl qA];decide)) ?_
   refine yF (congrArg (fun(xq:Array Value)=>(([cl wq xq 101,(l,ob2),cl k2 #[.int .i64 512] 3,cl k1 #[sP d.1.b 0 d.2.size d.1.cap] 111,cl ab #[iN ((P.at_+i))] 3,cl lb #[sO o (((secJ T (dmF v.Dt) j).length+i))] 98]++(Own.o 3 ((keysF (dmF v.Dt)).map Go.encZ) ok++(Own.o 101 (jv ((secJ T (dmF v.Dt) j)++fileW P d.2 i)) o++(markO D++([(d.1.b,Obj.cells ((bv d.2.data.toList).toList++d.1.junk).toArray 5 d.1.fr)]++[]))))):LO)) (show _=((jc ((((P.at_+i):Nat):Int),zb)).toArray)from yx (by rw[zp,zp,yl qA];exact(yl qA).symm))) ?_
   refine zg rfl ?_
   refine Cg (Γ':=[(9,[],pT wq),(8,[],.slice (some ⟨d.1.b,512*i,none⟩) (mC d.2.size i) (mC d.2.size i)),(7,[],pT ab),(3,[],pT lb)]) ?_
   refine Bp 3 [] (some [3,7,9,58,59]) (fun _=>[(512≤512)]) ⟨om,trivial⟩ ?_
   refine Lu (Eff.copyC rfl Tryz.underlying111 (e:=5) 1 kr (b:=wq) (off:=1) (dl:=512) (c:=512) kr (b2:=d.1.b) (off2:=512*i) (sl:=mC d.2.size i) (c2:=mC d.2.size i) kr 0 (cs:=(jc ((((P.at_+i):Nat):Int),zb)).toArray) (te:=101) kr (mC d.2.size i) (by unfold mC;omega) (bv (chL d.2 i)).toList (by rw[z7,zP,chL_len,jg]) (qF _) (fun w1 h j v hj=>chunk_src (h.own (d.1.b,_) (mR (mR (mR (mR (mL (zi.2 rfl))))))) hj) (by rw[z7,zP,chL_len,zp,yl qA];unfold mC;omega)) ?_
   refine zg rfl ?_
   refine Cg (Γ':=[(9,[],pT wq),(7,[],pT ab),(3,[],pT lb)]) ?_
   refine zU (congrArg (fun(xq:Array Value)=>(([cl wq xq 101,(l,ob2),cl k2 #[.int .i64 512] 3,cl k1 #[sP d.1.b 0 d.2.size d.1.cap] 111,cl ab #[iN ((P.at_+i))] 3,cl lb #[sO o (((secJ T (dmF v.Dt) j).length+i))] 98]++(Own.o 3 ((keysF (dmF v.Dt)).map Go.encZ) ok++(Own.o 101 (jv ((secJ T (dmF v.Dt) j)++fileW P d.2 i)) o++(markO D++([(d.1.b,Obj.cells ((bv d.2.data.toList).toList++d.1.junk).toArray 5 d.1.fr)]++[]))))):LO)) (show _=((jc (((P.at_+i:Nat):Int),qt d.2 i)).toArray)from jc_copy _ (by rw[chL_len];unfold mC;omega))) ?_
   refine Bp 2 [(dS (.slice (Own.a o) (((secJ T (dmF v.Dt) j).length+i)) (Own.c o))),(dS (.agg (jc (((P.at_+i:Nat):Int),qt d.2 i)).toArray))] (some [3,7,61,62]) (fun S=>[(cE S lb 0 (.slice (Own.a o) (((secJ T (dmF v.Dt) j).length+i)) (Own.c o))),(∀w1,S w1→(loadVar 101 ⟨wq,0,none⟩).run Tryz.prog w1=.ok (.agg (jc (((P.at_+i:Nat):Int),qt d.2 i)).toArray) w1)]) ⟨(oC 5 rfl rfl),(fun w1 h=>yw Tryz.underlying101 rfl kr (yl (chunkF_len _ _)) (fun k v hv=>by rw[zF];exact h.ocell 0 rfl (by rw[zo];exact hv))),trivial⟩ ?_
   refine Le (yR (vs:=(jc (((P.at_+i:Nat):Int),qt d.2 i)).toArray) (n:=513) rfl kr Tryz.underlying98 kr (z:=(.agg (jc wz).toArray)) kr (by rw[zp];exact yl (chunkF_len _ _)) (by decide) (by decide)) ?_
   rintro sb ⟨hsb,nsb⟩
   refine Le (y8 rfl 513 520 Tryz.underlying98 kr (z:=(.agg (jc wz).toArray)) kr kr o (xs:=(jv ((secJ T (dmF v.Dt) j)++fileW P d.2 i))) hx2 kr (b2:=sb) (off2:=0) (m:=1) (c2:=1) kr (jc (((P.at_+i:Nat):Int),qt d.2 i)) (yl (chunkF_len _ _)) (jc_all _) ([(sb,.cells ((jc (((P.at_+i:Nat):Int),qt d.2 i)).toArray) 101 (0,0)),(wq,.cells ((jc (((P.at_+i:Nat):Int),qt d.2 i)).toArray) 101 (0,0)),(l,ob2),(k2,.cells #[.int .i64 512] 3 (0,0)),(k1,.cells #[.slice (some ⟨d.1.b,0,none⟩) d.2.size d.1.cap] 111 (0,0)),(ab,.cells #[iN ((P.at_+i))] 3 (0,0)),(lb,.cells #[.slice (Own.a o) (((secJ T (dmF v.Dt) j).length+i)) (Own.c o)] 98 (0,0))]++Own.o 3 ((keysF (dmF v.Dt)).map Go.encZ) ok) ([]++(markO D++([(d.1.b,Obj.cells ((bv d.2.data.toList).toList++d.1.junk).toArray 5 d.1.fr)]++[]))) (by rfl) (fun w1 h j v hj=>by rw[zF];exact h.ocell 0 rfl (by rw[zo];exact hj)) om om) ?_
   rintro o10 ko10
   refine Lu (zS (b:=lb) (off:=0) (v:=sO o10 ((((secJ T (dmF v.Dt) j).length+i)+1))) rfl kr kr rfl kr 6 (cs:=#[sO o (((secJ T (dmF v.Dt) j).length+i))]) (e:=98) kr (by show 0<1;decide)) ?_
   refine zg rfl ?_
   refine Cg (Γ':=[(7,[],pT ab)]) ?_
   refine Bp 2 [(dS (iN ((P.at_+i))))] (some [7,66]) (fun S=>[(cE S ab 0 (iN ((P.at_+i)))),(i6 ((((P.at_+i):Nat):Int)+1))]) ⟨(oC 5 rfl rfl),om,trivial⟩ ?_
   refine Lu (zS (b:=ab) (off:=0) (v:=.int .i64 ((((P.at_+i):Nat):Int)+1)) rfl kr kr rfl kr 5 (cs:=#[iN ((P.at_+i))]) (e:=3) kr (by show 0<1;decide)) ?_
   refine zg rfl ?_
   refine Cg (Γ':=[]) ?_
   refine Cfg.finR rfl (fun w1 hp=>?_)
   have hfj:=fileW_jv (secJ T (dmF v.Dt) j) P d.2 i
   rw[hfj]at ko10 hp
   exact⟨(o10,i+1),⟨by simp only[List.length_append,List.length_cons,List.length_nil,hx3],ko10⟩,rfl,hp.sub (.cons _ (.cons _ slr))⟩
  ·intro dr1 ⟨o2,i2⟩ hal hJy
   obtain⟨hy1,hy2⟩:=hJy
   simp only[List.length_range]at hy1 hy2
   subst hy1
   refine Rg [0,3,31,32,33] [] (fun _=>[(i6 ((j:Int)+1))]) ⟨om,trivial⟩ ?_
   have hln2:(secJ T (dmF v.Dt) (j+1)).length=(secJ T (dmF v.Dt) j).length+secs d.2.size:=by rw[hstep,zh,fileW_len]
   refine zU (congrArg (fun(xq:Array Value)=>(([(dr1,.deferred (some [])),(k2,.cells #[.int .i64 512] 3 (0,0)),(k1,.cells #[.slice (some ⟨d.1.b,0,none⟩) d.2.size d.1.cap] 111 (0,0)),(ab,.cells #[iN ((P.at_+(secs d.2.size)))] 3 (0,0)),(lb,.cells xq 98 (0,0))]++(Own.o 3 ((keysF (dmF v.Dt)).map Go.encZ) ok++(Own.o 101 (jv ((secJ T (dmF v.Dt) j)++fileW P d.2 (secs d.2.size))) o2++(markO D++[])))):LO)) (show _ = #[.slice (Own.a o2) ((secJ T (dmF v.Dt) (j+1)).length) (Own.c o2)]from by rw[hln2])) ?_
   refine zU (congrArg (fun(xq:List Value)=>(([(dr1,.deferred (some [])),(k2,.cells #[.int .i64 512] 3 (0,0)),(k1,.cells #[.slice (some ⟨d.1.b,0,none⟩) d.2.size d.1.cap] 111 (0,0)),(ab,.cells #[iN ((P.at_+(secs d.2.size)))] 3 (0,0)),(lb,.cells #[.slice (Own.a o2) ((secJ T (dmF v.Dt) (j+1)).length) (Own.c o2)] 98 (0,0))]++(Own.o 3 ((keysF (dmF v.Dt)).map Go.encZ) ok++(Own.o 101 xq o2++(markO D++[])))):LO)) (show _=(jv (secJ T (dmF v.Dt) (j+1)))from by rw[hstep])) ?_
   refine zN 31 (show .slice (some ⟨ob,0,none⟩) v.Dt.length oc=.slice (Own.a ok) v.Dt.length (Own.c ok)from by rw[hok2];rfl) ?_
   refine Cfg.permO (O':=([cl k2 #[.int .i64 512] 3,cl k1 #[sP d.1.b 0 d.2.size d.1.cap] 111,cl ab #[iN ((P.at_+(secs d.2.size)))] 3,cl lb #[sO o2 ((secJ T (dmF v.Dt) (j+1)).length)] 98]++(Own.o 3 ((keysF (dmF v.Dt)).map Go.encZ) ok++(Own.o 101 (jv (secJ T (dmF v.Dt) (j+1))) o2++(markO (dr1::D)++[]))))) (by exact pdr2 (x:=(dr1,Obj.deferred (some []))) (A:=[cl k2 #[.int .i64 512] 3,cl k1 #[sP d.1.b 0 d.2.size d.1.cap] 111,cl ab #[iN ((P.at_+(secs d.2.size)))] 3,cl lb #[sO o2 ((secJ T (dmF v.Dt) (j+1)).length)] 98]) (B:=Own.o 3 ((keysF (dmF v.Dt)).map Go.encZ) ok) (C:=Own.o 101 (jv (secJ T (dmF v.Dt) (j+1))) o2) (T:=markO D++[])) ?_
   refine Cfg.againM rfl (j+1,o2,(dr1::D)) ⟨by omega,by omega,by rw[hln2,hstep];exact hy2⟩ (by show v.Dt.length-(j+1)<v.Dt.length-j;omega) rfl (Conv.mk kr) (.cons _ (.cons _ (.cons _ slr)))
  intro dr1 ⟨o2,i2⟩ pre k9 rest hit hal hpa hJy
  cases hpa
 refine Rg [2] [(dS (sO ow ((secJ T (dmF v.Dt) j).length)))] (fun S=>[(cE S lb 0 (sO ow ((secJ T (dmF v.Dt) j).length)))]) ⟨(oC 0 rfl rfl),trivial⟩ ?_
 refine Cfg.permO (O':=markO D++([cl lb #[sO ow ((secJ T (dmF v.Dt) j).length)] 98]++(Own.o 3 ((keysF (dmF v.Dt)).map Go.encZ) ok++(Own.o 101 (jv (secJ T (dmF v.Dt) j)) ow++[])))) (pfr2 (A:=[cl lb #[sO ow ((secJ T (dmF v.Dt) j).length)] 98]) (B:=Own.o 3 ((keysF (dmF v.Dt)).map Go.encZ) ok) (C:=Own.o 101 (jv (secJ T (dmF v.Dt) j)) ow)) ?_
 refine Cfg.retM (O':=([cl lb #[sO ow ((secJ T (dmF v.Dt) j).length)] 98]++(Own.o 3 ((keysF (dmF v.Dt)).map Go.encZ) ok++(Own.o 101 (jv (secJ T (dmF v.Dt) j)) ow++[])))) rfl (rs:=[.tmp 2]) rfl [sO ow ((secJ T (dmF v.Dt) j).length)] slr ⟨kr,trivial⟩ (fun w1 hp=>?_)
 have hje:j=v.Dt.length:=by omega
 have hsf:(secJ T (dmF v.Dt) j)=secF T (dmF v.Dt):=by rw[hje];unfold secJ secF;rw[yB (by rw[keysF_len];exact zD _)]
 have h9:HP w [] _ (Own.o 101 (jv (secJ T (dmF v.Dt) j)) ow++[]) w1:=hp.sub (.cons _ (show List.Sublist (Own.o 101 (jv (secJ T (dmF v.Dt) j)) ow++[]) (Own.o 3 ((keysF (dmF v.Dt)).map Go.encZ) ok++(Own.o 101 (jv (secJ T (dmF v.Dt) j)) ow++[])) from(zE (List.Sublist.append (zQ (Own.o 101 (jv (secJ T (dmF v.Dt) j)) ow)) (zz _)) (zj (Own.o 3 ((keysF (dmF v.Dt)).map Go.encZ) ok) _))))
 rw[hsf]at how h9
 rw[zm]at h9
 exact⟨ow,how,by rw[hsf];rfl,_,h9⟩
end
section
open K
theorem getD_setL {α:Type} {d:α} (l:List α) (i j:Nat) (v:α) (h:i<l.length):(l.set i v).getD j d=if j=i then v else l.getD j d:=by
 rw[zc,q7,zc]
 by_cases hij:i=j
 ·subst hij;simp[h]
 rw[if_neg hij,if_neg (fun e=>hij e.symm)]
theorem wget_mem_iff (W:Wt) (k:Int):(wget W k).isSome=true↔k∈W.map (·.1):=by
 induction W with
 | nil=>simp[wget]
 | cons p W ih=>
  unfold wget
  rw[yi,zq]
  split
  ·rename_i h;simp[h]
  ·rename_i h;rw[ih];simp[h]
theorem setl_true (W:Wt):∀(ks:List Int) (k:Nat) (L:List (List UInt8)) (i:Nat),(∀q∈ks,0≤q∧q<(L.length:Int))→(setl (fun _=>true) W k ks L).getD i zb=if(i:Int)∈ks then(wget W (i:Int)).getD zb else L.getD i zb
 | [],_,_,_,_=>by simp[setl]
 | q::ks,k,L,i,h0=>by
  have hq:=h0 q mH
  rw[setl,if_pos rfl,setl_true W ks (k+1) _ i (fun x hx=>by rw[yc];exact h0 x (zf _ hx))]
  by_cases h1:(i:Int)∈ks
  ·rw[if_pos h1,if_pos (zf _ h1)]
  rw[if_neg h1,getD_setL _ _ _ _ om]
  by_cases h2:i=q.toNat
  ·rw[if_pos h2,if_pos (by rw[h2,Int.toNat_of_nonneg hq.1];exact mH),h2,Int.toNat_of_nonneg hq.1]
  rw[if_neg h2,if_neg (fun h=>by rcases zq.1 h with h|h;omega;exact h1 h)]
theorem keys_rng {D:DK} (h:DG D):∀q∈keysW D.wait,0≤q∧q<(D.last.length:Int):=fun q hq=>by
 obtain⟨p,hp,rfl⟩:=zv.1 ((keys_mem _ _).1 hq)
 exact h.k p hp
theorem shown_none {D:DK} {q:Int} (h:¬q∈keysW D.wait):wget D.wait q=none:=by
 cases hg:wget D.wait q with
 | none=>rfl
 | some b=>exact absurd ((keys_mem _ _).2 ((wget_mem_iff _ _).1 (by rw[hg];rfl))) h
theorem settle_shown {D:DK} (p:Nat→Bool) (i:Nat):shown (settleF p D) (i:Int)=(settleF p D).last.getD i zb:=by
 show(wget [] (i:Int)).getD ((settleF p D).last.getD ((i:Int)).toNat zb)=_
 rw[yk];rfl
theorem commit_D (J:JS) (l:List Wr):(yZ J l).2.D=J.D∨(yZ J l).2.D=(transF J.D ((J.num+1)%18446744073709551616) (risF l)).2:=by
 unfold yZ
 repeat' split
 all_goals first|exact .inl rfl|exact .inr rfl
theorem commit_good {J:JS} {l:List Wr} (h:DG J.D) (hw:WW l):DG (yZ J l).2.D:=by
 rcases commit_D J l with e|e
 ·rw[e];exact h
 rw[e];exact h.lays (stages_w (risF_w hw) _)
theorem commit_steps (J:JS) (l:List Wr):J.D.steps≤(yZ J l).2.D.steps∧(yZ J l).2.D.steps≤J.D.steps+(2*l.length+6:Nat):=by
 rcases commit_D J l with e|e
 ·rw[e];omega
 rw[e]
 have h1:=laysF_steps (stagesF ((J.num+1)%18446744073709551616) (risF l)) J.D
 rw[stages_tot]at h1
 have h2:=lastM_len l l.length
 rw[←risF_len]at h2
 unfold transF
 omega
theorem open_new {n:Nat} (hn:64≤n):openF (newD n)=(0,0,newD n):=by
 have h0:zR (newD n) 0=zb:=by
  unfold zR
  split
  ·show(replicate n zb).getD (0:Int).toNat zb=zb
   rw[zc,qh]
   split <;> rfl
  ·rfl
 refine op_no ?_ ?_
 ·show fltF (newD n) 0=0
  unfold fltF
  rw[if_neg (by show ¬false=true;decide),if_pos (by show(0:Int)≤0∧(0:Int)<((replicate n zb).length:Int);rw[zk];omega)]
 unfold openG
 rw[h0]
 exact par_no1 (by decide)
structure Wl (N:Nat) (D:DK):Prop where
 g:DG D
 f:D.fuse = -1
 d:D.down=false
 n:D.last.length=N
 b:121<N∧N≤400
theorem Wl.flt {N:Nat} {D:DK} (h:Wl N D) {q:Int} (hq:0≤q∧q<(N:Int)):fltF D q=0:=flt_ok h.n h.d hq
theorem Wl.read {N:Nat} {D:DK} (h:Wl N D) {q:Int} (hq:0≤q∧q<(N:Int)):zR D q=shown D q:=by unfold zR;rw[if_pos (h.flt hq)]
theorem Wl.sp {N:Nat} {D:DK} (h:Wl N D):spF D=(true,{D with steps:=D.steps+1}):=by
 have hf:=h.f
 unfold spF
 rw[if_neg (by rw[h.d];decide),if_neg om,if_neg om]
theorem Wl.write {N:Nat} {D:DK} (h:Wl N D) {q:Int} (hq:0≤q∧q<(N:Int)) {b:List UInt8} (hb:b.length=512):(qB D q b).1=0∧Wl N (qB D q b).2∧∀r:Int,shown (qB D q b).2 r=if r=q then b else shown D r:=by
 have hg:=h.g.write q hb
 have e:qB D q b=(0,{D with steps:=D.steps+1,wait:=wset D.wait q b}):=by
  unfold qB
  rw[if_neg (by rw[h.flt hq];decide),h.sp];rfl
 rw[e]at hg ⊢
 refine⟨rfl,⟨hg,h.f,h.d,h.n,h.b⟩,fun r=>?_⟩
 unfold shown
 simp only
 rw[wget_set]
 split <;> rfl
theorem Wl.bar {N:Nat} {D:DK} (h:Wl N D):(barF D).1=0∧Wl N (barF D).2∧∀r:Int,0≤r→shown (barF D).2 r=shown D r:=by
 have hg:=h.g.bar
 have hl:=barF_len D
 have e:barF D=(0,settleF (fun _=>true) {D with steps:=D.steps+1}):=by
  unfold barF
  rw[h.sp];rfl
 rw[e]at hg hl ⊢
 refine⟨rfl,⟨hg,h.f,h.d,hl.trans h.n,h.b⟩,fun r hr=>?_⟩
 obtain⟨i,rfl⟩:=Int.eq_ofNat_of_zero_le hr
 show shown (settleF (fun _=>true) {D with steps:=D.steps+1}) (i:Int)=_
 rw[settle_shown]
 show(setl (fun _=>true) D.wait 0 (keysW D.wait) D.last).getD i zb=shown D (i:Int)
 rw[setl_true _ _ _ _ _ (keys_rng h.g)]
 unfold shown
 split
 ·rename_i hm
  have:=(wget_mem_iff D.wait (i:Int)).2 ((keys_mem _ _).1 hm)
  cases hg:wget D.wait (i:Int) with
  | none=>rw[hg]at this;cases this
  | some b=>rfl
 rename_i hm
 rw[shown_none hm,yk];rfl
def InR (N:Nat) (l:List Wr):Prop:=∀a∈l,(0≤a.1∧a.1<(N:Int))∧a.2.length=512
theorem Wl.lay {N:Nat}:∀ {l:List Wr} {D:DK},Wl N D→InR N l→(layF D l).1=0∧Wl N (layF D l).2∧∀r:Int,0≤r→((∀a∈l,a.1≠r)→shown (layF D l).2 r=shown D r)∧∀b,(r,b)∈l→Rise l→shown (layF D l).2 r=b
 | [],D,h,_=>by
  obtain⟨h1,h2,h3⟩:=h.bar
  exact⟨h1,h2,fun r hr=>⟨fun _=>h3 r hr,fun b hb=>by cases hb⟩⟩
 | a::l,D,h,hl=>by
  obtain⟨h1,h2⟩:=hl a mH
  obtain⟨w1,w2,w3⟩:=h.write h1 h2
  obtain⟨g1,g2,g3⟩:=Wl.lay (l:=l) w2 (fun x hx=>hl x (zf _ hx))
  unfold layF
  rw[if_neg (by rw[w1];decide)]
  refine⟨g1,g2,fun r hr=>⟨fun hn=>?_,fun b hb hri=>?_⟩⟩
  ·rw[(g3 r hr).1 (fun x hx=>hn x (zf _ hx)),w3,if_neg (fun e=>hn a mH e.symm)]
  ·obtain⟨p1,p2⟩:=List.pairwise_cons.1 hri
   rcases zq.1 hb with e|hb
   ·rw[(g3 r hr).1 (fun x hx=>by have:=p1 x hx;rw[←e]at this;simp only at this;omega),w3,if_pos (by rw[←e]),←e]
   ·exact(g3 r hr).2 b hb p2
theorem Wl.transJ {N:Nat} {D:DK} (h:Wl N D) (n:Nat) {l:List Wr} (hl:∀a∈l,(97≤a.1∧a.1<(N:Int))∧a.2.length=512) (hn:l.length≤96) (hr:Rise l):(transF D n l).1=0∧Wl N (transF D n l).2∧(∀r:Int,97≤r→((∀a∈l,a.1≠r)→shown (transF D n l).2 r=shown D r)∧∀b,(r,b)∈l→shown (transF D n l).2 r=b)∧shown (transF D n l).2 0=qi n l∧∀i,i<l.length→shown (transF D n l).2 ((i+1:Nat):Int)=(l.getD i wz).2:=by
 have hb9:=h.b
 have hw:WW l:=fun x hx=>(hl x hx).2
 have i1:InR N [((0:Int),zb)]:=fun a ha=>by rw[zi.1 ha];exact⟨⟨by show(0:Int)≤0;decide,by show(0:Int)<(N:Int);omega⟩,qA⟩
 have i2:InR N (cpy l l.length):=fun a ha=>by
  refine⟨?_,cpy_w hw _ a ha⟩
  obtain⟨k,hk,rfl⟩:=zv.1 ha
  have:=qz.1 hk
  simp only
  omega
 have i3:InR N [((0:Int),qi n l)]:=fun a ha=>by rw[zi.1 ha];exact⟨⟨by show(0:Int)≤0;decide,by show(0:Int)<(N:Int);omega⟩,headF_len _ _⟩
 have i4:InR N l:=fun a ha=>⟨by have:=(hl a ha).1;omega,(hl a ha).2⟩
 obtain⟨a1,a2,a3⟩:=h.lay i1
 obtain⟨b1,b2,b3⟩:=a2.lay i2
 obtain⟨c1,c2,c3⟩:=b2.lay i3
 obtain⟨d1,d2,d3⟩:=c2.lay i4
 have e:transF D n l=(0,(layF (layF (layF (layF D [((0:Int),zb)]).2 (cpy l l.length)).2 [((0:Int),qi n l)]).2 l).2):=by
  unfold transF stagesF
  rw[laysF,if_neg (by rw[a1];decide),laysF,if_neg (by rw[b1];decide),laysF,if_neg (by rw[c1];decide),laysF,if_neg (by rw[d1];decide),laysF]
 rw[e]
 refine⟨rfl,d2,fun r hr2=>⟨fun hx=>?_,fun b hb=>(d3 r om).2 b hb hr⟩,?_,fun i hi=>?_⟩
 ·rw[(d3 r om).1 hx,(c3 r om).1 (fun a ha=>by rw[zi.1 ha];show(0:Int)≠r;omega),(b3 r om).1 (fun a ha=>by
   obtain⟨k,hk,rfl⟩:=zv.1 ha
   have:=qz.1 hk
   simp only
   omega),(a3 r om).1 (fun a ha=>by rw[zi.1 ha];show(0:Int)≠r;omega)]
 ·rw[(d3 0 om).1 (fun a ha=>by have:=(hl a ha).1;omega)]
  exact(c3 0 om).2 _ (zi.2 rfl) (List.pairwise_singleton ..)
 have hx:(((i+1:Nat):Int),(l.getD i wz).2)∈cpy l l.length:=zv.2 ⟨i,qz.2 hi,rfl⟩
 have hrc:Rise (cpy l l.length):=List.Pairwise.map _ (fun a b hab=>by show((a+1:Nat):Int)<((b+1:Nat):Int);omega) List.pairwise_lt_range
 rw[(d3 _ om).1 (fun a ha=>by have:=(hl a ha).1;omega),(c3 _ om).1 (fun a ha=>by rw[zi.1 ha];show(0:Int)≠_;omega)]
 exact(b3 _ om).2 _ hx hrc
theorem Wl.trans {N:Nat} {D:DK} (h:Wl N D) (n:Nat) {l:List Wr} (hl:∀a∈l,(97≤a.1∧a.1<(N:Int))∧a.2.length=512) (hn:l.length≤96) (hr:Rise l):(transF D n l).1=0∧Wl N (transF D n l).2∧∀r:Int,97≤r→((∀a∈l,a.1≠r)→shown (transF D n l).2 r=shown D r)∧∀b,(r,b)∈l→shown (transF D n l).2 r=b:=⟨(h.transJ n hl hn hr).1,(h.transJ n hl hn hr).2.1,(h.transJ n hl hn hr).2.2.1⟩
theorem ris_in {l:List Wr} {x:Wr} (h:x∈risF l):x∈l:=by
 obtain⟨a,ha,rfl⟩:=zv.1 h
 have h1:=(nget_mem _ _).2 ((keysN_mem _ _).1 ha)
 unfold atN
 cases hg:nget (yK l l.length) a with
 | none=>rw[hg]at h1;cases h1
 | some k=>
  have h2:=(lastM_lt l l.length a k hg).1
  show l.getD k wz∈l
  rw[zc,zd h2];exact qr h2
theorem Wl.bad {N:Nat} {D:DK} (h:Wl N D) {l:List Wr} (hl:l.any (badW D)=false):∀a∈l,97≤a.1∧a.1<(N:Int):=fun a ha=>by
 have:=List.any_eq_false.1 hl a ha
 unfold badW at this
 rw[h.n]at this
 simp at this
 omega
theorem Wl.commit {N:Nat} {J:JS} (h:Wl N J.D) (hw:J.why=0) {l:List Wr} (hl:WW l):(yZ J l).2.why=0∧Wl N (yZ J l).2.D:=by
 unfold yZ
 rw[if_neg (by rw[hw];decide)]
 split
 ·exact⟨hw,h⟩
 rename_i hb
 split
 ·exact⟨hw,h⟩
 rename_i h9
 split
 ·exact⟨hw,h⟩
 have hb':=h.bad (qN.2 hb)
 obtain⟨t1,t2,_⟩:=h.trans ((J.num+1)%18446744073709551616) (l:=risF l) (fun a ha=>⟨hb' a (ris_in ha),hl a (ris_in ha)⟩) om (risF_rise l)
 rw[if_neg (by rw[t1];decide)]
 exact⟨rfl,t2⟩
theorem Wl.commit_ok {N:Nat} {J:JS} (h:Wl N J.D) (hw:J.why=0) {l:List Wr} (hl:WW l) (hr:∀a∈l,97≤a.1∧a.1<(N:Int)) (hn:l.length≤96):(yZ J l).1=0∧∀r b,97≤r→lwF l (fun _=>none) r=some (r,b)→shown (yZ J l).2.D r=b:=by
 have h2:=lastM_len l l.length
 rw[←risF_len]at h2
 unfold yZ
 have hb:l.any (badW J.D)=false:=List.any_eq_false.2 fun a ha=>by
  have:=hr a ha
  unfold badW
  rw[h.n];simp;omega
 rw[if_neg (by rw[hw];decide),if_neg (by rw[hb];decide),if_neg om]
 obtain⟨t1,t2,t3⟩:=h.trans ((J.num+1)%18446744073709551616) (l:=risF l) (fun a ha=>⟨hr a (ris_in ha),hl a (ris_in ha)⟩) om (risF_rise l)
 split
 ·rename_i h0
  refine⟨rfl,fun r b _ hx=>?_⟩
  have:=(risF_mem l (r,b)).2 hx
  rw[ya h0]at this
  cases this
 rw[if_neg (by rw[t1];decide)]
 exact⟨rfl,fun r b h97 hx=>(t3 r h97).2 b ((risF_mem l (r,b)).2 hx)⟩
theorem newD_len (n:Nat):(newD n).last.length=n:=zk
theorem Wl.open0 {N:Nat} {D:DK} (h:Wl N D) (h0:shown D 0=zb):openF D=(0,0,D):=by
 have hb9:=h.b
 refine op_no (h.flt ⟨by decide,by omega⟩) ?_
 unfold openG
 rw[h.read ⟨by decide,by omega⟩,h0]
 exact par_no1 (by decide)
end
end Go.Proofs.YtfgdepggdiibdaaGreatDoor