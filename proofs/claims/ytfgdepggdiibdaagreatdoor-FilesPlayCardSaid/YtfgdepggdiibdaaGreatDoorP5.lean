/- Texts on which the proof of this claim stands: Fl4, Wire5, Jn3, JnP, Jn4, Dk2, Dk4, I1, I2, I3, I4, I5, I6, I7, I8, IM, I9, I10, I11, I12, I13, I14, I15, I16, I17, I18, I19, I20, I21, I22, IS, IT, Lay1, Lay, Dk3, Dk5, Dk6, Jp1, Dk7, Jp2. -/
import Derived.Test.YtfgdepggdiibdaaGreatDoorP4
import Derived.Test.YtfgdepggdiibdaaGreatDoorP2
import Derived.Test.YtfgdepggdiibdaaGreatDoorP3
import Derived.WalkKit
import Derived.MapKept
import Derived.Test.YtfgdepggdiibdaaGreatDoorP1
import Derived.Stop.BytesEq
import Derived.Laws.StructEq
import Derived.Lib.Builder
import Derived.Lib.UnsafeStr
import Derived.Lib.Bytealg
import Derived.RangeFuncLeaves
import Derived.OrdersIn
import Derived.Sort.LoopGhostIn
import Derived.TacticsIn
import Derived.Lib.SlKeysI
import Derived.Below
import Derived.Shelf.SlIterI.Nil
import Derived.Test.YtfgdepggdiibdaaGreatDoorChecked
import Derived.Shelf.SortM.Plain
import Derived.Shelf.SortM.SortNone
set_option linter.unusedVariables false
set_option maxRecDepth 100000
set_option maxHeartbeats 8000000
namespace Go.Proofs.YtfgdepggdiibdaaGreatDoor
open List (replicate)
section
open K
theorem HP.sep {w0 w:World} {M:List Nat} {R Fl Al T:List (Nat×Obj)} (h:HP w0 M R (Fl++(Al++T)) w) {e:Nat×Obj} (he:e∈Fl):e.1∉Al.map (·.1):=by
 have hd:=h.dist
 rw[yf,yf]at hd
 intro hm
 exact(y6.1 hd).2.2 _ (zv.2 ⟨e,he,rfl⟩) _ (mL hm) rfl
theorem badN_l {raw:List UInt8} (h:(eL raw:Int)>((tx (eN raw)).size:Int)):badN raw=true:=by
 rw[qf]at h
 unfold badN
 rw[decide_eq_true (show eL raw>(eN raw).length by omega),Bool.true_or]
theorem badN_n {raw:List UInt8} (h:namB (nmOf raw)=false):badN raw=true:=by unfold badN;rw[h,Bool.not_false,Bool.or_true]
theorem badN_f {raw:List UInt8} (h:¬(eL raw:Int)>((tx (eN raw)).size:Int)) (h2:namB (nmOf raw)=true):badN raw=false:=by
 rw[qf]at h
 unfold badN
 rw[decide_eq_false (show ¬eL raw>(eN raw).length by omega),h2];rfl
theorem badP_t {W:List (ByteArray×Value)} {p:Pl} (h:((smget W p.nm).isSome=true∨(p.sz:Int)>32768)∨((p.sz:Int)=0∧(p.at_:Int)≠0)):badP W p=true:=by
 unfold badP
 rcases h with (h|h)|⟨h,h2⟩
 ·rw[h,Bool.true_or]
 ·rw[decide_eq_true (show p.sz>32768 by omega),Bool.true_or,Bool.or_true]
 rw[decide_eq_true (show p.sz=0 by omega),decide_eq_true (show p.at_≠0 by omega)];simp
theorem badP_f {W:List (ByteArray×Value)} {p:Pl} (h:((smget W p.nm).isSome=false∧¬(p.sz:Int)>32768)∧((p.sz:Int)≠0∨(p.at_:Int)=0)):badP W p=false:=by
 unfold badP
 obtain⟨⟨h1,h2⟩,h3⟩:=h
 rw[h1,decide_eq_false (show ¬p.sz>32768 by omega)]
 rcases h3 with h|h
 ·rw[decide_eq_false (show ¬p.sz=0 by omega)];rfl
 rw[decide_eq_false (show ¬p.at_≠0 by omega)];simp
theorem turnR_bad {f:Int} (q:Bool) {l:List (Int×Int)} {fr:List Bool} (h:(ql f fr.length q l fr).1≠0):yS f q l fr=fr:=by
 unfold yS
 rw[if_neg h]
theorem nmOf_le (raw:List UInt8):(nmOf raw).size≤72:=by
 show(tx _).size≤72
 rw[qf,z8]
 have h1:(eN raw).length≤72:=nextF_len (eZ raw) 72
 omega
theorem plOf_ok {raw:List UInt8} (h:¬(yt raw).sz>32768):PlOk (yt raw):=by
 refine⟨?_,fourF_lt _,Nat.le_of_not_lt h⟩
 show(tx _).size≤72
 rw[qf,z8]
 have h1:(eN raw).length≤72:=nextF_len (eZ raw) 72
 omega
theorem tb_set {ps:List Pl} {nr rm q:Nat} {p:Pl} (hq:q<ps.length):spl (tbC ps nr rm) (q*3) (plc p).toArray.toList=tbC (ps.set q p) nr rm:=by
 have h0:(ps.take q).length=q:=by rw[z8];omega
 have e1:ps.flatMap plc=(ps.take q).flatMap plc++(plc (ps.getD q plz)++(ps.drop (q+1)).flatMap plc):=by
  rw[getD_of _ hq,←yv,←yn hq,←yY,yz]
 have e2:(ps.set q p).flatMap plc=(ps.take q).flatMap plc++(plc p++(ps.drop (q+1)).flatMap plc):=by
  rw[List.set_eq_take_append_cons_drop,if_pos hq,yY,yv]
 unfold tbC
 rw[e1,e2]
 have h2:=spl_list ((ps.take q).flatMap plc) (plc (ps.getD q plz)) ((ps.drop (q+1)).flatMap plc++[Value.map (some nr),pT rm]) (plc p) rfl
 rw[plf_len,h0]at h2
 simp only[List.append_assoc]at h2 ⊢
 exact h2
theorem tb_set2 {ps:List Pl} {nr rm q z:Nat} {p:Pl} (hq:q<ps.length) (hz:z=q*3):spl (tbC ps nr rm) z (plc p).toArray.toList=tbC (ps.set q p) nr rm:=by rw[hz];exact tb_set hq
theorem tb_in {T:Tb} (h:TbOk T) {q:Nat} {p:Pl} (hp:PlOk p) (hq:q<144) {W:List (ByteArray×Value)} {fr:List Bool} (hf:fr.length=T.fr.length):TbOk ⟨T.ps.set q p,W,fr⟩:=by
 refine⟨by show(T.ps.set q p).length=144;rw[yc];exact h.l,fun x hx=>?_,by show fr.length≤4096;rw[hf];exact h.f⟩
 rcases List.mem_or_eq_of_mem_set hx with hx|rfl
 ·exact h.o x hx
 exact hp
theorem fEnter (tb nr rm:Nat) (T0:Tb) (o0:K.Own) (x0:Array MapEntry×Nat) (n:Nat) (b:List UInt8) (w:World) (hA:Has w (tabO tb nr rm T0 o0 x0)) (hd:((tabO tb nr rm T0 o0 x0).map (·.1)).Nodup) (ho0:TbOk T0) (hg0:Good o0 T0.fr) (hm0:SMapOk x0.1 x0.2 T0.W) (hb:b.length=512) (hn:n<24) :
  Calls Tryz.prog 34 #[.pointer (some ⟨tb,0,none⟩),.int .i64 (n:Int),.agg (bv b)] w fun e w'=>∃x:K.Own×(Array MapEntry×Nat),(TbOk (entL b n 6 T0).2∧Good x.1 (entL b n 6 T0).2.fr∧SMapOk x.2.1 x.2.2 (entL b n 6 T0).2.W)∧e=.returned (.bool (entL b n 6 T0).1)∧∃R1,HP w ((tabO tb nr rm T0 o0 x0).map (·.1)) R1 (tabO tb nr rm (entL b n 6 T0).2 x.1 x.2) w':=by
 have htb:=qf b
 refine enter ((tabO tb nr rm T0 o0 x0).map (·.1)) [] ([cl tb (tbC T0.ps nr rm) 88,(nr,.map x0.1 x0.2)]++(spO rm 121 o0 T0.fr++[])) Tryz.func34 rfl kr (by rw[zm];exact HP.ofL hA hd (R:=[]) (fun e he=>by cases he) (fun e he=>by cases he)) ?_
 refine Be rfl rfl (y7 (v:=.agg (bv b)) rfl kr) ?_
 rintro bb ⟨hbb,nbb⟩
 refine Ld 1 [0,1,5] ?_
 refine Bp 2 [dZ,(dS (.string (tx b)))] (some [0,1,5,17]) (fun S=>[(512≤512),(∀w1,S w1→(Conv.bytesToString (sP bb 0 512 512)).run Tryz.prog w1=.ok (.string (tx b)) w1)]) ⟨om,(fun w1 h=>h.ostr (c:=512) 0 rfl hb),trivial⟩ ?_
 refine Le (Eff.callN (fun ib:Nat=>pT ib) (fun ib=>ib) (fun _=>.cells (inC ⟨0,b⟩) 196 (0,0)) (fun _=>True) rfl Tryz.func66 rfl rfl kr (fun w1 _=>wOf b w1)) ?_
 rintro ib ⟨-,hib,nib⟩
 refine Ld 1 [0,1,5,7] ?_
 refine Rq [0,1,5,7,19] ?_
 refine ye rfl (ι:=Nat×Tb×K.Own×Array MapEntry×Nat) (fun(k,T,o,x)=>[(19,[],iN k),(7,[],pT ib),(5,[],pT bb),(0,[],pT tb),(1,[],iN n)]) (fun(k,T,o,x)=>([cl ib (inC (zB b k)) 196,cl bb (bv b) 37,cl tb (tbC T.ps nr rm) 88,(nr,.map x.1 x.2)]++(spO rm 121 o T.fr++[]))) (fun(k,T,o,x)=>(k≤6)∧(entL b n (6-k) T=entL b n 6 T0)∧(TbOk T)∧(Good o T.fr)∧(SMapOk x.1 x.2 T.W)) (fun(k,T,o,x)=>6-k) (0,T0,o0,x0) ?_ (Conv.mk kr) slr ?_
 ·exact⟨zH _,rfl,ho0,hg0,hm0⟩
 rintro⟨k,T,o,x⟩ ⟨hk,hra,ho,hg,hm⟩
 refine Rq [0,1,5,7,19,20] ?_
 refine eC rfl (p:=((k:Int)<(6:Int))) kr (fun c1=>?_) (fun c1=>?_)
 ·refine Rq [0,1,5,7,8,19] ?_
  refine Bp 1 [] none n0 trivial ?_
  refine Lu (yX (vs:=[pT ib,.int .i64 81]) (.string (tx (zu b k))) 0 (b:=ib) (ob:=.cells (inC (zB b k)) 196 (0,0)) (.cells (inC (zB b (k+1))) 196 (0,0)) rfl Tryz.func67 rfl rfl kr kr (fun w1 h=>(by have h9:=wTRaw ib (zB b k) 81 w1 (h.own (cl ib (inC (zB b k)) 196) (show(cl ib (inC (zB b k)) 196)∈([cl ib (inC (zB b k)) 196,cl bb (bv b) 37,cl tb (tbC T.ps nr rm) 88,(nr,Obj.map x.1 x.2)]++(spO rm 121 o T.fr++[])) from(mL (mG 0 rfl))));rw[raw_next hb om]at h9;exact h9))) ?_
  refine qL 1 [] (some [0,1,5,7,8,9,19]) (Γ':=[(9,[],.string (tx (zu b k))),(8,[],iN k),(19,[],iN k),(7,[],pT ib),(5,[],pT bb),(0,[],pT tb),(1,[],iN n)]) (nd:=(fun _=>[])) kr (fun _=>kr) trivial ?_
  refine zg rfl ?_
  refine Bp 1 [] none n0 trivial ?_
  refine Lu (zr (.int .i64 (cnt0 (tx (zu b k)))) rfl Tryz.func68 rfl rfl kr (fun w1 _=>fCount (tx (zu b k)) w1)) ?_
  refine Ld 1 [0,1,5,7,8,9,19,26] ?_
  refine zX rfl (b:=((cnt0 (tx (zu b k)))==(81:Int))) kr (fun c2r=>?_) (fun c2r=>?_)
  ·have c2:=(beq_iff_eq.1 c2r)
   refine Rg [0,1,5,7,19] [] (fun _=>[(i6 ((k:Int)+1))]) ⟨om,trivial⟩ ?_
   refine zG rfl (k+1,T,o,x) ⟨by omega,(entL_step om (ent_skip c2)).symm.trans hra,ho,hg,hm⟩ (by show 6-(k+1)<6-k;omega) (Conv.mk kr) slr
  have c2:=(beq_eq_false_iff_ne.1 c2r)
  refine Bq 1 [0,1,5,7,8,19,27] ?_
  refine Le (Eff.callN (fun eb:Nat=>pT eb) (fun eb=>eb) (fun _=>.cells (inC ⟨0,(zu b k)⟩) 196 (0,0)) (fun _=>True) rfl Tryz.func66 rfl rfl kr (fun w1 _=>wOf (zu b k) w1)) ?_
  rintro eb ⟨-,heb,neb⟩
  refine Ld 1 [0,1,5,7,8,10,19] ?_
  have heL:eL (zu b k)<256:=qT _ (by decide)
  have htN:=qf (eN (zu b k))
  refine Bp 1 [] none n0 trivial ?_
  refine Lu (yX (.int .u8 ((eL (zu b k)):Int)) 0 (b:=eb) (ob:=.cells (inC ⟨0,(zu b k)⟩) 196 (0,0)) (.cells (inC (eZ (zu b k))) 196 (0,0)) rfl Tryz.func69 rfl rfl kr kr (fun w1 h=>wTByte eb ⟨0,(zu b k)⟩ w1 (h.own (cl eb (inC ⟨0,(zu b k)⟩) 196) (show(cl eb (inC ⟨0,(zu b k)⟩) 196)∈([cl eb (inC ⟨0,(zu b k)⟩) 196,cl ib (inC (zB b (k+1))) 196,cl bb (bv b) 37,cl tb (tbC T.ps nr rm) 88,(nr,Obj.map x.1 x.2)]++(spO rm 121 o T.fr++[])) from(mL (mG 0 rfl)))))) ?_
  refine Lp 2 [] (some [0,1,5,7,8,10,11,19]) (fun _=>[(i6 ((eL (zu b k)):Int))]) ⟨om,trivial⟩ ?_
  refine zg rfl ?_
  refine Cfg.begL rfl ?_
  refine qL 1 [] none (Γ':=[(32,[],pT eb),(11,[],iN (eL (zu b k))),(10,[],pT eb),(8,[],iN k),(19,[],iN k),(7,[],pT ib),(5,[],pT bb),(0,[],pT tb),(1,[],iN n)]) (nd:=(fun _=>[])) kr (fun _=>kr) trivial ?_
  refine Lu (yX (.string (tx (eN (zu b k)))) 0 (b:=eb) (ob:=.cells (inC (eZ (zu b k))) 196 (0,0)) (.cells (inC (eW (zu b k))) 196 (0,0)) rfl Tryz.func67 rfl rfl kr kr (fun w1 h=>wTRaw eb (eZ (zu b k)) 72 w1 (h.own (cl eb (inC (eZ (zu b k))) 196) (show(cl eb (inC (eZ (zu b k))) 196)∈([cl eb (inC (eZ (zu b k))) 196,cl ib (inC (zB b (k+1))) 196,cl bb (bv b) 37,cl tb (tbC T.ps nr rm) 88,(nr,Obj.map x.1 x.2)]++(spO rm 121 o T.fr++[])) from(mL (mG 0 rfl)))))) ?_
  refine Ld 1 [0,1,5,7,8,10,11,12,19] ?_
  refine Bq 5 [0,1,5,7,8,10,11,12,19,38] ?_
  by_cases c3:(decide (((eL (zu b k)):Int)>((tx (eN (zu b k))).size:Int)))=true
  ·have c3k:(decide (((eL (zu b k)):Int)>((tx (eN (zu b k))).size:Int)))=true:=c3
   have c3q:=(dT c3k)
   refine qw 38 (b:=(decide (((eL (zu b k)):Int)>((tx (eN (zu b k))).size:Int)))) kr true c3k ?_
   refine Lp 6 [(2,false,none),(2,false,none),(2,false,none),(2,false,none),(2,false,none)] (some [0,1,5,7,8,10,11,12,19,44]) (fun _=>[((.bool true:Value)≠.bool false),((.bool true:Value)≠.bool false),((.bool true:Value)≠.bool false),((.bool true:Value)≠.bool false),((.bool true:Value)≠.bool false)]) ⟨(by simp),(by simp),(by simp),(by simp),(by simp),trivial⟩ ?_
   refine zg rfl ?_
   refine Cfg.condT rfl (b:=true) kr rfl ?_
   refine Rq [6] ?_
   refine Rt [.bool false] (fun w1 hp=>?_)
   have hfin:entL b n 6 T0=(false,T):=hra.symm.trans (entL_stop om (ent_badN c2 (badN_l c3q)))
   rw[hfin]
   have h9:HP w ((tabO tb nr rm T0 o0 x0).map (·.1)) _ (([(tb,Obj.cells (tbC T.ps nr rm) 88 (0,0)),(nr,Obj.map x.1 x.2)]++(spO rm 121 o T.fr++[]))) w1:=hp.sub (.cons _ (.cons _ (.cons _ slr)))
   rw[zm]at h9
   exact⟨(o,x),⟨ho,hg,hm⟩,rfl,_,h9⟩
  have c3k:(decide (((eL (zu b k)):Int)>((tx (eN (zu b k))).size:Int)))=false:=(by simpa using c3)
  have c3q:=(dF c3k)
  refine qw 38 (b:=(decide (((eL (zu b k)):Int)>((tx (eN (zu b k))).size:Int)))) kr false c3k ?_
  refine Lp 3 [(1,false,none),(1,false,none),(1,false,none)] (some [0,1,5,7,8,10,11,12,19,38,41]) (fun _=>[((.bool false:Value)=.bool false),((.bool false:Value)=.bool false),((.bool false:Value)=.bool false),(0≤((eL (zu b k)):Int)),(0≤((eL (zu b k)))∧((eL (zu b k)))≤(tx (eN (zu b k))).size)]) ⟨rfl,rfl,rfl,om,om,trivial⟩ ?_
  refine Lu (zr (vs:=[.string ((tx (eN (zu b k))).extract 0 (((eL (zu b k)))))]) (.bool (namB (nmOf (zu b k)))) rfl Tryz.func14 rfl rfl kr (fun w1 _=>by rw[tx_take];exact fNamed (nmOf (zu b k)) w1 (yU (nmOf_le _) (by decide)))) ?_
  refine Lp 2 [(1,false,none)] (some [0,1,5,7,8,10,11,12,19,44]) (fun _=>[((.bool false:Value)=.bool false)]) ⟨rfl,trivial⟩ ?_
  refine zg rfl ?_
  refine zX rfl (b:=(!(namB (nmOf (zu b k))))) kr (fun c5r=>?_) (fun c5r=>?_)
  ·have c5:((namB (nmOf (zu b k)))=false):=(notT c5r)
   refine Rq [6] ?_
   refine Rt [.bool false] (fun w1 hp=>?_)
   have hfin:entL b n 6 T0=(false,T):=hra.symm.trans (entL_stop om (ent_badN c2 (badN_n c5)))
   rw[hfin]
   have h9:HP w ((tabO tb nr rm T0 o0 x0).map (·.1)) _ (([(tb,Obj.cells (tbC T.ps nr rm) 88 (0,0)),(nr,Obj.map x.1 x.2)]++(spO rm 121 o T.fr++[]))) w1:=hp.sub (.cons _ (.cons _ (.cons _ slr)))
   rw[zm]at h9
   exact⟨(o,x),⟨ho,hg,hm⟩,rfl,_,h9⟩
  have c5:((namB (nmOf (zu b k)))=true):=(notF c5r)
  have hq1:=fourF_lt (eW (zu b k))
  have hq2:=fourF_lt (ym (eW (zu b k))).2
  refine yo rfl kr ([cl ib (inC (zB b (k+1))) 196,cl bb (bv b) 37,cl tb (tbC T.ps nr rm) 88,(nr,.map x.1 x.2)]++(spO rm 121 o T.fr++[])) ?_
  refine CfgA.join (ι:=Nat) (fun(pb:Nat)=>([cl pb ((plc (yt (zu b k))).toArray) 85,cl eb (inC (ym (ym (eW (zu b k))).2).2) 196,cl ib (inC (zB b (k+1))) 196,cl bb (bv b) 37,cl tb (tbC T.ps nr rm) 88,(nr,.map x.1 x.2)]++(spO rm 121 o T.fr++[]))) (fun(pb:Nat)=>[(13,[],pT pb),(8,[],iN k),(19,[],iN k),(7,[],pT ib),(5,[],pT bb),(0,[],pT tb),(1,[],iN n)]) ?_ ?_
  ·rintro pb
   refine yo rfl kr ([cl pb ((plc (yt (zu b k))).toArray) 85,cl eb (inC (ym (ym (eW (zu b k))).2).2) 196,cl ib (inC (zB b (k+1))) 196,cl bb (bv b) 37,cl tb (tbC T.ps nr rm) 88,(nr,.map x.1 x.2)]++(spO rm 121 o T.fr++[])) ?_
   refine Ap [0,1,2,3,4,5] [dZ,dZ,dZ,(dS (.map (some nr))),dZ,(dS (.string (yt (zu b k)).nm))] (some [0,1,5,7,8,13,19,59,61]) (tF 6 6) slr 6 (fun S=>[(cE S tb 432 (.map (some nr))),(cE S pb 0 (.string (yt (zu b k)).nm))]) ⟨(fun w1 h=>h.ocell 4 rfl (tb_names ho.l)),(oC 0 rfl rfl),trivial⟩ ?_
   refine Au 6 rfl 5  (Eff.sGet (z:=.int .i64 0) (r:=nr) (k:=(yt (zu b k)).nm) (es:=x.1) (ck:=x.2) (W:=T.W) rfl Tryz.underlying81 Tryz.underlying9 kr kr kr hm (fun w1 h=>(h.own (nr,Obj.map x.1 x.2) (show(nr,Obj.map x.1 x.2)∈([cl pb ((plc (yt (zu b k))).toArray) 85,cl eb (inC (ym (ym (eW (zu b k))).2).2) 196,cl ib (inC (zB b (k+1))) 196,cl bb (bv b) 37,cl tb (tbC T.ps nr rm) 88,(nr,Obj.map x.1 x.2)]++(spO rm 121 o T.fr++[])) from(mL (mG 5 rfl)))))) (fun _ _=>slr) ?_
   refine Ap [7,8,9,10,11] [] (some [0,1,5,7,8,13,15,19]) (tF 12 0) slr 0 n0 trivial ?_
   refine z6 kr ?_
   refine Rg [0,1,5,7,8,13,19,80] [dZ,dZ,dZ,(dS (.int .i64 ((yt (zu b k)).sz:Int))),dZ,dZ,dZ,dZ,(dS (.int .i64 ((yt (zu b k)).sz:Int))),dZ,dZ,dZ,(dS (.int .i64 ((yt (zu b k)).at_:Int)))] (fun S=>[((.bool (smget T.W (yt (zu b k)).nm).isSome:Value)=.bool false→(cE S pb 2 (.int .i64 ((yt (zu b k)).sz:Int)))),((.bool ((smget T.W (yt (zu b k)).nm).isSome || (decide (((yt (zu b k)).sz:Int)>(32768:Int)))):Value)=.bool false→(cE S pb 2 (.int .i64 ((yt (zu b k)).sz:Int)))),((.bool (((yt (zu b k)).sz:Int)==(0:Int)):Value)=.bool true→((.bool ((smget T.W (yt (zu b k)).nm).isSome || (decide (((yt (zu b k)).sz:Int)>(32768:Int)))):Value)=.bool false→(cE S pb 1 (.int .i64 ((yt (zu b k)).at_:Int)))))]) ⟨(fun g0=>have q0:((smget T.W (yt (zu b k)).nm).isSome=false):=(boolV g0);(oC 0 rfl rfl)),(fun g0=>have q0:(((smget T.W (yt (zu b k)).nm).isSome=false)∧(¬(((yt (zu b k)).sz:Int)>(32768:Int)))):=⟨(orF1 (boolV g0)),(dF (orF2 (boolV g0)))⟩;(oC 0 rfl rfl)),(fun g0 g1=>have q0:(((yt (zu b k)).sz:Int)=(0:Int)):=(beq_iff_eq.1 (boolV g0));have q1:(((smget T.W (yt (zu b k)).nm).isSome=false)∧(¬(((yt (zu b k)).sz:Int)>(32768:Int)))):=⟨(orF1 (boolV g1)),(dF (orF2 (boolV g1)))⟩;(oC 0 rfl rfl)),trivial⟩ ?_
   refine zX rfl (b:=(((smget T.W (yt (zu b k)).nm).isSome || (decide (((yt (zu b k)).sz:Int)>(32768:Int)))) || ((((yt (zu b k)).sz:Int)==(0:Int))&&(((yt (zu b k)).at_:Int) != (0:Int))))) kr (fun c6r=>?_) (fun c6r=>?_)
   ·have c6:((((smget T.W (yt (zu b k)).nm).isSome=true)∨(((yt (zu b k)).sz:Int)>(32768:Int)))∨((((yt (zu b k)).sz:Int)=(0:Int))∧(((yt (zu b k)).at_:Int)≠(0:Int)))):=((orT c6r).elim (fun h=>Or.inl ((orT h).elim (fun h=>Or.inl h) (fun h=>Or.inr (dT h)))) (fun h=>Or.inr ⟨(beq_iff_eq.1 (andT1 h)),(bne_iff_ne.1 (andT2 h))⟩))
    refine Rq [6] ?_
    refine Rt [.bool false] (fun w1 hp=>?_)
    have hfin:entL b n 6 T0=(false,T):=hra.symm.trans (entL_stop om (ent_badP c2 (badN_f c3q c5) (badP_t c6)))
    rw[hfin]
    have h9:HP w ((tabO tb nr rm T0 o0 x0).map (·.1)) _ (([(tb,Obj.cells (tbC T.ps nr rm) 88 (0,0)),(nr,Obj.map x.1 x.2)]++(spO rm 121 o T.fr++[]))) w1:=hp.sub (.cons _ (.cons _ (.cons _ (.cons _ slr))))
    rw[zm]at h9
    exact⟨(o,x),⟨ho,hg,hm⟩,rfl,_,h9⟩
   have c6:((((smget T.W (yt (zu b k)).nm).isSome=false)∧(¬(((yt (zu b k)).sz:Int)>(32768:Int))))∧((((yt (zu b k)).sz:Int)≠(0:Int))∨(((yt (zu b k)).at_:Int)=(0:Int)))):=⟨⟨(orF1 (orF1 c6r)),(dF (orF2 (orF1 c6r)))⟩,((andF (orF2 c6r)).elim (fun h=>Or.inl (beq_eq_false_iff_ne.1 h)) (fun h=>Or.inr (bne_eq_false_iff_eq.1 h)))⟩
   by_cases hsz0:(yt (zu b k)).sz=0
   ·
    have hpo:PlOk (yt (zu b k)):=plOf_ok (by have:=c6.1.2;omega)
    refine yo rfl kr [cl pb ((plc (yt (zu b k))).toArray) 85,cl eb (inC (ym (ym (eW (zu b k))).2).2) 196,cl ib (inC (zB b (k+1))) 196,cl bb (bv b) 37,cl tb (tbC T.ps nr rm) 88,(nr,.map x.1 x.2)] ?_
    refine Ap [0,1,2,3,4] [dZ,dZ,dZ,(dS (pT rm)),(dS (.agg (plc (yt (zu b k))).toArray))] (some [0,1,5,7,8,13,19,84,85]) (tF 5 3) (cO (cO (cO (cO (cO (cO nL)))))) 3 (fun S=>[(cE S tb 433 (pT rm)),(lV S 85 pb 0 (.agg (plc (yt (zu b k))).toArray))]) ⟨(fun w1 h=>h.ocell 4 rfl (tb_room ho.l)),(fun w1 h=>yw (vs:=plc (yt (zu b k))) Tryz.underlying85 rfl kr (plc_len _) (fun q9 v hq9=>h.ocell 0 rfl (by rw[zo,zF];exact hq9))),trivial⟩ ?_
    refine Au 5 rfl 2  (zr (.slice none 0 0) rfl Tryz.func44 rfl rfl kr (fun w1 _=>fRun0 (yt (zu b k)) w1 hsz0)) (fun _ _=>(cO (cO (cO (cO (cO (cO nL))))))) ?_
    refine Ae 6 rfl 1  (zY (fun _:K.Own=>.int .i64 ((ql 121 T.fr.length false (yQ (yt (zu b k))) T.fr).1:Int)) (spO rm 121 o T.fr) (fun o=>spO rm 121 o (yS 121 false (yQ (yt (zu b k))) T.fr)) (fun o=>Good o (yS 121 false (yQ (yt (zu b k))) T.fr)) [cl pb ((plc (yt (zu b k))).toArray) 85,cl eb (inC (ym (ym (eW (zu b k))).2).2) 196,cl ib (inC (zB b (k+1))) 196,cl bb (bv b) 37,cl tb (tbC T.ps nr rm) 88,(nr,.map x.1 x.2)] [] rfl rfl Tryz.func71 rfl rfl kr (fun w1 h hA1 hd1=>claimP0 hsz0 rm o T.fr w1 ho.f hg hA1 hd1)) (fun _ _=>(cO (cO (cO (cO (cO (cO nL))))))) ?_
    rintro o2 hg2
    have hfl2:(yS 121 false (yQ (yt (zu b k))) T.fr).length=T.fr.length:=turnR_len _ _ _ _
    refine Ap [7] [] (some [0,1,5,7,8,13,19,88]) (tF 8 0) (cO (cO (cO (cO (cO (cO nL)))))) 0 n0 trivial ?_
    refine z6 kr ?_
    refine zX rfl (b:=(((ql 121 T.fr.length false (yQ (yt (zu b k))) T.fr).1:Int) != (0:Int))) kr (fun c7r=>?_) (fun c7r=>?_)
    ·have c7:=(bne_iff_ne.1 c7r)
     refine Rq [6] ?_
     refine Rt [.bool false] (fun w1 hp=>?_)
     have hfin:entL b n 6 T0=(false,T):=hra.symm.trans (entL_stop om (ent_room c2 (badN_f c3q c5) (badP_f c6) om))
     rw[hfin]
     have h9:HP w ((tabO tb nr rm T0 o0 x0).map (·.1)) _ (([(tb,Obj.cells (tbC T.ps nr rm) 88 (0,0)),(nr,Obj.map x.1 x.2)]++(spO rm 121 o2 (yS 121 false (yQ (yt (zu b k))) T.fr)++[]))) w1:=hp.sub (.cons _ (.cons _ (.cons _ (.cons _ slr))))
     have e9:=turnR_bad (f:=121) false (l:=yQ (yt (zu b k))) (fr:=T.fr) om
     rw[e9]at hg2 h9
     rw[zm]at h9
     exact⟨(o2,x),⟨ho,hg2,hm⟩,rfl,_,h9⟩
    have c7:=(bne_eq_false_iff_eq.1 c7r)
    refine yo rfl kr ([cl pb ((plc (yt (zu b k))).toArray) 85,cl eb (inC (ym (ym (eW (zu b k))).2).2) 196,cl ib (inC (zB b (k+1))) 196,cl bb (bv b) 37,(nr,.map x.1 x.2)]++(spO rm 121 o2 (yS 121 false (yQ (yt (zu b k))) T.fr)++[])) ?_
    refine CfgA.pure (List.range 9) [dZ,dZ,dZ,dZ,dZ,(dS (.agg (plc (yt (zu b k))).toArray))] (some [0,1,5,7,8,13,19,94,97]) (l':=tF 9 1) kr kr (cO (cO (cO (cO (.cons _ slr))))) 1 rfl (Γ':=[(97,[],.pointer (some ⟨tb,(((n*6)+k)*3),none⟩)),(94,[],.agg (plc (yt (zu b k))).toArray),(13,[],pT pb),(8,[],iN k),(19,[],iN k),(7,[],pT ib),(5,[],pT bb),(0,[],pT tb),(1,[],iN n)]) (nd:=(fun S=>[(i6 ((n:Int)*6)),(i6 (((n:Int)*6)+(k:Int))),(lV S 85 pb 0 (.agg (plc (yt (zu b k))).toArray)),(iL (((n:Int)*6)+(k:Int)) 144)])) (fun _=>kr) ⟨om,om,(fun w1 h=>yw (vs:=plc (yt (zu b k))) Tryz.underlying85 rfl kr (plc_len _) (fun q9 v hq9=>h.ocell 0 rfl (by rw[zo,zF];exact hq9))),om,trivial⟩ ?_
    refine Au 9 rfl 0  (zC (b:=tb) (off:=(((n*6)+k)*3)) (vs:=(plc (yt (zu b k))).toArray) (n:=3) rfl kr kr kr rfl (all_plc _) 4 (cs:=(tbC T.ps nr rm)) (e:=88) kr (by have:=ho.l;unfold tbC;rw[zp,zh,plf_len];simp only[List.length_cons,List.length_nil];omega)) (fun _ _=>(cO (cO (cO (cO (.cons _ slr)))))) ?_
    refine CfgA.setO (congrArg (fun(xq:Array Value)=>(([cl pb ((plc (yt (zu b k))).toArray) 85,cl eb (inC (ym (ym (eW (zu b k))).2).2) 196,cl ib (inC (zB b (k+1))) 196,cl bb (bv b) 37,cl tb xq 88,(nr,.map x.1 x.2)]++(spO rm 121 o2 (yS 121 false (yQ (yt (zu b k))) T.fr)++[])):LO)) (show _=(spl (tbC T.ps nr rm) (((n*6)+k)*3) (plc (yt (zu b k))).toArray.toList)from rfl)) ?_
    refine z6 kr ?_
    refine Cg (Γ':=[(13,[],pT pb),(8,[],iN k),(19,[],iN k),(7,[],pT ib),(5,[],pT bb),(0,[],pT tb),(1,[],iN n)]) ?_
    obtain⟨T2,hT2⟩:∃T2:Tb,T2=⟨T.ps.set (6*n+k) (yt (zu b k)),smset T.W (yt (zu b k)).nm (.int .i64 ((6*n+k:Nat):Int)),yS 121 false (yQ (yt (zu b k))) T.fr⟩:=⟨_,rfl⟩
    have hok2:TbOk T2:=by rw[hT2];exact tb_in ho hpo om hfl2
    refine zU (congrArg (fun(xq:Array Value)=>(([(pb,.cells ((plc (yt (zu b k))).toArray) 85 (0,0)),(eb,.cells (inC (ym (ym (eW (zu b k))).2).2) 196 (0,0)),(ib,.cells (inC (zB b (k+1))) 196 (0,0)),(bb,.cells (bv b) 37 (0,0)),(tb,.cells xq 88 (0,0)),(nr,.map x.1 x.2)]++(spO rm 121 o2 (yS 121 false (yQ (yt (zu b k))) T.fr)++[])):LO)) (show _=(tbC T2.ps nr rm)from by rw[hT2];exact tb_set2 (by have:=ho.l;omega) om)) ?_
    refine yo rfl kr ([cl pb ((plc (yt (zu b k))).toArray) 85,cl eb (inC (ym (ym (eW (zu b k))).2).2) 196,cl ib (inC (zB b (k+1))) 196,cl bb (bv b) 37,cl tb (tbC T2.ps nr rm) 88]++(spO rm 121 o2 (yS 121 false (yQ (yt (zu b k))) T.fr)++[])) ?_
    refine Ap (List.range 10) [dZ,dZ,dZ,(dS (.map (some nr))),dZ,(dS (.string (yt (zu b k)).nm))] (some [0,1,5,7,19,101,103,107]) (tF 10 1) (cO (cO (cO (cO (cO (.cons _ slr)))))) 1 (fun S=>[(cE S tb 432 (.map (some nr))),(cE S pb 0 (.string (yt (zu b k)).nm)),(i6 ((n:Int)*6)),(i6 (((n:Int)*6)+(k:Int)))]) ⟨(fun w1 h=>h.ocell 4 rfl (tb_names hok2.l)),(oC 0 rfl rfl),om,om,trivial⟩ ?_
    refine Ae 10 rfl 0  (Eff.sSet (r:=nr) (k:=(yt (zu b k)).nm) (u:=iN (n*6+k)) (es:=x.1) (ck:=x.2) rfl Tryz.underlying81 Tryz.underlying9 kr kr kr hm 5 kr) (fun _ _=>(cO (cO (cO (cO (cO (.cons _ slr))))))) ?_
    rintro x2 hx2
    refine z6 kr ?_
    refine Cg (Γ':=[(19,[],iN k),(7,[],pT ib),(5,[],pT bb),(0,[],pT tb),(1,[],iN n)]) ?_
    refine Rg [0,1,5,7,19] [] (fun _=>[(i6 ((k:Int)+1))]) ⟨om,trivial⟩ ?_
    have hent:entP (6*n+k) (zu b k) T=some T2:=by rw[hT2];exact ent_ok c2 (badN_f c3q c5) (badP_f c6) om
    refine zU (congrArg (fun(xq:List Bool)=>(([(pb,.cells ((plc (yt (zu b k))).toArray) 85 (0,0)),(eb,.cells (inC (ym (ym (eW (zu b k))).2).2) 196 (0,0)),(ib,.cells (inC (zB b (k+1))) 196 (0,0)),(bb,.cells (bv b) 37 (0,0)),(tb,.cells (tbC T2.ps nr rm) 88 (0,0)),(nr,.map x2.1 x2.2)]++(spO rm 121 o2 xq++[])):LO)) (show _=T2.fr from by rw[hT2])) ?_
    refine zG rfl (k+1,T2,o2,x2) ⟨by omega,(entL_step om hent).symm.trans hra,hok2,by rw[hT2];exact hg2,by rw[hT2];have h8:=hx2;rw[je n 6]at h8;exact h8⟩ (by show 6-(k+1)<6-k;omega) (Conv.mk kr) (.cons _ (.cons _ slr))
   
   have hpo:PlOk (yt (zu b k)):=plOf_ok (by have:=c6.1.2;omega)
   refine yo rfl kr [cl pb ((plc (yt (zu b k))).toArray) 85,cl eb (inC (ym (ym (eW (zu b k))).2).2) 196,cl ib (inC (zB b (k+1))) 196,cl bb (bv b) 37,cl tb (tbC T.ps nr rm) 88,(nr,.map x.1 x.2)] ?_
   refine Ap [0,1,2,3,4] [dZ,dZ,dZ,(dS (pT rm)),(dS (.agg (plc (yt (zu b k))).toArray))] (some [0,1,5,7,8,13,19,84,85]) (tF 5 3) (cO (cO (cO (cO (cO (cO nL)))))) 3 (fun S=>[(cE S tb 433 (pT rm)),(lV S 85 pb 0 (.agg (plc (yt (zu b k))).toArray))]) ⟨(fun w1 h=>h.ocell 4 rfl (tb_room ho.l)),(fun w1 h=>yw (vs:=plc (yt (zu b k))) Tryz.underlying85 rfl kr (plc_len _) (fun q9 v hq9=>h.ocell 0 rfl (by rw[zo,zF];exact hq9))),trivial⟩ ?_
   refine Ae 5 rfl 2  (Eff.callN (fun rb:Nat=>sP rb 0 1 1) (fun rb=>rb) (fun _=>.cells #[.int .i64 ((yt (zu b k)).at_:Int),.int .i64 (secs (yt (zu b k)).sz:Int)] 117 (0,0)) (fun _=>True) rfl Tryz.func44 rfl rfl kr (fun w1 _=>fRun1 (yt (zu b k)) w1 om hpo)) (fun _ _=>(.cons _ (cO (cO (cO (cO (cO (cO nL)))))))) ?_
   rintro rb ⟨-,hrb,nrb⟩
   refine Ae 6 rfl 1  (zY (fun _:K.Own=>.int .i64 ((ql 121 T.fr.length false (yQ (yt (zu b k))) T.fr).1:Int)) (spO rm 121 o T.fr) (fun o=>spO rm 121 o (yS 121 false (yQ (yt (zu b k))) T.fr)) (fun o=>Good o (yS 121 false (yQ (yt (zu b k))) T.fr)) [(rb,.cells #[.int .i64 ((yt (zu b k)).at_:Int),.int .i64 (secs (yt (zu b k)).sz:Int)] 117 (0,0)),(pb,.cells ((plc (yt (zu b k))).toArray) 85 (0,0)),(eb,.cells (inC (ym (ym (eW (zu b k))).2).2) 196 (0,0)),(ib,.cells (inC (zB b (k+1))) 196 (0,0)),(bb,.cells (bv b) 37 (0,0)),(tb,.cells (tbC T.ps nr rm) 88 (0,0)),(nr,.map x.1 x.2)] [] rfl rfl Tryz.func71 rfl rfl kr (fun w1 h hA1 hd1=>claimP1 om hpo rb rm o T.fr w1 ho.f hg hA1 hd1 (fun e he=>by rw[zi.1 he];exact(h.own (rb,Obj.cells #[.int .i64 ((yt (zu b k)).at_:Int),.int .i64 (secs (yt (zu b k)).sz:Int)] 117 (0,0)) (show(rb,Obj.cells #[.int .i64 ((yt (zu b k)).at_:Int),.int .i64 (secs (yt (zu b k)).sz:Int)] 117 (0,0))∈([(rb,Obj.cells #[.int .i64 ((yt (zu b k)).at_:Int),.int .i64 (secs (yt (zu b k)).sz:Int)] 117 (0,0)),(pb,Obj.cells ((plc (yt (zu b k))).toArray) 85 (0,0)),(eb,Obj.cells (inC (ym (ym (eW (zu b k))).2).2) 196 (0,0)),(ib,Obj.cells (inC (zB b (k+1))) 196 (0,0)),(bb,Obj.cells (bv b) 37 (0,0)),(tb,Obj.cells (tbC T.ps nr rm) 88 (0,0)),(nr,Obj.map x.1 x.2)]++(spO rm 121 o T.fr++[])) from(mL (mG 0 rfl))))) (HP.sep (Fl:=[(rb,.cells #[.int .i64 ((yt (zu b k)).at_:Int),.int .i64 (secs (yt (zu b k)).sz:Int)] 117 (0,0)),(pb,.cells ((plc (yt (zu b k))).toArray) 85 (0,0)),(eb,.cells (inC (ym (ym (eW (zu b k))).2).2) 196 (0,0)),(ib,.cells (inC (zB b (k+1))) 196 (0,0)),(bb,.cells (bv b) 37 (0,0)),(tb,.cells (tbC T.ps nr rm) 88 (0,0)),(nr,.map x.1 x.2)]) (Al:=spO rm 121 o T.fr) (T:=[]) h (mG 0 rfl)))) (fun _ _=>(.cons _ (.cons_cons _ (.cons_cons _ (.cons_cons _ (.cons_cons _ (.cons_cons _ (.cons_cons _ (zz _))))))))) ?_
   rintro o2 hg2
   have hfl2:(yS 121 false (yQ (yt (zu b k))) T.fr).length=T.fr.length:=turnR_len _ _ _ _
   refine Ap [7] [] (some [0,1,5,7,8,13,19,88]) (tF 8 0) (.cons _ (cO (cO (cO (cO (cO (cO nL))))))) 0 n0 trivial ?_
   refine z6 kr ?_
   refine zX rfl (b:=(((ql 121 T.fr.length false (yQ (yt (zu b k))) T.fr).1:Int) != (0:Int))) kr (fun c8r=>?_) (fun c8r=>?_)
   ·have c8:=(bne_iff_ne.1 c8r)
    refine Rq [6] ?_
    refine Rt [.bool false] (fun w1 hp=>?_)
    have hfin:entL b n 6 T0=(false,T):=hra.symm.trans (entL_stop om (ent_room c2 (badN_f c3q c5) (badP_f c6) om))
    rw[hfin]
    have h9:HP w ((tabO tb nr rm T0 o0 x0).map (·.1)) _ (([(tb,Obj.cells (tbC T.ps nr rm) 88 (0,0)),(nr,Obj.map x.1 x.2)]++(spO rm 121 o2 (yS 121 false (yQ (yt (zu b k))) T.fr)++[]))) w1:=hp.sub (.cons _ (.cons _ (.cons _ (.cons _ (.cons _ slr)))))
    have e9:=turnR_bad (f:=121) false (l:=yQ (yt (zu b k))) (fr:=T.fr) om
    rw[e9]at hg2 h9
    rw[zm]at h9
    exact⟨(o2,x),⟨ho,hg2,hm⟩,rfl,_,h9⟩
   have c8:=(bne_eq_false_iff_eq.1 c8r)
   refine yo rfl kr ([cl rb #[.int .i64 ((yt (zu b k)).at_:Int),.int .i64 (secs (yt (zu b k)).sz:Int)] 117,cl pb ((plc (yt (zu b k))).toArray) 85,cl eb (inC (ym (ym (eW (zu b k))).2).2) 196,cl ib (inC (zB b (k+1))) 196,cl bb (bv b) 37,(nr,.map x.1 x.2)]++(spO rm 121 o2 (yS 121 false (yQ (yt (zu b k))) T.fr)++[])) ?_
   refine Ap (List.range 9) [dZ,dZ,dZ,dZ,dZ,(dS (.agg (plc (yt (zu b k))).toArray))] (some [0,1,5,7,8,13,19,94,97]) (tF 9 1) (cO (cO (cO (cO (cO (.cons _ slr)))))) 1 (fun S=>[(i6 ((n:Int)*6)),(i6 (((n:Int)*6)+(k:Int))),(lV S 85 pb 0 (.agg (plc (yt (zu b k))).toArray)),(iL (((n:Int)*6)+(k:Int)) 144)]) ⟨om,om,(fun w1 h=>yw (vs:=plc (yt (zu b k))) Tryz.underlying85 rfl kr (plc_len _) (fun q9 v hq9=>h.ocell 1 rfl (by rw[zo,zF];exact hq9))),om,trivial⟩ ?_
   refine Au 9 rfl 0  (zC (b:=tb) (off:=(((n*6)+k)*3)) (vs:=(plc (yt (zu b k))).toArray) (n:=3) rfl kr kr kr rfl (all_plc _) 5 (cs:=(tbC T.ps nr rm)) (e:=88) kr (by have:=ho.l;unfold tbC;rw[zp,zh,plf_len];simp only[List.length_cons,List.length_nil];omega)) (fun _ _=>(cO (cO (cO (cO (cO (.cons _ slr))))))) ?_
   refine CfgA.setO (congrArg (fun(xq:Array Value)=>(([cl rb #[.int .i64 ((yt (zu b k)).at_:Int),.int .i64 (secs (yt (zu b k)).sz:Int)] 117,cl pb ((plc (yt (zu b k))).toArray) 85,cl eb (inC (ym (ym (eW (zu b k))).2).2) 196,cl ib (inC (zB b (k+1))) 196,cl bb (bv b) 37,cl tb xq 88,(nr,.map x.1 x.2)]++(spO rm 121 o2 (yS 121 false (yQ (yt (zu b k))) T.fr)++[])):LO)) (show _=(spl (tbC T.ps nr rm) (((n*6)+k)*3) (plc (yt (zu b k))).toArray.toList)from rfl)) ?_
   refine z6 kr ?_
   refine Cg (Γ':=[(13,[],pT pb),(8,[],iN k),(19,[],iN k),(7,[],pT ib),(5,[],pT bb),(0,[],pT tb),(1,[],iN n)]) ?_
   obtain⟨T2,hT2⟩:∃T2:Tb,T2=⟨T.ps.set (6*n+k) (yt (zu b k)),smset T.W (yt (zu b k)).nm (.int .i64 ((6*n+k:Nat):Int)),yS 121 false (yQ (yt (zu b k))) T.fr⟩:=⟨_,rfl⟩
   have hok2:TbOk T2:=by rw[hT2];exact tb_in ho hpo om hfl2
   refine zU (congrArg (fun(xq:Array Value)=>(([(rb,.cells #[.int .i64 ((yt (zu b k)).at_:Int),.int .i64 (secs (yt (zu b k)).sz:Int)] 117 (0,0)),(pb,.cells ((plc (yt (zu b k))).toArray) 85 (0,0)),(eb,.cells (inC (ym (ym (eW (zu b k))).2).2) 196 (0,0)),(ib,.cells (inC (zB b (k+1))) 196 (0,0)),(bb,.cells (bv b) 37 (0,0)),(tb,.cells xq 88 (0,0)),(nr,.map x.1 x.2)]++(spO rm 121 o2 (yS 121 false (yQ (yt (zu b k))) T.fr)++[])):LO)) (show _=(tbC T2.ps nr rm)from by rw[hT2];exact tb_set2 (by have:=ho.l;omega) om)) ?_
   refine yo rfl kr ([cl rb #[.int .i64 ((yt (zu b k)).at_:Int),.int .i64 (secs (yt (zu b k)).sz:Int)] 117,cl pb ((plc (yt (zu b k))).toArray) 85,cl eb (inC (ym (ym (eW (zu b k))).2).2) 196,cl ib (inC (zB b (k+1))) 196,cl bb (bv b) 37,cl tb (tbC T2.ps nr rm) 88]++(spO rm 121 o2 (yS 121 false (yQ (yt (zu b k))) T.fr)++[])) ?_
   refine Ap (List.range 10) [dZ,dZ,dZ,(dS (.map (some nr))),dZ,(dS (.string (yt (zu b k)).nm))] (some [0,1,5,7,19,101,103,107]) (tF 10 1) (cO (cO (cO (cO (cO (cO (.cons _ slr))))))) 1 (fun S=>[(cE S tb 432 (.map (some nr))),(cE S pb 0 (.string (yt (zu b k)).nm)),(i6 ((n:Int)*6)),(i6 (((n:Int)*6)+(k:Int)))]) ⟨(fun w1 h=>h.ocell 5 rfl (tb_names hok2.l)),(oC 1 rfl rfl),om,om,trivial⟩ ?_
   refine Ae 10 rfl 0  (Eff.sSet (r:=nr) (k:=(yt (zu b k)).nm) (u:=iN (n*6+k)) (es:=x.1) (ck:=x.2) rfl Tryz.underlying81 Tryz.underlying9 kr kr kr hm 6 kr) (fun _ _=>(cO (cO (cO (cO (cO (cO (.cons _ slr)))))))) ?_
   rintro x2 hx2
   refine z6 kr ?_
   refine Cg (Γ':=[(19,[],iN k),(7,[],pT ib),(5,[],pT bb),(0,[],pT tb),(1,[],iN n)]) ?_
   refine Rg [0,1,5,7,19] [] (fun _=>[(i6 ((k:Int)+1))]) ⟨om,trivial⟩ ?_
   have hent:entP (6*n+k) (zu b k) T=some T2:=by rw[hT2];exact ent_ok c2 (badN_f c3q c5) (badP_f c6) om
   refine zU (congrArg (fun(xq:List Bool)=>(([(rb,.cells #[.int .i64 ((yt (zu b k)).at_:Int),.int .i64 (secs (yt (zu b k)).sz:Int)] 117 (0,0)),(pb,.cells ((plc (yt (zu b k))).toArray) 85 (0,0)),(eb,.cells (inC (ym (ym (eW (zu b k))).2).2) 196 (0,0)),(ib,.cells (inC (zB b (k+1))) 196 (0,0)),(bb,.cells (bv b) 37 (0,0)),(tb,.cells (tbC T2.ps nr rm) 88 (0,0)),(nr,.map x2.1 x2.2)]++(spO rm 121 o2 xq++[])):LO)) (show _=T2.fr from by rw[hT2])) ?_
   refine zG rfl (k+1,T2,o2,x2) ⟨by omega,(entL_step om hent).symm.trans hra,hok2,by rw[hT2];exact hg2,by rw[hT2];have h8:=hx2;rw[je n 6]at h8;exact h8⟩ (by show 6-(k+1)<6-k;omega) (Conv.mk kr) (.cons _ (.cons _ (.cons _ slr)))
  intro hj
  refine CfgA.pure [0,1,2,3,6] [] (some [0,1,5,7,8,19,47,48,51]) (l':=(bF 79 12)) kr kr (.cons _ slr) 7 rfl (Γ':=[(51,[],pT eb),(48,[],pT eb),(47,[],.string ((tx (eN (zu b k))).extract 0 (((eL (zu b k)))))),(8,[],iN k),(19,[],iN k),(7,[],pT ib),(5,[],pT bb),(0,[],pT tb),(1,[],iN n)]) (nd:=(fun _=>[(0≤((eL (zu b k)):Int)),(0≤((eL (zu b k)))∧((eL (zu b k)))≤(tx (eN (zu b k))).size)])) (fun _=>kr) ⟨om,om,trivial⟩ ?_
  refine CfgA.two 4 10 kr (fuel':=6) rfl ?_ ?_
  ·
   refine Iu rfl  (yX (.int .u32 ((ym (eW (zu b k))).1:Int)) 0 (b:=eb) (ob:=.cells (inC (eW (zu b k))) 196 (0,0)) (.cells (inC (ym (eW (zu b k))).2) 196 (0,0)) rfl Tryz.func70 rfl rfl kr kr (fun w1 h=>wTFour eb (eW (zu b k)) w1 (h.own (cl eb (inC (eW (zu b k))) 196) (show(cl eb (inC (eW (zu b k))) 196)∈([cl eb (inC (eW (zu b k))) 196,cl ib (inC (zB b (k+1))) 196,cl bb (bv b) 37,cl tb (tbC T.ps nr rm) 88,(nr,Obj.map x.1 x.2)]++(spO rm 121 o T.fr++[])) from(mL (mG 0 rfl)))))) (fun _ _=>(.cons _ slr)) ?_
   refine Ap [5] [] (some [0,1,5,7,8,19,47,50,51]) (tF 7 5) (.cons _ slr) 5 (fun _=>[(i6 ((ym (eW (zu b k))).1:Int))]) ⟨om,trivial⟩ ?_
   refine CfgA.two 7 10 kr (fuel':=4) rfl ?_ ?_
   ·
    refine Iu rfl  (yX (.int .u32 ((ym (ym (eW (zu b k))).2).1:Int)) 0 (b:=eb) (ob:=.cells (inC (ym (eW (zu b k))).2) 196 (0,0)) (.cells (inC (ym (ym (eW (zu b k))).2).2) 196 (0,0)) rfl Tryz.func70 rfl rfl kr kr (fun w1 h=>wTFour eb (ym (eW (zu b k))).2 w1 (h.own (cl eb (inC (ym (eW (zu b k))).2) 196) (show(cl eb (inC (ym (eW (zu b k))).2) 196)∈([cl eb (inC (ym (eW (zu b k))).2) 196,cl ib (inC (zB b (k+1))) 196,cl bb (bv b) 37,cl tb (tbC T.ps nr rm) 88,(nr,Obj.map x.1 x.2)]++(spO rm 121 o T.fr++[])) from(mL (mG 0 rfl)))))) (fun _ _=>(.cons _ slr)) ?_
    refine Ap [8,9] [dZ,(dS (.agg (plc (yt (zu b k))).toArray))] (some [0,1,5,7,8,19,54]) (tF 10 2) (.cons _ slr) 2 (fun S=>[(i6 ((ym (ym (eW (zu b k))).2).1:Int)),(∀w1,S w1→(Instr.build 85 #[(0,.string ((tx (eN (zu b k))).extract 0 (((eL (zu b k)))))),(1,.int .i64 ((ym (eW (zu b k))).1:Int)),(2,.int .i64 ((ym (ym (eW (zu b k))).2).1:Int))]).run Tryz.prog w1=.ok (.agg (plc (yt (zu b k))).toArray) w1)]) ⟨om,(fun w1 _=>by rw[tx_take];kernel_rfl),trivial⟩ ?_
    refine Ae 10 rfl 1  (zM (z:=(.agg (plc plz).toArray)) rfl kr) (fun _ _=>(.cons _ (.cons _ slr))) ?_
    rintro pb ⟨hpb,npb⟩
    refine Au 11 rfl 0  (zC (b:=pb) (off:=0) (vs:=(plc (yt (zu b k))).toArray) (n:=3) rfl kr kr kr rfl (all_plc _) 0 (cs:=(plc plz).toArray) (e:=85) kr (zD 3)) (fun _ _=>(.cons _ (.cons _ slr))) ?_
    refine CfgA.setO (congrArg (fun(xq:Array Value)=>(([cl pb xq 85,cl eb (inC (ym (ym (eW (zu b k))).2).2) 196,cl ib (inC (zB b (k+1))) 196,cl bb (bv b) 37,cl tb (tbC T.ps nr rm) 88,(nr,.map x.1 x.2)]++(spO rm 121 o T.fr++[])):LO)) (show _=((plc (yt (zu b k))).toArray) from(show spl (plc plz).toArray 0 (plc (yt (zu b k))).toArray.toList=(plc (yt (zu b k))).toArray from yx rfl))) ?_
    refine z6 kr ?_
    refine Cg (Γ':=[(13,[],pT pb),(8,[],iN k),(19,[],iN k),(7,[],pT ib),(5,[],pT bb),(0,[],pT tb),(1,[],iN n)]) ?_
    refine Cg (Γ':=[(13,[],pT pb),(8,[],iN k),(19,[],iN k),(7,[],pT ib),(5,[],pT bb),(0,[],pT tb),(1,[],iN n)]) ?_
    exact hj pb
   
   refine Ie rfl  (zM (z:=(.agg (plc plz).toArray)) rfl kr) (fun _ _=>(.cons _ (.cons _ slr))) ?_
   rintro pb ⟨hpb,npb⟩
   refine Au 7 rfl 3  (yX (.int .u32 ((ym (ym (eW (zu b k))).2).1:Int)) 1 (b:=eb) (ob:=.cells (inC (ym (eW (zu b k))).2) 196 (0,0)) (.cells (inC (ym (ym (eW (zu b k))).2).2) 196 (0,0)) rfl Tryz.func70 rfl rfl kr kr (fun w1 h=>wTFour eb (ym (eW (zu b k))).2 w1 (h.own (cl eb (inC (ym (eW (zu b k))).2) 196) (show(cl eb (inC (ym (eW (zu b k))).2) 196)∈([cl pb ((plc plz).toArray) 85,cl eb (inC (ym (eW (zu b k))).2) 196,cl ib (inC (zB b (k+1))) 196,cl bb (bv b) 37,cl tb (tbC T.ps nr rm) 88,(nr,Obj.map x.1 x.2)]++(spO rm 121 o T.fr++[])) from(mL (mG 1 rfl)))))) (fun _ _=>(.cons _ (.cons _ slr))) ?_
   refine Ap [8,9] [dZ,(dS (.agg (plc (yt (zu b k))).toArray))] (some [0,1,5,7,8,13,19,54]) (tF 11 1) (.cons _ (.cons _ slr)) 1 (fun S=>[(i6 ((ym (ym (eW (zu b k))).2).1:Int)),(∀w1,S w1→(Instr.build 85 #[(0,.string ((tx (eN (zu b k))).extract 0 (((eL (zu b k)))))),(1,.int .i64 ((ym (eW (zu b k))).1:Int)),(2,.int .i64 ((ym (ym (eW (zu b k))).2).1:Int))]).run Tryz.prog w1=.ok (.agg (plc (yt (zu b k))).toArray) w1)]) ⟨om,(fun w1 _=>by rw[tx_take];kernel_rfl),trivial⟩ ?_
   refine Au 11 rfl 0  (zC (b:=pb) (off:=0) (vs:=(plc (yt (zu b k))).toArray) (n:=3) rfl kr kr kr rfl (all_plc _) 0 (cs:=(plc plz).toArray) (e:=85) kr (zD 3)) (fun _ _=>(.cons _ (.cons _ slr))) ?_
   refine CfgA.setO (congrArg (fun(xq:Array Value)=>(([cl pb xq 85,cl eb (inC (ym (ym (eW (zu b k))).2).2) 196,cl ib (inC (zB b (k+1))) 196,cl bb (bv b) 37,cl tb (tbC T.ps nr rm) 88,(nr,.map x.1 x.2)]++(spO rm 121 o T.fr++[])):LO)) (show _=((plc (yt (zu b k))).toArray) from(show spl (plc plz).toArray 0 (plc (yt (zu b k))).toArray.toList=(plc (yt (zu b k))).toArray from yx rfl))) ?_
   refine z6 kr ?_
   refine Cg (Γ':=[(13,[],pT pb),(8,[],iN k),(19,[],iN k),(7,[],pT ib),(5,[],pT bb),(0,[],pT tb),(1,[],iN n)]) ?_
   refine Cg (Γ':=[(13,[],pT pb),(8,[],iN k),(19,[],iN k),(7,[],pT ib),(5,[],pT bb),(0,[],pT tb),(1,[],iN n)]) ?_
   exact hj pb
  
  refine Ie rfl  (zM (z:=(.agg (plc plz).toArray)) rfl kr) (fun _ _=>(.cons _ (.cons _ slr))) ?_
  rintro pb ⟨hpb,npb⟩
  refine Au 4 rfl 5  (yX (.int .u32 ((ym (eW (zu b k))).1:Int)) 1 (b:=eb) (ob:=.cells (inC (eW (zu b k))) 196 (0,0)) (.cells (inC (ym (eW (zu b k))).2) 196 (0,0)) rfl Tryz.func70 rfl rfl kr kr (fun w1 h=>wTFour eb (eW (zu b k)) w1 (h.own (cl eb (inC (eW (zu b k))) 196) (show(cl eb (inC (eW (zu b k))) 196)∈([cl pb ((plc plz).toArray) 85,cl eb (inC (eW (zu b k))) 196,cl ib (inC (zB b (k+1))) 196,cl bb (bv b) 37,cl tb (tbC T.ps nr rm) 88,(nr,Obj.map x.1 x.2)]++(spO rm 121 o T.fr++[])) from(mL (mG 1 rfl)))))) (fun _ _=>(.cons _ (.cons _ slr))) ?_
  refine Ap [5] [] (some [0,1,5,7,8,13,19,47,50,51]) (bF 1151 12) (.cons _ (.cons _ slr)) 4 (fun _=>[(i6 ((ym (eW (zu b k))).1:Int))]) ⟨om,trivial⟩ ?_
  refine Au 7 rfl 3  (yX (.int .u32 ((ym (ym (eW (zu b k))).2).1:Int)) 1 (b:=eb) (ob:=.cells (inC (ym (eW (zu b k))).2) 196 (0,0)) (.cells (inC (ym (ym (eW (zu b k))).2).2) 196 (0,0)) rfl Tryz.func70 rfl rfl kr kr (fun w1 h=>wTFour eb (ym (eW (zu b k))).2 w1 (h.own (cl eb (inC (ym (eW (zu b k))).2) 196) (show(cl eb (inC (ym (eW (zu b k))).2) 196)∈([cl pb ((plc plz).toArray) 85,cl eb (inC (ym (eW (zu b k))).2) 196,cl ib (inC (zB b (k+1))) 196,cl bb (bv b) 37,cl tb (tbC T.ps nr rm) 88,(nr,Obj.map x.1 x.2)]++(spO rm 121 o T.fr++[])) from(mL (mG 1 rfl)))))) (fun _ _=>(.cons _ (.cons _ slr))) ?_
  refine Ap [8,9] [dZ,(dS (.agg (plc (yt (zu b k))).toArray))] (some [0,1,5,7,8,13,19,54]) (tF 11 1) (.cons _ (.cons _ slr)) 1 (fun S=>[(i6 ((ym (ym (eW (zu b k))).2).1:Int)),(∀w1,S w1→(Instr.build 85 #[(0,.string ((tx (eN (zu b k))).extract 0 (((eL (zu b k)))))),(1,.int .i64 ((ym (eW (zu b k))).1:Int)),(2,.int .i64 ((ym (ym (eW (zu b k))).2).1:Int))]).run Tryz.prog w1=.ok (.agg (plc (yt (zu b k))).toArray) w1)]) ⟨om,(fun w1 _=>by rw[tx_take];kernel_rfl),trivial⟩ ?_
  refine Au 11 rfl 0  (zC (b:=pb) (off:=0) (vs:=(plc (yt (zu b k))).toArray) (n:=3) rfl kr kr kr rfl (all_plc _) 0 (cs:=(plc plz).toArray) (e:=85) kr (zD 3)) (fun _ _=>(.cons _ (.cons _ slr))) ?_
  refine CfgA.setO (congrArg (fun(xq:Array Value)=>(([cl pb xq 85,cl eb (inC (ym (ym (eW (zu b k))).2).2) 196,cl ib (inC (zB b (k+1))) 196,cl bb (bv b) 37,cl tb (tbC T.ps nr rm) 88,(nr,.map x.1 x.2)]++(spO rm 121 o T.fr++[])):LO)) (show _=((plc (yt (zu b k))).toArray) from(show spl (plc plz).toArray 0 (plc (yt (zu b k))).toArray.toList=(plc (yt (zu b k))).toArray from yx rfl))) ?_
  refine z6 kr ?_
  refine Cg (Γ':=[(13,[],pT pb),(8,[],iN k),(19,[],iN k),(7,[],pT ib),(5,[],pT bb),(0,[],pT tb),(1,[],iN n)]) ?_
  refine Cg (Γ':=[(13,[],pT pb),(8,[],iN k),(19,[],iN k),(7,[],pT ib),(5,[],pT bb),(0,[],pT tb),(1,[],iN n)]) ?_
  exact hj pb
 refine yo rfl kr ([cl ib (inC (zB b k)) 196,cl bb (bv b) 37,cl tb (tbC T.ps nr rm) 88,(nr,.map x.1 x.2)]++(spO rm 121 o T.fr++[])) ?_
 refine Ap [0,1,3] [dZ,dZ,(dS (.agg (bv b)))] (some [109,110,112]) (bF 11 6) slr 3 (fun S=>[(lV S 37 bb 0 (.agg (bv b)))]) ⟨(fun w1 h=>h.oload 1 rfl Tryz.underlying37 rfl (n:=512) kr ((zP _).trans hb)),trivial⟩ ?_
 refine Au 2 rfl 2  (zr (.agg (bv (yN T.ps n))) rfl Tryz.func72 rfl rfl kr (fun w1 h=>fSheet tb nr rm T.ps n w1 (fun e he=>by rw[zi.1 he];exact(h.own (tb,Obj.cells (tbC T.ps nr rm) 88 (0,0)) (show(tb,Obj.cells (tbC T.ps nr rm) 88 (0,0))∈([(ib,Obj.cells (inC (zB b k)) 196 (0,0)),(bb,Obj.cells (bv b) 37 (0,0)),(tb,Obj.cells (tbC T.ps nr rm) 88 (0,0)),(nr,Obj.map x.1 x.2)]++(spO rm 121 o T.fr++[])) from(mL (mG 2 rfl))))) ho.l ho.o hn)) (fun _ _=>slr) ?_
 refine Ap [4,5] [(dS (.bool (yN T.ps n==b)))] (some [6]) (tF 6 0) slr 0 (fun S=>[(∀w1,S w1→(Op.equal 37 (.agg (bv (yN T.ps n))) (.agg (bv b))).run Tryz.prog w1=.ok (yN T.ps n==b) w1)]) ⟨(fun w1 _=>equal_bv Tryz.underlying37 Tryz.underlying5 kr (sheetF_len ho.l hn ho.o) hb),trivial⟩ ?_
 refine z6 kr ?_
 refine Rt [.bool (yN T.ps n==b)] (fun w1 hp=>?_)
 have hk6:k=6:=by omega
 subst hk6
 have hfin:entL b n 6 T0=(decide (yN T.ps n=b),T):=hra.symm
 rw[hfin]
 have h9:HP w ((tabO tb nr rm T0 o0 x0).map (·.1)) _ (([(tb,Obj.cells (tbC T.ps nr rm) 88 (0,0)),(nr,Obj.map x.1 x.2)]++(spO rm 121 o T.fr++[]))) w1:=hp.sub (.cons _ (.cons _ slr))
 rw[zm]at h9
 exact⟨(o,x),⟨ho,hg,hm⟩,congrArg (fun q=>Ending.returned (.bool q)) (by rw[Bool.eq_iff_iff];simp),_,h9⟩
end
section
open K
theorem valF_lt4 {l:List UInt8} (h:l.length≤4):valF l<4294967296:=by
 have key:∀(l:List UInt8) (m:Nat),(m+1)*256^l.length≤18446744073709551616→l.foldl vf m<(m+1)*256^l.length:=by
  intro l
  induction l with
  | nil=>intro m _;simp
  | cons b l ih=>
   intro m hm
   have hb:=byteLt b
   rw[zL,Nat.pow_succ,je (256^l.length) 256,←Nat.mul_assoc]at hm ⊢
   have hk:0<256^l.length:=Nat.pow_pos (by decide)
   have h1:(m+1)*256≤18446744073709551616:=yU (Nat.le_mul_of_pos_right _ hk) hm
   have e:vf m b=m*256+b.toNat:=by unfold vf;omega
   rw[q8,e]
   have h2:(m*256+b.toNat+1)*256^l.length≤(m+1)*256*256^l.length:=Nat.mul_le_mul_right _ om
   exact Nat.lt_of_lt_of_le (ih _ (yU h2 hm)) h2
 have h1:=key l 0 (by
  have:256^l.length≤256^4:=Nat.pow_le_pow_right (by decide) h
  omega)
 have h2:256^l.length≤256^4:=Nat.pow_le_pow_right (by decide) h
 unfold valF
 omega
theorem failF_ne (z:IN) {e:Int} (he:e≠0):(failF z e).er≠0:=by
 unfold failF;split
 ·exact he
 assumption
end
section
open K
def rowK (L:List UInt8) (k:Nat):List UInt8:=L.take k++replicate (512-k) 0
theorem rowK_len {L:List UInt8} {k:Nat} (hk:k≤L.length) (h:L.length≤512):(rowK L k).length=512:=by unfold rowK;rw[zh,z8,zk];omega
theorem rowK_set {L:List UInt8} {k:Nat} (hk:k<L.length) (h:L.length≤512):(bv (rowK L k)).setIfInBounds k (.int .u8 ((L.getD k 0).toNat:Int))=bv (rowK L (k+1)):=by
 have hb:=byteLt (L.getD k 0)
 rw[bv_set om om,yk]
 congr 1
 unfold rowK
 have e1:replicate (512-k) (0:UInt8)=0::replicate (512-(k+1)) 0:=by rw[show 512-k=(512-(k+1))+1 by omega,List.replicate_succ]
 have hl:(L.take k).length=k:=by rw[z8];omega
 rw[e1,zV hk,zO]
 simp[hl,List.getElem?_eq_getElem hk]
theorem jc_byte {r:Wr} {j:Nat} (h:r.2.length=512) (hj:j<512):(jc r)[1+j]? = some (.int .u8 ((r.2.getD j 0).toNat:Int)):=by
 rw[show 1+j=j+1 by omega]
 show(bv r.2).toList[j]? = _
 rw[qj];exact bv_get h hj
theorem numI (n k:Nat) (w:World) (hn:n<9223372036854775808) (hk:k≤8):Calls Tryz.prog 90 #[.int .u64 ((n:Int)%18446744073709551616),.int .i64 (k:Int)] w fun e w'=>e=.returned (.string (beS n k))∧Ext [] w w':=by
 rw[show((n:Int)%18446744073709551616)=(n:Int) by omega];exact rNum n k w om hk
end
section
open K
theorem foldl_spl (off:Nat):∀(vs:List Value) (k:Nat) (cs:Array Value),(vs.zipIdx k).foldl (fun(cs:Array Value) (p:Value×Nat)=>cs.setIfInBounds (off+p.2) p.1) cs=spl cs (off+k) vs
 | [],k,cs=>rfl
 | v::vs,k,cs=>by
  rw[List.zipIdx_cons,q8,foldl_spl off vs (k+1),spl]
  rfl
theorem build_wr (n:Int) {t:List UInt8} (ht:t.length=512) (w:World):(Instr.build 101 #[(0,.int .i64 n),(1,.agg (bv t))]).run Tryz.prog w=.ok (.agg (jc (n,t)).toArray) w:=by
 refine run_build w 101 _ _ ?_
 have hz:Tryz.prog.built 101 [(0,.int .i64 n),(1,.agg (bv t))]=Instr.fill ((#[(0,1),(1,512)]:Array (Nat×Nat))[·]?) (jc wz).toArray [(0,.int .i64 n),(1,.agg (bv t))]:=by kernel_rfl
 show Tryz.prog.built 101 [(0,.int .i64 n),(1,.agg (bv t))]=_
 rw[hz]
 have h1:((Value.agg (bv t)).cells).size=512:=by show(bv t).size=512;rw[zP,ht]
 have e0:(Value.int .i64 n).cells.zipIdx.foldl (fun(cs:Array Value) (p:Value×Nat)=>cs.setIfInBounds (0+p.2) p.1) (jc wz).toArray=(jc (n,replicate 512 0)).toArray:=rfl
 have e1:(bv t).zipIdx.foldl (fun(cs:Array Value) (p:Value×Nat)=>cs.setIfInBounds (1+p.2) p.1) (jc (n,replicate 512 0)).toArray=(jc (n,t)).toArray:=by
  rw[←Array.foldl_toList,Array.toList_zipIdx,foldl_spl 1 (bv t).toList 0]
  have:=spl_at (L:=jc (n,replicate 512 0)) (A:=[Value.int .i64 n]) (B:=(bv (replicate 512 0)).toList) (T:=[]) (vs:=(bv t).toList) (off:=1) (by simp[jc]) rfl (by rw[z7,zP,ht];rfl)
  rw[this];simp[jc]
 have e0':(Value.int .i64 n).cells.zipIdx.foldl (fun cs x=>match x with|(c,j)=>cs.setIfInBounds (0+j) c) (jc wz).toArray=(jc (n,replicate 512 0)).toArray:=e0
 have e1':(Value.agg (bv t)).cells.zipIdx.foldl (fun cs x=>match x with|(c,j)=>cs.setIfInBounds (1+j) c) (jc (n,replicate 512 0)).toArray=(jc (n,t)).toArray:=e1
 have q1:(decide ((Value.int .i64 n).cells.size≠1) || decide (0+(Value.int .i64 n).cells.size>(jc wz).toArray.size))=false:=rfl
 have q2:(decide ((Value.agg (bv t)).cells.size≠512) || decide (1+(Value.agg (bv t)).cells.size>(jc (n,replicate 512 0)).toArray.size))=false:=by rw[h1];rfl
 rw[Instr.fill]
 show(if(decide ((Value.int .i64 n).cells.size≠1) || decide (0+(Value.int .i64 n).cells.size>(jc wz).toArray.size))=true then none else _)=_
 rw[q1,if_neg (by decide),e0',Instr.fill]
 show(if(decide ((Value.agg (bv t)).cells.size≠512) || decide (1+(Value.agg (bv t)).cells.size>(jc (n,replicate 512 0)).toArray.size))=true then none else _)=_
 rw[q2,if_neg (by decide),e1',Instr.fill]
def InB (Rl:List (Nat×Obj)) (la:Option Addr) (bs:List (List UInt8)):Prop:=InS Rl la (bs.length*512) (fun j=>(rows bs).getD j undef)
theorem InB.mono {Rl Rl':List (Nat×Obj)} {la:Option Addr} {l:List (List UInt8)} (h:InB Rl la l) (hR:∀e∈Rl,e∈Rl'):InB Rl' la l:=InS.mono h hR
theorem blk_cell {l:List (List UInt8)} {cs:Array Value} {off i:Nat} (hW:W5 l) (hcs:∀j,j<l.length*512→cs[off+j]? = some ((rows l).getD j undef)) (hi:i<l.length) {j:Nat} (hj:j<512):cs[off+i*512+j]? = some (.int .u8 (((l.getD i zb).getD j 0).toNat:Int)):=by
 rw[Nat.add_assoc,hcs (i*512+j) om,zc,rows_get hW hi hj];rfl
def aD (H:List UInt8) (k:Nat):IN:=⟨0,H.drop k⟩
theorem z_take {H:List UInt8} {k n:Nat} (h:k+n≤H.length):nextF (aD H k) (n:Int)=((H.drop k).take n,aD H (k+n)):=by
 unfold nextF aD
 rw[if_neg (fun hx=>hx rfl),if_neg (by simp only[List.length_drop];omega),yk,List.drop_drop]
def numP (H:List UInt8):Nat:=valF ((H.drop 4).take 8)
def cntP (H:List UInt8):Nat:=valF ((H.drop 12).take 4)
def atP (H:List UInt8) (i:Nat):Nat:=(gb H (16+2*i)).toNat*256+(gb H (17+2*i)).toNat
def rowP (H:List UInt8) (bs:List (List UInt8)) (k:Nat):List Wr:=(List.range k).map fun i=>((atP H i:Int),bs.getD i zb)
theorem rowP_succ (H:List UInt8) (bs:List (List UInt8)) (k:Nat):rowP H bs (k+1)=rowP H bs k++[((atP H k:Int),bs.getD k zb)]:=by unfold rowP;rw[qc,yf];rfl
theorem rowP_len (H:List UInt8) (bs:List (List UInt8)) (k:Nat):(rowP H bs k).length=k:=by unfold rowP;rw[zA,qk]
theorem rowP_w {bs:List (List UInt8)} (h:W5 bs) (H:List UInt8) (k:Nat):WW (rowP H bs k):=fun x hx=>by
 obtain⟨i,_,rfl⟩:=zv.1 hx
 exact h.at' i
def parG (H:List UInt8) (bs:List (List UInt8)):Bool:=decide (H.take 4=mkL)&&(decide (cntP H≤min 96 bs.length)&&decide (qi (numP H) (rowP H bs (cntP H))=H))
def parN (H:List UInt8) (bs:List (List UInt8)):Nat:=if parG H bs then numP H else 0
def parL (H:List UInt8) (bs:List (List UInt8)):List Wr:=if parG H bs then rowP H bs (cntP H) else[]
theorem par_no {H:List UInt8} {bs:List (List UInt8)} (h:parG H bs=false):parN H bs=0∧parL H bs=[]:=by unfold parN parL;rw[h];exact⟨rfl,rfl⟩
theorem par_yes {H:List UInt8} {bs:List (List UInt8)} (h:parG H bs=true):parN H bs=numP H∧parL H bs=rowP H bs (cntP H):=by unfold parN parL;rw[h];exact⟨rfl,rfl⟩
theorem par_no1 {H:List UInt8} {bs:List (List UInt8)} (h:¬H.take 4=mkL):parG H bs=false:=by unfold parG;rw[decide_eq_false h];rfl
theorem par_no2 {H:List UInt8} {bs:List (List UInt8)} (h:¬cntP H≤min 96 bs.length):parG H bs=false:=by unfold parG;rw[decide_eq_false h,Bool.false_and,Bool.and_false]
theorem par_no3 {H:List UInt8} {bs:List (List UInt8)} (h:¬qi (numP H) (rowP H bs (cntP H))=H):parG H bs=false:=by unfold parG;rw[decide_eq_false h,Bool.and_false,Bool.and_false]
theorem par_ok {H:List UInt8} {bs:List (List UInt8)} (h1:H.take 4=mkL) (h2:cntP H≤min 96 bs.length) (h3:qi (numP H) (rowP H bs (cntP H))=H):parG H bs=true:=by unfold parG;rw[decide_eq_true h1,decide_eq_true h2,decide_eq_true h3];rfl
theorem mark_eq {l:List UInt8}:((tx l).toList==(⟨#[80,82,84,82]⟩:ByteArray).toList)=decide (l=mkL):=by
 rw[Go.ByteArray.toList_eq,Go.ByteArray.toList_eq,Bool.eq_iff_iff,beq_iff_eq,decide_eq_true_iff];exact Iff.rfl
theorem cnt_lt (H:List UInt8):cntP H<4294967296:=valF_lt4 (by rw[z8];omega)
theorem numP_lt (H:List UInt8):numP H<18446744073709551616:=valF_lt _
theorem eight_at {H:List UInt8} (h:H.length=512):eightF (aD H 4)=(numP H,aD H 12):=by
 have h1:=z_take (H:=H) (k:=4) (n:=8) om
 unfold eightF;rw[show(8:Int)=((8:Nat):Int)from rfl,h1];rfl
theorem four_at {H:List UInt8} (h:H.length=512):ym (aD H 12)=(cntP H,aD H 16):=by
 have h1:=z_take (H:=H) (k:=12) (n:=4) om
 have h2:=cnt_lt H
 unfold ym;rw[show(4:Int)=((4:Nat):Int)from rfl,h1]
 show(cntP H%4294967296,_)=_
 rw[Nat.mod_eq_of_lt h2]
theorem one_take {H:List UInt8} {k:Nat} (h:k<H.length):(H.drop k).take 1=[gb H k]:=by
 rw[List.take_one,List.head?_drop,zd h]
 simp[gb,List.getElem?_eq_getElem h]
theorem two_take {H:List UInt8} {k:Nat} (h:k+1<H.length):(H.drop k).take 2=[gb H k,gb H (k+1)]:=by
 have h1:=one_take (H:=H) (k:=k) om
 have h2:=one_take (H:=H) (k:=k+1) h
 rw[show 2=1+1 from rfl,List.take_add,h1,List.drop_drop,h2];rfl
theorem byte_at {H:List UInt8} {k:Nat} (h:k<H.length):byteF (aD H k)=((gb H k).toNat,aD H (k+1)):=by
 have h1:=z_take (H:=H) (k:=k) (n:=1) om
 have hb:=byteLt (gb H k)
 unfold byteF;rw[show(1:Int)=((1:Nat):Int)from rfl,h1,one_take h]
 show((vf 0 (gb H k))%256,_)=_
 rw[show vf 0 (gb H k)%256=(gb H k).toNat by unfold vf;omega]
theorem val_two {H:List UInt8} {i:Nat} (h:17+2*i<H.length):valF ((H.drop (16+2*i)).take 2)=atP H i:=by
 rw[two_take om]
 have h1:=byteLt (gb H (16+2*i));have h2:=byteLt (gb H (16+2*i+1))
 show vf (vf 0 (gb H (16+2*i))) (gb H (16+2*i+1))=_
 unfold atP;rw[show 17+2*i=16+2*i+1 by omega];unfold vf;omega
theorem cnt_ok {H:List UInt8} (h:H.length=512) {m:Nat} (he:(boundF (aD H 12) (m:Int) 6).2.er=0):boundF (aD H 12) (m:Int) 6=(cntP H,aD H 16)∧cntP H≤m:=by
 have h4:=four_at h
 have hm:(if(0:Int)>(m:Int)then 0 else(m:Int)).toNat=m:=by rw[if_neg om];rfl
 unfold boundF at he ⊢
 rw[hm,h4]at he ⊢
 by_cases h0:cntP H>m
 ·rw[if_pos h0]at he
  exact absurd he (failF_ne _ (by decide))
 exact⟨if_neg h0,by omega⟩
theorem cnt_no {H:List UInt8} (h:H.length=512) {m:Nat} (he:¬(boundF (aD H 12) (m:Int) 6).2.er=0):¬cntP H≤m:=by
 have h4:=four_at h
 have hm:(if(0:Int)>(m:Int)then 0 else(m:Int)).toNat=m:=by rw[if_neg om];rfl
 intro hle
 apply he
 unfold boundF
 rw[hm,h4,if_neg (by show ¬cntP H>m;omega)];rfl
theorem jRaw (b:Nat) (H:List UInt8) (w:World) (h:H.length=512) (hB:w.heap[b]? = some (.cells (inC (aD H 0)) 196 (0,0))):Calls Tryz.prog 67 #[.pointer (some ⟨b,0,none⟩),.int .i64 4] w fun e w'=>e=.returned (.string (tx (H.take 4)))∧Ext [b] w w'∧w'.heap[b]? = some (.cells (inC (aD H 4)) 196 (0,0)):=by
 have h1:=z_take (H:=H) (k:=0) (n:=4) om
 have h9:=wTRaw b (aD H 0) ((4:Nat):Int) w hB
 rw[h1]at h9;exact h9
theorem jEight (b:Nat) (H:List UInt8) (w:World) (h:H.length=512) (hB:w.heap[b]? = some (.cells (inC (aD H 4)) 196 (0,0))):Calls Tryz.prog 99 #[.pointer (some ⟨b,0,none⟩)] w fun e w'=>e=.returned (.int .u64 (numP H:Int))∧Ext [b] w w'∧w'.heap[b]? = some (.cells (inC (aD H 12)) 196 (0,0)):=by
 have h9:=wTEight b (aD H 4) w hB
 rw[eight_at h]at h9;exact h9
theorem jByte (b:Nat) (H:List UInt8) (k:Nat) (w:World) (h:k<H.length) (hB:w.heap[b]? = some (.cells (inC (aD H k)) 196 (0,0))):Calls Tryz.prog 69 #[.pointer (some ⟨b,0,none⟩)] w fun e w'=>e=.returned (.int .u8 ((gb H k).toNat:Int))∧Ext [b] w w'∧w'.heap[b]? = some (.cells (inC (aD H (k+1))) 196 (0,0)):=by
 have h9:=wTByte b (aD H k) w hB
 rw[byte_at h]at h9;exact h9
theorem own_le {o:K.Own} {sz n:Nat} {xs:List Value} (h:OwnOk o sz n xs):n≤Own.c o:=by
 cases o with
 | none=>rw[h.nil rfl];exact zH _
 | some p=>exact(h.some p rfl).2
theorem wr_src {w0 w:World} {M:List Nat} {R O:List (Nat×Obj)} (h:HP w0 M R O w) (i:Nat) {b:Nat} {r:Wr} {t:TypeId} (ho:O[i]? = some (b,.cells (jc r).toArray t (0,0))) {j:Nat} {v:Value} (hj:(jc r)[j]? = some v):w.cell? ⟨b,0+j,none⟩=some v:=by
 rw[zF,zI (h.own _ (yg ho)),zo];exact hj
theorem at_or (H:List UInt8) (k:Nat):((atP H k:Nat):Int)=(((gb H (16+2*k)).toNat*256 ||| (gb H (16+2*k+1)).toNat:Nat):Int):=by
 have h:=byteLt (gb H (16+2*k+1))
 unfold atP
 rw[je,or256 _ _ h,show 17+2*k=16+2*k+1 by omega]
theorem par_ret {H:List UInt8} {bs:List (List UInt8)} {w w1:World} {M:List Nat} {R F:List (Nat×Obj)} {t:TypeId} (o:K.Own) (hG:parG H bs=true) (ko:OwnOk o 513 (rowP H bs (cntP H)).length (jv (rowP H bs (cntP H)))) (hp:HP w M R (F++(Own.o t (jv (rowP H bs (cntP H))) o++[])) w1) (hM:M=[]) :
  ∃x:K.Own,OwnOk x 513 (parL H bs).length (jv (parL H bs))∧Ending.returned (resOf [.int .u64 (numP H:Int),.slice (Own.a o) (cntP H) (Own.c o),.bool true])=.returned (.tuple #[.int .u64 (parN H bs:Int),.slice (Own.a x) (parL H bs).length (Own.c x),.bool (parG H bs)])∧∃R1,HP w [] R1 (Own.o t (jv (parL H bs)) x) w1:=by
 obtain⟨h1,h2⟩:=par_yes hG
 subst hM
 rw[h1,h2,hG]
 have h9:=hp.sub (zj _ _)
 rw[zm]at h9
 refine⟨o,ko,?_,_,h9⟩
 rw[rowP_len];rfl
theorem par_ret0 {H:List UInt8} {bs:List (List UInt8)} {w w1:World} {R F:List (Nat×Obj)} {t:TypeId} (hG:parG H bs=false) (hp:HP w [] R F w1) :
  ∃o:K.Own,OwnOk o 513 (parL H bs).length (jv (parL H bs))∧Ending.returned (resOf [.int .u64 0,.slice none 0 0,.bool false])=.returned (.tuple #[.int .u64 (parN H bs:Int),.slice (Own.a o) (parL H bs).length (Own.c o),.bool (parG H bs)])∧∃R1,HP w [] R1 (Own.o t (jv (parL H bs)) o) w1:=by
 obtain⟨h1,h2⟩:=par_no hG
 rw[h1,h2,hG]
 exact⟨none,OwnOk.none _,rfl,_,hp.sub nL⟩
end
section
open K
theorem jParse (H:List UInt8) (la:Option Addr) (cap:Nat) (bs:List (List UInt8)) (Rl:List (Nat×Obj)) {kt:Array Value} {t0:TypeId} {fr0:Nat×Nat} (w:World) (hH:H.length=512) (hI:InB Rl la bs) (hB:W5 bs) (hn:bs.length≤maxLen) (hR:Has w ((1,.cells kt t0 fr0)::Rl)) (hK:KT kt:=by assumption) :
  Calls Tryz.prog 61 #[.agg (bv H),.slice la bs.length cap] w fun e w'=>∃o:K.Own,OwnOk o 513 (parL H bs).length (jv (parL H bs))∧e=.returned (.tuple #[.int .u64 (parN H bs:Int),.slice (Own.a o) (parL H bs).length (Own.c o),.bool (parG H bs)])∧∃R1,HP w [] R1 (Own.o 101 (jv (parL H bs)) o) w':=by
 unfold maxLen at hn
 obtain⟨m,hm⟩:∃m,m=min 96 bs.length:=⟨_,rfl⟩
 have hmm:(if(bs.length:Int)<(96:Int) then(bs.length:Int) else(96:Int))=(m:Int):=by split <;> omega
 have hIq:InB ((1,.cells kt t0 fr0)::Rl) la bs:=hI.mono (fun e he=>zf _ he)
 have hnl:=numP_lt H
 have hcl:=cnt_lt H
 refine enter [] ((1,.cells kt t0 fr0)::Rl) [] Tryz.func61 rfl kr (yj hR) ?_
 refine Be rfl rfl (y7 (v:=.agg (bv H)) rfl kr) ?_
 rintro hx ⟨hhx,nhx⟩
 refine Ld 3 [1,2] ?_
 refine Bp 2 [dZ,(dS (.string (tx H)))] (some [1,2,14]) (fun S=>[(512≤512),(∀w1,S w1→(Conv.bytesToString (.slice (some ⟨hx,0,none⟩) 512 512)).run Tryz.prog w1=.ok (.string (tx H)) w1)]) ⟨om,(fun w1 h=>bytes_str hH (fun j hj=>by rw[zF];exact h.ocell 0 rfl (bv_get hH hj))),trivial⟩ ?_
 refine Le (Eff.callN (fun b:Nat=>pT b) (fun b=>b) (fun _=>.cells (inC (aD H 0)) 196 (0,0)) (fun _=>True) rfl Tryz.func66 rfl rfl kr (fun w1 _=>wOf H w1)) ?_
 rintro ib ⟨-,hib,nib⟩
 refine Ld 1 [1,2,7] ?_
 refine Bp 1 [] none n0 trivial ?_
 refine Lu (yX (.string (tx (H.take 4))) 0 (b:=ib) (ob:=Obj.cells (inC (aD H 0)) 196 (0,0)) (Obj.cells (inC (aD H 4)) 196 (0,0)) rfl Tryz.func67 rfl rfl kr kr (fun w1 h=>jRaw ib H w1 hH (h.own (cl ib (inC (aD H 0)) 196) (show(cl ib (inC (aD H 0)) 196)∈[cl ib (inC (aD H 0)) 196,cl hx (bv H) 37] from(mG 0 rfl))))) ?_
 refine Ld 1 [1,2,7,18] ?_
 refine zX rfl (b:=(!((tx (H.take 4)).toList==(⟨#[80,82,84,82]⟩:ByteArray).toList))) kr (fun c1r=>?_) (fun c1r=>?_)
 ·have c1:(((tx (H.take 4)).toList==(⟨#[80,82,84,82]⟩:ByteArray).toList)=false):=(notT c1r)
  have hmk:¬H.take 4=mkL:=by have h0:=c1r;rw[mark_eq]at h0;simpa using h0
  refine Rq [4,5,6] ?_
  refine yD rfl (rs:=[.tmp 4,.tmp 5,.tmp 6]) rfl [.int .u64 0,.slice none 0 0,.bool false] ⟨kr,by kernel_rfl,by kernel_rfl,trivial⟩ (fun w1 hp=>?_)
  exact par_ret0 (par_no1 hmk) hp
 have c1:(((tx (H.take 4)).toList==(⟨#[80,82,84,82]⟩:ByteArray).toList)=true):=(notF c1r)
 have hmk:H.take 4=mkL:=by have h0:=c1r;rw[mark_eq]at h0;simpa using h0
 refine Bq 1 [1,2,7,19] ?_
 refine Lu (yX (.int .u64 ((numP H):Int)) 0 (b:=ib) (ob:=Obj.cells (inC (aD H 4)) 196 (0,0)) (Obj.cells (inC (aD H 12)) 196 (0,0)) rfl Tryz.func99 rfl rfl kr kr (fun w1 h=>jEight ib H w1 hH (h.own (cl ib (inC (aD H 4)) 196) (show(cl ib (inC (aD H 4)) 196)∈[cl ib (inC (aD H 4)) 196,cl hx (bv H) 37] from(mG 0 rfl))))) ?_
 refine qL 1 [] (some [1,2,7,8]) (Γ':=[(8,[],.int .u64 ((numP H):Int)),(7,[],pT ib),(2,[],pT hx),(1,[],.slice la bs.length cap)]) (nd:=(fun _=>[])) kr (fun _=>kr) trivial ?_
 refine zg rfl ?_
 refine Bq 3 [1,2,7,8,21,23] ?_
 refine Lu (Eff.minI2 (k:=.i64) (a:=(96:Int)) (b:=(bs.length:Int)) (m:Int) hmm rfl kr kr) ?_
 refine Lu (yX (.int .i64 ((boundF (aD H 12) (m:Int) 6).1:Int)) 0 (b:=ib) (ob:=Obj.cells (inC (aD H 12)) 196 (0,0)) (Obj.cells (inC (boundF (aD H 12) (m:Int) 6).2) 196 (0,0)) rfl Tryz.func100 rfl rfl kr kr (fun w1 h=>wCount ib (aD H 12) (m:Int) w1 (h.own (cl ib (inC (aD H 12)) 196) (show(cl ib (inC (aD H 12)) 196)∈[cl ib (inC (aD H 12)) 196,cl hx (bv H) 37] from(mG 0 rfl))) om)) ?_
 refine Ld 1 [1,2,7,8,9] ?_
 refine Bp 1 [] none n0 trivial ?_
 refine Lu (zr (.int .i64 ((boundF (aD H 12) (m:Int) 6).2.er)) rfl Tryz.func101 rfl rfl kr (fun w1 h=>wErr ib (boundF (aD H 12) (m:Int) 6).2 w1 (h.own (ib,_) (mG 0 rfl)))) ?_
 refine Ld 1 [1,2,7,8,9,28] ?_
 refine zX rfl (b:=(((boundF (aD H 12) (m:Int) 6).2.er) != (0:Int))) kr (fun c2r=>?_) (fun c2r=>?_)
 ·have c2:=(bne_iff_ne.1 c2r)
  refine Rq [4,5,6] ?_
  refine yD rfl (rs:=[.tmp 4,.tmp 5,.tmp 6]) rfl [.int .u64 0,.slice none 0 0,.bool false] ⟨kr,by kernel_rfl,by kernel_rfl,trivial⟩ (fun w1 hp=>?_)
  exact par_ret0 (par_no2 (by have:=cnt_no hH (m:=m) om;omega)) hp
 have c2:=(bne_eq_false_iff_eq.1 c2r)
 obtain⟨hb1,hb2⟩:=cnt_ok hH (m:=m) om
 refine sI 9 (show((boundF (aD H 12) (m:Int) 6).1:Int)=((cntP H):Int)from by rw[hb1]) ?_
 refine oB 0 rfl (show _=(inC (aD H 16))from by rw[hb1]) ?_
 refine Rq [1,2,7,8,9,10] ?_
 refine Rq [1,2,7,8,10,29,30] ?_
 refine oB 0 rfl (show _=(inC (aD H (16+2*0)))from rfl) ?_
 refine ye rfl (ι:=Nat×K.Own) (fun(k,own)=>[(30,[],iN k),(29,[],iN (cntP H)),(10,[],sO own k),(8,[],.int .u64 ((numP H):Int)),(7,[],pT ib),(2,[],pT hx),(1,[],.slice la bs.length cap)]) (fun(k,own)=>([cl ib (inC (aD H (16+2*k))) 196,cl hx (bv H) 37]++(Own.o 101 (jv (rowP H bs k)) own++[]))) (fun(k,own)=>(k≤cntP H)∧(OwnOk own 513 k (jv (rowP H bs k)))) (fun(k,own)=>cntP H-k) (0,none) ?_ (Conv.mk kr) slr ?_
 ·exact⟨zH _,OwnOk.none _⟩
 rintro⟨k,own⟩ ⟨hk,hok⟩
 refine Rq [1,2,7,8,10,29,30,31] ?_
 refine eC rfl (p:=((k:Int)<((cntP H):Int))) kr (fun c3=>?_) (fun c3=>?_)
 ·refine Rq [1,2,7,8,10,11,29,30] ?_
  refine Bp 1 [] none n0 trivial ?_
  refine Lu (yX (.int .u8 ((gb H (16+2*k)).toNat:Int)) 0 (b:=ib) (ob:=Obj.cells (inC (aD H (16+2*k))) 196 (0,0)) (Obj.cells (inC (aD H (16+2*k+1))) 196 (0,0)) rfl Tryz.func69 rfl rfl kr kr (fun w1 h=>jByte ib H (16+2*k) w1 om (h.own (cl ib (inC (aD H (16+2*k))) 196) (show(cl ib (inC (aD H (16+2*k))) 196)∈([cl ib (inC (aD H (16+2*k))) 196,cl hx (bv H) 37]++(Own.o 101 (jv (rowP H bs k)) own++[])) from(mL (mG 0 rfl)))))) ?_
  refine Lp 2 [] (some [1,2,7,8,10,11,12,29,30]) (fun _=>[(i6 ((gb H (16+2*k)).toNat:Int))]) ⟨(by have hq1:=byteLt (gb H (16+2*k));have hq2:=byteLt (gb H (16+2*k+1));omega),trivial⟩ ?_
  refine zg rfl ?_
  obtain⟨sb,off,cs,te,fre,rfl,hmem,hcs⟩:=hIq om
  refine y9 (Γ':=[(12,[],.int .i64 ((gb H (16+2*k)).toNat:Int)),(11,[],iN k),(30,[],iN k),(29,[],iN (cntP H)),(10,[],sO own k),(8,[],.int .u64 ((numP H):Int)),(7,[],pT ib),(2,[],pT hx),(1,[],sP sb off bs.length cap)]) (Conv.mk kr) ?_
  refine yo rfl kr [cl hx (bv H) 37] ?_
  refine Ap [0,1,2,3,7,8,9] [] (some [1,2,7,8,10,29,30,36,38,39,45]) (bF 911 15) (.cons _ (cO nL)) 8 (fun _=>[(0≤(8:Int)∧8≤64),(i6 (((gb H (16+2*k)).toNat:Int)*256)),(iL (k:Int) (bs.length:Int))]) ⟨om,(by have hq1:=byteLt (gb H (16+2*k));have hq2:=byteLt (gb H (16+2*k+1));omega),om,trivial⟩ ?_
  refine CfgA.two 4 10 kr (fuel':=7) rfl ?_ ?_
  ·
   refine Iu rfl  (yX (.int .u8 ((gb H (16+2*k+1)).toNat:Int)) 0 (b:=ib) (ob:=Obj.cells (inC (aD H (16+2*k+1))) 196 (0,0)) (Obj.cells (inC (aD H (16+2*k+1+1))) 196 (0,0)) rfl Tryz.func69 rfl rfl kr kr (fun w1 h=>jByte ib H (16+2*k+1) w1 om (h.own (cl ib (inC (aD H (16+2*k+1))) 196) (show(cl ib (inC (aD H (16+2*k+1))) 196)∈([cl ib (inC (aD H (16+2*k+1))) 196,cl hx (bv H) 37]++(Own.o 101 (jv (rowP H bs k)) own++[])) from(mL (mG 0 rfl)))))) (fun _ _=>(.cons _ (cO nL))) ?_
   refine CfgA.pure [5,6] [] (some [1,2,7,8,10,29,30,36,42,45]) (l':=tF 10 5) kr kr (.cons _ (cO nL)) 5 rfl (Γ':=[(42,[],iN ((((gb H (16+2*k)).toNat)*256) ||| ((gb H (16+2*k+1)).toNat))),(45,[],.pointer (some ⟨sb,(addO off (k*512)),none⟩)),(36,[],sO own k),(30,[],iN k),(29,[],iN (cntP H)),(10,[],sO own k),(8,[],.int .u64 ((numP H):Int)),(7,[],pT ib),(2,[],pT hx),(1,[],sP sb off bs.length cap)]) (nd:=(fun _=>[(i6 ((gb H (16+2*k+1)).toNat:Int)),((0≤(((gb H (16+2*k)).toNat:Int)*256)∧(((gb H (16+2*k)).toNat:Int)*256)≤9223372036854775807)∧0≤((gb H (16+2*k+1)).toNat:Int)∧((gb H (16+2*k+1)).toNat:Int)≤9223372036854775807)])) (fun _=>kr) ⟨(by have hq1:=byteLt (gb H (16+2*k));have hq2:=byteLt (gb H (16+2*k+1));omega),(by have hq1:=byteLt (gb H (16+2*k));have hq2:=byteLt (gb H (16+2*k+1));omega),trivial⟩ ?_
   refine Au 10 rfl 4  (qm (raw:=false) (orc:=some (.agg (bv (bs.getD k zb)))) (v:=.agg (bv (bs.getD k zb))) (nd:=(fun S=>[(∀w1,S w1→(loadVar 37 ⟨sb,(addO off (k*512)),none⟩).run Tryz.prog w1=.ok (.agg (bv (bs.getD k zb))) w1)])) (fun _=>kr) ⟨(fun w1 h=>load_bytes Tryz.underlying37 rfl kr (hB.at' k) (fun j hj=>by rw[y4];exact(zI (h.ro _ hmem)).trans (blk_cell hB hcs om hj))),trivial⟩ kr) (fun _ _=>(.cons _ (.cons_cons _ (zz _)))) ?_
   refine Ap [11] [(dS (.agg (jc ((((((gb H (16+2*k)).toNat)*256) ||| ((gb H (16+2*k+1)).toNat):Nat):Int),bs.getD k zb)).toArray))] (some [1,2,7,8,10,29,30,36,47]) (tF 12 3) (.cons _ (cO nL)) 3 (fun S=>[(∀w1,S w1→(Instr.build 101 #[(0,iN ((((gb H (16+2*k)).toNat)*256) ||| ((gb H (16+2*k+1)).toNat))),(1,.agg (bv (bs.getD k zb)))]).run Tryz.prog w1=.ok (.agg (jc ((((((gb H (16+2*k)).toNat)*256) ||| ((gb H (16+2*k+1)).toNat):Nat):Int),bs.getD k zb)).toArray) w1)]) ⟨(fun w1 _=>build_wr (((((gb H (16+2*k)).toNat)*256) ||| ((gb H (16+2*k+1)).toNat):Nat):Int) (hB.at' k) w1),trivial⟩ ?_
   refine Ae 12 rfl 2  (yR (vs:=(jc ((((((gb H (16+2*k)).toNat)*256) ||| ((gb H (16+2*k+1)).toNat):Nat):Int),bs.getD k zb)).toArray) (n:=513) rfl kr Tryz.underlying98 kr (z:=(.agg (jc wz).toArray)) kr (by rw[zp];exact yl (hB.at' k)) (by decide) (by decide)) (fun _ _=>(.cons _ (.cons _ (cO nL)))) ?_
   rintro x2 ⟨hx2,nx2⟩
   refine Ae 13 rfl 1  (y8 rfl 513 520 Tryz.underlying98 kr (z:=(.agg (jc wz).toArray)) kr kr own (xs:=(jv (rowP H bs k))) hok kr (b2:=x2) (off2:=0) (m:=1) (c2:=1) kr (jc ((((((gb H (16+2*k)).toNat)*256) ||| ((gb H (16+2*k+1)).toNat):Nat):Int),bs.getD k zb)) (yl (hB.at' k)) (jc_all _) [cl x2 ((jc ((((((gb H (16+2*k)).toNat)*256) ||| ((gb H (16+2*k+1)).toNat):Nat):Int),bs.getD k zb)).toArray) 101,cl ib (inC (aD H (16+2*k+1+1))) 196,cl hx (bv H) 37] [] (by rfl) (fun w1 h j v hj=>wr_src h 0 rfl hj) om om) (fun _ _=>(.cons _ (.cons _ (cO nL)))) ?_
   rintro o9 ko9
   refine Ap [14] [] (some [1,2,7,8,10,29,30]) (tF 15 0) (.cons _ (.cons _ (cO nL))) 0 n0 trivial ?_
   refine z6 kr ?_
   refine Rg [1,2,7,8,10,29,30] [] (fun _=>[(i6 ((k:Int)+1))]) ⟨om,trivial⟩ ?_
   have hrv:((jv (rowP H bs k))++(jc ((((((gb H (16+2*k)).toNat)*256) ||| ((gb H (16+2*k+1)).toNat):Nat):Int),bs.getD k zb)))=jv (rowP H bs (k+1)):=by rw[rowP_succ,jv_app,jv_one,show(atP H k:Int)=_ from at_or H k]
   refine zU (congrArg (fun(xq:Array Value)=>(([cl x2 ((jc ((((((gb H (16+2*k)).toNat)*256) ||| ((gb H (16+2*k+1)).toNat):Nat):Int),bs.getD k zb)).toArray) 101,cl ib xq 196,cl hx (bv H) 37]++(Own.o 101 ((jv (rowP H bs k))++(jc ((((((gb H (16+2*k)).toNat)*256) ||| ((gb H (16+2*k+1)).toNat):Nat):Int),bs.getD k zb))) o9++[])):LO)) (show _=(inC (aD H (16+2*(k+1))))from rfl)) ?_
   refine zU (congrArg (fun(xq:List Value)=>(([cl x2 ((jc ((((((gb H (16+2*k)).toNat)*256) ||| ((gb H (16+2*k+1)).toNat):Nat):Int),bs.getD k zb)).toArray) 101,cl ib (inC (aD H (16+2*(k+1)))) 196,cl hx (bv H) 37]++(Own.o 101 xq o9++[])):LO)) (show _=(jv (rowP H bs (k+1)))from hrv)) ?_
   refine zG rfl (k+1,o9) ⟨by omega,hrv▸ko9⟩ (by show cntP H-(k+1)<cntP H-k;omega) (Conv.mk kr) (.cons _ slr)
  
  refine Iu rfl  (qm (raw:=false) (orc:=some (.agg (bv (bs.getD k zb)))) (v:=.agg (bv (bs.getD k zb))) (nd:=(fun S=>[(∀w1,S w1→(loadVar 37 ⟨sb,(addO off (k*512)),none⟩).run Tryz.prog w1=.ok (.agg (bv (bs.getD k zb))) w1)])) (fun _=>kr) ⟨(fun w1 h=>load_bytes Tryz.underlying37 rfl kr (hB.at' k) (fun j hj=>by rw[y4];exact(zI (h.ro _ hmem)).trans (blk_cell hB hcs om hj))),trivial⟩ kr) (fun _ _=>(.cons _ (.cons_cons _ (zz _)))) ?_
  refine Au 4 rfl 6  (yX (.int .u8 ((gb H (16+2*k+1)).toNat:Int)) 0 (b:=ib) (ob:=Obj.cells (inC (aD H (16+2*k+1))) 196 (0,0)) (Obj.cells (inC (aD H (16+2*k+1+1))) 196 (0,0)) rfl Tryz.func69 rfl rfl kr kr (fun w1 h=>jByte ib H (16+2*k+1) w1 om (h.own (cl ib (inC (aD H (16+2*k+1))) 196) (show(cl ib (inC (aD H (16+2*k+1))) 196)∈([cl ib (inC (aD H (16+2*k+1))) 196,cl hx (bv H) 37]++(Own.o 101 (jv (rowP H bs k)) own++[])) from(mL (mG 0 rfl)))))) (fun _ _=>(.cons _ (cO nL))) ?_
  refine Ap [5,6,11] [dZ,dZ,(dS (.agg (jc ((((((gb H (16+2*k)).toNat)*256) ||| ((gb H (16+2*k+1)).toNat):Nat):Int),bs.getD k zb)).toArray))] (some [1,2,7,8,10,29,30,36,47]) (tF 12 3) (.cons _ (cO nL)) 3 (fun S=>[(i6 ((gb H (16+2*k+1)).toNat:Int)),((0≤(((gb H (16+2*k)).toNat:Int)*256)∧(((gb H (16+2*k)).toNat:Int)*256)≤9223372036854775807)∧0≤((gb H (16+2*k+1)).toNat:Int)∧((gb H (16+2*k+1)).toNat:Int)≤9223372036854775807),(∀w1,S w1→(Instr.build 101 #[(0,iN ((((gb H (16+2*k)).toNat)*256) ||| ((gb H (16+2*k+1)).toNat))),(1,.agg (bv (bs.getD k zb)))]).run Tryz.prog w1=.ok (.agg (jc ((((((gb H (16+2*k)).toNat)*256) ||| ((gb H (16+2*k+1)).toNat):Nat):Int),bs.getD k zb)).toArray) w1)]) ⟨(by have hq1:=byteLt (gb H (16+2*k));have hq2:=byteLt (gb H (16+2*k+1));omega),(by have hq1:=byteLt (gb H (16+2*k));have hq2:=byteLt (gb H (16+2*k+1));omega),(fun w1 _=>build_wr (((((gb H (16+2*k)).toNat)*256) ||| ((gb H (16+2*k+1)).toNat):Nat):Int) (hB.at' k) w1),trivial⟩ ?_
  refine Ae 12 rfl 2  (yR (vs:=(jc ((((((gb H (16+2*k)).toNat)*256) ||| ((gb H (16+2*k+1)).toNat):Nat):Int),bs.getD k zb)).toArray) (n:=513) rfl kr Tryz.underlying98 kr (z:=(.agg (jc wz).toArray)) kr (by rw[zp];exact yl (hB.at' k)) (by decide) (by decide)) (fun _ _=>(.cons _ (.cons _ (cO nL)))) ?_
  rintro x3 ⟨hx3,nx3⟩
  refine Ae 13 rfl 1  (y8 rfl 513 520 Tryz.underlying98 kr (z:=(.agg (jc wz).toArray)) kr kr own (xs:=(jv (rowP H bs k))) hok kr (b2:=x3) (off2:=0) (m:=1) (c2:=1) kr (jc ((((((gb H (16+2*k)).toNat)*256) ||| ((gb H (16+2*k+1)).toNat):Nat):Int),bs.getD k zb)) (yl (hB.at' k)) (jc_all _) [cl x3 ((jc ((((((gb H (16+2*k)).toNat)*256) ||| ((gb H (16+2*k+1)).toNat):Nat):Int),bs.getD k zb)).toArray) 101,cl ib (inC (aD H (16+2*k+1+1))) 196,cl hx (bv H) 37] [] (by rfl) (fun w1 h j v hj=>wr_src h 0 rfl hj) om om) (fun _ _=>(.cons _ (.cons _ (cO nL)))) ?_
  rintro o11 ko11
  refine Ap [14] [] (some [1,2,7,8,10,29,30]) (tF 15 0) (.cons _ (.cons _ (cO nL))) 0 n0 trivial ?_
  refine z6 kr ?_
  refine Rg [1,2,7,8,10,29,30] [] (fun _=>[(i6 ((k:Int)+1))]) ⟨om,trivial⟩ ?_
  have hrv:((jv (rowP H bs k))++(jc ((((((gb H (16+2*k)).toNat)*256) ||| ((gb H (16+2*k+1)).toNat):Nat):Int),bs.getD k zb)))=jv (rowP H bs (k+1)):=by rw[rowP_succ,jv_app,jv_one,show(atP H k:Int)=_ from at_or H k]
  refine zU (congrArg (fun(xq:Array Value)=>(([cl x3 ((jc ((((((gb H (16+2*k)).toNat)*256) ||| ((gb H (16+2*k+1)).toNat):Nat):Int),bs.getD k zb)).toArray) 101,cl ib xq 196,cl hx (bv H) 37]++(Own.o 101 ((jv (rowP H bs k))++(jc ((((((gb H (16+2*k)).toNat)*256) ||| ((gb H (16+2*k+1)).toNat):Nat):Int),bs.getD k zb))) o11++[])):LO)) (show _=(inC (aD H (16+2*(k+1))))from rfl)) ?_
  refine zU (congrArg (fun(xq:List Value)=>(([cl x3 ((jc ((((((gb H (16+2*k)).toNat)*256) ||| ((gb H (16+2*k+1)).toNat):Nat):Int),bs.getD k zb)).toArray) 101,cl ib (inC (aD H (16+2*(k+1)))) 196,cl hx (bv H) 37]++(Own.o 101 xq o11++[])):LO)) (show _=(jv (rowP H bs (k+1)))from hrv)) ?_
  refine zG rfl (k+1,o11) ⟨by omega,hrv▸ko11⟩ (by show cntP H-(k+1)<cntP H-k;omega) (Conv.mk kr) (.cons _ slr)
 obtain rfl:k=cntP H:=by omega
 have hokc:OwnOk own 513 (rowP H bs (cntP H)).length (jv (rowP H bs (cntP H))):=by rw[rowP_len];exact hok
 refine y9 (Γ':=[(10,[],sO own ((cntP H))),(8,[],.int .u64 ((numP H):Int)),(2,[],pT hx)]) (Conv.mk kr) ?_
 refine yo rfl kr [cl hx (bv H) 37] ?_
 refine Ap [0,1,3] [dZ,dZ,(dS (.agg (bv H)))] (some [8,10,51,52,54]) (bF 11 5) (.cons _ (cO nL)) 2 (fun S=>[(lV S 37 hx 0 (.agg (bv H)))]) ⟨(fun w1 h=>h.oload 0 rfl Tryz.underlying37 rfl (n:=512) kr ((zP _).trans hH)),trivial⟩ ?_
 refine Au 2 rfl 1  (zr (vs:=[.int .u64 ((numP H):Int),sO own ((cntP H))]) (.agg (bv (qi (numP H) (rowP H bs (cntP H))))) rfl Tryz.func102 rfl rfl kr (fun w1 h=>by have h9:=jHead (numP H) (Own.a own) (Own.c own) (rowP H bs (cntP H)) (Own.o 101 (jv (rowP H bs (cntP H))) own) w1 hnl (inW_own hokc) (rowP_w hB H _) (by rw[rowP_len];unfold maxLen;omega) (own_le hokc) (fun e he=>(zq.1 he).elim (fun h1=>h1▸h.ro _ mH) (fun h1=>h.own e (show e∈([cl ib (inC (aD H (16+2*cntP H))) 196,cl hx (bv H) 37]++(Own.o 101 (jv (rowP H bs (cntP H))) own++[])) from(mR (mL h1))))) hK;rw[rowP_len]at h9;exact h9)) (fun _ _=>(.cons _ (cO nL))) ?_
 refine CfgA.pure [4] [(dS (.bool ((qi (numP H) (rowP H bs (cntP H)))==H)))] (some [8,10,55]) (l':=(tF 5 0)) kr kr (.cons _ (cO nL)) 0 rfl (Γ':=[(55,[],.bool (!((qi (numP H) (rowP H bs (cntP H)))==H))),(10,[],sO own ((cntP H))),(8,[],.int .u64 ((numP H):Int))]) (nd:=(fun S=>[(∀w1,S w1→(Op.equal 37 (.agg (bv (qi (numP H) (rowP H bs (cntP H))))) (.agg (bv H))).run Tryz.prog w1=.ok ((qi (numP H) (rowP H bs (cntP H)))==H) w1)])) (fun _=>kr) ⟨(fun _ _=>equal_bv Tryz.underlying37 Tryz.underlying5 kr (headF_len _ _) hH),trivial⟩ ?_
 refine z6 kr ?_
 refine zX rfl (b:=(!((qi (numP H) (rowP H bs (cntP H)))==H))) kr (fun c4r=>?_) (fun c4r=>?_)
 ·have c4:(((qi (numP H) (rowP H bs (cntP H)))==H)=false):=(notT c4r)
  refine Rq [4,5,6] ?_
  refine yD rfl (rs:=[.tmp 4,.tmp 5,.tmp 6]) rfl [.int .u64 0,.slice none 0 0,.bool false] ⟨kr,by kernel_rfl,by kernel_rfl,trivial⟩ (fun w1 hp=>?_)
  exact par_ret0 (par_no3 (by simpa using c4r)) hp
 have c4:(((qi (numP H) (rowP H bs (cntP H)))==H)=true):=(notF c4r)
 refine Rq [4,5,6] ?_
 refine yD rfl (rs:=[.tmp 4,.tmp 5,.tmp 6]) rfl [.int .u64 ((numP H):Int),sO own ((cntP H)),.bool true] ⟨kr,by kernel_rfl,by kernel_rfl,trivial⟩ (fun w1 hp=>?_)
 have hG:parG H bs=true:=par_ok hmk om (by simpa using c4r)
 exact par_ret own hG hokc hp rfl
end
section
open K
theorem dThere (m:DM) (x:MX) (D:DK) (q:Int) (w:World) (hR:Has w (dO D m x)) :
  Calls Tryz.prog 83 #[.pointer (some ⟨m.d,3,none⟩),.int .i64 q] w fun e w'=>e=.returned (.bool (decide (0≤q∧q<(D.last.length:Int))))∧Ext [] w w':=by
 refine enter [] [cl m.d #[.int .i64 D.fuse,.int .i64 D.steps,.bool D.down,sP m.lb 0 D.last.length D.last.length,.map (some m.mb)] 76,cl m.lb ((rows D.last).toArray) 37,(m.mb,.map x.1 x.2)] [] Tryz.func83 rfl kr (yj hR) ?_
 refine Rq [0,1] ?_
 refine Rg [4] [dZ,dZ,dZ,dZ,dZ,dZ,dZ,(dS (sP m.lb 0 D.last.length D.last.length))] (fun S=>[((.bool (decide (q≥(0:Int))):Value)=.bool true→(∀w1,S w1→w1.cell? ⟨m.d,3,none⟩=some (sP m.lb 0 D.last.length D.last.length)))]) ⟨(fun g0=>have q0:(q≥(0:Int)):=(dT (boolV g0));(rC 0 rfl rfl)),trivial⟩ ?_
 refine Rt [.bool ((decide (q≥(0:Int)))&&(decide (q<(D.last.length:Int))))] (fun w1 hp=>?_)
 exact⟨by simp[resOf],hp.ext⟩
theorem dFault (m:DM) (x:MX) (D:DK) (q:Int) (w:World) (hR:Has w (dO D m x)) :
  Calls Tryz.prog 39 #[.pointer (some ⟨m.d,0,none⟩),.int .i64 q] w fun e w'=>e=.returned (.int .i64 (fltF D q))∧Ext [] w w':=by
 refine enter [] [cl m.d #[.int .i64 D.fuse,.int .i64 D.steps,.bool D.down,sP m.lb 0 D.last.length D.last.length,.map (some m.mb)] 76,cl m.lb ((rows D.last).toArray) 37,(m.mb,.map x.1 x.2)] [] Tryz.func39 rfl kr (yj hR) ?_
 refine Rq [0,1] ?_
 refine Rq [0,1,5] ?_
 refine yb rfl (b:=false) kr rfl ?_
 refine Rg [0,1,8] [dZ,dZ,dZ,dZ,(dS (.bool D.down))] (fun S=>[(∀w1,S w1→w1.cell? ⟨m.d,2,none⟩=some (.bool D.down))]) ⟨(rC 0 rfl rfl),trivial⟩ ?_
 refine zX rfl (b:=D.down) kr (fun c2r=>?_) (fun c2r=>?_)
 ·have c2:(D.down=true):=c2r
  refine Rq [4] ?_
  refine Rt [.int .i64 13] (fun w1 hp=>?_)
  have hx:fltF D q=13:=if_pos c2
  exact⟨by rw[hx];rfl,hp.ext⟩
 have c2:(D.down=false):=c2r
 refine Bq 4 [17,18] ?_
 refine Lu (zr (.bool (decide (iL q (D.last.length:Int)))) rfl Tryz.func83 rfl rfl kr (fun w1 h=>dThere m x D q w1 (h.hasR (fun e he=>he)))) ?_
 refine Ld 2 [14] ?_
 refine zX rfl (b:=(!(decide (iL q (D.last.length:Int))))) kr (fun c3r=>?_) (fun c3r=>?_)
 ·have c3:=(dF (notT c3r))
  refine Rq [4] ?_
  refine Rt [.int .i64 2] (fun w1 hp=>?_)
  have hx:fltF D q=2:=by unfold fltF;rw[if_neg (by simp[c2]),if_neg c3]
  exact⟨by rw[hx];rfl,hp.ext⟩
 have c3:=(dT (notF c3r))
 refine Cfg.reg rfl [4] [] (Γ':=[(4,[],.int .i64 0)]) (nd:=(fun _=>[])) (fun _=>kr) trivial ?_
 refine Rt [.int .i64 0] (fun w1 hp=>?_)
 have hx:fltF D q=0:=by unfold fltF;rw[if_neg (by simp[c2]),if_pos c3]
 exact⟨by rw[hx];rfl,hp.ext⟩
theorem dBlock (m:DM) (x:MX) (D:DK) (q:Int) (w:World) (hg:DG D) (hmo:MapOk x.1 x.2 (wv2 D.wait)) (hq:0≤q∧q<(D.last.length:Int)) (hR:Has w (dO D m x)) :
  Calls Tryz.prog 40 #[.pointer (some ⟨m.d,3,none⟩),.int .i64 q] w fun e w'=>e=.returned (.agg (bv (shown D q)))∧Ext [] w w':=by
 have hn:=hg.n
 refine enter [] [cl m.d #[.int .i64 D.fuse,.int .i64 D.steps,.bool D.down,sP m.lb 0 D.last.length D.last.length,.map (some m.mb)] 76,cl m.lb ((rows D.last).toArray) 37,(m.mb,.map x.1 x.2)] [] Tryz.func40 rfl kr (yj hR) ?_
 refine Be rfl rfl (zM (z:=(.agg (bv (replicate 512 0)))) rfl kr) ?_
 rintro b1 ⟨hb1,nb1⟩
 refine zg rfl ?_
 refine Bp 5 [dZ,dZ,dZ,(dS (.map (some m.mb)))] (some [0,1,4,11,12]) (fun S=>[(∀w1,S w1→w1.cell? ⟨m.d,4,none⟩=some (.map (some m.mb)))]) ⟨(rC 0 rfl rfl),trivial⟩ ?_
 refine Lu (Eff.waitGet (r:=m.mb) (k:=q) rfl rfl kr kr hmo (fun w1 h=>h.ro (m.mb,_) (mG 2 rfl))) ?_
 refine Lq 3 [0,1,4,14,15] ?_
 refine Le (zM (z:=(.agg (bv (replicate 512 0)))) rfl kr) ?_
 rintro b2 ⟨hb2,nb2⟩
 refine Lu (zC (b:=b2) (off:=0) (vs:=(bv ((wget D.wait q).getD zb))) (n:=512) rfl kr kr kr ((zP _).trans (getO_len hg _)) (qF _) 0 (cs:=(bv (replicate 512 0))) (e:=37) kr (by rw[zsz512];omega)) ?_
 refine oL 0 rfl (show _=(bv ((wget D.wait q).getD zb))from yx (((zP _).trans (getO_len hg _)).trans zsz512.symm)) ?_
 refine Ld 1 [0,1,4,5,6] ?_
 refine Rq [0,1,4,5,16] ?_
 refine zX rfl (b:=(wget D.wait q).isSome) kr (fun c1r=>?_) (fun c1r=>?_)
 ·have c1:((wget D.wait q).isSome=true):=c1r
  refine Bp 1 [(dS (.agg (bv ((wget D.wait q).getD zb))))] (some [4,17]) (fun S=>[(lV S 37 b2 0 (.agg (bv ((wget D.wait q).getD zb))))]) ⟨(fun w1 h=>h.oload 0 rfl Tryz.underlying37 rfl (n:=512) kr ((zP _).trans (getO_len hg _))),trivial⟩ ?_
  refine Lu (zC (b:=b1) (off:=0) (vs:=(bv ((wget D.wait q).getD zb))) (n:=512) rfl kr kr kr ((zP _).trans (getO_len hg _)) (qF _) 1 (cs:=(bv (replicate 512 0))) (e:=37) kr (by rw[zsz512];omega)) ?_
  refine oL 1 rfl (show _=(bv ((wget D.wait q).getD zb))from yx (((zP _).trans (getO_len hg _)).trans zsz512.symm)) ?_
  refine zg rfl ?_
  refine Cg (Γ':=[(4,[],pT b1)]) ?_
  refine yD rfl (rs:=[.cell 4 37]) rfl [.agg (bv ((wget D.wait q).getD zb))] ⟨⟨_,by kernel_rfl,(fun w1 h=>h.oload 1 rfl Tryz.underlying37 rfl (n:=512) kr ((zP _).trans (getO_len hg _)))⟩,trivial⟩ (fun w1 hp=>?_)
  have hx:(wget D.wait q).getD zb=shown D q:=by unfold shown;revert c1;cases wget D.wait q <;> simp
  exact⟨by rw[hx];rfl,hp.ext⟩
 have c1:((wget D.wait q).isSome=false):=c1r
 refine Bp 7 [dZ,dZ,dZ,(dS (sP m.lb 0 D.last.length D.last.length)),dZ,dZ,(dS (.agg (bv (D.last.getD ((q).toNat) zb))))] (some [4,24]) (fun S=>[(∀w1,S w1→w1.cell? ⟨m.d,3,none⟩=some (sP m.lb 0 D.last.length D.last.length)),(iL q (D.last.length:Int)),(lV S 37 m.lb ((q).toNat*512) (.agg (bv (D.last.getD ((q).toNat) zb))))]) ⟨(rC 0 rfl rfl),om,(fun w1 h=>load_bytes Tryz.underlying37 rfl kr (hg.w.at' _) (fun j hj=>sect_cell (n:=0) hg.w (h.ro _ (mG 1 rfl)) rfl om j hj)),trivial⟩ ?_
 refine Lu (zC (b:=b1) (off:=0) (vs:=(bv (D.last.getD ((q).toNat) zb))) (n:=512) rfl kr kr kr ((zP _).trans (hg.w.at' _)) (qF _) 1 (cs:=(bv (replicate 512 0))) (e:=37) kr (by rw[zsz512];omega)) ?_
 refine oL 1 rfl (show _=(bv (D.last.getD ((q).toNat) zb))from yx (((zP _).trans (hg.w.at' _)).trans zsz512.symm)) ?_
 refine zg rfl ?_
 refine Cg (Γ':=[(4,[],pT b1)]) ?_
 refine yD rfl (rs:=[.cell 4 37]) rfl [.agg (bv (D.last.getD ((q).toNat) zb))] ⟨⟨_,by kernel_rfl,(fun w1 h=>h.oload 1 rfl Tryz.underlying37 rfl (n:=512) kr ((zP _).trans (hg.w.at' _)))⟩,trivial⟩ (fun w1 hp=>?_)
 have hx:D.last.getD q.toNat zb=shown D q:=by unfold shown;revert c1;cases wget D.wait q <;> simp
 exact⟨by rw[hx];rfl,hp.ext⟩
theorem dRead (m:DM) (x:MX) (D:DK) (q:Int) (w:World) (hg:DG D) (hmo:MapOk x.1 x.2 (wv2 D.wait)) (hR:Has w (dO D m x)) :
  Calls Tryz.prog 10 #[.pointer (some ⟨m.d,0,none⟩),.int .i64 q] w fun e w'=>e=.returned (.tuple #[.agg (bv (zR D q)),.int .i64 (fltF D q)])∧Ext [] w w':=by
 have hn:=hg.n
 refine enter [] [cl m.d #[.int .i64 D.fuse,.int .i64 D.steps,.bool D.down,sP m.lb 0 D.last.length D.last.length,.map (some m.mb)] 76,cl m.lb ((rows D.last).toArray) 37,(m.mb,.map x.1 x.2)] [] Tryz.func10 rfl kr (yj hR) ?_
 refine Be rfl rfl (zM (z:=(.agg (bv (replicate 512 0)))) rfl kr) ?_
 rintro b1 ⟨hb1,nb1⟩
 refine Ld 1 [0,1,4] ?_
 refine Bp 2 [] none n0 trivial ?_
 refine Lu (zr (.int .i64 (fltF D q)) rfl Tryz.func39 rfl rfl kr (fun w1 h=>dFault m x D q w1 (h.hasR (fun e he=>he)))) ?_
 refine Ld 1 [0,1,4,6] ?_
 refine Rq [0,1,4,6,11] ?_
 refine zX rfl (b:=((fltF D q) != (0:Int))) kr (fun c1r=>?_) (fun c1r=>?_)
 ·have c1:=(bne_iff_ne.1 c1r)
  refine Bp 2 [(dS (.agg (bv (replicate 512 0))))] (some [4,12,13]) (fun S=>[(∀w1,S w1→(Instr.build 37 #[]).run Tryz.prog w1=.ok (.agg (bv (replicate 512 0))) w1)]) ⟨(fun _ _=>kr),trivial⟩ ?_
  refine Lu (zC (b:=b1) (off:=0) (vs:=(bv (replicate 512 0))) (n:=512) rfl kr kr kr ((zP _).trans (zk)) (qF _) 0 (cs:=(bv (replicate 512 0))) (e:=37) kr (by rw[zsz512];omega)) ?_
  refine oL 0 rfl (show _=(bv (replicate 512 0))from yx (((zP _).trans (zk)).trans zsz512.symm)) ?_
  refine Ld 1 [4,5] ?_
  refine yD rfl (rs:=[.cell 4 37,.tmp 5]) rfl [.agg (bv (replicate 512 0)),.int .i64 (fltF D q)] ⟨⟨_,by kernel_rfl,(fun w1 h=>h.oload 0 rfl Tryz.underlying37 rfl (n:=512) kr ((zP _).trans (zk)))⟩,by kernel_rfl,trivial⟩ (fun w1 hp=>?_)
  have hx:zR D q=replicate 512 0:=if_neg c1
  exact⟨by rw[hx];rfl,hp.ext⟩
 have c1:=(bne_eq_false_iff_eq.1 c1r)
 refine Bq 4 [4,16,17] ?_
 refine Lu (zr (.agg (bv (shown D q))) rfl Tryz.func40 rfl rfl kr (fun w1 h=>dBlock m x D q w1 hg hmo (fltF_in c1) (h.hasR (fun e he=>he)))) ?_
 refine Lu (zC (b:=b1) (off:=0) (vs:=(bv (shown D q))) (n:=512) rfl kr kr kr ((zP _).trans (shown_len hg _)) (qF _) 0 (cs:=(bv (replicate 512 0))) (e:=37) kr (by rw[zsz512];omega)) ?_
 refine oL 0 rfl (show _=(bv (shown D q))from yx (((zP _).trans (shown_len hg _)).trans zsz512.symm)) ?_
 refine qL 1 [] (some [4,5]) (Γ':=[(5,[],.int .i64 0),(4,[],pT b1)]) (nd:=(fun _=>[])) kr (fun _=>kr) trivial ?_
 refine zg rfl ?_
 refine yD rfl (rs:=[.cell 4 37,.tmp 5]) rfl [.agg (bv (shown D q)),.int .i64 0] ⟨⟨_,by kernel_rfl,(fun w1 h=>h.oload 0 rfl Tryz.underlying37 rfl (n:=512) kr ((zP _).trans (shown_len hg _)))⟩,by kernel_rfl,trivial⟩ (fun w1 hp=>?_)
 have c1x:fltF D q=0:=by omega
 have hx:zR D q=shown D q:=if_pos c1x
 exact⟨by rw[hx,c1x];rfl,hp.ext⟩
theorem dLasts (m:DM) (x:MX) (D:DK) (q:Int) (w:World) (hg:DG D) (hmo:MapOk x.1 x.2 (wv2 D.wait)) (hR:Has w (dO D m x)) :
  Calls Tryz.prog 95 #[.pointer (some ⟨m.d,0,none⟩),.int .i64 q] w fun e w'=>e=.returned (.agg (bv (lastsF D q)))∧Ext [] w w':=by
 have hn:=hg.n
 refine enter [] [cl m.d #[.int .i64 D.fuse,.int .i64 D.steps,.bool D.down,sP m.lb 0 D.last.length D.last.length,.map (some m.mb)] 76,cl m.lb ((rows D.last).toArray) 37,(m.mb,.map x.1 x.2)] [] Tryz.func95 rfl kr (yj hR) ?_
 refine Be rfl rfl (zM (z:=(.agg (bv (replicate 512 0)))) rfl kr) ?_
 rintro b1 ⟨hb1,nb1⟩
 refine zg rfl ?_
 refine Bp 7 [dZ,dZ,dZ,(1,false,none),(1,false,none),(1,false,none),(1,false,none)] (some [0,1,4,7,10,11]) (fun _=>[((.bool false:Value)=.bool false),((.bool false:Value)=.bool false),((.bool false:Value)=.bool false),((.bool false:Value)=.bool false)]) ⟨rfl,rfl,rfl,rfl,trivial⟩ ?_
 refine Lu (zr (.bool (decide (iL q (D.last.length:Int)))) rfl Tryz.func83 rfl rfl kr (fun w1 h=>dThere m x D q w1 (h.hasR (fun e he=>he)))) ?_
 refine Lp 2 [(1,false,none)] (some [0,1,4,14]) (fun _=>[((.bool false:Value)=.bool false)]) ⟨rfl,trivial⟩ ?_
 refine zg rfl ?_
 refine zX rfl (b:=(!(decide (iL q (D.last.length:Int))))) kr (fun c1r=>?_) (fun c1r=>?_)
 ·have c1:=(dF (notT c1r))
  refine Bp 1 [(dS (.agg (bv (replicate 512 0))))] (some [4,15]) (fun S=>[(∀w1,S w1→(Instr.build 37 #[]).run Tryz.prog w1=.ok (.agg (bv (replicate 512 0))) w1)]) ⟨(fun _ _=>kr),trivial⟩ ?_
  refine Lu (zC (b:=b1) (off:=0) (vs:=(bv (replicate 512 0))) (n:=512) rfl kr kr kr ((zP _).trans (zk)) (qF _) 0 (cs:=(bv (replicate 512 0))) (e:=37) kr (by rw[zsz512];omega)) ?_
  refine oL 0 rfl (show _=(bv (replicate 512 0))from yx (((zP _).trans (zk)).trans zsz512.symm)) ?_
  refine zg rfl ?_
  refine Cg (Γ':=[(4,[],pT b1)]) ?_
  refine yD rfl (rs:=[.cell 4 37]) rfl [.agg (bv (replicate 512 0))] ⟨⟨_,by kernel_rfl,(fun w1 h=>h.oload 0 rfl Tryz.underlying37 rfl (n:=512) kr ((zP _).trans (zk)))⟩,trivial⟩ (fun w1 hp=>?_)
  have hx:lastsF D q=replicate 512 0:=if_neg (by first|exact c2|omega)
  exact⟨by rw[hx];rfl,hp.ext⟩
 have c1:=(dT (notF c1r))
 refine Bp 8 [dZ,dZ,dZ,dZ,(dS (sP m.lb 0 D.last.length D.last.length)),dZ,dZ,(dS (.agg (bv (D.last.getD ((q).toNat) zb))))] (some [4,23]) (fun S=>[(∀w1,S w1→w1.cell? ⟨m.d,3,none⟩=some (sP m.lb 0 D.last.length D.last.length)),(iL q (D.last.length:Int)),(lV S 37 m.lb ((q).toNat*512) (.agg (bv (D.last.getD ((q).toNat) zb))))]) ⟨(rC 0 rfl rfl),om,(fun w1 h=>load_bytes Tryz.underlying37 rfl kr (hg.w.at' _) (fun j hj=>sect_cell (n:=0) hg.w (h.ro _ (mG 1 rfl)) rfl om j hj)),trivial⟩ ?_
 refine Lu (zC (b:=b1) (off:=0) (vs:=(bv (D.last.getD ((q).toNat) zb))) (n:=512) rfl kr kr kr ((zP _).trans (hg.w.at' _)) (qF _) 0 (cs:=(bv (replicate 512 0))) (e:=37) kr (by rw[zsz512];omega)) ?_
 refine oL 0 rfl (show _=(bv (D.last.getD ((q).toNat) zb))from yx (((zP _).trans (hg.w.at' _)).trans zsz512.symm)) ?_
 refine zg rfl ?_
 refine Cg (Γ':=[(4,[],pT b1)]) ?_
 refine yD rfl (rs:=[.cell 4 37]) rfl [.agg (bv (D.last.getD ((q).toNat) zb))] ⟨⟨_,by kernel_rfl,(fun w1 h=>h.oload 0 rfl Tryz.underlying37 rfl (n:=512) kr ((zP _).trans (hg.w.at' _)))⟩,trivial⟩ (fun w1 hp=>?_)
 have hx:lastsF D q=D.last.getD q.toNat zb:=if_pos (by first|exact c2|omega)
 exact⟨by rw[hx];rfl,hp.ext⟩
theorem mKeys (r:Nat) (w:World) :
  Calls Tryz.prog 194 #[.map (some r)] w fun e w'=>∃b:Nat,True∧e=.returned (.func (.func 205) #[] #[.pointer (some ⟨b,0,none⟩)])∧w.heap.size≤b∧w'.heap[b]? = some (.cells #[.map (some r)] 72 (0,0))∧Ext [] w w':=by
 refine enter [] [] [] Tryz.func194 rfl kr (yy w) ?_
 refine Be rfl rfl (y7 (v:=.map (some r)) rfl kr) ?_
 rintro b1 ⟨hb1,nb1⟩
 refine Ld 1 [1] ?_
 refine Rq [2] ?_
 refine Rt [.func (.func 205) #[] #[pT b1]] (fun w1 hp=>?_)
 exact⟨b1,trivial,rfl,hb1,hp.own (b1,_) mH,hp.ext⟩
end
section
open K
def spF (D:DK):Bool×DK:=
 if D.down=true then(false,D)else if D.fuse=0 then(false,{D with down:=true})
 else(true,{D with fuse:=if D.fuse>0 then D.fuse-1 else D.fuse,steps:=D.steps+1})
theorem spF_wait (D:DK):(spF D).2.wait=D.wait:=by unfold spF;split;rfl;split <;> rfl
theorem spF_last (D:DK):(spF D).2.last=D.last:=by unfold spF;split;rfl;split <;> rfl
theorem DG.sp {D:DK} (h:DG D):DG (spF D).2:=by
 have h1:=h.f
 unfold spF
 split
 ·exact h
 split
 ·exact⟨h.w,h.ww,h.k,h.n,h.nd,h.f⟩
 refine⟨h.w,h.ww,h.k,h.n,h.nd,?_⟩
 show -1≤(if D.fuse>0 then D.fuse-1 else D.fuse)∧(if D.fuse>0 then D.fuse-1 else D.fuse)≤_
 split <;> omega
theorem spF_steps (D:DK):D.steps≤(spF D).2.steps∧(spF D).2.steps≤D.steps+1:=by
 unfold spF;split
 ·exact⟨by simp only;omega,by simp only;omega⟩
 split
 ·exact⟨by simp only;omega,by simp only;omega⟩
 exact⟨by simp only;omega,by simp only;omega⟩
def qB (D:DK) (q:Int) (b:List UInt8):Int×DK:=
 if fltF D q≠0 then(fltF D q,D)else if(spF D).1=true then(0,{ (spF D).2 with wait:=wset (spF D).2.wait q b}) else(13,(spF D).2)
theorem writeF_steps (D:DK) (q:Int) (b:List UInt8):D.steps≤(qB D q b).2.steps∧(qB D q b).2.steps≤D.steps+1:=by
 have:=spF_steps D
 unfold qB;split
 ·exact⟨by simp only;omega,by simp only;omega⟩
 split
 ·exact this
 exact this
theorem wset_keys (k:Int) (v:List UInt8):∀W:Wt,(wset W k v).map (·.1)=if k∈W.map (·.1)then W.map (·.1)else W.map (·.1)++[k]
 | []=>rfl
 | p::W=>by
  unfold wset
  by_cases h:k=p.1
  ·rw[if_pos h,if_pos (by rw[h];exact mH)]
   simp[h]
  rw[if_neg h,yi,wset_keys k v W]
  by_cases h2:k∈W.map (·.1)
  ·rw[if_pos h2,if_pos (by rw[yi];exact zf _ h2)];rfl
  rw[if_neg h2,if_neg (by rw[yi,zq];exact fun e=>e.elim h h2)];rfl
theorem DG.wr {D:DK} (h:DG D) {q:Int} {b:List UInt8} (hq:0≤q∧q<(D.last.length:Int)) (hb:b.length=512):DG {D with wait:=wset D.wait q b}:=
 ⟨h.w,fun p hp=>by
  rcases wset_mem p hp with rfl|hp
  ·exact hb
  ·exact h.ww p hp,fun p hp=>by
  rcases wset_mem p hp with rfl|hp
  ·exact hq
  ·exact h.k p hp,h.n,by
  show((wset D.wait q b).map (·.1)).Nodup
  rw[wset_keys]
  split
  ·exact h.nd
  rename_i h1
  refine y6.2 ⟨h.nd,by simp,fun x hx y hy=>?_⟩
  rw[zi.1 hy];exact fun e=>h1 (e▸hx),h.f⟩
theorem DG.write {D:DK} (h:DG D) (q:Int) {b:List UInt8} (hb:b.length=512):DG (qB D q b).2:=by
 unfold qB
 split
 ·exact h
 rename_i h0
 have h0:fltF D q=0:=Decidable.not_not.1 h0
 split
 ·exact h.sp.wr (by rw[spF_last];exact fltF_in h0) hb
 exact h.sp
theorem fltF_cases (D:DK) (q:Int):fltF D q=0∨fltF D q=2∨fltF D q=13:=by
 unfold fltF;split
 ·exact .inr (.inr rfl)
 split
 ·exact .inl rfl
 exact .inr (.inl rfl)
theorem dSpend (m:DM) (D:DK) (w:World) (hf : -1≤D.fuse∧D.fuse≤9223372036854775807) (hs:0≤D.steps∧D.steps≤4611686018427387904) (hb:w.heap[m.d]? = some (.cells (dC D m) 76 (0,0))) :
  Calls Tryz.prog 41 #[.pointer (some ⟨m.d,0,none⟩)] w fun e w'=>e=.returned (.bool (spF D).1)∧Ext [m.d] w w'∧w'.heap[m.d]? = some (.cells (dC (spF D).2 m) 76 (0,0)):=by
 refine enter [m.d] [] [cl m.d #[.int .i64 D.fuse,.int .i64 D.steps,.bool D.down,sP m.lb 0 D.last.length D.last.length,.map (some m.mb)] 76] Tryz.func41 rfl kr (HP.startM (fun e he=>by cases he) hb (by simp)) ?_
 refine Rq [0] ?_
 refine Rg [0,6] [dZ,dZ,dZ,(dS (.bool D.down))] (fun S=>[(∀w1,S w1→w1.cell? ⟨m.d,2,none⟩=some (.bool D.down))]) ⟨(oC 0 rfl rfl),trivial⟩ ?_
 refine zX rfl (b:=D.down) kr (fun c1r=>?_) (fun c1r=>?_)
 ·have c1:(D.down=true):=c1r
  refine Rq [2] ?_
  refine Rt [.bool false] (fun w1 hp=>?_)
  have hx:spF D=(false,D):=if_pos c1
  rw[hx]
  exact⟨rfl,hp.ext,hp.own (m.d,_) mH⟩
 have c1:(D.down=false):=c1r
 refine Rg [0,11] [dZ,dZ,dZ,(dS (.int .i64 D.fuse))] (fun S=>[(∀w1,S w1→w1.cell? ⟨m.d,0,none⟩=some (.int .i64 D.fuse))]) ⟨(oC 0 rfl rfl),trivial⟩ ?_
 refine zX rfl (b:=(D.fuse==(0:Int))) kr (fun c2r=>?_) (fun c2r=>?_)
 ·have c2:=(beq_iff_eq.1 c2r)
  refine Bq 3 [14] ?_
  refine Lu (zS (b:=m.d) (off:=2) (v:=.bool true) rfl kr kr rfl kr 0 (cs:=#[.int .i64 D.fuse,.int .i64 D.steps,.bool D.down,sP m.lb 0 D.last.length D.last.length,.map (some m.mb)]) (e:=76) kr (by simp)) ?_
  refine zg rfl ?_
  refine Cg (Γ':=[]) ?_
  refine Rq [2] ?_
  refine Rt [.bool false] (fun w1 hp=>?_)
  have hx:spF D=(false,{D with down:=true}):=by unfold spF;rw[if_neg (by simp[c1]),if_pos c2]
  rw[hx]
  exact⟨rfl,hp.ext,hp.own (m.d,_) mH⟩
 have c2:=(beq_eq_false_iff_ne.1 c2r)
 refine Rg [0,19] [dZ,dZ,dZ,(dS (.int .i64 D.fuse))] (fun S=>[(∀w1,S w1→w1.cell? ⟨m.d,0,none⟩=some (.int .i64 D.fuse))]) ⟨(oC 0 rfl rfl),trivial⟩ ?_
 refine eC rfl (p:=(D.fuse>(0:Int))) kr (fun c3=>?_) (fun c3=>?_)
 ·refine Bp 7 [dZ,dZ,dZ,(dS (.int .i64 D.fuse))] (some [0,24,26]) (fun S=>[(∀w1,S w1→w1.cell? ⟨m.d,0,none⟩=some (.int .i64 D.fuse)),(i6 (D.fuse-1))]) ⟨(oC 0 rfl rfl),om,trivial⟩ ?_
  refine Lu (zS (b:=m.d) (off:=0) (v:=.int .i64 (D.fuse-1)) rfl kr kr rfl kr 0 (cs:=#[.int .i64 D.fuse,.int .i64 D.steps,.bool D.down,sP m.lb 0 D.last.length D.last.length,.map (some m.mb)]) (e:=76) kr (by simp)) ?_
  refine zg rfl ?_
  refine Cg (Γ':=[(0,[],pT m.d)]) ?_
  refine Bp 7 [dZ,dZ,dZ,(dS (.int .i64 D.steps))] (some [31,33]) (fun S=>[(∀w1,S w1→w1.cell? ⟨m.d,1,none⟩=some (.int .i64 D.steps)),(i6 (D.steps+1))]) ⟨(oC 0 rfl rfl),om,trivial⟩ ?_
  refine Lu (zS (b:=m.d) (off:=1) (v:=.int .i64 (D.steps+1)) rfl kr kr rfl kr 0 (cs:=(#[.int .i64 D.fuse,.int .i64 D.steps,.bool D.down,sP m.lb 0 D.last.length D.last.length,.map (some m.mb)].setIfInBounds 0 (.int .i64 (D.fuse-1)))) (e:=76) kr (by simp)) ?_
  refine zg rfl ?_
  refine Cg (Γ':=[]) ?_
  refine Rq [2] ?_
  refine Rt [.bool true] (fun w1 hp=>?_)
  have hx:spF D=(true,{D with fuse:=D.fuse-1,steps:=D.steps+1}):=by unfold spF;rw[if_neg (by simp[c1]),if_neg c2,if_pos c3]
  rw[hx]
  exact⟨rfl,hp.ext,hp.own (m.d,_) mH⟩
 refine Bp 7 [dZ,dZ,dZ,(dS (.int .i64 D.steps))] (some [31,33]) (fun S=>[(∀w1,S w1→w1.cell? ⟨m.d,1,none⟩=some (.int .i64 D.steps)),(i6 (D.steps+1))]) ⟨(oC 0 rfl rfl),om,trivial⟩ ?_
 refine Lu (zS (b:=m.d) (off:=1) (v:=.int .i64 (D.steps+1)) rfl kr kr rfl kr 0 (cs:=#[.int .i64 D.fuse,.int .i64 D.steps,.bool D.down,sP m.lb 0 D.last.length D.last.length,.map (some m.mb)]) (e:=76) kr (by simp)) ?_
 refine zg rfl ?_
 refine Cg (Γ':=[]) ?_
 refine Rq [2] ?_
 refine Rt [.bool true] (fun w1 hp=>?_)
 have hx:spF D=(true,{D with fuse:=D.fuse,steps:=D.steps+1}):=by unfold spF;rw[if_neg (by simp[c1]),if_neg c2,if_neg c3]
 rw[hx]
 exact⟨rfl,hp.ext,hp.own (m.d,_) mH⟩
theorem dSectors (m:DM) (x:MX) (D:DK) (w:World) (hR:Has w (dO D m x)) :
  Calls Tryz.prog 60 #[.pointer (some ⟨m.d,0,none⟩)] w fun e w'=>e=.returned (.int .i64 (D.last.length:Int))∧Ext [] w w':=by
 refine enter [] [cl m.d #[.int .i64 D.fuse,.int .i64 D.steps,.bool D.down,sP m.lb 0 D.last.length D.last.length,.map (some m.mb)] 76,cl m.lb ((rows D.last).toArray) 37,(m.mb,.map x.1 x.2)] [] Tryz.func60 rfl kr (yj hR) ?_
 refine Rq [0] ?_
 refine Rq [0,4] ?_
 refine yb rfl (b:=false) kr rfl ?_
 refine Rg [2] [dZ,dZ,dZ,dZ,(dS (sP m.lb 0 D.last.length D.last.length))] (fun S=>[(∀w1,S w1→w1.cell? ⟨m.d,3,none⟩=some (sP m.lb 0 D.last.length D.last.length))]) ⟨(rC 0 rfl rfl),trivial⟩ ?_
 refine Rt [iN D.last.length] (fun w1 hp=>?_)
 exact⟨by simp[resOf],hp.ext⟩
theorem dSteps (m:DM) (x:MX) (D:DK) (w:World) (hR:Has w (dO D m x)) :
  Calls Tryz.prog 17 #[.pointer (some ⟨m.d,0,none⟩)] w fun e w'=>e=.returned (.int .i64 D.steps)∧Ext [] w w':=by
 refine enter [] [cl m.d #[.int .i64 D.fuse,.int .i64 D.steps,.bool D.down,sP m.lb 0 D.last.length D.last.length,.map (some m.mb)] 76,cl m.lb ((rows D.last).toArray) 37,(m.mb,.map x.1 x.2)] [] Tryz.func17 rfl kr (yj hR) ?_
 refine Rq [0] ?_
 refine Rq [0,4] ?_
 refine yb rfl (b:=false) kr rfl ?_
 refine Rg [2] [dZ,dZ,dZ,dZ,(dS (.int .i64 D.steps))] (fun S=>[(∀w1,S w1→w1.cell? ⟨m.d,1,none⟩=some (.int .i64 D.steps))]) ⟨(rC 0 rfl rfl),trivial⟩ ?_
 refine Rt [.int .i64 D.steps] (fun w1 hp=>?_)
 exact⟨by simp[resOf],hp.ext⟩
theorem dWrite (m:DM) (x:MX) (D:DK) (q:Int) (b:List UInt8) (w:World) (hg:DG D) (hmo:MapOk x.1 x.2 (wv2 D.wait)) (hA:Has w (dO D m x)) (hd:((dO D m x).map (·.1)).Nodup) (hbl:b.length=512) (hs:0≤D.steps∧D.steps≤4611686018427387904) :
  Calls Tryz.prog 11 #[.pointer (some ⟨m.d,0,none⟩),.int .i64 q,.agg (bv b)] w fun e w'=>∃x2:MX,MapOk x2.1 x2.2 (wv2 (qB D q b).2.wait)∧e=.returned (.int .i64 (qB D q b).1)∧∃R1,HP w [m.d,m.lb,m.mb] R1 (dO (qB D q b).2 m x2) w':=by
 have hn:=hg.n
 have hf:=hg.f
 have hfc:=fltF_cases D q
 refine enter [m.d,m.lb,m.mb] [] [cl m.d #[.int .i64 D.fuse,.int .i64 D.steps,.bool D.down,sP m.lb 0 D.last.length D.last.length,.map (some m.mb)] 76,cl m.lb ((rows D.last).toArray) 37,(m.mb,.map x.1 x.2)] Tryz.func11 rfl kr (HP.ofL hA hd (fun e he=>by cases he) (fun e he=>by cases he)) ?_
 refine Be rfl rfl (y7 (v:=.agg (bv b)) rfl kr) ?_
 rintro bx ⟨hbx,nbx⟩
 refine Ld 1 [0,1,5] ?_
 refine Bp 2 [] none n0 trivial ?_
 refine Lu (zr (.int .i64 (fltF D q)) rfl Tryz.func39 rfl rfl kr (fun w1 h=>dFault m x D q w1 (h.has (fun e he=>zf _ he)))) ?_
 refine Ld 1 [0,1,5,7] ?_
 refine Rq [0,1,5,7,12] ?_
 refine zX rfl (b:=((fltF D q) != (0:Int))) kr (fun c1r=>?_) (fun c1r=>?_)
 ·have c1:=(bne_iff_ne.1 c1r)
  refine Rq [6] ?_
  refine Rt [.int .i64 (fltF D q)] (fun w1 hp=>?_)
  have hx:qB D q b=(fltF D q,D):=if_pos c1
  rw[hx]
  have h9:=hp.sub (List.sublist_cons_self _ _)
  exact⟨x,hmo,rfl,_,h9⟩
 have c1:=(bne_eq_false_iff_eq.1 c1r)
 refine Bq 3 [0,1,5,16] ?_
 refine Lu (yX (.bool (spF D).1) 1 (.cells (dC (spF D).2 m) 76 (0,0)) rfl Tryz.func41 rfl rfl kr rfl (fun w1 h=>dSpend m D w1 hf hs (h.own (m.d,_) (mG 1 rfl)))) ?_
 refine Ld 1 [0,1,5,18] ?_
 refine zX rfl (b:=(!(spF D).1)) kr (fun c2r=>?_) (fun c2r=>?_)
 ·have c2:((spF D).1=false):=(notT c2r)
  refine Cfg.reg rfl [6] [] (Γ':=[(6,[],.int .i64 13)]) (nd:=(fun _=>[])) (fun _=>kr) trivial ?_
  refine Rt [.int .i64 13] (fun w1 hp=>?_)
  have hx:qB D q b=(13,(spF D).2):=by unfold qB;rw[if_neg (by simp[c1]),if_neg (by simp[c2])]
  rw[hx]
  refine⟨x,by rw[spF_wait];exact hmo,rfl,[],?_⟩
  have h9:=hp.sub (List.sublist_cons_self _ _)
  rw[show dO (spF D).2 m x=[(m.d,.cells (dC (spF D).2 m) 76 (0,0)),(m.lb,.cells (rows (spF D).2.last).toArray 37 (0,0)),(m.mb,.map x.1 x.2)]from rfl,spF_last]
  exact h9
 have c2:((spF D).1=true):=(notF c2r)
 refine yo rfl kr [cl bx (bv b) 37,cl m.d #[.int .i64 ((spF D).2.fuse),.int .i64 ((spF D).2.steps),.bool (spF D).2.down,sP m.lb 0 (spF D).2.last.length (spF D).2.last.length,.map (some m.mb)] 76,cl m.lb ((rows D.last).toArray) 37] ?_
 refine Ap [0,1,2,3,4,5,6] [dZ,dZ,dZ,dZ,(dS (.map (some m.mb))),dZ,(dS (.agg (bv b)))] (some [23,24,25]) (tF 7 1) (cO (cO (cO (.cons _ .slnil)))) 1 (fun S=>[(∀w1,S w1→w1.cell? ⟨m.d,4,none⟩=some (.map (some m.mb))),(lV S 37 bx 0 (.agg (bv b)))]) ⟨(oC 1 rfl rfl),(fun w1 h=>load_row (h.own (bx,_) (mG 0 rfl)) Tryz.underlying37 rfl kr ((zP _).trans hbl)),trivial⟩ ?_
 refine Ae 7 rfl 0  (Eff.mapSet (r:=m.mb) (k:=q) (u:=.agg (bv b)) (es:=x.1) (ck:=x.2) rfl Tryz.underlying72 Tryz.underlying3 kr kr kr hmo 3 kr) (fun _ _=>(cO (cO (cO (.cons _ .slnil))))) ?_
 rintro xq hxq
 refine z6 kr ?_
 refine Cg (Γ':=[]) ?_
 refine Rq [6] ?_
 refine Rt [.int .i64 0] (fun w1 hp=>?_)
 have hx:qB D q b=(0,{ (spF D).2 with wait:=wset (spF D).2.wait q b}):=by unfold qB;rw[if_neg (by simp[c1]),if_pos (by simpa using c2)]
 rw[hx]
 refine⟨xq,by show MapOk _ _ (wv2 (wset (spF D).2.wait q b));rw[spF_wait,←mset_wv];exact hxq,rfl,[],?_⟩
 have h9:=hp.sub (List.sublist_cons_self _ _)
 show HP w _ _ [(m.d,.cells (dC (spF D).2 m) 76 (0,0)),(m.lb,.cells (rows (spF D).2.last).toArray 37 (0,0)),(m.mb,.map xq.1 xq.2)] w1
 rw[spF_last]
 exact h9
end
section
open Go.Shelf Go.Proofs
def L.keys79_ren:Go.Shelf.Ren:=⟨fun|7=>79|10=>122|n=>n,fun|23=>94|26=>3|3=>111|28=>165|0=>0|27=>164|33=>173|4=>4|n=>n,fun|n=>n⟩
theorem L.keys79:Go.Proofs.SlLaysZI.n7 Tryz.prog L.keys79_ren:={
 mixed:=by kernel_rfl,
 f7:=⟨Tryz.f79.name,by decide,Tryz.func79.trans (congrArg some kr)⟩,
 f10:=⟨Tryz.f122.name,by decide,Tryz.func122.trans (congrArg some kr)⟩,
 t0:=Tryz.underlying0,
 a0:=Tryz.isAgg0,
 z0:=Tryz.sizeOf0,
 v0:=Tryz.zeroValue0,
 t4:=Tryz.underlying4,
 a4:=Tryz.isAgg4,
 z4:=Tryz.sizeOf4,
 v4:=Tryz.zeroValue4,
 t23:=Tryz.underlying94,
 a23:=Tryz.isAgg94,
 z23:=Tryz.sizeOf94,
 v23:=Tryz.zeroValue94,
 t26:=Tryz.underlying3,
 a26:=Tryz.isAgg3,
 z26:=Tryz.sizeOf3,
 v26:=Tryz.zeroValue3,
 t27:=Tryz.underlying164,
 a27:=Tryz.isAgg164,
 z27:=Tryz.sizeOf164,
 v27:=Tryz.zeroValue164,
 t28:=Tryz.underlying165,
 a28:=Tryz.isAgg165,
 z28:=Tryz.sizeOf165,
 v28:=Tryz.zeroValue165,
 t33:=Tryz.underlying173,
 a33:=Tryz.isAgg173,
 z33:=Tryz.sizeOf173,
 v33:=Tryz.zeroValue173}
def L.sorted78_ren:Go.Shelf.Ren:=⟨fun|6=>78|8=>120|9=>121|11=>149|13=>127|12=>150|23=>160|24=>161|14=>177|15=>178|16=>179|17=>180|18=>181|19=>182|20=>183|21=>184|22=>185|25=>198|26=>187|27=>188|28=>199|29=>200|30=>201|31=>206|n=>n,fun|26=>3|28=>165|24=>61|0=>0|3=>3|37=>189|48=>157|50=>141|4=>4|40=>239|39=>238|45=>109|5=>5|9=>9|51=>267|55=>270|57=>281|58=>127|33=>173|n=>n,fun|n=>n⟩
theorem L.sorted78:Go.Proofs.SlLaysZI.n6 Tryz.prog L.sorted78_ren:={
 mixed:=by kernel_rfl,
 f6:=⟨Tryz.f78.name,by decide,Tryz.func78.trans (congrArg some kr)⟩,
 f8:=⟨Tryz.f120.name,by decide,Tryz.func120.trans (congrArg some kr)⟩,
 f11:=⟨Tryz.f149.name,by decide,Tryz.func149.trans (congrArg some kr)⟩,
 t0:=Tryz.underlying0,
 a0:=Tryz.isAgg0,
 z0:=Tryz.sizeOf0,
 v0:=Tryz.zeroValue0,
 t24:=Tryz.underlying61,
 a24:=Tryz.isAgg61,
 z24:=Tryz.sizeOf61,
 v24:=Tryz.zeroValue61,
 t26:=Tryz.underlying3,
 a26:=Tryz.isAgg3,
 z26:=Tryz.sizeOf3,
 v26:=Tryz.zeroValue3,
 t28:=Tryz.underlying165,
 a28:=Tryz.isAgg165,
 z28:=Tryz.sizeOf165,
 v28:=Tryz.zeroValue165,
 i26:=by kernel_rfl}
def L.sort121_ren:Go.Shelf.Ren:=⟨fun|5=>121|8=>127|7=>150|19=>160|20=>161|10=>177|11=>178|12=>179|13=>180|14=>181|15=>182|16=>183|17=>184|18=>185|30=>198|31=>187|32=>188|33=>199|34=>200|35=>201|40=>206|n=>n,fun|23=>61|25=>3|3=>3|32=>189|22=>61|0=>0|44=>157|46=>141|4=>4|36=>239|35=>238|41=>109|5=>5|9=>9|53=>267|57=>270|63=>281|64=>127|n=>n,fun|n=>n⟩
theorem L.sort121:Go.Proofs.SlLaysM.n5 Tryz.prog L.sort121_ren:={
 mixed:=by kernel_rfl,
 f5:=⟨Tryz.f121.name,by decide,Tryz.func121.trans (congrArg some kr)⟩,
 f7:=⟨Tryz.f150.name,by decide,Tryz.func150.trans (congrArg some kr)⟩,
 f8:=Tryz.func127.trans (congrArg some kr),
 f10:=⟨Tryz.f177.name,by decide,Tryz.func177.trans (congrArg some kr)⟩,
 f11:=⟨Tryz.f178.name,by decide,Tryz.func178.trans (congrArg some kr)⟩,
 f12:=⟨Tryz.f179.name,by decide,Tryz.func179.trans (congrArg some kr)⟩,
 f13:=⟨Tryz.f180.name,by decide,Tryz.func180.trans (congrArg some kr)⟩,
 f14:=⟨Tryz.f181.name,by decide,Tryz.func181.trans (congrArg some kr)⟩,
 f15:=⟨Tryz.f182.name,by decide,Tryz.func182.trans (congrArg some kr)⟩,
 f16:=⟨Tryz.f183.name,by decide,Tryz.func183.trans (congrArg some kr)⟩,
 f17:=⟨Tryz.f184.name,by decide,Tryz.func184.trans (congrArg some kr)⟩,
 f18:=⟨Tryz.f185.name,by decide,Tryz.func185.trans (congrArg some kr)⟩,
 f19:=Tryz.func160.trans (congrArg some kr),
 f20:=Tryz.func161.trans (congrArg some kr),
 f30:=⟨Tryz.f198.name,by decide,Tryz.func198.trans (congrArg some kr)⟩,
 f31:=Tryz.func187.trans (congrArg some kr),
 f32:=Tryz.func188.trans (congrArg some kr),
 f33:=⟨Tryz.f199.name,by decide,Tryz.func199.trans (congrArg some kr)⟩,
 f34:=⟨Tryz.f200.name,by decide,Tryz.func200.trans (congrArg some kr)⟩,
 f35:=⟨Tryz.f201.name,by decide,Tryz.func201.trans (congrArg some kr)⟩,
 f40:=⟨Tryz.f206.name,by decide,Tryz.func206.trans (congrArg some kr)⟩,
 t0:=Tryz.underlying0,
 a0:=Tryz.isAgg0,
 z0:=Tryz.sizeOf0,
 v0:=Tryz.zeroValue0,
 t3:=Tryz.underlying3,
 a3:=Tryz.isAgg3,
 z3:=Tryz.sizeOf3,
 v3:=Tryz.zeroValue3,
 t4:=Tryz.underlying4,
 a4:=Tryz.isAgg4,
 z4:=Tryz.sizeOf4,
 v4:=Tryz.zeroValue4,
 t5:=Tryz.underlying5,
 a5:=Tryz.isAgg5,
 z5:=Tryz.sizeOf5,
 v5:=Tryz.zeroValue5,
 t9:=Tryz.underlying9,
 a9:=Tryz.isAgg9,
 z9:=Tryz.sizeOf9,
 v9:=Tryz.zeroValue9,
 t22:=Tryz.underlying61,
 a22:=Tryz.isAgg61,
 z22:=Tryz.sizeOf61,
 v22:=Tryz.zeroValue61,
 t23:=Tryz.underlying61,
 a23:=Tryz.isAgg61,
 z23:=Tryz.sizeOf61,
 v23:=Tryz.zeroValue61,
 t25:=Tryz.underlying3,
 a25:=Tryz.isAgg3,
 z25:=Tryz.sizeOf3,
 v25:=Tryz.zeroValue3,
 t32:=Tryz.underlying189,
 a32:=Tryz.isAgg189,
 z32:=Tryz.sizeOf189,
 v32:=Tryz.zeroValue189,
 t35:=Tryz.underlying238,
 a35:=Tryz.isAgg238,
 z35:=Tryz.sizeOf238,
 v35:=Tryz.zeroValue238,
 t36:=Tryz.underlying239,
 a36:=Tryz.isAgg239,
 z36:=Tryz.sizeOf239,
 v36:=Tryz.zeroValue239,
 t41:=Tryz.underlying109,
 a41:=Tryz.isAgg109,
 z41:=Tryz.sizeOf109,
 v41:=Tryz.zeroValue109,
 t44:=Tryz.underlying157,
 a44:=Tryz.isAgg157,
 z44:=Tryz.sizeOf157,
 v44:=Tryz.zeroValue157,
 t46:=Tryz.underlying141,
 a46:=Tryz.isAgg141,
 z46:=Tryz.sizeOf141,
 v46:=Tryz.zeroValue141,
 t53:=Tryz.underlying267,
 a53:=Tryz.isAgg267,
 z53:=Tryz.sizeOf267,
 v53:=Tryz.zeroValue267,
 t57:=Tryz.underlying270,
 a57:=Tryz.isAgg270,
 z57:=Tryz.sizeOf270,
 v57:=Tryz.zeroValue270,
 t63:=Tryz.underlying281,
 a63:=Tryz.isAgg281,
 z63:=Tryz.sizeOf281,
 v63:=Tryz.zeroValue281,
 t64:=Tryz.underlying127,
 a64:=Tryz.isAgg127,
 z64:=Tryz.sizeOf127,
 v64:=Tryz.zeroValue127}
def L.keys81_ren:Go.Shelf.Ren:=⟨fun|7=>81|10=>124|n=>n,fun|23=>170|26=>3|3=>3|28=>165|0=>0|27=>164|33=>173|4=>4|n=>n,fun|n=>n⟩
theorem L.keys81:Go.Proofs.SlLaysZI.n7 Tryz.prog L.keys81_ren:={
 mixed:=by kernel_rfl,
 f7:=⟨Tryz.f81.name,by decide,Tryz.func81.trans (congrArg some kr)⟩,
 f10:=⟨Tryz.f124.name,by decide,Tryz.func124.trans (congrArg some kr)⟩,
 t0:=Tryz.underlying0,
 a0:=Tryz.isAgg0,
 z0:=Tryz.sizeOf0,
 v0:=Tryz.zeroValue0,
 t4:=Tryz.underlying4,
 a4:=Tryz.isAgg4,
 z4:=Tryz.sizeOf4,
 v4:=Tryz.zeroValue4,
 t23:=Tryz.underlying170,
 a23:=Tryz.isAgg170,
 z23:=Tryz.sizeOf170,
 v23:=Tryz.zeroValue170,
 t26:=Tryz.underlying3,
 a26:=Tryz.isAgg3,
 z26:=Tryz.sizeOf3,
 v26:=Tryz.zeroValue3,
 t27:=Tryz.underlying164,
 a27:=Tryz.isAgg164,
 z27:=Tryz.sizeOf164,
 v27:=Tryz.zeroValue164,
 t28:=Tryz.underlying165,
 a28:=Tryz.isAgg165,
 z28:=Tryz.sizeOf165,
 v28:=Tryz.zeroValue165,
 t33:=Tryz.underlying173,
 a33:=Tryz.isAgg173,
 z33:=Tryz.sizeOf173,
 v33:=Tryz.zeroValue173}
def L.keys194_ren:Go.Shelf.Ren:=⟨fun|7=>194|10=>205|n=>n,fun|23=>72|26=>3|3=>37|28=>165|0=>0|27=>164|33=>173|4=>4|n=>n,fun|n=>n⟩
theorem L.keys194:Go.Proofs.SlLaysZI.n7 Tryz.prog L.keys194_ren:={
 mixed:=by kernel_rfl,
 f7:=⟨Tryz.f194.name,by decide,Tryz.func194.trans (congrArg some kr)⟩,
 f10:=⟨Tryz.f205.name,by decide,Tryz.func205.trans (congrArg some kr)⟩,
 t0:=Tryz.underlying0,
 a0:=Tryz.isAgg0,
 z0:=Tryz.sizeOf0,
 v0:=Tryz.zeroValue0,
 t4:=Tryz.underlying4,
 a4:=Tryz.isAgg4,
 z4:=Tryz.sizeOf4,
 v4:=Tryz.zeroValue4,
 t23:=Tryz.underlying72,
 a23:=Tryz.isAgg72,
 z23:=Tryz.sizeOf72,
 v23:=Tryz.zeroValue72,
 t26:=Tryz.underlying3,
 a26:=Tryz.isAgg3,
 z26:=Tryz.sizeOf3,
 v26:=Tryz.zeroValue3,
 t27:=Tryz.underlying164,
 a27:=Tryz.isAgg164,
 z27:=Tryz.sizeOf164,
 v27:=Tryz.zeroValue164,
 t28:=Tryz.underlying165,
 a28:=Tryz.isAgg165,
 z28:=Tryz.sizeOf165,
 v28:=Tryz.zeroValue165,
 t33:=Tryz.underlying173,
 a33:=Tryz.isAgg173,
 z33:=Tryz.sizeOf173,
 v33:=Tryz.zeroValue173}
theorem L.sorts78 (m:Nat):AnyZI.SortsIn Tryz.prog L.sorted78_ren Fence.wide m:=
  ⟨fun blk off cap ss W hH hblk hsz=>callsIn_wide.2 (AnyM.slices_Sort_int L.sort121 blk off cap ss W hH hblk hsz),
   fun p cap W=>callsIn_wide.2 (AnyM.slices_Sort_int_none L.sort121 p cap W)⟩
end
section
open Go.Shelf Go.Proofs
theorem L.ksorted79:K.KSortedKeys Tryz.prog 78 122 3:=K.kSortedKeys_of L.keys79 L.sorted78 L.sorts78 (enters_of Tryz.func121 (by kernel_rfl) rfl)
theorem L.ksorted81:K.KSortedKeys Tryz.prog 78 124 3:=K.kSortedKeys_of L.keys81 L.sorted78 L.sorts78 (enters_of Tryz.func121 (by kernel_rfl) rfl)
theorem L.ksorted194:K.KSortedKeys Tryz.prog 78 205 3:=K.kSortedKeys_of L.keys194 L.sorted78 L.sorts78 (enters_of Tryz.func121 (by kernel_rfl) rfl)
end
section
open K
theorem dOrder (m:DM) (x:MX) (D:DK) (w:World) (hg:DG D) (hmo:MapOk x.1 x.2 (wv2 D.wait)) (hR:Has w (dO D m x)) :
  Calls Tryz.prog 168 #[.pointer (some ⟨m.d,3,none⟩)] w fun e w'=>∃o:K.Own,OwnOk o 1 D.wait.length ((keysW D.wait).map Go.encZ)∧e=.returned (.slice o.a D.wait.length o.c)∧Has w' (o.o 3 ((keysW D.wait).map Go.encZ))∧(∀x∈o.o 3 ((keysW D.wait).map Go.encZ),w.heap.size≤x.1)∧Ext [] w w':=by
 have hn:=hg.n
 refine enter [] [cl m.d #[.int .i64 D.fuse,.int .i64 D.steps,.bool D.down,sP m.lb 0 D.last.length D.last.length,.map (some m.mb)] 76,cl m.lb ((rows D.last).toArray) 37,(m.mb,.map x.1 x.2)] [] Tryz.func168 rfl kr (yj hR) ?_
 refine Rq [0] ?_
 refine Bp 4 [dZ,dZ,dZ,(dS (.map (some m.mb)))] (some [6]) (fun S=>[(∀w1,S w1→w1.cell? ⟨m.d,4,none⟩=some (.map (some m.mb)))]) ⟨(rC 0 rfl rfl),trivial⟩ ?_
 refine Le (Eff.callN (fun tb=>.func (.func 205) #[] #[pT tb]) (fun tb=>tb) (fun _=>.cells #[.map (some m.mb)] 72 (0,0)) (fun _=>True) rfl Tryz.func194 rfl rfl kr (fun w1 h=>mKeys m.mb w1)) ?_
 rintro tb -
 refine Le (Eff.callOF (vs:=[.func (.func 205) #[] #[pT tb]]) 3 1 D.wait.length ((keysW D.wait).map Go.encZ) [cl tb #[.map (some m.mb)] 72] [] rfl rfl Tryz.func78 rfl rfl kr (fun w1 h=>by have h9:=sorted_gives L.ksorted194 tb m.mb x.1 x.2 (wv2 D.wait) w1 hmo (h.ro (m.mb,_) (mG 2 rfl)) (fun p hp=>by obtain⟨x,hx,rfl⟩:=zv.1 hp;have:=hg.k x hx;simp only;omega) (by unfold wv2;rw[zA];exact hg.wl) (h.ocell 0 rfl rfl);rw[show(wv2 D.wait).length=D.wait.length by unfold wv2;rw[zA]]at h9;exact h9)) ?_
 rintro o ko
 refine Ld 1 [2] ?_
 refine Rt [sO o D.wait.length] (fun w1 hp=>?_)
 exact⟨o,ko,rfl,fun x hx=>hp.own x (by simp[hx]),fun x hx=>(hp.mine x (by simp[hx])).resolve_right (fun h=>by cases h),hp.ext⟩
end
section
open K
def setl (p:Nat→Bool) (W:Wt):Nat→List Int→List (List UInt8)→List (List UInt8)
 | _,[],L=>L
 | i,q::ks,L=>setl p W (i+1) ks (if p i=true then L.set q.toNat ((wget W q).getD zb)else L)
def settleF (p:Nat→Bool) (D:DK):DK:={D with last:=setl p D.wait 0 (keysW D.wait) D.last,wait:=[]}
theorem setl_len (p:Nat→Bool) (W:Wt):∀(ks:List Int) (i:Nat) (L:List (List UInt8)),(setl p W i ks L).length=L.length
 | [],_,_=>rfl
 | q::ks,i,L=>by rw[setl,setl_len p W ks];split <;> simp
theorem wgetD_len {W:Wt} (h:∀p∈W,p.2.length=512) (q:Int):((wget W q).getD zb).length=512:=by
 cases hg:wget W q with
 | none=>exact qA
 | some b=>exact h _ (wget_mem hg)
theorem W5.set {L:List (List UInt8)} {b:List UInt8} (h:W5 L) (hb:b.length=512) (i:Nat):W5 (L.set i b):=fun x hx=>by
 rcases List.mem_or_eq_of_mem_set hx with hx|rfl
 ·exact h x hx
 exact hb
theorem setl_w5 {W:Wt} (hw:∀p∈W,p.2.length=512) (p:Nat→Bool):∀(ks:List Int) (i:Nat) {L:List (List UInt8)},W5 L→W5 (setl p W i ks L)
 | [],_,_,h=>h
 | q::ks,i,L,h=>by
  rw[setl]
  refine setl_w5 hw p ks _ ?_
  split
  ·exact h.set (wgetD_len hw q) _
  exact h
theorem DG.settle {D:DK} (h:DG D) (p:Nat→Bool):DG (settleF p D):=
 ⟨setl_w5 h.ww p _ _ h.w,(fun _ hp=>by cases hp),(fun _ hp=>by cases hp),by show(setl _ _ _ _ _).length≤_;rw[setl_len];exact h.n,qX,h.f⟩
theorem keys_mem (W:Wt) (x:Int):x∈keysW W↔x∈W.map (·.1):=by
 unfold keysW
 rw[(srt_perm _).mem_iff]
 unfold wv2
 rw[q5];rfl
theorem keys_in {D:DK} (h:DG D) {k:Nat} (hk:k<D.wait.length):0≤(keysW D.wait).getD k 0∧(keysW D.wait).getD k 0<(D.last.length:Int):=by
 have h1:k<(keysW D.wait).length:=by rw[keysW_len];exact hk
 have h2:(keysW D.wait).getD k 0∈keysW D.wait:=by rw[zc,zd h1];exact qr h1
 obtain⟨p,hp,e⟩:=zv.1 ((keys_mem _ _).1 h2)
 rw[←e];exact h.k p hp
theorem key_cell {w:World} {ob k:Nat} {ks:List Int} {oj:List Value} {t:TypeId} {fr:Nat×Nat} (h:w.heap[ob]? = some (.cells (ks.map Go.encZ++oj).toArray t fr)) (hk:k<ks.length):w.cell? ⟨ob,k,none⟩=some (.int .i64 (ks.getD k 0)):=by
 rw[zI h,zo,zJ (by rw[zA];exact hk),qa,zc,zd hk]
 rfl
theorem setl_step {p:Nat→Bool} {W:Wt} {k:Nat} {ks:List Int} (h:k<ks.length) (L:List (List UInt8)):setl p W k (ks.drop k) L=setl p W (k+1) (ks.drop (k+1)) (if p k=true then L.set (ks.getD k 0).toNat ((wget W (ks.getD k 0)).getD zb)else L):=by
 rw[yn h,setl,zc,zd h];rfl
def barF (D:DK):Int×DK:=if(spF D).1=true then(0,settleF (fun _=>true) (spF D).2) else(13,(spF D).2)
def crashF (kept:List Bool) (D:DK):DK:={settleF (fun i=>kept.getD i false) D with fuse:=-1,down:=false}
theorem DG.bar {D:DK} (h:DG D):DG (barF D).2:=by
 unfold barF;split
 ·exact h.sp.settle _
 exact h.sp
theorem DG.crash {D:DK} (h:DG D) (kept:List Bool):DG (crashF kept D):=by
 have h1:=h.settle (fun i=>kept.getD i false)
 exact⟨h1.w,h1.ww,h1.k,h1.n,h1.nd,⟨by show(-1:Int)≤ -1;decide,by show(-1:Int)≤9223372036854775807;decide⟩⟩
theorem barF_len (D:DK):(barF D).2.last.length=D.last.length:=by
 unfold barF;split
 ·show(setl _ _ _ _ _).length=_;rw[setl_len,spF_last]
 rw[spF_last]
theorem barF_steps (D:DK):D.steps≤(barF D).2.steps∧(barF D).2.steps≤D.steps+1:=by
 have:=spF_steps D
 unfold barF;split
 ·exact this
 exact this
theorem dSettle (m : DM) (x : MX) (D : DK) (f : Nat) (fnF : Func) (cF : Code) (caps : List Value) (p : Nat → Bool) (Rk : List (Nat × Obj)) (w : World) (hg : DG D) (hmo : MapOk x.1 x.2 (wv2 D.wait)) (hA : Has w (dO D m x)) (hd : ((dO D m x).map (·.1)).Nodup) (hfn : Tryz.prog.funcs[f]? = some fnF) (hnm : (fnF.name == "runtime.NumGoroutine") = false) (hcF : fnF.body = some cF) (hso : ∀ (i : Nat) (w : World),i ≤ 4096 → Has w Rk → Calls Tryz.prog f ([Value.int .i64 (i : Int)] ++ caps).toArray w fun e w' => e = .returned (.bool (p i)) ∧ Ext [] w w') (hRk : Has w Rk) (hnk : ∀ e ∈ Rk,e.1 ∉ (dO D m x).map (·.1)) :
  Calls Tryz.prog 137 #[.pointer (some ⟨m.d,3,none⟩),.func (.func f) #[] caps.toArray] w fun e w'=>∃x2:MX,MapOk x2.1 x2.2 (wv2 (settleF p D).wait)∧e=.returned (.tuple #[])∧∃R1,HP w [m.d,m.lb,m.mb] R1 (dO (settleF p D) m x2) w':=by
 have hn:=hg.n
 have hwn:=hg.wn
 refine enter [m.d,m.lb,m.mb] Rk [cl m.d #[.int .i64 D.fuse,.int .i64 D.steps,.bool D.down,sP m.lb 0 D.last.length D.last.length,.map (some m.mb)] 76,cl m.lb ((rows D.last).toArray) 37,(m.mb,.map x.1 x.2)] Tryz.func137 rfl kr (HP.ofL hA hd hRk hnk) ?_
 refine Bp 1 [] none n0 trivial ?_
 refine Le (Eff.callOF 3 1 D.wait.length ((keysW D.wait).map Go.encZ) [cl m.d #[.int .i64 D.fuse,.int .i64 D.steps,.bool D.down,sP m.lb 0 D.last.length D.last.length,.map (some m.mb)] 76,cl m.lb ((rows D.last).toArray) 37,(m.mb,.map x.1 x.2)] [] rfl rfl Tryz.func168 rfl rfl kr (fun w1 h=>dOrder m x D w1 hg hmo (h.has (fun e he=>he)))) ?_
 rintro o ko
 refine Ld 2 [0,1,7,8,9] ?_
 refine ye rfl (ι:=Nat×List (List UInt8)) (fun(k,L)=>[(9,[],iN k),(8,[],iN D.wait.length),(7,[],sO o D.wait.length),(0,[],.pointer (some ⟨m.d,3,none⟩)),(1,[],.func (.func f) #[] caps.toArray)]) (fun(k,L)=>([cl m.d #[.int .i64 D.fuse,.int .i64 D.steps,.bool D.down,sP m.lb 0 D.last.length D.last.length,.map (some m.mb)] 76,cl m.lb ((rows L).toArray) 37,(m.mb,.map x.1 x.2)]++(Own.o 3 ((keysW D.wait).map Go.encZ) o++[]))) (fun(k,L)=>(k≤D.wait.length)∧(W5 L)∧(L.length=D.last.length)∧(setl p D.wait k ((keysW D.wait).drop k) L=setl p D.wait 0 (keysW D.wait) D.last)) (fun(k,L)=>D.wait.length-k) (0,D.last) ?_ (Conv.mk kr) slr ?_
 ·exact⟨zH _,hg.w,rfl,rfl⟩
 rintro⟨k,L⟩ ⟨hk,hW,hl,hs⟩
 refine Rq [0,1,7,8,9,10] ?_
 refine eC rfl (p:=((k:Int)<(D.wait.length:Int))) kr (fun c1=>?_) (fun c1=>?_)
 ·obtain⟨⟨ob,oc,oj⟩,rfl⟩:=own_some ko om
  refine zU (O':=[cl m.d #[.int .i64 D.fuse,.int .i64 D.steps,.bool D.down,sP m.lb 0 D.last.length D.last.length,.map (some m.mb)] 76,cl m.lb ((rows L).toArray) 37,(m.mb,.map x.1 x.2),cl ob ((((keysW D.wait).map Go.encZ)++oj).toArray) 3]) rfl ?_
  refine y9 (Γ':=[(10,[],.bool (decide ((k:Int)<(D.wait.length:Int)))),(9,[],iN k),(8,[],iN D.wait.length),(7,[],sP ob 0 D.wait.length oc),(0,[],.pointer (some ⟨m.d,3,none⟩)),(1,[],.func (.func f) #[] caps.toArray)]) (Conv.mk kr) ?_
  have hki:=keys_in hg (k:=k) om
  refine Rg [0,1,4,5,7,8,9] [dZ,dZ,(dS (.int .i64 ((keysW D.wait).getD k 0)))] (fun S=>[(iL (k:Int) (D.wait.length:Int)),(cE S ob k (.int .i64 ((keysW D.wait).getD k 0)))]) ⟨om,(fun w1 h=>key_cell (h.own (ob,_) (mG 3 rfl)) (by rw[keysW_len];omega)),trivial⟩ ?_
  refine Bq 2 [0,1,5,7,8,9,14,15] ?_
  refine Lu (Eff.callAVC (.bool (p k)) caps rfl kr hfn hnm hcF kr (fun w1 h=>hso k w1 om (h.hasR (fun e he=>he)))) ?_
  refine zg rfl ?_
  refine Cg (Γ':=[(16,[],.bool (p k)),(5,[],.int .i64 ((keysW D.wait).getD k 0)),(9,[],iN k),(8,[],iN D.wait.length),(7,[],sP ob 0 D.wait.length oc),(0,[],.pointer (some ⟨m.d,3,none⟩)),(1,[],.func (.func f) #[] caps.toArray)]) ?_
  refine zX rfl (b:=(p k)) kr (fun c2r=>?_) (fun c2r=>?_)
  ·have c2:((p k)=true):=c2r
   refine yo rfl kr [cl m.d #[.int .i64 D.fuse,.int .i64 D.steps,.bool D.down,sP m.lb 0 D.last.length D.last.length,.map (some m.mb)] 76,(m.mb,.map x.1 x.2),cl ob ((((keysW D.wait).map Go.encZ)++oj).toArray) 3] ?_
   refine Ap (List.range 10) [dZ,dZ,dZ,(dS (sP m.lb 0 D.last.length D.last.length)),dZ,dZ,dZ,dZ,(dS (.map (some m.mb)))] (some [0,1,7,8,9,20,21,25,26]) (tF 10 3) (cO (.cons _ (cO (cO .slnil)))) 3 (fun S=>[(∀w1,S w1→w1.cell? ⟨m.d,3,none⟩=some (sP m.lb 0 D.last.length D.last.length)),(∀w1,S w1→w1.cell? ⟨m.d,4,none⟩=some (.map (some m.mb)))]) ⟨(oC 0 rfl rfl),(oC 0 rfl rfl),trivial⟩ ?_
   refine Au 10 rfl 2  (Eff.waitGet (r:=m.mb) (k:=((keysW D.wait).getD k 0)) rfl rfl kr kr hmo (fun w1 h=>h.own (m.mb,_) (mG 2 rfl))) (fun _ _=>(cO (.cons _ (cO (cO .slnil))))) ?_
   refine Ap [11] [] (some [0,1,7,8,9,27,28]) (tF 12 1) (cO (.cons _ (cO (cO .slnil)))) 1 (fun _=>[(iL ((keysW D.wait).getD k 0) (D.last.length:Int))]) ⟨om,trivial⟩ ?_
   refine Au 12 rfl 0  (zC (b:=m.lb) (off:=((((keysW D.wait).getD k 0)).toNat*512)) (vs:=(bv ((wget D.wait (((keysW D.wait).getD k 0))).getD zb))) (n:=512) rfl kr kr kr ((zP _).trans (wgetD_len hg.ww _)) (qF _) 1 (cs:=(rows L).toArray) (e:=37) kr (by rw[zp,rows_len hW];omega)) (fun _ _=>(cO (.cons _ (cO (cO .slnil))))) ?_
   refine CfgA.setO (congrArg (fun(xq:Array Value)=>([cl m.d #[.int .i64 D.fuse,.int .i64 D.steps,.bool D.down,sP m.lb 0 D.last.length D.last.length,.map (some m.mb)] 76,cl m.lb xq 37,(m.mb,.map x.1 x.2),cl ob ((((keysW D.wait).map Go.encZ)++oj).toArray) 3]:LO)) (show _=((rows (L.set ((keysW D.wait).getD k 0).toNat ((wget D.wait (((keysW D.wait).getD k 0))).getD zb))).toArray)from rows_set hW (wgetD_len hg.ww _) om rfl)) ?_
   refine z6 kr ?_
   refine Cg (Γ':=[(9,[],iN k),(8,[],iN D.wait.length),(7,[],sP ob 0 D.wait.length oc),(0,[],.pointer (some ⟨m.d,3,none⟩)),(1,[],.func (.func f) #[] caps.toArray)]) ?_
   refine Rg [0,1,7,8,9] [] (fun _=>[(i6 ((k:Int)+1))]) ⟨om,trivial⟩ ?_
   have hst:=setl_step (p:=p) (W:=D.wait) (k:=k) (ks:=keysW D.wait) (by rw[keysW_len];omega) L
   rw[hs,if_pos c2]at hst
   refine zG rfl (k+1,(L.set ((keysW D.wait).getD k 0).toNat ((wget D.wait ((keysW D.wait).getD k 0)).getD zb))) ⟨by omega,hW.set (wgetD_len hg.ww _) _,by rw[yc];exact hl,hst.symm⟩ (by show D.wait.length-(k+1)<D.wait.length-k;omega) (Conv.mk kr) slr
  have c2:((p k)=false):=c2r
  refine Rg [0,1,7,8,9] [] (fun _=>[(i6 ((k:Int)+1))]) ⟨om,trivial⟩ ?_
  have hst:=setl_step (p:=p) (W:=D.wait) (k:=k) (ks:=keysW D.wait) (by rw[keysW_len];omega) L
  rw[hs,if_neg (by simp[c2])]at hst
  refine zG rfl (k+1,L) ⟨by omega,hW,hl,hst.symm⟩ (by show D.wait.length-(k+1)<D.wait.length-k;omega) (Conv.mk kr) slr
 refine Bp 4 [dZ,dZ,dZ,(dS (.map (some m.mb)))] (some [33]) (fun S=>[(∀w1,S w1→w1.cell? ⟨m.d,4,none⟩=some (.map (some m.mb)))]) ⟨(oC 0 rfl rfl),trivial⟩ ?_
 refine Lu (Eff.mapClear (r:=m.mb) (es:=x.1) (ck:=x.2) rfl Tryz.underlying72 kr 2 rfl) ?_
 refine zg rfl ?_
 refine Cg (Γ':=[]) ?_
 refine Cfg.fin rfl (rs:=[]) rfl [] trivial (fun w1 hp=>?_)
 have hk2:k=D.wait.length:=by omega
 rw[qe (by rw[keysW_len];omega),setl]at hs
 have h8:HP w [m.d,m.lb,m.mb] Rk ([(m.d,.cells #[.int .i64 D.fuse,.int .i64 D.steps,.bool D.down,.slice (some ⟨m.lb,0,none⟩) D.last.length D.last.length,.map (some m.mb)] 76 (0,0)),(m.lb,.cells ((rows L).toArray) 37 (0,0)),(m.mb,.map #[] x.2)]++(Own.o 3 ((keysW D.wait).map Go.encZ) o++[])) w1:=hp
 have h9:=h8.sub (qv _ _)
 rw[←hl]at h9
 subst hs
 exact⟨(#[],x.2),MapOk.empty _,rfl,Rk,h9⟩
theorem dBar1 (i:Nat) (w:World) :
  Calls Tryz.prog 138 #[.int .i64 (i:Int)] w fun e w'=>e=.returned (.bool true)∧Ext [] w w':=by
 refine enter [] [] [] Tryz.func138 rfl kr (yy w) ?_
 refine Rq [] ?_
 refine Rq [2] ?_
 refine Rt [.bool true] (fun w1 hp=>?_)
 exact⟨rfl,hp.ext⟩
end
section
open K
theorem dCrash1 (i kb:Nat) (la:Option Addr) (cap:Nat) (kept:List Bool) (Rl:List (Nat×Obj)) (w:World) (hi:i≤4096) (hI:InS Rl la kept.length (fun j=>.bool (kept.getD j false))) (hl:kept.length≤maxLen) (hR:Has w ((kb,.cells #[.slice la kept.length cap] 149 (0,0))::Rl)) :
  Calls Tryz.prog 192 #[.int .i64 (i:Int),.pointer (some ⟨kb,0,none⟩)] w fun e w'=>e=.returned (.bool (kept.getD i false))∧Ext [] w w':=by
 unfold maxLen at hl
 refine enter [] ((cl kb #[.slice la kept.length cap] 149)::Rl) [] Tryz.func192 rfl kr (yj hR) ?_
 refine Rq [0,1] ?_
 refine Bp 5 [dZ,(dS (.slice la kept.length cap))] (some [0,1,8]) (fun S=>[(cE S kb 0 (.slice la kept.length cap))]) ⟨(rC 0 rfl rfl),trivial⟩ ?_
 by_cases c1:(decide ((i:Int)<(kept.length:Int)))=true
 ·have c1k:(decide ((i:Int)<(kept.length:Int)))=true:=c1
  have c1q:=(dT c1k)
  refine qw 8 (b:=(decide ((i:Int)<(kept.length:Int)))) kr true c1k ?_
  have hik:i<kept.length:=by omega
  obtain⟨ib,off,cs,ti,fri,rfl,hmem,hcs⟩:=hI om
  refine Lp 6 [(1,false,some (.slice (some ⟨ib,off,none⟩) kept.length cap)),(1,false,none),(1,false,none),(1,false,some (.bool (kept.getD i false)))] (some [3]) (fun S=>[((.bool true:Value)=.bool true),(cE S kb 0 (.slice (some ⟨ib,off,none⟩) kept.length cap)),((.bool true:Value)=.bool true),((.bool true:Value)=.bool true),(0≤(i:Int)∧(i:Int)<(kept.length:Int)),((.bool true:Value)=.bool true),(cE S ib (addO off i) (.bool (kept.getD i false)))]) ⟨rfl,(rC 0 rfl rfl),rfl,rfl,om,rfl,(fun w1 h=>by rw[y4,zI (h.ro _ (zf _ hmem))];exact hcs i hik),trivial⟩ ?_
  refine zg rfl ?_
  refine Rt [.bool (kept.getD i false)] (fun w1 hp=>?_)
  exact⟨rfl,hp.ext⟩
 have c1k:(decide ((i:Int)<(kept.length:Int)))=false:=(by simpa using c1)
 have c1q:=(dF c1k)
 refine qw 8 (b:=(decide ((i:Int)<(kept.length:Int)))) kr false c1k ?_
 refine Lp 6 [(2,false,none),(2,false,none),(2,false,none),(2,false,none)] (some [3]) (fun _=>[((.bool false:Value)≠.bool true),((.bool false:Value)≠.bool true),((.bool false:Value)≠.bool true),((.bool false:Value)≠.bool true)]) ⟨(by simp),(by simp),(by simp),(by simp),trivial⟩ ?_
 refine zg rfl ?_
 refine Rt [.bool false] (fun w1 hp=>?_)
 have hx:kept.getD i false=false:=by rw[zc,qn om];rfl
 exact⟨by rw[hx];rfl,hp.ext⟩
theorem dBarrier (m:DM) (x:MX) (D:DK) (w:World) (hg:DG D) (hmo:MapOk x.1 x.2 (wv2 D.wait)) (hA:Has w (dO D m x)) (hd:((dO D m x).map (·.1)).Nodup) (hs:0≤D.steps∧D.steps≤4611686018427387904) :
  Calls Tryz.prog 104 #[.pointer (some ⟨m.d,0,none⟩)] w fun e w'=>∃x2:MX,MapOk x2.1 x2.2 (wv2 (barF D).2.wait)∧e=.returned (.int .i64 (barF D).1)∧∃R1,HP w [m.d,m.lb,m.mb] R1 (dO (barF D).2 m x2) w':=by
 have hf:=hg.f
 refine enter [m.d,m.lb,m.mb] [] [cl m.d #[.int .i64 D.fuse,.int .i64 D.steps,.bool D.down,sP m.lb 0 D.last.length D.last.length,.map (some m.mb)] 76,cl m.lb ((rows D.last).toArray) 37,(m.mb,.map x.1 x.2)] Tryz.func104 rfl kr (HP.ofL hA hd (fun e he=>by cases he) (fun e he=>by cases he)) ?_
 refine Rq [0] ?_
 refine Rq [0,4] ?_
 refine yb rfl (b:=false) kr rfl ?_
 refine Bq 3 [0,7] ?_
 refine Lu (yX (.bool (spF D).1) 0 (.cells (dC (spF D).2 m) 76 (0,0)) rfl Tryz.func41 rfl rfl kr rfl (fun w1 h=>dSpend m D w1 hf hs (h.own (m.d,_) (mG 0 rfl)))) ?_
 refine yF (O':=dO (spF D).2 m x) (by show _=[cl m.d (dC (spF D).2 m) 76,(m.lb,Obj.cells (rows (spF D).2.last).toArray 37 (0,0)),(m.mb,Obj.map x.1 x.2)];rw[spF_last D];rfl) ?_
 have hm2:MapOk x.1 x.2 (wv2 (spF D).2.wait):=by rw[spF_wait];exact hmo
 refine Ld 1 [0,9] ?_
 refine zX rfl (b:=(!(spF D).1)) kr (fun c2r=>?_) (fun c2r=>?_)
 ·have c2:((spF D).1=false):=(notT c2r)
  refine Rq [2] ?_
  refine Rt [.int .i64 13] (fun w1 hp=>?_)
  have hx:barF D=(13,(spF D).2):=by unfold barF;rw[if_neg (by simp[c2])]
  rw[hx]
  exact⟨x,hm2,rfl,_,hp⟩
 have c2:((spF D).1=true):=(notF c2r)
 refine Bq 3 [12] ?_
 refine Le (zY (fun _:MX=>.tuple #[]) (dO (spF D).2 m x) (fun xq=>dO (settleF (fun _=>true) (spF D).2) m xq) (fun xq=>MapOk xq.1 xq.2 []) [] [] (zm _).symm rfl Tryz.func137 rfl rfl kr (fun w1 h hA1 hd1=>dSettle m x (spF D).2 138 _ _ [] (fun _=>true) [] w1 hg.sp hm2 hA1 hd1 Tryz.func138 rfl rfl (fun i w2 _ _=>dBar1 i w2) (fun e he=>by cases he) (fun e he=>by cases he))) ?_
 rintro xq hxq
 refine zg rfl ?_
 refine Cg (Γ':=[]) ?_
 refine Rq [2] ?_
 refine Rt [.int .i64 0] (fun w1 hp=>?_)
 have hx:barF D=(0,settleF (fun _=>true) (spF D).2):=by unfold barF;rw[if_pos (by simpa using c2)]
 rw[hx]
 have h8:HP w [m.d,m.lb,m.mb] [] (dO (settleF (fun _=>true) (spF D).2) m xq++[]) w1:=hp
 rw[zm]at h8
 exact⟨xq,hxq,rfl,[],h8⟩
theorem dCrash (m:DM) (x:MX) (D:DK) (la:Option Addr) (cap:Nat) (kept:List Bool) (Rl:List (Nat×Obj)) (w:World) (hg:DG D) (hmo:MapOk x.1 x.2 (wv2 D.wait)) (hA:Has w (dO D m x)) (hd:((dO D m x).map (·.1)).Nodup) (hI:InS Rl la kept.length (fun j=>.bool (kept.getD j false))) (hl:kept.length≤maxLen) (hRl:Has w Rl) (hnr:∀e∈Rl,e.1∉(dO D m x).map (·.1)) :
  Calls Tryz.prog 163 #[.pointer (some ⟨m.d,0,none⟩),.slice la kept.length cap] w fun e w'=>∃x2:MX,MapOk x2.1 x2.2 (wv2 (crashF kept D).wait)∧e=.returned (.tuple #[])∧∃R1,HP w [m.d,m.lb,m.mb] R1 (dO (crashF kept D) m x2) w':=by
 refine enter [m.d,m.lb,m.mb] Rl [cl m.d #[.int .i64 D.fuse,.int .i64 D.steps,.bool D.down,sP m.lb 0 D.last.length D.last.length,.map (some m.mb)] 76,cl m.lb ((rows D.last).toArray) 37,(m.mb,.map x.1 x.2)] Tryz.func163 rfl kr (HP.ofL hA hd hRl hnr) ?_
 refine Be rfl rfl (y7 (v:=.slice la kept.length cap) rfl kr) ?_
 rintro kb ⟨hkb,nkb⟩
 refine zg rfl ?_
 refine Cg (Γ':=[(3,[],pT kb),(0,[],pT m.d)]) ?_
 refine Rq [0,3,5] ?_
 refine yb rfl (b:=false) kr rfl ?_
 refine Bq 4 [0,8,9] ?_
 refine Le (zY (vs:=[.pointer (some ⟨m.d,3,none⟩),.func (.func 192) #[] #[pT kb]]) (fun _:MX=>.tuple #[]) (dO D m x) (fun xq=>dO (settleF (fun i=>kept.getD i false) D) m xq) (fun xq=>MapOk xq.1 xq.2 []) [cl kb #[.slice la kept.length cap] 149] [] rfl rfl Tryz.func137 rfl rfl kr (fun w1 h hA1 hd1=>(dSettle m x D 192 _ _ [pT kb] (fun i=>kept.getD i false) ((cl kb #[.slice la kept.length cap] 149)::Rl) w1 hg hmo hA1 hd1 Tryz.func192 rfl rfl (fun i w2 hi hh=>dCrash1 i kb la cap kept Rl w2 hi hI hl hh) (fun e he=>by rcases zq.1 he with rfl|he;exact h.own (kb,_) mH;exact h.ro e he) (fun e he=>by rcases zq.1 he with rfl|he;exact(qd.1 h.dist).1;intro hm;obtain⟨e2,h2,h3⟩:=zv.1 hm;exact h.away (zf _ h2) he h3)))) ?_
 rintro xq hxq
 refine zg rfl ?_
 refine Cg (Γ':=[(0,[],pT m.d)]) ?_
 refine Bq 4 [0,14] ?_
 refine Lu (zS (b:=m.d) (off:=0) (v:=.int .i64 (-1)) rfl kr kr rfl kr 1 (cs:=#[.int .i64 ((settleF (fun i=>kept.getD i false) D).fuse),.int .i64 ((settleF (fun i=>kept.getD i false) D).steps),.bool (settleF (fun i=>kept.getD i false) D).down,sP m.lb 0 (settleF (fun i=>kept.getD i false) D).last.length (settleF (fun i=>kept.getD i false) D).last.length,.map (some m.mb)]) (e:=76) kr (by simp)) ?_
 refine zg rfl ?_
 refine Cg (Γ':=[(0,[],pT m.d)]) ?_
 refine Bq 4 [18] ?_
 refine Lu (zS (b:=m.d) (off:=2) (v:=.bool false) rfl kr kr rfl kr 1 (cs:=(#[.int .i64 ((settleF (fun i=>kept.getD i false) D).fuse),.int .i64 ((settleF (fun i=>kept.getD i false) D).steps),.bool (settleF (fun i=>kept.getD i false) D).down,sP m.lb 0 (settleF (fun i=>kept.getD i false) D).last.length (settleF (fun i=>kept.getD i false) D).last.length,.map (some m.mb)].setIfInBounds 0 (.int .i64 (-1)))) (e:=76) kr (by simp)) ?_
 refine zg rfl ?_
 refine Cg (Γ':=[]) ?_
 refine Cfg.fin rfl (rs:=[]) rfl [] trivial (fun w1 hp=>?_)
 refine⟨xq,hxq,rfl,Rl,?_⟩
 have h9:=hp.sub (List.sublist_cons_self _ _)
 exact h9
end
section
open K
def layF (D:DK):List Wr→Int×DK
 | []=>barF D
 | a::l=>if(qB D a.1 a.2).1≠0 then qB D a.1 a.2 else layF (qB D a.1 a.2).2 l
def laysF (D:DK):List (List Wr)→Int×DK
 | []=>(0,D)
 | l::ls=>if(layF D l).1≠0 then layF D l else laysF (layF D l).2 ls
theorem DG.lay:∀ {l:List Wr} {D:DK},DG D→WW l→DG (layF D l).2
 | [],D,h,_=>h.bar
 | a::l,D,h,hw=>by
  have h1:=h.write a.1 (hw a mH)
  unfold layF
  split
  ·exact h1
  exact DG.lay h1 (fun x hx=>hw x (zf _ hx))
theorem layF_steps:∀(l:List Wr) (D:DK),D.steps≤(layF D l).2.steps∧(layF D l).2.steps≤D.steps+l.length+1
 | [],D=>by have:=barF_steps D;unfold layF;rw[yH];omega
 | a::l,D=>by
  have h1:=writeF_steps D a.1 a.2
  have h2:=layF_steps l (qB D a.1 a.2).2
  unfold layF
  rw[zL]
  split
  ·omega
  omega
theorem DG.lays:∀ {ls:List (List Wr)} {D:DK},DG D→(∀l∈ls,WW l)→DG (laysF D ls).2
 | [],D,h,_=>h
 | l::ls,D,h,hw=>by
  have h1:=h.lay (hw l mH)
  unfold laysF
  split
  ·exact h1
  exact DG.lays h1 (fun x hx=>hw x (zf _ hx))
def tot:List (List Wr)→Nat
 | []=>0
 | l::ls=>l.length+1+tot ls
theorem laysF_steps:∀(ls:List (List Wr)) (D:DK),D.steps≤(laysF D ls).2.steps∧(laysF D ls).2.steps≤D.steps+(tot ls:Int)
 | [],D=>by unfold laysF tot;simp
 | l::ls,D=>by
  have h1:=layF_steps l D
  have h2:=laysF_steps ls (layF D l).2
  unfold laysF tot
  split
  ·omega
  omega
def cpy (l:List Wr) (i:Nat):List Wr:=(List.range i).map fun(k:Nat)=>(((k+1:Nat):Int),(l.getD k wz).2)
theorem cpy_len (l:List Wr) (i:Nat):(cpy l i).length=i:=by unfold cpy;rw[zA,qk]
theorem cpy_next (l:List Wr) (i:Nat):cpy l (i+1)=cpy l i++[(((i+1:Nat):Int),(l.getD i wz).2)]:=by
 unfold cpy;rw[qc,yf];rfl
theorem cpy_w {l:List Wr} (h:WW l) (i:Nat):WW (cpy l i):=fun x hx=>by
 obtain⟨k,_,rfl⟩:=zv.1 hx
 exact h.at k
def stagesF (n:Nat) (l:List Wr):List (List Wr):=[[((0:Int),zb)],cpy l l.length,[((0:Int),qi n l)],l]
theorem stages_w {l:List Wr} (h:WW l) (n:Nat):∀s∈stagesF n l,WW s:=by
 intro s hs
 unfold stagesF at hs
 simp only[List.mem_cons,List.not_mem_nil,or_false]at hs
 rcases hs with rfl|rfl|rfl|rfl
 ·exact fun x hx=>by rw[zi.1 hx];exact qA
 ·exact cpy_w h _
 ·exact fun x hx=>by rw[zi.1 hx];exact headF_len _ _
 exact h
theorem stages_tot (n:Nat) (l:List Wr):tot (stagesF n l)=2*l.length+6:=by
 unfold stagesF tot tot tot tot tot
 simp only[cpy_len,List.length_cons,List.length_nil];omega
abbrev Nt:=List (Int×Nat)
def nset (W:Nt) (k:Int) (v:Nat):Nt:=match W with
 | []=>[(k,v)]
 | p::W=>if k=p.1 then(k,v)::W else p::nset W k v
def nget (W:Nt) (k:Int):Option Nat:=match W with
 | []=>none
 | p::W=>if k=p.1 then some p.2 else nget W k
theorem nget_set (W:Nt) (k:Int) (v:Nat) (j:Int):nget (nset W k v) j=if j=k then some v else nget W j:=by
 induction W with
 | nil=>simp[nset,nget]
 | cons p W ih=>
  unfold nset
  by_cases h:k=p.1
  ·rw[if_pos h]
   unfold nget
   by_cases hj:j=k
   ·rw[if_pos hj,if_pos hj]
   ·simp only[if_neg hj]
    rw[if_neg (show ¬j=p.1 from fun e=>hj (by rw[e,h]))]
  ·rw[if_neg h]
   unfold nget
   by_cases hj:j=p.1
   ·rw[if_pos hj,if_neg (fun e=>h (by rw[←e,hj])),if_pos hj]
   ·rw[if_neg hj,if_neg hj,ih]
theorem nset_len (W:Nt) (k:Int) (v:Nat):(nset W k v).length≤W.length+1:=by
 induction W with
 | nil=>exact zD _
 | cons p W ih=>
  unfold nset
  split
  ·rw[zL,zL];omega
  ·rw[zL,zL];omega
theorem nget_mem (W:Nt) (k:Int):(nget W k).isSome=true↔k∈W.map (·.1):=by
 induction W with
 | nil=>simp[nget]
 | cons p W ih=>
  unfold nget
  by_cases h:k=p.1
  ·rw[if_pos h];simp[h]
  ·rw[if_neg h,ih];simp[h]
theorem nset_keys (k:Int) (v:Nat):∀W:Nt,(nset W k v).map (·.1)=if k∈W.map (·.1)then W.map (·.1)else W.map (·.1)++[k]
 | []=>rfl
 | p::W=>by
  unfold nset
  by_cases h:k=p.1
  ·rw[if_pos h,if_pos (by rw[h];exact mH)]
   simp[h]
  rw[if_neg h,yi,nset_keys k v W]
  by_cases h2:k∈W.map (·.1)
  ·rw[if_pos h2,if_pos (by rw[yi];exact zf _ h2)];rfl
  rw[if_neg h2,if_neg (by rw[yi,zq];exact fun e=>e.elim h h2)];rfl
theorem nset_nd {W:Nt} (h:(W.map (·.1)).Nodup) (k:Int) (v:Nat):((nset W k v).map (·.1)).Nodup:=by
 rw[nset_keys]
 split
 ·exact h
 rename_i h1
 refine y6.2 ⟨h,by simp,fun x hx y hy=>?_⟩
 rw[zi.1 hy];exact fun e=>h1 (e▸hx)
def yK (l:List Wr):Nat→Nt
 | 0=>[]
 | i+1=>nset (yK l i) (l.getD i wz).1 i
theorem lastM_len (l:List Wr):∀i,(yK l i).length≤i
 | 0=>zD _
 | i+1=>by have h1:=lastM_len l i;have h2:=nset_len (yK l i) (l.getD i wz).1 i;unfold yK;omega
theorem lastM_nd (l:List Wr):∀i,((yK l i).map (·.1)).Nodup
 | 0=>qX
 | i+1=>nset_nd (lastM_nd l i) _ _
theorem lastM_lt (l:List Wr):∀i a k,nget (yK l i) a=some k→k<i∧(l.getD k wz).1=a
 | 0,a,k,h=>by cases h
 | i+1,a,k,h=>by
  unfold yK at h
  rw[nget_set]at h
  by_cases ha:a=(l.getD i wz).1
  ·rw[if_pos ha]at h
   injection h with h
   exact⟨by omega,by rw[←h,ha]⟩
  rw[if_neg ha]at h
  have:=lastM_lt l i a k h
  exact⟨by omega,this.2⟩
def keysN (W:Nt):List Int:=srt (W.map (·.1))
theorem keysN_len (W:Nt):(keysN W).length=W.length:=by unfold keysN;rw[srt_len,zA]
theorem keysN_mem (W:Nt) (x:Int):x∈keysN W↔x∈W.map (·.1):=by unfold keysN;exact(srt_perm _).mem_iff
theorem keysN_lt {W:Nt} (h:(W.map (·.1)).Nodup):(keysN W).Pairwise (· < ·):=by
 have h1:=srt_sorted (W.map (·.1))
 have h2:(srt (W.map (·.1))).Nodup:=(srt_perm _).nodup_iff.2 h
 unfold keysN
 exact(h1.and h2).imp (fun hx=>by obtain⟨a,b⟩:=hx;omega)
def atN (l:List Wr) (W:Nt) (a:Int):Wr:=l.getD ((nget W a).getD 0) wz
def risF (l:List Wr):List Wr:=(keysN (yK l l.length)).map (atN l (yK l l.length))
theorem risF_len (l:List Wr):(risF l).length=(yK l l.length).length:=by unfold risF;rw[zA,keysN_len]
theorem atN_key {l:List Wr} {i:Nat} {a:Int} (h:a∈keysN (yK l i)):(atN l (yK l i) a).1=a:=by
 have h1:=(nget_mem _ _).2 ((keysN_mem _ _).1 h)
 unfold atN
 cases hg:nget (yK l i) a with
 | none=>rw[hg]at h1;cases h1
 | some k=>exact(lastM_lt l i a k hg).2
theorem risF_w {l:List Wr} (h:WW l):WW (risF l):=fun x hx=>by
 obtain⟨a,_,rfl⟩:=zv.1 hx
 exact h.at _
def lwF (l:List Wr) (r:Int→Option Wr):Int→Option Wr:=match l with
 | []=>r
 | w::l=>lwF l (fun a=>if w.1=a then some w else r a)
theorem lwF_app:∀(l m:List Wr) (r:Int→Option Wr),lwF (l++m) r=lwF m (lwF l r)
 | [],_,_=>rfl
 | w::l,m,r=>by show lwF (l++m) _=lwF m (lwF l _);exact lwF_app l m _
theorem lastM_lw (l:List Wr):∀i,i≤l.length→∀a,(nget (yK l i) a).map (fun k=>l.getD k wz)=lwF (l.take i) (fun _=>none) a
 | 0,_,a=>by rw[qG];rfl
 | i+1,h,a=>by
  have ih:=lastM_lw l i om a
  rw[zV om,lwF_app]
  unfold yK
  rw[nget_set]
  have e:l[i]=l.getD i wz:=by rw[zc,zd om];rfl
  rw[e]
  show _=if(l.getD i wz).1=a then some (l.getD i wz)else lwF (l.take i) (fun _=>none) a
  by_cases ha:a=(l.getD i wz).1
  ·rw[if_pos ha,if_pos ha.symm];rfl
  rw[if_neg ha,if_neg (fun e=>ha e.symm),ih]
theorem risF_mem (l:List Wr) (x:Wr):x∈risF l↔lwF l (fun _=>none) x.1=some x:=by
 have hl:=lastM_lw l l.length (zD _)
 rw[yV]at hl
 unfold risF
 rw[zv]
 constructor
 ·rintro⟨a,ha,rfl⟩
  rw[atN_key ha,←hl a]
  have h1:=(nget_mem _ _).2 ((keysN_mem _ _).1 ha)
  unfold atN
  cases hg:nget (yK l l.length) a with
  | none=>rw[hg]at h1;cases h1
  | some k=>rfl
 intro h
 refine⟨x.1,?_,?_⟩
 ·rw[keysN_mem,←nget_mem]
  rw[←hl]at h
  cases hg:nget (yK l l.length) x.1 with
  | none=>rw[hg]at h;cases h
  | some k=>rfl
 rw[←hl]at h
 unfold atN
 cases hg:nget (yK l l.length) x.1 with
 | none=>rw[hg]at h;cases h
 | some k=>rw[hg]at h;exact Option.some.inj h
def Rise (l:List Wr):Prop:=l.Pairwise fun a b=>a.1<b.1
theorem risF_rise (l:List Wr):Rise (risF l):=by
 unfold Rise risF
 rw[List.pairwise_map]
 have h:=keysN_lt (lastM_nd l l.length)
 refine List.Pairwise.imp_of_mem ?_ h
 intro a b ha hb hab
 rw[atN_key ha,atN_key hb];exact hab
structure JS where
 why:Int
 num:Nat
 D:DK
def badW (D:DK) (w:Wr):Bool:=decide (w.1<97) || decide ((D.last.length:Int)≤w.1)
def transF (D:DK) (n:Nat) (l:List Wr):Int×DK:=laysF D (stagesF n l)
def yZ (J:JS) (l:List Wr):Int×JS:=
 if J.why≠0 then(J.why,J)else if l.any (badW J.D)=true then(2,J)
 else if 96<(risF l).length then(15,J)else if(risF l).length=0 then(0,J)
 else if(transF J.D ((J.num+1)%18446744073709551616) (risF l)).1≠0 then((transF J.D ((J.num+1)%18446744073709551616) (risF l)).1,⟨(transF J.D ((J.num+1)%18446744073709551616) (risF l)).1,J.num,(transF J.D ((J.num+1)%18446744073709551616) (risF l)).2⟩)
 else(0,⟨0,(J.num+1)%18446744073709551616,(transF J.D ((J.num+1)%18446744073709551616) (risF l)).2⟩)
def jblk (D:DK) (i:Nat):List (List UInt8):=(List.range i).map fun(k:Nat)=>zR D ((k+1:Nat):Int)
theorem jblk_len (D:DK) (i:Nat):(jblk D i).length=i:=by unfold jblk;rw[zA,qk]
theorem jblk_next (D:DK) (i:Nat):jblk D (i+1)=jblk D i++[zR D ((i+1:Nat):Int)]:=by unfold jblk;rw[qc,yf];rfl
def jrows (D:DK):List (List UInt8):=jblk D (min 97 D.last.length-1)
def inD (D:DK) (l:List Wr):List Wr:=l.filter fun w=>!decide (w.1≥(D.last.length:Int))
def openG (D:DK):Bool:=parG (zR D 0) (jrows D)
def openL (D:DK):List Wr:=inD D (parL (zR D 0) (jrows D))
def openF (D:DK):Int×Nat×DK:=
 if fltF D 0≠0 then(fltF D 0,0,D)else if openG D=false then(0,0,D)
 else if(layF D (openL D)).1≠0 then((layF D (openL D)).1,0,(layF D (openL D)).2) else(0,parN (zR D 0) (jrows D),(layF D (openL D)).2)
theorem flt_all {D:DK} (h:fltF D 0=0) {q:Int} (hq:0≤q∧q<(D.last.length:Int)):fltF D q=0:=by
 unfold fltF at h ⊢
 split at h
 ·rename_i h1;rw[if_pos h1];exact h
 rename_i h1;rw[if_neg h1,if_pos hq]
end
section
open K
def newD (n:Nat):DK:={fuse:=-1,steps:=0,down:=false,last:=replicate n zb,wait:=[]}
theorem w5_rep (n:Nat):W5 (replicate n zb):=fun b hb=>by rw[List.eq_of_mem_replicate hb];exact qA
theorem DG.new {n:Nat} (hn:n≤4096):DG (newD n):=
 ⟨w5_rep n,(fun _ hp=>by cases hp),(fun _ hp=>by cases hp),by show(replicate n zb).length≤_;rw[zk];exact hn,qX,⟨by show(-1:Int)≤ -1;decide,by show(-1:Int)≤9223372036854775807;decide⟩⟩
theorem rep_rows_len (n:Nat):(rows (replicate n zb)).length=n*512:=by rw[rows_len (w5_rep n),zk]
theorem rep_rows_get {n i:Nat} (h:i<n*512):(rows (replicate n zb))[i]? = some (.int .u8 0):=by
 have h1:=rows_get (w5_rep n) (i:=i / 512) (j:=i%512) (by rw[zk];omega) om
 rw[show i / 512*512+i%512=i by omega]at h1
 rw[h1]
 have e1:(replicate n zb).getD (i / 512) zb=zb:=by
  rw[zc,qh];split <;> rfl
 have e2:∀j:Nat,zb.getD j 0=0:=fun j=>by
  unfold zb;rw[zc,qh];split <;> rfl
 rw[e1,e2];rfl
theorem bvz_get:∀j:Nat,j<512→(Value.agg (bv (replicate 512 0))).cells[j]! = .int .u8 0:=fun j hj=>by
 show(bv (replicate 512 0))[j]! = _
 have h1:=bv_get (l:=replicate 512 0) (n:=512) (by exact zk) hj
 rw[getElem!_def,h1]
 have e2:(replicate 512 (0:UInt8)).getD j 0=0:=by
  rw[zc,qh];split <;> rfl
 rw[e2];rfl
theorem run_mkRows {w:World} {n:Nat} (h0:0<n) (hn:n≤4096):(Instr.makeSlice 71 (.int .i64 (n:Int)) (.int .i64 (n:Int))).run Tryz.prog w=.ok (.slice (some ⟨w.heap.size,0,none⟩) n n) (w.alloc (.cells (rows (replicate n zb)).toArray 37 (0,0))):=by
 have hi:(Tryz.prog.info? 37).map (fun i=>(i.size,i.zero))=some (512,some (.agg (bv (replicate 512 0)))):=by kernel_rfl
 have hby:(Tryz.prog.info? 37).map (fun i=>i.bytes)=some 512:=by kernel_rfl
 obtain⟨inf,hinf,he⟩:=zZ.1 hi
 rw[hinf]at hby
 simp only[Prod.mk.injEq]at he
 have hb:inf.bytes=512:=Option.some.inj hby
 refine run_mkZ (L:=rows (replicate n zb)) (z:=.agg (bv (replicate 512 0))) Tryz.underlying71 hinf he.2 (by rw[he.1];exact(zP _).trans zk) (by rw[he.1];omega) om om (by rw[he.1];exact rep_rows_len n) (fun i hi=>?_)
 rw[he.1]at hi ⊢
 rw[rep_rows_get hi,bvz_get _ om]
structure RK where
 shown:List (List UInt8)
 last:List (List UInt8)
 waits:List Bool
 done:Int
 fuse:Int
 down:Bool
structure RM where
 r:Nat
 sb:Nat
 lb:Nat
 wb:Nat
def rCx9 (Q:RK) (m:RM):Array Value:=#[.slice (some ⟨m.sb,0,none⟩) Q.shown.length Q.shown.length,.slice (some ⟨m.lb,0,none⟩) Q.last.length Q.last.length,.slice (some ⟨m.wb,0,none⟩) Q.waits.length Q.waits.length,.int .i64 Q.done,.int .i64 Q.fuse,.bool Q.down]
theorem dNew (n:Nat) (w:World) (hn:64≤n∧n≤4096) :
  Calls Tryz.prog 7 #[.int .i64 (n:Int)] w fun e w'=>∃y:DM×MX,MapOk y.2.1 y.2.2 []∧e=.returned (.tuple #[.pointer (some ⟨y.1.d,0,none⟩),.int .i64 0])∧∃R1,HP w [] R1 (dO (newD n) y.1 y.2) w':=by
 refine enter [] [] [] Tryz.func7 rfl kr (yy w) ?_
 refine Rq [0] ?_
 refine Rq [0,9] ?_
 refine yb rfl (b:=((decide ((n:Int)<(64:Int))) || (decide ((n:Int)>(4096:Int))))) kr (Bool.or_eq_false_iff.2 ⟨decide_eq_false om,decide_eq_false om⟩) ?_
 refine Bp 2 [(dS (.agg #[.int .i64 (-1),.int .i64 0,.bool false]))] (some [10,11]) (fun S=>[(∀w1,S w1→(Instr.build 70 #[(0,.int .i64 (-1))]).run Tryz.prog w1=.ok (.agg #[.int .i64 (-1),.int .i64 0,.bool false]) w1)]) ⟨(fun _ _=>kr),trivial⟩ ?_
 refine Le (Eff.makeRow (e:=37) (n:=n) (cells:=(rows (replicate n zb)).toArray) (v1:=iN n) (v2:=iN n) rfl kr kr (fun w1=>run_mkRows om om)) ?_
 rintro lb ⟨hlb,nlb⟩
 refine Le (Eff.mapNew rfl) ?_
 rintro mb ⟨hmb,nmb⟩
 refine Lp 2 [(dS (.agg #[sP lb 0 n n,.map (some mb)])),(dS (.agg #[.int .i64 (-1),.int .i64 0,.bool false,sP lb 0 n n,.map (some mb)]))] (some [15]) (fun S=>[(∀w1,S w1→(Instr.build 74 #[(0,sP lb 0 n n),(1,.map (some mb))]).run Tryz.prog w1=.ok (.agg #[sP lb 0 n n,.map (some mb)]) w1),(∀w1,S w1→(Instr.build 76 #[(0,.agg #[.int .i64 (-1),.int .i64 0,.bool false]),(1,.agg #[sP lb 0 n n,.map (some mb)])]).run Tryz.prog w1=.ok (.agg #[.int .i64 (-1),.int .i64 0,.bool false,sP lb 0 n n,.map (some mb)]) w1)]) ⟨(fun _ _=>kr),(fun _ _=>kr),trivial⟩ ?_
 refine Le (y7 (v:=.agg #[.int .i64 (-1),.int .i64 0,.bool false,sP lb 0 n n,.map (some mb)]) rfl kr) ?_
 rintro d ⟨hd,nd⟩
 refine Ld 2 [2,3] ?_
 refine yD rfl (rs:=[.tmp 2,.tmp 3]) rfl [pT d,.int .i64 0] ⟨kr,by kernel_rfl,trivial⟩ (fun w1 hp=>?_)
 refine⟨(⟨d,lb,mb⟩,(#[],0)),MapOk.empty _,rfl,[],?_⟩
 have h9:=hp.perm (List.Perm.cons _ (List.Perm.swap _ _ _))
 show HP w [] [] [(d,Obj.cells #[.int .i64 (-1),.int .i64 0,.bool false,.slice (some ⟨lb,0,none⟩) (replicate n zb).length (replicate n zb).length,.map (some mb)] 76 (0,0)),(lb,Obj.cells (rows (replicate n zb)).toArray 37 (0,0)),(mb,Obj.map #[] 0)] w1
 rw[show(replicate n zb).length=n from zk]
 exact h9
end
section
open K
theorem drop_getD {l:List Wr} {i:Nat} (h:i<l.length):l.drop i=l.getD i wz::l.drop (i+1):=by
 rw[yn h,zc,zd h];rfl
theorem layF_stop {E:DK} {l:List Wr} {i:Nat} (h:i<l.length) (he:(qB E (l.getD i wz).1 (l.getD i wz).2).1≠0):layF E (l.drop i)=qB E (l.getD i wz).1 (l.getD i wz).2:=by
 rw[drop_getD h,layF,if_pos he]
theorem layF_go {E:DK} {l:List Wr} {i:Nat} (h:i<l.length) (he:(qB E (l.getD i wz).1 (l.getD i wz).2).1=0):layF E (l.drop i)=layF (qB E (l.getD i wz).1 (l.getD i wz).2).2 (l.drop (i+1)):=by
 rw[drop_getD h,layF,if_neg (fun e=>e he)]
theorem jLost (jb:Nat) (why:Int) (num:Nat) (m:DM) (w:World) (hR:Has w [(jb,Obj.cells #[.int .i64 why,.pointer (some ⟨m.d,0,none⟩),.int .u64 (num:Int)] 143 (0,0))]) :
  Calls Tryz.prog 65 #[.pointer (some ⟨jb,0,none⟩)] w fun e w'=>e=.returned (.bool (why != (0:Int)))∧Ext [] w w':=by
 refine enter [] [cl jb #[.int .i64 why,pT m.d,.int .u64 (num:Int)] 143] [] Tryz.func65 rfl kr (yj hR) ?_
 refine Rq [0] ?_
 refine Rg [2] [dZ,dZ,dZ,(dS (.int .i64 why))] (fun S=>[(cE S jb 0 (.int .i64 why))]) ⟨(rC 0 rfl rfl),trivial⟩ ?_
 refine Rt [.bool (why != (0:Int))] (fun w1 hp=>?_)
 exact⟨rfl,hp.ext⟩
theorem jNumber (jb:Nat) (why:Int) (num:Nat) (m:DM) (x:MX) (D:DK) (w:World) (hR:Has w ((jb,Obj.cells #[.int .i64 why,.pointer (some ⟨m.d,0,none⟩),.int .u64 (num:Int)] 143 (0,0))::dO D m x)) :
  Calls Tryz.prog 96 #[.pointer (some ⟨jb,0,none⟩)] w fun e w'=>e=.returned (.int .u64 (num:Int))∧Ext [] w w':=by
 refine enter [] ((cl jb #[.int .i64 why,pT m.d,.int .u64 (num:Int)] 143)::dO D m x) [] Tryz.func96 rfl kr (yj hR) ?_
 refine Rq [0] ?_
 refine Rq [0,4] ?_
 refine yb rfl (b:=false) kr rfl ?_
 refine Rg [2] [dZ,dZ,dZ,(dS (.int .u64 (num:Int)))] (fun S=>[(cE S jb 2 (.int .u64 (num:Int)))]) ⟨(rC 0 rfl rfl),trivial⟩ ?_
 refine Rt [.int .u64 (num:Int)] (fun w1 hp=>?_)
 exact⟨rfl,hp.ext⟩
theorem jErr (jb:Nat) (why:Int) (num:Nat) (m:DM) (x:MX) (D:DK) (w:World) (hR:Has w ((jb,Obj.cells #[.int .i64 why,.pointer (some ⟨m.d,0,none⟩),.int .u64 (num:Int)] 143 (0,0))::dO D m x)) :
  Calls Tryz.prog 57 #[.pointer (some ⟨jb,0,none⟩)] w fun e w'=>e=.returned (.int .i64 why)∧Ext [] w w':=by
 refine enter [] ((cl jb #[.int .i64 why,pT m.d,.int .u64 (num:Int)] 143)::dO D m x) [] Tryz.func57 rfl kr (yj hR) ?_
 refine Rq [0] ?_
 refine Rq [0,4] ?_
 refine yb rfl (b:=false) kr rfl ?_
 refine Rg [2] [dZ,dZ,dZ,dZ,(dS (.int .i64 why))] (fun S=>[(cE S jb 0 (.int .i64 why))]) ⟨(rC 0 rfl rfl),trivial⟩ ?_
 refine Rt [.int .i64 why] (fun w1 hp=>?_)
 exact⟨rfl,hp.ext⟩
theorem jSectors (jb:Nat) (why:Int) (num:Nat) (m:DM) (x:MX) (D:DK) (w:World) (hR:Has w ((jb,Obj.cells #[.int .i64 why,.pointer (some ⟨m.d,0,none⟩),.int .u64 (num:Int)] 143 (0,0))::dO D m x)) :
  Calls Tryz.prog 31 #[.pointer (some ⟨jb,0,none⟩)] w fun e w'=>e=.returned (.int .i64 (D.last.length:Int))∧Ext [] w w':=by
 refine enter [] ((cl jb #[.int .i64 why,pT m.d,.int .u64 (num:Int)] 143)::dO D m x) [] Tryz.func31 rfl kr (yj hR) ?_
 refine Rq [0] ?_
 refine Rq [0,4] ?_
 refine yb rfl (b:=false) kr rfl ?_
 refine Bp 4 [dZ,dZ,dZ,(dS (pT m.d))] (some [8]) (fun S=>[(cE S jb 1 (pT m.d))]) ⟨(rC 0 rfl rfl),trivial⟩ ?_
 refine Lu (zr (iN D.last.length) rfl Tryz.func60 rfl rfl kr (fun w1 h=>dSectors m x D w1 (h.hasR (fun e he=>zf _ he)))) ?_
 refine Ld 1 [2] ?_
 refine Rt [iN D.last.length] (fun w1 hp=>?_)
 exact⟨rfl,hp.ext⟩
theorem jRead (jb:Nat) (why:Int) (num:Nat) (m:DM) (x:MX) (D:DK) (q:Int) (w:World) (hg:DG D) (hmo:MapOk x.1 x.2 (wv2 D.wait)) (hR:Has w ((jb,Obj.cells #[.int .i64 why,.pointer (some ⟨m.d,0,none⟩),.int .u64 (num:Int)] 143 (0,0))::dO D m x)) :
  Calls Tryz.prog 33 #[.pointer (some ⟨jb,0,none⟩),.int .i64 q] w fun e w'=>e=.returned (.tuple #[.agg (bv (if why≠0 then zb else zR D q)),.int .i64 (if why≠0 then why else fltF D q)])∧Ext [] w w':=by
 refine enter [] ((cl jb #[.int .i64 why,pT m.d,.int .u64 (num:Int)] 143)::dO D m x) [] Tryz.func33 rfl kr (yj hR) ?_
 refine Be rfl rfl (zM (z:=(.agg (bv (replicate 512 0)))) rfl kr) ?_
 rintro rs ⟨hrs,nrs⟩
 refine Ld 1 [0,1,4] ?_
 refine Rq [0,1,4,7] ?_
 refine yb rfl (b:=false) kr rfl ?_
 refine Bq 3 [0,1,4,11] ?_
 refine Lu (zr (.bool (why != (0:Int))) rfl Tryz.func65 rfl rfl kr (fun w1 h=>jLost jb why num m w1 (h.hasR (fun e he=>by rw[zi.1 he];exact mH)))) ?_
 refine zg rfl ?_
 refine Cg (Γ':=[(12,[],.bool (why != (0:Int))),(4,[],pT rs),(0,[],pT jb),(1,[],.int .i64 q)]) ?_
 refine zX rfl (b:=(why != (0:Int))) kr (fun c2r=>?_) (fun c2r=>?_)
 ·have c2:=(bne_iff_ne.1 c2r)
  refine yo rfl kr [] ?_
  refine Ap [0,1,2,3,4,5] [(dS (.agg (bv (replicate 512 0)))),dZ,dZ,dZ,dZ,(dS (.int .i64 why))] (some [4,13,18]) (tF 6 2) (.cons _ .slnil) 2 (fun S=>[(∀w1,S w1→(Instr.build 37 #[]).run Tryz.prog w1=.ok (.agg (bv (replicate 512 0))) w1),(cE S jb 0 (.int .i64 why))]) ⟨(fun _ _=>kr),(rC 0 rfl rfl),trivial⟩ ?_
  refine Au 6 rfl 1  (zC (b:=rs) (off:=0) (vs:=(bv (replicate 512 0))) (n:=512) rfl kr kr kr ((zP _).trans (zk)) (qF _) 0 (cs:=(bv (replicate 512 0))) (e:=37) kr (by rw[zsz512];omega)) (fun _ _=>zz _) ?_
  refine oA 0 rfl (show _=(bv (replicate 512 0))from yx (((zP _).trans (zk)).trans zsz512.symm)) ?_
  refine Ap [7] [] (some [4,5]) (tF 8 0) (.cons _ .slnil) 0 n0 trivial ?_
  refine z6 kr ?_
  refine yD rfl (rs:=[.cell 4 37,.tmp 5]) rfl [.agg (bv (replicate 512 0)),.int .i64 why] ⟨⟨_,by kernel_rfl,(fun w1 h=>h.oload 0 rfl Tryz.underlying37 rfl (n:=512) kr ((zP _).trans (zk)))⟩,by kernel_rfl,trivial⟩ (fun w1 hp=>?_)
  exact⟨by rw[if_pos c2,if_pos c2];rfl,hp.ext⟩
 have c2:=(bne_eq_false_iff_eq.1 c2r)
 refine Bp 5 [dZ,dZ,dZ,(dS (pT m.d))] (some [4,22,23]) (fun S=>[(cE S jb 1 (pT m.d))]) ⟨(rC 0 rfl rfl),trivial⟩ ?_
 refine Lu (zr (.tuple #[.agg (bv (zR D q)),.int .i64 (fltF D q)]) rfl Tryz.func10 rfl rfl kr (fun w1 h=>dRead m x D q w1 hg hmo (h.hasR (fun e he=>zf _ he)))) ?_
 refine Lq 2 [4,25,26] ?_
 refine Lu (zC (b:=rs) (off:=0) (vs:=(bv (zR D q))) (n:=512) rfl kr kr kr ((zP _).trans (yO hg _)) (qF _) 0 (cs:=(bv (replicate 512 0))) (e:=37) kr (by rw[zsz512];omega)) ?_
 refine oL 0 rfl (show _=(bv (zR D q))from yx (((zP _).trans (yO hg _)).trans zsz512.symm)) ?_
 refine Ld 1 [4,5] ?_
 refine yD rfl (rs:=[.cell 4 37,.tmp 5]) rfl [.agg (bv (zR D q)),.int .i64 (fltF D q)] ⟨⟨_,by kernel_rfl,(fun w1 h=>h.oload 0 rfl Tryz.underlying37 rfl (n:=512) kr ((zP _).trans (yO hg _)))⟩,by kernel_rfl,trivial⟩ (fun w1 hp=>?_)
 exact⟨by rw[if_neg (fun h=>h c2),if_neg (fun h=>h c2)];rfl,hp.ext⟩
theorem jLay (jb:Nat) (why:Int) (num:Nat) (m:DM) (x:MX) (D:DK) (la:Option Addr) (cap:Nat) (l:List Wr) (Rl:List (Nat×Obj)) (w:World) (hg:DG D) (hA:Has w (dO D m x)) (hd:((dO D m x).map (·.1)).Nodup) (hI:InW Rl la l) (hW:WW l) (hl:l.length≤100000) (hs:0≤D.steps∧D.steps≤4611686018427000000) (hmo:MapOk x.1 x.2 (wv2 D.wait)) (hR:Has w ((jb,Obj.cells #[.int .i64 why,.pointer (some ⟨m.d,0,none⟩),.int .u64 (num:Int)] 143 (0,0))::Rl)) (hnr:∀e∈(jb,Obj.cells #[.int .i64 why,.pointer (some ⟨m.d,0,none⟩),.int .u64 (num:Int)] 143 (0,0))::Rl,e.1∉(dO D m x).map (·.1)) :
  Calls Tryz.prog 64 #[.pointer (some ⟨jb,0,none⟩),.slice la l.length cap] w fun e w'=>∃x2:MX,MapOk x2.1 x2.2 (wv2 (layF D l).2.wait)∧e=.returned (.int .i64 (layF D l).1)∧∃R1,HP w ((dO D m x).map (·.1)) R1 (dO (layF D l).2 m x2) w':=by
 refine enter ((dO D m x).map (·.1)) ((cl jb #[.int .i64 why,pT m.d,.int .u64 (num:Int)] 143)::Rl) ([]++(dO D m x++[])) Tryz.func64 rfl kr (by rw[zm];exact HP.ofL hA hd hR hnr) ?_
 refine Rq [0,1] ?_
 refine Rq [0,8,9,10] ?_
 refine ye rfl (ι:=Nat×DK×MX) (fun(i,E,y)=>[(10,[],iN i),(9,[],iN l.length),(8,[],.slice la l.length cap),(0,[],pT jb)]) (fun(i,E,y)=>([]++(dO E m y++[]))) (fun(i,E,y)=>(i≤l.length)∧(DG E)∧(MapOk y.1 y.2 (wv2 E.wait))∧(D.steps≤E.steps∧E.steps≤D.steps+(i:Int))∧(layF E (l.drop i)=layF D l)) (fun(i,E,y)=>l.length-i) (0,D,x) ?_ (Conv.mk kr) slr ?_
 ·exact⟨zH _,hg,hmo,⟨by omega,by omega⟩,by rw[List.drop_zero]⟩
 rintro⟨i,E,y⟩ ⟨hi,hgE,hmo_y,hsE,hlE⟩
 have hst:0≤E.steps∧E.steps≤4611686018427387904:=by omega
 refine Rq [0,8,9,10,11] ?_
 refine eC rfl (p:=((i:Int)<(l.length:Int))) kr (fun c1=>?_) (fun c1=>?_)
 ·obtain⟨sb,off,cs,te,fre,rfl,hmem,hcs⟩:=hI om
  refine y9 (Γ':=[(11,[],.bool (decide ((i:Int)<(l.length:Int)))),(10,[],iN i),(9,[],iN l.length),(8,[],sP sb off l.length cap),(0,[],pT jb)]) (Conv.mk kr) ?_
  refine Bp 2 [dZ,(dS (.agg (jc (l.getD i wz)).toArray))] (some [0,8,9,10,13]) (fun S=>[(0≤(i:Int)∧(i:Int)<(l.length:Int)),(∀w1,S w1→(loadVar 101 ⟨sb,(addO off (i*513)),none⟩).run Tryz.prog w1=.ok (.agg (jc (l.getD i wz)).toArray) w1)]) ⟨om,(fun w1 h=>yw Tryz.underlying101 rfl kr (yl (hW.at i)) (fun j v hj=>by rw[y4];exact(zI (h.ro _ (zf _ hmem))).trans (wr_cell hW hcs om hj))),trivial⟩ ?_
  refine Le (zM (z:=(.agg (jc wz).toArray)) rfl kr) ?_
  rintro wb ⟨hwb,nwb⟩
  refine Lu (zC (b:=wb) (off:=0) (vs:=(jc (l.getD i wz)).toArray) (n:=513) rfl kr kr kr (by rw[zp,yl (hW.at i)]) (jc_all _) 0 (cs:=(jc wz).toArray) (e:=101) kr (by show 0+513≤(jc wz).toArray.size;rw[zp,yl qA];decide)) ?_
  refine yF (congrArg (fun(xq:Array Value)=>(([cl wb xq 101]++(dO E m y++[])):LO)) (show _=((jc (l.getD i wz)).toArray)from yx (by rw[zp,zp,yl (hW.at i)];exact(yl qA).symm))) ?_
  refine zg rfl ?_
  refine Cg (Γ':=[(6,[],pT wb),(10,[],iN i),(9,[],iN l.length),(8,[],sP sb off l.length cap),(0,[],pT jb)]) ?_
  refine yo rfl kr [cl wb ((jc (l.getD i wz)).toArray) 101] ?_
  refine Ap (List.range 8) [dZ,dZ,dZ,(dS (.pointer (some ⟨m.d,0,none⟩))),dZ,(dS (.int .i64 ((l.getD i wz).1))),dZ,(dS (.agg (bv (l.getD i wz).2)))] (some [0,8,9,10,17,19,21]) (tF 8 2) (.cons_cons _ (zz _)) 2 (fun S=>[(cE S jb 1 (.pointer (some ⟨m.d,0,none⟩))),(cE S wb 0 (.int .i64 ((l.getD i wz).1))),(∀w1,S w1→(loadVar 37 ⟨wb,1,none⟩).run Tryz.prog w1=.ok (.agg (bv (l.getD i wz).2)) w1)]) ⟨(rC 0 rfl rfl),(oC 0 rfl rfl),(fun w1 h=>load_bytes Tryz.underlying37 rfl kr (hW.at i) (fun j hj=>by rw[zI (h.own (wb,_) (mG 0 rfl)),zo];exact jc_byte (hW.at i) hj)),trivial⟩ ?_
  refine Ae 8 rfl 1  (zY (fun _:MX=>.int .i64 ((qB E ((l.getD i wz).1) ((l.getD i wz).2)).1)) (dO E m y) (fun y=>dO ((qB E ((l.getD i wz).1) ((l.getD i wz).2)).2) m y) (fun y=>MapOk y.1 y.2 (wv2 ((qB E ((l.getD i wz).1) ((l.getD i wz).2)).2).wait)) [cl wb ((jc (l.getD i wz)).toArray) 101] [] rfl rfl Tryz.func11 rfl rfl kr (fun w1 h hA hd=>dWrite m y E ((l.getD i wz).1) ((l.getD i wz).2) w1 hgE hmo_y hA hd (hW.at i) hst)) (fun _ _=>(cO nL)) ?_
  rintro x1 hmo_x1
  refine Ap [9] [] (some [0,7,8,9,10]) (tF 10 0) (cO nL) 0 n0 trivial ?_
  refine z6 kr ?_
  refine Rq [0,7,8,9,10,24] ?_
  refine zX rfl (b:=(((qB E ((l.getD i wz).1) ((l.getD i wz).2)).1) != (0:Int))) kr (fun c2r=>?_) (fun c2r=>?_)
  ·have c2:=(bne_iff_ne.1 c2r)
   refine Rq [4] ?_
   refine Rt [.int .i64 ((qB E ((l.getD i wz).1) ((l.getD i wz).2)).1)] (fun w1 hp=>?_)
   have hx:layF D l=qB E (l.getD i wz).1 (l.getD i wz).2:=by rw[←hlE];exact layF_stop om om
   rw[hx]
   have h9:=hp.sub (zj _ _)
   rw[zm]at h9
   exact⟨x1,hmo_x1,rfl,_,h9⟩
  have c2:=(bne_eq_false_iff_eq.1 c2r)
  refine Rg [0,8,9,10] [] (fun _=>[(i6 ((i:Int)+1))]) ⟨om,trivial⟩ ?_
  have hws:=writeF_steps E (l.getD i wz).1 (l.getD i wz).2
  have hgo:=layF_go (E:=E) (l:=l) (i:=i) om om
  refine zG rfl (i+1,(qB E (l.getD i wz).1 (l.getD i wz).2).2,x1) ⟨by omega,hgE.write _ (hW.at i),hmo_x1,by omega,hgo▸hlE⟩ (by show l.length-(i+1)<l.length-i;omega) (Conv.mk kr) (.cons _ slr)
 refine Bp 4 [dZ,dZ,dZ,(dS (pT m.d))] (some [30]) (fun S=>[(cE S jb 1 (pT m.d))]) ⟨(rC 0 rfl rfl),trivial⟩ ?_
 refine Le (zY (fun _:MX=>.int .i64 ((barF E).1)) (dO E m y) (fun y=>dO ((barF E).2) m y) (fun y=>MapOk y.1 y.2 (wv2 ((barF E).2).wait)) [] [] rfl rfl Tryz.func104 rfl rfl kr (fun w1 h hA hd=>dBarrier m y E w1 hgE hmo_y hA hd hst)) ?_
 rintro x2 hmo_x2
 refine Ld 1 [4] ?_
 refine Rt [.int .i64 ((barF E).1)] (fun w1 hp=>?_)
 have hx:layF D l=barF E:=by rw[←hlE,qe om];rfl
 rw[hx]
 have h9:=hp.sub (zj _ _)
 rw[zm]at h9
 exact⟨x2,hmo_x2,rfl,_,h9⟩
end
end Go.Proofs.YtfgdepggdiibdaaGreatDoor