/- Texts on which the proof of this claim stands: Jp3, Jp4, Jp5, Jp6, Fl5, K25, Fl6, Fl7. -/
import Derived.Test.YtfgdepggdiibdaaGreatDoorP5
import Derived.Test.YtfgdepggdiibdaaGreatDoorP2
import Derived.Test.YtfgdepggdiibdaaGreatDoorP3
import Derived.Test.YtfgdepggdiibdaaGreatDoorP1
set_option linter.unusedVariables false
set_option maxRecDepth 100000
set_option maxHeartbeats 8000000
namespace Go.Proofs.YtfgdepggdiibdaaGreatDoor
open List (replicate)
section
open K
theorem ktK:KT (wv Kc):=fun t h=>kget h
theorem lay_has {w0 w:World} {M:List Nat} {R Rl L S A:List (Nat×Obj)} {jb:Nat×Obj} (h:HP w0 M R (L++(S++(A++[]))) w) (hj:jb∈R) (hl:∀e∈Rl,e∈R):Has w (jb::((L++S)++Rl)):=fun e he=>by
 rcases zq.1 he with rfl|he
 ·exact h.ro _ hj
 rcases yG.1 he with he|he
 ·refine h.own _ ?_
  rcases yG.1 he with he|he
  ·exact mL he
  exact mR (mL he)
 exact h.ro _ (hl e he)
theorem own_apart {w0 w:World} {M:List Nat} {R L S A:List (Nat×Obj)} (h:HP w0 M R (L++(S++(A++[]))) w):∀e∈L++S,e.1∉A.map (·.1):=fun e he hm=>by
 obtain⟨e2,h2,h3⟩:=zv.1 hm
 have hd:=h.dist
 rw[←zO,yf]at hd
 have h4:=(y6.1 hd).2.2 e.1 (zv.2 ⟨e,he,rfl⟩) e2.1 (zv.2 ⟨e2,mL h2,rfl⟩)
 exact h4 h3.symm
theorem lay_apart {w0 w:World} {M:List Nat} {R Rl L S A:List (Nat×Obj)} {jb:Nat×Obj} (h:HP w0 M R (L++(S++(A++[]))) w) (hj:jb∈R) (hl:∀e∈Rl,e∈R):∀e∈jb::((L++S)++Rl),e.1∉A.map (·.1):=fun e he hm=>by
 rcases zq.1 he with rfl|he
 ·obtain⟨e2,h2,h3⟩:=zv.1 hm
  exact h.away (mR (mR (mL h2))) hj h3
 rcases yG.1 he with he|he
 ·exact own_apart h e he hm
 obtain⟨e2,h2,h3⟩:=zv.1 hm
 exact h.away (mR (mR (mL h2))) (hl e he) h3
theorem cpy_jv (l:List Wr) (i:Nat):jv (cpy l i)++jc ((i:Int)+1,(l.getD i wz).2)=jv (cpy l (i+1)):=by
 rw[cpy_next,jv_app,jv_one];rfl
theorem inW_one (b:Nat) (a:Wr) (ha:a.2.length=512) (t:TypeId):InW [(b,.cells (jc a).toArray t (0,0))] (some ⟨b,0,none⟩) [a]:=by
 intro _
 refine⟨b,0,_,t,(0,0),rfl,zi.2 rfl,fun j hj=>?_⟩
 rw[q6,Nat.one_mul]at hj
 rw[zF,jv_one,zo]
 show(jc a)[j]? = some ((jc a).getD j undef)
 rw[zc,zd (by rw[yl ha];exact hj)];rfl
theorem inW_own1 {o:K.Own} {e:TypeId} {l:List Wr} (hok:OwnOk o 513 l.length (jv l)):InW (o.o e (jv l)) o.a l:=inW_own hok
theorem laysF_stop {E:DK} {ls:List (List Wr)} {k:Nat} (h:k<ls.length) (he:(layF E (ls.getD k [])).1≠0):laysF E (ls.drop k)=layF E (ls.getD k []):=by
 rw[yn h,laysF]
 rw[zc,zd h]at he ⊢
 exact if_pos he
theorem laysF_go {E:DK} {ls:List (List Wr)} {k:Nat} (h:k<ls.length) (he:(layF E (ls.getD k [])).1=0):laysF E (ls.drop k)=laysF (layF E (ls.getD k [])).2 (ls.drop (k+1)):=by
 rw[yn h,laysF]
 rw[zc,zd h]at he ⊢
 exact if_neg (fun e=>e he)
theorem W5.atS {ls:List (List Wr)} (h:∀l∈ls,WW l) (k:Nat):WW (ls.getD k []):=by
 rw[zc]
 by_cases hk:k<ls.length
 ·rw[zd hk];exact h _ (qr hk)
 rw[qn om];exact WW.nil
theorem jTrans (jb:Nat) (why:Int) (num:Nat) (m:DM) (x:MX) (D:DK) (n:Nat) (la:Option Addr) (cap:Nat) (l:List Wr) (Rl:List (Nat×Obj)) (t0:TypeId) (fr0:Nat×Nat) (w:World) (hnu:n<18446744073709551616) (hg:DG D) (hA:Has w (dO D m x)) (hd:((dO D m x).map (·.1)).Nodup) (hI:InW Rl la l) (hW:WW l) (hl:l.length≤96) (hcl:l.length≤cap) (hs:0≤D.steps∧D.steps≤4611686018426000000) (hmo:MapOk x.1 x.2 (wv2 D.wait)) (hR:Has w ((jb,Obj.cells #[.int .i64 why,.pointer (some ⟨m.d,0,none⟩),.int .u64 (num:Int)] 143 (0,0))::(1,Obj.cells (wv Kc) t0 fr0)::Rl)) (hnr:∀e∈(jb,Obj.cells #[.int .i64 why,.pointer (some ⟨m.d,0,none⟩),.int .u64 (num:Int)] 143 (0,0))::(1,Obj.cells (wv Kc) t0 fr0)::Rl,e.1∉(dO D m x).map (·.1)) :
  Calls Tryz.prog 82 #[.pointer (some ⟨jb,0,none⟩),.int .u64 (n:Int),.slice la l.length cap] w fun e w'=>∃x2:MX,MapOk x2.1 x2.2 (wv2 (transF D n l).2.wait)∧e=.returned (.int .i64 (transF D n l).1)∧∃R1,HP w ((dO D m x).map (·.1)) R1 (dO (transF D n l).2 m x2) w':=by
 obtain⟨st4,hst4⟩:∃s,s=stagesF n l:=⟨_,rfl⟩
 have hsl:st4.length=4:=by rw[hst4];rfl
 have hsw:∀s∈st4,WW s:=hst4▸stages_w hW n
 unfold transF
 rw[←hst4]
 refine enter ((dO D m x).map (·.1)) ((cl jb #[.int .i64 why,pT m.d,.int .u64 (num:Int)] 143)::(1,Obj.cells (wv Kc) t0 fr0)::Rl) ([]++(dO D m x++[])) Tryz.func82 rfl kr (by rw[zm];exact HP.ofL hA hd hR hnr) ?_
 refine Rq [0,1,2] ?_
 refine Rq [0,1,2,7] ?_
 refine Rq [0,1,2,7,13,14,15] ?_
 refine ye rfl (ι:=Nat×K.Own) (fun(i,oc)=>[(15,[],iN i),(14,[],iN l.length),(13,[],.slice la l.length cap),(7,[],sO oc i),(0,[],pT jb),(1,[],.int .u64 (n:Int)),(2,[],.slice la l.length cap)]) (fun(i,oc)=>([]++(Own.o 101 (jv (cpy l i)) oc++(dO D m x++[])))) (fun(i,oc)=>(i≤l.length)∧(OwnOk oc 513 i (jv (cpy l i)))) (fun(i,oc)=>l.length-i) (0,none) ?_ (Conv.mk kr) slr ?_
 ·exact⟨zH _,OwnOk.none _⟩
 rintro⟨i,oc⟩ ⟨hi,hoc⟩
 refine Rq [0,1,2,7,13,14,15,16] ?_
 refine eC rfl (p:=((i:Int)<(l.length:Int))) kr (fun c1=>?_) (fun c1=>?_)
 ·obtain⟨sb,off,cs,te,fre,rfl,hmem,hcs⟩:=hI om
  refine y9 (Γ':=[(16,[],.bool (decide ((i:Int)<(l.length:Int)))),(15,[],iN i),(14,[],iN l.length),(13,[],sP sb off l.length cap),(7,[],sO oc i),(0,[],pT jb),(1,[],.int .u64 (n:Int)),(2,[],sP sb off l.length cap)]) (Conv.mk kr) ?_
  refine Bp 3 [dZ,dZ,(dS (.agg (jc (l.getD i wz)).toArray))] (some [0,1,2,7,13,14,15,17,19]) (fun S=>[(0≤(i:Int)∧(i:Int)<(l.length:Int)),(∀w1,S w1→(loadVar 101 ⟨sb,(addO off (i*513)),none⟩).run Tryz.prog w1=.ok (.agg (jc (l.getD i wz)).toArray) w1)]) ⟨om,(fun w1 h=>yw Tryz.underlying101 rfl kr (yl (hW.at i)) (fun j v hj=>by rw[y4];exact(zI (h.ro _ (zf _ (zf _ hmem)))).trans (wr_cell hW hcs om hj))),trivial⟩ ?_
  refine Le (zM (z:=(.agg (jc wz).toArray)) rfl kr) ?_
  rintro wb ⟨hwb,nwb⟩
  refine Lq 1 [0,1,2,7,8,9,13,14,15,19] ?_
  refine Lu (zC (b:=wb) (off:=0) (vs:=(jc (l.getD i wz)).toArray) (n:=513) rfl kr kr kr (by rw[zp,yl (hW.at i)]) (jc_all _) 0 (cs:=(jc wz).toArray) (e:=101) kr (by show 0+513≤(jc wz).toArray.size;rw[zp,yl qA];decide)) ?_
  refine yF (congrArg (fun(xq:Array Value)=>(([cl wb xq 101]++(Own.o 101 (jv (cpy l i)) oc++(dO D m x++[]))):LO)) (show _=((jc (l.getD i wz)).toArray)from yx (by rw[zp,zp,yl (hW.at i)];exact(yl qA).symm))) ?_
  refine zg rfl ?_
  refine Cg (Γ':=[(8,[],iN i),(9,[],pT wb),(15,[],iN i),(14,[],iN l.length),(13,[],sP sb off l.length cap),(7,[],sO oc i),(0,[],pT jb),(1,[],.int .u64 (n:Int)),(2,[],sP sb off l.length cap)]) ?_
  refine Bp 6 [dZ,dZ,dZ,dZ,(dS (.agg (bv (l.getD i wz).2))),(dS (.agg (jc (((i:Int)+1),(l.getD i wz).2)).toArray))] (some [0,1,2,7,13,14,15,20,25]) (fun S=>[(i6 ((i:Int)+1)),(∀w1,S w1→(loadVar 37 ⟨wb,1,none⟩).run Tryz.prog w1=.ok (.agg (bv (l.getD i wz).2)) w1),(∀w1,S w1→(Instr.build 101 #[(0,.int .i64 ((i:Int)+1)),(1,.agg (bv (l.getD i wz).2))]).run Tryz.prog w1=.ok (.agg (jc (((i:Int)+1),(l.getD i wz).2)).toArray) w1)]) ⟨om,(fun w1 h=>load_bytes Tryz.underlying37 rfl kr (hW.at i) (fun j hj=>by rw[zI (h.own (wb,_) (mG 0 rfl)),zo];exact jc_byte (hW.at i) hj)),(fun w1 _=>build_wr (((i:Int)+1)) (hW.at i) w1),trivial⟩ ?_
  refine Le (yR (vs:=(jc (((i:Int)+1),(l.getD i wz).2)).toArray) (n:=513) rfl kr Tryz.underlying98 kr (z:=(.agg (jc wz).toArray)) kr (by rw[zp];exact yl (hW.at i)) (by decide) (by decide)) ?_
  rintro kb ⟨hkb,nkb⟩
  refine Le (y8 rfl 513 520 Tryz.underlying98 kr (z:=(.agg (jc wz).toArray)) kr kr oc (xs:=(jv (cpy l i))) hoc kr (b2:=kb) (off2:=0) (m:=1) (c2:=1) kr (jc ((i:Int)+1,(l.getD i wz).2)) (yl (hW.at i)) (jc_all _) [(kb,.cells ((jc (((i:Int)+1),(l.getD i wz).2)).toArray) 101 (0,0)),(wb,.cells ((jc (l.getD i wz)).toArray) 101 (0,0))] ([]++(dO D m x++[])) (by rfl) (fun w1 h j v hj=>by rw[zF];exact h.ocell 0 rfl (by rw[zo];exact hj)) om om) ?_
  rintro o1 ko1
  refine Ld 1 [0,1,2,7,13,14,15] ?_
  refine Rg [0,1,2,7,13,14,15] [] (fun _=>[(i6 ((i:Int)+1))]) ⟨om,trivial⟩ ?_
  have hrv:=cpy_jv l i
  refine zU (congrArg (fun(xq:List Value)=>(([cl kb ((jc (((i:Int)+1),(l.getD i wz).2)).toArray) 101,cl wb ((jc (l.getD i wz)).toArray) 101]++(Own.o 101 xq o1++(dO D m x++[]))):LO)) (show _=(jv (cpy l (i+1)))from hrv)) ?_
  refine zG rfl (i+1,o1) ⟨by omega,hrv▸ko1⟩ (by show l.length-(i+1)<l.length-i;omega) (Conv.mk kr) (.cons _ (.cons _ slr))
 obtain rfl:i=l.length:=by omega
 refine y9 (Γ':=[(7,[],sO oc l.length),(0,[],pT jb),(1,[],.int .u64 (n:Int)),(2,[],.slice la l.length cap)]) (Conv.mk kr) ?_
 refine Bp 1 [(dS (.agg (jc ((0:Int),zb)).toArray))] none (fun S=>[(∀w1,S w1→(Instr.build 101 #[(0,.int .i64 0)]).run Tryz.prog w1=.ok (.agg (jc ((0:Int),zb)).toArray) w1)]) ⟨(fun w1 _=>kr),trivial⟩ ?_
 refine Le (yR (vs:=(jc ((0:Int),zb)).toArray) (n:=513) rfl kr Tryz.underlying98 kr (z:=(.agg (jc wz).toArray)) kr (by rw[zp];exact yl qA) (by decide) (by decide)) ?_
 rintro sa ⟨hsa,nsa⟩
 refine Lq 3 [0,2,30,31,32,33] ?_
 refine Lu (zr (.agg (bv (qi n l))) rfl Tryz.func102 rfl rfl kr (fun w1 h=>jHead n la cap l Rl w1 hnu hI hW (by unfold maxLen;omega) hcl (h.hasR (fun e he=>zf _ he)) ktK)) ?_
 refine Lp 1 [(dS (.agg (jc ((0:Int),(qi n l))).toArray))] (some [0,2,30,31,35]) (fun S=>[(∀w1,S w1→(Instr.build 101 #[(0,.int .i64 0),(1,.agg (bv (qi n l)))]).run Tryz.prog w1=.ok (.agg (jc ((0:Int),(qi n l))).toArray) w1)]) ⟨(fun w1 _=>build_wr ((0:Int)) (headF_len _ _) w1),trivial⟩ ?_
 refine Le (yR (vs:=(jc ((0:Int),(qi n l))).toArray) (n:=513) rfl kr Tryz.underlying98 kr (z:=(.agg (jc wz).toArray)) kr (by rw[zp];exact yl (headF_len _ _)) (by decide) (by decide)) ?_
 rintro sc ⟨hsc,nsc⟩
 refine Lq 1 [0,30,31,36,37] ?_
 refine Le (yP (e:=98) (cells:=#[sP sa 0 1 1,sO oc l.length,sP sc 0 1 1,.slice la l.length cap]) (parts:=#[(0,sP sa 0 1 1),(1,sO oc l.length),(2,sP sc 0 1 1),(3,.slice la l.length cap)]) rfl kr (fun _=>kr)) ?_
 rintro sr ⟨hsr,nsr⟩
 refine qL 2 [] (some [0,38,39,40]) (Γ':=[(40,[],.int .i64 0),(39,[],.int .i64 (4:Int)),(38,[],sP sr 0 4 4),(0,[],pT jb)]) (nd:=(fun _=>[])) kr (fun _=>kr) trivial ?_
 refine zg rfl ?_
 have hoc2:OwnOk oc 513 (cpy l l.length).length (jv (cpy l l.length)):=by rw[cpy_len];exact hoc
 obtain⟨rA,hrA⟩:∃f:Nat→Option Addr,f=fun k=>if k=0 then some ⟨sa,0,none⟩else if k=1 then Own.a oc else if k=2 then some ⟨sc,0,none⟩else la:=⟨_,rfl⟩
 obtain⟨rCx9,hrC⟩:∃f:Nat→Nat,f=fun k=>if k=0 then 1 else if k=1 then Own.c oc else if k=2 then 1 else cap:=⟨_,rfl⟩
 have hcell:∀k,k<4→(#[.slice (some ⟨sa,0,none⟩) 1 1,.slice (Own.a oc) l.length (Own.c oc),.slice (some ⟨sc,0,none⟩) 1 1,.slice la l.length cap]:Array Value)[k]? = some (.slice (rA k) (st4.getD k []).length (rCx9 k)):=by intro k hk;rw[hrA,hrC,hst4];rcases k with _|_|_|_|k;rfl;exact congrArg (fun n=>some (Value.slice (Own.a oc) n (Own.c oc))) (cpy_len l l.length).symm;rfl;rfl;omega
 have hIB:∀k,InW (([(sr,Obj.cells #[.slice (some ⟨sa,0,none⟩) 1 1,.slice (Own.a oc) l.length (Own.c oc),.slice (some ⟨sc,0,none⟩) 1 1,.slice la l.length cap] 98 (0,0)),(sc,Obj.cells ((jc ((0:Int),(qi n l))).toArray) 101 (0,0)),(sa,Obj.cells ((jc ((0:Int),zb)).toArray) 101 (0,0))]++Own.o 101 (jv (cpy l l.length)) oc)++Rl) (rA k) (st4.getD k []):=by
  intro k
  have q0:∀e∈[(sr,Obj.cells #[.slice (some ⟨sa,0,none⟩) 1 1,.slice (Own.a oc) l.length (Own.c oc),.slice (some ⟨sc,0,none⟩) 1 1,.slice la l.length cap] 98 (0,0)),(sc,Obj.cells ((jc ((0:Int),(qi n l))).toArray) 101 (0,0)),(sa,Obj.cells ((jc ((0:Int),zb)).toArray) 101 (0,0))],e∈(([(sr,Obj.cells #[.slice (some ⟨sa,0,none⟩) 1 1,.slice (Own.a oc) l.length (Own.c oc),.slice (some ⟨sc,0,none⟩) 1 1,.slice la l.length cap] 98 (0,0)),(sc,Obj.cells ((jc ((0:Int),(qi n l))).toArray) 101 (0,0)),(sa,Obj.cells ((jc ((0:Int),zb)).toArray) 101 (0,0))]++Own.o 101 (jv (cpy l l.length)) oc)++Rl):=fun e he=>mL (mL he)
  rw[hrA,hst4]
  rcases k with _|_|_|_|k
  ·exact(inW_one sa ((0:Int),zb) qA 101).mono (fun e he=>q0 e (by rw[zi.1 he];exact mG 2 rfl))
  ·exact(inW_own1 hoc2).mono (fun e he=>mL (mR he))
  ·exact(inW_one sc ((0:Int),qi n l) (headF_len _ _) 101).mono (fun e he=>q0 e (by rw[zi.1 he];exact mG 1 rfl))
  ·exact hI.mono (fun e he=>mR he)
  ·exact fun h=>absurd h (by show ¬(0<([]:List Wr).length*513);simp)
 have hLl:∀k,(st4.getD k []).length≤96:=by intro k;rw[hst4];rcases k with _|_|_|_|k;exact(by decide:1≤96);exact(by show(cpy l l.length).length≤96;rw[cpy_len];exact hl);exact(by decide:1≤96);exact hl;exact zH _
 refine ye rfl (ι:=Nat×DK×MX) (fun(k,E,y)=>[(40,[],iN k),(39,[],.int .i64 (4:Int)),(38,[],sP sr 0 4 4),(0,[],pT jb)]) (fun(k,E,y)=>([cl sr #[sP sa 0 1 1,sO oc l.length,sP sc 0 1 1,.slice la l.length cap] 98,cl sc ((jc ((0:Int),(qi n l))).toArray) 101,cl sa ((jc ((0:Int),zb)).toArray) 101]++(Own.o 101 (jv (cpy l l.length)) oc++(dO E m y++[])))) (fun(k,E,y)=>(k≤4)∧(DG E)∧(MapOk y.1 y.2 (wv2 E.wait))∧(D.steps≤E.steps∧E.steps≤D.steps+200*(k:Int))∧(laysF E (st4.drop k)=laysF D st4)) (fun(k,E,y)=>4-k) (0,D,x) ?_ (Conv.mk kr) slr ?_
 ·exact⟨zH _,hg,hmo,⟨by omega,by omega⟩,by rw[List.drop_zero]⟩
 rintro⟨k,E,y⟩ ⟨hk,hgE,hmo_y,hsE,hlE⟩
 refine Rq [0,38,39,40,41] ?_
 refine eC rfl (p:=((k:Int)<(4:Int))) kr (fun c2=>?_) (fun c2=>?_)
 ·refine Rg [0,11,38,39,40] [dZ,(dS (.slice (rA k) ((st4.getD k []).length) ((rCx9 k))))] (fun S=>[(iL (k:Int) 4),(cE S sr k (.slice (rA k) ((st4.getD k []).length) ((rCx9 k))))]) ⟨om,(fun w1 h=>h.ocell 0 rfl (hcell k om)),trivial⟩ ?_
  refine Bq 2 [0,38,39,40,44,45] ?_
  refine Le (zY (fun _:MX=>.int .i64 ((layF E (st4.getD k [])).1)) (dO E m y) (fun z=>dO (layF E (st4.getD k [])).2 m z) (fun z=>MapOk z.1 z.2 (wv2 (layF E (st4.getD k [])).2.wait)) ([cl sr #[sP sa 0 1 1,sO oc l.length,sP sc 0 1 1,.slice la l.length cap] 98,cl sc ((jc ((0:Int),(qi n l))).toArray) 101,cl sa ((jc ((0:Int),zb)).toArray) 101]++(Own.o 101 (jv (cpy l l.length)) oc)) [] rfl rfl Tryz.func64 rfl rfl kr (fun w1 h hA hd=>jLay jb why num m y E (rA k) (rCx9 k) (st4.getD k []) (([cl sr #[sP sa 0 1 1,sO oc l.length,sP sc 0 1 1,.slice la l.length cap] 98,cl sc ((jc ((0:Int),(qi n l))).toArray) 101,cl sa ((jc ((0:Int),zb)).toArray) 101]++Own.o 101 (jv (cpy l l.length)) oc)++Rl) w1 hgE hA hd (hIB k) (W5.atS hsw k) (yU (hLl k) om) om hmo_y (lay_has (L:=[cl sr #[sP sa 0 1 1,sO oc l.length,sP sc 0 1 1,.slice la l.length cap] 98,cl sc ((jc ((0:Int),(qi n l))).toArray) 101,cl sa ((jc ((0:Int),zb)).toArray) 101]) (S:=Own.o 101 (jv (cpy l l.length)) oc) (A:=dO E m y) h mH (fun e he=>zf _ (zf _ he))) (lay_apart (L:=[cl sr #[sP sa 0 1 1,sO oc l.length,sP sc 0 1 1,.slice la l.length cap] 98,cl sc ((jc ((0:Int),(qi n l))).toArray) 101,cl sa ((jc ((0:Int),zb)).toArray) 101]) (S:=Own.o 101 (jv (cpy l l.length)) oc) (A:=dO E m y) h mH (fun e he=>zf _ (zf _ he))))) ?_
  rintro x2 hmo_x2
  refine Ld 1 [0,12,38,39,40] ?_
  refine Rq [0,12,38,39,40,48] ?_
  refine zX rfl (b:=(((layF E (st4.getD k [])).1) != (0:Int))) kr (fun c3r=>?_) (fun c3r=>?_)
  ·have c3:=(bne_iff_ne.1 c3r)
   refine Rq [6] ?_
   refine Rt [.int .i64 ((layF E (st4.getD k [])).1)] (fun w1 hp=>?_)
   have hx:laysF D st4=layF E (st4.getD k []):=by rw[←hlE];exact laysF_stop om om
   rw[hx]
   have h8:HP w ((dO D m x).map (·.1)) ((jb,Obj.cells #[.int .i64 why,.pointer (some ⟨m.d,0,none⟩),.int .u64 (num:Int)] 143 (0,0))::(1,Obj.cells (wv Kc) t0 fr0)::Rl) ([(sr,Obj.cells #[.slice (some ⟨sa,0,none⟩) 1 1,.slice (Own.a oc) l.length (Own.c oc),.slice (some ⟨sc,0,none⟩) 1 1,.slice la l.length cap] 98 (0,0)),(sc,Obj.cells ((jc ((0:Int),(qi n l))).toArray) 101 (0,0)),(sa,Obj.cells ((jc ((0:Int),zb)).toArray) 101 (0,0))]++(Own.o 101 (jv (cpy l l.length)) oc++(dO ((layF E (st4.getD k [])).2) m x2++[]))) w1:=hp
   have h9:=(h8.sub (zj [(sr,Obj.cells #[.slice (some ⟨sa,0,none⟩) 1 1,.slice (Own.a oc) l.length (Own.c oc),.slice (some ⟨sc,0,none⟩) 1 1,.slice la l.length cap] 98 (0,0)),(sc,Obj.cells ((jc ((0:Int),(qi n l))).toArray) 101 (0,0)),(sa,Obj.cells ((jc ((0:Int),zb)).toArray) 101 (0,0))] _)).sub (zj (Own.o 101 (jv (cpy l l.length)) oc) _)
   rw[zm]at h9
   exact⟨x2,hmo_x2,rfl,_,h9⟩
  have c3:=(bne_eq_false_iff_eq.1 c3r)
  refine Rg [0,38,39,40] [] (fun _=>[(i6 ((k:Int)+1))]) ⟨om,trivial⟩ ?_
  have hls:=layF_steps (st4.getD k []) E
  have hlk:=hLl k
  have hgo:=laysF_go (E:=E) (ls:=st4) (k:=k) om om
  refine zG rfl (k+1,(layF E (st4.getD k [])).2,x2) ⟨by omega,hgE.lay (W5.atS hsw k),hmo_x2,by omega,hgo▸hlE⟩ (by show 4-(k+1)<4-k;omega) (Conv.mk kr) slr
 refine Cfg.reg rfl [6] [] (Γ':=[(6,[],.int .i64 0)]) (nd:=(fun _=>[])) (fun _=>kr) trivial ?_
 refine Rt [.int .i64 0] (fun w1 hp=>?_)
 have hx:laysF D st4=(0,E):=by rw[←hlE,qe om];rfl
 rw[hx]
 have h8:HP w ((dO D m x).map (·.1)) ((jb,Obj.cells #[.int .i64 why,.pointer (some ⟨m.d,0,none⟩),.int .u64 (num:Int)] 143 (0,0))::(1,Obj.cells (wv Kc) t0 fr0)::Rl) ([(sr,Obj.cells #[.slice (some ⟨sa,0,none⟩) 1 1,.slice (Own.a oc) l.length (Own.c oc),.slice (some ⟨sc,0,none⟩) 1 1,.slice la l.length cap] 98 (0,0)),(sc,Obj.cells ((jc ((0:Int),(qi n l))).toArray) 101 (0,0)),(sa,Obj.cells ((jc ((0:Int),zb)).toArray) 101 (0,0))]++(Own.o 101 (jv (cpy l l.length)) oc++(dO E m y++[]))) w1:=hp
 have h9:=(h8.sub (zj [(sr,Obj.cells #[.slice (some ⟨sa,0,none⟩) 1 1,.slice (Own.a oc) l.length (Own.c oc),.slice (some ⟨sc,0,none⟩) 1 1,.slice la l.length cap] 98 (0,0)),(sc,Obj.cells ((jc ((0:Int),(qi n l))).toArray) 101 (0,0)),(sa,Obj.cells ((jc ((0:Int),zb)).toArray) 101 (0,0))] _)).sub (zj (Own.o 101 (jv (cpy l l.length)) oc) _)
 rw[zm]at h9
 exact⟨y,hmo_y,rfl,_,h9⟩
end
section
open K
theorem Eff.mapLen {C:Cx} {R O:List (Nat×Obj)} {Γ:Env} {op:Oper} {t kt e:TypeId} {x:Operand} (ho:op.op=.call ⟨.builtin .len,#[x],#[t]⟩) (hm:C.P.underlying t=some (.map kt e)) {r:Nat} (hx:opd Γ [] x=some (.map (some r))) {es:Array MapEntry} {ck:Nat} {W:List (Int×Value)} (h:MapOk es ck W) (hb:∀w,HP C.w0 C.M R O w→w.heap[r]? = some (.map es ck)) {n:Nat} (hn:W.length=n) :
  Eff C R O Γ op Unit (fun _=>.int .i64 (n:Int)) (fun _=>O) (fun _=>True):=by
 subst hn
 refine yL fun a w hs hp=>⟨(),w,trivial,?_,hp⟩
 have hl:es.size=W.length:=by
  have:=congrArg List.length h.rel
  simpa using this
 have hr:(Builtin.len_ #[t] op.type #[.map (some r)]).run C.P w=.ok (.int .i64 (W.length:Int)) w:=by
  simp[Builtin.len_,zx hm,Go.MapKept.run_getObj_map (hb w hp),goInt,hl]
 simp[execOp,ho,resolve,invoke,builtin,yI hs (zW _) hx,hr]
def iv2 (W:Nt):List (Int×Value):=W.map fun p=>(p.1,Value.int .i64 (p.2:Int))
theorem iv2_len (W:Nt):(iv2 W).length=W.length:=zA ..
theorem iv2_keys (W:Nt):(iv2 W).map (·.1)=W.map (·.1):=by unfold iv2;rw[q5];rfl
theorem mget_iv (k:Int):∀W:Nt,mget (iv2 W) k=(nget W k).map fun v=>Value.int .i64 (v:Int)
 | []=>rfl
 | p::W=>by
  show(if k=p.1 then some (Value.int .i64 (p.2:Int))else mget (iv2 W) k)=_
  unfold nget
  split
  ·rfl
  exact mget_iv k W
theorem mset_iv (k:Int) (v:Nat):∀W:Nt,mset (iv2 W) k (.int .i64 (v:Int))=iv2 (nset W k v)
 | []=>rfl
 | p::W=>by
  show(if k=p.1 then(k,Value.int .i64 (v:Int))::iv2 W else(p.1,Value.int .i64 (p.2:Int))::mset (iv2 W) k (.int .i64 (v:Int)))=_
  unfold nset
  split
  ·rfl
  rw[mset_iv k v W];rfl
theorem nset_mem {W:Nt} {k:Int} {v:Nat}:∀p∈nset W k v,p=(k,v)∨p∈W:=by
 induction W with
 | nil=>intro p hp;exact .inl (zi.1 hp)
 | cons q W ih=>
  intro p hp
  unfold nset at hp
  split at hp
  ·rcases zq.1 hp with rfl|hp
   ·exact .inl rfl
   ·exact .inr (zf _ hp)
  ·rcases zq.1 hp with rfl|hp
   ·exact .inr mH
   ·rcases ih p hp with h|h
    ·exact .inl h
    ·exact .inr (zf _ h)
theorem lastM_mem (l:List Wr):∀i,∀p∈yK l i,∃k,k<i∧p.1=(l.getD k wz).1
 | 0,p,hp=>by cases hp
 | i+1,p,hp=>by
  rcases nset_mem p hp with rfl|hp
  ·exact⟨i,Nat.lt_succ_self i,rfl⟩
  obtain⟨k,h1,h2⟩:=lastM_mem l i p hp
  exact⟨k,by omega,h2⟩
theorem badW_no {D:DK} {w:Wr} (h:badW D w=false):97≤w.1∧w.1<(D.last.length:Int):=by
 unfold badW at h
 rw[Bool.or_eq_false_iff,decide_eq_false_iff_not,decide_eq_false_iff_not]at h
 omega
theorem any_no {D:DK} {l:List Wr} (h:∀j,j<l.length→badW D (l.getD j wz)=false):l.any (badW D)=false:=by
 rw[List.any_eq_false]
 intro x hx
 obtain⟨i,hi,rfl⟩:=qO.1 hx
 have:=h i hi
 rw[zc,zd hi]at this
 simpa using this
theorem any_yes {D:DK} {l:List Wr} {i:Nat} (hi:i<l.length) (h:badW D (l.getD i wz)=true):l.any (badW D)=true:=by
 rw[List.any_eq_true]
 refine⟨l[i],qr hi,?_⟩
 rw[zc,zd hi]at h
 exact h
theorem ris_take {l:List Wr} {j:Nat} (h:j<(yK l l.length).length):jv ((risF l).take j)++jc (atN l (yK l l.length) ((keysN (yK l l.length)).getD j 0))=jv ((risF l).take (j+1)):=by
 have hr:j<(risF l).length:=by rw[risF_len];exact h
 have hk:j<(keysN (yK l l.length)).length:=by rw[keysN_len];exact h
 rw[zV hr,jv_app,jv_one]
 congr 2
 rw[zc,zd hk]
 exact(List.getElem_map (atN l (yK l l.length)) (l:=keysN (yK l l.length)) (h:=by rw[zA];exact hk)).symm
theorem key_in {l:List Wr} {j:Nat} (h:j<(yK l l.length).length):∃k,nget (yK l l.length) ((keysN (yK l l.length)).getD j 0)=some k∧k<l.length:=by
 have hk:j<(keysN (yK l l.length)).length:=by rw[keysN_len];exact h
 have h1:(keysN (yK l l.length)).getD j 0∈keysN (yK l l.length):=by rw[zc,zd hk];exact qr hk
 have h2:=(nget_mem _ _).2 ((keysN_mem _ _).1 h1)
 cases hg:nget (yK l l.length) ((keysN (yK l l.length)).getD j 0) with
 | none=>rw[hg]at h2;cases h2
 | some k=>exact⟨k,rfl,(lastM_lt l l.length _ _ hg).1⟩
theorem tr_has {w0 w:World} {M:List Nat} {R L S A:List (Nat×Obj)} {jb tab:Nat×Obj} (h:HP w0 M R (L++(S++(A++[]))) w) (hj:jb∈L) (ht:tab∈R):Has w (jb::tab::S):=fun e he=>by
 rcases zq.1 he with rfl|he
 ·exact h.own _ (mL hj)
 rcases zq.1 he with rfl|he
 ·exact h.ro _ ht
 exact h.own _ (mR (mL he))
theorem tr_apart {w0 w:World} {M:List Nat} {R L S A:List (Nat×Obj)} {jb tab:Nat×Obj} (h:HP w0 M R (L++(S++(A++[]))) w) (hj:jb∈L) (ht:tab∈R):∀e∈jb::tab::S,e.1∉A.map (·.1):=fun e he=>by
 rcases zq.1 he with rfl|he
 ·exact own_apart h _ (mL hj)
 rcases zq.1 he with rfl|he
 ·intro hm
  obtain⟨e2,h2,h3⟩:=zv.1 hm
  exact h.away (mR (mR (mL h2))) ht h3
 exact own_apart h _ (mR he)
theorem com_lost {why:Int} {num:Nat} {D:DK} {l:List Wr} (h:why≠0):yZ ⟨why,num,D⟩ l=(why,⟨why,num,D⟩):=if_pos h
theorem com_bad {why:Int} {num:Nat} {D:DK} {l:List Wr} (h:why=0) (h2:l.any (badW D)=true):yZ ⟨why,num,D⟩ l=(2,⟨why,num,D⟩):=(if_neg (fun e=>e h)).trans (if_pos h2)
theorem com_many {why:Int} {num:Nat} {D:DK} {l:List Wr} (h:why=0) (h2:l.any (badW D)=false) (h3:96<(risF l).length):yZ ⟨why,num,D⟩ l=(15,⟨why,num,D⟩):=(if_neg (fun e=>e h)).trans ((if_neg (by rw[h2];decide)).trans (if_pos h3))
theorem com_none {why:Int} {num:Nat} {D:DK} {l:List Wr} (h:why=0) (h2:l.any (badW D)=false) (h3:(risF l).length=0):yZ ⟨why,num,D⟩ l=(0,⟨why,num,D⟩):=(if_neg (fun e=>e h)).trans ((if_neg (by rw[h2];decide)).trans ((if_neg (by omega)).trans (if_pos h3)))
theorem com_err {why:Int} {num:Nat} {D:DK} {l:List Wr} (h:why=0) (h2:l.any (badW D)=false) (h3:¬96<(risF l).length) (h4:(risF l).length≠0) (h5:(transF D ((num+1)%18446744073709551616) (risF l)).1≠0):yZ ⟨why,num,D⟩ l=((transF D ((num+1)%18446744073709551616) (risF l)).1,⟨(transF D ((num+1)%18446744073709551616) (risF l)).1,num,(transF D ((num+1)%18446744073709551616) (risF l)).2⟩):=
 (if_neg (fun e=>e h)).trans ((if_neg (by rw[h2];decide)).trans ((if_neg h3).trans ((if_neg h4).trans (if_pos h5))))
theorem com_ok {why:Int} {num:Nat} {D:DK} {l:List Wr} (h:why=0) (h2:l.any (badW D)=false) (h3:¬96<(risF l).length) (h4:(risF l).length≠0) (h5:(transF D ((num+1)%18446744073709551616) (risF l)).1=0):yZ ⟨why,num,D⟩ l=(0,⟨0,(num+1)%18446744073709551616,(transF D ((num+1)%18446744073709551616) (risF l)).2⟩):=
 (if_neg (fun e=>e h)).trans ((if_neg (by rw[h2];decide)).trans ((if_neg h3).trans ((if_neg h4).trans (if_neg (fun e=>e h5)))))
theorem mKeys2 (r:Nat) (w:World) :
  Calls Tryz.prog 81 #[.map (some r)] w fun e w'=>∃b:Nat,True∧e=.returned (.func (.func 124) #[] #[.pointer (some ⟨b,0,none⟩)])∧w.heap.size≤b∧w'.heap[b]? = some (.cells #[.map (some r)] 170 (0,0))∧Ext [] w w':=by
 refine enter [] [] [] Tryz.func81 rfl kr (yy w) ?_
 refine Be rfl rfl (y7 (v:=.map (some r)) rfl kr) ?_
 rintro b1 ⟨hb1,nb1⟩
 refine Ld 1 [1] ?_
 refine Rq [2] ?_
 refine Rt [.func (.func 124) #[] #[pT b1]] (fun w1 hp=>?_)
 exact⟨b1,trivial,rfl,hb1,hp.own (b1,_) mH,hp.ext⟩
theorem jCommit (jb:Nat) (why:Int) (num:Nat) (m:DM) (x:MX) (D:DK) (la:Option Addr) (cap:Nat) (l:List Wr) (Rl:List (Nat×Obj)) (t0:TypeId) (fr0:Nat×Nat) (w:World) (hg:DG D) (hmo:MapOk x.1 x.2 (wv2 D.wait)) (hA:Has w ((jb,Obj.cells #[.int .i64 why,.pointer (some ⟨m.d,0,none⟩),.int .u64 (num:Int)] 143 (0,0))::dO D m x)) (hd:(((jb,Obj.cells #[.int .i64 why,.pointer (some ⟨m.d,0,none⟩),.int .u64 (num:Int)] 143 (0,0))::dO D m x).map (·.1)).Nodup) (hI:InW Rl la l) (hW:WW l) (hl:l.length≤100000) (hs:0≤D.steps∧D.steps≤4611686018425000000) (hR:Has w ((1,Obj.cells (wv Kc) t0 fr0)::Rl)) (hnr:∀e∈(1,Obj.cells (wv Kc) t0 fr0)::Rl,e.1∉((jb,Obj.cells #[.int .i64 why,.pointer (some ⟨m.d,0,none⟩),.int .u64 (num:Int)] 143 (0,0))::dO D m x).map (·.1)) :
  Calls Tryz.prog 38 #[.pointer (some ⟨jb,0,none⟩),.slice la l.length cap] w fun e w'=>∃x2:MX,MapOk x2.1 x2.2 (wv2 (yZ ⟨why,num,D⟩ l).2.D.wait)∧e=.returned (.int .i64 (yZ ⟨why,num,D⟩ l).1)∧∃R1,HP w (((jb,Obj.cells #[.int .i64 why,.pointer (some ⟨m.d,0,none⟩),.int .u64 (num:Int)] 143 (0,0))::dO D m x).map (·.1)) R1 ((jb,Obj.cells #[.int .i64 ((yZ ⟨why,num,D⟩ l).2.why),.pointer (some ⟨m.d,0,none⟩),.int .u64 ((yZ ⟨why,num,D⟩ l).2.num:Int)] 143 (0,0))::dO (yZ ⟨why,num,D⟩ l).2.D m x2) w':=by
 have hnl:=hg.n
 obtain⟨n2,hn2⟩:∃n,n=((num+1)%18446744073709551616):=⟨_,rfl⟩
 have hn3:n2<18446744073709551616:=by rw[hn2];exact qT _ (by decide)
 have hn4:((num:Int)+1)%18446744073709551616=(n2:Int):=by omega
 obtain⟨T,hT⟩:∃T,T=transF D n2 (risF l):=⟨_,rfl⟩
 refine enter (((cl jb #[.int .i64 why,pT m.d,.int .u64 (num:Int)] 143)::dO D m x).map (·.1)) ((1,Obj.cells (wv Kc) t0 fr0)::Rl) ([cl jb #[.int .i64 why,pT m.d,.int .u64 (num:Int)] 143]++(dO D m x++[])) Tryz.func38 rfl kr (by rw[zm];exact HP.ofL hA hd hR hnr) ?_
 refine Rq [0,1] ?_
 refine Rq [0,1,14] ?_
 refine yb rfl (b:=false) kr rfl ?_
 refine Bq 3 [0,1,17] ?_
 refine Lu (zr (.bool (why != (0:Int))) rfl Tryz.func65 rfl rfl kr (fun w1 h=>jLost jb why num m w1 (fun e he=>by rw[zi.1 he];exact h.own (jb,_) (mL (mG 0 rfl))))) ?_
 refine zg rfl ?_
 refine Cg (Γ':=[(18,[],.bool (why != (0:Int))),(0,[],pT jb),(1,[],.slice la l.length cap)]) ?_
 refine zX rfl (b:=(why != (0:Int))) kr (fun c2r=>?_) (fun c2r=>?_)
 ·have c2:=(bne_iff_ne.1 c2r)
  refine Rg [4] [dZ,dZ,dZ,dZ,(dS (.int .i64 why))] (fun S=>[(cE S jb 0 (.int .i64 why))]) ⟨(oC 0 rfl rfl),trivial⟩ ?_
  refine Rt [.int .i64 why] (fun w1 hp=>?_)
  have hx:yZ ⟨why,num,D⟩ l=(why,⟨why,num,D⟩):=by
   have h8:=com_lost (num:=num) (D:=D) (l:=l) c2
   first|exact h8|(rw[←hn2,←hT]at h8;exact h8)
  rw[hx]
  have h9:HP w (((jb,Obj.cells #[.int .i64 why,.pointer (some ⟨m.d,0,none⟩),.int .u64 (num:Int)] 143 (0,0))::dO D m x).map (·.1)) ((1,Obj.cells (wv Kc) t0 fr0)::Rl) ([(jb,Obj.cells #[.int .i64 why,.pointer (some ⟨m.d,0,none⟩),.int .u64 (num:Int)] 143 (0,0))]++(dO D m x++[])) w1:=hp.sub slr
  rw[zm]at h9
  exact⟨x,hmo,rfl,_,h9⟩
 have c2:=(bne_eq_false_iff_eq.1 c2r)
 refine Be rfl rfl (Eff.mapNew rfl) ?_
 rintro mb ⟨hmb,nmb⟩
 refine Ld 1 [0,1,5] ?_
 refine Rq [0,1,5,25,26,27] ?_
 refine ye rfl (ι:=Nat×Array MapEntry×Nat) (fun(i,z)=>[(27,[],iN i),(26,[],iN l.length),(25,[],.slice la l.length cap),(5,[],.map (some mb)),(0,[],pT jb),(1,[],.slice la l.length cap)]) (fun(i,z)=>([(mb,.map z.1 z.2),cl jb #[.int .i64 why,pT m.d,.int .u64 (num:Int)] 143]++(dO D m x++[]))) (fun(i,z)=>(i≤l.length)∧(MapOk z.1 z.2 (iv2 (yK l i)))∧(∀j,j<i→badW D (l.getD j wz)=false)) (fun(i,z)=>l.length-i) (0,(#[],0)) ?_ (Conv.mk kr) slr ?_
 ·exact⟨zH _,MapOk.empty _,fun j h=>absurd h (qx j)⟩
 rintro⟨i,z⟩ ⟨hi,hz,hnb⟩
 refine Rq [0,1,5,25,26,27,28] ?_
 refine eC rfl (p:=((i:Int)<(l.length:Int))) kr (fun c3=>?_) (fun c3=>?_)
 ·obtain⟨sb,off,cs,te,fre,rfl,hmem,hcs⟩:=hI om
  refine y9 (Γ':=[(28,[],.bool (decide ((i:Int)<(l.length:Int)))),(27,[],iN i),(26,[],iN l.length),(25,[],sP sb off l.length cap),(5,[],.map (some mb)),(0,[],pT jb),(1,[],sP sb off l.length cap)]) (Conv.mk kr) ?_
  refine Bp 3 [dZ,dZ,(dS (.agg (jc (l.getD i wz)).toArray))] (some [0,1,5,25,26,27,29,31]) (fun S=>[(0≤(i:Int)∧(i:Int)<(l.length:Int)),(∀w1,S w1→(loadVar 101 ⟨sb,(addO off (i*513)),none⟩).run Tryz.prog w1=.ok (.agg (jc (l.getD i wz)).toArray) w1)]) ⟨om,(fun w1 h=>yw Tryz.underlying101 rfl kr (yl (hW.at i)) (fun j v hj=>by rw[y4];exact(zI (h.ro _ (zf _ hmem))).trans (wr_cell hW hcs om hj))),trivial⟩ ?_
  refine Le (zM (z:=(.agg (jc wz).toArray)) rfl kr) ?_
  rintro wb ⟨hwb,nwb⟩
  refine Lq 1 [0,1,5,6,7,25,26,27,31] ?_
  refine Lu (zC (b:=wb) (off:=0) (vs:=(jc (l.getD i wz)).toArray) (n:=513) rfl kr kr kr (by rw[zp,yl (hW.at i)]) (jc_all _) 0 (cs:=(jc wz).toArray) (e:=101) kr (by show 0+513≤(jc wz).toArray.size;rw[zp,yl qA];decide)) ?_
  refine yF (congrArg (fun(xq:Array Value)=>(([cl wb xq 101,(mb,.map z.1 z.2),cl jb #[.int .i64 why,pT m.d,.int .u64 (num:Int)] 143]++(dO D m x++[])):LO)) (show _=((jc (l.getD i wz)).toArray)from yx (by rw[zp,zp,yl (hW.at i)];exact(yl qA).symm))) ?_
  refine zg rfl ?_
  refine Cg (Γ':=[(6,[],iN i),(7,[],pT wb),(27,[],iN i),(26,[],iN l.length),(25,[],sP sb off l.length cap),(5,[],.map (some mb)),(0,[],pT jb),(1,[],sP sb off l.length cap)]) ?_
  refine yo rfl kr ([cl wb ((jc (l.getD i wz)).toArray) 101,(mb,.map z.1 z.2),cl jb #[.int .i64 why,pT m.d,.int .u64 (num:Int)] 143]++(dO D m x++[])) ?_
  refine Ap [0,1,2,3] [dZ,(dS (.int .i64 ((l.getD i wz).1)))] (some [0,1,5,6,7,25,26,27,35]) (tF 4 6) slr 6 (fun S=>[(cE S wb 0 (.int .i64 ((l.getD i wz).1)))]) ⟨(oC 0 rfl rfl),trivial⟩ ?_
  by_cases c4:(decide (((l.getD i wz).1)<(97:Int)))=true
  ·have c4k:(decide (((l.getD i wz).1)<(97:Int)))=true:=c4
   have c4q:=(dT c4k)
   refine CfgA.known 35 (b:=(decide (((l.getD i wz).1)<(97:Int)))) kr true c4k ?_
   refine Ap [4,5,6,7,8,9] [(2,false,none),(2,false,none),(2,false,none),(2,false,none),(2,false,none)] (some [0,1,5,6,7,25,26,27,41]) (tF 10 0) slr 0 (fun _=>[((.bool true:Value)≠.bool false),((.bool true:Value)≠.bool false),((.bool true:Value)≠.bool false),((.bool true:Value)≠.bool false),((.bool true:Value)≠.bool false)]) ⟨(by simp),(by simp),(by simp),(by simp),(by simp),trivial⟩ ?_
   refine z6 kr ?_
   refine Cfg.condT rfl (b:=true) kr rfl ?_
   refine Rq [4] ?_
   refine Rt [.int .i64 2] (fun w1 hp=>?_)
   have hx:yZ ⟨why,num,D⟩ l=(2,⟨why,num,D⟩):=by
    have h8:=com_bad (num:=num) (D:=D) (l:=l) c2 (any_yes (i:=i) om (by unfold badW;rw[Bool.or_eq_true,decide_eq_true_eq,decide_eq_true_eq];omega))
    first|exact h8|(rw[←hn2,←hT]at h8;exact h8)
   rw[hx]
   have h9:HP w (((jb,Obj.cells #[.int .i64 why,.pointer (some ⟨m.d,0,none⟩),.int .u64 (num:Int)] 143 (0,0))::dO D m x).map (·.1)) ((1,Obj.cells (wv Kc) t0 fr0)::Rl) ([(jb,Obj.cells #[.int .i64 why,.pointer (some ⟨m.d,0,none⟩),.int .u64 (num:Int)] 143 (0,0))]++(dO D m x++[])) w1:=hp.sub (.cons _ (.cons _ slr))
   rw[zm]at h9
   exact⟨x,hmo,rfl,_,h9⟩
  have c4k:(decide (((l.getD i wz).1)<(97:Int)))=false:=(by simpa using c4)
  have c4q:=(dF c4k)
  refine CfgA.known 35 (b:=(decide (((l.getD i wz).1)<(97:Int)))) kr false c4k ?_
  refine Ap [4,5,6] [(1,false,none),(1,false,some (.int .i64 ((l.getD i wz).1))),(1,false,none)] (some [0,1,5,6,7,25,26,27,35,37,38]) (tF 7 3) slr 3 (fun S=>[((.bool false:Value)=.bool false),((.bool false:Value)=.bool false),(cE S wb 0 (.int .i64 ((l.getD i wz).1))),((.bool false:Value)=.bool false)]) ⟨rfl,rfl,(oC 0 rfl rfl),rfl,trivial⟩ ?_
  refine Au 7 rfl 2  (zr (iN D.last.length) rfl Tryz.func31 rfl rfl kr (fun w1 h=>jSectors jb why num m x D w1 (fun e he=>(zq.1 he).elim (fun h1=>h1▸h.own (jb,_) (mL (mG 2 rfl))) (fun h1=>h.own e (mR (mL h1)))))) (fun _ _=>slr) ?_
  refine Ap [8,9] [(1,false,none)] (some [0,1,5,6,7,25,26,27,41]) (tF 10 0) slr 0 (fun _=>[((.bool false:Value)=.bool false)]) ⟨rfl,trivial⟩ ?_
  refine z6 kr ?_
  refine eC rfl (p:=(((l.getD i wz).1)≥(D.last.length:Int))) kr (fun c6=>?_) (fun c6=>?_)
  ·refine Rq [4] ?_
   refine Rt [.int .i64 2] (fun w1 hp=>?_)
   have hx:yZ ⟨why,num,D⟩ l=(2,⟨why,num,D⟩):=by
    have h8:=com_bad (num:=num) (D:=D) (l:=l) c2 (any_yes (i:=i) om (by unfold badW;rw[Bool.or_eq_true,decide_eq_true_eq,decide_eq_true_eq];omega))
    first|exact h8|(rw[←hn2,←hT]at h8;exact h8)
   rw[hx]
   have h9:HP w (((jb,Obj.cells #[.int .i64 why,.pointer (some ⟨m.d,0,none⟩),.int .u64 (num:Int)] 143 (0,0))::dO D m x).map (·.1)) ((1,Obj.cells (wv Kc) t0 fr0)::Rl) ([(jb,Obj.cells #[.int .i64 why,.pointer (some ⟨m.d,0,none⟩),.int .u64 (num:Int)] 143 (0,0))]++(dO D m x++[])) w1:=hp.sub (.cons _ (.cons _ slr))
   rw[zm]at h9
   exact⟨x,hmo,rfl,_,h9⟩
  refine Bp 4 [dZ,dZ,(dS (.int .i64 ((l.getD i wz).1)))] (some [0,1,5,25,26,27,42,44,45]) (fun S=>[(cE S wb 0 (.int .i64 ((l.getD i wz).1)))]) ⟨(oC 0 rfl rfl),trivial⟩ ?_
  refine Le (Eff.mapSet (r:=mb) (k:=(l.getD i wz).1) (u:=iN i) (es:=z.1) (ck:=z.2) rfl Tryz.underlying170 Tryz.underlying3 kr kr kr hz 1 kr) ?_
  rintro yq hyq
  refine zg rfl ?_
  refine Cg (Γ':=[(27,[],iN i),(26,[],iN l.length),(25,[],sP sb off l.length cap),(5,[],.map (some mb)),(0,[],pT jb),(1,[],sP sb off l.length cap)]) ?_
  refine Rg [0,1,5,25,26,27] [] (fun _=>[(i6 ((i:Int)+1))]) ⟨om,trivial⟩ ?_
  have hbd:badW D (l.getD i wz)=false:=by unfold badW;rw[Bool.or_eq_false_iff,decide_eq_false_iff_not,decide_eq_false_iff_not];omega
  refine zG rfl (i+1,yq) ⟨by omega,(by have h9:=hyq;rw[mset_iv]at h9;exact h9),fun j hj=>by rcases qy j i with h1|h1;exact hnb j h1;rw[show j=i by omega];exact hbd⟩ (by show l.length-(i+1)<l.length-i;omega) (Conv.mk kr) (.cons _ slr)
 obtain rfl:i=l.length:=by omega
 have hno:=any_no hnb
 have hll:=lastM_len l l.length
 refine y9 (Γ':=[(5,[],.map (some mb)),(0,[],pT jb),(1,[],.slice la l.length cap)]) (Conv.mk kr) ?_
 refine Bp 1 [] none n0 trivial ?_
 refine Lu (Eff.mapLen (r:=mb) rfl Tryz.underlying170 kr hz (fun w1 h=>h.own (mb,_) (show(mb,Obj.map z.1 z.2)∈([(mb,Obj.map z.1 z.2),cl jb #[.int .i64 why,pT m.d,.int .u64 (num:Int)] 143]++(dO D m x++[]))from mL (mG 0 rfl))) (iv2_len _)) ?_
 refine Ld 1 [0,1,5,49] ?_
 refine eC rfl (p:=(((yK l l.length).length:Int)>(96:Int))) kr (fun c7=>?_) (fun c7=>?_)
 ·refine Rq [4] ?_
  refine Rt [.int .i64 15] (fun w1 hp=>?_)
  have hx:yZ ⟨why,num,D⟩ l=(15,⟨why,num,D⟩):=by
   have h8:=com_many (num:=num) (D:=D) (l:=l) c2 hno (by rw[risF_len];omega)
   first|exact h8|(rw[←hn2,←hT]at h8;exact h8)
  rw[hx]
  have h9:HP w (((jb,Obj.cells #[.int .i64 why,.pointer (some ⟨m.d,0,none⟩),.int .u64 (num:Int)] 143 (0,0))::dO D m x).map (·.1)) ((1,Obj.cells (wv Kc) t0 fr0)::Rl) ([(jb,Obj.cells #[.int .i64 why,.pointer (some ⟨m.d,0,none⟩),.int .u64 (num:Int)] 143 (0,0))]++(dO D m x++[])) w1:=hp.sub (.cons _ slr)
  rw[zm]at h9
  exact⟨x,hmo,rfl,_,h9⟩
 refine Bq 1 [0,1,5,50] ?_
 refine Lu (Eff.mapLen (r:=mb) rfl Tryz.underlying170 kr hz (fun w1 h=>h.own (mb,_) (show(mb,Obj.map z.1 z.2)∈([(mb,Obj.map z.1 z.2),cl jb #[.int .i64 why,pT m.d,.int .u64 (num:Int)] 143]++(dO D m x++[]))from mL (mG 0 rfl))) (iv2_len _)) ?_
 refine Ld 1 [0,1,5,52] ?_
 refine zX rfl (b:=(((yK l l.length).length:Int)==(0:Int))) kr (fun c8r=>?_) (fun c8r=>?_)
 ·have c8:=(beq_iff_eq.1 c8r)
  refine Rq [4] ?_
  refine Rt [.int .i64 0] (fun w1 hp=>?_)
  have hx:yZ ⟨why,num,D⟩ l=(0,⟨why,num,D⟩):=by
   have h8:=com_none (num:=num) (D:=D) (l:=l) c2 hno (by rw[risF_len];omega)
   first|exact h8|(rw[←hn2,←hT]at h8;exact h8)
  rw[hx]
  have h9:HP w (((jb,Obj.cells #[.int .i64 why,.pointer (some ⟨m.d,0,none⟩),.int .u64 (num:Int)] 143 (0,0))::dO D m x).map (·.1)) ((1,Obj.cells (wv Kc) t0 fr0)::Rl) ([(jb,Obj.cells #[.int .i64 why,.pointer (some ⟨m.d,0,none⟩),.int .u64 (num:Int)] 143 (0,0))]++(dO D m x++[])) w1:=hp.sub (.cons _ slr)
  rw[zm]at h9
  exact⟨x,hmo,rfl,_,h9⟩
 have c8:=(beq_eq_false_iff_ne.1 c8r)
 refine Cfg.reg rfl [0,1,5,8] [] (Γ':=[(8,[],.slice none 0 0),(5,[],.map (some mb)),(0,[],pT jb),(1,[],.slice la l.length cap)]) (nd:=(fun _=>[])) (fun _=>kr) trivial ?_
 refine Bp 1 [] none n0 trivial ?_
 refine Le (Eff.callN (fun tb=>.func (.func 124) #[] #[pT tb]) (fun tb=>tb) (fun _=>.cells #[.map (some mb)] 170 (0,0)) (fun _=>True) rfl Tryz.func81 rfl rfl kr (fun w1 h=>mKeys2 mb w1)) ?_
 rintro tb -
 refine Le (Eff.callOF (vs:=[.func (.func 124) #[] #[pT tb]]) 3 1 (yK l l.length).length ((keysN (yK l l.length)).map Go.encZ) [cl tb #[.map (some mb)] 170,(mb,.map z.1 z.2),cl jb #[.int .i64 why,pT m.d,.int .u64 (num:Int)] 143] ([]++(dO D m x++[])) rfl rfl Tryz.func78 rfl rfl kr (fun w1 h=>by have h9:=sorted_gives L.ksorted81 tb mb z.1 z.2 (iv2 (yK l l.length)) w1 hz (h.own (mb,_) (mG 1 rfl)) (fun p hp=>by obtain⟨q,hq,rfl⟩:=zv.1 hp;obtain⟨k,hk1,hk2⟩:=lastM_mem l l.length q hq;have h8:=badW_no (hnb k hk1);rw[←hk2]at h8;simp only;omega) (by rw[iv2_len];omega) (h.ocell 0 rfl rfl);rw[iv2_len,iv2_keys]at h9;exact h9)) ?_
 rintro o ko
 refine Ld 2 [0,1,5,8,55,56,57] ?_
 obtain⟨⟨ob,oc,oj⟩,rfl⟩:=own_some ko om
 refine zU (O':=([cl tb #[.map (some mb)] 170,(mb,.map z.1 z.2),cl jb #[.int .i64 why,pT m.d,.int .u64 (num:Int)] 143,cl ob ((((keysN (yK l l.length)).map Go.encZ)++oj).toArray) 3]++(dO D m x++[]))) rfl ?_
 refine y9 (Γ':=[(57,[],.int .i64 0),(56,[],.int .i64 ((yK l l.length).length:Int)),(55,[],sP ob 0 (yK l l.length).length oc),(8,[],.slice none 0 0),(5,[],.map (some mb)),(0,[],pT jb),(1,[],.slice la l.length cap)]) (Conv.mk kr) ?_
 refine ye rfl (ι:=Nat×K.Own) (fun(j,or)=>[(57,[],iN j),(56,[],.int .i64 ((yK l l.length).length:Int)),(55,[],sP ob 0 (yK l l.length).length oc),(8,[],sO or j),(5,[],.map (some mb)),(0,[],pT jb),(1,[],.slice la l.length cap)]) (fun(j,or)=>([cl tb #[.map (some mb)] 170,(mb,.map z.1 z.2),cl jb #[.int .i64 why,pT m.d,.int .u64 (num:Int)] 143,cl ob ((((keysN (yK l l.length)).map Go.encZ)++oj).toArray) 3]++(Own.o 101 (jv ((risF l).take j)) or++(dO D m x++[])))) (fun(j,or)=>(j≤(yK l l.length).length)∧(OwnOk or 513 j (jv ((risF l).take j)))) (fun(j,or)=>(yK l l.length).length-j) (0,none) ?_ (Conv.mk kr) slr ?_
 ·exact⟨zH _,OwnOk.none _⟩
 rintro⟨j,or⟩ ⟨hj,hor⟩
 refine Rq [0,1,5,8,55,56,57,58] ?_
 refine eC rfl (p:=((j:Int)<((yK l l.length).length:Int))) kr (fun c9=>?_) (fun c9=>?_)
 ·refine Rg [0,1,5,8,10,55,56,57] [dZ,(dS (.int .i64 ((keysN (yK l l.length)).getD j 0)))] (fun S=>[(iL (j:Int) ((yK l l.length).length:Int)),(cE S ob j (.int .i64 ((keysN (yK l l.length)).getD j 0)))]) ⟨om,(fun w1 h=>key_cell (h.own (ob,_) (mL (mG 3 rfl))) (by rw[keysN_len];omega)),trivial⟩ ?_
  obtain⟨gk,hgk,hkl⟩:=key_in (l:=l) (j:=j) om
  obtain⟨sb,off,cs,te,fre,rfl,hmem,hcs⟩:=hI om
  refine y9 (Γ':=[(10,[],.int .i64 ((keysN (yK l l.length)).getD j 0)),(57,[],iN j),(56,[],.int .i64 ((yK l l.length).length:Int)),(55,[],sP ob 0 (yK l l.length).length oc),(8,[],sO or j),(5,[],.map (some mb)),(0,[],pT jb),(1,[],sP sb off l.length cap)]) (Conv.mk kr) ?_
  refine Bq 4 [0,1,5,8,55,56,57,61,62,63,64] ?_
  refine Lu (Eff.mapGetV (z:=.int .i64 0) (r:=mb) (k:=((keysN (yK l l.length)).getD j 0)) (v:=iN ((nget (yK l l.length) ((keysN (yK l l.length)).getD j 0)).getD 0)) rfl Tryz.underlying170 Tryz.underlying3 kr kr kr hz (fun w1 h=>h.own (mb,_) (show(mb,Obj.map z.1 z.2)∈([cl tb #[.map (some mb)] 170,(mb,Obj.map z.1 z.2),cl jb #[.int .i64 why,pT m.d,.int .u64 (num:Int)] 143,cl ob ((((keysN (yK l l.length)).map Go.encZ)++oj).toArray) 3]++(Own.o 101 (jv ((risF l).take j)) or++(dO D m x++[])))from mL (mG 1 rfl))) (by rw[mget_iv,hgk];rfl)) ?_
  refine Lp 2 [dZ,(dS (.agg (jc (atN l (yK l l.length) ((keysN (yK l l.length)).getD j 0))).toArray))] (some [0,1,5,8,55,56,57,61,67]) (fun S=>[(0≤(((nget (yK l l.length) ((keysN (yK l l.length)).getD j 0)).getD 0):Int)∧(((nget (yK l l.length) ((keysN (yK l l.length)).getD j 0)).getD 0):Int)<(l.length:Int)),(∀w1,S w1→(loadVar 101 ⟨sb,(addO off ((((nget (yK l l.length) ((keysN (yK l l.length)).getD j 0)).getD 0))*513)),none⟩).run Tryz.prog w1=.ok (.agg (jc (atN l (yK l l.length) ((keysN (yK l l.length)).getD j 0))).toArray) w1)]) ⟨(by rw[hgk];show 0≤((gk:Nat):Int)∧((gk:Nat):Int)<_;omega),(fun w1 h=>yw Tryz.underlying101 rfl kr (yl (hW.at _)) (fun j v hj=>by rw[y4];exact(zI (h.ro _ (zf _ hmem))).trans (wr_cell hW hcs (by rw[hgk];exact hkl) hj))),trivial⟩ ?_
  refine Le (yR (vs:=(jc (atN l (yK l l.length) ((keysN (yK l l.length)).getD j 0))).toArray) (n:=513) rfl kr Tryz.underlying98 kr (z:=(.agg (jc wz).toArray)) kr (by rw[zp];exact yl (hW.at _)) (by decide) (by decide)) ?_
  rintro kb ⟨hkb,nkb⟩
  refine Le (y8 rfl 513 520 Tryz.underlying98 kr (z:=(.agg (jc wz).toArray)) kr kr or (xs:=(jv ((risF l).take j))) hor kr (b2:=kb) (off2:=0) (m:=1) (c2:=1) kr (jc (atN l (yK l l.length) ((keysN (yK l l.length)).getD j 0))) (yl (hW.at _)) (jc_all _) [(kb,.cells ((jc (atN l (yK l l.length) ((keysN (yK l l.length)).getD j 0))).toArray) 101 (0,0)),(tb,.cells #[.map (some mb)] 170 (0,0)),(mb,.map z.1 z.2),(jb,.cells #[.int .i64 why,.pointer (some ⟨m.d,0,none⟩),.int .u64 (num:Int)] 143 (0,0)),(ob,.cells ((((keysN (yK l l.length)).map Go.encZ)++oj).toArray) 3 (0,0))] ([]++(dO D m x++[])) (by rfl) (fun w1 h j v hj=>by rw[zF];exact h.ocell 0 rfl (by rw[zo];exact hj)) om om) ?_
  rintro o5 ko5
  refine Ld 1 [0,1,5,8,55,56,57] ?_
  refine Cfg.reg rfl [0,1,5,8,55,56,57] [] (Γ':=[(57,[],.int .i64 ((j:Int)+1)),(8,[],sO o5 ((j+1))),(56,[],.int .i64 ((yK l l.length).length:Int)),(55,[],sP ob 0 (yK l l.length).length oc),(5,[],.map (some mb)),(0,[],pT jb),(1,[],sP sb off l.length cap)]) (nd:=(fun _=>[(i6 ((j:Int)+1))])) (fun _=>kr) ⟨om,trivial⟩ ?_
  have hrv:=ris_take (l:=l) (j:=j) om
  refine zU (congrArg (fun(xq:List Value)=>(([cl kb ((jc (atN l (yK l l.length) ((keysN (yK l l.length)).getD j 0))).toArray) 101,cl tb #[.map (some mb)] 170,(mb,.map z.1 z.2),cl jb #[.int .i64 why,pT m.d,.int .u64 (num:Int)] 143,cl ob ((((keysN (yK l l.length)).map Go.encZ)++oj).toArray) 3]++(Own.o 101 xq o5++(dO D m x++[]))):LO)) (show _=(jv ((risF l).take (j+1)))from hrv)) ?_
  refine zG rfl (j+1,o5) ⟨by omega,hrv▸ko5⟩ (by show(yK l l.length).length-(j+1)<(yK l l.length).length-j;omega) (Conv.mk kr) (.cons _ slr)
 obtain rfl:j=(yK l l.length).length:=by omega
 have htk:(risF l).take (yK l l.length).length=risF l:=yB (by rw[risF_len];exact zD _)
 rw[htk]at hor
 have hor2:OwnOk or 513 (risF l).length (jv (risF l)):=by rw[risF_len];exact hor
 refine zU (congrArg (fun(xq:List Value)=>(([(tb,.cells #[.map (some mb)] 170 (0,0)),(mb,.map z.1 z.2),(jb,.cells #[.int .i64 why,.pointer (some ⟨m.d,0,none⟩),.int .u64 (num:Int)] 143 (0,0)),(ob,.cells ((((keysN (yK l l.length)).map Go.encZ)++oj).toArray) 3 (0,0))]++(Own.o 101 xq or++(dO D m x++[]))):LO)) (show _=(jv (risF l))from by rw[htk])) ?_
 refine y9 (Γ':=[(8,[],sO or ((yK l l.length).length)),(0,[],pT jb)]) (Conv.mk kr) ?_
 refine zN 8 (congrArg (fun(xq:Nat)=>(sO or xq:Value)) (show((yK l l.length).length)=((risF l).length) from(risF_len l).symm)) ?_
 refine Rg [0,8,11] [dZ,dZ,dZ,(dS (.int .u64 (num:Int)))] (fun S=>[(cE S jb 2 (.int .u64 (num:Int)))]) ⟨(oC 2 rfl rfl),trivial⟩ ?_
 refine zN 11 (congrArg (fun(xq:Int)=>(.int .u64 xq:Value)) (show(((num:Int)+1)%18446744073709551616)=(n2:Int)from hn4)) ?_
 refine Bq 3 [0,11,76,77,78] ?_
 refine Le (zY (vs:=[pT jb,.int .u64 (n2:Int),sO or ((risF l).length)]) (fun _:MX=>.int .i64 T.1) (dO D m x) (fun z=>dO T.2 m z) (fun z=>MapOk z.1 z.2 (wv2 T.2.wait)) ([cl tb #[.map (some mb)] 170,(mb,.map z.1 z.2),cl jb #[.int .i64 why,pT m.d,.int .u64 (num:Int)] 143,cl ob ((((keysN (yK l l.length)).map Go.encZ)++oj).toArray) 3]++(Own.o 101 (jv (risF l)) or)) [] rfl rfl Tryz.func82 rfl rfl kr (fun w1 h hA hd=>by have h9:=jTrans jb why num m x D n2 (Own.a or) (Own.c or) (risF l) (Own.o 101 (jv (risF l)) or) t0 fr0 w1 hn3 hg hA hd (inW_own1 hor2) (risF_w hW) (by rw[risF_len];omega) (own_le hor2) om hmo (tr_has (L:=[cl tb #[.map (some mb)] 170,(mb,Obj.map z.1 z.2),cl jb #[.int .i64 why,pT m.d,.int .u64 (num:Int)] 143,cl ob ((((keysN (yK l l.length)).map Go.encZ)++oj).toArray) 3]) (S:=Own.o 101 (jv (risF l)) or) (A:=dO D m x) h (mG 2 rfl) mH) (tr_apart (L:=[cl tb #[.map (some mb)] 170,(mb,Obj.map z.1 z.2),cl jb #[.int .i64 why,pT m.d,.int .u64 (num:Int)] 143,cl ob ((((keysN (yK l l.length)).map Go.encZ)++oj).toArray) 3]) (S:=Own.o 101 (jv (risF l)) or) (A:=dO D m x) h (mG 2 rfl) mH);rw[←hT]at h9;exact h9)) ?_
 rintro x2 hmo2
 refine Ld 1 [0,11,12] ?_
 refine Rq [0,11,12,81] ?_
 refine zX rfl (b:=(T.1 != (0:Int))) kr (fun c10r=>?_) (fun c10r=>?_)
 ·have c10:=(bne_iff_ne.1 c10r)
  refine Bq 5 [12,83,86] ?_
  refine Lu (zS (b:=jb) (off:=0) (v:=.int .i64 T.1) rfl kr kr rfl kr 2 (cs:=#[.int .i64 why,pT m.d,.int .u64 (num:Int)]) (e:=143) kr (by simp)) ?_
  refine zg rfl ?_
  refine Cg (Γ':=[(12,[],.int .i64 T.1)]) ?_
  refine Rq [4] ?_
  refine Rt [.int .i64 T.1] (fun w1 hp=>?_)
  have hx:yZ ⟨why,num,D⟩ l=(T.1,⟨T.1,num,T.2⟩):=by
   have h8:=com_err (num:=num) (D:=D) (l:=l) c2 hno (by rw[risF_len];omega) (by rw[risF_len];omega) (by rw[←hn2,←hT];exact c10)
   first|exact h8|(rw[←hn2,←hT]at h8;exact h8)
  rw[hx]
  have h9:HP w (((jb,Obj.cells #[.int .i64 why,.pointer (some ⟨m.d,0,none⟩),.int .u64 (num:Int)] 143 (0,0))::dO D m x).map (·.1)) ((1,Obj.cells (wv Kc) t0 fr0)::Rl) ([(jb,Obj.cells #[.int .i64 T.1,.pointer (some ⟨m.d,0,none⟩),.int .u64 (num:Int)] 143 (0,0))]++(dO T.2 m x2++[])) w1:=hp.sub (.cons _ (.cons _ (.cons_cons _ (.cons _ (show List.Sublist (dO T.2 m x2++[]) (Own.o 101 (jv (risF l)) or++(dO T.2 m x2++[])) from(zE (List.Sublist.append (zQ (dO T.2 m x2)) (zz _)) (zj (Own.o 101 (jv (risF l)) or) _)))))))
  rw[zm]at h9
  exact⟨x2,hmo2,rfl,_,h9⟩
 have c10:=(bne_eq_false_iff_eq.1 c10r)
 refine Bq 4 [89,91] ?_
 refine Lu (zS (b:=jb) (off:=2) (v:=.int .u64 (n2:Int)) rfl kr kr rfl kr 2 (cs:=#[.int .i64 why,pT m.d,.int .u64 (num:Int)]) (e:=143) kr (by simp)) ?_
 refine zg rfl ?_
 refine Cg (Γ':=[]) ?_
 refine Rq [4] ?_
 refine Rt [.int .i64 0] (fun w1 hp=>?_)
 have hx:yZ ⟨why,num,D⟩ l=(0,⟨0,n2,T.2⟩):=by
  have h8:=com_ok (num:=num) (D:=D) (l:=l) c2 hno (by rw[risF_len];omega) (by rw[risF_len];omega) (by rw[←hn2,←hT];exact c10)
  first|exact h8|(rw[←hn2,←hT]at h8;exact h8)
 rw[hx]
 have h9:HP w (((jb,Obj.cells #[.int .i64 why,.pointer (some ⟨m.d,0,none⟩),.int .u64 (num:Int)] 143 (0,0))::dO D m x).map (·.1)) ((1,Obj.cells (wv Kc) t0 fr0)::Rl) ([(jb,Obj.cells #[.int .i64 why,.pointer (some ⟨m.d,0,none⟩),.int .u64 (n2:Int)] 143 (0,0))]++(dO T.2 m x2++[])) w1:=hp.sub (.cons _ (.cons _ (.cons_cons _ (.cons _ (show List.Sublist (dO T.2 m x2++[]) (Own.o 101 (jv (risF l)) or++(dO T.2 m x2++[])) from(zE (List.Sublist.append (zQ (dO T.2 m x2)) (zz _)) (zj (Own.o 101 (jv (risF l)) or) _)))))))
 rw[zm]at h9
 rw[show Value.int .i64 why=Value.int .i64 0 from congrArg (Value.int .i64) c2]at h9
 exact⟨x2,hmo2,rfl,_,h9⟩
end
section
open K
def pD (D:DK) (a:Wr):Bool:=decide (a.1≥(D.last.length:Int))
def fxN (p:Wr→Bool):List Wr→Nat→Int
 | [],_=>-1
 | a::l,i=>if p a then(i:Int)else fxN p l (i+1)
theorem fxN_hit {p:Wr→Bool} {l:List Wr} {i:Nat} (h:i<l.length) (hp:p (l.getD i wz)=true):fxN p (l.drop i) i=(i:Int):=by
 rw[drop_getD h,fxN,if_pos hp]
theorem fxN_go {p:Wr→Bool} {l:List Wr} {i:Nat} (h:i<l.length) (hp:p (l.getD i wz)=false):fxN p (l.drop i) i=fxN p (l.drop (i+1)) (i+1):=by
 rw[drop_getD h,fxN,if_neg (by rw[hp];decide)]
theorem fxN_some (p:Wr→Bool):∀(l:List Wr) (i:Nat),fxN p l i≠-1→∃k:Nat,fxN p l i=((i+k:Nat):Int)∧k<l.length∧(∀j,j<k→p (l.getD j wz)=false)∧p (l.getD k wz)=true
 | [],_,h=>absurd rfl h
 | a::l,i,h=>by
  unfold fxN at h ⊢
  by_cases ha:p a=true
  ·rw[if_pos ha]
   exact⟨0,by rw[Nat.add_zero],by simp,fun j hj=>absurd hj (qx j),ha⟩
  rw[if_neg ha]at h ⊢
  obtain⟨k,h1,h2,h3,h4⟩:=fxN_some p l (i+1) h
  refine⟨k+1,by rw[h1];congr 1;omega,by rw[zL];omega,fun j hj=>?_,h4⟩
  cases j with
  | zero=>exact qN.2 ha
  | succ j=>exact h3 j om
theorem fxN_none (p:Wr→Bool):∀(l:List Wr) (i:Nat),fxN p l i = -1→l.filter (fun a=>!p a)=l
 | [],_,_=>rfl
 | a::l,i,h=>by
  unfold fxN at h
  by_cases ha:p a=true
  ·rw[if_pos ha]at h;omega
  rw[if_neg ha]at h
  rw[qS,if_pos (by rw[qN.2 ha];rfl),fxN_none p l (i+1) h]
def kN (D:DK) (l:List Wr) (j:Nat):List Wr:=(l.take j).filter fun a=>!pD D a
theorem kN_le (D:DK) (l:List Wr) (j:Nat):(kN D l j).length≤j:=by
 have h1:=List.length_filter_le (fun a=>!pD D a) (l.take j)
 have h2:=List.length_take_le j l
 unfold kN;omega
theorem kN_yes {D:DK} {l:List Wr} {j:Nat} (h:j<l.length) (hp:pD D (l.getD j wz)=false):kN D l (j+1)=kN D l j++[l.getD j wz]:=by
 unfold kN
 have e:l[j]=l.getD j wz:=by rw[zc,zd h];rfl
 rw[zV h,ja,e,qS,if_pos (by rw[hp];rfl)];rfl
theorem kN_no {D:DK} {l:List Wr} {j:Nat} (h:j<l.length) (hp:pD D (l.getD j wz)=true):kN D l (j+1)=kN D l j:=by
 unfold kN
 have e:l[j]=l.getD j wz:=by rw[zc,zd h];rfl
 rw[zV h,ja,e,qS,if_neg (by rw[hp];decide)]
 exact zm _
theorem kN_w {l:List Wr} (hW:WW l) (D:DK) (j:Nat):WW (kN D l j):=fun x hx=>hW x (qV (qD.1 hx).1)
theorem kN_start {D:DK} {l:List Wr}:∀ {i:Nat},i≤l.length→(∀j,j<i→pD D (l.getD j wz)=false)→kN D l i=l.take i
 | 0,_,_=>by unfold kN;rw[qG];rfl
 | i+1,h,hp=>by
  rw[kN_yes om (hp i (Nat.lt_succ_self i)),kN_start om (fun j hj=>hp j om),zV om,zc,zd om];rfl
def delJ (D:DK) (l:List Wr) (j:Nat) (oj:List Value):List Value:=jv (kN D l j)++jv (l.drop (kN D l j).length)++oj
theorem delJ_cell {D:DK} {l:List Wr} (hW:WW l) {j:Nat} {oj:List Value} (hj:j<l.length) {k:Nat} {v:Value} (hv:(jc (l.getD j wz))[k]? = some v):(delJ D l j oj)[j*513+k]? = some v:=by
 have hk:=jc_some (hW.at j) hv
 have hle:=kN_le D l j
 have hl:=jv_len (kN_w hW D j)
 have hd:=jv_len (hW.drop (kN D l j).length)
 unfold delJ
 rw[zO,yd om,zJ (by rw[hd,hl,qg];omega),hl,show j*513+k-(kN D l j).length*513=(j-(kN D l j).length)*513+k by omega,jv_get (hW.drop _) (by rw[qg];omega) hk]
 have e:(l.drop (kN D l j).length).getD (j-(kN D l j).length) wz=l.getD j wz:=by
  rw[zc,List.getElem?_drop,zc];congr 2;omega
 rw[e];exact hv
theorem delJ_size {D:DK} {l:List Wr} (hW:WW l) (j:Nat) (hj:j≤l.length) (oj:List Value):(delJ D l j oj).length=l.length*513+oj.length:=by
 have hle:=kN_le D l j
 unfold delJ
 rw[zh,zh,jv_len (kN_w hW D j),jv_len (hW.drop _),qg];omega
theorem delJ_set {D:DK} {l:List Wr} (hW:WW l) {j:Nat} (hj:j<l.length) (hp:pD D (l.getD j wz)=false) (oj:List Value):spl (delJ D l j oj).toArray ((kN D l j).length*513) (jc (l.getD j wz))=(delJ D l (j+1) oj).toArray:=by
 have hle:=kN_le D l j
 have hlt:(kN D l j).length<l.length:=by omega
 have h:=spl_at (L:=delJ D l j oj) (A:=jv (kN D l j)) (B:=jc (l.getD (kN D l j).length wz)) (T:=jv (l.drop ((kN D l j).length+1))++oj) (vs:=jc (l.getD j wz)) (off:=(kN D l j).length*513) (by unfold delJ;rw[drop_getD hlt,jv_cons];simp only[List.append_assoc]) (jv_len (kN_w hW D j)) (by rw[yl (hW.at _),yl (hW.at _)])
 rw[h]
 unfold delJ
 rw[kN_yes hj hp,jv_app,jv_one,zh,q6]
 simp only[List.append_assoc]
theorem delJ_no {D:DK} {l:List Wr} {j:Nat} (hj:j<l.length) (hp:pD D (l.getD j wz)=true) (oj:List Value):delJ D l j oj=delJ D l (j+1) oj:=by unfold delJ;rw[kN_no hj hp]
theorem zrj_len (n:Nat):((Builtin.zeroCells (Value.cells (.agg (jc wz).toArray)) n).toList).length=n*513:=by
 unfold Builtin.zeroCells
 rw[z7,Array.size_map,Array.size_range]
 show n*(jc wz).toArray.size=_
 rw[zp,yl qA]
theorem zrj_all (n:Nat):∀v∈(Builtin.zeroCells (Value.cells (.agg (jc wz).toArray)) n).toList,K.one v=true:=by
 intro v hv
 unfold Builtin.zeroCells at hv
 rw[Array.toList_map,zv]at hv
 obtain⟨k,_,rfl⟩:=hv
 have hs:(Value.cells (.agg (jc wz).toArray)).size=513:=by show(jc wz).toArray.size=_;rw[zp,yl qA]
 have hk:k%(Value.cells (.agg (jc wz).toArray)).size<(Value.cells (.agg (jc wz).toArray)).size:=qT _ (by rw[hs];decide)
 rw[getElem!_pos (Value.cells (.agg (jc wz).toArray)) (k%(Value.cells (.agg (jc wz).toArray)).size) hk]
 have hm:=Array.mem_toList_iff.2 (Array.getElem_mem hk)
 exact jc_all wz _ hm
theorem delJ_clear {D:DK} {l:List Wr} (hW:WW l) (oj:List Value) {n:Nat} (hn:n=l.length-(kN D l l.length).length):spl (delJ D l l.length oj).toArray ((kN D l l.length).length*513) ((Builtin.zeroCells (Value.cells (.agg (jc wz).toArray)) n).toList)=(jv (kN D l l.length)++((Builtin.zeroCells (Value.cells (.agg (jc wz).toArray)) n).toList++oj)).toArray:=by
 have hle:=kN_le D l l.length
 have h:=spl_at (L:=delJ D l l.length oj) (A:=jv (kN D l l.length)) (B:=jv (l.drop (kN D l l.length).length)) (T:=oj) (vs:=(Builtin.zeroCells (Value.cells (.agg (jc wz).toArray)) n).toList) (off:=(kN D l l.length).length*513) rfl (jv_len (kN_w hW D _)) (by rw[zrj_len,jv_len (hW.drop _),qg,hn])
 rw[h,zO]
theorem kN_all (D:DK) (l:List Wr):kN D l l.length=inD D l:=by unfold kN;rw[yV];rfl
theorem jOpen1 (kb:Nat) (m:DM) (x:MX) (D:DK) (a:Wr) (w:World) (ha:a.2.length=512) (hR:Has w ((kb,Obj.cells #[.pointer (some ⟨m.d,0,none⟩)] 26 (0,0))::dO D m x)) :
  Calls Tryz.prog 63 #[.agg (jc a).toArray,.pointer (some ⟨kb,0,none⟩)] w fun e w'=>e=.returned (.bool (pD D a))∧Ext [] w w':=by
 refine enter [] ((cl kb #[pT m.d] 26)::dO D m x) [] Tryz.func63 rfl kr (yj hR) ?_
 refine Be rfl rfl (y7 (v:=.agg (jc a).toArray) rfl kr) ?_
 rintro xb ⟨hxb,nxb⟩
 refine Ld 1 [1,2] ?_
 refine yo rfl kr [cl xb ((jc a).toArray) 101] ?_
 refine Ap [0,1,2] [dZ,(dS (.int .i64 a.1)),(dS (pT m.d))] (some [5,6]) (tF 3 3) (cO .slnil) 3 (fun S=>[(cE S xb 0 (.int .i64 a.1)),(cE S kb 0 (pT m.d))]) ⟨(oC 0 rfl rfl),(rC 0 rfl rfl),trivial⟩ ?_
 refine Au 3 rfl 2  (zr (iN D.last.length) rfl Tryz.func60 rfl rfl kr (fun w1 h=>dSectors m x D w1 (h.hasR (fun e he=>zf _ he)))) (fun _ _=>(cO .slnil)) ?_
 refine Ap [4,5] [] (some [3]) (tF 6 0) (cO .slnil) 0 n0 trivial ?_
 refine z6 kr ?_
 refine Rt [.bool (decide (a.1≥(D.last.length:Int)))] (fun w1 hp=>?_)
 exact⟨rfl,hp.ext⟩
theorem jIdx (kb:Nat) (m:DM) (x:MX) (D:DK) (la:Option Addr) (cap:Nat) (l:List Wr) (Rl:List (Nat×Obj)) (w:World) (hI:InW Rl la l) (hW:WW l) (hl:l.length≤100000) (hR:Has w (((kb,Obj.cells #[.pointer (some ⟨m.d,0,none⟩)] 26 (0,0))::dO D m x)++Rl)) :
  Calls Tryz.prog 103 #[.slice la l.length cap,.func (.func 63) #[] #[.pointer (some ⟨kb,0,none⟩)]] w fun e w'=>e=.returned (.int .i64 (fxN (pD D) l 0))∧Ext [] w w':=by
 refine enter [] (((cl kb #[pT m.d] 26)::dO D m x)++Rl) [] Tryz.func103 rfl kr (yj hR) ?_
 refine Rq [0,1] ?_
 refine Rq [0,1,7,8] ?_
 refine ye rfl (ι:=Nat) (fun(i:Nat)=>[(8,[],iN i),(7,[],iN l.length),(0,[],.slice la l.length cap),(1,[],.func (.func 63) #[] #[pT kb])]) (fun(i:Nat)=>[]) (fun(i:Nat)=>(i≤l.length)∧(fxN (pD D) (l.drop i) i=fxN (pD D) l 0)) (fun(i:Nat)=>l.length-i) 0 ?_ (Conv.mk kr) .slnil ?_
 ·exact⟨zH _,by rw[List.drop_zero]⟩
 rintro i ⟨hi,hx⟩
 refine Rq [0,1,7,8,9] ?_
 refine eC rfl (p:=((i:Int)<(l.length:Int))) kr (fun c1=>?_) (fun c1=>?_)
 ·refine Rq [0,1,5,7,8] ?_
  obtain⟨sb,off,cs,te,fre,rfl,hmem,hcs⟩:=hI om
  refine y9 (Γ':=[(5,[],iN i),(8,[],iN i),(7,[],iN l.length),(0,[],sP sb off l.length cap),(1,[],.func (.func 63) #[] #[pT kb])]) (Conv.mk kr) ?_
  refine Bp 5 [dZ,dZ,dZ,dZ,(dS (.agg (jc (l.getD i wz)).toArray))] (some [0,1,5,7,8,11,15]) (fun S=>[(0≤(i:Int)∧(i:Int)<(l.length:Int)),(∀w1,S w1→(loadVar 101 ⟨sb,(addO off (i*513)),none⟩).run Tryz.prog w1=.ok (.agg (jc (l.getD i wz)).toArray) w1)]) ⟨om,(fun w1 h=>yw Tryz.underlying101 rfl kr (yl (hW.at i)) (fun j v hj=>by rw[y4];exact(zI (h.ro _ (mR hmem))).trans (wr_cell hW hcs om hj))),trivial⟩ ?_
  refine Le (Eff.callAVC (vs:=[.agg (jc (l.getD i wz)).toArray]) (.bool (pD D (l.getD i wz))) [pT kb] rfl kr Tryz.func63 rfl rfl kr (fun w1 h=>jOpen1 kb m x D (l.getD i wz) w1 (hW.at i) (h.hasR (fun e he=>mL he)))) ?_
  rintro⟨⟩ -
  refine zg rfl ?_
  refine Cg (Γ':=[(16,[],.bool (pD D (l.getD i wz))),(5,[],iN i),(8,[],iN i),(7,[],iN l.length),(0,[],sP sb off l.length cap),(1,[],.func (.func 63) #[] #[pT kb])]) ?_
  refine zX rfl (b:=(pD D (l.getD i wz))) kr (fun c2r=>?_) (fun c2r=>?_)
  ·have c2:((pD D (l.getD i wz))=true):=c2r
   refine Rq [4] ?_
   refine Rt [iN i] (fun w1 hp=>?_)
   have hh:=fxN_hit (p:=pD D) (l:=l) (i:=i) om (by simpa using c2)
   exact⟨by rw[←hx,hh];rfl,hp.ext⟩
  have c2:((pD D (l.getD i wz))=false):=c2r
  refine Rg [0,1,7,8] [] (fun _=>[(i6 ((i:Int)+1))]) ⟨om,trivial⟩ ?_
  have hgo:=fxN_go (p:=pD D) (l:=l) (i:=i) om (by simpa using c2)
  refine zG rfl (i+1) ⟨by omega,hgo▸hx⟩ (by show l.length-(i+1)<l.length-i;omega) (Conv.mk kr) .slnil
 refine Rq [4] ?_
 refine Rt [.int .i64 (-1)] (fun w1 hp=>?_)
 rw[qe om]at hx
 exact⟨by rw[←hx];rfl,hp.ext⟩
theorem jDel (kb:Nat) (m:DM) (x:MX) (D:DK) (o:K.Own) (l:List Wr) (w:World) (hok:OwnOk o 513 l.length (jv l)) (hW:WW l) (hl:l.length≤100000) (hA:Has w (Own.o 101 (jv l) o)) (hd:((Own.o 101 (jv l) o).map (·.1)).Nodup) (hR:Has w ((kb,Obj.cells #[.pointer (some ⟨m.d,0,none⟩)] 26 (0,0))::dO D m x)) (hnr:∀e∈(kb,Obj.cells #[.pointer (some ⟨m.d,0,none⟩)] 26 (0,0))::dO D m x,e.1∉(Own.o 101 (jv l) o).map (·.1)) :
  Calls Tryz.prog 62 #[.slice (Own.a o) l.length (Own.c o),.func (.func 63) #[] #[.pointer (some ⟨kb,0,none⟩)]] w fun e w'=>∃o2:K.Own,OwnOk o2 513 (inD D l).length (jv (inD D l))∧e=.returned (.slice (Own.a o2) (inD D l).length (Own.c o2))∧∃R1,HP w ((Own.o 101 (jv l) o).map (·.1)) R1 (Own.o 101 (jv (inD D l)) o2) w':=by
 refine enter ((Own.o 101 (jv l) o).map (·.1)) ((cl kb #[pT m.d] 26)::dO D m x) ([]++(Own.o 101 (jv l) o++[])) Tryz.func62 rfl kr (by rw[zm];exact HP.ofL hA hd hR hnr) ?_
 refine Rq [0,1] ?_
 refine Bp 2 [] none n0 trivial ?_
 refine Lu (zr (.int .i64 (fxN (pD D) l 0)) rfl Tryz.func103 rfl rfl kr (fun w1 h=>jIdx kb m x D (Own.a o) (Own.c o) l (Own.o 101 (jv l) o) w1 (inW_own hok) hW hl (fun e he=>(yG.1 he).elim (fun h1=>h.ro e h1) (fun h1=>h.own e (mR (mL h1)))))) ?_
 refine Ld 1 [0,1,5] ?_
 refine Rq [0,1,5,12] ?_
 refine zX rfl (b:=((fxN (pD D) l 0)==((-1):Int))) kr (fun c1r=>?_) (fun c1r=>?_)
 ·have c1:=(beq_iff_eq.1 c1r)
  refine Rq [4] ?_
  refine Rt [sO o l.length] (fun w1 hp=>?_)
  have hall:=fxN_none (pD D) l 0 c1
  have hin:inD D l=l:=hall
  rw[hin]
  rw[zm]at hp
  exact⟨o,hok,rfl,_,hp⟩
 have c1:=(beq_eq_false_iff_ne.1 c1r)
 obtain⟨i0,hfx,hi0,hpre,hp0⟩:=fxN_some (pD D) l 0 c1
 rw[zF]at hfx
 obtain⟨⟨b,cp,oj⟩,rfl⟩:=own_some hok om
 have hks:(kN D l (i0+1)).length=i0:=by rw[kN_no hi0 hp0,kN_start om hpre,z8];omega
 have hds:jv l++oj=delJ D l (i0+1) oj:=by unfold delJ;rw[hks,kN_no hi0 hp0,kN_start om hpre,←jv_app,yz]
 refine zU (O':=[cl b ((jv l++oj).toArray) 101]) rfl ?_
 refine y9 (Γ':=[(12,[],.bool ((fxN (pD D) l 0)==((-1):Int))),(5,[],.int .i64 (fxN (pD D) l 0)),(0,[],sP b 0 l.length cp),(1,[],.func (.func 63) #[] #[pT kb])]) (Conv.mk kr) ?_
 refine sI 5 (show(fxN (pD D) l 0)=(i0:Int)from hfx) ?_
 refine Rg [0,1,5,6] [] (fun _=>[(i6 ((i0:Int)+1))]) ⟨om,trivial⟩ ?_
 refine oB 0 rfl (show _=((delJ D l (i0+1) oj).toArray)from by rw[hds]) ?_
 refine sI 6 (show((i0:Int)+1)=(((i0+1):Nat):Int)from rfl) ?_
 refine sI 5 (show(i0:Int)=(((kN D l (i0+1)).length:Nat):Int)from by rw[hks]) ?_
 refine ye rfl (ι:=Nat) (fun(j:Nat)=>[(6,[],iN j),(5,[],.int .i64 ((kN D l j).length:Int)),(0,[],sP b 0 l.length cp),(1,[],.func (.func 63) #[] #[pT kb])]) (fun(j:Nat)=>[cl b ((delJ D l j oj).toArray) 101]) (fun(j:Nat)=>(j≤l.length)∧((kN D l j).length<j)) (fun(j:Nat)=>l.length-j) (i0+1) ?_ (Conv.mk kr) (cO .slnil) ?_
 ·exact⟨by omega,by rw[hks];exact Nat.lt_succ_self _⟩
 rintro j ⟨hj,hlt⟩
 refine Rq [0,1,5,6,19] ?_
 refine eC rfl (p:=((j:Int)<(l.length:Int))) kr (fun c2=>?_) (fun c2=>?_)
 ·refine Bp 4 [dZ,dZ,dZ,(dS (.agg (jc (l.getD j wz)).toArray))] (some [0,1,5,6,25]) (fun S=>[(0≤(j:Int)∧(j:Int)<(l.length:Int)),(∀w1,S w1→(loadVar 101 ⟨b,(j*513),none⟩).run Tryz.prog w1=.ok (.agg (jc (l.getD j wz)).toArray) w1)]) ⟨om,(fun w1 h=>yw Tryz.underlying101 rfl kr (yl (hW.at j)) (fun k v hv=>by rw[zI (h.own (b,_) (mG 0 rfl)),zo];exact delJ_cell hW om hv)),trivial⟩ ?_
  refine Le (zM (z:=(.agg (jc wz).toArray)) rfl kr) ?_
  rintro wb ⟨hwb,nwb⟩
  refine Lu (zC (b:=wb) (off:=0) (vs:=(jc (l.getD j wz)).toArray) (n:=513) rfl kr kr kr (by rw[zp,yl (hW.at j)]) (jc_all _) 0 (cs:=(jc wz).toArray) (e:=101) kr (by show 0+513≤(jc wz).toArray.size;rw[zp,yl qA];decide)) ?_
  refine oL 0 rfl (show _=((jc (l.getD j wz)).toArray)from yx (by rw[zp,zp,yl (hW.at j)];exact(yl qA).symm)) ?_
  refine zg rfl ?_
  refine Cg (Γ':=[(7,[],pT wb),(6,[],iN j),(5,[],.int .i64 ((kN D l j).length:Int)),(0,[],sP b 0 l.length cp),(1,[],.func (.func 63) #[] #[pT kb])]) ?_
  refine Bp 2 [dZ,(dS (.agg (jc (l.getD j wz)).toArray))] none (fun S=>[(∀w1,S w1→(loadVar 101 ⟨wb,0,none⟩).run Tryz.prog w1=.ok (.agg (jc (l.getD j wz)).toArray) w1)]) ⟨(fun w1 h=>yw Tryz.underlying101 rfl kr (yl (hW.at j)) (fun k v hv=>by rw[zF];exact h.ocell 0 rfl (by rw[zo];exact hv))),trivial⟩ ?_
  refine Le (Eff.callAVC (vs:=[.agg (jc (l.getD j wz)).toArray]) (.bool (pD D (l.getD j wz))) [pT kb] rfl kr Tryz.func63 rfl rfl kr (fun w1 h=>jOpen1 kb m x D (l.getD j wz) w1 (hW.at j) (h.hasR (fun e he=>he)))) ?_
  rintro⟨⟩ -
  refine Ld 1 [0,1,5,6,7,29] ?_
  refine zX rfl (b:=(!(pD D (l.getD j wz)))) kr (fun c3r=>?_) (fun c3r=>?_)
  ·have c3:((pD D (l.getD j wz))=false):=(notT c3r)
   refine Bp 4 [dZ,dZ,(dS (.agg (jc (l.getD j wz)).toArray))] (some [0,1,5,6,32,33]) (fun S=>[(∀w1,S w1→(loadVar 101 ⟨wb,0,none⟩).run Tryz.prog w1=.ok (.agg (jc (l.getD j wz)).toArray) w1),(0≤((kN D l j).length:Int)∧((kN D l j).length:Int)<(l.length:Int))]) ⟨(fun w1 h=>yw Tryz.underlying101 rfl kr (yl (hW.at j)) (fun k v hv=>by rw[zF];exact h.ocell 0 rfl (by rw[zo];exact hv))),om,trivial⟩ ?_
   refine Lu (zC (b:=b) (off:=(((kN D l j).length)*513)) (vs:=(jc (l.getD j wz)).toArray) (n:=513) rfl kr kr kr (by rw[zp,yl (hW.at j)]) (jc_all _) 1 (cs:=(delJ D l j oj).toArray) (e:=101) kr (by rw[zp,delJ_size hW j om];omega)) ?_
   refine oL 1 rfl (show _=((delJ D l (j+1) oj).toArray)from delJ_set hW om (by simpa using c3) oj) ?_
   refine zg rfl ?_
   refine Cg (Γ':=[(6,[],iN j),(5,[],.int .i64 ((kN D l j).length:Int)),(0,[],sP b 0 l.length cp),(1,[],.func (.func 63) #[] #[pT kb])]) ?_
   refine Rg [0,1,5,6] [] (fun _=>[(i6 (((kN D l j).length:Int)+1))]) ⟨om,trivial⟩ ?_
   refine Rg [0,1,5,6] [] (fun _=>[(i6 ((j:Int)+1))]) ⟨om,trivial⟩ ?_
   have hky:=kN_yes (D:=D) (l:=l) (j:=j) om (by simpa using c3)
   have hkl:(kN D l (j+1)).length=(kN D l j).length+1:=by rw[hky,zh];rfl
   refine sI 5 (show(((kN D l j).length:Int)+1)=(((kN D l (j+1)).length:Nat):Int)from by rw[hkl];rfl) ?_
   refine zG rfl (j+1) ⟨by omega,by omega⟩ (by show l.length-(j+1)<l.length-j;omega) (Conv.mk kr) (.cons _ (cO .slnil))
  have c3:((pD D (l.getD j wz))=true):=(notF c3r)
  refine Rg [0,1,5,6] [] (fun _=>[(i6 ((j:Int)+1))]) ⟨om,trivial⟩ ?_
  have hkn:=kN_no (D:=D) (l:=l) (j:=j) om (by simpa using c3)
  have hdn:=delJ_no (D:=D) (l:=l) (j:=j) om (by simpa using c3) oj
  refine oB 1 rfl (show _=((delJ D l (j+1) oj).toArray)from by rw[hdn]) ?_
  refine sI 5 (show((kN D l j).length:Int)=(((kN D l (j+1)).length:Nat):Int)from by rw[hkn]) ?_
  refine zG rfl (j+1) ⟨by omega,by rw[hkn];omega⟩ (by show l.length-(j+1)<l.length-j;omega) (Conv.mk kr) (.cons _ (cO .slnil))
 have hje:j=l.length:=by omega
 refine y9 (Γ':=[(5,[],.int .i64 ((kN D l j).length:Int)),(0,[],sP b 0 l.length cp)]) (Conv.mk kr) ?_
 refine sI 5 (show((kN D l j).length:Int)=((kN D l l.length).length:Int)from by rw[hje]) ?_
 refine oB 0 rfl (show _=((delJ D l l.length oj).toArray)from by rw[hje]) ?_
 rw[hje]at hlt
 have hcp:l.length≤cp:=(hok.some _ rfl).2
 have hfit:(if cp=(kN D l l.length).length then 0 else((kN D l l.length).length*513))+(l.length-(kN D l l.length).length)*(Value.cells (.agg (jc wz).toArray)).size≤((delJ D l l.length oj).toArray).size:=by
  rw[if_neg om,show(Value.cells (.agg (jc wz).toArray)).size=513 from(by show(jc wz).toArray.size=_;rw[zp,yl qA]),zp,delJ_size hW l.length (zD _)];omega
 refine Bp 3 [] (some [0,5,38]) (fun _=>[(0≤((kN D l l.length).length:Int)),(((kN D l l.length).length)≤l.length∧l.length≤cp)]) ⟨om,om,trivial⟩ ?_
 refine Lu (Eff.clearC rfl Tryz.underlying98 (z:=(.agg (jc wz).toArray)) kr (b:=b) (off:=(if cp=((kN D l l.length).length)then 0 else((((kN D l l.length).length))*513))) (n:=(l.length-(((kN D l l.length).length)))) (c:=(cp-(((kN D l l.length).length)))) kr om 0 (cs:=(delJ D l l.length oj).toArray) (te:=101) kr (zrj_all _) hfit) ?_
 refine zg rfl ?_
 refine Cg (Γ':=[(5,[],.int .i64 ((kN D l l.length).length:Int)),(0,[],sP b 0 l.length cp)]) ?_
 refine Rg [4] [] (fun _=>[(0≤((kN D l l.length).length:Int)),(((kN D l l.length).length)≤cp)]) ⟨om,om,trivial⟩ ?_
 refine Rt [sP b 0 (((kN D l l.length).length)) cp] (fun w1 hp=>?_)
 have hle:=kN_le D l l.length
 have hcl:=delJ_clear (D:=D) hW oj (n:=l.length-(kN D l l.length).length) rfl
 rw[if_neg om,hcl]at hp
 rw[←kN_all]
 have hlen:=jv_len (kN_w hW D l.length)
 have hz:=zrj_len (l.length-(kN D l l.length).length)
 have hsm:=(hok.some _ rfl).1
 have hlv:=jv_len hW
 simp only at hsm
 exact⟨some (b,cp,(Builtin.zeroCells (Value.cells (.agg (jc wz).toArray)) (l.length-(kN D l l.length).length)).toList++oj),⟨hlen,fun h=>(by cases h),fun p hp9=>by cases hp9;exact⟨by simp only[List.length_append];omega,by simp only;omega⟩⟩,rfl,_,hp⟩
end
section
open K
theorem mem_has {w0 w:World} {M:List Nat} {R O L:List (Nat×Obj)} (h:HP w0 M R O w) (hL:L.Sublist O):Has w L:=fun e he=>h.own e (hL.subset he)
theorem rows_app (a b:List (List UInt8)):rows (a++b)=rows a++rows b:=by simp[rows]
theorem rows_one (b:List UInt8):rows [b]=(bv b).toList:=by simp[rows]
theorem parL_w {H:List UInt8} {bs:List (List UInt8)} (h:W5 bs):WW (parL H bs):=by
 unfold parL;split
 ·exact rowP_w h _ _
 exact WW.nil
theorem inB_own {o:K.Own} {e:TypeId} {l:List (List UInt8)} (hok:OwnOk o 512 l.length (rows l)):InB (o.o e (rows l)) o.a l:=by
 intro hn
 obtain⟨p,rfl⟩:=own_some hok om
 refine⟨p.1,0,_,e,(0,0),rfl,mH,fun j hj=>?_⟩
 have hl:=hok.len
 rw[zF]
 simp only[List.getElem?_toArray]
 rw[zJ om,zc,zd om];rfl
theorem mid_apart {w0 w:World} {M:List Nat} {R F A T:List (Nat×Obj)} (h:HP w0 M R (F++(A++T)) w):∀e,(e∈F∨e∈T)→e.1∉A.map (·.1):=fun e he hm=>by
 obtain⟨e2,h2,h3⟩:=zv.1 hm
 have hd:=h.dist
 rw[yf,yf]at hd
 have h4:=y6.1 hd
 rcases he with he|he
 ·exact h4.2.2 e.1 (zv.2 ⟨e,he,rfl⟩) e2.1 (mL (zv.2 ⟨e2,h2,rfl⟩)) h3.symm
 have h5:=y6.1 h4.2.1
 exact h5.2.2 e2.1 (zv.2 ⟨e2,h2,rfl⟩) e.1 (zv.2 ⟨e,he,rfl⟩) h3
theorem jblk_w {D:DK} (h:DG D) (i:Nat):W5 (jblk D i):=fun x hx=>by
 obtain⟨k,_,rfl⟩:=zv.1 hx
 exact yO h _
theorem jblk_rows (D:DK) (i:Nat):rows (jblk D i)++(bv (zR D ((i+1:Nat):Int))).toList=rows (jblk D (i+1)):=by
 rw[jblk_next,rows_app,rows_one]
theorem flt_pos {D:DK} (h:fltF D 0=0):0<D.last.length:=by
 have:=fltF_in h;omega
theorem inD_w {l:List Wr} (h:WW l) (D:DK):WW (inD D l):=fun x hx=>h x (qD.1 hx).1
theorem inD_len (D:DK) (l:List Wr):(inD D l).length≤l.length:=List.length_filter_le _ _
theorem parL_96 {H:List UInt8} {bs:List (List UInt8)}:(parL H bs).length≤96:=by
 unfold parL;split
 ·rename_i hg
  rw[rowP_len]
  unfold parG at hg
  simp only[Bool.and_eq_true,decide_eq_true_eq]at hg
  omega
 exact zH _
theorem op_flt {D:DK} (h:fltF D 0≠0):openF D=(fltF D 0,0,D):=if_pos h
theorem op_no {D:DK} (h:fltF D 0=0) (h2:openG D=false):openF D=(0,0,D):=(if_neg (fun e=>e h)).trans (if_pos h2)
theorem op_err {D:DK} (h:fltF D 0=0) (h2:openG D=true) (h3:(layF D (openL D)).1≠0):openF D=((layF D (openL D)).1,0,(layF D (openL D)).2):=(if_neg (fun e=>e h)).trans ((if_neg (by rw[h2];decide)).trans (if_pos h3))
theorem op_ok {D:DK} (h:fltF D 0=0) (h2:openG D=true) (h3:(layF D (openL D)).1=0):openF D=(0,parN (zR D 0) (jrows D),(layF D (openL D)).2):=(if_neg (fun e=>e h)).trans ((if_neg (by rw[h2];decide)).trans (if_neg (fun e=>e h3)))
theorem op_has {w0 w:World} {M:List Nat} {R L S T A:List (Nat×Obj)} {jb:Nat×Obj} (h:HP w0 M R (L++(S++(A++T))) w) (hj:jb∈L):Has w (jb::S):=fun e he=>by
 rcases zq.1 he with rfl|he
 ·exact h.own _ (mL hj)
 exact h.own _ (mR (mL he))
theorem op_apart {w0 w:World} {M:List Nat} {R L S T A:List (Nat×Obj)} {jb:Nat×Obj} (h:HP w0 M R (L++(S++(A++T))) w) (hj:jb∈L):∀e∈jb::S,e.1∉A.map (·.1):=fun e he=>by
 have h9:HP w0 M R ((L++S)++(A++T)) w:=by rw[zO];exact h
 refine mid_apart h9 e (.inl ?_)
 rcases zq.1 he with rfl|he
 ·exact mL hj
 exact mR he
theorem jOpen (m:DM) (x:MX) (D:DK) (t0:TypeId) (fr0:Nat×Nat) (w:World) (hg:DG D) (hmo:MapOk x.1 x.2 (wv2 D.wait)) (hs:0≤D.steps∧D.steps≤4611686018426000000) (hA:Has w (dO D m x)) (hd:((dO D m x).map (·.1)).Nodup) (hR:Has w [(1,Obj.cells (wv Kc) t0 fr0)]) (hnr:∀e∈[(1,Obj.cells (wv Kc) t0 fr0)],e.1∉(dO D m x).map (·.1)) :
  Calls Tryz.prog 30 #[.pointer (some ⟨m.d,0,none⟩)] w fun e w'=>(∃z:MX×Nat,(openF D).1=0∧MapOk z.1.1 z.1.2 (wv2 (openF D).2.2.wait)∧e=.returned (.tuple #[.pointer (some ⟨z.2,0,none⟩),.int .i64 0])∧∃R1,HP w ((dO D m x).map (·.1)) R1 ((z.2,Obj.cells #[.int .i64 (0:Int),.pointer (some ⟨m.d,0,none⟩),.int .u64 ((openF D).2.1:Int)] 143 (0,0))::dO (openF D).2.2 m z.1) w')∨(∃y:MX,(openF D).1≠0∧MapOk y.1 y.2 (wv2 (openF D).2.2.wait)∧e=.returned (.tuple #[.pointer none,.int .i64 (openF D).1])∧∃R1,HP w ((dO D m x).map (·.1)) R1 (dO (openF D).2.2 m y) w'):=by
 have hnl:=hg.n
 obtain⟨nB,hnB⟩:∃n,n=min 97 D.last.length-1:=⟨_,rfl⟩
 obtain⟨mn,hmn⟩:∃q:Nat,q=min 97 D.last.length:=⟨_,rfl⟩
 have hmm:(if(D.last.length:Int)<(97:Int) then(D.last.length:Int) else(97:Int))=(mn:Int):=by rw[hmn];split <;> omega
 refine enter ((dO D m x).map (·.1)) [(1,Obj.cells (wv Kc) t0 fr0)] ([]++(dO D m x++[])) Tryz.func30 rfl kr (by rw[zm];exact HP.ofL hA hd hR hnr) ?_
 refine Be rfl rfl (y7 (v:=pT m.d) rfl kr) ?_
 rintro kb ⟨hkb,nkb⟩
 refine Ld 2 [1] ?_
 refine Bp 1 [(dS (pT m.d))] none (fun S=>[(cE S kb 0 (pT m.d))]) ⟨(oC 0 rfl rfl),trivial⟩ ?_
 refine Lu (zr (.tuple #[.agg (bv (zR D 0)),.int .i64 (fltF D 0)]) rfl Tryz.func10 rfl rfl kr (fun w1 h=>dRead m x D 0 w1 hg hmo (mem_has h (zE (qv (dO D m x) _) (zj [cl kb #[pT m.d] 26] _))))) ?_
 refine Lq 3 [1,18,19] ?_
 refine Le (zM (z:=(.agg (bv (replicate 512 0)))) rfl kr) ?_
 rintro hb ⟨hhb,nhb⟩
 refine Lu (zC (b:=hb) (off:=0) (vs:=(bv (zR D 0))) (n:=512) rfl kr kr kr ((zP _).trans (yO hg _)) (qF _) 0 (cs:=(bv (replicate 512 0))) (e:=37) kr (by rw[zsz512];omega)) ?_
 refine yF (congrArg (fun(xq:Array Value)=>(([cl hb xq 37,cl kb #[pT m.d] 26]++(dO D m x++[])):LO)) (show _=(bv (zR D 0))from yx (((zP _).trans (yO hg _)).trans zsz512.symm))) ?_
 refine Ld 1 [1,4,5] ?_
 refine Rq [1,4,5,21] ?_
 refine zX rfl (b:=((fltF D 0) != (0:Int))) kr (fun c1r=>?_) (fun c1r=>?_)
 ·have c1:=(bne_iff_ne.1 c1r)
  refine Rq [2,3] ?_
  refine yD rfl (rs:=[.tmp 2,.tmp 3]) rfl [.pointer none,.int .i64 (fltF D 0)] ⟨kr,by kernel_rfl,trivial⟩ (fun w1 hp=>?_)
  have hx:openF D=(fltF D 0,0,D):=op_flt c1
  rw[hx]
  have h9:HP w ((dO D m x).map (·.1)) [(1,Obj.cells (wv Kc) t0 fr0)] (([]:LO)++(dO D m x++[])) w1:=hp.sub (.cons _ (.cons _ (List.Sublist.append (l₁:=dO D m x) (l₂:=dO D m x) (r₁:=[]) slr (zz _))))
  rw[zm]at h9
  exact .inr ⟨x,c1,hmo,rfl,_,h9⟩
 have c1:=(bne_eq_false_iff_eq.1 c1r)
 have hf0:fltF D 0=0:=c1
 have hlp:=flt_pos hf0
 refine Rq [1,4,6] ?_
 refine Cfg.reg rfl [1,4,6,7] [] (Γ':=[(7,[],.int .i64 1),(6,[],.slice none 0 0),(4,[],pT hb),(1,[],pT kb)]) (nd:=(fun _=>[])) (fun _=>kr) trivial ?_
 refine sI 7 (show 1=(((0+1):Nat):Int)from rfl) ?_
 refine ye rfl (ι:=Nat×K.Own) (fun(i,ob)=>[(7,[],iN ((i+1))),(6,[],sO ob i),(4,[],pT hb),(1,[],pT kb)]) (fun(i,ob)=>([cl hb (bv (zR D 0)) 37,cl kb #[pT m.d] 26]++(dO D m x++(Own.o 37 (rows (jblk D i)) ob++[])))) (fun(i,ob)=>(i≤nB)∧(OwnOk ob 512 i (rows (jblk D i)))) (fun(i,ob)=>nB-i) (0,none) ?_ (Conv.mk kr) slr ?_
 ·exact⟨zH _,OwnOk.none _⟩
 rintro⟨i,ob⟩ ⟨hi,hob⟩
 refine Bp 2 [dZ,(dS (pT m.d))] none (fun S=>[(cE S kb 0 (pT m.d))]) ⟨(oC 1 rfl rfl),trivial⟩ ?_
 refine Lu (zr (iN D.last.length) rfl Tryz.func60 rfl rfl kr (fun w1 h=>dSectors m x D w1 (mem_has h (zE (qv (dO D m x) _) (zj [cl hb (bv (zR D 0)) 37,cl kb #[pT m.d] 26] _))))) ?_
 refine Lu (Eff.minI2 (k:=.i64) (a:=(97:Int)) (b:=(D.last.length:Int)) (mn:Int) hmm rfl kr kr) ?_
 refine Ld 1 [1,4,6,7,27] ?_
 refine eC rfl (p:=((((i+1):Nat):Int)<(mn:Int))) kr (fun c2=>?_) (fun c2=>?_)
 ·refine Bp 2 [(dS (pT m.d))] (some [1,4,6,7,31,32]) (fun S=>[(cE S kb 0 (pT m.d))]) ⟨(oC 1 rfl rfl),trivial⟩ ?_
  refine Lu (zr (vs:=[pT m.d,iN ((i+1))]) (.tuple #[.agg (bv (zR D ((i+1:Nat):Int))),.int .i64 0]) rfl Tryz.func10 rfl rfl kr (fun w1 h=>by have h9:=dRead m x D ((i+1:Nat):Int) w1 hg hmo (mem_has h (zE (qv (dO D m x) _) (zj [cl hb (bv (zR D 0)) 37,cl kb #[pT m.d] 26] _)));rw[flt_all hf0 om]at h9;exact h9)) ?_
  refine Lq 3 [1,4,6,7,34,35] ?_
  refine Le (zM (z:=(.agg (bv (replicate 512 0)))) rfl kr) ?_
  rintro xb ⟨hxb,nxb⟩
  refine Lu (zC (b:=xb) (off:=0) (vs:=(bv (zR D ((i+1:Nat):Int)))) (n:=512) rfl kr kr kr ((zP _).trans (yO hg _)) (qF _) 0 (cs:=(bv (replicate 512 0))) (e:=37) kr (by rw[zsz512];omega)) ?_
  refine yF (congrArg (fun(xq:Array Value)=>(([cl xb xq 37,cl hb (bv (zR D 0)) 37,cl kb #[pT m.d] 26]++(dO D m x++(Own.o 37 (rows (jblk D i)) ob++[]))):LO)) (show _=(bv (zR D ((i+1:Nat):Int)))from yx (((zP _).trans (yO hg _)).trans zsz512.symm))) ?_
  refine Ld 1 [1,4,6,7,8,9] ?_
  refine Rq [1,4,6,7,8,9,37] ?_
  refine yb rfl (b:=false) kr rfl ?_
  refine Bp 2 [dZ,(dS (.agg (bv (zR D ((i+1:Nat):Int)))))] (some [1,4,6,7,39,40]) (fun S=>[(lV S 37 xb 0 (.agg (bv (zR D ((i+1:Nat):Int)))))]) ⟨(fun w1 h=>h.oload 0 rfl Tryz.underlying37 rfl (n:=512) kr ((zP _).trans (yO hg _))),trivial⟩ ?_
  refine Le (yR (vs:=(bv (zR D ((i+1:Nat):Int)))) (n:=512) rfl kr Tryz.underlying71 kr (z:=(.agg (bv (replicate 512 0)))) kr ((zP _).trans (yO hg _)) (by decide) (by decide)) ?_
  rintro sb4 ⟨hsb4,nsb4⟩
  refine Le (y8 rfl 512 512 Tryz.underlying71 kr (z:=(.agg (bv (replicate 512 0)))) kr kr ob (xs:=(rows (jblk D i))) hob kr (b2:=sb4) (off2:=0) (m:=1) (c2:=1) kr ((bv (zR D ((i+1:Nat):Int))).toList) (by rw[z7,zP,yO hg _]) (qF _) ([(sb4,.cells (bv (zR D ((i+1:Nat):Int))) 37 (0,0)),(xb,.cells (bv (zR D ((i+1:Nat):Int))) 37 (0,0)),(hb,.cells (bv (zR D 0)) 37 (0,0)),(kb,.cells #[.pointer (some ⟨m.d,0,none⟩)] 26 (0,0))]++dO D m x) [] (by rfl) (fun w1 h j v hj=>by rw[zF];exact h.ocell 0 rfl (by rw[←qj];exact hj)) om om) ?_
  rintro o5 ko5
  refine qL 1 [] (some [1,4,6,7]) (Γ':=[(6,[],sO o5 ((i+1))),(7,[],iN ((i+1))),(4,[],pT hb),(1,[],pT kb)]) (nd:=(fun _=>[])) kr (fun _=>kr) trivial ?_
  refine zg rfl ?_
  refine Rg [1,4,6,7] [] (fun _=>[(i6 ((((i+1):Nat):Int)+1))]) ⟨om,trivial⟩ ?_
  have hrv:=jblk_rows D i
  refine zU (congrArg (fun(xq:List Value)=>(([cl sb4 (bv (zR D ((i+1:Nat):Int))) 37,cl xb (bv (zR D ((i+1:Nat):Int))) 37,cl hb (bv (zR D 0)) 37,cl kb #[pT m.d] 26]++(dO D m x++(Own.o 37 xq o5++[]))):LO)) (show _=(rows (jblk D (i+1)))from hrv)) ?_
  refine zG rfl (i+1,o5) ⟨by omega,hrv▸ko5⟩ (by show nB-(i+1)<nB-i;omega) (Conv.mk kr) (.cons _ (.cons _ slr))
 obtain rfl:i=nB:=by omega
 have hjl:(jrows D).length=i:=by unfold jrows;rw[jblk_len];exact hnB.symm
 have hji:jblk D i=jrows D:=by unfold jrows;rw[←hnB]
 rw[hji]at hob
 have hob2:OwnOk ob 512 (jrows D).length (rows (jrows D)):=by rw[hjl];exact hob
 refine zU (congrArg (fun(xq:List Value)=>(([(hb,.cells (bv (zR D 0)) 37 (0,0)),(kb,.cells #[.pointer (some ⟨m.d,0,none⟩)] 26 (0,0))]++(dO D m x++(Own.o 37 xq ob++[]))):LO)) (show _=(rows (jrows D))from by rw[hji])) ?_
 refine y9 (Γ':=[(6,[],sO ob i),(4,[],pT hb),(1,[],pT kb)]) (Conv.mk kr) ?_
 refine zN 6 (congrArg (fun(xq:Nat)=>(sO ob xq:Value)) (show i=((jrows D).length)from hjl.symm)) ?_
 refine Bp 2 [(dS (pT m.d)),(dS (.agg #[.int .i64 0,pT m.d,.int .u64 0]))] (some [1,4,6,44]) (fun S=>[(cE S kb 0 (pT m.d)),(∀w1,S w1→(Instr.build 143 #[(1,pT m.d)]).run Tryz.prog w1=.ok (.agg #[.int .i64 0,pT m.d,.int .u64 0]) w1)]) ⟨(oC 1 rfl rfl),(fun _ _=>kr),trivial⟩ ?_
 refine Le (y7 (v:=.agg #[.int .i64 0,pT m.d,.int .u64 0]) rfl kr) ?_
 rintro jb ⟨hjb,njb⟩
 refine Ld 1 [1,4,6,10] ?_
 refine Bp 2 [(dS (.agg (bv (zR D 0))))] (some [1,10,47,48]) (fun S=>[(lV S 37 hb 0 (.agg (bv (zR D 0))))]) ⟨(fun w1 h=>h.oload 1 rfl Tryz.underlying37 rfl (n:=512) kr ((zP _).trans (yO hg _))),trivial⟩ ?_
 refine Le (zY (vs:=[.agg (bv (zR D 0)),sO ob ((jrows D).length)]) (fun o:K.Own=>.tuple #[.int .u64 ((parN (zR D 0) (jrows D)):Int),.slice (Own.a o) (parL (zR D 0) (jrows D)).length (Own.c o),.bool (parG (zR D 0) (jrows D))]) [] (fun o=>Own.o 101 (jv (parL (zR D 0) (jrows D))) o) (fun o=>OwnOk o 513 (parL (zR D 0) (jrows D)).length (jv (parL (zR D 0) (jrows D)))) [cl jb #[.int .i64 0,pT m.d,.int .u64 0] 143,cl hb (bv (zR D 0)) 37,cl kb #[pT m.d] 26] ([]++(dO D m x++(Own.o 37 (rows (jrows D)) ob++[]))) rfl rfl Tryz.func61 rfl rfl kr (fun w1 h _ _=>by have h9:=jParse (zR D 0) (Own.a ob) (Own.c ob) (jrows D) (Own.o 37 (rows (jrows D)) ob) w1 (yO hg _) (inB_own hob2) (jblk_w hg _) (by rw[hjl];unfold maxLen;omega) (fun e he=>(zq.1 he).elim (fun h1=>h1▸h.ro _ mH) (fun h1=>h.own e (qJ [cl jb #[.int .i64 0,pT m.d,.int .u64 0] 143,cl hb (bv (zR D 0)) 37,cl kb #[pT m.d] 26] (qJ (dO D m x) (mL h1))))) ktK;exact h9)) ?_
 rintro oa hoa
 refine Ld 7 [1,10,11,12,13] ?_
 refine Rq [1,10,11,12,54] ?_
 refine zX rfl (b:=(!(parG (zR D 0) (jrows D)))) kr (fun c4r=>?_) (fun c4r=>?_)
 ·have c4:((parG (zR D 0) (jrows D))=false):=(notT c4r)
  refine Rq [2,3] ?_
  refine yD rfl (rs:=[.tmp 2,.tmp 3]) rfl [pT jb,.int .i64 0] ⟨kr,by kernel_rfl,trivial⟩ (fun w1 hp=>?_)
  have hpg:openG D=false:=by show parG _ _=false;simpa using c4
  have hx:openF D=(0,0,D):=op_no hf0 hpg
  rw[hx]
  have h9:HP w ((dO D m x).map (·.1)) [(1,Obj.cells (wv Kc) t0 fr0)] ([(jb,Obj.cells #[.int .i64 (0:Int),.pointer (some ⟨m.d,0,none⟩),.int .u64 (0:Int)] 143 (0,0))]++(dO D m x++[])) w1:=hp.sub (.cons_cons _ (.cons _ (.cons _ (zE (List.Sublist.append (l₁:=dO D m x) (l₂:=dO D m x) (r₁:=[]) slr (zz _)) (zj (Own.o 101 (jv (parL (zR D 0) (jrows D))) oa) _)))))
  rw[zm]at h9
  exact .inl ⟨(x,jb),rfl,hmo,rfl,_,h9⟩
 have c4:((parG (zR D 0) (jrows D))=true):=(notF c4r)
 have hpg:openG D=true:=by show parG _ _=true;simpa using c4
 refine Bq 2 [10,11,12,56,57] ?_
 refine Le (zY (fun o:K.Own=>.slice (Own.a o) (inD D (parL (zR D 0) (jrows D))).length (Own.c o)) (Own.o 101 (jv (parL (zR D 0) (jrows D))) oa) (fun o=>Own.o 101 (jv (inD D (parL (zR D 0) (jrows D)))) o) (fun o=>OwnOk o 513 (inD D (parL (zR D 0) (jrows D))).length (jv (inD D (parL (zR D 0) (jrows D))))) [cl jb #[.int .i64 0,pT m.d,.int .u64 0] 143,cl hb (bv (zR D 0)) 37,cl kb #[pT m.d] 26] (dO D m x++(Own.o 37 (rows (jrows D)) ob++[])) rfl rfl Tryz.func62 rfl rfl kr (fun w1 h hA hd=>jDel kb m x D oa (parL (zR D 0) (jrows D)) w1 hoa (parL_w (jblk_w hg _)) (yU parL_96 (by decide)) hA hd (fun e he=>(zq.1 he).elim (fun h1=>h1▸h.own (kb,_) (mL (mG 2 rfl))) (fun h1=>(mem_has h (zE (zE (qv (dO D m x) _) (zj (Own.o 101 (jv (parL (zR D 0) (jrows D))) oa) _)) (zj [cl jb #[.int .i64 0,pT m.d,.int .u64 0] 143,cl hb (bv (zR D 0)) 37,cl kb #[pT m.d] 26] _))) e h1)) (fun e he=>mid_apart (F:=[cl jb #[.int .i64 0,pT m.d,.int .u64 0] 143,cl hb (bv (zR D 0)) 37,cl kb #[pT m.d] 26]) (A:=Own.o 101 (jv (parL (zR D 0) (jrows D))) oa) (T:=(dO D m x++(Own.o 37 (rows (jrows D)) ob++[]))) h e ((zq.1 he).elim (fun h1=>.inl (h1▸mG 2 rfl)) (fun h1=>.inr (mL h1)))))) ?_
 rintro o2 ho2
 refine qL 1 [] (some [10,11,12]) (Γ':=[(12,[],sO o2 ((inD D (parL (zR D 0) (jrows D))).length)),(11,[],.int .u64 ((parN (zR D 0) (jrows D)):Int)),(10,[],pT jb)]) (nd:=(fun _=>[])) kr (fun _=>kr) trivial ?_
 refine zg rfl ?_
 refine Bq 2 [10,11,59,60] ?_
 refine Le (zY (fun _:MX=>.int .i64 ((layF D (inD D (parL (zR D 0) (jrows D)))).1)) (dO D m x) (fun z=>dO (layF D (inD D (parL (zR D 0) (jrows D)))).2 m z) (fun z=>MapOk z.1 z.2 (wv2 (layF D (inD D (parL (zR D 0) (jrows D)))).2.wait)) ([cl jb #[.int .i64 0,pT m.d,.int .u64 0] 143,cl hb (bv (zR D 0)) 37,cl kb #[pT m.d] 26]++(Own.o 101 (jv (inD D (parL (zR D 0) (jrows D)))) o2)) (Own.o 37 (rows (jrows D)) ob++[]) rfl rfl Tryz.func64 rfl rfl kr (fun w1 h hA hd=>jLay jb 0 0 m x D (Own.a o2) (Own.c o2) (inD D (parL (zR D 0) (jrows D))) (Own.o 101 (jv (inD D (parL (zR D 0) (jrows D)))) o2) w1 hg hA hd (inW_own1 ho2) (inD_w (parL_w (jblk_w hg _)) D) (yU (inD_len D _) (yU parL_96 (by decide))) om hmo (op_has (L:=[cl jb #[.int .i64 0,pT m.d,.int .u64 0] 143,cl hb (bv (zR D 0)) 37,cl kb #[pT m.d] 26]) (S:=Own.o 101 (jv (inD D (parL (zR D 0) (jrows D)))) o2) (T:=(Own.o 37 (rows (jrows D)) ob++[])) (A:=dO D m x) h (mG 0 rfl)) (op_apart (L:=[cl jb #[.int .i64 0,pT m.d,.int .u64 0] 143,cl hb (bv (zR D 0)) 37,cl kb #[pT m.d] 26]) (S:=Own.o 101 (jv (inD D (parL (zR D 0) (jrows D)))) o2) (T:=(Own.o 37 (rows (jrows D)) ob++[])) (A:=dO D m x) h (mG 0 rfl)))) ?_
 rintro x2 hmo2
 refine Ld 1 [10,11,14] ?_
 refine Rq [10,11,14,63] ?_
 refine zX rfl (b:=(((layF D (inD D (parL (zR D 0) (jrows D)))).1) != (0:Int))) kr (fun c5r=>?_) (fun c5r=>?_)
 ·have c5:=(bne_iff_ne.1 c5r)
  refine Rq [2,3] ?_
  refine yD rfl (rs:=[.tmp 2,.tmp 3]) rfl [.pointer none,.int .i64 ((layF D (inD D (parL (zR D 0) (jrows D)))).1)] ⟨kr,by kernel_rfl,trivial⟩ (fun w1 hp=>?_)
  have hx:openF D=((layF D (openL D)).1,0,(layF D (openL D)).2):=op_err hf0 hpg c5
  rw[hx]
  have h9:HP w ((dO D m x).map (·.1)) [(1,Obj.cells (wv Kc) t0 fr0)] (([]:LO)++(dO ((layF D (inD D (parL (zR D 0) (jrows D)))).2) m x2++[])) w1:=hp.sub (.cons _ (.cons _ (.cons _ (zE (List.Sublist.append (l₁:=dO ((layF D (inD D (parL (zR D 0) (jrows D)))).2) m x2) (l₂:=dO ((layF D (inD D (parL (zR D 0) (jrows D)))).2) m x2) (r₁:=[]) slr (zz _)) (zj (Own.o 101 (jv (inD D (parL (zR D 0) (jrows D)))) o2) _)))))
  rw[zm]at h9
  exact .inr ⟨x2,c5,hmo2,rfl,_,h9⟩
 have c5:=(bne_eq_false_iff_eq.1 c5r)
 refine Bq 4 [10,66,68] ?_
 refine Lu (zS (b:=jb) (off:=2) (v:=.int .u64 ((parN (zR D 0) (jrows D)):Int)) rfl kr kr rfl kr 0 (cs:=#[.int .i64 0,pT m.d,.int .u64 0]) (e:=143) kr (by simp)) ?_
 refine zg rfl ?_
 refine Cg (Γ':=[(10,[],pT jb)]) ?_
 refine Rq [2,3] ?_
 refine yD rfl (rs:=[.tmp 2,.tmp 3]) rfl [pT jb,.int .i64 0] ⟨kr,by kernel_rfl,trivial⟩ (fun w1 hp=>?_)
 have hx:openF D=(0,(parN (zR D 0) (jrows D)),(layF D (openL D)).2):=op_ok hf0 hpg c5
 rw[hx]
 have h9:HP w ((dO D m x).map (·.1)) [(1,Obj.cells (wv Kc) t0 fr0)] ([(jb,Obj.cells #[.int .i64 (0:Int),.pointer (some ⟨m.d,0,none⟩),.int .u64 ((parN (zR D 0) (jrows D)):Int)] 143 (0,0))]++(dO ((layF D (inD D (parL (zR D 0) (jrows D)))).2) m x2++[])) w1:=hp.sub (.cons_cons _ (.cons _ (.cons _ (zE (List.Sublist.append (l₁:=dO ((layF D (inD D (parL (zR D 0) (jrows D)))).2) m x2) (l₂:=dO ((layF D (inD D (parL (zR D 0) (jrows D)))).2) m x2) (r₁:=[]) slr (zz _)) (zj (Own.o 101 (jv (inD D (parL (zR D 0) (jrows D)))) o2) _)))))
 rw[zm]at h9
 exact .inl ⟨(x2,jb),rfl,hmo2,rfl,_,h9⟩
theorem jOpenOk (m:DM) (x:MX) (D:DK) (t0:TypeId) (fr0:Nat×Nat) (w:World) (hg:DG D) (hmo:MapOk x.1 x.2 (wv2 D.wait)) (hs:0≤D.steps∧D.steps≤4611686018426000000) (hA:Has w (dO D m x)) (hd:((dO D m x).map (·.1)).Nodup) (hR:Has w [(1,Obj.cells (wv Kc) t0 fr0)]) (hnr:∀e∈[(1,Obj.cells (wv Kc) t0 fr0)],e.1∉(dO D m x).map (·.1)) (h0:(openF D).1=0) :
  Calls Tryz.prog 30 #[.pointer (some ⟨m.d,0,none⟩)] w fun e w'=>∃z:MX×Nat,MapOk z.1.1 z.1.2 (wv2 (openF D).2.2.wait)∧e=.returned (.tuple #[.pointer (some ⟨z.2,0,none⟩),.int .i64 0])∧∃R1,HP w ((dO D m x).map (·.1)) R1 ((z.2,Obj.cells #[.int .i64 (0:Int),.pointer (some ⟨m.d,0,none⟩),.int .u64 ((openF D).2.1:Int)] 143 (0,0))::dO (openF D).2.2 m z.1) w':=by
 refine(jOpen m x D t0 fr0 w hg hmo hs hA hd hR hnr).mono ?_
 rintro e w' (⟨z,_,h⟩|⟨y,h1,_⟩)
 ·exact⟨z,h⟩
 exact absurd h0 h1
end
section
open K
structure FM where
 fb:Nat
 jb:Nat
 tb:Nat
 nr:Nat
 rm:Nat
 o:K.Own
 x:Array MapEntry×Nat
def T0 (N:Nat):Tb:=⟨replicate 144 plz,[],newF 121 (N:Int)⟩
def opL (D:DK):Nat→Tb→Bool×Tb
 | 0,T=>(true,T)
 | j+1,T=>if(entL (zR D (97+((23-j:Nat):Int))) (23-j) 6 T).1=true then opL D j (entL (zR D (97+((23-j:Nat):Int))) (23-j) 6 T).2 else(false,(entL (zR D (97+((23-j:Nat):Int))) (23-j) 6 T).2)
theorem opL_step {D:DK} {k:Nat} {T:Tb} (hk:k<24) (h:(entL (zR D (97+(k:Int))) k 6 T).1=true):opL D (24-k) T=opL D (24-(k+1)) (entL (zR D (97+(k:Int))) k 6 T).2:=by
 rw[show 24-k=(24-(k+1))+1 by omega,opL,show 23-(24-(k+1))=k by omega,if_pos h]
theorem opL_stop {D:DK} {k:Nat} {T:Tb} (hk:k<24) (h:¬(entL (zR D (97+(k:Int))) k 6 T).1=true):opL D (24-k) T=(false,(entL (zR D (97+(k:Int))) k 6 T).2):=by
 rw[show 24-k=(24-(k+1))+1 by omega,opL,show 23-(24-(k+1))=k by omega,if_neg h]
theorem T0_ok (N:Nat):TbOk (T0 N):=⟨zk,fun p hp=>by rw[List.eq_of_mem_replicate hp];exact PlOk.z,newF_len 121 (N:Int)⟩
def fO (z:FM) (num:Nat) (m:DM) (T:Tb):List (Nat×Obj):=(z.fb,.cells #[.pointer (some ⟨z.jb,0,none⟩),.pointer (some ⟨z.tb,0,none⟩)] 91 (0,0))::(z.jb,.cells #[.int .i64 0,.pointer (some ⟨m.d,0,none⟩),.int .u64 (num:Int)] 143 (0,0))::tabO z.tb z.nr z.rm T z.o z.x
theorem flt_ok {N:Nat} {D:DK} (hN:D.last.length=N) (hd:D.down=false) {q:Int} (hq:0≤q∧q<(N:Int)):fltF D q=0:=by
 unfold fltF
 rw[if_neg (by rw[hd];decide),if_pos (by rw[hN];exact hq)]
theorem fOpen {N:Nat} (m:DM) (x:MX) (D D2:DK) (num:Nat) (t0:TypeId) (fr0:Nat×Nat) (w:World) (hg:DG D) (hmo:MapOk x.1 x.2 (wv2 D.wait)) (hs:0≤D.steps∧D.steps≤4611686018426000000) (hA:Has w (dO D m x)) (hd:((dO D m x).map (·.1)).Nodup) (hR:Has w [(1,Obj.cells (wv Kc) t0 fr0)]) (hnr:∀e∈[(1,Obj.cells (wv Kc) t0 fr0)],e.1∉(dO D m x).map (·.1)) (hO:openF D=(0,num,D2)) (hg2:DG D2) (hN:D2.last.length=N) (hb9:121<N∧N≤400) (hdn:D2.down=false) :
  Calls Tryz.prog 8 #[.pointer (some ⟨m.d,0,none⟩)] w fun e w'=>((opL D2 24 (T0 N)).1=true∧∃(z:FM) (y:MX),(TbOk (opL D2 24 (T0 N)).2∧Good z.o (opL D2 24 (T0 N)).2.fr∧SMapOk z.x.1 z.x.2 (opL D2 24 (T0 N)).2.W∧MapOk y.1 y.2 (wv2 D2.wait))∧e=.returned (.tuple #[.pointer (some ⟨z.fb,0,none⟩),.int .i64 0])∧∃R1,HP w ((dO D m x).map (·.1)) R1 (fO z num m (opL D2 24 (T0 N)).2++dO D2 m y) w')∨((opL D2 24 (T0 N)).1=false∧∃y:MX,MapOk y.1 y.2 (wv2 D2.wait)∧e=.returned (.tuple #[.pointer none,.int .i64 18])∧∃R1,HP w ((dO D m x).map (·.1)) R1 (dO D2 m y) w'):=by
 refine enter ((dO D m x).map (·.1)) [(1,Obj.cells (wv Kc) t0 fr0)] ([]++(dO D m x++[])) Tryz.func8 rfl kr (by rw[zm];exact HP.ofL hA hd hR hnr) ?_
 refine Rq [0] ?_
 refine Bq 1 [11] ?_
 refine Le (zY (vs:=[pT m.d]) (fun z:MX×Nat=>.tuple #[pT z.2,.int .i64 0]) (dO D m x) (fun z=>(cl z.2 #[.int .i64 (0:Int),pT m.d,.int .u64 (num:Int)] 143)::dO D2 m z.1) (fun z=>MapOk z.1.1 z.1.2 (wv2 D2.wait)) [] [] rfl rfl Tryz.func30 rfl rfl kr (fun w1 h hA1 hd1=>by have h9:=jOpenOk m x D t0 fr0 w1 hg hmo hs hA1 hd1 (fun e he=>h.ro e he) hnr (by rw[hO]);rw[hO]at h9;exact h9)) ?_
 rintro⟨y,jb⟩ hy
 refine Ld 5 [4,5] ?_
 refine Rq [4,5,16] ?_
 refine yb rfl (b:=false) kr rfl ?_
 refine Bq 1 [4,18] ?_
 refine Lu (zr (iN D2.last.length) rfl Tryz.func31 rfl rfl kr (fun w1 h=>jSectors jb 0 num m y D2 w1 (fun e he=>(zq.1 he).elim (fun h1=>h1▸(h.own (cl jb #[.int .i64 (0:Int),pT m.d,.int .u64 (num:Int)] 143) (show(cl jb #[.int .i64 (0:Int),pT m.d,.int .u64 (num:Int)] 143)∈([cl jb #[.int .i64 (0:Int),pT m.d,.int .u64 (num:Int)] 143]++(dO D2 m y++[])) from(mL (mG 0 rfl))))) (fun h1=>h.own e (show _∈(([cl jb #[.int .i64 (0:Int),pT m.d,.int .u64 (num:Int)] 143]++(dO D2 m y++[])):LO) from(mR (mL h1))))))) ?_
 refine Ld 1 [4,20] ?_
 refine yb rfl (b:=(decide ((D2.last.length:Int)≤(121:Int)))) kr (decide_eq_false om) ?_
 refine Be rfl rfl (Eff.mapNew rfl) ?_
 rintro nr ⟨hnr2,nnr⟩
 refine Lq 1 [4,21,22] ?_
 refine Lu (zr (iN D2.last.length) rfl Tryz.func31 rfl rfl kr (fun w1 h=>jSectors jb 0 num m y D2 w1 (fun e he=>(zq.1 he).elim (fun h1=>h1▸(h.own (cl jb #[.int .i64 (0:Int),pT m.d,.int .u64 (num:Int)] 143) (show(cl jb #[.int .i64 (0:Int),pT m.d,.int .u64 (num:Int)] 143)∈([(nr,Obj.map #[] 0),cl jb #[.int .i64 (0:Int),pT m.d,.int .u64 (num:Int)] 143]++(dO D2 m y++[])) from(mL (mG 1 rfl))))) (fun h1=>h.own e (show _∈(([(nr,Obj.map #[] 0),cl jb #[.int .i64 (0:Int),pT m.d,.int .u64 (num:Int)] 143]++(dO D2 m y++[])):LO) from(mR (mL h1))))))) ?_
 refine Le (zY (vs:=[.int .i64 121,iN D2.last.length]) (fun z:Nat×K.Own=>pT z.1) [] (fun z=>spO z.1 121 z.2 (newF 121 (N:Int))) (fun z=>Good z.2 (newF 121 (N:Int))) [(nr,.map #[] 0),cl jb #[.int .i64 (0:Int),pT m.d,.int .u64 (num:Int)] 143] ((dO D2 m y++[])) rfl rfl Tryz.func32 rfl rfl kr (fun w1 h _ _=>by have h9:=newU 121 (D2.last.length:Int) w1 (by unfold I64;omega) (by unfold I64;omega);rw[hN]at h9 ⊢;exact h9)) ?_
 rintro⟨rm,o⟩ hgo
 refine qL 1 [(dS (.agg (tbC (T0 N).ps nr rm)))] (some [4,25]) (Γ':=[(25,[],.agg (tbC (T0 N).ps nr rm)),(4,[],pT jb)]) (nd:=(fun S=>[(∀w1,S w1→(Instr.build 88 #[(1,.map (some nr)),(2,pT rm)]).run Tryz.prog w1=.ok (.agg (tbC (T0 N).ps nr rm)) w1)])) kr (fun _=>kr) ⟨(fun w1 _=>kr),trivial⟩ ?_
 refine Le (y7 (v:=.agg (tbC (T0 N).ps nr rm)) rfl kr) ?_
 rintro tb ⟨htb,ntb⟩
 refine Ld 1 [4,6] ?_
 refine Cfg.permO (O':=([cl jb #[.int .i64 (0:Int),pT m.d,.int .u64 (num:Int)] 143,cl tb (tbC (T0 N).ps nr rm) 88,(nr,.map #[] 0)]++(spO rm 121 o (newF 121 (N:Int))++(dO D2 m y++[])))) (List.Perm.append_right _ (List.perm_append_comm (l₁:=[cl tb (tbC (T0 N).ps nr rm) 88,(nr,Obj.map #[] 0)]) (l₂:=[cl jb #[.int .i64 (0:Int),pT m.d,.int .u64 (num:Int)] 143]))) ?_
 refine Rq [4,6,27] ?_
 refine ye rfl (ι:=Nat×Tb×K.Own×Array MapEntry×Nat) (fun(k,T,o,z)=>[(27,[],iN k),(6,[],pT tb),(4,[],pT jb)]) (fun(k,T,o,z)=>([cl jb #[.int .i64 (0:Int),pT m.d,.int .u64 (num:Int)] 143,cl tb (tbC T.ps nr rm) 88,(nr,.map z.1 z.2)]++(spO rm 121 o T.fr++(dO D2 m y++[])))) (fun(k,T,o,z)=>(k≤24)∧(opL D2 (24-k) T=opL D2 24 (T0 N))∧(TbOk T)∧(Good o T.fr)∧(SMapOk z.1 z.2 T.W)) (fun(k,T,o,z)=>24-k) (0,T0 N,o,(#[],0)) ?_ (Conv.mk kr) slr ?_
 ·exact⟨zH _,rfl,T0_ok N,hgo,SMapOk.empty 0⟩
 rintro⟨k,T,o,z⟩ ⟨hk,hra,ht,hgd,hsm⟩
 refine Rq [4,6,27,28] ?_
 refine eC rfl (p:=((k:Int)<(24:Int))) kr (fun c3=>?_) (fun c3=>?_)
 ·refine Rq [4,6,7,27] ?_
  refine Bp 3 [] (some [4,6,7,27,31,33]) (fun _=>[(i6 (97+(k:Int)))]) ⟨om,trivial⟩ ?_
  refine Lu (zr (vs:=[pT jb,.int .i64 (97+(k:Int))]) (.tuple #[.agg (bv (zR D2 (97+(k:Int)))),.int .i64 0]) rfl Tryz.func33 rfl rfl kr (fun w1 h=>by have h9:=jRead jb 0 num m y D2 (97+(k:Int)) w1 hg2 hy (fun e he=>(zq.1 he).elim (fun h1=>h1▸(h.own (cl jb #[.int .i64 (0:Int),pT m.d,.int .u64 (num:Int)] 143) (show(cl jb #[.int .i64 (0:Int),pT m.d,.int .u64 (num:Int)] 143)∈([cl jb #[.int .i64 (0:Int),pT m.d,.int .u64 (num:Int)] 143,cl tb (tbC T.ps nr rm) 88,(nr,Obj.map z.1 z.2)]++(spO rm 121 o T.fr++(dO D2 m y++[]))) from(mL (mG 0 rfl))))) (fun h1=>h.own e (show _∈(([cl jb #[.int .i64 (0:Int),pT m.d,.int .u64 (num:Int)] 143,cl tb (tbC T.ps nr rm) 88,(nr,Obj.map z.1 z.2)]++(spO rm 121 o T.fr++(dO D2 m y++[]))):LO) from(mR (mR (mL h1))))));rw[if_neg (by decide),if_neg (by decide),flt_ok hN hdn om]at h9;exact h9)) ?_
  refine Lq 3 [4,6,7,27,35,36] ?_
  refine Le (zM (z:=(.agg (bv (replicate 512 0)))) rfl kr) ?_
  rintro hb ⟨hhb,nhb⟩
  refine Lu (zC (b:=hb) (off:=0) (vs:=(bv (zR D2 (97+(k:Int))))) (n:=512) rfl kr kr kr ((zP _).trans (yO hg2 _)) (qF _) 0 (cs:=(bv (replicate 512 0))) (e:=37) kr (by rw[zsz512];omega)) ?_
  refine yF (congrArg (fun(xq:Array Value)=>(([cl hb xq 37,cl jb #[.int .i64 (0:Int),pT m.d,.int .u64 (num:Int)] 143,cl tb (tbC T.ps nr rm) 88,(nr,.map z.1 z.2)]++(spO rm 121 o T.fr++(dO D2 m y++[]))):LO)) (show _=(bv (zR D2 (97+(k:Int))))from yx (((zP _).trans (yO hg2 _)).trans zsz512.symm))) ?_
  refine Ld 1 [4,6,7,8,9,27] ?_
  refine Cfg.reg rfl [4,6,7,8,9,27,38] [] (Γ':=[(38,[],.bool false),(9,[],.int .i64 0),(8,[],pT hb),(7,[],iN k),(27,[],iN k),(6,[],pT tb),(4,[],pT jb)]) (nd:=(fun _=>[])) (fun _=>kr) trivial ?_
  refine yb rfl (b:=false) kr rfl ?_
  refine Bp 3 [dZ,dZ,(dS (.agg (bv (zR D2 (97+(k:Int))))))] (some [4,6,27,40,41,42]) (fun S=>[(lV S 37 hb 0 (.agg (bv (zR D2 (97+(k:Int))))))]) ⟨(fun w1 h=>h.oload 0 rfl Tryz.underlying37 rfl (n:=512) kr ((zP _).trans (yO hg2 _))),trivial⟩ ?_
  refine Le (zY (vs:=[pT tb,iN k,.agg (bv (zR D2 (97+(k:Int))))]) (fun _:K.Own×(Array MapEntry×Nat)=>.bool (entL (zR D2 (97+(k:Int))) k 6 T).1) (tabO tb nr rm T o z) (fun q=>tabO tb nr rm (entL (zR D2 (97+(k:Int))) k 6 T).2 q.1 q.2) (fun q=>TbOk (entL (zR D2 (97+(k:Int))) k 6 T).2∧Good q.1 (entL (zR D2 (97+(k:Int))) k 6 T).2.fr∧SMapOk q.2.1 q.2.2 (entL (zR D2 (97+(k:Int))) k 6 T).2.W) [cl hb (bv (zR D2 (97+(k:Int)))) 37,cl jb #[.int .i64 (0:Int),pT m.d,.int .u64 (num:Int)] 143] ((dO D2 m y++[])) rfl rfl Tryz.func34 rfl rfl kr (fun w1 h hA1 hd1=>(fEnter tb nr rm T o z k (zR D2 (97+(k:Int))) w1 hA1 hd1 ht hgd hsm (yO hg2 _) om).mono fun _ _ ⟨q,a1,a2,a3⟩=>⟨q,a1,a2,a3⟩)) ?_
  rintro⟨o2,z2⟩ ⟨ht2,hgo2,hs2⟩
  refine Ld 1 [4,6,27,44] ?_
  refine zX rfl (b:=(!(entL (zR D2 (97+(k:Int))) k 6 T).1)) kr (fun c5r=>?_) (fun c5r=>?_)
  ·have c5:((entL (zR D2 (97+(k:Int))) k 6 T).1=false):=(notT c5r)
   have hent:¬(entL (zR D2 (97+(k:Int))) k 6 T).1=true:=by simpa using c5
   refine Rq [2,3] ?_
   refine yD rfl (rs:=[.tmp 2,.tmp 3]) rfl [.pointer none,.int .i64 18] ⟨kr,by kernel_rfl,trivial⟩ (fun w1 hp=>?_)
   have hfin:opL D2 24 (T0 N)=(false,(entL (zR D2 (97+(k:Int))) k 6 T).2):=hra.symm.trans (opL_stop om hent)
   have h9:HP w ((dO D m x).map (·.1)) _ (dO D2 m y++[]) w1:=hp.sub (.cons _ (.cons _ (.cons _ (.cons _ (show List.Sublist (dO D2 m y++[]) (spO rm 121 o2 ((entL (zR D2 (97+(k:Int))) k 6 T).2.fr)++(dO D2 m y++[])) from(zE (List.Sublist.append (zQ (dO D2 m y)) (zz _)) (zj (spO rm 121 o2 ((entL (zR D2 (97+(k:Int))) k 6 T).2.fr)) _)))))))
   rw[zm]at h9
   exact .inr ⟨by rw[hfin],y,hy,rfl,_,h9⟩
  have c5:((entL (zR D2 (97+(k:Int))) k 6 T).1=true):=(notF c5r)
  have hent:(entL (zR D2 (97+(k:Int))) k 6 T).1=true:=by simpa using c5
  refine Rg [4,6,27] [] (fun _=>[(i6 ((k:Int)+1))]) ⟨om,trivial⟩ ?_
  refine zG rfl (k+1,(entL (zR D2 (97+(k:Int))) k 6 T).2,o2,z2) ⟨by omega,(opL_step om hent).symm.trans hra,ht2,hgo2,hs2⟩ (by show 24-(k+1)<24-k;omega) (Conv.mk kr) (.cons _ slr)
 refine Bp 3 [dZ,dZ,(dS (.agg #[pT jb,pT tb]))] (some [48]) (fun S=>[(∀w1,S w1→(Instr.build 91 #[(0,pT jb),(1,pT tb)]).run Tryz.prog w1=.ok (.agg #[pT jb,pT tb]) w1)]) ⟨(fun w1 _=>kr),trivial⟩ ?_
 refine Le (y7 (v:=.agg #[pT jb,pT tb]) rfl kr) ?_
 rintro fb ⟨hfb,nfb⟩
 refine Ld 2 [2,3] ?_
 refine yD rfl (rs:=[.tmp 2,.tmp 3]) rfl [pT fb,.int .i64 0] ⟨kr,by kernel_rfl,trivial⟩ (fun w1 hp=>?_)
 have hk4:k=24:=by omega
 subst hk4
 have hfin:opL D2 24 (T0 N)=(true,T):=hra.symm
 rw[hfin]
 have h9:HP w ((dO D m x).map (·.1)) [(1,Obj.cells (wv Kc) t0 fr0)] (fO ⟨fb,jb,tb,nr,rm,o,z⟩ num m T++dO D2 m y) w1:=by
  have h8:=hp
  rw[zm]at h8
  exact h8
 exact .inl ⟨rfl,⟨fb,jb,tb,nr,rm,o,z⟩,y,⟨ht,hgd,hsm,hy⟩,rfl,_,h9⟩
end
namespace K
theorem foldl_splK (off:Nat):∀(vs:List Value) (k:Nat) (cs:Array Value),(vs.zipIdx k).foldl (fun(cs:Array Value) (p:Value×Nat)=>cs.setIfInBounds (off+p.2) p.1) cs=spl cs (off+k) vs
 | [],k,cs=>rfl
 | v::vs,k,cs=>by
  rw[List.zipIdx_cons,q8,foldl_splK off vs (k+1),spl]
  rfl
theorem foldl_arr (off:Nat) (vs cs:Array Value):vs.zipIdx.foldl (fun(cs:Array Value) (p:Value×Nat)=>cs.setIfInBounds (off+p.2) p.1) cs=spl cs off vs.toList:=by
 rw[←Array.foldl_toList,Array.toList_zipIdx,foldl_splK off vs.toList 0];rfl
theorem fill_two {X u v:Array Value} {n:Nat} (hX:X.size=2*n) (hu:u.size=n) (hv:v.size=n):Instr.fill (fun i=>some (i*n,n)) X [(0,.agg u),(1,.agg v)]=some (u.toList++v.toList).toArray:=by
 have hul:u.toList.length=n:=by rw[z7];exact hu
 have hvl:v.toList.length=n:=by rw[z7];exact hv
 have hXl:X.toList.length=2*n:=by rw[z7];exact hX
 have a1:spl X (0*n) u.toList=(u.toList++X.toList.drop n).toArray:=by
  have h:=spl_at (L:=X.toList) (A:=[]) (B:=X.toList.take n) (T:=X.toList.drop n) (vs:=u.toList) (off:=0) (by rw[yM,yz]) rfl (by rw[z8];omega)
  rw[Nat.zero_mul]
  simpa using h
 have a2:spl (u.toList++X.toList.drop n).toArray (1*n) v.toList=(u.toList++v.toList).toArray:=by
  have h:=spl_at (L:=u.toList++X.toList.drop n) (A:=u.toList) (B:=X.toList.drop n) (T:=[]) (vs:=v.toList) (off:=n) (by rw[zm]) hul (by rw[qg];omega)
  rw[Nat.one_mul,h,zm]
 have e1:=(foldl_arr (0*n) u X).trans a1
 have e2:=(foldl_arr (1*n) v (u.toList++X.toList.drop n).toArray).trans a2
 have hYs:(u.toList++X.toList.drop n).toArray.size=2*n:=by rw[zp,zh,qg];omega
 have h3:¬(u.size≠n):=by omega
 have h4:¬(0*n+u.size>X.size):=by omega
 have h5:¬(v.size≠n):=by omega
 have h6:¬(1*n+v.size>(u.toList++X.toList.drop n).toArray.size):=by omega
 unfold Instr.fill
 simp only[Value.cells,h3,h4,decide_false,Bool.or_self,Bool.false_eq_true,if_false]
 rw[show Array.foldl (fun cs x=>match x with|(c,j)=>cs.setIfInBounds (0*n+j) c) X u.zipIdx=(u.toList++X.toList.drop n).toArray from e1]
 unfold Instr.fill
 simp only[Value.cells,h5,h6,decide_false,Bool.or_self,Bool.false_eq_true,if_false]
 rw[show Array.foldl (fun cs x=>match x with|(c,j)=>cs.setIfInBounds (1*n+j) c) (u.toList++X.toList.drop n).toArray v.zipIdx=(u.toList++v.toList).toArray from e2]
 rfl
theorem run_buildSlice_agg2 {P:Program} {w:World} {t e:TypeId} {u v:Array Value} {inf:TypeInfo} {z:Value} (ht:P.underlying t=some (.slice e)) (hi:P.info? e=some inf) (hz:inf.zero=some z) (hu:u.size=inf.size) (hv:v.size=inf.size) (h0:0<inf.size) (h1:inf.size≤8388608) :
  (Instr.buildSlice t 2 #[(0,.agg u),(1,.agg v)]).run P w=.ok (.slice (some ⟨w.heap.size,0,none⟩) 2 2) (w.alloc (.cells (u.toList++v.toList).toArray e (0,0))):=by
 have hn:¬2*inf.size>2^24:=by omega
 have hn0:¬2*inf.size=0:=by omega
 have hf:=fill_two (X:=(Array.range (2*inf.size)).map (z.cells[· % z.cells.size]!)) (u:=u) (v:=v) (n:=inf.size) (by simp) hu hv
 have e:(u.toList++v.toList).toArray=u++v:=by apply qq;simp
 rw[e]at hf ⊢
 simp[Instr.buildSlice,zx ht,yT hi,hn,hn0,zeroValue,typeInfo,program,Sem.run,hi,hz,hf,newRow,newObj]
theorem Eff.buildAgg2 {C:Cx} {R O:List (Nat×Obj)} {Γ:Env} {op:Oper} {t e:TypeId} {x y:Operand} {u v:Array Value} (ho:op.op=.buildSlice t 2 #[(0,x),(1,y)]) (hx:opd Γ [] x=some (.agg u)) (hy:opd Γ [] y=some (.agg v)) (ht:C.P.underlying t=some (.slice e)) {n:Nat} (hsz:(C.P.info? e).map (·.size)=some n) {z:Value} (hz0:(C.P.info? e).bind (·.zero)=some z)
  (hu:u.size=n) (hv:v.size=n) (h0:0<n) (h1:n≤8388608) :
  Eff C R O Γ op Nat (fun b=>.slice (some ⟨b,0,none⟩) 2 2) (fun b=>(b,.cells (u.toList++v.toList).toArray e (0,0))::O) (fun b=>C.w0.heap.size≤b∧b∉O.map (·.1)):=by
 refine yL fun a w hs hp=>⟨w.heap.size,w.alloc (.cells (u.toList++v.toList).toArray e (0,0)),⟨hp.ext.size,hp.fresh (zD _)⟩,?_,hp.alloc _⟩
 obtain⟨inf,hi,hse⟩:=zZ.1 hsz
 obtain⟨inf',hi',hz⟩:=qK.1 hz0
 rw[hi]at hi'
 simp only[Option.some.injEq]at hi'
 subst hi'
 subst hse
 have hr:=run_buildSlice_agg2 (P:=C.P) (w:=w) ht hi hz hu hv h0 h1
 have e:(u.toList++v.toList).toArray=u++v:=by apply qq;simp
 rw[e]at hr ⊢
 simp[execOp,ho,yI hs (zW _) hx,yI hs (zW _) hy,hr]
end K
section
open K
def gO (z:FM) (why:Int) (num:Nat) (m:DM) (T:Tb):List (Nat×Obj):=(z.fb,.cells #[.pointer (some ⟨z.jb,0,none⟩),.pointer (some ⟨z.tb,0,none⟩)] 91 (0,0))::(z.jb,.cells #[.int .i64 why,.pointer (some ⟨m.d,0,none⟩),.int .u64 (num:Int)] 143 (0,0))::tabO z.tb z.nr z.rm T z.o z.x
structure FA where
 k:Int
 nm:ByteArray
 t2:ByteArray
 da:ByteArray
def acC (a:FA):Array Value:=#[.int .i64 a.k,.string a.nm,.string a.t2,.string a.da]
structure FaOk (a:FA):Prop where
 n:a.nm.size≤200
 t:a.t2.size≤200
 d:a.da.size≤6000
def chkF (a:FA):Int:=
 if a.k<1∨a.k>3 then 11 else if namB a.nm=false then 12 else if a.k=3∧namB a.t2=false then 12 else if a.k=1∧a.da.size>32768 then 5 else 0
theorem chk_k {a:FA} (h:a.k<1∨a.k>3):chkF a=11:=if_pos h
theorem chk_n {a:FA} (h:¬(a.k<1∨a.k>3)) (h1:namB a.nm=false):chkF a=12:=(if_neg h).trans (if_pos h1)
theorem chk_t {a:FA} (h:¬(a.k<1∨a.k>3)) (h2:a.k=3∧namB a.t2=false):chkF a=12:=(if_neg h).trans (by rw[if_pos h2];split <;> rfl)
theorem chk_d {a:FA} (h:¬(a.k<1∨a.k>3)) (h1:¬namB a.nm=false) (h2:¬(a.k=3∧namB a.t2=false)) (h3:a.k=1∧a.da.size>32768):chkF a=5:=(if_neg h).trans ((if_neg h1).trans ((if_neg h2).trans (if_pos h3)))
theorem chk_0 {a:FA} (h:¬(a.k<1∨a.k>3)) (h1:¬namB a.nm=false) (h2:¬(a.k=3∧namB a.t2=false)) (h3:¬(a.k=1∧a.da.size>32768)):chkF a=0:=(if_neg h).trans ((if_neg h1).trans ((if_neg h2).trans (if_neg h3)))
def zt0:List Value:=(replicate 144 plz).flatMap plc
theorem build_tb {ps:List Pl} {nr rm:Nat} (hl:ps.length=144) (w:World):(Instr.build 88 #[(0,.agg (ps.flatMap plc).toArray),(1,.map (some nr)),(2,.pointer (some ⟨rm,0,none⟩))]).run Tryz.prog w=.ok (.agg (tbC ps nr rm)) w:=by
 refine run_build w 88 _ _ ?_
 have hz:Tryz.prog.built 88 [(0,.agg (ps.flatMap plc).toArray),(1,.map (some nr)),(2,pT rm)]=Instr.fill ((#[(0,432),(432,1),(433,1)]:Array (Nat×Nat))[·]?) (zt0++[Value.map none,Value.pointer none]).toArray [(0,.agg (ps.flatMap plc).toArray),(1,.map (some nr)),(2,pT rm)]:=by kernel_rfl
 have hs:(ps.flatMap plc).length=432:=by rw[plf_len,hl]
 have h1:((Value.agg (ps.flatMap plc).toArray).cells).size=432:=by show(ps.flatMap plc).toArray.size=432;rw[zp,hs]
 have z0:zt0.length=432:=by unfold zt0;rw[plf_len,zk]
 have e0:(Value.agg (ps.flatMap plc).toArray).cells.zipIdx.foldl (fun cs x=>match x with|(c,j)=>cs.setIfInBounds (0+j) c) (zt0++[Value.map none,Value.pointer none]).toArray=(ps.flatMap plc++[Value.map none,Value.pointer none]).toArray:=by
  refine(foldl_arr 0 (ps.flatMap plc).toArray _).trans ?_
  have:=spl_at (L:=zt0++[Value.map none,Value.pointer none]) (A:=[]) (B:=zt0) (T:=[Value.map none,Value.pointer none]) (vs:=ps.flatMap plc) (off:=0) rfl rfl (by rw[hs,z0])
  exact this
 have e1:(Value.map (some nr)).cells.zipIdx.foldl (fun cs x=>match x with|(c,j)=>cs.setIfInBounds (432+j) c) (ps.flatMap plc++[Value.map none,Value.pointer none]).toArray=(ps.flatMap plc++[Value.map (some nr),Value.pointer none]).toArray:=by
  show(ps.flatMap plc++[Value.map none,Value.pointer none]).toArray.setIfInBounds 432 (Value.map (some nr))=_
  rw[qU,qI _ _ om,hs];rfl
 have e2:(pT rm).cells.zipIdx.foldl (fun cs x=>match x with|(c,j)=>cs.setIfInBounds (433+j) c) (ps.flatMap plc++[Value.map (some nr),Value.pointer none]).toArray=tbC ps nr rm:=by
  show(ps.flatMap plc++[Value.map (some nr),Value.pointer none]).toArray.setIfInBounds 433 (Value.pointer (some ⟨rm,0,none⟩))=_
  rw[qU,qI _ _ om,hs];rfl
 have s0:(zt0++[Value.map none,Value.pointer none]).toArray.size=434:=by rw[zp,zh,z0];rfl
 have s1:(ps.flatMap plc++[Value.map none,Value.pointer none]).toArray.size=434:=by rw[zp,zh,hs];rfl
 have s2:(ps.flatMap plc++[Value.map (some nr),Value.pointer none]).toArray.size=434:=by rw[zp,zh,hs];rfl
 have q0:(decide ((Value.agg (ps.flatMap plc).toArray).cells.size≠432) || decide (0+(Value.agg (ps.flatMap plc).toArray).cells.size>(zt0++[Value.map none,Value.pointer none]).toArray.size))=false:=by rw[h1,s0];rfl
 have q1:(decide ((Value.map (some nr)).cells.size≠1) || decide (432+(Value.map (some nr)).cells.size>(ps.flatMap plc++[Value.map none,Value.pointer none]).toArray.size))=false:=by rw[s1];rfl
 have q2:(decide ((pT rm).cells.size≠1) || decide (433+(pT rm).cells.size>(ps.flatMap plc++[Value.map (some nr),Value.pointer none]).toArray.size))=false:=by rw[s2];rfl
 show Tryz.prog.built 88 [(0,.agg (ps.flatMap plc).toArray),(1,.map (some nr)),(2,.pointer (some ⟨rm,0,none⟩))]=_
 rw[hz,Instr.fill]
 show(if(decide ((Value.agg (ps.flatMap plc).toArray).cells.size≠432) || decide (0+(Value.agg (ps.flatMap plc).toArray).cells.size>(zt0++[Value.map none,Value.pointer none]).toArray.size))=true then none else _)=_
 rw[q0,if_neg (by decide),e0,Instr.fill]
 show(if(decide ((Value.map (some nr)).cells.size≠1) || decide (432+(Value.map (some nr)).cells.size>(ps.flatMap plc++[Value.map none,Value.pointer none]).toArray.size))=true then none else _)=_
 rw[q1,if_neg (by decide),e1,Instr.fill]
 show(if(decide ((Value.pointer (some ⟨rm,0,none⟩)).cells.size≠1) || decide (433+(Value.pointer (some ⟨rm,0,none⟩)).cells.size>(ps.flatMap plc++[Value.map (some nr),Value.pointer none]).toArray.size))=true then none else _)=_
 rw[q2,if_neg (by decide),e2];rfl
theorem tb_row {ps:List Pl} {nr rm q:Nat} {v:Value} (h:(ps.flatMap plc)[q]? = some v):(tbC ps nr rm)[q]? = some v:=by
 unfold tbC
 rw[zo,zJ (yu.1 h).1];exact h
theorem fErr (z:FM) (why:Int) (num:Nat) (m:DM) (y:MX) (D:DK) (T:Tb) (w:World) (hR:Has w (gO z why num m T++dO D m y)) :
  Calls Tryz.prog 24 #[.pointer (some ⟨z.fb,0,none⟩)] w fun e w'=>e=.returned (.int .i64 why)∧Ext [] w w':=by
 refine enter [] (gO z why num m T++dO D m y) [] Tryz.func24 rfl kr (yj hR) ?_
 refine Rq [0] ?_
 refine Rq [0,4] ?_
 refine yb rfl (b:=false) kr rfl ?_
 refine Bp 4 [dZ,dZ,dZ,(dS (pT z.jb))] (some [8]) (fun S=>[(∀w1,S w1→w1.cell? ⟨z.fb,0,none⟩=some (pT z.jb))]) ⟨(rC 0 rfl rfl),trivial⟩ ?_
 refine Lu (zr (.int .i64 why) rfl Tryz.func57 rfl rfl kr (fun w1 h=>jErr z.jb why num m y D w1 (h.hasR (fun e he=>(zq.1 he).elim (fun h1=>h1▸mG 1 rfl) (fun h1=>mR h1))))) ?_
 refine Ld 1 [2] ?_
 refine Rt [.int .i64 why] (fun w1 hp=>?_)
 exact⟨rfl,hp.ext⟩
theorem fFree (z:FM) (why:Int) (num:Nat) (m:DM) (y:MX) (D:DK) (T:Tb) (w:World) (hR:Has w (gO z why num m T++dO D m y)) (ho:TbOk T) (hg:Good z.o T.fr) (hm:SMapOk z.x.1 z.x.2 T.W) :
  Calls Tryz.prog 15 #[.pointer (some ⟨z.fb,0,none⟩)] w fun e w'=>e=.returned (.int .i64 (suml (yW T.fr 0):Int))∧Ext [] w w':=by
 have hf9:=ho.f
 refine enter [] (gO z why num m T++dO D m y) [] Tryz.func15 rfl kr (yj hR) ?_
 refine Rq [0] ?_
 refine Rq [0,4] ?_
 refine yb rfl (b:=false) kr rfl ?_
 refine Bp 7 [dZ,dZ,dZ,(dS (pT z.tb)),dZ,dZ,(dS (pT z.rm))] (some [11]) (fun S=>[(∀w1,S w1→w1.cell? ⟨z.fb,1,none⟩=some (pT z.tb)),(∀w1,S w1→w1.cell? ⟨z.tb,433,none⟩=some (pT z.rm))]) ⟨(rC 0 rfl rfl),(fun w1 h=>h.rcell 2 rfl (tb_room ho.l)),trivial⟩ ?_
 refine Lu (zr (iN (suml (yW T.fr 0))) rfl Tryz.func47 rfl rfl kr (fun w1 h=>freeU z.rm 121 z.o T.fr w1 om ho.f hg (h.hasR (fun e he=>mL (zf _ (zf _ (zf _ (zf _ he)))))))) ?_
 refine Ld 1 [2] ?_
 refine Rt [iN (suml (yW T.fr 0))] (fun w1 hp=>?_)
 exact⟨rfl,hp.ext⟩
theorem fHas (z:FM) (why:Int) (num:Nat) (m:DM) (y:MX) (D:DK) (T:Tb) (s:ByteArray) (w:World) (hR:Has w (gO z why num m T++dO D m y)) (ho:TbOk T) (hg:Good z.o T.fr) (hm:SMapOk z.x.1 z.x.2 T.W) :
  Calls Tryz.prog 25 #[.pointer (some ⟨z.fb,0,none⟩),.string s] w fun e w'=>e=.returned (.bool (smget T.W s).isSome)∧Ext [] w w':=by
 refine enter [] (gO z why num m T++dO D m y) [] Tryz.func25 rfl kr (yj hR) ?_
 refine Rq [0,1] ?_
 refine Rq [0,1,8] ?_
 refine yb rfl (b:=false) kr rfl ?_
 refine Bp 8 [dZ,dZ,dZ,(dS (pT z.tb)),dZ,dZ,(dS (.map (some z.nr)))] (some [16,17]) (fun S=>[(∀w1,S w1→w1.cell? ⟨z.fb,1,none⟩=some (pT z.tb)),(∀w1,S w1→w1.cell? ⟨z.tb,432,none⟩=some (.map (some z.nr)))]) ⟨(rC 0 rfl rfl),(fun w1 h=>h.rcell 2 rfl (tb_names ho.l)),trivial⟩ ?_
 refine Lu (Eff.sGet (z:=.int .i64 0) (r:=z.nr) (k:=s) (es:=z.x.1) (ck:=z.x.2) (W:=T.W) rfl Tryz.underlying81 Tryz.underlying9 kr kr kr hm (fun w1 h=>(h.ro _ (mG 3 rfl)))) ?_
 refine Ld 5 [6] ?_
 refine Rq [4] ?_
 refine Rt [.bool (smget T.W s).isSome] (fun w1 hp=>?_)
 exact⟨rfl,hp.ext⟩
theorem fCheck (a:FA) (w:World) (ha:a.nm.size≤maxLen∧a.t2.size≤maxLen) :
  Calls Tryz.prog 75 #[.agg (acC a)] w fun e w'=>e=.returned (.int .i64 (chkF a))∧Ext [] w w':=by
 refine enter [] [] [] Tryz.func75 rfl kr (yy w) ?_
 refine Be rfl rfl (y7 (v:=.agg (acC a)) rfl kr) ?_
 rintro ab ⟨hab,nab⟩
 refine Ld 1 [1] ?_
 refine Rg [1,3] [dZ,(dS (.int .i64 a.k)),dZ,dZ,dZ,(dS (.int .i64 a.k))] (fun S=>[(cE S ab 0 (.int .i64 a.k)),((.bool (decide (a.k<(1:Int))):Value)=.bool false→(cE S ab 0 (.int .i64 a.k)))]) ⟨(oC 0 rfl rfl),(fun g0=>have q0:(¬(a.k<(1:Int))):=(dF (boolV g0));(oC 0 rfl rfl)),trivial⟩ ?_
 refine zX rfl (b:=((decide (a.k<(1:Int))) || (decide (a.k>(3:Int))))) kr (fun c1r=>?_) (fun c1r=>?_)
 ·have c1:((a.k<(1:Int))∨(a.k>(3:Int))):=((orT c1r).elim (fun h=>Or.inl (dT h)) (fun h=>Or.inr (dT h)))
  refine Rq [2] ?_
  refine Rt [.int .i64 11] (fun w1 hp=>?_)
  exact⟨congrArg (fun q=>Ending.returned (.int .i64 q)) (chk_k c1).symm,hp.ext⟩
 have c1:((¬(a.k<(1:Int)))∧(¬(a.k>(3:Int)))):=⟨(dF (orF1 c1r)),(dF (orF2 c1r))⟩
 refine Bp 2 [dZ,(dS (.string a.nm))] (some [1,14]) (fun S=>[(cE S ab 1 (.string a.nm))]) ⟨(oC 0 rfl rfl),trivial⟩ ?_
 refine Lu (zr (.bool (namB a.nm)) rfl Tryz.func14 rfl rfl kr (fun w1 _=>fNamed a.nm w1 ha.1)) ?_
 refine Ld 2 [1,12] ?_
 refine zX rfl (b:=(!(namB a.nm))) kr (fun c2r=>?_) (fun c2r=>?_)
 ·have c2:((namB a.nm)=false):=(notT c2r)
  refine zX rfl (b:=(!(namB a.nm))) kr (fun c3r=>?_) (fun c3r=>?_)
  ·have c3:((namB a.nm)=false):=(notT c3r)
   refine Rq [2] ?_
   refine Rt [.int .i64 12] (fun w1 hp=>?_)
   exact⟨congrArg (fun q=>Ending.returned (.int .i64 q)) (chk_n om c3).symm,hp.ext⟩
  have c3:((namB a.nm)=true):=(notF c3r)
  refine Rg [26] [dZ,(dS (.int .i64 a.k)),dZ,dZ,dZ,(dS (.string a.da))] (fun S=>[(cE S ab 0 (.int .i64 a.k)),((.bool (a.k==(1:Int)):Value)=.bool true→(cE S ab 3 (.string a.da)))]) ⟨(oC 0 rfl rfl),(fun g0=>have q0:(a.k=(1:Int)):=(beq_iff_eq.1 (boolV g0));(oC 0 rfl rfl)),trivial⟩ ?_
  refine zX rfl (b:=((a.k==(1:Int))&&(decide ((a.da.size:Int)>(32768:Int))))) kr (fun c4r=>?_) (fun c4r=>?_)
  ·have c4:((a.k=(1:Int))∧((a.da.size:Int)>(32768:Int))):=⟨(beq_iff_eq.1 (andT1 c4r)),(dT (andT2 c4r))⟩
   refine Cfg.reg rfl [2] [] (Γ':=[(2,[],.int .i64 5)]) (nd:=(fun _=>[])) (fun _=>kr) trivial ?_
   refine Rt [.int .i64 5] (fun w1 hp=>?_)
   rw[c2]at c3
   cases c3
  have c4:((a.k≠(1:Int))∨(¬((a.da.size:Int)>(32768:Int)))):=((andF c4r).elim (fun h=>Or.inl (beq_eq_false_iff_ne.1 h)) (fun h=>Or.inr (dF h)))
  refine Rq [2] ?_
  refine Rt [.int .i64 0] (fun w1 hp=>?_)
  rw[c2]at c3
  cases c3
 have c2:((namB a.nm)=true):=(notF c2r)
 refine Bp 4 [dZ,(dS (.int .i64 a.k))] (some [1,12,20]) (fun S=>[(cE S ab 0 (.int .i64 a.k))]) ⟨(oC 0 rfl rfl),trivial⟩ ?_
 by_cases c5:(a.k==(3:Int))=true
 ·have c5k:(a.k==(3:Int))=true:=c5
  have c5q:=(beq_iff_eq.1 c5k)
  refine qw 20 (b:=(a.k==(3:Int))) kr true c5k ?_
  refine Lp 2 [(1,false,none),(1,false,some (.string a.t2))] (some [1,12,20,22]) (fun S=>[((.bool true:Value)=.bool true),((.bool true:Value)=.bool true),(cE S ab 2 (.string a.t2))]) ⟨rfl,rfl,(oC 0 rfl rfl),trivial⟩ ?_
  refine Lu (zr (.bool (namB a.t2)) rfl Tryz.func14 rfl rfl kr (fun w1 _=>fNamed a.t2 w1 ha.2)) ?_
  refine Lp 3 [(1,false,none)] (some [1,12]) (fun _=>[((.bool true:Value)=.bool true)]) ⟨rfl,trivial⟩ ?_
  refine zg rfl ?_
  refine zX rfl (b:=(!(namB a.t2))) kr (fun c6r=>?_) (fun c6r=>?_)
  ·have c6:((namB a.t2)=false):=(notT c6r)
   refine Rq [2] ?_
   refine Rt [.int .i64 12] (fun w1 hp=>?_)
   exact⟨congrArg (fun q=>Ending.returned (.int .i64 q)) (chk_t om ⟨c5q,c6⟩).symm,hp.ext⟩
  have c6:((namB a.t2)=true):=(notF c6r)
  refine Rg [26] [dZ,(dS (.int .i64 a.k)),dZ,dZ,dZ,(dS (.string a.da))] (fun S=>[(cE S ab 0 (.int .i64 a.k)),((.bool (a.k==(1:Int)):Value)=.bool true→(cE S ab 3 (.string a.da)))]) ⟨(oC 0 rfl rfl),(fun g0=>have q0:(a.k=(1:Int)):=(beq_iff_eq.1 (boolV g0));(oC 0 rfl rfl)),trivial⟩ ?_
  refine zX rfl (b:=((a.k==(1:Int))&&(decide ((a.da.size:Int)>(32768:Int))))) kr (fun c7r=>?_) (fun c7r=>?_)
  ·have c7:((a.k=(1:Int))∧((a.da.size:Int)>(32768:Int))):=⟨(beq_iff_eq.1 (andT1 c7r)),(dT (andT2 c7r))⟩
   refine Rq [2] ?_
   refine Rt [.int .i64 5] (fun w1 hp=>?_)
   exact⟨congrArg (fun q=>Ending.returned (.int .i64 q)) (chk_d om (by rw[c2];decide) (fun h=>by rw[c6]at h;cases h.2) ⟨c7.1,by omega⟩).symm,hp.ext⟩
  have c7:((a.k≠(1:Int))∨(¬((a.da.size:Int)>(32768:Int)))):=((andF c7r).elim (fun h=>Or.inl (beq_eq_false_iff_ne.1 h)) (fun h=>Or.inr (dF h)))
  refine Cfg.reg rfl [2] [] (Γ':=[(2,[],.int .i64 0)]) (nd:=(fun _=>[])) (fun _=>kr) trivial ?_
  refine Rt [.int .i64 0] (fun w1 hp=>?_)
  exact⟨congrArg (fun q=>Ending.returned (.int .i64 q)) (chk_0 om (by rw[c2];decide) (fun h=>by rw[c6]at h;cases h.2) om).symm,hp.ext⟩
 have c5k:(a.k==(3:Int))=false:=(by simpa using c5)
 have c5q:=(beq_eq_false_iff_ne.1 c5k)
 refine qw 20 (b:=(a.k==(3:Int))) kr false c5k ?_
 refine Lp 6 [(2,false,none),(2,false,none),(2,false,none),(2,false,none)] (some [1,12]) (fun _=>[((.bool false:Value)≠.bool true),((.bool false:Value)≠.bool true),((.bool false:Value)≠.bool true),((.bool false:Value)≠.bool true)]) ⟨(by simp),(by simp),(by simp),(by simp),trivial⟩ ?_
 refine zg rfl ?_
 refine yb rfl (b:=false) kr rfl ?_
 refine Rg [26] [dZ,(dS (.int .i64 a.k)),dZ,dZ,dZ,(dS (.string a.da))] (fun S=>[(cE S ab 0 (.int .i64 a.k)),((.bool (a.k==(1:Int)):Value)=.bool true→(cE S ab 3 (.string a.da)))]) ⟨(oC 0 rfl rfl),(fun g0=>have q0:(a.k=(1:Int)):=(beq_iff_eq.1 (boolV g0));(oC 0 rfl rfl)),trivial⟩ ?_
 refine zX rfl (b:=((a.k==(1:Int))&&(decide ((a.da.size:Int)>(32768:Int))))) kr (fun c9r=>?_) (fun c9r=>?_)
 ·have c9:((a.k=(1:Int))∧((a.da.size:Int)>(32768:Int))):=⟨(beq_iff_eq.1 (andT1 c9r)),(dT (andT2 c9r))⟩
  refine Rq [2] ?_
  refine Rt [.int .i64 5] (fun w1 hp=>?_)
  exact⟨congrArg (fun q=>Ending.returned (.int .i64 q)) (chk_d om (by rw[c2];decide) (fun h=>c5q h.1) ⟨c9.1,by omega⟩).symm,hp.ext⟩
 have c9:((a.k≠(1:Int))∨(¬((a.da.size:Int)>(32768:Int)))):=((andF c9r).elim (fun h=>Or.inl (beq_eq_false_iff_ne.1 h)) (fun h=>Or.inr (dF h)))
 refine Rq [2] ?_
 refine Rt [.int .i64 0] (fun w1 hp=>?_)
 exact⟨congrArg (fun q=>Ending.returned (.int .i64 q)) (chk_0 om (by rw[c2];decide) (fun h=>c5q h.1) om).symm,hp.ext⟩
theorem fCopied (z:FM) (why:Int) (num:Nat) (m:DM) (y:MX) (D:DK) (T:Tb) (w:World) (hR:Has w (gO z why num m T++dO D m y)) (ho:TbOk T) (hg:Good z.o T.fr) (hm:SMapOk z.x.1 z.x.2 T.W) :
  Calls Tryz.prog 35 #[.pointer (some ⟨z.tb,0,none⟩)] w fun e w'=>∃q:Nat×Nat×Nat×K.Own,Good q.2.2.2 T.fr∧e=.returned (.pointer (some ⟨q.1,0,none⟩))∧∃R1,HP w [] R1 (tabO q.1 q.2.1 q.2.2.1 T q.2.2.2 z.x) w':=by
 have hf9:=ho.f
 refine enter [] (gO z why num m T++dO D m y) [] Tryz.func35 rfl kr (yj hR) ?_
 refine Rq [0] ?_
 refine yo rfl kr [] ?_
 refine Ap [0,1,2,3,4,5,6,7,9,10,11,12] [dZ,dZ,dZ,(dS (.agg (T.ps.flatMap plc).toArray)),dZ,dZ,dZ,(dS (.map (some z.nr))),dZ,dZ,dZ,(dS (pT z.rm))] (some [6,10,15]) (bF 7935 17) .slnil 5 (fun S=>[(lV S 86 z.tb 0 (.agg (T.ps.flatMap plc).toArray)),(∀w1,S w1→w1.cell? ⟨z.tb,432,none⟩=some (.map (some z.nr))),(∀w1,S w1→w1.cell? ⟨z.tb,433,none⟩=some (pT z.rm))]) ⟨(fun w1 h=>yw (vs:=T.ps.flatMap plc) Tryz.underlying86 rfl kr (by rw[plf_len,ho.l]) (fun q9 v hq9=>h.rcell 2 rfl (by rw[zF];exact tb_row hq9))),(fun w1 h=>h.rcell 2 rfl (tb_names ho.l)),(fun w1 h=>h.rcell 2 rfl (tb_room ho.l)),trivial⟩ ?_
 refine Ae 8 rfl 4  (Eff.callN (fun r2:Nat=>.map (some r2)) (fun r2=>r2) (fun _=>.map z.x.1 z.x.2) (fun _=>True) rfl Tryz.func73 rfl rfl kr (fun w1 h=>mClone z.nr z.x.1 z.x.2 w1 (fun e he=>by rw[zi.1 he];exact(h.ro _ (mG 3 rfl))))) (fun _ _=>zz _) ?_
 rintro nr2 ⟨-,hnr2,nnr2⟩
 refine Ae 13 rfl 3  (zY (fun q:Nat×K.Own=>pT q.1) [] (fun q=>spO q.1 121 q.2 T.fr) (fun q=>Good q.2 T.fr) [(nr2,.map z.x.1 z.x.2)] [] rfl rfl Tryz.func74 rfl rfl kr (fun w1 h _ _=>copyU z.rm 121 z.o T.fr w1 ho.f hg (h.hasR (fun e he=>mL (zf _ (zf _ (zf _ (zf _ he)))))))) (fun _ _=>zz _) ?_
 rintro⟨rm2,o2⟩ hg2
 refine Ap [14] [(dS (.agg (tbC T.ps nr2 rm2)))] (some [17]) (tF 15 2) (.cons _ nL) 2 (fun S=>[(∀w1,S w1→(Instr.build 88 #[(0,.agg (T.ps.flatMap plc).toArray),(1,.map (some nr2)),(2,pT rm2)]).run Tryz.prog w1=.ok (.agg (tbC T.ps nr2 rm2)) w1)]) ⟨(fun w1 _=>build_tb ho.l w1),trivial⟩ ?_
 refine Ae 15 rfl 1  (y7 (v:=.agg (tbC T.ps nr2 rm2)) rfl kr) (fun _ _=>zz _) ?_
 rintro tb2 ⟨htb2,ntb2⟩
 refine Ap [16] [] (some [2]) (tF 17 0) (.cons _ (.cons _ nL)) 0 n0 trivial ?_
 refine z6 kr ?_
 refine Rt [pT tb2] (fun w1 hp=>?_)
 have h9:=hp
 rw[zm]at h9
 exact⟨(tb2,nr2,rm2,o2),hg2,rfl,_,h9⟩
end
section
open K
section
variable {α β:Type}
def gget (W:List (Int×α)) (k:Int):Option α:=match W with
 | []=>none
 | p::W=>if k=p.1 then some p.2 else gget W k
def gset (W:List (Int×α)) (k:Int) (v:α):List (Int×α):=match W with
 | []=>[(k,v)]
 | p::W=>if k=p.1 then(k,v)::W else p::gset W k v
def gdel (W:List (Int×α)) (k:Int):List (Int×α):=match W with
 | []=>[]
 | p::W=>if k=p.1 then W else p::gdel W k
theorem gset_map (f:α→β) (k:Int) (v:α):∀W:List (Int×α),gset (W.map fun p=>(p.1,f p.2)) k (f v)=(gset W k v).map fun p=>(p.1,f p.2)
 | []=>rfl
 | p::W=>by
  simp only[List.map_cons,gset]
  split
  ·rfl
  rw[gset_map f k v W];rfl
theorem gdel_map (f:α→β) (k:Int):∀W:List (Int×α),gdel (W.map fun p=>(p.1,f p.2)) k=(gdel W k).map fun p=>(p.1,f p.2)
 | []=>rfl
 | p::W=>by
  simp only[List.map_cons,gdel]
  split
  ·rfl
  rw[gdel_map f k W];rfl
theorem gget_map (f:α→β) (k:Int):∀W:List (Int×α),gget (W.map fun p=>(p.1,f p.2)) k=(gget W k).map f
 | []=>rfl
 | p::W=>by
  simp only[List.map_cons,gget]
  split
  ·rfl
  exact gget_map f k W
theorem gset_mem {k:Int} {v:α}:∀ {W:List (Int×α)},∀p∈gset W k v,p=(k,v)∨p∈W
 | [],p,hp=>.inl (zi.1 hp)
 | q::W,p,hp=>by
  unfold gset at hp
  split at hp
  ·rcases zq.1 hp with rfl|hp
   ·exact .inl rfl
   exact .inr (zf _ hp)
  rcases zq.1 hp with rfl|hp
  ·exact .inr mH
  exact(gset_mem p hp).elim .inl (fun h=>.inr (zf _ h))
theorem gdel_mem {k:Int}:∀ {W:List (Int×α)},∀p∈gdel W k,p∈W
 | [],p,hp=>hp
 | q::W,p,hp=>by
  unfold gdel at hp
  split at hp
  ·exact zf _ hp
  rcases zq.1 hp with rfl|hp
  ·exact mH
  exact zf _ (gdel_mem p hp)
theorem gset_nodup {k:Int} {v:α}:∀ {W:List (Int×α)},(W.map (·.1)).Nodup→((gset W k v).map (·.1)).Nodup
 | [],_=>qd.2 ⟨(fun h=>by cases h),qX⟩
 | q::W,h=>by
  unfold gset
  rw[yi,qd]at h
  split
  ·rename_i hk
   rw[yi,qd];exact⟨hk▸h.1,h.2⟩
  rename_i hk
  rw[yi,qd]
  refine⟨fun hm=>?_,gset_nodup h.2⟩
  obtain⟨p,hp,e⟩:=zv.1 hm
  rcases gset_mem p hp with rfl|hp
  ·exact hk e
  exact h.1 (zv.2 ⟨p,hp,e⟩)
theorem gdel_nodup {k:Int}:∀ {W:List (Int×α)},(W.map (·.1)).Nodup→((gdel W k).map (·.1)).Nodup
 | [],h=>h
 | q::W,h=>by
  unfold gdel
  rw[yi,qd]at h
  split
  ·exact h.2
  rw[yi,qd]
  refine⟨fun hm=>?_,gdel_nodup h.2⟩
  obtain⟨p,hp,e⟩:=zv.1 hm
  exact h.1 (zv.2 ⟨p,gdel_mem p hp,e⟩)
end
theorem mset_g (k:Int) (v:Value):∀W:List (Int×Value),mset W k v=gset W k v
 | []=>rfl
 | p::W=>by unfold mset gset;rw[mset_g k v W]
theorem mdel_g (k:Int):∀W:List (Int×Value),mdel W k=gdel W k
 | []=>rfl
 | p::W=>by unfold mdel gdel;rw[mdel_g k W]
theorem mget_g (k:Int):∀W:List (Int×Value),mget W k=gget W k
 | []=>rfl
 | p::W=>by unfold mget gget;rw[mget_g k W]
abbrev DE:=MO×ByteArray
def dval (d:DE):Value:=.slice (some ⟨d.1.b,0,none⟩) d.2.size d.1.cap
def dv (Dt:List (Int×DE)):List (Int×Value):=Dt.map fun p=>(p.1,dval p.2)
def dmF (Dt:List (Int×DE)):List (Int×ByteArray):=Dt.map fun p=>(p.1,p.2.2)
def dsO:List DE→List (Nat×Obj)
 | []=>[]
 | d::l=>d.1.o 5 (bv d.2.data.toList).toList++dsO l
structure DtOk (Dt:List (Int×DE)) (Ds:List DE):Prop where
 i:∀p∈Dt,p.2∈Ds
 k:∀p∈Dt,0≤p.1∧p.1<144
 s:∀d∈Ds,MOk d.1 d.2.size (bv d.2.data.toList).toList∧d.2.size≤32768
 nd:(Dt.map (·.1)).Nodup
structure WOk (W:List (ByteArray×Value)):Prop where
 v:∀p∈W,∃q:Nat,q<144∧p.2=.int .i64 (q:Int)
 nd:(W.map (·.1)).Nodup
structure BM where
 bb:Nat
 db:Nat
 tb:Nat
 nr:Nat
 rm:Nat
structure BV where
 o:K.Own
 x:Array MapEntry×Nat
 y:Array MapEntry×Nat
 Dt:List (Int×DE)
 Ds:List DE
def batO (z:BM) (v:BV) (T:Tb):List (Nat×Obj):=(z.bb,.cells #[.pointer (some ⟨z.tb,0,none⟩),.map (some z.db)] 96 (0,0))::(z.db,.map v.y.1 v.y.2)::(z.tb,.cells (tbC T.ps z.nr z.rm) 88 (0,0))::(z.nr,.map v.x.1 v.x.2)::(spO z.rm 121 v.o T.fr++dsO v.Ds)
structure BOk (v:BV) (T:Tb):Prop where
 tb:TbOk T
 w:WOk T.W
 g:Good v.o T.fr
 sm:SMapOk v.x.1 v.x.2 T.W
 m:MapOk v.y.1 v.y.2 (dv v.Dt)
 d:DtOk v.Dt v.Ds
theorem DtOk.put {Dt:List (Int×DE)} {Ds:List DE} (h:DtOk Dt Ds) {k:Nat} (hk:k<144) {d:DE} (hd:MOk d.1 d.2.size (bv d.2.data.toList).toList) (hs:d.2.size≤32768):DtOk (gset Dt (k:Int) d) (d::Ds):=by
 refine⟨fun p hp=>?_,fun p hp=>?_,fun e he=>?_,gset_nodup h.nd⟩
 ·rcases gset_mem p hp with rfl|hp
  ·exact mH
  exact zf _ (h.i p hp)
 ·rcases gset_mem p hp with rfl|hp
  ·exact⟨zT k,by show(k:Int)<144;omega⟩
  exact h.k p hp
 rcases zq.1 he with rfl|he
 ·exact⟨hd,hs⟩
 exact h.s e he
theorem DtOk.del {Dt:List (Int×DE)} {Ds:List DE} (h:DtOk Dt Ds) (k:Int):DtOk (gdel Dt k) Ds:=⟨fun p hp=>h.i p (gdel_mem p hp),fun p hp=>h.k p (gdel_mem p hp),h.s,gdel_nodup h.nd⟩
theorem smset_vals {P:Value→Prop} {W:List (ByteArray×Value)} {k:ByteArray} {v:Value} (hv:P v) (h:∀p∈W,P p.2):∀p∈smset W k v,P p.2:=by
 induction W with
 | nil=>intro p hp;rw[smset]at hp;rw[zi.1 hp];exact hv
 | cons q W ih=>
  intro p hp
  unfold smset at hp
  split at hp
  ·rcases zq.1 hp with rfl|hp
   ·exact hv
   ·exact h p (zf _ hp)
  ·rcases zq.1 hp with rfl|hp
   ·exact h _ mH
   ·exact ih (fun x hx=>h x (zf _ hx)) p hp
theorem WOk.set {W:List (ByteArray×Value)} (h:WOk W) (s:ByteArray) {k:Nat} (hk:k<144):WOk (smset W s (.int .i64 (k:Int))):=
 ⟨smset_vals (P:=fun v=>∃q:Nat,q<144∧v=.int .i64 (q:Int)) ⟨k,hk,rfl⟩ h.v,smset_nodup h.nd⟩
theorem WOk.del {W:List (ByteArray×Value)} (h:WOk W) (s:ByteArray):WOk (smdel W s):=⟨fun p hp=>h.v p (smdel_mem p hp),smdel_nodup h.nd⟩
theorem WOk.nil:WOk []:=⟨(fun p hp=>by cases hp),qX⟩
theorem smget_in {W:List (ByteArray×Value)} {s:ByteArray} {v:Value} (h:smget W s=some v):(s,v)∈W:=by
 induction W with
 | nil=>cases h
 | cons p W ih=>
  unfold smget at h
  split at h
  ·rename_i hk
   injection h with h
   rw[hk,←h];exact mH
  ·exact zf _ (ih h)
theorem WOk.at {W:List (ByteArray×Value)} (h:WOk W) {s:ByteArray} (hs:(smget W s).isSome=true):∃k:Nat,k<144∧smget W s=some (.int .i64 (k:Int)):=by
 obtain⟨v,hv⟩:=qP.1 hs
 obtain⟨q,h1,h2⟩:=h.v _ (smget_in hv)
 exact⟨q,h1,by rw[hv];exact congrArg some h2⟩
def rA (p:Pl) (rb:Nat):Option Addr:=if p.sz=0 then none else some ⟨rb,0,none⟩
def rnO (p:Pl) (rb:Nat):List (Nat×Obj):=if p.sz=0 then[] else[(rb,.cells #[.int .i64 (p.at_:Int),.int .i64 (secs p.sz:Int)] 117 (0,0))]
theorem fRunU (p:Pl) (w:World) (h:PlOk p):Calls Tryz.prog 44 #[.agg (plc p).toArray] w fun e w'=>∃rb:Nat,True∧e=.returned (.slice (rA p rb) (yQ p).length (yQ p).length)∧∃R1,HP w [] R1 (rnO p rb) w':=by
 by_cases h0:p.sz=0
 ·unfold rA rnO yQ
  simp only[if_pos h0]
  refine(fRun0 p w h0).mono ?_
  rintro e w' ⟨rfl,hE⟩
  exact⟨0,trivial,rfl,_,(yy w).calm hE⟩
 unfold rA rnO yQ
 simp only[if_neg h0]
 refine(fRun1 p w om h).mono ?_
 rintro e w' ⟨rb,-,rfl,hs,hb,hE⟩
 have h9:HP w [] [] [] w':=(yy w).calm hE
 exact⟨rb,trivial,rfl,_,h9.add hb (fun h=>by cases h) (.inl hs)⟩
theorem giveP {p:Pl} (ho:PlOk p) (rb rm:Nat) (o:K.Own) (fr:List Bool) (w:World) (hm:fr.length≤4096) (hg:Good o fr) (hA:Has w (spO rm 121 o fr)) (hd:((spO rm 121 o fr).map (·.1)).Nodup) (hR:Has w (rnO p rb)) (hn:∀e∈rnO p rb,e.1∉(spO rm 121 o fr).map (·.1)) :
  Calls Tryz.prog 77 #[.pointer (some ⟨rm,0,none⟩),.slice (rA p rb) (yQ p).length (yQ p).length] w fun e w'=>∃o2:K.Own,Good o2 (yS 121 true (yQ p) fr)∧e=.returned (.int .i64 ((ql 121 fr.length true (yQ p) fr).1:Int))∧∃R1,HP w ((spO rm 121 o fr).map (·.1)) R1 (spO rm 121 o2 (yS 121 true (yQ p) fr)) w':=by
 have h1:=ho.at_
 have h2:=ho.sz
 by_cases h0:p.sz=0
 ·unfold rA yQ
  simp only[if_pos h0]
  exact giveU rm 121 o fr none 0 [] [] w (by unfold I64;omega) hm hg (fun h=>absurd h (by decide)) (zH _) (fun i=>by unfold I64 ra;simp) (fun i=>by unfold I64 rl;simp) hA hd (fun e he=>by cases he) (fun e he=>by cases he)
 unfold rnO at hR hn
 unfold rA yQ
 simp only[if_neg h0]at hR hn ⊢
 exact giveU rm 121 o fr (some ⟨rb,0,none⟩) 1 _ _ w (by unfold I64;omega) hm hg (ins1 rb 117 (p.at_:Int) (secs p.sz:Int)) (by show 1≤maxLen;decide) (ra1 (by unfold I64;omega)) (rl1 (by unfold I64 secs;omega)) hA hd hR hn
theorem HP.giv {w0 w:World} {M:List Nat} {R F Rn Sp Tl:List (Nat×Obj)} (h:HP w0 M R (F++(Rn++(Sp++Tl))) w):Has w Rn∧∀e∈Rn,e.1∉Sp.map (·.1):=by
 refine⟨fun e he=>h.own e (mR (mL he)),fun e he hm=>?_⟩
 have hd:=h.dist
 rw[yf,yf,yf]at hd
 exact(y6.1 (y6.1 hd).2.1).2.2 _ (zv.2 ⟨e,he,rfl⟩) _ (mL hm) rfl
theorem takeF_at {f:Int} {fr:List Bool} {n:Int} (h:(yr f fr n).2.1=0):f≤(yr f fr n).1∧(yr f fr n).1<f+fr.length:=by
 unfold yr at h ⊢
 split at h
 ·cases h
 rename_i hn
 rw[if_neg hn]
 split at h
 ·cases h
 simp only[tkG]at h ⊢
 rw[ql]at h
 split at h
 ·cases h
 split at h
 ·rename_i hi
  unfold inP at hi
  rw[decide_eq_true_eq]at hi
  exact hi
 cases h
def pfx:List Pl→Nat→Int
 | [],_=>-1
 | p::l,i=>if p.nm.size=0 then(i:Int)else pfx l (i+1)
theorem pdrop {l:List Pl} {i:Nat} (h:i<l.length):l.drop i=l.getD i plz::l.drop (i+1):=by
 rw[yn h,getD_of _ h]
theorem pfx_hit {l:List Pl} {i:Nat} (h:i<l.length) (hp:(l.getD i plz).nm.size=0):pfx (l.drop i) i=(i:Int):=by rw[pdrop h,pfx,if_pos hp]
theorem pfx_go {l:List Pl} {i:Nat} (h:i<l.length) (hp:¬(l.getD i plz).nm.size=0):pfx (l.drop i) i=pfx (l.drop (i+1)) (i+1):=by rw[pdrop h,pfx,if_neg hp]
theorem pfx_lt:∀(l:List Pl) (i:Nat),pfx l i = -1∨∃k:Nat,pfx l i=(k:Int)∧k<i+l.length
 | [],i=>.inl rfl
 | p::l,i=>by
  unfold pfx
  split
  ·exact .inr ⟨i,rfl,by rw[zL];omega⟩
  rcases pfx_lt l (i+1)with h|⟨k,h1,h2⟩
  ·exact .inl h
  exact .inr ⟨k,h1,by rw[zL];omega⟩
theorem nm_empty (s:ByteArray):(s.toList==(⟨#[]⟩:ByteArray).toList)=decide (s.size=0):=by
 have h:=ba_len s
 rw[ByteArray.toList_eq,ByteArray.toList_eq,show(⟨#[]⟩:ByteArray).data.toList=[]from rfl]
 cases hd:s.data.toList with
 | nil=>rw[hd]at h;rw[decide_eq_true (by rw[←h];rfl)];rfl
 | cons a l=>rw[hd]at h;rw[decide_eq_false (by rw[←h,zL];omega)];rfl
abbrev Dm:=List (Int×ByteArray)
def putG (T:Tb) (dm:Dm) (nm da:ByteArray) (k:Nat) (fr:List Bool):Int×Tb×Dm:=
 if secs da.size=0 then(0,⟨T.ps.set k ⟨nm,0,da.size⟩,smset T.W nm (.int .i64 (k:Int)),fr⟩,gset dm (k:Int) da)
 else if(yr 121 fr (secs da.size:Int)).2.1≠0 then(((yr 121 fr (secs da.size:Int)).2.1:Int),⟨T.ps,T.W,(yr 121 fr (secs da.size:Int)).2.2⟩,dm)
 else(0,⟨T.ps.set k ⟨nm,(yr 121 fr (secs da.size:Int)).1.toNat,da.size⟩,smset T.W nm (.int .i64 (k:Int)),(yr 121 fr (secs da.size:Int)).2.2⟩,gset dm (k:Int) da)
def vk:Value→Nat
 | .int _ n=>n.toNat
 | _=>0
def putF (T:Tb) (dm:Dm) (nm da:ByteArray):Int×Tb×Dm:=match smget T.W nm with
 | some v=>putG T dm nm da (vk v) (yS 121 true (yQ (T.ps.getD (vk v) plz)) T.fr)
 | none=>if pfx T.ps 0<0 then(6,T,dm)else putG T dm nm da (pfx T.ps 0).toNat T.fr
theorem putF_there {T:Tb} {dm:Dm} {nm da:ByteArray} {k:Nat} (h:smget T.W nm=some (.int .i64 (k:Int))):putF T dm nm da=putG T dm nm da k (yS 121 true (yQ (T.ps.getD k plz)) T.fr):=by unfold putF;rw[h];rfl
theorem putF_new {T:Tb} {dm:Dm} {nm da:ByteArray} {k:Nat} (h:smget T.W nm=none) (hk:pfx T.ps 0=(k:Int)):putF T dm nm da=putG T dm nm da k T.fr:=by unfold putF;rw[h];simp only;rw[if_neg (by omega),hk];rfl
theorem putF_many {T:Tb} {dm:Dm} {nm da:ByteArray} (h:smget T.W nm=none) (hk:pfx T.ps 0<0):putF T dm nm da=(6,T,dm):=by unfold putF;rw[h];exact if_pos hk
theorem fPut1 (p:Pl) (w:World) :
  Calls Tryz.prog 119 #[.agg (plc p).toArray] w fun e w'=>e=.returned (.bool (decide (p.nm.size=0)))∧Ext [] w w':=by
 refine enter [] [] [] Tryz.func119 rfl kr (yy w) ?_
 refine Be rfl rfl (y7 (v:=.agg (plc p).toArray) rfl kr) ?_
 rintro pb ⟨hpb,npb⟩
 refine Ld 1 [1] ?_
 refine Rg [2] [dZ,(dS (.string p.nm))] (fun S=>[(cE S pb 0 (.string p.nm))]) ⟨(oC 0 rfl rfl),trivial⟩ ?_
 refine Rt [.bool (p.nm.toList==(⟨#[]⟩:ByteArray).toList)] (fun w1 hp=>?_)
 exact⟨congrArg (fun q=>Ending.returned (.bool q)) (nm_empty p.nm),hp.ext⟩
theorem fIdx (tb nr rm:Nat) (ps:List Pl) (w:World) (hR:Has w [(tb,.cells (tbC ps nr rm) 88 (0,0))]) (hl:ps.length=144) :
  Calls Tryz.prog 118 #[.slice (some ⟨tb,0,none⟩) 144 144,.func (.func 119) #[] #[]] w fun e w'=>e=.returned (.int .i64 (pfx ps 0))∧Ext [] w w':=by
 refine enter [] [cl tb (tbC ps nr rm) 88] [] Tryz.func118 rfl kr (yj hR) ?_
 refine Rq [0,1] ?_
 refine Rq [0,1,7,8] ?_
 refine ye rfl (ι:=Nat) (fun(i:Nat)=>[(8,[],iN i),(7,[],.int .i64 (144:Int)),(0,[],sP tb 0 144 144),(1,[],.func (.func 119) #[] #[])]) (fun(i:Nat)=>[]) (fun(i:Nat)=>(i≤144)∧(pfx (ps.drop i) i=pfx ps 0)) (fun(i:Nat)=>144-i) 0 ?_ (Conv.mk kr) .slnil ?_
 ·exact⟨zH _,by rw[List.drop_zero]⟩
 rintro i ⟨hi,hx⟩
 refine Rq [0,1,7,8,9] ?_
 refine eC rfl (p:=((i:Int)<(144:Int))) kr (fun c1=>?_) (fun c1=>?_)
 ·refine Rq [0,1,5,7,8] ?_
  refine Bp 5 [dZ,dZ,dZ,dZ,(dS (.agg (plc (ps.getD i plz)).toArray))] (some [0,1,5,7,8,11,15]) (fun S=>[(iL (i:Int) 144),(lV S 85 tb (i*3) (.agg (plc (ps.getD i plz)).toArray))]) ⟨om,(fun w1 h=>yw (vs:=plc (ps.getD i plz)) Tryz.underlying85 rfl kr (plc_len _) (fun q9 v hq9=>h.rcell 0 rfl ((congrArg (fun z=>(tbC ps nr rm)[z]?) (show _=i*3+q9 by first|omega|(rw[y4];omega))).trans (tb_cell om hq9)))),trivial⟩ ?_
  refine Le (Eff.callAVC (vs:=[.agg (plc (ps.getD i plz)).toArray]) (.bool (decide ((ps.getD i plz).nm.size=0))) [] rfl kr Tryz.func119 rfl rfl kr (fun w1 h=>fPut1 (ps.getD i plz) w1)) ?_
  rintro⟨⟩ -
  refine zg rfl ?_
  refine Cg (Γ':=[(16,[],.bool (decide ((ps.getD i plz).nm.size=0))),(5,[],iN i),(8,[],iN i),(7,[],.int .i64 (144:Int)),(0,[],sP tb 0 144 144),(1,[],.func (.func 119) #[] #[])]) ?_
  refine eC rfl (p:=((ps.getD i plz).nm.size=0)) kr (fun c2=>?_) (fun c2=>?_)
  ·refine Rq [4] ?_
   refine Rt [iN i] (fun w1 hp=>?_)
   have hh:=pfx_hit (l:=ps) (i:=i) om c2
   exact⟨by rw[←hx,hh];rfl,hp.ext⟩
  refine Rg [0,1,7,8] [] (fun _=>[(i6 ((i:Int)+1))]) ⟨om,trivial⟩ ?_
  have hgo:=pfx_go (l:=ps) (i:=i) om c2
  refine zG rfl (i+1) ⟨by omega,hgo▸hx⟩ (by show 144-(i+1)<144-i;omega) (Conv.mk kr) .slnil
 refine Rq [4] ?_
 refine Rt [.int .i64 (-1)] (fun w1 hp=>?_)
 rw[qe om]at hx
 exact⟨by rw[←hx];rfl,hp.ext⟩
end
end Go.Proofs.YtfgdepggdiibdaaGreatDoor