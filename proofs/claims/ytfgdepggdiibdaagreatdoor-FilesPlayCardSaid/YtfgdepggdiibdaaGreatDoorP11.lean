/- Texts on which the proof of this claim stands: Fr11, Fr12. -/
import Derived.Test.YtfgdepggdiibdaaGreatDoorP10
import Derived.Test.YtfgdepggdiibdaaGreatDoorP2
import Derived.Test.YtfgdepggdiibdaaGreatDoorP1
set_option linter.unusedVariables false
set_option maxRecDepth 100000
set_option maxHeartbeats 8000000
namespace Go.Proofs.YtfgdepggdiibdaaGreatDoor
open List (replicate)
section
open K
theorem free_ct6 (fr:List Bool):suml (yW fr 0)=fr.count true:=by rw[suml_count,List.drop_zero]
structure SE where
 la:Option Addr
 cap:Nat
 l:List FA
def sez:SE:=⟨none,0,[]⟩
def seC (s:SE):List Value:=[Value.slice s.la s.l.length s.cap]
structure SEok (R:List (Nat×Obj)) (s:SE):Prop where
 i:InF acL 4 R s.la s.l
 l:s.l.length≤maxLen
def sN (N:Nat):Fz:=⟨0,newD N,T0 N⟩
theorem own_cap {o:K.Own} {sz n:Nat} {xs:List Value} (h:OwnOk o sz n xs):n≤Own.c o:=by
 cases o with
 | none=>rw[h.nil rfl];exact zH _
 | some p=>exact(h.some p rfl).2
def nxN (N:Nat) (L:List RF) (l:List FA):Nat:=if(qu N l L).1=0 then 144 else 0
def nxV (N:Nat) (L:List RF) (l:List FA):List Value:=if(qu N l L).1=0 then flv (qu N l L).2 else[]
theorem r6Do2 {N:Nat} (qb:Nat) (o:K.Own) (L:List RF) (la:Option Addr) (cap:Nat) (l:List FA) (Rl:List (Nat×Obj)) (T:Tb) (D:DK) (w:World) (hR:Has w (fsO qb N o L++Rl)) (ho:OwnOk o 3 144 (flv L)) (hI:InF acL 4 Rl la l) (hll:l.length≤1000) (hN:121<N∧N≤400) (hrel:Rel N T L) (hdm:DmR D [] L) (hsz:∀a∈l,(a.nm.size≤maxLen∧a.t2.size≤maxLen)∧a.da.size≤1000000) :
  Calls Tryz.prog 18 #[.pointer (some ⟨qb,0,none⟩),.slice la l.length cap] w fun e w'=>∃o2:K.Own,OwnOk o2 3 (nxN N L l) (nxV N L l)∧e=.returned (.tuple #[.slice (Own.a o2) (nxN N L l) (Own.c o2),.int .i64 (qu N l L).1])∧∃R1,HP w [] R1 (Own.o 126 (nxV N L l) o2) w':=by
 refine(r6Do qb o L la cap l Rl T D w hR ho hI hll hN hrel hdm hsz).mono ?_
 unfold nxN nxV
 rintro e w' (⟨h0,o2,h1,rfl,h2⟩|⟨h0,rfl,hx⟩)
 ·rw[if_pos h0,if_pos h0]
  exact⟨o2,h1,by rw[h0],h2⟩
 rw[if_neg h0,if_neg h0]
 have h9:HP w [] [] [] w':=⟨hx,(fun _ h=>by cases h),(fun _ h=>by cases h),(fun _ h=>by cases h),qX,(fun _ h=>by cases h)⟩
 exact⟨none,OwnOk.none _,rfl,[],h9⟩
theorem rel_no {N:Nat} {T:Tb} {L:List RF} (h:Rel N T L) {nm:ByteArray} (hn:namB nm=false):smget T.W nm=none:=by
 rcases w_none h.wk (nm:=nm)with e|⟨k,e⟩
 ·exact e
 obtain⟨h1,h2⟩:=(h.w nm k).1 e
 have h3:=(h.n k (by rw[h2];exact h1)).1
 rw[h2,hn]at h3;cases h3
theorem fm_len {α β:Type} {g:α→List β} {k:Nat}:∀ {l:List α},(∀a∈l,(g a).length≤k)→(l.flatMap g).length≤l.length*k
 | [],_=>zH _
 | a::l,h=>by
  rw[yv,zh,zL,Nat.succ_mul]
  have:=h a mH
  have:=fm_len (l:=l) (fun x hx=>h x (zf _ hx))
  omega
theorem sec_len {N:Nat} {T:Tb} {L:List RF} (h:Rel N T L):(yE L).length≤100000:=by
 unfold yE
 rw[zh]
 have h1:(shWs (L.map yh) 24).length=24:=by unfold shWs;rw[zA,qk]
 have h2:=fm_len (g:=fileR) (k:=64) (l:=L) fun f hf=>by
  rw[fileR_len]
  obtain⟨i,hi,rfl⟩:=qO.1 hf
  have e:L.getD i rfz=L[i]:=by rw[zc,zd hi];rfl
  rw[←e]
  have h3:=h.z i
  have h4:=h.n i
  rcases Nat.eq_zero_or_pos (L.getD i rfz).nm.size with h5|h5
  ·rw[h3 h5];decide
  ·have:=(h4 h5).2.1
   unfold secs;omega
 have:=h.l
 omega
theorem six_zero {n:Nat} (h:n<24):six (replicate 144 plz) n=replicate 6 plz:=by
 unfold six;rw[List.drop_replicate,List.take_replicate,qC om]
theorem sheet_zero {n:Nat} (h:n<24):yN (replicate 144 plz) n=zb:=by
 unfold yN shL;rw[six_zero h];kernel_rfl
theorem on_new {N:Nat}:OnD (newD N) (replicate 144 rfz):=fun w hw=>by
 rw[new_shown]
 unfold yE at hw
 rcases yG.1 hw with h|h
 ·obtain⟨n,hn,rfl⟩:=in_sheet h
  rw[List.map_replicate,toPl_z,sheet_zero hn]
 obtain⟨f,hf,h⟩:=List.mem_flatMap.1 h
 rw[List.eq_of_mem_replicate hf]at h
 cases h
theorem go_sideR {w0 w:World} {M:List Nat} {R L A U T:List (Nat×Obj)} {tab:Nat×Obj} {O:List (Nat×Obj)} (h:HP w0 M R O w) (hO:O=L++(A++T)) (ht:tab∈R) (hU:∀e∈U,e∈R):Has w (tab::U)∧∀e∈tab::U,e.1∉A.map (·.1):=by
 have k:∀e∈tab::U,e∈R:=fun e he=>(zq.1 he).elim (fun h=>h▸ht) (fun h=>hU e h)
 exact⟨fun e he=>h.ro _ (k e he),fun e he hm=>by
  obtain⟨e2,h2,h3⟩:=zv.1 hm
  exact h.away (by rw[hO];exact mR (mL h2)) (k e he) h3⟩
theorem light_sz {l:List FA} (h:lightF l=true):∀a∈l,(a.nm.size≤maxLen∧a.t2.size≤maxLen)∧a.da.size≤1000000:=fun a ha=>by
 have h9:=(light_at h a ha).2
 exact⟨⟨yU h9.n (by decide),yU h9.t (by decide)⟩,yU h9.d (by decide)⟩
theorem sheet_on {N:Nat} {D:DK} {T:Tb} {L:List RF} (hw:Wl N D) (h:Rel N T L) (ho:OnD D L):∀n:Nat,n<24→zR D (97+(n:Int))=yN T.ps n:=fun n hn=>by
 rw[hw.read ⟨by omega,by have:=hw.b;omega⟩,h.ps]
 exact ho ((97:Int)+(n:Int),yN (L.map yh) n) (mL (zv.2 ⟨n,qz.2 hn,rfl⟩))
theorem filesPlayWalk {t0:TypeId} {fr0:Nat×Nat} (c:Nat) (la:Option Addr) (cap:Nat) (sc:List SE) (Rl:List (Nat×Obj)) (w:World) (hc:c<256) (hI:InF seC 1 Rl la sc) (hQ:∀e∈sc,SEok Rl e) (hcl:sc.length≤maxLen) (hR:Has w ((1,Obj.cells (wv Kc) t0 fr0)::Rl)) :
  Calls Tryz.prog 4 #[.int .u8 (c:Int),.slice la sc.length cap] w fun e w'=>e=.returned (.bool true)∧Ext [] w w':=by
 have hl2:sc.length≤9223372036854775807:=hcl
 refine enter [] ((1,Obj.cells (wv Kc) t0 fr0)::Rl) [] Tryz.func4 rfl kr (yj hR) ?_
 refine Rq [0,1] ?_
 refine Cfg.begL rfl ?_
 refine Lu (zr (.bool true) rfl Tryz.func5 rfl rfl kr (fun w1 h=>fAwake w1 (fun e he=>h.ro e (by rw[zi.1 he];exact mH)))) ?_
 refine Ld 1 [0,1,20] ?_
 refine yb rfl (b:=false) kr rfl ?_
 refine Rq [0,1,23] ?_
 refine eC rfl (p:=((sc.length:Int)>(14:Int))) kr (fun c2=>?_) (fun c2=>?_)
 ·refine Rq [4] ?_
  refine Rt [.bool true] (fun w1 hp=>?_)
  exact⟨by simp[resOf],hp.ext⟩
 refine Rg [1,5] [] (fun _=>[(0≤(c:Int)∧0<(255:Int)),(i6 ((c:Int)%255)),(i6 (122+((c:Int)%255)))]) ⟨om,om,om,trivial⟩ ?_
 obtain⟨N,hNe⟩:∃N:Nat,N=122+c%255:=⟨_,rfl⟩
 have hN:121<N∧N≤400:=⟨by omega,by omega⟩
 refine sI 5 (show(122+((c:Int)%255))=(N:Int)from by omega) ?_
 refine Bp 1 [] none n0 trivial ?_
 refine Le (zY (fun y:DM×MX=>.tuple #[pT y.1.d,.int .i64 0]) [] (fun y=>dO (newD N) y.1 y.2) (fun y=>MapOk y.2.1 y.2.2 []) [] [] rfl rfl Tryz.func7 rfl rfl kr (fun w1 h _ _=>dNew N w1 (by have:=hN;omega))) ?_
 rintro⟨m,x⟩ hmo
 refine Ld 5 [1,5,6] ?_
 refine Bp 1 [] none n0 trivial ?_
 refine Le (zY (vs:=[pT m.d]) (fun q:FM×MX=>.tuple #[pT q.1.fb,.int .i64 0]) (dO (newD N) m x) (fun q=>gO q.1 0 (sN N).num m (sN N).T++dO (sN N).D m q.2) (fun q=>FOk q.1 (sN N).T∧MapOk q.2.1 q.2.2 (wv2 (sN N).D.wait)) [] [] rfl rfl Tryz.func8 rfl rfl kr (fun w1 h hA1 hd1=>by have h8:=Wl.new hN;have h7:=op_new hN 24 (zD _);have h9:=fOpenOk m x (newD N) (newD N) 0 t0 fr0 w1 h8.g hmo (new_steps6 N) hA1 hd1 (fun e he=>h.ro e (by rw[zi.1 he];exact mH)) (apart (Fl:=[]) (A:=dO (newD N) m x) (T:=[]) h (fun e he=> (by rw[zi.1 he];exact mH))) (h8.open0 (new_shown 0)) h8.g (newD_len N) hN rfl (by rw[h7]) (by rw[h7];exact WOk.nil);rw[h7]at h9;exact h9)) ?_
 rintro⟨z,y⟩ ⟨hfz,hmy⟩
 refine Ld 5 [1,5,6,8,9] ?_
 refine Rq [1,5,6,8,39] ?_
 refine yb rfl (b:=false) kr rfl ?_
 refine Bq 1 [1,5,6,8,40] ?_
 refine Le ((Eff.reO (A2:=fun q:Nat×K.Own=>match q with|(qb,lo)=>([cl qb #[sO lo 144,iN N] 58]++(Own.o 126 (flv (replicate 144 rfz)) lo++((gO z 0 ((sN N).num) m ((sN N).T)++dO ((sN N).D) m y)++[])))) (zY (vs:=[iN N]) (fun q:Nat×K.Own=>pT q.1) [] (fun q=>fsO q.1 N q.2 (replicate 144 rfz)) (fun q=>OwnOk q.2 3 144 (flv (replicate 144 rfz))) [] ((gO z 0 ((sN N).num) m ((sN N).T)++dO ((sN N).D) m y)++[]) rfl rfl Tryz.func16 rfl rfl kr (fun w1 h _ _=>r6New N w1 hN)) (fun _=>rfl))) ?_
 rintro⟨qb,lo⟩ hlo
 refine Ld 1 [1,5,6,8,10] ?_
 refine Cfg.reg rfl [5,6,8,10,42,43,44] [] (Γ':=[(44,[],.int .i64 0),(43,[],iN sc.length),(42,[],.slice la sc.length cap),(10,[],pT qb),(8,[],pT z.fb),(6,[],pT m.d),(5,[],iN N)]) (nd:=(fun _=>[])) (fun _=>kr) trivial ?_
 refine ye rfl (ι:=Nat×Fz×FM×MX×List RF×K.Own) (fun(i,s,z2,y2,L,lo)=>[(44,[],iN i),(43,[],iN sc.length),(42,[],.slice la sc.length cap),(10,[],pT qb),(8,[],pT z2.fb),(6,[],pT m.d),(5,[],iN N)]) (fun(i,s,z2,y2,L,lo)=>([cl qb #[sO lo 144,iN N] 58]++(Own.o 126 (flv L) lo++((gO z2 0 s.num m s.T++dO s.D m y2)++[])))) (fun(i,s,z2,y2,L,lo)=>(i≤sc.length)∧(OwnOk lo 3 144 (flv L))∧(Wl N s.D)∧(FOk z2 s.T)∧(MapOk y2.1 y2.2 (wv2 s.D.wait))∧(0≤s.D.steps∧s.D.steps≤30000*(i:Int))∧(Rel N s.T L)∧(OnD s.D L)∧(JHd N s.D)) (fun(i,s,z2,y2,L,lo)=>sc.length-i) (0,sN N,z,y,replicate 144 rfz,lo) ?_ (Conv.mk kr) slr ?_
 ·exact⟨zH _,hlo,Wl.new hN,hfz,hmy,⟨Int.le_refl 0,Int.le_refl 0⟩,rel_new hN,on_new,.inl (new_shown 0)⟩
 rintro⟨i,s,z2,y2,L,lo⟩ ⟨hi,hlo,hw,hf,hmy,hst,hrel,hon,hjh⟩
 refine Rq [5,6,8,10,42,43,44,45] ?_
 refine eC rfl (p:=((i:Int)<(sc.length:Int))) kr (fun c4=>?_) (fun c4=>?_)
 ·obtain⟨sb,off,cs,te,fre,hsb,hmem,hcs⟩:=hI om
  obtain⟨E,hEe⟩:∃E,E=sc.getD i sez:=⟨_,rfl⟩
  have hE:=hQ E (by rw[hEe];exact getD_inN om)
  refine zN 42 (show .slice la sc.length cap=.slice (some ⟨sb,off,none⟩) sc.length cap from by rw[hsb]) ?_
  refine Rg [5,6,8,10,11,12,42,43,44] [dZ,dZ,(dS (.slice E.la E.l.length E.cap))] (fun S=>[(iL (i:Int) (sc.length:Int)),(cE S sb (addO off i) (.slice E.la E.l.length E.cap))]) ⟨om,(fun w1 h=>(zI (h.ro _ (zf _ hmem))).trans ((congrArg (fun z=>cs[z]?) (show _=off+i*1+0 by first|(rw[y4];omega)|rw[y4])).trans (fl_cell sez (f:=seC) (sz:=1) (j:=0) (fun x _=>rfl) hcs om (by rw[←hEe];rfl)))),trivial⟩ ?_
  refine Bp 1 [] none n0 trivial ?_
  refine Lu (zr (.bool (lightF E.l)) rfl Tryz.func6 rfl rfl kr (fun w1 h=>fLight E.la E.cap E.l Rl w1 hE.i hE.l (fun e he=>h.ro e (zf _ he)))) ?_
  refine Ld 1 [5,6,8,10,11,12,42,43,44,51] ?_
  refine zX rfl (b:=(!(lightF E.l))) kr (fun c5r=>?_) (fun c5r=>?_)
  ·have c5:((lightF E.l)=false):=(notT c5r)
   refine Rq [4] ?_
   refine Rt [.bool true] (fun w1 hp=>?_)
   exact⟨by simp[resOf],hp.ext⟩
  have c5:((lightF E.l)=true):=(notF c5r)
  have hlt:lightF E.l=true:=by simpa using c5
  have hl12:=light_len hlt
  refine Bq 1 [5,6,8,10,11,12,42,43,44,52] ?_
  refine Lu (zr (.int .i64 s.D.steps) rfl Tryz.func17 rfl rfl kr (fun w1 h=>dSteps m y2 s.D w1 (fun e he=>h.own e (show e∈([cl qb #[sO lo 144,iN N] 58]++(Own.o 126 (flv L) lo++((gO z2 0 s.num m s.T++dO s.D m y2)++[]))) from(mR (mR (mL (mR he)))))))) ?_
  refine Ld 1 [5,6,8,10,11,12,13,42,43,44] ?_
  refine Bp 2 [] none n0 trivial ?_
  refine Le (zY (fun o:K.Own=>sO o E.l.length) [] (fun o=>Own.o 123 (E.l.flatMap acL) o) (fun o=>OwnOk o 4 E.l.length (E.l.flatMap acL)) [cl qb #[sO lo 144,iN N] 58] (Own.o 126 (flv L) lo++((gO z2 0 s.num m s.T++dO s.D m y2)++[])) rfl rfl Tryz.func19 rfl rfl kr (fun w1 h _ _=>lTo E.la E.cap E.l Rl w1 hE.i om (fun e he=>h.ro e (zf _ he)))) ?_
  rintro tq htq
  refine Le (zY (fun o2:K.Own=>.tuple #[sO o2 (nxN N L E.l),.int .i64 (qu N E.l L).1]) [] (fun o2=>Own.o 126 (nxV N L E.l) o2) (fun o2=>OwnOk o2 3 (nxN N L E.l) (nxV N L E.l)) [cl qb #[sO lo 144,iN N] 58] (Own.o 123 (E.l.flatMap acL) tq++(Own.o 126 (flv L) lo++((gO z2 0 s.num m s.T++dO s.D m y2)++[]))) rfl rfl Tryz.func18 rfl rfl kr (fun w1 h _ _=>r6Do2 qb lo L (Own.a tq) (Own.c tq) E.l (Own.o 123 (E.l.flatMap acL) tq) s.T s.D w1 (fun e he=>h.own e (show e∈([cl qb #[sO lo 144,iN N] 58]++(Own.o 123 (E.l.flatMap acL) tq++(Own.o 126 (flv L) lo++((gO z2 0 s.num m s.T++dO s.D m y2)++[])))) from(yG.1 he).elim (fun he=>(zq.1 he).elim (fun he=>mL (by rw[he];exact mH)) (fun he=>(mR (mR (mL he))))) (fun he=>(mR (mL he))))) hlo (own_inf (f:=acL) htq) om hN hrel (hon.dm hrel.l) (light_sz hlt))) ?_
  rintro ln hln
  refine qL 5 [] (some [5,6,8,10,11,12,13,14,15,42,43,44]) (Γ':=[(15,[],.int .i64 ((qu N E.l L).1)),(14,[],sO ln ((nxN N L E.l))),(13,[],.int .i64 s.D.steps),(12,[],.slice E.la E.l.length E.cap),(11,[],iN i),(44,[],iN i),(43,[],iN sc.length),(42,[],sP sb off sc.length cap),(10,[],pT qb),(8,[],pT z2.fb),(6,[],pT m.d),(5,[],iN N)]) (nd:=(fun _=>[])) kr (fun _=>kr) trivial ?_
  refine zg rfl ?_
  refine Bq 2 [5,6,8,10,11,13,14,15,42,43,44,61,62] ?_
  refine Le ((Eff.reO (A2:=fun q:FM×MX=>([cl qb #[sO lo 144,iN N] 58]++(Own.o 126 (nxV N L E.l) ln++(Own.o 123 (E.l.flatMap acL) tq++(Own.o 126 (flv L) lo++((gO q.1 0 ((doF s E.l).2.num) m ((doF s E.l).2.T)++dO ((doF s E.l).2.D) m q.2)++[])))))) (zY (vs:=[pT z2.fb,.slice E.la E.l.length E.cap]) (fun _:FM×MX=>.int .i64 ((doF s E.l).1)) ((gO z2 0 s.num m s.T++dO s.D m y2)) (fun q=>(gO q.1 0 ((doF s E.l).2.num) m ((doF s E.l).2.T)++dO ((doF s E.l).2.D) m q.2)) (fun q=>q.1.fb=z2.fb∧FOk q.1 ((doF s E.l).2.T)∧MapOk q.2.1 q.2.2 (wv2 ((doF s E.l).2.D).wait)∧Wl N ((doF s E.l).2.D)∧s.D.steps≤((doF s E.l).2.D).steps∧((doF s E.l).2.D).steps≤s.D.steps+20000) ([cl qb #[sO lo 144,iN N] 58]++(Own.o 126 (nxV N L E.l) ln)++(Own.o 123 (E.l.flatMap acL) tq)++(Own.o 126 (flv L) lo)) [] (by simp only[List.append_assoc]) rfl Tryz.func9 rfl rfl kr (fun w1 h hA1 hd1=>by have h9:=fDo z2 m y2 s E.la E.cap E.l Rl t0 fr0 w1 hw hf hmy ⟨hst.1,by omega⟩ hA1 hd1 hE.i (fun a ha=>(light_sz hlt a ha).1) om (go_sideR (L:=([cl qb #[sO lo 144,iN N] 58]++(Own.o 126 (nxV N L E.l) ln)++(Own.o 123 (E.l.flatMap acL) tq)++(Own.o 126 (flv L) lo))) (A:=(gO z2 0 s.num m s.T++dO s.D m y2)) (U:=Rl) (T:=[]) h (by simp only[List.append_assoc]) mH (fun e he=>zf _ he)).1 (go_sideR (L:=([cl qb #[sO lo 144,iN N] 58]++(Own.o 126 (nxV N L E.l) ln)++(Own.o 123 (E.l.flatMap acL) tq)++(Own.o 126 (flv L) lo))) (A:=(gO z2 0 s.num m s.T++dO s.D m y2)) (U:=Rl) (T:=[]) h (by simp only[List.append_assoc]) mH (fun e he=>zf _ he)).2;skip;exact h9)) (fun _=>by simp only[List.append_assoc]))) ?_
  rintro⟨z3,y3⟩ ⟨hz3,hf3,hmy3,hw3,hs3⟩
  refine Ld 1 [5,6,8,10,11,13,14,15,16,42,43,44] ?_
  have hdr:=do_rel (l:=E.l) hw hjh hrel hon
  refine Rq [5,6,8,10,11,13,14,15,16,42,43,44,70] ?_
  refine Cfg.share rfl (ι:=List RF×K.Own) (fun(L,lo)=>[(11,[],iN i),(44,[],iN i),(43,[],iN sc.length),(42,[],sP sb off sc.length cap),(10,[],pT qb),(8,[],pT z2.fb),(6,[],pT m.d),(5,[],iN N)]) (fun(L,lo)=>([cl qb #[sO lo 144,iN N] 58]++(Own.o 126 (flv L) lo++((gO z3 0 ((doF s E.l).2.num) m ((doF s E.l).2.T)++dO ((doF s E.l).2.D) m y3)++[])))) (fun(L,lo)=>(OwnOk lo 3 144 (flv L))∧(Rel N (doF s E.l).2.T L)∧(OnD (doF s E.l).2.D L)∧(JHd N (doF s E.l).2.D)) ?_ ?_
  ·rintro⟨L,lo⟩ ⟨hlo,hrel3,hon3,hjh3⟩
   refine Rg [5,6,8,10,42,43,44,97] [] (fun _=>[(0≤(i:Int)∧0<(3:Int))]) ⟨om,trivial⟩ ?_
   refine Cfg.share rfl (ι:=Fz×FM×MX) (fun(s,z2,y2)=>[(44,[],iN i),(43,[],iN sc.length),(42,[],sP sb off sc.length cap),(10,[],pT qb),(8,[],pT z2.fb),(6,[],pT m.d),(5,[],iN N)]) (fun(s,z2,y2)=>([cl qb #[sO lo 144,iN N] 58]++(Own.o 126 (flv L) lo++((gO z2 0 s.num m s.T++dO s.D m y2)++[])))) (fun(s,z2,y2)=>(Wl N s.D)∧(FOk z2 s.T)∧(MapOk y2.1 y2.2 (wv2 s.D.wait))∧(0≤s.D.steps∧s.D.steps≤30000*((i:Int)+1))∧(Rel N s.T L)∧(OnD s.D L)∧(JHd N s.D)) ?_ ?_
   ·rintro⟨s,z2,y2⟩ ⟨hw,hf,hmy,hst,hrel,hon,hjh⟩
    have hl9:=hrel.l
    have hlo9:OwnOk lo 3 L.length (L.flatMap flC):=by rw[hl9];exact hlo
    obtain⟨pb,po,pcs,te9,fre9,hpa,hmem9,hcs9⟩:=own_inf (e:=126) (f:=flC) hlo9 om
    have hcap9:=own_cap hlo9
    have hfree:suml (yW s.T.fr 0)=(frL (frC N (L.map yh))).length:=by rw[frL_cnt,free_ct6,hrel.fr,hrel.ps]
    refine yo rfl kr ([cl qb #[sO lo 144,iN N] 58]++(Own.o 126 (flv L) lo++((gO z2 0 s.num m s.T++dO s.D m y2)++[]))) ?_
    refine Ap [0,1,2,3,4] [dZ,dZ,dZ,dZ,(dS (sP pb po 144 (Own.c lo)))] (some [5,6,8,10,42,43,44,105,109]) (tF 5 31) slr 31 (fun S=>[(cE S qb 0 (sP pb po 144 (Own.c lo)))]) ⟨(fun w1 h=>(h.ocell 0 rfl rfl).trans (congrArg (fun z=>some (Value.slice z 144 (Own.c lo))) hpa)),trivial⟩ ?_
    refine Au 5 rfl 30  (zr (vs:=[pT z2.fb,sP pb po 144 (Own.c lo)]) (.bool true) rfl Tryz.func21 rfl rfl kr (fun w1 h=>by have h9:=lHolds z2 s.num m y2 s.D s.T pb po (Own.c lo) pcs te9 fre9 L (Own.o 126 (flv L) lo) w1 hmem9 hcs9 hcap9 (fun e he=>h.own e (show e∈([cl qb #[sO lo 144,iN N] 58]++(Own.o 126 (flv L) lo++((gO z2 0 s.num m s.T++dO s.D m y2)++[]))) from(yG.1 he).elim (fun he=>(mR (mR (mL he)))) (fun he=>(mR (mL he))))) hrel hw hmy hf hon;rw[hl9]at h9;exact h9)) (fun _ _=>slr) ?_
    refine Ap [6,7,8,9,10,11,12] [dZ,dZ,(1,false,none),(1,false,none),(1,false,none),(1,false,none),(1,false,some (sP pb po 144 (Own.c lo)))] (some [5,6,8,10,42,43,44,112,113,117]) (tF 13 23) slr 23 (fun S=>[((.bool false:Value)=.bool false),((.bool false:Value)=.bool false),((.bool false:Value)=.bool false),((.bool false:Value)=.bool false),((.bool false:Value)=.bool false),(cE S qb 0 (sP pb po 144 (Own.c lo)))]) ⟨rfl,rfl,rfl,rfl,rfl,(fun w1 h=>(h.ocell 0 rfl rfl).trans (congrArg (fun z=>some (Value.slice z 144 (Own.c lo))) hpa)),trivial⟩ ?_
    refine Au 13 rfl 22  (zr (vs:=[pT m.d,sP pb po 144 (Own.c lo)]) (.bool true) rfl Tryz.func22 rfl rfl kr (fun w1 h=>by have h9:=lLaid m y2 s.D pb po (Own.c lo) pcs te9 fre9 L (Own.o 126 (flv L) lo) w1 hmem9 hcs9 hcap9 (fun e he=>h.own e (show e∈([cl qb #[sO lo 144,iN N] 58]++(Own.o 126 (flv L) lo++((gO z2 0 s.num m s.T++dO s.D m y2)++[]))) from(yG.1 he).elim (fun he=>(mR (mR (mL (mR he))))) (fun he=>(mR (mL he))))) hN hrel.fl (hrel.fb hN.2) hw hmy (hrel.sec hN) (sec_len hrel) hon;rw[hl9]at h9;exact h9)) (fun _ _=>slr) ?_
    refine Ap [14,15,16,17,19,20,21,22,23] [(1,false,none),dZ,dZ,(1,false,none),(1,false,none),(1,false,none),(1,false,none),(1,false,some (sP pb po 144 (Own.c lo))),(1,false,none)] (some [5,6,8,10,42,43,44,121,122,127,128]) (bF 16515071 36) slr 13 (fun S=>[((.bool false:Value)=.bool false),((.bool false:Value)=.bool false),((.bool false:Value)=.bool false),((.bool false:Value)=.bool false),((.bool false:Value)=.bool false),((.bool false:Value)=.bool false),(cE S qb 0 (sP pb po 144 (Own.c lo))),((.bool false:Value)=.bool false)]) ⟨rfl,rfl,rfl,rfl,rfl,rfl,(fun w1 h=>(h.ocell 0 rfl rfl).trans (congrArg (fun z=>some (Value.slice z 144 (Own.c lo))) hpa)),rfl,trivial⟩ ?_
    refine Au 18 rfl 12  (zr (iN (suml (yW s.T.fr 0))) rfl Tryz.func15 rfl rfl kr (fun w1 h=>fFree z2 0 s.num m y2 s.D s.T w1 (fun e he=>h.own e (show e∈([cl qb #[sO lo 144,iN N] 58]++(Own.o 126 (flv L) lo++((gO z2 0 s.num m s.T++dO s.D m y2)++[]))) from(mR (mR (mL he))))) hf.tb hf.g hf.sm)) (fun _ _=>slr) ?_
    refine Ae 24 rfl 11  ((Eff.reO (A2:=fun q:Nat×K.Own=>match q with|(sq,so)=>([cl qb #[sO lo 144,iN N] 58,cl sq #[.int .i64 121,iN ((N-121)),sO so ((frL (frC N (L.map yh))).length)] 63]++(Own.o 3 (nv (frL (frC N (L.map yh)))) so++(Own.o 126 (flv L) lo++((gO z2 0 s.num m s.T++dO s.D m y2)++[]))))) (zY (vs:=[sP pb po 144 (Own.c lo),iN N]) (fun q:Nat×K.Own=>pT q.1) [] (fun q=>spD q.1 (N-121) q.2 (frL (frC N (L.map yh)))) (fun q=>OwnOk q.2 1 (frL (frC N (L.map yh))).length (nv (frL (frC N (L.map yh))))) [cl qb #[sO lo 144,iN N] 58] (Own.o 126 (flv L) lo++((gO z2 0 s.num m s.T++dO s.D m y2)++[])) rfl rfl Tryz.func23 rfl rfl kr (fun w1 h _ _=>by have h9:=r6Space N (some ⟨pb,po,none⟩) (Own.c lo) L (Own.o 126 (flv L) lo) w1 (hpa▸own_inf (e:=126) (f:=flC) hlo9) (fun e he=>h.own e (show e∈([cl qb #[sO lo 144,iN N] 58]++(Own.o 126 (flv L) lo++((gO z2 0 s.num m s.T++dO s.D m y2)++[]))) from(mR (mL he)))) om hN hrel.fl;rw[hl9]at h9;exact h9)) (fun _=>rfl))) (by rintro⟨sq,so⟩ hso;exact(cO (.cons _ (show List.Sublist (Own.o 126 (flv L) lo++((gO z2 0 s.num m s.T++dO s.D m y2)++[])) (Own.o 3 (nv (frL (frC N (L.map yh)))) so++(Own.o 126 (flv L) lo++((gO z2 0 s.num m s.T++dO s.D m y2)++[]))) from(zE (List.Sublist.append (zQ (Own.o 126 (flv L) lo)) (List.Sublist.append (zQ ((gO z2 0 s.num m s.T++dO s.D m y2))) nL)) (zj (Own.o 3 (nv (frL (frC N (L.map yh)))) so) _)))))) ?_
    rintro⟨sq,so⟩ hso
    refine CfgA.grow ([cl qb #[sO lo 144,iN N] 58,cl sq #[.int .i64 121,iN ((N-121)),sO so ((frL (frC N (L.map yh))).length)] 63]++(Own.o 3 (nv (frL (frC N (L.map yh)))) so++(Own.o 126 (flv L) lo++((gO z2 0 s.num m s.T++dO s.D m y2)++[])))) (by exact(cO (.cons _ (show List.Sublist (Own.o 126 (flv L) lo++((gO z2 0 s.num m s.T++dO s.D m y2)++[])) (Own.o 3 (nv (frL (frC N (L.map yh)))) so++(Own.o 126 (flv L) lo++((gO z2 0 s.num m s.T++dO s.D m y2)++[]))) from(zE (List.Sublist.append (zQ (Own.o 126 (flv L) lo)) (List.Sublist.append (zQ ((gO z2 0 s.num m s.T++dO s.D m y2))) nL)) (zj (Own.o 3 (nv (frL (frC N (L.map yh)))) so) _)))))) ?_
    refine CfgA.pure [25,26,27,28,29,30,31] [(1,false,none),(1,false,none),(1,false,some (sO so ((frL (frC N (L.map yh))).length))),(1,false,none),(1,false,none)] (some [5,6,8,10,42,43,44,136]) (l':=tF 32 4) kr kr slr 4 rfl (Γ':=[(136,[],.bool (((suml (yW s.T.fr 0)):Int) != ((frL (frC N (L.map yh))).length:Int))),(44,[],iN i),(43,[],iN sc.length),(42,[],sP sb off sc.length cap),(10,[],pT qb),(8,[],pT z2.fb),(6,[],pT m.d),(5,[],iN N)]) (nd:=(fun S=>[((.bool false:Value)=.bool false),((.bool false:Value)=.bool false),((.bool false:Value)=.bool false),(cE S sq 2 (sO so ((frL (frC N (L.map yh))).length))),((.bool false:Value)=.bool false),((.bool false:Value)=.bool false)])) (fun _=>kr) ⟨rfl,rfl,rfl,(oC 1 rfl rfl),rfl,rfl,trivial⟩ ?_
    refine CfgA.known 136 (b:=(((suml (yW s.T.fr 0)):Int) != ((frL (frC N (L.map yh))).length:Int))) kr false (bne_eq_false_iff_eq.2 om) ?_
    refine Ap [32] [(1,false,none)] none (tF 33 3) slr 3 (fun _=>[((.bool false:Value)=.bool false)]) ⟨rfl,trivial⟩ ?_
    refine Au 33 rfl 2  (zr (.int .i64 0) rfl Tryz.func24 rfl rfl kr (fun w1 h=>fErr z2 0 s.num m y2 s.D s.T w1 (fun e he=>h.own e (show e∈([cl qb #[sO lo 144,iN N] 58,cl sq #[.int .i64 121,iN ((N-121)),sO so ((frL (frC N (L.map yh))).length)] 63]++(Own.o 3 (nv (frL (frC N (L.map yh)))) so++(Own.o 126 (flv L) lo++((gO z2 0 s.num m s.T++dO s.D m y2)++[])))) from(mR (mR (mR (mL he)))))))) (fun _ _=>slr) ?_
    refine Ap [34,35] [(1,false,none)] (some [5,6,8,10,42,43,44,140]) (tF 36 0) slr 0 (fun _=>[((.bool false:Value)=.bool false)]) ⟨rfl,trivial⟩ ?_
    refine z6 kr ?_
    refine yb rfl (b:=false) kr rfl ?_
    refine Rg [5,6,8,10,42,43,44] [] (fun _=>[(i6 ((i:Int)+1))]) ⟨om,trivial⟩ ?_
    refine zN 42 (show .slice (some ⟨sb,off,none⟩) sc.length cap=.slice la sc.length cap from by rw[hsb]) ?_
    refine zG rfl (i+1,s,z2,y2,L,lo) ⟨by omega,hlo,hw,hf,hmy,⟨hst.1,by have:=hst.2;omega⟩,hrel,hon,hjh⟩ (by show sc.length-(i+1)<sc.length-i;omega) (Conv.mk kr) (cO (.cons _ (show List.Sublist (Own.o 126 (flv L) lo++((gO z2 0 s.num m s.T++dO s.D m y2)++[])) (Own.o 3 (nv (frL (frC N (L.map yh)))) so++(Own.o 126 (flv L) lo++((gO z2 0 s.num m s.T++dO s.D m y2)++[]))) from(zE (List.Sublist.append (zQ (Own.o 126 (flv L) lo)) (List.Sublist.append (zQ ((gO z2 0 s.num m s.T++dO s.D m y2))) nL)) (zj (Own.o 3 (nv (frL (frC N (L.map yh)))) so) _)))))
   intro hj1
   refine zX rfl (b:=(((i:Int)%3)==(2:Int))) kr (fun c7r=>?_) (fun c7r=>?_)
   ·have c7:=(beq_iff_eq.1 c7r)
    have hs9:=hs3
    obtain⟨num2,D2,hO2,hw5,hj5,hsame,hst5⟩:=open_JH hw3 hjh3
    have hon5:OnD D2 L:=fun w9 hw9=>by rw[hsame w9.1 (hrel3.sec hN w9 hw9).1.1];exact hon3 w9 hw9
    obtain⟨T2,hop2,hrel5⟩:=open_rel hrel3 hN hf3.tb.o (sheet_on hw5 hrel3 hon5)
    refine Cfg.sub (O':=([cl qb #[sO lo 144,iN N] 58]++(Own.o 126 (flv L) lo++(dO ((doF s E.l).2.D) m y3++[])))) ?_ (show List.Sublist ([cl qb #[sO lo 144,iN N] 58]++(Own.o 126 (flv L) lo++(dO ((doF s E.l).2.D) m y3++[]))) ([cl qb #[sO lo 144,iN N] 58]++(Own.o 126 (flv L) lo++((gO z3 0 ((doF s E.l).2.num) m ((doF s E.l).2.T)++dO ((doF s E.l).2.D) m y3)++[])))from List.Sublist.append slr (List.Sublist.append slr (List.Sublist.append (zj _ _) slr)))
    refine Bq 1 [5,6,8,10,42,43,44,99] ?_
    refine Le (zY (vs:=[pT m.d]) (fun q:FM×MX=>.tuple #[pT q.1.fb,.int .i64 0]) (dO (doF s E.l).2.D m y3) (fun q=>gO q.1 0 num2 m T2++dO D2 m q.2) (fun q=>FOk q.1 T2∧MapOk q.2.1 q.2.2 (wv2 D2.wait)) ([cl qb #[sO lo 144,iN N] 58]++(Own.o 126 (flv L) lo)) [] rfl rfl Tryz.func8 rfl rfl kr (fun w1 h hA1 hd1=>by have h9:=fOpenOk m y3 (doF s E.l).2.D D2 num2 t0 fr0 w1 hw3.g hmy3 ⟨by omega,by omega⟩ hA1 hd1 (fun e he=>h.ro e (by rw[zi.1 he];exact mH)) (apart (Fl:=([cl qb #[sO lo 144,iN N] 58]++(Own.o 126 (flv L) lo))) (A:=dO (doF s E.l).2.D m y3) (T:=[]) h (fun e he=> (by rw[zi.1 he];exact mH))) hO2 hw5.g hw5.n hN hw5.d (by rw[hop2]) (by rw[hop2];exact hrel5.wk);rw[hop2]at h9;exact h9)) ?_
    rintro⟨z5,y5⟩ ⟨hf5,hmy5⟩
    refine Ld 5 [5,6,8,10,16,42,43,44] ?_
    refine Rq [5,6,8,10,42,43,44,104] ?_
    refine yb rfl (b:=false) kr rfl ?_
    exact Cfg.joinS hj1 ((⟨num2,D2,T2⟩:Fz),z5,y5) ⟨hw5,hf5,hmy5,⟨by show 0≤D2.steps;omega,by show D2.steps≤_;omega⟩,hrel5,hon5,hj5⟩ rfl (Conv.mk kr) slr
   have c7:=(beq_eq_false_iff_ne.1 c7r)
   refine zN 8 (show .pointer (some ⟨z2.fb,0,none⟩)=.pointer (some ⟨z3.fb,0,none⟩)from by rw[hz3]) ?_
   exact Cfg.joinS hj1 ((doF s E.l).2,z3,y3) ⟨hw3,hf3,hmy3,⟨by omega,by omega⟩,hrel3,hon3,hjh3⟩ rfl (Conv.mk kr) slr
  intro hj2
  refine zX rfl (b:=(((qu N E.l L).1) != (0:Int))) kr (fun c6r=>?_) (fun c6r=>?_)
  ·have c6:=(bne_iff_ne.1 c6r)
   obtain⟨hd1,hd2⟩:=hdr.1 om
   have hd3:(doF s E.l).2.D.steps=s.D.steps:=by rw[hd2]
   refine Bq 4 [5,6,8,10,11,13,42,43,44,76] ?_
   refine qw 76 (b:=(((doF s E.l).1) != ((qu N E.l L).1))) kr false (bne_eq_false_iff_eq.2 om) ?_
   refine Lp 1 [(1,false,none)] none (fun _=>[((.bool false:Value)=.bool false)]) ⟨rfl,trivial⟩ ?_
   refine Lu (zr (.int .i64 (doF s E.l).2.D.steps) rfl Tryz.func17 rfl rfl kr (fun w1 h=>dSteps m y3 ((doF s E.l).2.D) w1 (fun e he=>h.own e (show e∈([cl qb #[sO lo 144,iN N] 58]++(Own.o 126 (nxV N L E.l) ln++(Own.o 123 (E.l.flatMap acL) tq++(Own.o 126 (flv L) lo++((gO z3 0 ((doF s E.l).2.num) m ((doF s E.l).2.T)++dO ((doF s E.l).2.D) m y3)++[]))))) from(mR (mR (mR (mR (mL (mR he)))))))))) ?_
   refine Lp 3 [(1,false,none),(1,false,none)] (some [5,6,8,10,11,42,43,44,81]) (fun _=>[((.bool false:Value)=.bool false),((.bool false:Value)=.bool false)]) ⟨rfl,rfl,trivial⟩ ?_
   refine zg rfl ?_
   refine yb rfl (b:=(((doF s E.l).2.D.steps) != s.D.steps)) kr (bne_eq_false_iff_eq.2 om) ?_
   exact Cfg.joinS hj2 (L,lo) ⟨hlo,by rw[hd2];exact hrel,by rw[hd2];exact hon,by rw[hd2];exact hjh⟩ rfl (Conv.mk kr) (cO (show List.Sublist (Own.o 126 (flv L) lo++((gO z3 0 ((doF s E.l).2.num) m ((doF s E.l).2.T)++dO ((doF s E.l).2.D) m y3)++[])) (Own.o 126 (nxV N L E.l) ln++(Own.o 123 (E.l.flatMap acL) tq++(Own.o 126 (flv L) lo++((gO z3 0 ((doF s E.l).2.num) m ((doF s E.l).2.T)++dO ((doF s E.l).2.D) m y3)++[])))) from(zE (zE (List.Sublist.append (zQ (Own.o 126 (flv L) lo)) (List.Sublist.append (zQ ((gO z3 0 ((doF s E.l).2.num) m ((doF s E.l).2.T)++dO ((doF s E.l).2.D) m y3))) nL)) (zj (Own.o 123 (E.l.flatMap acL) tq) _)) (zj (Own.o 126 (nxV N L E.l) ln) _))))
  have c6:=(bne_eq_false_iff_eq.1 c6r)
  refine Rq [5,6,8,10,11,13,14,16,42,43,44,82] ?_
  refine zX rfl (b:=(((doF s E.l).1)==(15:Int))) kr (fun c13r=>?_) (fun c13r=>?_)
  ·have c13:=(beq_iff_eq.1 c13r)
   have hz:(qu N E.l L).1=0:=by omega
   obtain⟨hb1,hd2,hb3⟩:=(hdr.2 hz).resolve_left (fun x=>by have:=x.1;omega)
   have hd3:(doF s E.l).2.D.steps=s.D.steps:=by rw[hd2]
   have hac:=acts_rel E.l hrel (hon.dm hrel.l)
   have hr5:=(hac.2 (by rw[←hac.1];exact hz)).1
   have hl5:(qu N E.l L).2.length=144:=hr5.l
   have hn5:nxN N L E.l=144:=if_pos hz
   have hv5:nxV N L E.l=flv (qu N E.l L).2:=if_pos hz
   have hln5:OwnOk ln 3 (qu N E.l L).2.length ((qu N E.l L).2.flatMap flC):=by have h9:=hln;rw[hn5,hv5]at h9;rw[hl5];exact h9
   have hrc:96<rcount (doF s E.l).2.D (yE (qu N E.l L).2):=by rw[hd2];exact hb3
   obtain⟨pb,po,pcs,te9,fre9,hpa,hmem9,hcs9⟩:=own_inf (e:=126) (f:=flC) hln5 om
   have hcap9:=own_cap hln5
   refine zU (congrArg (fun(xq:List Value)=>(([cl qb #[sO lo 144,iN N] 58]++(Own.o 126 xq ln++(Own.o 123 (E.l.flatMap acL) tq++(Own.o 126 (flv L) lo++((gO z3 0 ((doF s E.l).2.num) m ((doF s E.l).2.T)++dO ((doF s E.l).2.D) m y3)++[]))))):LO)) (show _=(flv (qu N E.l L).2)from hv5)) ?_
   refine zN 14 (show .slice (Own.a ln) ((nxN N L E.l)) (Own.c ln)=.slice (some ⟨pb,po,none⟩) 144 (Own.c ln)from by rw[hn5,hpa]) ?_
   refine Bq 2 [5,6,8,10,11,13,42,43,44,85,86] ?_
   refine Lu (zr (vs:=[pT m.d,sP pb po 144 (Own.c ln)]) (.int .i64 (rcount (doF s E.l).2.D (yE (qu N E.l L).2):Int)) rfl Tryz.func20 rfl rfl kr (fun w1 h=>by have h9:=lDiffer m y3 (doF s E.l).2.D pb po (Own.c ln) pcs te9 fre9 (qu N E.l L).2 (Own.o 126 (flv (qu N E.l L).2) ln) w1 hmem9 hcs9 hcap9 (fun e he=>h.own e (show e∈([cl qb #[sO lo 144,iN N] 58]++(Own.o 126 (flv (qu N E.l L).2) ln++(Own.o 123 (E.l.flatMap acL) tq++(Own.o 126 (flv L) lo++((gO z3 0 ((doF s E.l).2.num) m ((doF s E.l).2.T)++dO ((doF s E.l).2.D) m y3)++[]))))) from(yG.1 he).elim (fun he=>(mR (mR (mR (mR (mL (mR he))))))) (fun he=>(mR (mL he))))) hN hr5.fl (hr5.fb hN.2) hw3 hmy3 (hr5.sec hN) (sec_len hr5);rw[hl5]at h9;exact h9)) ?_
   refine Lq 2 [5,6,8,10,11,13,42,43,44,89] ?_
   refine qw 89 (b:=(decide (((rcount (doF s E.l).2.D (yE (qu N E.l L).2)):Int)≤(96:Int)))) kr false (by simp only[decide_eq_false_iff_not,Bool.or_eq_false_iff,beq_eq_false_iff_ne,ne_eq];omega) ?_
   refine Lp 1 [(1,false,none)] none (fun _=>[((.bool false:Value)=.bool false)]) ⟨rfl,trivial⟩ ?_
   refine Lu (zr (.int .i64 (doF s E.l).2.D.steps) rfl Tryz.func17 rfl rfl kr (fun w1 h=>dSteps m y3 ((doF s E.l).2.D) w1 (fun e he=>h.own e (show e∈([cl qb #[sO lo 144,iN N] 58]++(Own.o 126 (flv (qu N E.l L).2) ln++(Own.o 123 (E.l.flatMap acL) tq++(Own.o 126 (flv L) lo++((gO z3 0 ((doF s E.l).2.num) m ((doF s E.l).2.T)++dO ((doF s E.l).2.D) m y3)++[]))))) from(mR (mR (mR (mR (mL (mR he)))))))))) ?_
   refine Lp 3 [(1,false,none),(1,false,none)] (some [5,6,8,10,11,42,43,44,94]) (fun _=>[((.bool false:Value)=.bool false),((.bool false:Value)=.bool false)]) ⟨rfl,rfl,trivial⟩ ?_
   refine zg rfl ?_
   refine yb rfl (b:=(((doF s E.l).2.D.steps) != s.D.steps)) kr (bne_eq_false_iff_eq.2 om) ?_
   exact Cfg.joinS hj2 (L,lo) ⟨hlo,by rw[hd2];exact hrel,by rw[hd2];exact hon,by rw[hd2];exact hjh⟩ rfl (Conv.mk kr) (cO (show List.Sublist (Own.o 126 (flv L) lo++((gO z3 0 ((doF s E.l).2.num) m ((doF s E.l).2.T)++dO ((doF s E.l).2.D) m y3)++[])) (Own.o 126 (flv (qu N E.l L).2) ln++(Own.o 123 (E.l.flatMap acL) tq++(Own.o 126 (flv L) lo++((gO z3 0 ((doF s E.l).2.num) m ((doF s E.l).2.T)++dO ((doF s E.l).2.D) m y3)++[])))) from(zE (zE (List.Sublist.append (zQ (Own.o 126 (flv L) lo)) (List.Sublist.append (zQ ((gO z3 0 ((doF s E.l).2.num) m ((doF s E.l).2.T)++dO ((doF s E.l).2.D) m y3))) nL)) (zj (Own.o 123 (E.l.flatMap acL) tq) _)) (zj (Own.o 126 (flv (qu N E.l L).2) ln) _))))
  have c13:=(beq_eq_false_iff_ne.1 c13r)
  have hz:(qu N E.l L).1=0:=by omega
  obtain⟨hb1,hr5,ho5,hj5⟩:=(hdr.2 hz).resolve_right (fun x=>by have:=x.1;omega)
  have hn5:nxN N L E.l=144:=if_pos hz
  have hv5:nxV N L E.l=flv (qu N E.l L).2:=if_pos hz
  have hln5:OwnOk ln 3 144 (flv (qu N E.l L).2):=by have h9:=hln;rw[hn5,hv5]at h9;exact h9
  refine Rq [5,6,8,10,11,14,42,43,44,65] ?_
  refine yb rfl (b:=(((doF s E.l).1) != (0:Int))) kr (bne_eq_false_iff_eq.2 om) ?_
  refine zU (congrArg (fun(xq:List Value)=>(([cl qb #[sO lo 144,iN N] 58]++(Own.o 126 xq ln++(Own.o 123 (E.l.flatMap acL) tq++(Own.o 126 (flv L) lo++((gO z3 0 ((doF s E.l).2.num) m ((doF s E.l).2.T)++dO ((doF s E.l).2.D) m y3)++[]))))):LO)) (show _=(flv (qu N E.l L).2)from hv5)) ?_
  refine zN 14 (congrArg (fun(xq:Nat)=>(sO ln xq:Value)) (show((nxN N L E.l))=144 from hn5)) ?_
  refine Bq 4 [5,6,8,10,11,42,43,44,67,69] ?_
  refine Lu (zS (b:=qb) (off:=0) (v:=sO ln 144) rfl kr kr rfl kr 0 (cs:=#[sO lo 144,iN N]) (e:=58) kr (by show 0<2;decide)) ?_
  refine zg rfl ?_
  refine Cg (Γ':=[(11,[],iN i),(44,[],iN i),(43,[],iN sc.length),(42,[],sP sb off sc.length cap),(10,[],pT qb),(8,[],pT z2.fb),(6,[],pT m.d),(5,[],iN N)]) ?_
  exact Cfg.joinS hj2 ((qu N E.l L).2,ln) ⟨hln5,hr5,ho5,hj5⟩ rfl (Conv.mk kr) (cO (show List.Sublist (Own.o 126 (flv (qu N E.l L).2) ln++((gO z3 0 ((doF s E.l).2.num) m ((doF s E.l).2.T)++dO ((doF s E.l).2.D) m y3)++[])) (Own.o 126 (flv (qu N E.l L).2) ln++(Own.o 123 (E.l.flatMap acL) tq++(Own.o 126 (flv L) lo++((gO z3 0 ((doF s E.l).2.num) m ((doF s E.l).2.T)++dO ((doF s E.l).2.D) m y3)++[])))) from(List.Sublist.append (zQ (Own.o 126 (flv (qu N E.l L).2) ln)) (zE (zE (List.Sublist.append (zQ ((gO z3 0 ((doF s E.l).2.num) m ((doF s E.l).2.T)++dO ((doF s E.l).2.D) m y3))) nL) (zj (Own.o 126 (flv L) lo) _)) (zj (Own.o 123 (E.l.flatMap acL) tq) _)))))
 refine Bq 1 [8,143] ?_
 refine Lu (zr (.tuple #[.string ByteArray.empty,.int .i64 16]) rfl Tryz.func13 rfl rfl kr (fun w1 h=>fReadNo z2 s.num m y2 s.D s.T ⟨#[110,111,32,115,117,99,104,32,102,105,108,101,44,32,98,121,32,105,116,115,32,98,108,97,110,107,115]⟩ w1 (fun e he=>h.own e (show e∈([cl qb #[sO lo 144,iN N] 58]++(Own.o 126 (flv L) lo++((gO z2 0 s.num m s.T++dO s.D m y2)++[]))) from(mR (mR (mL he))))) hf (rel_no hrel kr))) ?_
 refine Ld 5 [8,18] ?_
 refine Bp 4 [dZ,dZ,dZ,(1,false,none)] (some [149,150]) (fun _=>[((.bool true:Value)=.bool true)]) ⟨rfl,trivial⟩ ?_
 refine Lu (zr (vs:=[pT z2.fb,.string ⟨#[]⟩]) (.bool false) rfl Tryz.func25 rfl rfl kr (fun w1 h=>by have h9:=fHas z2 0 s.num m y2 s.D s.T ⟨#[]⟩ w1 (fun e he=>h.own e (show e∈([cl qb #[sO lo 144,iN N] 58]++(Own.o 126 (flv L) lo++((gO z2 0 s.num m s.T++dO s.D m y2)++[]))) from(mR (mR (mL he))))) hf.tb hf.g hf.sm;rw[rel_no hrel kr]at h9;exact h9)) ?_
 refine Lp 3 [(1,false,none)] (some [4]) (fun _=>[((.bool true:Value)=.bool true)]) ⟨rfl,trivial⟩ ?_
 refine zg rfl ?_
 refine Rt [.bool true] (fun w1 hp=>?_)
 exact⟨by simp[resOf],hp.ext⟩
end
section
open K
open Go.ChangeShapes Go.WideShapes
theorem list4 {cs:List Value} (h:cs.length=4):cs=(cs.drop 0).take 1++(cs.drop 1).take 1++(cs.drop 2).take 1++(cs.drop 3).take 1:=by
 match cs,h with
 | [a,b,c,d],_=>rfl
theorem fact_open {H:Type} {enc:TypeId×Value→H} {w:World} {base:Nat} {held:Bool} (cs:List Value) (fuel:Nat) (y:DataW H×List MemPlace) (hl:cs.length=4) (h:DataW.trod enc Tryz.prog w base (fun _=>true) held fuel 34 cs=some y) :
  ∃a:FA,True∧cs=acL a:=by
 obtain⟨xs,m,_,_,_,hlen,hf⟩:=DataW.trod_struct Tryz.underlying34 h
 have c1:Tryz.prog.cellsOf 3=1:=by kernel_rfl
 have c2:Tryz.prog.cellsOf 9=1:=by kernel_rfl
 match xs,hlen with
 | [y0,y1,y2,y3],_=>
  have h0 : DataW.trod enc Tryz.prog w base (fun _ => true) held m 3 ((cs.drop 0).take 1) = some y0 := by have q := hf 0 ⟨ "Kind",3,0,false,"","",0⟩ rfl; simp only [c1] at q; exact q
  have h1 : DataW.trod enc Tryz.prog w base (fun _ => true) held m 9 ((cs.drop 1).take 1) = some y1 := by have q := hf 1 ⟨ "Name",9,1,false,"","",8⟩ rfl; simp only [c2] at q; exact q
  have h2 : DataW.trod enc Tryz.prog w base (fun _ => true) held m 9 ((cs.drop 2).take 1) = some y2 := by have q := hf 2 ⟨ "To",9,2,false,"","",24⟩ rfl; simp only [c2] at q; exact q
  have h3 : DataW.trod enc Tryz.prog w base (fun _ => true) held m 9 ((cs.drop 3).take 1) = some y3 := by have q := hf 3 ⟨ "Data",9,3,false,"","",40⟩ rfl; simp only [c2] at q; exact q
  obtain⟨k,hk,_,_⟩:=DataW.trod_int Tryz.underlying3 h0
  obtain⟨s1,hs1,_,_⟩:=DataW.trod_string Tryz.underlying9 h1
  obtain⟨s2,hs2,_,_⟩:=DataW.trod_string Tryz.underlying9 h2
  obtain⟨s3,hs3,_,_⟩:=DataW.trod_string Tryz.underlying9 h3
  refine⟨⟨k,s1,s2,s3⟩,trivial,?_⟩
  have h9:=list4 hl
  rw[hk,hs1,hs2,hs3]at h9
  exact h9
theorem se_open {H:Type} {enc:TypeId×Value→H} {w:World} {base:Nat} {held:Bool} (cs:List Value) (fuel:Nat) (y:DataW H×List MemPlace) (h:DataW.trod enc Tryz.prog w base (fun _=>true) held fuel 22 cs=some y) :
  ∃a:SE×LO,(Has w a.2∧SEok a.2 a.1)∧cs=seC a.1:=by
 obtain⟨la,cap,l,Rl,hk,hk1,hk2,_,_,hR,hI⟩:=trod_flat acL (fun _=>True) Tryz.underlying22 kr (by decide) (fun cs fuel y g1 g2=>fact_open cs fuel y g1 g2) h
 exact⟨(⟨la,cap,l⟩,Rl),⟨hR,⟨hI,yU hk1 hk2⟩⟩,hk⟩
theorem ses_open {w:World} {la:Option Addr} {xs:List (SE×List (Nat×Obj))} {Rl:List (Nat×Obj)} (hq:∀x∈xs,Has w x.2∧SEok x.2 x.1) (hR:Has w Rl) (hI:InS Rl la (xs.length*1) (fun j=>(xs.flatMap fun x=>seC x.1).getD j undef)) :
  ∃R2,Has w R2∧InF seC 1 R2 la (xs.map (·.1))∧∀p∈xs.map (·.1),SEok R2 p:=by
 refine⟨Rl++xs.flatMap (·.2),fun e he=>?_,?_,fun p hp=>?_⟩
 ·rcases yG.1 he with he|he
  ·exact hR e he
  obtain⟨a,ha,he⟩:=List.mem_flatMap.1 he
  exact(hq a ha).1 e he
 ·have h9:InF seC 1 Rl la (xs.map (·.1)):=by
   unfold InF
   rw[List.flatMap_map,zA];exact hI
  exact h9.mono (fun e he=>mL he)
 obtain⟨a,ha,rfl⟩:=zv.1 hp
 have h9:=(hq a ha).2
 exact⟨h9.i.mono (fun e he=>mR (List.mem_flatMap.2 ⟨a,ha,he⟩)),h9.l⟩
end
end Go.Proofs.YtfgdepggdiibdaaGreatDoor