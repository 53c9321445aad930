/- Texts on which the proof of this claim stands: Fl14, Fr8, Fr9, K39, Fr10, DkE, Hex, ShaA, JpW, FlW, SpF, Fl17. -/
import Derived.Test.YtfgdepggdiibdaaGreatDoorP8
import Derived.Test.YtfgdepggdiibdaaGreatDoorP9
import Derived.Test.YtfgdepggdiibdaaGreatDoorP2
import Derived.Shelf.SortM.Plain
import Derived.Shelf.SortM.SortNone
import Derived.Test.YtfgdepggdiibdaaGreatDoorP1
import Derived.Test.YtfgdepggdiibdaaGreatDoorP6
import Derived.Test.YtfgdepggdiibdaaGreatDoorRows
import Derived.Test.YtfgdepggdiibdaaGreatDoorP7
set_option linter.unusedVariables false
set_option maxRecDepth 100000
set_option maxHeartbeats 8000000
namespace Go.Proofs.YtfgdepggdiibdaaGreatDoor
open List (replicate)
section
open K
theorem fList (z:FM) (num:Nat) (m:DM) (y:MX) (D:DK) (T:Tb) (w:World) (hR:Has w (gO z 0 num m T++dO D m y)) (hf:FOk z T) (hnm:∀p∈T.W,p.1.size≤maxLen) (hl:T.W.length≤1000000) :
  Calls Tryz.prog 12 #[.pointer (some ⟨z.fb,0,none⟩)] w fun e w'=>∃o:K.Own,OwnOk o 1 T.W.length ((srtS (T.W.map fun(p:ByteArray×Value)=>p.1)).map Value.string)∧e=.returned (.slice (Own.a o) T.W.length (Own.c o))∧∃R1,HP w [] R1 (Own.o 9 ((srtS (T.W.map fun(p:ByteArray×Value)=>p.1)).map Value.string) o) w':=by
 refine enter [] (gO z 0 num m T++dO D m y) [] Tryz.func12 rfl kr (yj hR) ?_
 refine Rq [0] ?_
 refine Rq [0,4] ?_
 refine yb rfl (b:=false) kr rfl ?_
 refine Bp 7 [dZ,dZ,dZ,(dS (pT z.tb)),dZ,dZ,(dS (.map (some z.nr)))] (some [11]) (fun S=>[(∀w1,S w1→w1.cell? ⟨z.fb,1,none⟩=some (pT z.tb)),(∀w1,S w1→w1.cell? ⟨z.tb,432,none⟩=some (.map (some z.nr)))]) ⟨(rC 0 rfl rfl),(fun w1 h=>h.rcell 2 rfl (tb_names hf.tb.l)),trivial⟩ ?_
 refine Le (Eff.callN (fun tq=>.func (.func 86) #[] #[pT tq]) (fun tq=>tq) (fun _=>.cells #[.map (some z.nr)] 81 (0,0)) (fun _=>True) rfl Tryz.func43 rfl rfl kr (fun w1 h=>mKeysS z.nr w1)) ?_
 rintro tq -
 refine Le (Eff.callOF 9 1 T.W.length ((srtS (T.W.map fun(p:ByteArray×Value)=>p.1)).map Value.string) [cl tq #[.map (some z.nr)] 81] [] rfl rfl Tryz.func42 rfl rfl kr (fun w1 h=>sorted_givesS L.sortedKeys43 tq z.nr z.x.1 z.x.2 T.W w1 hf.sm (h.ro _ (mG 3 rfl)) hnm hl (h.ocell 0 rfl rfl))) ?_
 rintro o ko
 refine Ld 1 [2] ?_
 refine Rt [sO o T.W.length] (fun w1 hp=>?_)
 have h9:HP w [] _ (Own.o 9 ((srtS (T.W.map fun(p:ByteArray×Value)=>p.1)).map Value.string) o++[]) w1:=hp.sub (.cons _ slr)
 rw[zm]at h9
 exact⟨o,ko,rfl,_,h9⟩
end
section
open K
theorem sv_len (l:List ByteArray):(l.map Value.string).length=l.length:=zA ..
section
open Go.Sort Go.Shelf
theorem putS_list {F:List (List UInt8)} {B J:List Value} (h:B.length=F.length):putCells Go.Proofs.encStr 0 F.toArray (B++J).toArray=(F.map Go.Proofs.encStr++J).toArray:=by
 apply Array.ext_getElem?
 intro k
 unfold putCells
 simp only[List.mapIdx_toArray,List.getElem?_toArray,List.getElem?_mapIdx,List.size_toArray,Nat.zero_le,true_and,Nat.zero_add,Nat.sub_zero]
 by_cases hk:k<F.length
 ·rw[zJ om,zJ (by rw[zA];exact hk),qa,zd (by omega:k<B.length),zd hk]
  simp[hk]
 rw[yd om,yd (by rw[zA];omega),zA,h]
 cases J[k-F.length]? with
 | none=>rfl
 | some v=>simp[hk]
theorem sortOwn (o:K.Own) (l:List ByteArray) (w:World) (hok:OwnOk o 1 l.length (l.map Value.string)) (hA:Has w (Own.o 9 (l.map Value.string) o)) (hlen:l.length≤1000000) :
  Calls Tryz.prog 85 #[.slice (Own.a o) l.length (Own.c o)] w fun e w'=>e=.returned (.tuple #[])∧∃R1,HP w ((Own.o 9 (l.map Value.string) o).map (·.1)) R1 (Own.o 9 ((srtS l).map Value.string) o) w':=by
 have hnd:∀xs:List Value,((Own.o 9 xs o).map (·.1)).Nodup:=fun xs=>by
  cases o with
  | none=>exact qX
  | some p=>exact qd.2 ⟨fun h=>(by cases h),qX⟩
 by_cases h0:0<l.length
 ·obtain⟨⟨b,cap,junk⟩,rfl⟩:=own_some hok h0
  have hb:w.heap[b]? = some (.cells (l.map Value.string++junk).toArray 9 (0,0)):=hA (b,.cells (l.map Value.string++junk).toArray 9 (0,0)) (by simp[Own.o])
  have hlt:b<w.heap.size:=lt_of_get hb
  obtain⟨ks,hks⟩:∃ks,ks=l.map (fun s=>s.data.toList):=⟨_,rfl⟩
  have hkl:ks.length=l.length:=by rw[hks,zA]
  have hke:ks.map Go.Proofs.encStr=l.map Value.string:=by
   rw[hks,q5];rfl
  have hH:Go.Sort.Holds Go.Proofs.encStr w b 0 ks.toArray:=by
   intro j hj
   have hj2:j<ks.length:=by simpa using hj
   refine⟨?_,by simp[World.frozen?,hb]⟩
   rw[zF,zI hb,zo,zJ (by rw[zA];omega),←hke,qa,zd hj2]
   simp only[List.getElem!_toArray,List.getElem!_eq_getElem?_getD,List.getElem?_eq_getElem hj2];rfl
  have hS:=AnyM.slices_Sort_string L.sort85 b 0 cap ks w hH hlt om
  rw[hkl]at hS
  refine hS.mono ?_
  rintro e w' ⟨rfl,n,os,rfl⟩
  refine⟨rfl,[],?_⟩
  have hcl:(srtS l).map Value.string=(ks.mergeSort fun x y=>decide (x≤y)).map Go.Proofs.encStr:=by rw[srtS_cells,hks];rfl
  have hml:(ks.mergeSort fun x y=>decide (x≤y)).length=l.length:=by rw[List.length_mergeSort,hkl]
  have hheap:∀k,k<w.heap.size→(grow (putRow Go.Proofs.encStr (Go.Sort.ahead w n) b 0 (ks.mergeSort fun x y=>decide (x≤y)).toArray) os).heap[k]? = if b=k then some (.cells ((srtS l).map Value.string++junk).toArray 9 (0,0))else w.heap[k]?:=by
   intro k hk
   unfold putRow
   rw[heap_grow_old _ _ (by show k<(w.heap.modify b _).size;simpa using hk)]
   show(w.heap.modify b _)[k]? = _
   rw[Array.getElem?_modify]
   by_cases hbk:b=k
   ·subst hbk
    rw[if_pos rfl,if_pos rfl,hb]
    simp only[Option.map_some,onCells]
    rw[putS_list (by rw[zA,hml]),hcl]
   ·rw[if_neg hbk,if_neg hbk]
  refine⟨⟨rfl,rfl,rfl,?_,fun k hk hnk=>?_⟩,(fun e he=>by cases he),(fun e he=>by cases he),?_,hnd _,fun e he=>.inr (zv.2 ⟨e,he,rfl⟩:e.1∈(Own.o 9 ((srtS l).map Value.string) (some (b,cap,junk))).map (·.1))⟩
  ·show _≤(grow _ _).heap.size
   rw[size_grow]
   show w.heap.size≤(w.heap.modify b _).size+_
   simp
  ·rw[hheap k hk,if_neg]
   rintro rfl
   exact hnk (by simp[Own.o])
  intro e he
  simp only[Own.o,List.mem_cons,List.not_mem_nil,or_false]at he
  subst he
  rw[hheap _ hlt,if_pos rfl]
 obtain rfl:l=[]:=ya om
 refine(AnyM.slices_Sort_string_none L.sort85 (Own.a o) (Own.c o) w).mono ?_
 rintro e w' ⟨rfl,rfl⟩
 have e0:srtS []=[]:=ya (srtS_len [])
 rw[e0]
 exact⟨rfl,[],Ext.refl _ _,(fun e he=>by cases he),(fun e he=>by cases he),hA,hnd _,fun e he=>.inr (zv.2 ⟨e,he,rfl⟩)⟩
end
def nmL (L:List RF):List ByteArray:=(L.filter fun f=>!decide (f.nm.size=0)).map (·.nm)
theorem nmL_next {L:List RF} {i:Nat} (h:i<L.length):nmL (L.take (i+1))=nmL (L.take i)++if(L.getD i rfz).nm.size=0 then[] else[(L.getD i rfz).nm]:=by
 unfold nmL
 rw[zV h,ja,yf,zc,zd h,qR]
 congr 1
 by_cases h0:L[i].nm.size=0
 ·rw[if_pos h0,qS,if_neg (by rw[decide_eq_true h0];decide)];rfl
 rw[if_neg h0,qS,if_pos (by rw[decide_eq_false h0];rfl)];rfl
theorem nmL_len (L:List RF):(nmL L).length≤L.length:=by unfold nmL;rw[zA];exact List.length_filter_le _ _
theorem sv_snoc (l:List ByteArray) (s:ByteArray):l.map Value.string++[Value.string s]=(l++[s]).map Value.string:=by rw[yf];rfl
theorem acl_next {l:List FA} {i:Nat} {a:FA} (h:i<l.length) (ha:a=l.getD i faz):(l.take i).flatMap acL++acL a=(l.take (i+1)).flatMap acL:=by
 rw[zV h,yY,ha,zc,zd h]
 simp
def rcount (D:DK) (l:List Wr):Nat:=(l.filter (unl D)).length
theorem rcount_next {D:DK} {l:List Wr} {i:Nat} (h:i<l.length):rcount D (l.take (i+1))=rcount D (l.take i)+if unl D (l.getD i wz)=true then 1 else 0:=by
 unfold rcount
 rw[zV h,ja,zh,zc,zd h,qR,qS]
 split <;> rfl
theorem jv_getw {l:List Wr} (hW:WW l) {i:Nat} (hi:i<l.length) {j:Nat} {v:Value} (hv:(jc (l.getD i wz))[j]? = some v):(jv l)[i*513+j]? = some v:=by
 have h:=fl_cell (f:=jc) (sz:=513) (l:=l) wz (fun x hx=>yl (hW x hx)) (off:=0) (cs:=(jv l).toArray) (fun j hj=>by
  have hl:(jv l).length=l.length*513:=flat_len (fun x hx=>yl (hW x hx))
  rw[zF,zo,zc,show l.flatMap jc=jv l from rfl,zd om];rfl) hi hv
 rwa [zF,zo]at h
theorem sEqual (la lb:Option Addr) (ca cb:Nat) (l:List ByteArray) (Rl:List (Nat×Obj)) (w:World) (hI:InF (fun s:ByteArray=>[Value.string s]) 1 Rl la l) (hJ:InF (fun s:ByteArray=>[Value.string s]) 1 Rl lb l) (hR:Has w Rl) (hll:l.length≤1000) :
  Calls Tryz.prog 53 #[.slice la l.length ca,.slice lb l.length cb] w fun e w'=>e=.returned (.bool true)∧Ext [] w w':=by
 refine enter [] Rl [] Tryz.func53 rfl kr (yj hR) ?_
 refine Rq [0,1] ?_
 refine Rq [0,1,10] ?_
 refine yb rfl (b:=((l.length:Int) != (l.length:Int))) kr (by simp) ?_
 refine Rq [0,1,12,13] ?_
 refine ye rfl (ι:=Nat) (fun(i:Nat)=>[(13,[],iN i),(12,[],iN l.length),(0,[],.slice la l.length ca),(1,[],.slice lb l.length cb)]) (fun(i:Nat)=>[]) (fun(i:Nat)=>(i≤l.length)) (fun(i:Nat)=>l.length-i) 0 ?_ (Conv.mk kr) .slnil ?_
 ·exact zH _
 rintro i hi
 refine Rq [0,1,12,13,14] ?_
 refine eC rfl (p:=((i:Int)<(l.length:Int))) kr (fun c2=>?_) (fun c2=>?_)
 ·refine Rq [0,1,5,12,13] ?_
  obtain⟨sa,off,cs,te,fre,hsb,hmem,hcs⟩:=hI om
  obtain⟨sc,off2,cs2,te2,fre2,hsb2,hmem2,hcs2⟩:=hJ om
  obtain⟨s,hs⟩:∃s,s=l.getD i ByteArray.empty:=⟨_,rfl⟩
  refine zN 0 (show .slice la l.length ca=.slice (some ⟨sa,off,none⟩) l.length ca from by rw[hsb]) ?_
  refine zN 1 (show .slice lb l.length cb=.slice (some ⟨sc,off2,none⟩) l.length cb from by rw[hsb2]) ?_
  refine Cfg.regD rfl kr [0,1,12,13,24] [dZ,dZ,dZ,(dS (.string s)),dZ,dZ,dZ,(dS (.string s))] (Γ':=[(24,[],.bool (!(s.toList==s.toList))),(13,[],iN i),(12,[],iN l.length),(0,[],.slice (some ⟨sa,off,none⟩) l.length ca),(1,[],.slice (some ⟨sc,off2,none⟩) l.length cb)]) (nd:=(fun S=>[(0≤(i:Int)∧(i:Int)<(l.length:Int)),(cE S sa (addO off i) (.string s)),(0≤(i:Int)∧(i:Int)<(l.length:Int)),(cE S sc (addO off2 i) (.string s))])) kr kr (fun _=>kr) ⟨om,(fun w1 h=>by rw[y4,hs];exact(zI (h.ro _ hmem)).trans (fl_one (g:=Value.string) ByteArray.empty hcs om)),om,(fun w1 h=>by rw[y4,hs];exact(zI (h.ro _ hmem2)).trans (fl_one (g:=Value.string) ByteArray.empty hcs2 om)),trivial⟩ ?_
  refine yb rfl (b:=(!(s.toList==s.toList))) kr (by rw[beq_self_eq_true];rfl) ?_
  refine Rg [0,1,12,13] [] (fun _=>[(i6 ((i:Int)+1))]) ⟨om,trivial⟩ ?_
  refine zN 0 (show .slice (some ⟨sa,off,none⟩) l.length ca=.slice la l.length ca from by rw[hsb]) ?_
  refine zN 1 (show .slice (some ⟨sc,off2,none⟩) l.length cb=.slice lb l.length cb from by rw[hsb2]) ?_
  refine zG rfl (i+1) (show i+1≤l.length by omega) (by show l.length-(i+1)<l.length-i;omega) (Conv.mk kr) .slnil
 refine Rq [4] ?_
 refine Rt [.bool true] (fun w1 hp=>?_)
 exact⟨rfl,hp.ext⟩
theorem lNames (sa off cap:Nat) (cs:Array Value) (te:TypeId) (fre:Nat×Nat) (L:List RF) (Rl:List (Nat×Obj)) (w:World) (hmem:(sa,Obj.cells cs te fre)∈Rl) (hcs:∀j,j<L.length*3→cs[off+j]? = some ((L.flatMap flC).getD j undef)) (hcap:L.length≤cap) (hR:Has w Rl) (hll:L.length≤1000) :
  Calls Tryz.prog 54 #[.slice (some ⟨sa,off,none⟩) L.length cap] w fun e w'=>∃o:K.Own,OwnOk o 1 (srtS (nmL L)).length ((srtS (nmL L)).map Value.string)∧e=.returned (.slice (Own.a o) (srtS (nmL L)).length (Own.c o))∧∃R1,HP w [] R1 (Own.o 9 ((srtS (nmL L)).map Value.string) o) w':=by
 refine enter [] Rl [] Tryz.func54 rfl kr (yj hR) ?_
 refine Rq [0] ?_
 refine Rq [0,3] ?_
 refine Rq [3,6,7,8] ?_
 refine zN 3 (show .slice none 0 0=sO none ((nmL (L.take 0)).length)from rfl) ?_
 refine ye rfl (ι:=Nat×K.Own) (fun(i,no)=>[(8,[],iN i),(7,[],iN L.length),(6,[],sP sa off L.length cap),(3,[],sO no ((nmL (L.take i)).length))]) (fun(i,no)=>([]++(Own.o 9 ((nmL (L.take i)).map Value.string) no++[]))) (fun(i,no)=>(i≤L.length)∧(OwnOk no 1 (nmL (L.take i)).length ((nmL (L.take i)).map Value.string))) (fun(i,no)=>L.length-i) (0,none) ?_ (Conv.mk kr) slr ?_
 ·exact⟨zH _,OwnOk.none _⟩
 rintro⟨i,no⟩ ⟨hi,hno⟩
 refine Rq [3,6,7,8,9] ?_
 refine eC rfl (p:=((i:Int)<(L.length:Int))) kr (fun c1=>?_) (fun c1=>?_)
 ·obtain⟨f,hfe⟩:∃f,f=L.getD i rfz:=⟨_,rfl⟩
  have hnx:=nmL_next (L:=L) (i:=i) om
  rw[←hfe]at hnx
  have hnl:=nmL_len (L.take i)
  rw[z8]at hnl
  refine Bp 2 [dZ,(dS (.agg (flC f).toArray))] (some [3,6,7,8,11]) (fun S=>[(0≤(i:Int)∧(i:Int)<(L.length:Int)),(∀w1,S w1→(loadVar 126 ⟨sa,(addO off (i*3)),none⟩).run Tryz.prog w1=.ok (.agg (flC f).toArray) w1)]) ⟨om,(fun w1 h=>yw (vs:=flC f) Tryz.underlying126 rfl kr (flC_len _) (fun q9 v hq9=>by rw[y4];exact(zI (h.ro _ hmem)).trans (fl_cell rfz (fun x _=>flC_len x) hcs om (by rw[←hfe];exact hq9)))),trivial⟩ ?_
  refine Le (zM (z:=(.agg (flC rfz).toArray)) rfl kr) ?_
  rintro fb ⟨hfb,nfb⟩
  refine Lu (zC (b:=fb) (off:=0) (vs:=(flC f).toArray) (n:=3) rfl kr kr kr rfl (flC_all _) 0 (cs:=(flC rfz).toArray) (e:=126) kr (zD 3)) ?_
  refine yF (congrArg (fun(xq:Array Value)=>(([cl fb xq 126]++(Own.o 9 ((nmL (L.take i)).map Value.string) no++[])):LO)) (show _=((flC f).toArray) from(show spl (flC rfz).toArray 0 (flC f).toArray.toList=(flC f).toArray from yx rfl))) ?_
  refine zg rfl ?_
  refine Cg (Γ':=[(5,[],pT fb),(8,[],iN i),(7,[],iN L.length),(6,[],sP sa off L.length cap),(3,[],sO no ((nmL (L.take i)).length))]) ?_
  refine Rg [3,5,6,7,8,14] [dZ,(dS (.string f.nm))] (fun S=>[(cE S fb 0 (.string f.nm))]) ⟨(oC 0 rfl rfl),trivial⟩ ?_
  refine zX rfl (b:=(!(f.nm.toList==(⟨#[]⟩:ByteArray).toList))) kr (fun c2r=>?_) (fun c2r=>?_)
  ·have c2:((f.nm.toList==(⟨#[]⟩:ByteArray).toList)=false):=(notT c2r)
   refine Bp 3 [dZ,dZ,(dS (.string f.nm))] (some [3,6,7,8,15,17]) (fun S=>[(cE S fb 0 (.string f.nm))]) ⟨(oC 0 rfl rfl),trivial⟩ ?_
   refine Le (yP (e:=9) (cells:=#[.string f.nm]) (parts:=#[(0,.string f.nm)]) rfl kr (fun _=>kr)) ?_
   rintro tb ⟨htb,ntb⟩
   refine Le (y8 rfl 1 16 Tryz.underlying41 kr (z:=(.string ByteArray.empty)) kr kr no (xs:=((nmL (L.take i)).map Value.string)) hno kr (b2:=tb) (off2:=0) (m:=1) (c2:=1) kr ([.string f.nm]) rfl (by intro q hq;rw[zi.1 hq];rfl) [(tb,.cells #[.string f.nm] 9 (0,0)),(fb,.cells ((flC f).toArray) 126 (0,0))] [] (by rfl) (fun w1 h j v hj=>by rw[zF];exact h.ocell 0 rfl (by rw[zo];exact hj)) om om) ?_
   rintro o1 ko1
   refine Ld 1 [3,6,7,8] ?_
   refine Rg [3,6,7,8] [] (fun _=>[(i6 ((i:Int)+1))]) ⟨om,trivial⟩ ?_
   have hf0:¬f.nm.size=0:=by have h9:=c2;rw[nm_empty]at h9;simpa using h9
   rw[if_neg hf0]at hnx
   have hrv:(nmL (L.take i)).map Value.string++[Value.string f.nm]=(nmL (L.take (i+1))).map Value.string:=by rw[hnx];exact sv_snoc _ _
   have hln:(nmL (L.take (i+1))).length=(nmL (L.take i)).length+1:=by rw[hnx,zh];rfl
   refine zU (congrArg (fun(xq:List Value)=>(([cl tb #[.string f.nm] 9,cl fb ((flC f).toArray) 126]++(Own.o 9 xq o1++[])):LO)) (show _=((nmL (L.take (i+1))).map Value.string)from hrv)) ?_
   refine zN 3 (congrArg (fun(xq:Nat)=>(.slice (Own.a o1) xq (Own.c o1):Value)) (show(((nmL (L.take i)).length+1))=((nmL (L.take (i+1))).length)from by rw[hln])) ?_
   refine zG rfl (i+1,o1) ⟨by omega,by rw[hln];exact hrv▸ko1⟩ (by show L.length-(i+1)<L.length-i;omega) (Conv.mk kr) (.cons _ (.cons _ slr))
  have c2:((f.nm.toList==(⟨#[]⟩:ByteArray).toList)=true):=(notF c2r)
  refine Rg [3,6,7,8] [] (fun _=>[(i6 ((i:Int)+1))]) ⟨om,trivial⟩ ?_
  have hf0:f.nm.size=0:=by have h9:=c2;rw[nm_empty]at h9;simpa using h9
  rw[if_pos hf0,zm]at hnx
  refine zU (congrArg (fun(xq:List Value)=>(([(fb,.cells ((flC f).toArray) 126 (0,0))]++(Own.o 9 xq no++[])):LO)) (show _=((nmL (L.take (i+1))).map Value.string)from by rw[hnx])) ?_
  refine zN 3 (congrArg (fun(xq:Nat)=>(.slice (Own.a no) xq (Own.c no):Value)) (show((nmL (L.take i)).length)=((nmL (L.take (i+1))).length)from by rw[hnx])) ?_
  refine zG rfl (i+1,no) ⟨by omega,by rw[hnx];exact hno⟩ (by show L.length-(i+1)<L.length-i;omega) (Conv.mk kr) (.cons _ slr)
 have hie:L.take i=L:=yB om
 rw[hie]at hno
 have hnl:=nmL_len L
 refine zN 3 (congrArg (fun(xq:Nat)=>(.slice (Own.a no) xq (Own.c no):Value)) (show((nmL (L.take i)).length)=((nmL L).length)from by rw[hie])) ?_
 refine zU (congrArg (fun(xq:List Value)=>(([]++(Own.o 9 xq no++[])):LO)) (show _=((nmL L).map Value.string)from by rw[hie])) ?_
 refine Bq 1 [3,21] ?_
 refine Lu (zY (vs:=[sO no ((nmL L).length)]) (fun _:Unit=>.tuple #[]) (Own.o 9 ((nmL L).map Value.string) no) (fun _=>Own.o 9 ((srtS (nmL L)).map Value.string) no) (fun _=>True) [] [] rfl rfl Tryz.func85 rfl rfl kr (fun w1 h hA hd=>(sortOwn no (nmL L) w1 hno hA om).mono fun _ _ ⟨h1,h2⟩=>⟨(),trivial,h1,h2⟩)) ?_
 refine zg rfl ?_
 refine Cg (Γ':=[(3,[],sO no ((nmL L).length))]) ?_
 refine zN 3 (congrArg (fun(xq:Nat)=>(.slice (Own.a no) xq (Own.c no):Value)) (show((nmL L).length)=((srtS (nmL L)).length)from by rw[srtS_len])) ?_
 refine Rq [2] ?_
 refine Rt [sO no ((srtS (nmL L)).length)] (fun w1 hp=>?_)
 have h9:HP w [] Rl ([]++(Own.o 9 ((srtS (nmL L)).map Value.string) no++[])) w1:=hp
 rw[yM,zm]at h9
 have hl:=srtS_len (nmL L)
 exact⟨no,⟨by rw[sv_len,jg],fun x=>by rw[hl];exact hno.nil x,fun q hq=>by have h8:=hno.some q hq;rw[sv_len]at h8 ⊢;rw[hl];exact h8⟩,rfl,_,h9⟩
theorem lTo (la:Option Addr) (cap:Nat) (l:List FA) (Rl:List (Nat×Obj)) (w:World) (hI:InF acL 4 Rl la l) (hll:l.length≤1000) (hR:Has w Rl) :
  Calls Tryz.prog 19 #[.slice la l.length cap] w fun e w'=>∃o:K.Own,OwnOk o 4 l.length (l.flatMap acL)∧e=.returned (.slice (Own.a o) l.length (Own.c o))∧∃R1,HP w [] R1 (Own.o 123 (l.flatMap acL) o) w':=by
 refine enter [] Rl [] Tryz.func19 rfl kr (yj hR) ?_
 refine Rq [0] ?_
 refine Rq [0,3] ?_
 refine Rq [3,6,7,8] ?_
 refine zN 3 (show .slice none 0 0=sO none 0 from rfl) ?_
 refine ye rfl (ι:=Nat×K.Own) (fun(i,to_)=>[(8,[],iN i),(7,[],iN l.length),(6,[],.slice la l.length cap),(3,[],sO to_ i)]) (fun(i,to_)=>([]++(Own.o 123 ((l.take i).flatMap acL) to_++[]))) (fun(i,to_)=>(i≤l.length)∧(OwnOk to_ 4 i ((l.take i).flatMap acL))) (fun(i,to_)=>l.length-i) (0,none) ?_ (Conv.mk kr) slr ?_
 ·exact⟨zH _,OwnOk.none _⟩
 rintro⟨i,to_⟩ ⟨hi,hto⟩
 refine Rq [3,6,7,8,9] ?_
 refine eC rfl (p:=((i:Int)<(l.length:Int))) kr (fun c1=>?_) (fun c1=>?_)
 ·obtain⟨sb,off,cs,te,fre,hsb,hmem,hcs⟩:=hI om
  obtain⟨a,hae⟩:∃a,a=l.getD i faz:=⟨_,rfl⟩
  have hnx:=acl_next (l:=l) (i:=i) om hae
  refine zN 6 (show .slice la l.length cap=.slice (some ⟨sb,off,none⟩) l.length cap from by rw[hsb]) ?_
  refine Bp 2 [dZ,(dS (.agg (acC a)))] (some [3,6,7,8,11]) (fun S=>[(0≤(i:Int)∧(i:Int)<(l.length:Int)),(∀w1,S w1→(loadVar 34 ⟨sb,(addO off (i*4)),none⟩).run Tryz.prog w1=.ok (.agg (acC a)) w1)]) ⟨om,(fun w1 h=>yw (vs:=acL a) Tryz.underlying34 rfl kr (acL_len _) (fun j v hj=>by rw[y4];exact(zI (h.ro _ hmem)).trans (fl_cell faz (fun x _=>acL_len x) hcs om (by rw[←hae];exact hj)))),trivial⟩ ?_
  refine Le (zM (z:=(.agg (acC faz))) rfl kr) ?_
  rintro xb ⟨hxb,nxb⟩
  refine Lu (zC (b:=xb) (off:=0) (vs:=(acC a)) (n:=4) rfl kr kr kr rfl (acL_all _) 0 (cs:=(acC faz)) (e:=34) kr (zD 4)) ?_
  refine yF (congrArg (fun(xq:Array Value)=>(([cl xb xq 34]++(Own.o 123 ((l.take i).flatMap acL) to_++[])):LO)) (show _=(acC a) from(show spl (acC faz) 0 (acC a).toList=acC a from yx rfl))) ?_
  refine zg rfl ?_
  refine Cg (Γ':=[(5,[],pT xb),(8,[],iN i),(7,[],iN l.length),(6,[],sP sb off l.length cap),(3,[],sO to_ i)]) ?_
  refine Bp 2 [dZ,(dS (.agg (acC a)))] (some [3,6,7,8,12,13]) (fun S=>[(lV S 34 xb 0 (.agg (acC a)))]) ⟨(fun w1 h=>h.oload 0 rfl Tryz.underlying34 rfl (n:=4) kr rfl),trivial⟩ ?_
  refine Le (yR (vs:=(acC a)) (n:=4) rfl kr Tryz.underlying54 kr (z:=(.agg (acC faz))) kr rfl (by decide) (by decide)) ?_
  rintro tb ⟨htb,ntb⟩
  refine Le (y8 rfl 4 56 Tryz.underlying54 kr (z:=(.agg (acC faz))) kr kr to_ (xs:=((l.take i).flatMap acL)) hto kr (b2:=tb) (off2:=0) (m:=1) (c2:=1) kr (acL a) (acL_len a) (acL_all a) [(tb,.cells (acC a) 123 (0,0)),(xb,.cells (acC a) 34 (0,0))] [] (by rfl) (fun w1 h j v hj=>by rw[zF];exact h.ocell 0 rfl (by show(acL a).toArray[j]? = _;rw[zo];exact hj)) om om) ?_
  rintro o1 ko1
  refine Ld 1 [3,6,7,8] ?_
  refine Rg [3,6,7,8] [] (fun _=>[(i6 ((i:Int)+1))]) ⟨om,trivial⟩ ?_
  refine zU (congrArg (fun(xq:List Value)=>(([cl tb (acC a) 123,cl xb (acC a) 34]++(Own.o 123 xq o1++[])):LO)) (show _=((l.take (i+1)).flatMap acL)from hnx)) ?_
  refine zN 6 (show .slice (some ⟨sb,off,none⟩) l.length cap=.slice la l.length cap from by rw[hsb]) ?_
  refine zG rfl (i+1,o1) ⟨by omega,hnx▸ko1⟩ (by show l.length-(i+1)<l.length-i;omega) (Conv.mk kr) (.cons _ (.cons _ slr))
 refine Rq [2] ?_
 refine Rt [sO to_ i] (fun w1 hp=>?_)
 have hie:i=l.length:=by omega
 have h9:HP w [] Rl ([]++(Own.o 123 ((l.take i).flatMap acL) to_++[])) w1:=hp
 rw[hie,yV,yM,zm]at h9
 rw[hie,yV]at hto
 exact⟨to_,hto,by rw[hie];rfl,_,h9⟩
theorem lLaid {N:Nat} (m:DM) (y:MX) (D:DK) (sa off cap:Nat) (cs:Array Value) (te:TypeId) (fre:Nat×Nat) (L:List RF) (Rl:List (Nat×Obj)) (w:World) (hmem:(sa,Obj.cells cs te fre)∈Rl) (hcs:∀j,j<L.length*3→cs[off+j]? = some ((L.flatMap flC).getD j undef)) (hcap:L.length≤cap) (hR:Has w (dO D m y++Rl)) (hN:121<N∧N≤400) (hL:FL N L) (hB:FB L) (hw:Wl N D) (hmo:MapOk y.1 y.2 (wv2 D.wait)) (hsec:∀w∈yE L,(97≤w.1∧w.1<(N:Int))∧w.2.length=512) (hrl:(yE L).length≤100000) (hon:OnD D L) :
  Calls Tryz.prog 22 #[.pointer (some ⟨m.d,0,none⟩),.slice (some ⟨sa,off,none⟩) L.length cap] w fun e w'=>e=.returned (.bool true)∧Ext [] w w':=by
 refine enter [] (dO D m y++Rl) [] Tryz.func22 rfl kr (yj hR) ?_
 refine Rq [0,1] ?_
 refine Bq 1 [0,9] ?_
 refine Le (zY (fun o:K.Own=>.slice (Own.a o) (yE L).length (Own.c o)) [] (fun o=>Own.o 132 (jv (yE L)) o) (fun o=>OwnOk o 513 (yE L).length (jv (yE L))) [] [] rfl rfl Tryz.func52 rfl rfl kr (fun w1 h _ _=>r6Sectors sa off cap cs te fre L Rl w1 hmem hcs hcap (h.hasR (fun e he=>mR he)) hN.2 hL hB)) ?_
 rintro so hso
 refine Ld 2 [0,10,11,12] ?_
 refine ye rfl (ι:=Nat) (fun(i:Nat)=>[(12,[],iN i),(11,[],.int .i64 ((yE L).length:Int)),(10,[],sO so ((yE L).length)),(0,[],pT m.d)]) (fun(i:Nat)=>([]++(Own.o 132 (jv (yE L)) so++[]))) (fun(i:Nat)=>(i≤(yE L).length)) (fun(i:Nat)=>(yE L).length-i) 0 ?_ (Conv.mk kr) slr ?_
 ·exact zH _
 rintro i hi
 refine Rq [0,10,11,12,13] ?_
 refine eC rfl (p:=((i:Int)<((yE L).length:Int))) kr (fun c1=>?_) (fun c1=>?_)
 ·obtain⟨rb,rcs,hba,hbm,hbc⟩:=own_adr 132 hso om
  obtain⟨wr,hwr⟩:∃x,x=(yE L).getD i wz:=⟨_,rfl⟩
  have hwm:wr∈yE L:=by rw[hwr];exact getD_inN om
  obtain⟨hwr1,hw5⟩:=hsec wr hwm
  have hWW:WW (yE L):=fun x hx=>(hsec x hx).2
  refine zN 10 (show .slice (Own.a so) ((yE L).length) (Own.c so)=.slice (some ⟨rb,0,none⟩) (yE L).length (Own.c so)from by rw[hba]) ?_
  refine Bp 2 [dZ,(dS (.agg (jc wr).toArray))] (some [0,10,11,12,15]) (fun S=>[(iL (i:Int) ((yE L).length:Int)),(lV S 132 rb (i*513) (.agg (jc wr).toArray))]) ⟨om,(fun w1 h=>yw (vs:=jc wr) Tryz.underlying132 rfl kr (yl hw5) (fun q9 v hq9=>(zI (h.own (cl rb rcs 132) (show _∈([]++(Own.o 132 (jv (yE L)) so++[]))from mR (mL hbm)))).trans (hbc (i*513+q9) _ (jv_getw hWW om (by rw[←hwr];exact hq9))))),trivial⟩ ?_
  refine Le (zM (z:=(.agg (jc wz).toArray)) rfl kr) ?_
  rintro wb ⟨hwb,nwb⟩
  refine Lu (zC (b:=wb) (off:=0) (vs:=(jc wr).toArray) (n:=513) rfl kr kr kr (by rw[zp,yl hw5]) (jc_all _) 0 (cs:=(jc wz).toArray) (e:=132) kr (by show 0+513≤(jc wz).toArray.size;rw[zp,yl qA];decide)) ?_
  refine yF (congrArg (fun(xq:Array Value)=>(([cl wb xq 132]++(Own.o 132 (jv (yE L)) so++[])):LO)) (show _=((jc wr).toArray)from yx (by rw[zp,zp,yl hw5];exact(yl qA).symm))) ?_
  refine zg rfl ?_
  refine Cg (Γ':=[(6,[],pT wb),(12,[],iN i),(11,[],.int .i64 ((yE L).length:Int)),(10,[],sP rb 0 (yE L).length (Own.c so)),(0,[],pT m.d)]) ?_
  refine Bp 3 [dZ,dZ,(dS (.int .i64 wr.1))] (some [0,6,10,11,12,17,19]) (fun S=>[(cE S wb 0 (.int .i64 wr.1))]) ⟨(oC 0 rfl rfl),trivial⟩ ?_
  refine Lu (zr (vs:=[pT m.d,.int .i64 wr.1]) (.tuple #[.agg (bv (zR D wr.1)),.int .i64 0]) rfl Tryz.func10 rfl rfl kr (fun w1 h=>by have h9:=dRead m y D wr.1 w1 hw.g hmo (fun e he=>h.ro e (mL he));rw[hw.flt ⟨by omega,hwr1.2⟩]at h9;exact h9)) ?_
  refine Lq 3 [0,6,10,11,12,21,22] ?_
  refine Le (zM (z:=(.agg (bv (replicate 512 0)))) rfl kr) ?_
  rintro hb ⟨hhb,nhb⟩
  refine Lu (zC (b:=hb) (off:=0) (vs:=(bv (zR D wr.1))) (n:=512) rfl kr kr kr ((zP _).trans (yO hw.g _)) (qF _) 0 (cs:=(bv (replicate 512 0))) (e:=37) kr (by rw[zsz512];omega)) ?_
  refine yF (congrArg (fun(xq:Array Value)=>(([cl hb xq 37,cl wb ((jc wr).toArray) 132]++(Own.o 132 (jv (yE L)) so++[])):LO)) (show _=(bv (zR D wr.1))from yx (((zP _).trans (yO hw.g _)).trans zsz512.symm))) ?_
  refine Ld 1 [0,6,7,8,10,11,12] ?_
  refine Rg [0,10,11,12,30] [dZ,dZ,dZ,(1,false,some (.agg (bv (zR D wr.1)))),(1,false,none),(1,false,some (.agg (bv wr.2))),(1,false,some (.bool ((zR D wr.1)==wr.2)))] (fun S=>[((.bool false:Value)=.bool false),(lV S 37 hb 0 (.agg (bv (zR D wr.1)))),((.bool false:Value)=.bool false),((.bool false:Value)=.bool false),(lV S 37 wb 1 (.agg (bv wr.2))),((.bool false:Value)=.bool false),(∀w1,S w1→(Op.equal 37 (.agg (bv (zR D wr.1))) (.agg (bv wr.2))).run Tryz.prog w1=.ok ((zR D wr.1)==wr.2) w1)]) ⟨rfl,(fun w1 h=>h.oload 0 rfl Tryz.underlying37 rfl (n:=512) kr ((zP _).trans (yO hw.g _))),rfl,rfl,(fun w1 h=>yw (n:=512) (vs:=(bv wr.2).toList) Tryz.underlying37 rfl kr (by rw[z7,zP];exact hw5) (fun q9 v hq9=>h.ocell 1 rfl (by rw[zo,Nat.add_comm];exact hq9))),rfl,(fun _ _=>equal_bv Tryz.underlying37 Tryz.underlying5 kr (yO hw.g _) hw5),trivial⟩ ?_
  refine yb rfl (b:=(!((zR D wr.1)==wr.2))) kr (by rw[hw.read ⟨by omega,hwr1.2⟩,hon wr hwm];simp) ?_
  refine Rg [0,10,11,12] [] (fun _=>[(i6 ((i:Int)+1))]) ⟨om,trivial⟩ ?_
  refine zN 10 (show .slice (some ⟨rb,0,none⟩) (yE L).length (Own.c so)=.slice (Own.a so) ((yE L).length) (Own.c so)from by rw[hba]) ?_
  refine zG rfl (i+1) (show i+1≤(yE L).length by omega) (by show(yE L).length-(i+1)<(yE L).length-i;omega) (Conv.mk kr) (.cons _ (.cons _ slr))
 refine Rq [4] ?_
 refine Rt [.bool true] (fun w1 hp=>?_)
 exact⟨rfl,hp.ext⟩
theorem lDiffer {N:Nat} (m:DM) (y:MX) (D:DK) (sa off cap:Nat) (cs:Array Value) (te:TypeId) (fre:Nat×Nat) (L:List RF) (Rl:List (Nat×Obj)) (w:World) (hmem:(sa,Obj.cells cs te fre)∈Rl) (hcs:∀j,j<L.length*3→cs[off+j]? = some ((L.flatMap flC).getD j undef)) (hcap:L.length≤cap) (hR:Has w (dO D m y++Rl)) (hN:121<N∧N≤400) (hL:FL N L) (hB:FB L) (hw:Wl N D) (hmo:MapOk y.1 y.2 (wv2 D.wait)) (hsec:∀w∈yE L,(97≤w.1∧w.1<(N:Int))∧w.2.length=512) (hrl:(yE L).length≤100000) :
  Calls Tryz.prog 20 #[.pointer (some ⟨m.d,0,none⟩),.slice (some ⟨sa,off,none⟩) L.length cap] w fun e w'=>e=.returned (.int .i64 (rcount D (yE L):Int))∧Ext [] w w':=by
 refine enter [] (dO D m y++Rl) [] Tryz.func20 rfl kr (yj hR) ?_
 refine Rq [0,1] ?_
 refine Rq [0,1,5] ?_
 refine Bq 1 [0,5,10] ?_
 refine Le (zY (fun o:K.Own=>.slice (Own.a o) (yE L).length (Own.c o)) [] (fun o=>Own.o 132 (jv (yE L)) o) (fun o=>OwnOk o 513 (yE L).length (jv (yE L))) [] [] rfl rfl Tryz.func52 rfl rfl kr (fun w1 h _ _=>r6Sectors sa off cap cs te fre L Rl w1 hmem hcs hcap (h.hasR (fun e he=>mR he)) hN.2 hL hB)) ?_
 rintro so hso
 refine Ld 2 [0,5,11,12,13] ?_
 refine sI 5 (show 0=((rcount D ((yE L).take 0)):Int)from rfl) ?_
 refine ye rfl (ι:=Nat) (fun(i:Nat)=>[(13,[],iN i),(12,[],.int .i64 ((yE L).length:Int)),(11,[],sO so ((yE L).length)),(5,[],iN (rcount D ((yE L).take i))),(0,[],pT m.d)]) (fun(i:Nat)=>([]++(Own.o 132 (jv (yE L)) so++[]))) (fun(i:Nat)=>(i≤(yE L).length)) (fun(i:Nat)=>(yE L).length-i) 0 ?_ (Conv.mk kr) slr ?_
 ·exact zH _
 rintro i hi
 have hrcl:rcount D ((yE L).take i)≤i:=by unfold rcount;exact yU (List.length_filter_le _ _) (List.length_take_le _ _)
 refine Rq [0,5,11,12,13,14] ?_
 refine eC rfl (p:=((i:Int)<((yE L).length:Int))) kr (fun c1=>?_) (fun c1=>?_)
 ·obtain⟨rb,rcs,hba,hbm,hbc⟩:=own_adr 132 hso om
  obtain⟨wr,hwr⟩:∃x,x=(yE L).getD i wz:=⟨_,rfl⟩
  have hwm:wr∈yE L:=by rw[hwr];exact getD_inN om
  obtain⟨hwr1,hw5⟩:=hsec wr hwm
  have hWW:WW (yE L):=fun x hx=>(hsec x hx).2
  refine zN 11 (show .slice (Own.a so) ((yE L).length) (Own.c so)=.slice (some ⟨rb,0,none⟩) (yE L).length (Own.c so)from by rw[hba]) ?_
  refine Bp 2 [dZ,(dS (.agg (jc wr).toArray))] (some [0,5,11,12,13,16]) (fun S=>[(iL (i:Int) ((yE L).length:Int)),(lV S 132 rb (i*513) (.agg (jc wr).toArray))]) ⟨om,(fun w1 h=>yw (vs:=jc wr) Tryz.underlying132 rfl kr (yl hw5) (fun q9 v hq9=>(zI (h.own (cl rb rcs 132) (show _∈([]++(Own.o 132 (jv (yE L)) so++[]))from mR (mL hbm)))).trans (hbc (i*513+q9) _ (jv_getw hWW om (by rw[←hwr];exact hq9))))),trivial⟩ ?_
  refine Le (zM (z:=(.agg (jc wz).toArray)) rfl kr) ?_
  rintro wb ⟨hwb,nwb⟩
  refine Lu (zC (b:=wb) (off:=0) (vs:=(jc wr).toArray) (n:=513) rfl kr kr kr (by rw[zp,yl hw5]) (jc_all _) 0 (cs:=(jc wz).toArray) (e:=132) kr (by show 0+513≤(jc wz).toArray.size;rw[zp,yl qA];decide)) ?_
  refine yF (congrArg (fun(xq:Array Value)=>(([cl wb xq 132]++(Own.o 132 (jv (yE L)) so++[])):LO)) (show _=((jc wr).toArray)from yx (by rw[zp,zp,yl hw5];exact(yl qA).symm))) ?_
  refine zg rfl ?_
  refine Cg (Γ':=[(7,[],pT wb),(13,[],iN i),(12,[],.int .i64 ((yE L).length:Int)),(11,[],sP rb 0 (yE L).length (Own.c so)),(5,[],iN (rcount D ((yE L).take i))),(0,[],pT m.d)]) ?_
  refine Bp 3 [dZ,dZ,(dS (.int .i64 wr.1))] (some [0,5,7,11,12,13,18,20]) (fun S=>[(cE S wb 0 (.int .i64 wr.1))]) ⟨(oC 0 rfl rfl),trivial⟩ ?_
  refine Lu (zr (vs:=[pT m.d,.int .i64 wr.1]) (.tuple #[.agg (bv (zR D wr.1)),.int .i64 0]) rfl Tryz.func10 rfl rfl kr (fun w1 h=>by have h9:=dRead m y D wr.1 w1 hw.g hmo (fun e he=>h.ro e (mL he));rw[hw.flt ⟨by omega,hwr1.2⟩]at h9;exact h9)) ?_
  refine Lq 3 [0,5,7,11,12,13,22,23] ?_
  refine Le (zM (z:=(.agg (bv (replicate 512 0)))) rfl kr) ?_
  rintro hb ⟨hhb,nhb⟩
  refine Lu (zC (b:=hb) (off:=0) (vs:=(bv (zR D wr.1))) (n:=512) rfl kr kr kr ((zP _).trans (yO hw.g _)) (qF _) 0 (cs:=(bv (replicate 512 0))) (e:=37) kr (by rw[zsz512];omega)) ?_
  refine yF (congrArg (fun(xq:Array Value)=>(([cl hb xq 37,cl wb ((jc wr).toArray) 132]++(Own.o 132 (jv (yE L)) so++[])):LO)) (show _=(bv (zR D wr.1))from yx (((zP _).trans (yO hw.g _)).trans zsz512.symm))) ?_
  refine Ld 1 [0,5,7,8,11,12,13] ?_
  refine Rg [0,5,11,12,13,27] [(dS (.agg (bv (zR D wr.1)))),dZ,(dS (.agg (bv wr.2))),(dS (.bool ((zR D wr.1)==wr.2)))] (fun S=>[(lV S 37 hb 0 (.agg (bv (zR D wr.1)))),(lV S 37 wb 1 (.agg (bv wr.2))),(∀w1,S w1→(Op.equal 37 (.agg (bv (zR D wr.1))) (.agg (bv wr.2))).run Tryz.prog w1=.ok ((zR D wr.1)==wr.2) w1)]) ⟨(fun w1 h=>h.oload 0 rfl Tryz.underlying37 rfl (n:=512) kr ((zP _).trans (yO hw.g _))),(fun w1 h=>yw (n:=512) (vs:=(bv wr.2).toList) Tryz.underlying37 rfl kr (by rw[z7,zP];exact hw5) (fun q9 v hq9=>h.ocell 1 rfl (by rw[zo,Nat.add_comm];exact hq9))),(fun _ _=>equal_bv Tryz.underlying37 Tryz.underlying5 kr (yO hw.g _) hw5),trivial⟩ ?_
  refine zX rfl (b:=(!((zR D wr.1)==wr.2))) kr (fun c2r=>?_) (fun c2r=>?_)
  ·have c2:(((zR D wr.1)==wr.2)=false):=(notT c2r)
   refine Rg [0,5,11,12,13] [] (fun _=>[(i6 (((rcount D ((yE L).take i)):Int)+1))]) ⟨om,trivial⟩ ?_
   refine Rg [0,5,11,12,13] [] (fun _=>[(i6 ((i:Int)+1))]) ⟨om,trivial⟩ ?_
   have hrc:=rcount_next (D:=D) (l:=yE L) (i:=i) om
   rw[←hwr]at hrc
   have hun:unl D wr=true:=by
       unfold unl
       rw[hw.flt ⟨by omega,hwr1.2⟩]
       have h9:=c2
       simp at h9 ⊢
       exact h9
   rw[hun]at hrc
   refine zN 11 (show .slice (some ⟨rb,0,none⟩) (yE L).length (Own.c so)=.slice (Own.a so) ((yE L).length) (Own.c so)from by rw[hba]) ?_
   refine sI 5 (show(((rcount D ((yE L).take i)):Int)+1)=(((rcount D ((yE L).take (i+1))):Nat):Int)from by rw[hrc];simp) ?_
   refine zG rfl (i+1) (show i+1≤(yE L).length by omega) (by show(yE L).length-(i+1)<(yE L).length-i;omega) (Conv.mk kr) (.cons _ (.cons _ slr))
  have c2:(((zR D wr.1)==wr.2)=true):=(notF c2r)
  refine Rg [0,5,11,12,13] [] (fun _=>[(i6 ((i:Int)+1))]) ⟨om,trivial⟩ ?_
  have hrc:=rcount_next (D:=D) (l:=yE L) (i:=i) om
  rw[←hwr]at hrc
  have hun:unl D wr=false:=by
      unfold unl
      rw[hw.flt ⟨by omega,hwr1.2⟩]
      have h9:=c2
      simp at h9 ⊢
      exact h9
  rw[hun]at hrc
  refine zN 11 (show .slice (some ⟨rb,0,none⟩) (yE L).length (Own.c so)=.slice (Own.a so) ((yE L).length) (Own.c so)from by rw[hba]) ?_
  refine sI 5 (show((rcount D ((yE L).take i)):Int)=(((rcount D ((yE L).take (i+1))):Nat):Int)from by rw[hrc];simp) ?_
  refine zG rfl (i+1) (show i+1≤(yE L).length by omega) (by show(yE L).length-(i+1)<(yE L).length-i;omega) (Conv.mk kr) (.cons _ (.cons _ slr))
 refine Rq [4] ?_
 refine Rt [iN (rcount D ((yE L).take i))] (fun w1 hp=>?_)
 have hie:(yE L).take i=yE L:=yB om
 exact⟨by rw[hie];rfl,hp.ext⟩
end
section
open K
theorem smget_ofN {W:List (ByteArray×Value)} (hn:(W.map (·.1)).Nodup):∀ {k:ByteArray} {v:Value},(k,v)∈W→smget W k=some v:=by
 induction W with
 | nil=>intro k v h;cases h
 | cons p W ih=>
  intro k v h
  rw[yi,qd]at hn
  unfold smget
  rcases zq.1 h with h|h
  ·rw[←h,if_pos rfl]
  ·rw[if_neg (fun e=>hn.1 (by rw[←e];exact zv.2 ⟨_,h,rfl⟩)),ih hn.2 h]
theorem srtS_ext {l m:List ByteArray} (h:l.Perm m):srtS l=srtS m:=by
 unfold srtS
 congr 1
 have hp:(srtB (l.map fun s=>s.data.toList)).Perm (srtB (m.map fun s=>s.data.toList)):=((srtB_perm _).trans (h.map _)).trans (srtB_perm _).symm
 have hs:∀x:List (List UInt8),(srtB x).Pairwise (fun a b=>leB a b=true):=fun x=>List.pairwise_mergeSort (le:=leB) (fun a b c h1 h2=>by
  unfold leB at h1 h2 ⊢
  rw[decide_eq_true_eq]at h1 h2 ⊢
  exact List.le_trans h1 h2) (fun a b=>by
  unfold leB
  rcases List.le_total a b with h1|h1
  ·rw[decide_eq_true h1];rfl
  ·rw[decide_eq_true h1,Bool.or_true]) x
 exact hp.eq_of_pairwise (fun a b _ _ h1 h2=>by
  unfold leB at h1 h2
  rw[decide_eq_true_eq]at h1 h2
  exact List.le_antisymm h1 h2) (hs _) (hs _)
theorem nmL_mem {L:List RF} {nm:ByteArray}:nm∈nmL L↔0<nm.size∧∃k,(L.getD k rfz).nm=nm:=by
 unfold nmL
 rw[zv]
 constructor
 ·rintro⟨f,hf,rfl⟩
  obtain⟨h1,h2⟩:=qD.1 hf
  obtain⟨i,hi,rfl⟩:=qO.1 h1
  refine⟨Nat.pos_of_ne_zero (by simpa using h2),i,by rw[zc,zd hi];rfl⟩
 rintro⟨h0,k,hk⟩
 rcases qy k L.length with h1|h1
 ·refine⟨L.getD k rfz,qD.2 ⟨getD_inN h1,?_⟩,hk⟩
  rw[hk,decide_eq_false om];rfl
 rw[getD_out h1]at hk
 rw[←hk]at h0;exact absurd h0 (by decide)
theorem Rel.names {N:Nat} {T:Tb} {L:List RF} (h:Rel N T L):(T.W.map (·.1)).Perm (nmL L):=by
 have hn:(nmL L).Nodup:=by
  unfold nmL List.Nodup
  rw[List.pairwise_map,List.pairwise_filter,List.pairwise_iff_getElem]
  intro i j hi hj hij p1 p2 e
  have e1:L.getD i rfz=L[i]:=by rw[zc,zd hi];rfl
  have e2:L.getD j rfz=L[j]:=by rw[zc,zd hj];rfl
  have:=h.u i j (by rw[e1,e2];exact e) (by rw[e1];exact Nat.pos_of_ne_zero (by simpa using p1))
  omega
 refine(List.perm_ext_iff_of_nodup h.wk.nd hn).2 fun nm=>?_
 rw[nmL_mem]
 constructor
 ·intro hm
  obtain⟨p,hp,rfl⟩:=zv.1 hm
  obtain⟨k,_,e⟩:=h.wk.v p hp
  have hs:=smget_ofN h.wk.nd (k:=p.1) (v:=p.2) hp
  rw[e]at hs
  obtain⟨h1,h2⟩:=(h.w p.1 k).1 hs
  exact⟨h1,k,h2⟩
 rintro⟨h0,k,hk⟩
 exact zv.2 ⟨_,smget_in ((h.w nm k).2 ⟨h0,hk⟩),rfl⟩
theorem chl_all (da:ByteArray):∀i,(List.range i).flatMap (chL da)=da.data.toList.take (512*i)
 | 0=>rfl
 | i+1=>by
  rw[qc,yY,chl_all da i,yv,qY,zm]
  unfold chL
  rw[show 512*(i+1)=512*i+512 by omega,List.take_add]
theorem fdat_eq {N:Nat} {D:DK} {f:RF} (hw:Wl N D) (hb:Onb D f) (hr:f.da.size=0∨(121≤f.at_∧f.at_+secs f.da.size≤N)):tx (fdat D (yh f) (secs (yh f).sz))=f.da:=by
 have h1:fdat D (yh f) (secs (yh f).sz)=(List.range (secs f.da.size)).flatMap (chL f.da):=by
  unfold fdat
  refine fm_congr fun k hk=>?_
  have hk:=qz.1 hk
  have hk2:k<secs f.da.size:=hk
  have hr:121≤f.at_∧f.at_+secs f.da.size≤N:=hr.resolve_left fun x=>by rw[x]at hk2;exact absurd hk2 (qx k)
  have e:=hb k hk2
  show(zR D ((f.at_:Int)+(k:Int))).take (mC f.da.size k)=_
  rw[hw.read ⟨by omega,by omega⟩,show(f.at_:Int)+(k:Int)=((f.at_+k:Nat):Int) by omega,e]
  unfold qt
  rw[←chL_len,List.take_left]
 rw[h1,chl_all,yB (by rw[ba_len];unfold secs;omega),tx_back]
theorem Rel.nmok {N:Nat} {T:Tb} {L:List RF} (h:Rel N T L):∀p∈T.W,namB p.1=true:=fun p hp=>by
 obtain⟨k,_,e⟩:=h.wk.v p hp
 have hs:=smget_ofN h.wk.nd (k:=p.1) (v:=p.2) hp
 rw[e]at hs
 obtain⟨h1,h2⟩:=(h.w p.1 k).1 hs
 have:=(h.n k (by rw[h2];exact h1)).1
 rw[h2]at this;exact this
theorem sv_fm:∀l:List ByteArray,l.map Value.string=l.flatMap fun s:ByteArray=>[Value.string s]
 | []=>rfl
 | a::l=>by rw[yi,yv,sv_fm l];rfl
theorem own_infS {o:K.Own} {e:TypeId} {l:List ByteArray} (h:OwnOk o 1 l.length (l.map Value.string)):InF (fun s:ByteArray=>[Value.string s]) 1 (Own.o e (l.map Value.string) o) (Own.a o) l:=by
 rw[sv_fm]at h ⊢
 exact own_inf h
theorem lHolds {N:Nat} (z:FM) (num:Nat) (m:DM) (y:MX) (D:DK) (T:Tb) (sa off cap:Nat) (cs:Array Value) (te:TypeId) (fre:Nat×Nat) (L:List RF) (Rl:List (Nat×Obj)) (w:World) (hmem:(sa,Obj.cells cs te fre)∈Rl) (hcs:∀j,j<L.length*3→cs[off+j]? = some ((L.flatMap flC).getD j undef)) (hcap:L.length≤cap) (hR:Has w ((gO z 0 num m T++dO D m y)++Rl)) (hrel:Rel N T L) (hw:Wl N D) (hmo:MapOk y.1 y.2 (wv2 D.wait)) (hf:FOk z T) (hon:OnD D L) :
  Calls Tryz.prog 21 #[.pointer (some ⟨z.fb,0,none⟩),.slice (some ⟨sa,off,none⟩) L.length cap] w fun e w'=>e=.returned (.bool true)∧Ext [] w w':=by
 have hl144:=hrel.l
 have hnp:=hrel.names
 have hwl:T.W.length=(nmL L).length:=by rw[←zA (f:=(·.1)),hnp.length_eq]
 have hnl:=nmL_len L
 refine enter [] ((gO z 0 num m T++dO D m y)++Rl) [] Tryz.func21 rfl kr (yj hR) ?_
 refine Rq [0,1] ?_
 refine Bp 1 [] none n0 trivial ?_
 refine Le (zY (vs:=[pT z.fb]) (fun o:K.Own=>.slice (Own.a o) (srtS (nmL L)).length (Own.c o)) [] (fun o=>Own.o 9 ((srtS (nmL L)).map Value.string) o) (fun o=>OwnOk o 1 (srtS (nmL L)).length ((srtS (nmL L)).map Value.string)) [] [] rfl rfl Tryz.func12 rfl rfl kr (fun w1 h _ _=>by have h9:=fList z num m y D T w1 (h.hasR (fun e he=>mL he)) hf (fun x hx=>yU (namB_le (hrel.nmok x hx)) (by decide)) om;rw[srtS_ext hnp,hwl,←srtS_len]at h9;exact h9)) ?_
 rintro ol hol
 refine Lq 1 [0,1,10,11] ?_
 refine Le (zY (fun o:K.Own=>.slice (Own.a o) (srtS (nmL L)).length (Own.c o)) [] (fun o=>Own.o 9 ((srtS (nmL L)).map Value.string) o) (fun o=>OwnOk o 1 (srtS (nmL L)).length ((srtS (nmL L)).map Value.string)) [] (Own.o 9 ((srtS (nmL L)).map Value.string) ol++[]) rfl rfl Tryz.func54 rfl rfl kr (fun w1 h _ _=>lNames sa off cap cs te fre L Rl w1 hmem hcs hcap (h.hasR (fun e he=>mR he)) om)) ?_
 rintro on hon2
 refine Lu (zr (.bool true) rfl Tryz.func53 rfl rfl kr (fun w1 h=>sEqual (Own.a ol) (Own.a on) (Own.c ol) (Own.c on) (srtS (nmL L)) (Own.o 9 ((srtS (nmL L)).map Value.string) on++(Own.o 9 ((srtS (nmL L)).map Value.string) ol++[])) w1 ((own_infS (e:=9) hol).mono (fun e he=>mR (mL he))) ((own_infS (e:=9) hon2).mono (fun e he=>mL he)) (h.has (fun e he=>mR he)) (by rw[srtS_len];omega))) ?_
 refine Ld 1 [0,1,14] ?_
 refine yb rfl (b:=false) kr rfl ?_
 refine Rq [0,15,16,17] ?_
 refine ye rfl (ι:=Nat) (fun(i:Nat)=>[(17,[],iN i),(16,[],iN L.length),(15,[],sP sa off L.length cap),(0,[],pT z.fb)]) (fun(i:Nat)=>[]) (fun(i:Nat)=>(i≤144)) (fun(i:Nat)=>144-i) 0 ?_ (Conv.mk kr) nL ?_
 ·exact zH _
 rintro i hi
 refine Rq [0,15,16,17,18] ?_
 refine eC rfl (p:=((i:Int)<(L.length:Int))) kr (fun c2=>?_) (fun c2=>?_)
 ·obtain⟨f,hfe⟩:∃f,f=L.getD i rfz:=⟨_,rfl⟩
  refine Bp 2 [dZ,(dS (.agg (flC f).toArray))] (some [0,15,16,17,20]) (fun S=>[(0≤(i:Int)∧(i:Int)<(L.length:Int)),(∀w1,S w1→(loadVar 126 ⟨sa,(addO off (i*3)),none⟩).run Tryz.prog w1=.ok (.agg (flC f).toArray) w1)]) ⟨om,(fun w1 h=>yw (vs:=flC f) Tryz.underlying126 rfl kr (flC_len _) (fun q9 v hq9=>by rw[y4];exact(zI (h.ro _ (mR hmem))).trans (fl_cell rfz (fun x _=>flC_len x) hcs om (by rw[←hfe];exact hq9)))),trivial⟩ ?_
  refine Le (zM (z:=(.agg (flC rfz).toArray)) rfl kr) ?_
  rintro fb ⟨hfb,nfb⟩
  refine Lu (zC (b:=fb) (off:=0) (vs:=(flC f).toArray) (n:=3) rfl kr kr kr rfl (flC_all _) 0 (cs:=(flC rfz).toArray) (e:=126) kr (zD 3)) ?_
  refine oL 0 rfl (show _=((flC f).toArray) from(show spl (flC rfz).toArray 0 (flC f).toArray.toList=(flC f).toArray from yx rfl)) ?_
  refine zg rfl ?_
  refine Cg (Γ':=[(6,[],pT fb),(17,[],iN i),(16,[],iN L.length),(15,[],sP sa off L.length cap),(0,[],pT z.fb)]) ?_
  refine Rg [0,6,15,16,17,23] [dZ,(dS (.string f.nm))] (fun S=>[(cE S fb 0 (.string f.nm))]) ⟨(oC 0 rfl rfl),trivial⟩ ?_
  refine zX rfl (b:=(f.nm.toList==(⟨#[]⟩:ByteArray).toList)) kr (fun c3r=>?_) (fun c3r=>?_)
  ·have c3:((f.nm.toList==(⟨#[]⟩:ByteArray).toList)=true):=c3r
   refine Rg [0,15,16,17] [] (fun _=>[(i6 ((i:Int)+1))]) ⟨om,trivial⟩ ?_
   refine zG rfl (i+1) (show i+1≤144 by omega) (by show 144-(i+1)<144-i;omega) (Conv.mk kr) (.cons _ .slnil)
  have c3:((f.nm.toList==(⟨#[]⟩:ByteArray).toList)=false):=c3r
  have hf0:0<f.nm.size:=by have h9:=c3;rw[nm_empty]at h9;exact Nat.pos_of_ne_zero (by simpa using h9)
  have hsk:=(hrel.w f.nm i).2 ⟨hf0,by rw[←hfe]⟩
  have hpi:plIn N (yh f):=by have h9:=hrel.lay.r i;rw[hrel.at,←hfe]at h9;exact h9
  have hob:Onb D f:=hon.onb (by rw[hfe];exact getD_inN om)
  refine Bp 3 [dZ,dZ,(dS (.string f.nm))] (some [0,6,15,16,17,25,27]) (fun S=>[(cE S fb 0 (.string f.nm))]) ⟨(oC 0 rfl rfl),trivial⟩ ?_
  refine Lu (zr (vs:=[pT z.fb,.string f.nm]) (.tuple #[.string f.da,.int .i64 0]) rfl Tryz.func13 rfl rfl kr (fun w1 h=>by have h9:=fRead z num m y D T f.nm i w1 (h.hasR (fun e he=>mL he)) hw hmo hf om hsk (by rw[hrel.at,←hfe];exact hpi);rw[hrel.at,←hfe,fdat_eq hw hob hpi]at h9;exact h9)) ?_
  refine Ld 5 [0,6,7,8,15,16,17] ?_
  refine Bp 9 [dZ,dZ,dZ,(1,false,none),(1,false,none),(1,false,some (.string f.da)),(1,false,none)] (some [0,6,15,16,17,39]) (fun S=>[((.bool false:Value)=.bool false),((.bool false:Value)=.bool false),((.bool false:Value)=.bool false),(cE S fb 1 (.string f.da)),((.bool false:Value)=.bool false)]) ⟨rfl,rfl,rfl,(oC 0 rfl rfl),rfl,trivial⟩ ?_
  refine qw 39 (b:=(!(f.da.toList==f.da.toList))) kr false (by rw[beq_self_eq_true];rfl) ?_
  refine Lp 3 [(1,false,none),(1,false,none),(1,false,some (.string f.nm))] (some [0,15,16,17,39,40,42]) (fun S=>[((.bool false:Value)=.bool false),((.bool false:Value)=.bool false),((.bool false:Value)=.bool false),(cE S fb 0 (.string f.nm))]) ⟨rfl,rfl,rfl,(oC 0 rfl rfl),trivial⟩ ?_
  refine Lu (zr (vs:=[pT z.fb,.string f.nm]) (.bool true) rfl Tryz.func25 rfl rfl kr (fun w1 h=>by have h9:=fHas z 0 num m y D T f.nm w1 (h.hasR (fun e he=>mL he)) hf.tb hf.g hf.sm;rw[hsk]at h9;exact h9)) ?_
  refine Lp 2 [(1,false,none)] (some [0,15,16,17,45]) (fun _=>[((.bool false:Value)=.bool false)]) ⟨rfl,trivial⟩ ?_
  refine zg rfl ?_
  refine yb rfl (b:=false) kr rfl ?_
  refine Cfg.reg rfl [0,15,16,17] [] (Γ':=[(17,[],.int .i64 ((i:Int)+1)),(16,[],iN L.length),(15,[],sP sa off L.length cap),(0,[],pT z.fb)]) (nd:=(fun _=>[(i6 ((i:Int)+1))])) (fun _=>kr) ⟨om,trivial⟩ ?_
  refine zG rfl (i+1) (show i+1≤144 by omega) (by show 144-(i+1)<144-i;omega) (Conv.mk kr) (.cons _ .slnil)
 refine Rq [4] ?_
 refine Rt [.bool true] (fun w1 hp=>?_)
 exact⟨rfl,hp.ext⟩
end
namespace K
section
variable {C:Cx} {R O:List (Nat×Obj)} {Γ:Env} {ks ks':List KI}
theorem Cfg.share {c:Code} (_hk:K.nrm 99 ks=.inl c::ks') {ι:Type} (Γj:ι→Env) (Oj:ι→List (Nat×Obj)) (J:ι→Prop)
  (h2:∀y,J y→Cfg C R (Oj y) (Γj y) (K.nrm 99 ks')) (h1:(∀y,J y→Cfg C R (Oj y) (Γj y) (K.nrm 99 ks'))→Cfg C R O Γ ks):Cfg C R O Γ ks:=h1 h2
theorem Cfg.joinS {KS:List KI} {ι:Type} {Γj:ι→Env} {Oj:ι→List (Nat×Obj)} {J:ι→Prop} (hj:∀y,J y→Cfg C R (Oj y) (Γj y) KS) (y:ι) (hJ:J y) (hk:K.nrm 99 ks=KS) (hΓ:Conv Γ (Γj y)) (hO:(Oj y).Sublist O):Cfg C R O Γ ks:=by
 refine Cfg.nrm ?_
 rw[hk]
 intro a w hs hp
 exact hj y hJ a w (hΓ.st hs) (hp.sub hO)
end
end K
section
open K
section
variable {N:Nat} {L:List RF} {a:FA} {l:List FA} {j:Nat}
theorem racts_drop (hj:j<l.length) (ha:a=l.getD j faz):l.drop j=a::l.drop (j+1):=acts_drop hj ha
theorem racts_go (hj:j<l.length) (ha:a=l.getD j faz) {L2:List RF} (h:rAct N L a=(0,L2)):qu N (l.drop j) L=qu N (l.drop (j+1)) L2:=by
 rw[racts_drop hj ha,qu,h];exact if_neg (fun e=>e rfl)
theorem racts_stop (hj:j<l.length) (ha:a=l.getD j faz) {e:Int} (h:(rAct N L a).1=e) (he:e≠0):(qu N (l.drop j) L).1=e:=by
 rw[racts_drop hj ha,qu,if_pos (by rw[h];exact he)];exact h
theorem ract_chk {e:Int} (h:chkF a=e) (he:e≠0):(rAct N L a).1=e:=by unfold rAct;rw[if_pos (by rw[h];exact he)];exact h
theorem ract_put {q:Int} (hc:chkF a=0) (h1:a.k=1) (hq:q=if fnd a.nm L 0<0 then fnd ByteArray.empty L 0 else fnd a.nm L 0):rAct N L a=if q<0 then(6,L)else rPutK N L q.toNat a.nm a.da:=by
 unfold rAct
 rw[if_neg (fun e=>e hc),if_pos h1]
 by_cases h0:fnd a.nm L 0<0
 ·rw[if_pos h0]at hq ⊢
  rw[hq]
 rw[if_neg h0]at hq ⊢
 rw[hq,if_neg h0]
theorem ract_none (hc:chkF a=0) (h1:¬a.k=1) (hq:fnd a.nm L 0<0):(rAct N L a).1=16:=by
 unfold rAct
 rw[if_neg (fun e=>e hc),if_neg h1,if_pos hq]
theorem ract_del {k:Nat} (hc:chkF a=0) (h2:a.k=2) (hq:fnd a.nm L 0=(k:Int)):rAct N L a=(0,L.set k rfz):=by
 unfold rAct
 rw[if_neg (fun e=>e hc),if_neg om,if_neg om,if_pos h2,hq,yk]
theorem ract_there {k:Nat} (hc:chkF a=0) (h2:a.k=3) (hq:fnd a.nm L 0=(k:Int)) (ht:0≤fnd a.t2 L 0):(rAct N L a).1=17:=by
 unfold rAct
 rw[if_neg (fun e=>e hc),if_neg om,if_neg om,if_neg om,if_pos ht]
theorem ract_ren {k:Nat} (hc:chkF a=0) (h2:a.k=3) (hq:fnd a.nm L 0=(k:Int)) (ht:¬0≤fnd a.t2 L 0):rAct N L a=(0,L.set k ⟨a.t2,(L.getD k rfz).da,(L.getD k rfz).at_⟩):=by
 unfold rAct
 rw[if_neg (fun e=>e hc),if_neg om,if_neg om,if_neg om,if_neg ht,hq,yk]
theorem fnd_k {nm:ByteArray} {q:Int} (hl:L.length=144) (hq:q=fnd nm L 0) (h0:¬q<0):∃k:Nat,q=(k:Int)∧k<144:=by
 rcases fnd_cases nm L 0 with ⟨e,_⟩|⟨k,e,hk,_⟩
 ·omega
 exact⟨k,by omega,by omega⟩
end
theorem flv_split {L:List RF} {k:Nat} (h:k<L.length):flv L=flv (L.take k)++(flC (L.getD k rfz)++flv (L.drop (k+1))):=by
 have e:L=L.take k++(L.getD k rfz::L.drop (k+1)):=by rw[zc,zd h,qR,←yn h,yz]
 conv=>lhs;rw[e]
 unfold flv
 rw[yY,yv]
theorem flv_setsplit {L:List RF} {k:Nat} (h:k<L.length) (f:RF):flv (L.set k f)=flv (L.take k)++(flC f++flv (L.drop (k+1))):=by
 rw[List.set_eq_take_append_cons_drop,if_pos h]
 unfold flv
 rw[yY,yv]
theorem flv_set {L:List RF} {k:Nat} (h:k<L.length) (f:RF):splL (flv L) (k*3) (flC f)=flv (L.set k f):=by
 have hl:(flv (L.take k)).length=k*3:=by rw[flv_len,z8,qC om]
 have hd:(flv L).drop (k*3+3)=flv (L.drop (k+1)):=by
  rw[flv_split h,←zO]
  exact drop_pre (by rw[zh,hl];rfl)
 unfold splL
 rw[show(flC f).length=3 from rfl,hd,flv_setsplit h]
 congr 1
 rw[flv_split h]
 exact take_pre hl
theorem flv_name {L:List RF} {k:Nat} (h:k<L.length) (t:ByteArray):splL (flv L) (k*3) [Value.string t]=flv (L.set k ⟨t,(L.getD k rfz).da,(L.getD k rfz).at_⟩):=by
 have hl:(flv (L.take k)).length=k*3:=by rw[flv_len,z8,qC om]
 have e:flv L=(flv (L.take k)++[Value.string (L.getD k rfz).nm])++([Value.string (L.getD k rfz).da,Value.int .i64 ((L.getD k rfz).at_:Int)]++flv (L.drop (k+1))):=by
  rw[flv_split h];simp[flC]
 unfold splL
 rw[flv_setsplit h,show([Value.string t]:List Value).length=1 from rfl]
 have hd:(flv L).drop (k*3+1)=[Value.string (L.getD k rfz).da,Value.int .i64 ((L.getD k rfz).at_:Int)]++flv (L.drop (k+1)):=by
  rw[e];exact drop_pre (by rw[zh,hl];rfl)
 have ht:(flv L).take (k*3)=flv (L.take k):=by rw[flv_split h];exact take_pre hl
 rw[hd,ht];simp[flC]
theorem own_re6 {o:K.Own} {sz n:Nat} {xs ys:List Value} (h:OwnOk o sz n xs) (hl:ys.length=xs.length):OwnOk o sz n ys:=⟨hl.trans h.len,h.nil,fun p hp=>by rw[hl];exact h.some p hp⟩
theorem rput_0 {N:Nat} {L:List RF} {k:Nat} {nm da:ByteArray} (h:da.size=0):rPutK N L k nm da=(0,L.set k ⟨nm,da,0⟩):=if_pos h
theorem rput_no {N:Nat} {L:List RF} {k:Nat} {nm da:ByteArray} (h:¬da.size=0) {e:Nat} (he:(yr 121 (frC N ((L.set k rfz).map yh)) (secs da.size:Int)).2.1=e) (h0:e≠0):(rPutK N L k nm da).1=(e:Int):=by
 unfold rPutK
 rw[if_neg h,if_pos (by rw[he];exact h0),he]
theorem rput_yes {N:Nat} {L:List RF} {k:Nat} {nm da:ByteArray} (h:¬da.size=0) (he:(yr 121 (frC N ((L.set k rfz).map yh)) (secs da.size:Int)).2.1=0) {a:Nat} (ha:(yr 121 (frC N ((L.set k rfz).map yh)) (secs da.size:Int)).1=(a:Int)):rPutK N L k nm da=(0,L.set k ⟨nm,da,a⟩):=by
 unfold rPutK
 rw[if_neg h,if_neg (fun e=>e he),ha,yk]
theorem set_set6 (L:List RF) (k:Nat) (f:RF):(L.set k rfz).set k f=L.set k f:=List.set_set ..
theorem r6Do {N:Nat} (qb:Nat) (o:K.Own) (L:List RF) (la:Option Addr) (cap:Nat) (l:List FA) (Rl:List (Nat×Obj)) (T:Tb) (D:DK) (w:World) (hR:Has w (fsO qb N o L++Rl)) (ho:OwnOk o 3 144 (flv L)) (hI:InF acL 4 Rl la l) (hll:l.length≤1000) (hN:121<N∧N≤400) (hrel:Rel N T L) (hdm:DmR D [] L) (hsz:∀a∈l,(a.nm.size≤maxLen∧a.t2.size≤maxLen)∧a.da.size≤1000000) :
  Calls Tryz.prog 18 #[.pointer (some ⟨qb,0,none⟩),.slice la l.length cap] w fun e w'=>((qu N l L).1=0∧∃o2:K.Own,OwnOk o2 3 144 (flv (qu N l L).2)∧e=.returned (.tuple #[.slice (Own.a o2) 144 (Own.c o2),.int .i64 0])∧∃R1,HP w [] R1 (Own.o 126 (flv (qu N l L).2) o2) w')∨((qu N l L).1≠0∧e=.returned (.tuple #[.slice none 0 0,.int .i64 (qu N l L).1])∧Ext [] w w'):=by
 have hl144:=hrel.l
 obtain⟨pb0,pcs0,hpa0,hpm0,hpc0⟩:=own_adr 126 ho (by decide)
 have hfl3:=flv_len L
 rw[hl144]at hfl3
 refine enter [] (fsO qb N o L++Rl) [] Tryz.func18 rfl kr (yj hR) ?_
 refine Rq [0,1] ?_
 refine Rq [0,1,6] ?_
 refine Bp 5 [dZ,dZ,dZ,dZ,(dS (sO o 144))] (some [0,1,6,13,17]) (fun S=>[(cE S qb 0 (sO o 144))]) ⟨(rC 0 rfl rfl),trivial⟩ ?_
 refine Le (Eff.reO (A2:=fun(oq9:K.Own)=>([]++(Own.o 126 (flv L) oq9++[]))) ((Eff.appendA rfl 3 40 Tryz.underlying51 kr (z:=.agg (flC rfz).toArray) kr rfl none (n:=0) (xs:=[]) (OwnOk.none _) kr ⟨pb0,0,none⟩ (m:=144) (c2:=Own.c o) ((show _=some (Value.slice (Own.a o) 144 (Own.c o)) by kernel_rfl).trans (by rw[hpa0])) (flv L) hfl3 (fun v hv=>by obtain⟨f,_,hv⟩:=List.mem_flatMap.1 hv;exact flC_all f v hv) (fun w1 h j9 v hj=>(by rw[add_none,zF];exact(zI (h.ro (pb0,Obj.cells pcs0 126 (0,0)) (mL (zf _ hpm0)))).trans (hpc0 _ _ hj))) [] rfl (by decide) (by decide))) (fun oq9=>by rw[yM];rfl)) ?_
 rintro lo klo
 refine Ld 1 [0,1,6] ?_
 refine Rq [0,6,19,20,21] ?_
 refine ye rfl (ι:=Nat×List RF×Tb×Dm×K.Own) (fun(j,Lj,T,dm,lo)=>[(21,[],iN j),(20,[],iN l.length),(19,[],.slice la l.length cap),(6,[],sO lo 144),(0,[],pT qb)]) (fun(j,Lj,T,dm,lo)=>([]++(Own.o 126 (flv Lj) lo++[]))) (fun(j,Lj,T,dm,lo)=>(j≤l.length)∧(qu N l L=qu N (l.drop j) Lj)∧(Rel N T Lj)∧(DmR D dm Lj)∧(OwnOk lo 3 144 (flv Lj))) (fun(j,Lj,T,dm,lo)=>l.length-j) (0,L,T,[],lo) ?_ (Conv.mk kr) slr ?_
 ·exact⟨zH _,rfl,hrel,hdm,by have h9:=klo;rw[yM]at h9;exact h9⟩
 rintro⟨j,Lj,T,dm,lo⟩ ⟨hj,hra,hrj,hdj,hlo⟩
 refine Rq [0,6,19,20,21,22] ?_
 refine eC rfl (p:=((j:Int)<(l.length:Int))) kr (fun c1=>?_) (fun c1=>?_)
 ·obtain⟨sb,off,cs,te,fre,hsb,hmem,hcs⟩:=hI om
  obtain⟨a,hae⟩:∃a,a=l.getD j faz:=⟨_,rfl⟩
  have hsa:=hsz a (by rw[hae];exact getD_inN om)
  have hj144:=hrj.l
  obtain⟨pb,pcs,hpa,hpm,hpc⟩:=own_adr 126 hlo (by decide)
  have hal:=act_rel hrj hdj a
  refine zN 19 (show .slice la l.length cap=.slice (some ⟨sb,off,none⟩) l.length cap from by rw[hsb]) ?_
  refine zN 6 (show .slice (Own.a lo) 144 (Own.c lo)=.slice (some ⟨pb,0,none⟩) 144 (Own.c lo)from by rw[hpa]) ?_
  refine Bp 2 [dZ,(dS (.agg (acC a)))] (some [0,6,19,20,21,24]) (fun S=>[(0≤(j:Int)∧(j:Int)<(l.length:Int)),(∀w1,S w1→(loadVar 123 ⟨sb,(addO off (j*4)),none⟩).run Tryz.prog w1=.ok (.agg (acC a)) w1)]) ⟨om,(fun w1 h=>yw (vs:=acL a) Tryz.underlying123 rfl kr (acL_len _) (fun j9 v hj=>by rw[y4];exact(zI (h.ro _ (mR hmem))).trans (fl_cell faz (fun x _=>acL_len x) hcs om (by rw[←hae];exact hj)))),trivial⟩ ?_
  refine Le (zM (z:=(.agg (acC faz))) rfl kr) ?_
  rintro ab ⟨hab,nab⟩
  refine Lu (zC (b:=ab) (off:=0) (vs:=(acC a)) (n:=4) rfl kr kr kr rfl (acL_all _) 0 (cs:=(acC faz)) (e:=123) kr (zD 4)) ?_
  refine yF (congrArg (fun(xq:Array Value)=>(([cl ab xq 123]++(Own.o 126 (flv Lj) lo++[])):LO)) (show _=(acC a) from(show spl (acC faz) 0 (acC a).toList=acC a from yx rfl))) ?_
  refine zg rfl ?_
  refine Cg (Γ':=[(8,[],pT ab),(21,[],iN j),(20,[],iN l.length),(19,[],sP sb off l.length cap),(6,[],sP pb 0 144 (Own.c lo)),(0,[],pT qb)]) ?_
  refine Rg [0,6,8,19,20,21,32] [dZ,(dS (.int .i64 a.k)),dZ,dZ,dZ,(dS (.int .i64 a.k))] (fun S=>[(cE S ab 0 (.int .i64 a.k)),((.bool (decide (a.k<(1:Int))):Value)=.bool false→(cE S ab 0 (.int .i64 a.k)))]) ⟨(oC 0 rfl rfl),(fun g0=>have q0:(¬(a.k<(1:Int))):=(dF (boolV g0));(oC 0 rfl rfl)),trivial⟩ ?_
  refine zX rfl (b:=((decide (a.k<(1:Int))) || (decide (a.k>(3:Int))))) kr (fun c2r=>?_) (fun c2r=>?_)
  ·have c2:((a.k<(1:Int))∨(a.k>(3:Int))):=((orT c2r).elim (fun h=>Or.inl (dT h)) (fun h=>Or.inr (dT h)))
   refine Rq [4,5] ?_
   refine yD rfl (rs:=[.tmp 4,.tmp 5]) rfl [.slice none 0 0,.int .i64 11] ⟨kr,by kernel_rfl,trivial⟩ (fun w1 hp=>?_)
   have hst:=racts_stop (N:=N) (L:=Lj) (e:=11) om hae (ract_chk (chk_k om) (by decide)) om
   rw[←hra]at hst
   exact .inr ⟨by rw[hst];omega,by rw[hst];rfl,hp.ext⟩
  have c2:((¬(a.k<(1:Int)))∧(¬(a.k>(3:Int)))):=⟨(dF (orF1 c2r)),(dF (orF2 c2r))⟩
  refine Bp 2 [dZ,(dS (.string a.nm))] (some [0,6,8,19,20,21,34]) (fun S=>[(cE S ab 1 (.string a.nm))]) ⟨(oC 0 rfl rfl),trivial⟩ ?_
  refine Lu (zr (.bool (namB a.nm)) rfl Tryz.func48 rfl rfl kr (fun w1 _=>rNamed6 a.nm w1 hsa.1.1)) ?_
  refine Lq 2 [0,6,8,19,20,21,37] ?_
  by_cases c3:(!(namB a.nm))=true
  ·have c3k:(!(namB a.nm))=true:=c3
   have c3q:((namB a.nm)=false):=(notT c3k)
   refine qw 37 (b:=(!(namB a.nm))) kr true c3k ?_
   refine Lp 10 [(2,false,none),(2,false,none),(2,false,none),(2,false,none),(2,false,none),(2,false,none),(2,false,none),(2,false,none),(2,false,none)] (some [0,6,8,19,20,21,47]) (fun _=>[((.bool true:Value)≠.bool false),((.bool true:Value)≠.bool false),((.bool true:Value)≠.bool false),((.bool true:Value)≠.bool false),((undef:Value)≠.bool true),((undef:Value)≠.bool true),((undef:Value)≠.bool true),((undef:Value)≠.bool true),((.bool true:Value)≠.bool false)]) ⟨(by simp),(by simp),(by simp),(by simp),(by simp[undef]),(by simp[undef]),(by simp[undef]),(by simp[undef]),(by simp),trivial⟩ ?_
   refine zg rfl ?_
   refine Cfg.condT rfl (b:=true) kr rfl ?_
   refine Rq [4,5] ?_
   refine yD rfl (rs:=[.tmp 4,.tmp 5]) rfl [.slice none 0 0,.int .i64 12] ⟨kr,by kernel_rfl,trivial⟩ (fun w1 hp=>?_)
   have hst:=racts_stop (N:=N) (L:=Lj) (e:=12) om hae (ract_chk (chk_n om (by simpa using c3q)) (by decide)) om
   rw[←hra]at hst
   exact .inr ⟨by rw[hst];omega,by rw[hst];rfl,hp.ext⟩
  have c3k:(!(namB a.nm))=false:=(by simpa using c3)
  have c3q:((namB a.nm)=true):=(notF c3k)
  refine qw 37 (b:=(!(namB a.nm))) kr false c3k ?_
  refine Lp 4 [(1,false,none),(1,false,some (.int .i64 a.k)),(1,false,none),(1,false,none)] (some [0,6,8,19,20,21,37,41]) (fun S=>[((.bool false:Value)=.bool false),((.bool false:Value)=.bool false),(cE S ab 0 (.int .i64 a.k)),((.bool false:Value)=.bool false),((.bool false:Value)=.bool false)]) ⟨rfl,rfl,(oC 0 rfl rfl),rfl,rfl,trivial⟩ ?_
  by_cases c5:(a.k==(3:Int))=true
  ·have c5k:(a.k==(3:Int))=true:=c5
   have c5q:=(beq_iff_eq.1 c5k)
   refine qw 41 (b:=(a.k==(3:Int))) kr true c5k ?_
   refine qL 2 [(1,false,none),(1,false,some (.string a.t2))] (some [0,6,8,19,20,21,37,41,43]) (Γ':=[(43,[],.string a.t2),(41,[],.bool true),(37,[],.bool false),(8,[],pT ab),(21,[],iN j),(20,[],iN l.length),(19,[],sP sb off l.length cap),(6,[],sP pb 0 144 (Own.c lo)),(0,[],pT qb)]) (nd:=(fun S=>[((.bool true:Value)=.bool true),((.bool true:Value)=.bool true),(cE S ab 2 (.string a.t2))])) kr (fun _=>kr) ⟨rfl,rfl,(oC 0 rfl rfl),trivial⟩ ?_
   refine Lu (zr (.bool (namB a.t2)) rfl Tryz.func48 rfl rfl kr (fun w1 _=>rNamed6 a.t2 w1 hsa.1.2)) ?_
   refine Lp 3 [(1,false,none),(1,false,none)] (some [0,6,8,19,20,21,47]) (fun _=>[((.bool true:Value)=.bool true),((.bool false:Value)=.bool false)]) ⟨rfl,rfl,trivial⟩ ?_
   refine zg rfl ?_
   refine zX rfl (b:=(!(namB a.t2))) kr (fun c6r=>?_) (fun c6r=>?_)
   ·have c6:((namB a.t2)=false):=(notT c6r)
    refine Rq [4,5] ?_
    refine yD rfl (rs:=[.tmp 4,.tmp 5]) rfl [.slice none 0 0,.int .i64 12] ⟨kr,by kernel_rfl,trivial⟩ (fun w1 hp=>?_)
    have hst:=racts_stop (N:=N) (L:=Lj) (e:=12) om hae (ract_chk (chk_t om ⟨by omega,by simpa using c6⟩) (by decide)) om
    rw[←hra]at hst
    exact .inr ⟨by rw[hst];omega,by rw[hst];rfl,hp.ext⟩
   have c6:((namB a.t2)=true):=(notF c6r)
   have h1n:¬namB a.nm=false:=by simpa using c3q
   have h2n:¬(a.k=3∧namB a.t2=false):=fun x=>by have h9:=c6;rw[x.2]at h9;simp at h9
   have hc0:chkF a=0:=chk_0 om h1n h2n om
   refine Bp 3 [dZ,dZ,(dS (.string a.nm))] (some [0,6,8,19,20,21,48,50]) (fun S=>[(cE S ab 1 (.string a.nm))]) ⟨(oC 0 rfl rfl),trivial⟩ ?_
   refine Lu (zr (vs:=[sP pb 0 144 (Own.c lo),.string a.nm]) (.int .i64 (fnd a.nm Lj 0)) rfl Tryz.func49 rfl rfl kr (fun w1 h=>by have h9:=r6Find (some ⟨pb,0,none⟩) (Own.c lo) Lj (Own.o 126 (flv Lj) lo) a.nm w1 (hpa▸own_inf (e:=126) (f:=flC) (l:=Lj) (by rw[hj144];exact hlo)) (fun e he=>h.own e (show e∈([cl ab (acC a) 123]++(Own.o 126 (flv Lj) lo++[])) from(mR (mL he)))) om;rw[hj144]at h9;exact h9)) ?_
   refine Ld 1 [0,6,8,9,19,20,21] ?_
   refine Rg [0,6,8,9,19,20,21,54] [dZ,(dS (.int .i64 a.k))] (fun S=>[(cE S ab 0 (.int .i64 a.k))]) ⟨(oC 0 rfl rfl),trivial⟩ ?_
   refine yb rfl (b:=(a.k==(1:Int))) kr (beq_eq_false_iff_ne.2 om) ?_
   refine Rq [0,6,8,9,19,20,21,100] ?_
   refine eC rfl (p:=((fnd a.nm Lj 0)<(0:Int))) kr (fun c8=>?_) (fun c8=>?_)
   ·refine Rq [4,5] ?_
    refine yD rfl (rs:=[.tmp 4,.tmp 5]) rfl [.slice none 0 0,.int .i64 16] ⟨kr,by kernel_rfl,trivial⟩ (fun w1 hp=>?_)
    have hst:=racts_stop (N:=N) (L:=Lj) (e:=16) om hae (ract_none (hc0) om om) om
    rw[←hra]at hst
    exact .inr ⟨by rw[hst];omega,by rw[hst];rfl,hp.ext⟩
   refine Cfg.reg rfl [0,6,8,9,19,20,21,103] [dZ,(dS (.int .i64 a.k))] (Γ':=[(103,[],.bool (a.k==(2:Int))),(9,[],.int .i64 (fnd a.nm Lj 0)),(8,[],pT ab),(21,[],iN j),(20,[],iN l.length),(19,[],sP sb off l.length cap),(6,[],sP pb 0 144 (Own.c lo)),(0,[],pT qb)]) (nd:=(fun S=>[(cE S ab 0 (.int .i64 a.k))])) (fun _=>kr) ⟨(oC 0 rfl rfl),trivial⟩ ?_
   refine yb rfl (b:=(a.k==(2:Int))) kr (beq_eq_false_iff_ne.2 om) ?_
   obtain⟨k,hqk,hk⟩:=fnd_k (nm:=a.nm) hj144 rfl om
   refine sI 9 (show(fnd a.nm Lj 0)=(k:Int)from hqk) ?_
   refine Bp 3 [dZ,dZ,(dS (.string a.t2))] (some [0,6,8,9,19,20,21,108,110]) (fun S=>[(cE S ab 2 (.string a.t2))]) ⟨(oC 0 rfl rfl),trivial⟩ ?_
   refine Lu (zr (vs:=[sP pb 0 144 (Own.c lo),.string a.t2]) (.int .i64 (fnd a.t2 Lj 0)) rfl Tryz.func49 rfl rfl kr (fun w1 h=>by have h9:=r6Find (some ⟨pb,0,none⟩) (Own.c lo) Lj (Own.o 126 (flv Lj) lo) a.t2 w1 (hpa▸own_inf (e:=126) (f:=flC) (l:=Lj) (by rw[hj144];exact hlo)) (fun e he=>h.own e (show e∈([cl ab (acC a) 123]++(Own.o 126 (flv Lj) lo++[])) from(mR (mL he)))) om;rw[hj144]at h9;exact h9)) ?_
   refine Ld 1 [0,6,8,9,19,20,21,112] ?_
   refine eC rfl (p:=((fnd a.t2 Lj 0)≥(0:Int))) kr (fun c10=>?_) (fun c10=>?_)
   ·refine Rq [4,5] ?_
    refine yD rfl (rs:=[.tmp 4,.tmp 5]) rfl [.slice none 0 0,.int .i64 17] ⟨kr,by kernel_rfl,trivial⟩ (fun w1 hp=>?_)
    have hst:=racts_stop (N:=N) (L:=Lj) (e:=17) om hae (ract_there hc0 om hqk om) om
    rw[←hra]at hst
    exact .inr ⟨by rw[hst];omega,by rw[hst];rfl,hp.ext⟩
   refine Bp 6 [dZ,dZ,dZ,(dS (.string a.t2))] (some [0,6,19,20,21,116,118]) (fun S=>[(cE S ab 2 (.string a.t2)),(iL (k:Int) 144)]) ⟨(oC 0 rfl rfl),om,trivial⟩ ?_
   refine Lu (Eff.reO (A2:=fun _=>([(ab,.cells (acC a) 123 (0,0))]++(Own.o 126 (flv (Lj.set k ⟨a.t2,(Lj.getD k rfz).da,(Lj.getD k rfz).at_⟩)) lo++[]))) (Eff.storeOwn1 (b:=pb) (off:=k*3) (v:=.string a.t2) rfl (ow:=lo) (e:=126) (xs:=(flv Lj)) hpa kr kr rfl kr [(ab,.cells (acC a) 123 (0,0))] [] (by simp only[List.append_assoc]) (by rw[flv_len];omega)) (fun _=>by rw[flv_name (by rw[hj144];exact hk)])) ?_
   refine zg rfl ?_
   refine Cg (Γ':=[(21,[],iN j),(20,[],iN l.length),(19,[],sP sb off l.length cap),(6,[],sP pb 0 144 (Own.c lo)),(0,[],pT qb)]) ?_
   refine Rg [0,6,19,20,21] [] (fun _=>[(i6 ((j:Int)+1))]) ⟨om,trivial⟩ ?_
   have hact:rAct N Lj a=(0,(Lj.set k ⟨a.t2,(Lj.getD k rfz).da,(Lj.getD k rfz).at_⟩)):=ract_ren hc0 om hqk om
   have hgo:=racts_go om hae hact
   rw[hact]at hal
   obtain⟨hr2,hd2⟩:=hal.2 hal.1.symm
   refine zN 19 (show .slice (some ⟨sb,off,none⟩) l.length cap=.slice la l.length cap from by rw[hsb]) ?_
   refine zN 6 (show .slice (some ⟨pb,0,none⟩) 144 (Own.c lo)=.slice (Own.a lo) 144 (Own.c lo)from by rw[hpa]) ?_
   refine zG rfl (j+1,(Lj.set k ⟨a.t2,(Lj.getD k rfz).da,(Lj.getD k rfz).at_⟩),(actF T dm a).2.1,(actF T dm a).2.2,lo) ⟨by omega,hra.trans hgo,hr2,hd2,own_re6 hlo (by rw[flv_len,flv_len,yc])⟩ (by show l.length-(j+1)<l.length-j;omega) (Conv.mk kr) (.cons _ slr)
  have c5k:(a.k==(3:Int))=false:=(by simpa using c5)
  have c5q:=(beq_eq_false_iff_ne.1 c5k)
  refine qw 41 (b:=(a.k==(3:Int))) kr false c5k ?_
  refine Lp 6 [(2,false,none),(2,false,none),(2,false,none),(2,false,none),(1,false,none)] (some [0,6,8,19,20,21,47]) (fun _=>[((.bool false:Value)≠.bool true),((.bool false:Value)≠.bool true),((.bool false:Value)≠.bool true),((.bool false:Value)≠.bool true),((.bool false:Value)=.bool false)]) ⟨(by simp),(by simp),(by simp),(by simp),rfl,trivial⟩ ?_
  refine zg rfl ?_
  refine yb rfl (b:=false) kr rfl ?_
  have h1n:¬namB a.nm=false:=by simpa using c3q
  have h2n:¬(a.k=3∧namB a.t2=false):=fun x=>by have h9:=c5q;omega
  refine Bp 3 [dZ,dZ,(dS (.string a.nm))] (some [0,6,8,19,20,21,48,50]) (fun S=>[(cE S ab 1 (.string a.nm))]) ⟨(oC 0 rfl rfl),trivial⟩ ?_
  refine Lu (zr (vs:=[sP pb 0 144 (Own.c lo),.string a.nm]) (.int .i64 (fnd a.nm Lj 0)) rfl Tryz.func49 rfl rfl kr (fun w1 h=>by have h9:=r6Find (some ⟨pb,0,none⟩) (Own.c lo) Lj (Own.o 126 (flv Lj) lo) a.nm w1 (hpa▸own_inf (e:=126) (f:=flC) (l:=Lj) (by rw[hj144];exact hlo)) (fun e he=>h.own e (show e∈([cl ab (acC a) 123]++(Own.o 126 (flv Lj) lo++[])) from(mR (mL he)))) om;rw[hj144]at h9;exact h9)) ?_
  refine Ld 1 [0,6,8,9,19,20,21] ?_
  refine Rg [0,6,8,9,19,20,21,54] [dZ,(dS (.int .i64 a.k))] (fun S=>[(cE S ab 0 (.int .i64 a.k))]) ⟨(oC 0 rfl rfl),trivial⟩ ?_
  refine zX rfl (b:=(a.k==(1:Int))) kr (fun c12r=>?_) (fun c12r=>?_)
  ·have c12:=(beq_iff_eq.1 c12r)
   refine Rg [0,6,8,9,19,20,21,58] [dZ,(dS (.string a.da))] (fun S=>[(cE S ab 3 (.string a.da))]) ⟨(oC 0 rfl rfl),trivial⟩ ?_
   refine eC rfl (p:=((a.da.size:Int)>(32768:Int))) kr (fun c13=>?_) (fun c13=>?_)
   ·refine Rq [4,5] ?_
    refine yD rfl (rs:=[.tmp 4,.tmp 5]) rfl [.slice none 0 0,.int .i64 5] ⟨kr,by kernel_rfl,trivial⟩ (fun w1 hp=>?_)
    have hst:=racts_stop (N:=N) (L:=Lj) (e:=5) om hae (ract_chk (chk_d om h1n h2n ⟨by omega,by omega⟩) (by decide)) om
    rw[←hra]at hst
    exact .inr ⟨by rw[hst];omega,by rw[hst];rfl,hp.ext⟩
   have hc0:chkF a=0:=chk_0 om h1n h2n om
   refine Rq [0,6,8,9,19,20,21,60] ?_
   refine Cfg.share rfl (ι:=Int) (fun(q:Int)=>[(9,[],.int .i64 q),(8,[],pT ab),(21,[],iN j),(20,[],iN l.length),(19,[],sP sb off l.length cap),(6,[],sP pb 0 144 (Own.c lo)),(0,[],pT qb)]) (fun(q:Int)=>([cl ab (acC a) 123]++(Own.o 126 (flv Lj) lo++[]))) (fun(q:Int)=>(q=(if fnd a.nm Lj 0<0 then fnd ByteArray.empty Lj 0 else fnd a.nm Lj 0))) ?_ ?_
   ·rintro q hq
    refine Cfg.reg rfl [0,6,8,9,19,20,21,64] [] (Γ':=[(64,[],.bool (decide (q<(0:Int)))),(9,[],.int .i64 q),(8,[],pT ab),(21,[],iN j),(20,[],iN l.length),(19,[],sP sb off l.length cap),(6,[],sP pb 0 144 (Own.c lo)),(0,[],pT qb)]) (nd:=(fun _=>[])) (fun _=>kr) trivial ?_
    refine eC rfl (p:=(q<(0:Int))) kr (fun c15=>?_) (fun c15=>?_)
    ·refine Rq [4,5] ?_
     refine yD rfl (rs:=[.tmp 4,.tmp 5]) rfl [.slice none 0 0,.int .i64 6] ⟨kr,by kernel_rfl,trivial⟩ (fun w1 hp=>?_)
     have hst:=racts_stop (N:=N) (L:=Lj) (e:=6) om hae (by rw[ract_put hc0 om hq,if_pos om]) om
     rw[←hra]at hst
     exact .inr ⟨by rw[hst];omega,by rw[hst];rfl,hp.ext⟩
    have hrp:=ract_put (N:=N) hc0 om hq
    rw[if_neg om]at hrp
    obtain⟨k,hqk,hk⟩:∃k:Nat,q=(k:Int)∧k<144:=by
     by_cases h9:fnd a.nm Lj 0<0
     ·rw[if_pos h9]at hq;exact fnd_k hj144 hq om
     ·rw[if_neg h9]at hq;exact fnd_k hj144 hq om
    rw[hqk,yk]at hrp
    have hl1:(Lj.set k rfz).length=144:=by rw[yc];exact hj144
    have hlo1:OwnOk lo 3 144 (flv (Lj.set k rfz)):=own_re6 hlo (by rw[flv_len,flv_len,yc])
    refine sI 9 (show q=(k:Int)from hqk) ?_
    refine Bp 4 [dZ,dZ,(dS (.agg (flC rfz).toArray))] (some [0,6,8,9,19,20,21,67,68]) (fun S=>[(∀w1,S w1→(Instr.build 126 #[]).run Tryz.prog w1=.ok (.agg (flC rfz).toArray) w1),(iL (k:Int) 144)]) ⟨(fun _ _=>kr),om,trivial⟩ ?_
    refine Lu (Eff.reO (A2:=fun _=>([(ab,.cells (acC a) 123 (0,0))]++(Own.o 126 (flv (Lj.set k rfz)) lo++[]))) (Eff.storeOwn (b:=pb) (off:=k*3) (vs:=(flC rfz).toArray) (n:=3) rfl (ow:=lo) (e:=126) (xs:=(flv Lj)) hpa kr kr kr rfl (flC_all _) [(ab,.cells (acC a) 123 (0,0))] [] (by simp only[List.append_assoc]) (by rw[flv_len];(repeat rw[yc]);omega)) (fun _=>by rw[show splL (flv Lj) (k*3) ((flC rfz).toArray).toList=flv (Lj.set k rfz) from(flv_set (by rw[hj144];exact hk) rfz)];try simp only[List.append_assoc])) ?_
    refine zg rfl ?_
    refine Cg (Γ':=[(9,[],iN k),(8,[],pT ab),(21,[],iN j),(20,[],iN l.length),(19,[],sP sb off l.length cap),(6,[],sP pb 0 144 (Own.c lo)),(0,[],pT qb)]) ?_
    refine Bp 5 [dZ,(dS (.string a.nm)),dZ,(dS (.string a.da)),(dS (.agg (flC ⟨a.nm,a.da,0⟩).toArray))] (some [0,6,8,9,19,20,21,73]) (fun S=>[(cE S ab 1 (.string a.nm)),(cE S ab 3 (.string a.da)),(∀w1,S w1→(Instr.build 126 #[(0,.string a.nm),(1,.string a.da)]).run Tryz.prog w1=.ok (.agg (flC ⟨a.nm,a.da,0⟩).toArray) w1)]) ⟨(oC 0 rfl rfl),(oC 0 rfl rfl),(fun _ _=>kr),trivial⟩ ?_
    refine Le (zM (z:=(.agg (flC rfz).toArray)) rfl kr) ?_
    rintro xb ⟨hxb,nxb⟩
    refine Lu (zC (b:=xb) (off:=0) (vs:=(flC ⟨a.nm,a.da,0⟩).toArray) (n:=3) rfl kr kr kr rfl (flC_all _) 0 (cs:=(flC rfz).toArray) (e:=126) kr (zD 3)) ?_
    refine yF (congrArg (fun(xq:Array Value)=>(([cl xb xq 126,cl ab (acC a) 123]++(Own.o 126 (flv (Lj.set k rfz)) lo++[])):LO)) (show _=((flC ⟨a.nm,a.da,0⟩).toArray) from(show spl (flC rfz).toArray 0 (flC ⟨a.nm,a.da,0⟩).toArray.toList=(flC ⟨a.nm,a.da,0⟩).toArray from yx rfl))) ?_
    refine zg rfl ?_
    refine Cg (Γ':=[(10,[],pT xb),(9,[],iN k),(8,[],pT ab),(21,[],iN j),(20,[],iN l.length),(19,[],sP sb off l.length cap),(6,[],sP pb 0 144 (Own.c lo)),(0,[],pT qb)]) ?_
    refine Rg [0,6,9,10,19,20,21,77] [dZ,(dS (.string a.da))] (fun S=>[(cE S ab 3 (.string a.da))]) ⟨(oC 1 rfl rfl),trivial⟩ ?_
    refine Cfg.share rfl (ι:=Nat) (fun(a9:Nat)=>[(10,[],pT xb),(9,[],iN k),(21,[],iN j),(20,[],iN l.length),(19,[],sP sb off l.length cap),(6,[],sP pb 0 144 (Own.c lo)),(0,[],pT qb)]) (fun(a9:Nat)=>([cl xb ((flC ⟨a.nm,a.da,a9⟩).toArray) 126,cl ab (acC a) 123]++(Own.o 126 (flv (Lj.set k rfz)) lo++[]))) (fun(a9:Nat)=>(rPutK N Lj k a.nm a.da=(0,Lj.set k ⟨a.nm,a.da,a9⟩))) ?_ ?_
    ·rintro a9 hx9
     refine Bp 4 [dZ,dZ,(dS (.agg (flC ⟨a.nm,a.da,a9⟩).toArray))] (some [0,6,19,20,21,97,98]) (fun S=>[(lV S 126 xb 0 (.agg (flC ⟨a.nm,a.da,a9⟩).toArray)),(iL (k:Int) 144)]) ⟨(fun w1 h=>h.oload 0 rfl Tryz.underlying126 rfl (n:=3) kr rfl),om,trivial⟩ ?_
     refine Lu (Eff.reO (A2:=fun _=>([(xb,.cells ((flC ⟨a.nm,a.da,a9⟩).toArray) 126 (0,0)),(ab,.cells (acC a) 123 (0,0))]++(Own.o 126 (flv (Lj.set k ⟨a.nm,a.da,a9⟩)) lo++[]))) (Eff.storeOwn (b:=pb) (off:=k*3) (vs:=(flC ⟨a.nm,a.da,a9⟩).toArray) (n:=3) rfl (ow:=lo) (e:=126) (xs:=(flv (Lj.set k rfz))) hpa kr kr kr rfl (flC_all _) [(xb,.cells ((flC ⟨a.nm,a.da,a9⟩).toArray) 126 (0,0)),(ab,.cells (acC a) 123 (0,0))] [] (by simp only[List.append_assoc]) (by rw[flv_len];(repeat rw[yc]);omega)) (fun _=>by rw[show splL (flv (Lj.set k rfz)) (k*3) ((flC ⟨a.nm,a.da,a9⟩).toArray).toList=flv (Lj.set k ⟨a.nm,a.da,a9⟩) from((flv_set (by rw[yc,hj144];exact hk) ⟨a.nm,a.da,a9⟩).trans (by rw[set_set6]))];try simp only[List.append_assoc])) ?_
     refine zg rfl ?_
     refine Cg (Γ':=[(21,[],iN j),(20,[],iN l.length),(19,[],sP sb off l.length cap),(6,[],sP pb 0 144 (Own.c lo)),(0,[],pT qb)]) ?_
     refine Rg [0,6,19,20,21] [] (fun _=>[(i6 ((j:Int)+1))]) ⟨om,trivial⟩ ?_
     have hact:rAct N Lj a=(0,(Lj.set k ⟨a.nm,a.da,a9⟩)):=hrp.trans hx9
     have hgo:=racts_go om hae hact
     rw[hact]at hal
     obtain⟨hr2,hd2⟩:=hal.2 hal.1.symm
     refine zN 19 (show .slice (some ⟨sb,off,none⟩) l.length cap=.slice la l.length cap from by rw[hsb]) ?_
     refine zN 6 (show .slice (some ⟨pb,0,none⟩) 144 (Own.c lo)=.slice (Own.a lo) 144 (Own.c lo)from by rw[hpa]) ?_
     refine zG rfl (j+1,(Lj.set k ⟨a.nm,a.da,a9⟩),(actF T dm a).2.1,(actF T dm a).2.2,lo) ⟨by omega,hra.trans hgo,hr2,hd2,own_re6 hlo (by rw[flv_len,flv_len,yc])⟩ (by show l.length-(j+1)<l.length-j;omega) (Conv.mk kr) (.cons _ (.cons _ slr))
    intro hj1
    refine eC rfl (p:=((a.da.size:Int)>(0:Int))) kr (fun c16=>?_) (fun c16=>?_)
    ·have hsp:=secs_pos (show 0<a.da.size by omega)
     have hse:secs a.da.size=(a.da.size+511) / 512:=rfl
     refine yo rfl kr ([cl xb ((flC ⟨a.nm,a.da,0⟩).toArray) 126,cl ab (acC a) 123]++(Own.o 126 (flv (Lj.set k rfz)) lo++[])) ?_
     refine Ap [0,1,2,3,4,6] [dZ,dZ,dZ,dZ,(dS (iN N)),(dS (.agg (flC ⟨a.nm,a.da,0⟩).toArray))] (some [0,6,9,10,19,20,21,79,83,85]) (bF 95 14) slr 8 (fun S=>[(cE S qb 1 (iN N)),(lV S 126 xb 0 (.agg (flC ⟨a.nm,a.da,0⟩).toArray))]) ⟨(rC 0 rfl rfl),(fun w1 h=>h.oload 0 rfl Tryz.underlying126 rfl (n:=3) kr rfl),trivial⟩ ?_
     refine Ae 5 rfl 7  (zY (vs:=[sP pb 0 144 (Own.c lo),iN N]) (fun z:Nat×K.Own=>pT z.1) [] (fun z=>spD z.1 (N-121) z.2 (frL (frC N ((Lj.set k rfz).map yh)))) (fun z=>OwnOk z.2 1 (frL (frC N ((Lj.set k rfz).map yh))).length (nv (frL (frC N ((Lj.set k rfz).map yh))))) [cl xb ((flC ⟨a.nm,a.da,0⟩).toArray) 126,cl ab (acC a) 123] (Own.o 126 (flv (Lj.set k rfz)) lo++[]) rfl rfl Tryz.func23 rfl rfl kr (fun w1 h _ _=>by have h9:=r6Space N (some ⟨pb,0,none⟩) (Own.c lo) (Lj.set k rfz) (Own.o 126 (flv (Lj.set k rfz)) lo) w1 (hpa▸own_inf (e:=126) (f:=flC) (l:=(Lj.set k rfz)) (by rw[hl1];exact hlo1)) (fun e he=>h.own e (show e∈([cl xb ((flC ⟨a.nm,a.da,0⟩).toArray) 126,cl ab (acC a) 123]++(Own.o 126 (flv (Lj.set k rfz)) lo++[])) from(mR (mL he)))) (by rw[hl1];decide) hN (hrj.fl.clear hk);rw[hl1]at h9;exact h9)) (by rintro⟨sq,so⟩ hso;exact(cO (cO (show List.Sublist (Own.o 126 (flv (Lj.set k rfz)) lo++[]) (spD sq (N-121) so (frL (frC N ((Lj.set k rfz).map yh)))++(Own.o 126 (flv (Lj.set k rfz)) lo++[])) from(zE (List.Sublist.append (zQ (Own.o 126 (flv (Lj.set k rfz)) lo)) nL) (zj (spD sq (N-121) so (frL (frC N ((Lj.set k rfz).map yh)))) _)))))) ?_
     rintro⟨sq,so⟩ hso
     refine Au 7 rfl 6  (zr (.int .i64 (secs a.da.size:Int)) rfl Tryz.func51 rfl rfl kr (fun w1 _=>r6Need ⟨a.nm,a.da,0⟩ w1 (by show a.da.size≤32768;omega))) (by rintro⟨⟩ -;exact(cO (cO (show List.Sublist (Own.o 126 (flv (Lj.set k rfz)) lo++[]) (spD sq (N-121) so (frL (frC N ((Lj.set k rfz).map yh)))++(Own.o 126 (flv (Lj.set k rfz)) lo++[])) from(zE (List.Sublist.append (zQ (Own.o 126 (flv (Lj.set k rfz)) lo)) nL) (zj (spD sq (N-121) so (frL (frC N ((Lj.set k rfz).map yh)))) _)))))) ?_
     refine Ae 8 rfl 5  (zY (fun _:K.Own=>.tuple #[.int .i64 ((yr 121 (frC N ((Lj.set k rfz).map yh)) (secs a.da.size:Int)).1),.int .i64 ((yr 121 (frC N ((Lj.set k rfz).map yh)) (secs a.da.size:Int)).2.1:Int)]) (spD sq (N-121) so (frL (frC N ((Lj.set k rfz).map yh)))) (fun o2=>spD sq (N-121) o2 (frL (yr 121 (frC N ((Lj.set k rfz).map yh)) (secs a.da.size:Int)).2.2)) (fun _=>True) [cl xb ((flC ⟨a.nm,a.da,0⟩).toArray) 126,cl ab (acC a) 123] (Own.o 126 (flv (Lj.set k rfz)) lo++[]) rfl rfl Tryz.func50 rfl rfl kr (fun w1 h hA1 hd1=>r5Take sq (N-121) so (frC N ((Lj.set k rfz).map yh)) (secs a.da.size) w1 hA1 hd1 hso ⟨frC_len _ _,by omega⟩ ⟨hsp,by omega⟩)) (by rintro so2 -;exact(cO (cO (show List.Sublist (Own.o 126 (flv (Lj.set k rfz)) lo++[]) (spD sq (N-121) so2 (frL (yr 121 (frC N ((Lj.set k rfz).map yh)) (secs a.da.size:Int)).2.2)++(Own.o 126 (flv (Lj.set k rfz)) lo++[])) from(zE (List.Sublist.append (zQ (Own.o 126 (flv (Lj.set k rfz)) lo)) nL) (zj (spD sq (N-121) so2 (frL (yr 121 (frC N ((Lj.set k rfz).map yh)) (secs a.da.size:Int)).2.2)) _)))))) ?_
     rintro so2 -
     refine Ap [9,10,11,12,13] [] (some [0,6,9,10,11,12,19,20,21]) (tF 14 0) (cO (cO (show List.Sublist (Own.o 126 (flv (Lj.set k rfz)) lo++[]) (spD sq (N-121) so2 (frL (yr 121 (frC N ((Lj.set k rfz).map yh)) (secs a.da.size:Int)).2.2)++(Own.o 126 (flv (Lj.set k rfz)) lo++[])) from(zE (List.Sublist.append (zQ (Own.o 126 (flv (Lj.set k rfz)) lo)) nL) (zj (spD sq (N-121) so2 (frL (yr 121 (frC N ((Lj.set k rfz).map yh)) (secs a.da.size:Int)).2.2)) _))))) 0 n0 trivial ?_
     refine z6 kr ?_
     refine Rq [0,6,9,10,11,12,19,20,21,91] ?_
     refine zX rfl (b:=(((yr 121 (frC N ((Lj.set k rfz).map yh)) (secs a.da.size:Int)).2.1:Int) != (0:Int))) kr (fun c17r=>?_) (fun c17r=>?_)
     ·have c17:=(bne_iff_ne.1 c17r)
      refine Rq [4,5] ?_
      refine yD rfl (rs:=[.tmp 4,.tmp 5]) rfl [.slice none 0 0,.int .i64 ((yr 121 (frC N ((Lj.set k rfz).map yh)) (secs a.da.size:Int)).2.1:Int)] ⟨kr,by kernel_rfl,trivial⟩ (fun w1 hp=>?_)
      have hst:=racts_stop (N:=N) (L:=Lj) (e:=((yr 121 (frC N ((Lj.set k rfz).map yh)) (secs a.da.size:Int)).2.1:Int)) om hae (by rw[hrp];exact rput_no om rfl om) om
      rw[←hra]at hst
      exact .inr ⟨by rw[hst];omega,by rw[hst];rfl,hp.ext⟩
     have c17:=(bne_eq_false_iff_eq.1 c17r)
     obtain⟨a9,ha9⟩:∃a9:Nat,(yr 121 (frC N ((Lj.set k rfz).map yh)) (secs a.da.size:Int)).1=(a9:Int):=by
      have h9:=takeF_at (f:=121) (fr:=(frC N ((Lj.set k rfz).map yh))) (n:=(secs a.da.size:Int)) om
      exact Int.eq_ofNat_of_zero_le om
     refine sI 11 (show((yr 121 (frC N ((Lj.set k rfz).map yh)) (secs a.da.size:Int)).1)=(a9:Int)from ha9) ?_
     refine Bq 2 [0,6,9,10,19,20,21,93,94] ?_
     refine Lu (zS (b:=xb) (off:=2) (v:=iN a9) rfl kr kr rfl kr 0 (cs:=(flC ⟨a.nm,a.da,0⟩).toArray) (e:=126) kr (by show 2<3;decide)) ?_
     refine zg rfl ?_
     refine Cg (Γ':=[(10,[],pT xb),(9,[],iN k),(21,[],iN j),(20,[],iN l.length),(19,[],sP sb off l.length cap),(6,[],sP pb 0 144 (Own.c lo)),(0,[],pT qb)]) ?_
     refine zU (congrArg (fun(xq:Array Value)=>(([cl xb xq 126,cl ab (acC a) 123]++(spD sq (N-121) so2 (frL (yr 121 (frC N ((Lj.set k rfz).map yh)) (secs a.da.size:Int)).2.2)++(Own.o 126 (flv (Lj.set k rfz)) lo++[]))):LO)) (show _=((flC ⟨a.nm,a.da,a9⟩).toArray)from rfl)) ?_
     exact Cfg.joinS hj1 a9 (rput_yes om om ha9) rfl (Conv.mk kr) (cO (cO (show List.Sublist (Own.o 126 (flv (Lj.set k rfz)) lo++[]) (spD sq (N-121) so2 (frL (yr 121 (frC N ((Lj.set k rfz).map yh)) (secs a.da.size:Int)).2.2)++(Own.o 126 (flv (Lj.set k rfz)) lo++[])) from(zE (List.Sublist.append (zQ (Own.o 126 (flv (Lj.set k rfz)) lo)) nL) (zj (spD sq (N-121) so2 (frL (yr 121 (frC N ((Lj.set k rfz).map yh)) (secs a.da.size:Int)).2.2)) _)))))
    refine zU (congrArg (fun(xq:Array Value)=>(([cl xb xq 126,cl ab (acC a) 123]++(Own.o 126 (flv (Lj.set k rfz)) lo++[])):LO)) (show _=((flC ⟨a.nm,a.da,0⟩).toArray)from rfl)) ?_
    exact Cfg.joinS hj1 0 (rput_0 om) rfl (Conv.mk kr) slr
   intro hj2
   refine eC rfl (p:=((fnd a.nm Lj 0)<(0:Int))) kr (fun c14=>?_) (fun c14=>?_)
   ·refine Bq 1 [0,6,8,9,19,20,21,61] ?_
    refine Lu (zr (vs:=[sP pb 0 144 (Own.c lo),.string ⟨#[]⟩]) (.int .i64 (fnd ByteArray.empty Lj 0)) rfl Tryz.func49 rfl rfl kr (fun w1 h=>by have h9:=r6Find (some ⟨pb,0,none⟩) (Own.c lo) Lj (Own.o 126 (flv Lj) lo) ByteArray.empty w1 (hpa▸own_inf (e:=126) (f:=flC) (l:=Lj) (by rw[hj144];exact hlo)) (fun e he=>h.own e (show e∈([cl ab (acC a) 123]++(Own.o 126 (flv Lj) lo++[])) from(mR (mL he)))) om;rw[hj144]at h9;exact h9)) ?_
    refine Ld 1 [0,6,8,9,19,20,21] ?_
    exact Cfg.joinS hj2 (fnd ByteArray.empty Lj 0) (if_pos c14).symm rfl (Conv.mk kr) slr
   exact Cfg.joinS hj2 (fnd a.nm Lj 0) (if_neg c14).symm rfl (Conv.mk kr) slr
  have c12:=(beq_eq_false_iff_ne.1 c12r)
  refine Rq [0,6,8,9,19,20,21,100] ?_
  refine eC rfl (p:=((fnd a.nm Lj 0)<(0:Int))) kr (fun c18=>?_) (fun c18=>?_)
  ·refine Rq [4,5] ?_
   refine yD rfl (rs:=[.tmp 4,.tmp 5]) rfl [.slice none 0 0,.int .i64 16] ⟨kr,by kernel_rfl,trivial⟩ (fun w1 hp=>?_)
   have hst:=racts_stop (N:=N) (L:=Lj) (e:=16) om hae (ract_none (chk_0 om h1n h2n om) om om) om
   rw[←hra]at hst
   exact .inr ⟨by rw[hst];omega,by rw[hst];rfl,hp.ext⟩
  refine Rg [0,6,8,9,19,20,21,103] [dZ,(dS (.int .i64 a.k))] (fun S=>[(cE S ab 0 (.int .i64 a.k))]) ⟨(oC 0 rfl rfl),trivial⟩ ?_
  refine Cfg.condT rfl (b:=(a.k==(2:Int))) kr (beq_iff_eq.2 om) ?_
  obtain⟨k,hqk,hk⟩:=fnd_k (nm:=a.nm) hj144 rfl om
  have hc0:chkF a=0:=chk_0 om h1n h2n om
  refine sI 9 (show(fnd a.nm Lj 0)=(k:Int)from hqk) ?_
  refine Bp 4 [dZ,dZ,(dS (.agg (flC rfz).toArray))] (some [0,6,19,20,21,106,107]) (fun S=>[(∀w1,S w1→(Instr.build 126 #[]).run Tryz.prog w1=.ok (.agg (flC rfz).toArray) w1),(iL (k:Int) 144)]) ⟨(fun _ _=>kr),om,trivial⟩ ?_
  refine Lu (Eff.reO (A2:=fun _=>([(ab,.cells (acC a) 123 (0,0))]++(Own.o 126 (flv (Lj.set k rfz)) lo++[]))) (Eff.storeOwn (b:=pb) (off:=k*3) (vs:=(flC rfz).toArray) (n:=3) rfl (ow:=lo) (e:=126) (xs:=(flv Lj)) hpa kr kr kr rfl (flC_all _) [(ab,.cells (acC a) 123 (0,0))] [] (by simp only[List.append_assoc]) (by rw[flv_len];(repeat rw[yc]);omega)) (fun _=>by rw[show splL (flv Lj) (k*3) ((flC rfz).toArray).toList=flv (Lj.set k rfz) from(flv_set (by rw[hj144];exact hk) rfz)];try simp only[List.append_assoc])) ?_
  refine zg rfl ?_
  refine Cg (Γ':=[(21,[],iN j),(20,[],iN l.length),(19,[],sP sb off l.length cap),(6,[],sP pb 0 144 (Own.c lo)),(0,[],pT qb)]) ?_
  refine Rg [0,6,19,20,21] [] (fun _=>[(i6 ((j:Int)+1))]) ⟨om,trivial⟩ ?_
  have hact:rAct N Lj a=(0,(Lj.set k rfz)):=ract_del hc0 om hqk
  have hgo:=racts_go om hae hact
  rw[hact]at hal
  obtain⟨hr2,hd2⟩:=hal.2 hal.1.symm
  refine zN 19 (show .slice (some ⟨sb,off,none⟩) l.length cap=.slice la l.length cap from by rw[hsb]) ?_
  refine zN 6 (show .slice (some ⟨pb,0,none⟩) 144 (Own.c lo)=.slice (Own.a lo) 144 (Own.c lo)from by rw[hpa]) ?_
  refine zG rfl (j+1,(Lj.set k rfz),(actF T dm a).2.1,(actF T dm a).2.2,lo) ⟨by omega,hra.trans hgo,hr2,hd2,own_re6 hlo (by rw[flv_len,flv_len,yc])⟩ (by show l.length-(j+1)<l.length-j;omega) (Conv.mk kr) (.cons _ slr)
 refine Rq [4,5] ?_
 refine yD rfl (rs:=[.tmp 4,.tmp 5]) rfl [sO lo 144,.int .i64 0] ⟨kr,by kernel_rfl,trivial⟩ (fun w1 hp=>?_)
 have hje:l.drop j=[]:=qe om
 rw[hje,qu]at hra
 rw[hra]
 have h9:HP w [] _ ([]++(Own.o 126 (flv Lj) lo++[])) w1:=hp
 rw[yM,zm]at h9
 exact .inl ⟨rfl,lo,hlo,rfl,_,h9⟩
end
section
open K
theorem apart {w0 w:World} {M:List Nat} {R Fl A T L:List (Nat×Obj)} (h:HP w0 M R (Fl++(A++T)) w) (hL:∀e∈L,e∈R):∀e∈L,e.1∉A.map (·.1):=fun e he hm=>by
 obtain⟨e2,h2,h3⟩:=zv.1 hm
 exact h.away (mR (mL h2)) (hL e he) h3
def bk1 (b:UInt8):List UInt8:=b::replicate 511 0
theorem bk1_len (b:UInt8):(bk1 b).length=512:=by rw[bk1,zL,zk]
def aDk (s:Int) (l:List (List UInt8)) (W:Wt):DK:={fuse:=-1,steps:=s,down:=false,last:=l,wait:=W}
theorem keys1 (q:Int) (b:List UInt8):keysW [(q,b)]=[q]:=by unfold keysW srt wv2;simp
theorem keys0:keysW []=[]:=by unfold keysW srt wv2;simp
theorem aw_write (s:Int) (l:List (List UInt8)) (b:List UInt8) (h:64≤l.length):qB (aDk s l []) 5 b=(0,aDk (s+1) l [(5,b)]):=by
 have h0:fltF (aDk s l []) 5=0:=by
  unfold fltF
  rw[if_neg (by show ¬(false=true);decide),if_pos]
  show(0:Int)≤5∧(5:Int)<(l.length:Int)
  omega
 have h1:spF (aDk s l [])=(true,aDk (s+1) l []):=rfl
 unfold qB
 rw[if_neg (by rw[h0];decide),h1];rfl
theorem aw_crash (s:Int) (l:List (List UInt8)) (b:List UInt8):crashF [] (aDk s l [(5,b)])=aDk s l []:=by
 unfold crashF settleF
 show({fuse:=-1,steps:=s,down:=false,last:=setl _ _ 0 (keysW [(5,b)]) l,wait:=[]}:DK)=_
 rw[keys1];rfl
theorem aw_crash0 (s:Int) (l:List (List UInt8)):crashF [] (aDk s l [])=aDk s l []:=by
 unfold crashF settleF
 show({fuse:=-1,steps:=s,down:=false,last:=setl _ _ 0 (keysW []) l,wait:=[]}:DK)=_
 rw[keys0];rfl
theorem aw_bar (s:Int) (l:List (List UInt8)) (b:List UInt8):barF (aDk s l [(5,b)])=(0,aDk (s+1) (l.set 5 b) []):=by
 have h1:spF (aDk s l [(5,b)])=(true,aDk (s+1) l [(5,b)]):=rfl
 unfold barF
 rw[h1]
 show((0:Int),({fuse:=-1,steps:=s+1,down:=false,last:=setl _ _ 0 (keysW [(5,b)]) l,wait:=[]}:DK))=_
 rw[keys1];rfl
theorem aw_read (s:Int) (l:List (List UInt8)) (W:Wt) (h:64≤l.length):zR (aDk s l W) 5=shown (aDk s l W) 5∧fltF (aDk s l W) 5=0:=by
 have h0:fltF (aDk s l W) 5=0:=by
  unfold fltF
  rw[if_neg (by show ¬(false=true);decide),if_pos]
  show(0:Int)≤5∧(5:Int)<(l.length:Int)
  omega
 exact⟨if_pos h0,h0⟩
def l64:List (List UInt8):=replicate 64 zb
theorem l64_len:l64.length=64:=zk
theorem aG0:DG (aDk 0 l64 []):=DG.new (n:=64) (by decide)
theorem aG1:DG (aDk 1 l64 [(5,bk1 1)]):=by have h:=aG0.write 5 (bk1_len 1);rw[aw_write _ _ _ (by rw[l64_len];decide)]at h;exact h
theorem aG2:DG (aDk 1 l64 []):=by have h:=aG1.crash [];rw[aw_crash]at h;exact h
theorem aG3:DG (aDk 2 l64 [(5,bk1 2)]):=by have h:=aG2.write 5 (bk1_len 2);rw[aw_write _ _ _ (by rw[l64_len];decide)]at h;exact h
theorem aG4:DG (aDk 3 (l64.set 5 (bk1 2)) []):=by have h:=aG3.bar;rw[aw_bar]at h;exact h
theorem aR1:zR (aDk 1 l64 [(5,bk1 1)]) 5=bk1 1:=(aw_read _ _ _ (by rw[l64_len];decide)).1
theorem aR2:zR (aDk 1 l64 []) 5=zb:=(aw_read _ _ _ (by rw[l64_len];decide)).1
theorem aF1:fltF (aDk 1 l64 [(5,bk1 1)]) 5=0:=(aw_read _ _ _ (by rw[l64_len];decide)).2
theorem aF2:fltF (aDk 1 l64 []) 5=0:=(aw_read _ _ _ (by rw[l64_len];decide)).2
theorem aL4:lastsF (aDk 3 (l64.set 5 (bk1 2)) []) 5=bk1 2:=by
 unfold lastsF
 rw[if_pos (by show(0:Int)≤5∧(5:Int)<((l64.set 5 (bk1 2)).length:Int);rw[yc,l64_len];decide)];rfl
theorem dAwake (w:World) :
  Calls Tryz.prog 131 #[] w fun e w'=>e=.returned (.bool true)∧Ext [] w w':=by
 refine enter [] [] [] Tryz.func131 rfl kr (yy w) ?_
 refine Rq [] ?_
 refine Be rfl rfl (zY (fun y:DM×MX=>.tuple #[pT y.1.d,.int .i64 0]) [] (fun y=>dO (aDk 0 l64 []) y.1 y.2) (fun y=>MapOk y.2.1 y.2.2 []) [] [] rfl rfl Tryz.func7 rfl rfl kr (fun w1 h _ _=>dNew 64 w1 om)) ?_
 rintro⟨m,x⟩ hmo
 refine Ld 5 [1,2] ?_
 refine Rg [1,19] [dZ,dZ,dZ,(1,false,none),(1,false,none)] (fun _=>[((.bool false:Value)=.bool false),((.bool false:Value)=.bool false)]) ⟨rfl,rfl,trivial⟩ ?_
 refine yb rfl (b:=false) kr rfl ?_
 refine Bp 2 [dZ,(dS (.agg (bv (bk1 1))))] (some [1,20,21]) (fun S=>[(∀w1,S w1→(Instr.build 37 #[(0,.int .u8 1)]).run Tryz.prog w1=.ok (.agg (bv (bk1 1))) w1)]) ⟨(fun _ _=>kr),trivial⟩ ?_
 refine Le (zY (vs:=[pT m.d,.int .i64 5,.agg (bv (bk1 1))]) (fun _:MX=>.int .i64 0) (dO (aDk 0 l64 []) m x) (fun y=>dO (aDk 1 l64 [(5,bk1 1)]) m y) (fun y=>MapOk y.1 y.2 (wv2 (aDk 1 l64 [(5,bk1 1)]).wait)) [] [] rfl rfl Tryz.func11 rfl rfl kr (fun w1 h hA hd=>(by have h9:=dWrite m x (aDk 0 l64 []) 5 (bk1 1) w1 aG0 hmo hA hd (bk1_len _) (by decide);rw[aw_write _ _ _ (by rw[l64_len];decide)]at h9;exact h9))) ?_
 rintro x1 hmo_x1
 refine Ld 1 [1,3] ?_
 refine Bp 1 [] none n0 trivial ?_
 refine Lu (zr (vs:=[pT m.d,.int .i64 5]) (.tuple #[.agg (bv (bk1 1)),.int .i64 0]) rfl Tryz.func10 rfl rfl kr (fun w1 h=>(by have h9:=dRead m x1 (aDk 1 l64 [(5,bk1 1)]) 5 w1 aG1 hmo_x1 (mem_has h (zE (qv (dO (aDk 1 l64 [(5,bk1 1)]) m x1) _) (zj [] _)));rw[aR1,aF1]at h9;exact h9))) ?_
 refine Lq 3 [1,3,26,27] ?_
 refine Le (zM (z:=(.agg (bv (replicate 512 0)))) rfl kr) ?_
 rintro b1 ⟨hb1,nb1⟩
 refine Lu (zC (b:=b1) (off:=0) (vs:=(bv (bk1 1))) (n:=512) rfl kr kr kr ((zP _).trans (bk1_len _)) (qF _) 0 (cs:=(bv (replicate 512 0))) (e:=37) kr (by rw[zsz512];omega)) ?_
 refine yF (congrArg (fun(xq:Array Value)=>(([cl b1 xq 37]++(dO (aDk 1 l64 [(5,bk1 1)]) m x1++[])):LO)) (show _=(bv (bk1 1))from yx (((zP _).trans (bk1_len _)).trans zsz512.symm))) ?_
 refine qL 1 [] (some [1,3,4,5]) (Γ':=[(5,[],.int .i64 0),(4,[],pT b1),(3,[],.int .i64 0),(1,[],pT m.d)]) (nd:=(fun _=>[])) kr (fun _=>kr) trivial ?_
 refine zg rfl ?_
 refine Bp 1 [] none n0 trivial ?_
 refine Le (zY (vs:=[pT m.d,.slice none 0 0]) (fun _:MX=>.tuple #[]) (dO (aDk 1 l64 [(5,bk1 1)]) m x1) (fun y=>dO (aDk 1 l64 []) m y) (fun y=>MapOk y.1 y.2 (wv2 (aDk 1 l64 []).wait)) [cl b1 (bv (bk1 1)) 37] [] rfl rfl Tryz.func163 rfl rfl kr (fun w1 h hA hd=>(by have h9:=dCrash m x1 (aDk 1 l64 [(5,bk1 1)]) none 0 [] [] w1 aG1 hmo_x1 hA hd (fun h=>absurd h (by simp)) (zH _) (fun e he=>by cases he) (fun e he=>by cases he);rw[aw_crash]at h9;exact h9))) ?_
 rintro x2 hmo_x2
 refine zg rfl ?_
 refine Cg (Γ':=[(5,[],.int .i64 0),(4,[],pT b1),(3,[],.int .i64 0),(1,[],pT m.d)]) ?_
 refine Bp 1 [] none n0 trivial ?_
 refine Lu (zr (vs:=[pT m.d,.int .i64 5]) (.tuple #[.agg (bv zb),.int .i64 0]) rfl Tryz.func10 rfl rfl kr (fun w1 h=>(by have h9:=dRead m x2 (aDk 1 l64 []) 5 w1 aG2 hmo_x2 (mem_has h (zE (qv (dO (aDk 1 l64 []) m x2) _) (zj [cl b1 (bv (bk1 1)) 37] _)));rw[aR2,aF2]at h9;exact h9))) ?_
 refine Lq 3 [1,3,4,5,33,34] ?_
 refine Le (zM (z:=(.agg (bv (replicate 512 0)))) rfl kr) ?_
 rintro b2 ⟨hb2,nb2⟩
 refine Lu (zC (b:=b2) (off:=0) (vs:=(bv zb)) (n:=512) rfl kr kr kr ((zP _).trans qA) (qF _) 0 (cs:=(bv (replicate 512 0))) (e:=37) kr (by rw[zsz512];omega)) ?_
 refine yF (congrArg (fun(xq:Array Value)=>(([cl b2 xq 37,cl b1 (bv (bk1 1)) 37]++(dO (aDk 1 l64 []) m x2++[])):LO)) (show _=(bv zb)from yx (((zP _).trans qA).trans zsz512.symm))) ?_
 refine Ld 1 [1,3,4,5,6,7] ?_
 refine Bp 2 [dZ,(dS (.agg (bv (bk1 2))))] none (fun S=>[(∀w1,S w1→(Instr.build 37 #[(0,.int .u8 2)]).run Tryz.prog w1=.ok (.agg (bv (bk1 2))) w1)]) ⟨(fun _ _=>kr),trivial⟩ ?_
 refine Le (zY (vs:=[pT m.d,.int .i64 5,.agg (bv (bk1 2))]) (fun _:MX=>.int .i64 0) (dO (aDk 1 l64 []) m x2) (fun y=>dO (aDk 2 l64 [(5,bk1 2)]) m y) (fun y=>MapOk y.1 y.2 (wv2 (aDk 2 l64 [(5,bk1 2)]).wait)) [cl b2 (bv zb) 37,cl b1 (bv (bk1 1)) 37] [] rfl rfl Tryz.func11 rfl rfl kr (fun w1 h hA hd=>(by have h9:=dWrite m x2 (aDk 1 l64 []) 5 (bk1 2) w1 aG2 hmo_x2 hA hd (bk1_len _) (by decide);rw[aw_write _ _ _ (by rw[l64_len];decide)]at h9;exact h9))) ?_
 rintro x3 hmo_x3
 refine Lq 1 [1,3,4,5,6,7,37,38] ?_
 refine Le (zY (vs:=[pT m.d]) (fun _:MX=>.int .i64 0) (dO (aDk 2 l64 [(5,bk1 2)]) m x3) (fun y=>dO (aDk 3 (l64.set 5 (bk1 2)) []) m y) (fun y=>MapOk y.1 y.2 (wv2 (aDk 3 (l64.set 5 (bk1 2)) []).wait)) [cl b2 (bv zb) 37,cl b1 (bv (bk1 1)) 37] [] rfl rfl Tryz.func104 rfl rfl kr (fun w1 h hA hd=>(by have h9:=dBarrier m x3 (aDk 2 l64 [(5,bk1 2)]) w1 aG3 hmo_x3 hA hd (by decide);rw[aw_bar]at h9;exact h9))) ?_
 rintro x4 hmo_x4
 refine Ld 2 [1,3,4,5,6,7,8,9] ?_
 refine Bp 1 [] none n0 trivial ?_
 refine Le (zY (vs:=[pT m.d,.slice none 0 0]) (fun _:MX=>.tuple #[]) (dO (aDk 3 (l64.set 5 (bk1 2)) []) m x4) (fun y=>dO (aDk 3 (l64.set 5 (bk1 2)) []) m y) (fun y=>MapOk y.1 y.2 (wv2 (aDk 3 (l64.set 5 (bk1 2)) []).wait)) [cl b2 (bv zb) 37,cl b1 (bv (bk1 1)) 37] [] rfl rfl Tryz.func163 rfl rfl kr (fun w1 h hA hd=>(by have h9:=dCrash m x4 (aDk 3 (l64.set 5 (bk1 2)) []) none 0 [] [] w1 aG4 hmo_x4 hA hd (fun h=>absurd h (by simp)) (zH _) (fun e he=>by cases he) (fun e he=>by cases he);rw[aw_crash0]at h9;exact h9))) ?_
 rintro x5 hmo_x5
 refine zg rfl ?_
 refine Cg (Γ':=[(9,[],.int .i64 0),(8,[],.int .i64 0),(7,[],.int .i64 0),(6,[],pT b2),(5,[],.int .i64 0),(4,[],pT b1),(3,[],.int .i64 0),(1,[],pT m.d)]) ?_
 refine Bp 30 [dZ,dZ,dZ,(1,false,none),(1,false,none),dZ,dZ,(1,false,none),(1,false,some (.int .u8 1)),(1,false,none),dZ,dZ,(1,false,none),(1,false,none),dZ,dZ,(1,false,none),(1,false,some (.int .u8 0)),(1,false,none),dZ,dZ,(1,false,none),(1,false,none),dZ,dZ,(1,false,none),(1,false,none),dZ,dZ,(1,false,none)] (some [70,71]) (fun S=>[((.bool true:Value)=.bool true),((.bool true:Value)=.bool true),((.bool true:Value)=.bool true),(iL (0:Int) 512),((.bool true:Value)=.bool true),(cE S b1 0 (.int .u8 1)),((.bool true:Value)=.bool true),((.bool true:Value)=.bool true),((.bool true:Value)=.bool true),((.bool true:Value)=.bool true),(iL (0:Int) 512),((.bool true:Value)=.bool true),(cE S b2 0 (.int .u8 0)),((.bool true:Value)=.bool true),((.bool true:Value)=.bool true),((.bool true:Value)=.bool true),((.bool true:Value)=.bool true),((.bool true:Value)=.bool true),((.bool true:Value)=.bool true)]) ⟨rfl,rfl,rfl,om,rfl,(fun w1 h=>h.ocell 1 rfl kr),rfl,rfl,rfl,rfl,om,rfl,(fun w1 h=>h.ocell 0 rfl kr),rfl,rfl,rfl,rfl,rfl,rfl,trivial⟩ ?_
 refine Lu (zr (vs:=[pT m.d,.int .i64 5]) (.agg (bv (bk1 2))) rfl Tryz.func95 rfl rfl kr (fun w1 h=>(by have h9:=dLasts m x5 (aDk 3 (l64.set 5 (bk1 2)) []) 5 w1 aG4 hmo_x5 (mem_has h (zE (qv (dO (aDk 3 (l64.set 5 (bk1 2)) []) m x5) _) (zj [cl b2 (bv zb) 37,cl b1 (bv (bk1 1)) 37] _)));rw[aL4]at h9;exact h9))) ?_
 refine Lp 4 [(1,false,some (.int .u8 2)),(1,false,none)] (some [0]) (fun _=>[((.bool true:Value)=.bool true),(iL (0:Int) 512),(((bv (bk1 2)))[0]? = some (.int .u8 2)),((.bool true:Value)=.bool true)]) ⟨rfl,om,kr,rfl,trivial⟩ ?_
 refine zg rfl ?_
 refine Rt [.bool true] (fun w1 hp=>?_)
 exact⟨by simp[resOf],hp.ext⟩
end
section
open K
def digT:ByteArray:=⟨#[48,49,50,51,52,53,54,55,56,57,97,98,99,100,101,102]⟩
def hexD (n:Nat):UInt8:=digT.data.toList.getD n 0
def hexL (l:List UInt8):List UInt8:=l.flatMap fun b=>[hexD (b.toNat / 16),hexD (b.toNat%16)]
def hexS (l:List UInt8):ByteArray:=⟨(hexL l).toArray⟩
def hexRow (l:List UInt8) (k:Nat):List UInt8:=hexL (l.take k)++replicate (64-2*k) 0
theorem hexL_len (l:List UInt8):(hexL l).length=2*l.length:=by
 induction l with
 | nil=>rfl
 | cons x l ih=>simp only[hexL,List.flatMap_cons,List.length_append,List.length_cons,List.length_nil]at *;omega
theorem hexRow_len {l:List UInt8} (hl:l.length=32) {k:Nat} (hk:k≤32):(hexRow l k).length=64:=by
 simp[hexRow,hexL_len];omega
theorem hexRow_end {l:List UInt8} (hl:l.length=32):hexRow l 32=hexL l:=by
 simp[hexRow,List.take_of_length_le (show l.length≤32 by omega)]
theorem byte_lt (b:UInt8):b.toNat<256:=UInt8.toNat_lt b
theorem set_two (A:List UInt8) (n:Nat) (x y:UInt8) (hn:2≤n):((A++replicate n 0).set A.length x).set (A.length+1) y=A++[x,y]++replicate (n-2) 0:=by
 obtain⟨m,rfl⟩:∃m,n=m+2:=⟨n-2,by omega⟩
 simp[List.replicate_succ]
theorem u8_back (b:UInt8):UInt8.ofNat ((b.toNat:Int)).toNat=b:=by simp
theorem hexRow_step {l:List UInt8} (hl:l.length=32) {k:Nat} (hk:k<32) {x y:Int} (hx:x=((hexD ((l.getD k 0).toNat / 16)).toNat:Int)) (hy:y=((hexD ((l.getD k 0).toNat%16)).toNat:Int)) :
  ((bv (hexRow l k)).setIfInBounds (2*k) (.int .u8 x)).setIfInBounds (2*k+1) (.int .u8 y)=bv (hexRow l (k+1)):=by
 subst hx hy
 have b1:=byte_lt (hexD ((l.getD k 0).toNat / 16))
 have b2:=byte_lt (hexD ((l.getD k 0).toNat%16))
 rw[bv_set om om,bv_set om om,u8_back,u8_back]
 congr 1
 have hlen:(hexL (l.take k)).length=2*k:=by rw[hexL_len];simp;omega
 have ht:l.take (k+1)=l.take k++[l.getD k 0]:=by
  rw[zV om];simp[List.getElem?_eq_getElem (show k<l.length by omega)]
 have:=set_two (hexL (l.take k)) (64-2*k) (hexD ((l.getD k 0).toNat / 16)) (hexD ((l.getD k 0).toNat%16)) om
 rw[hlen]at this
 unfold hexRow
 rw[this,ht]
 simp only[hexL,List.flatMap_append,List.flatMap_cons,List.flatMap_nil,List.append_nil]
 rw[show 64-2*k-2=64-2*(k+1) by omega]
theorem and15 (x:Nat):x &&& 15=x%16:=Nat.and_two_pow_sub_one_eq_mod x 4
theorem hex_str {P:Program} {l:List UInt8} {w0 w:World} {M:List Nat} {R O:List (Nat×Obj)} {b k:Nat} {t:TypeId} (hl:l.length=32) (hk:k=32) (h:HP w0 M R O w) (ho:O[0]? = some (b,.cells (bv (hexRow l k)) t (0,0))) :
  (Conv.bytesToString (.slice (some ⟨b,0,none⟩) 64 64)).run P w=.ok (.string (hexS l)) w:=by
 subst hk
 have hr:=h.ostr (P:=P) (c:=64) 0 ho (hexRow_len hl om)
 rw[hexRow_end hl]at hr;exact hr
theorem shaHex (l:List UInt8) (w:World) (hl:l.length=32) :
  Calls Tryz.prog 162 #[.agg (bv l)] w fun e w'=>e=.returned (.string (hexS l))∧Ext [] w w':=by
 refine enter [] [] [] Tryz.func162 rfl kr (yy w) ?_
 refine Be rfl rfl (y7 (v:=.agg (bv l)) rfl kr) ?_
 rintro d ⟨hd,nd⟩
 refine Ld 1 [1] ?_
 refine Be rfl rfl (zM (z:=(.agg (bv (replicate 64 0)))) rfl kr) ?_
 rintro t ⟨ht,nt⟩
 refine zg rfl ?_
 refine Rg [3,6,7] [(dS (.agg (bv l)))] (fun S=>[(lV S 226 d 0 (.agg (bv l)))]) ⟨(fun w1 h=>h.oload 1 rfl Tryz.underlying226 rfl (n:=32) kr ((zP l).trans hl)),trivial⟩ ?_
 refine ye rfl (ι:=Nat) (fun(k:Nat)=>[(7,[],iN k),(6,[],.agg (bv l)),(3,[],pT t)]) (fun(k:Nat)=>[cl t (bv (hexRow l k)) 272,cl d (bv l) 226]) (fun(k:Nat)=>(k≤32)) (fun(k:Nat)=>32-k) 0 ?_ (Conv.mk kr) slr ?_
 ·exact zH _
 rintro k hk
 refine Rq [3,6,7,8] ?_
 refine eC rfl (p:=((k:Int)<(32:Int))) kr (fun c1=>?_) (fun c1=>?_)
 ·refine Rg [3,4,5,6,7] [dZ,(dS (.int .u8 ((l.getD k 0).toNat:Int)))] (fun _=>[(iL (k:Int) 32),(((bv l))[k]? = some (.int .u8 ((l.getD k 0).toNat:Int)))]) ⟨(by have hb:=byte_lt (l.getD k 0);have h15:=and15 (l.getD k 0).toNat;omega),(bv_get hl om),trivial⟩ ?_
  refine Bp 6 [] (some [3,4,5,6,7,15,16]) (fun _=>[(i6 (2*(k:Int))),(0≤(4:Int)∧4≤8),(iL (((l.getD k 0).toNat:Int) / 16) 16),(iL (2*(k:Int)) 64)]) ⟨(by have hb:=byte_lt (l.getD k 0);have h15:=and15 (l.getD k 0).toNat;omega),(by have hb:=byte_lt (l.getD k 0);have h15:=and15 (l.getD k 0).toNat;omega),(by have hb:=byte_lt (l.getD k 0);have h15:=and15 (l.getD k 0).toNat;omega),(by have hb:=byte_lt (l.getD k 0);have h15:=and15 (l.getD k 0).toNat;omega),trivial⟩ ?_
  refine Lu (zS (b:=t) (off:=(2*k)) (v:=.int .u8 (sbyte ⟨#[48,49,50,51,52,53,54,55,56,57,97,98,99,100,101,102]⟩ (((l.getD k 0).toNat:Int) / 16))) rfl kr kr rfl kr 0 (cs:=(bv (hexRow l k))) (e:=272) kr (by simp[zP,hexRow_len hl (show k≤32 by omega)];omega)) ?_
  refine zg rfl ?_
  refine Cg (Γ':=[(5,[],.int .u8 ((l.getD k 0).toNat:Int)),(4,[],iN k),(7,[],iN k),(6,[],.agg (bv l)),(3,[],pT t)]) ?_
  refine Bp 7 [] (some [3,6,7,22,23]) (fun _=>[(i6 (2*(k:Int))),(i6 ((2*(k:Int))+1)),((0≤((l.getD k 0).toNat:Int)∧((l.getD k 0).toNat:Int)≤255)∧0≤(15:Int)∧(15:Int)≤255),(iL ((((l.getD k 0).toNat) &&& 15:Nat):Int) 16),(iL ((2*(k:Int))+1) 64)]) ⟨(by have hb:=byte_lt (l.getD k 0);have h15:=and15 (l.getD k 0).toNat;omega),(by have hb:=byte_lt (l.getD k 0);have h15:=and15 (l.getD k 0).toNat;omega),(by have hb:=byte_lt (l.getD k 0);have h15:=and15 (l.getD k 0).toNat;omega),(by have hb:=byte_lt (l.getD k 0);have h15:=and15 (l.getD k 0).toNat;omega),(by have hb:=byte_lt (l.getD k 0);have h15:=and15 (l.getD k 0).toNat;omega),trivial⟩ ?_
  refine Lu (zS (b:=t) (off:=((2*k)+1)) (v:=.int .u8 (sbyte ⟨#[48,49,50,51,52,53,54,55,56,57,97,98,99,100,101,102]⟩ ((((l.getD k 0).toNat) &&& 15:Nat):Int))) rfl kr kr rfl kr 0 (cs:=((bv (hexRow l k)).setIfInBounds (2*k) (.int .u8 (sbyte ⟨#[48,49,50,51,52,53,54,55,56,57,97,98,99,100,101,102]⟩ (((l.getD k 0).toNat:Int) / 16))))) (e:=272) kr (by simp[zP,hexRow_len hl (show k≤32 by omega)];omega)) ?_
  refine zg rfl ?_
  refine Cg (Γ':=[(7,[],iN k),(6,[],.agg (bv l)),(3,[],pT t)]) ?_
  refine Rg [3,6,7] [] (fun _=>[(i6 ((k:Int)+1))]) ⟨(by have hb:=byte_lt (l.getD k 0);have h15:=and15 (l.getD k 0).toNat;omega),trivial⟩ ?_
  refine oB 0 rfl (show _=(bv (hexRow l (k+1)))from hexRow_step hl om rfl (by rw[and15];rfl)) ?_
  refine zG rfl (k+1) (show k+1≤32 by omega) om (Conv.mk kr) (cO (cO .slnil))
 refine Rg [2] [dZ,(dS (.string (hexS l)))] (fun S=>[(64≤64),(∀w1,S w1→(Conv.bytesToString (sP t 0 64 64)).run Tryz.prog w1=.ok (.string (hexS l)) w1)]) ⟨(by have hb:=byte_lt (l.getD k 0);have h15:=and15 (l.getD k 0).toNat;omega),(fun w1 h=>hex_str hl om h rfl),trivial⟩ ?_
 refine Rt [.string (hexS l)] (fun w1 hp=>?_)
 exact⟨rfl,hp.ext⟩
end
section
open K
def abcD:List UInt8:=[186,120,22,191,143,1,207,234,65,65,64,222,93,174,34,35,176,3,97,163,150,23,122,156,180,16,255,97,242,0,21,173]
theorem shaD_abc:shaD (scat [⟨#[97,98,99]⟩])=abcD:=by kernel_rfl
theorem sinS_lit (bk:Nat) (t:TypeId) (fr:Nat×Nat) (ss:List ByteArray):InS [(bk,.cells (ss.map Value.string).toArray t fr)] (some ⟨bk,0,none⟩) ss.length (fun j=>.string (ssat ss j)):=by
 intro _
 refine⟨bk,0,_,t,fr,rfl,zi.2 rfl,fun j hj=>?_⟩
 rw[zF]
 simp[ssat,List.getElem?_eq_getElem hj]
theorem has_two {w w0:World} {M:List Nat} {R O:List (Nat×Obj)} (h:HP w0 M R O w) {x y:Nat×Obj} (hx:x∈R) (hy:y∈O):Has w (x::[y]):=by
 intro e he
 rcases zq.1 he with rfl|he
 ·exact h.ro _ hx
 rw[zi.1 he];exact h.own _ hy
theorem shaAwake {t0:TypeId} {fr0:Nat×Nat} (w:World) (hR:Has w [(1,.cells (wv Kc) t0 fr0)]) :
  Calls Tryz.prog 130 #[] w fun e w'=>e=.returned (.bool true)∧Ext [] w w':=by
 have hK:KT (wv Kc):=fun t h=>kget h
 refine enter [] [(1,.cells (wv Kc) t0 fr0)] [] Tryz.func130 rfl kr (yj hR) ?_
 refine Rq [] ?_
 refine Be rfl rfl (yP (e:=9) (cells:=#[.string ⟨#[97,98,99]⟩]) (parts:=#[(0,.string ⟨#[97,98,99]⟩)]) rfl kr (fun _=>kr)) ?_
 rintro bs ⟨hbs,nbs⟩
 refine Lu (zr (.agg (bv abcD)) rfl Tryz.func136 rfl rfl kr (fun w1 h=>shaD_abc▸shaSum (some ⟨bs,0,none⟩) 1 [⟨#[97,98,99]⟩] [(bs,.cells (List.map Value.string [⟨#[97,98,99]⟩]).toArray 9 (0,0))] w1 (sinS_lit bs 9 (0,0) [⟨#[97,98,99]⟩]) (Nat.le_of_ble_eq_true rfl) (has_two h mH (mG 0 rfl)))) ?_
 refine Le (zM (z:=(.agg (bv (replicate 32 0)))) rfl kr) ?_
 rintro d ⟨hd,nd⟩
 refine Lu (zC (b:=d) (off:=0) (vs:=(bv abcD)) (n:=32) rfl kr kr kr rfl (qF _) 0 (cs:=(bv (replicate 32 0))) (e:=226) kr (zD 32)) ?_
 refine oL 0 rfl (show _=(bv abcD)from yx rfl) ?_
 refine zg rfl ?_
 refine Cg (Γ':=[(1,[],pT d)]) ?_
 refine Bp 20 [dZ,(dS (.int .u8 186)),dZ,dZ,(1,false,none),(1,false,some (.int .u8 120)),(1,false,none),dZ,dZ,(1,false,none),(1,false,some (.int .u8 22)),(1,false,none),dZ,dZ,(1,false,none),(1,false,some (.int .u8 191)),(1,false,none),dZ,dZ,(1,false,some (.agg (bv abcD)))] (some [22,23]) (fun S=>[(iL (0:Int) 32),(cE S d 0 (.int .u8 186)),((.bool true:Value)=.bool true),(iL (1:Int) 32),((.bool true:Value)=.bool true),(cE S d 1 (.int .u8 120)),((.bool true:Value)=.bool true),((.bool true:Value)=.bool true),(iL (2:Int) 32),((.bool true:Value)=.bool true),(cE S d 2 (.int .u8 22)),((.bool true:Value)=.bool true),((.bool true:Value)=.bool true),(iL (3:Int) 32),((.bool true:Value)=.bool true),(cE S d 3 (.int .u8 191)),((.bool true:Value)=.bool true),((.bool true:Value)=.bool true),(lV S 226 d 0 (.agg (bv abcD)))]) ⟨om,(oC 0 rfl rfl),rfl,om,rfl,(oC 0 rfl rfl),rfl,rfl,om,rfl,(oC 0 rfl rfl),rfl,rfl,om,rfl,(oC 0 rfl rfl),rfl,rfl,(fun w1 h=>h.oload 0 rfl Tryz.underlying226 rfl (n:=32) kr ((zP _).trans rfl)),trivial⟩ ?_
 refine Lu (zr (.string (hexS abcD)) rfl Tryz.func162 rfl rfl kr (fun w1 h=>shaHex abcD w1 rfl)) ?_
 refine Lp 4 [(1,false,none),(1,false,none)] (some [0]) (fun _=>[((.bool true:Value)=.bool true),((.bool true:Value)=.bool true)]) ⟨rfl,rfl,trivial⟩ ?_
 refine zg rfl ?_
 refine Rt [.bool (((hexS abcD).size:Int)==(64:Int))] (fun w1 hp=>?_)
 exact⟨congrArg (fun b=>Ending.returned (.bool b)) kr,hp.ext⟩
end
section
open K
def w2:List Wr:=[(100,bk1 1),(150,bk1 2)]
theorem w2_w:WW w2:=fun x hx=>by
 rcases zq.1 hx with rfl|hx
 ·exact bk1_len 1
 rw[zi.1 hx];exact bk1_len 2
def l200:List (List UInt8):=replicate 200 zb
def aD4 (H:List UInt8):DK:={fuse:=-1,steps:=10,down:=false,last:=(((((l200.set 0 zb).set 1 (bk1 1)).set 2 (bk1 2)).set 0 H).set 100 (bk1 1)).set 150 (bk1 2),wait:=[]}
theorem srt2 {a b:Int} (h:a≤b):srt [a,b]=[a,b]:=List.mergeSort_of_pairwise (by simp[leI,h])
theorem keys2 {q r:Int} (h:q≤r) (b c:List UInt8):keysW [(q,b),(r,c)]=[q,r]:=by unfold keysW wv2;exact srt2 h
theorem bar1 (s:Int) (l:List (List UInt8)) (q:Nat) (b:List UInt8):barF (aDk s l [((q:Int),b)])=(0,aDk (s+1) (l.set q b) []):=by
 have h1:spF (aDk s l [((q:Int),b)])=(true,aDk (s+1) l [((q:Int),b)]):=rfl
 unfold barF
 rw[h1]
 show((0:Int),({fuse:=-1,steps:=s+1,down:=false,last:=setl _ _ 0 (keysW [((q:Int),b)]) l,wait:=[]}:DK))=_
 rw[keys1]
 simp[setl,aDk,wget]
theorem bar2 (s:Int) (l:List (List UInt8)) (q r:Nat) (b c:List UInt8) (hq:q<r):barF (aDk s l [((q:Int),b),((r:Int),c)])=(0,aDk (s+1) ((l.set q b).set r c) []):=by
 have h1:spF (aDk s l [((q:Int),b),((r:Int),c)])=(true,aDk (s+1) l [((q:Int),b),((r:Int),c)]):=rfl
 unfold barF
 rw[h1]
 show((0:Int),({fuse:=-1,steps:=s+1,down:=false,last:=setl _ _ 0 (keysW [((q:Int),b),((r:Int),c)]) l,wait:=[]}:DK))=_
 rw[keys2 om]
 simp[setl,aDk,wget,show ¬((r:Int)=(q:Int)) by omega]
theorem flt0 (s:Int) (l:List (List UInt8)) (W:Wt) (q:Nat) (hq:q<l.length):fltF (aDk s l W) (q:Int)=0:=by
 unfold fltF
 rw[if_neg (by show ¬(false=true);decide),if_pos]
 show(0:Int)≤(q:Int)∧(q:Int)<(l.length:Int)
 omega
theorem wr0 (s:Int) (l:List (List UInt8)) (W:Wt) (q:Nat) (b:List UInt8) (hq:q<l.length):qB (aDk s l W) (q:Int) b=(0,aDk (s+1) l (wset W q b)):=by
 have h1:spF (aDk s l W)=(true,aDk (s+1) l W):=rfl
 unfold qB
 rw[if_neg (by rw[flt0 s l W q hq];decide),h1];rfl
theorem lay1 (s:Int) (l:List (List UInt8)) (q:Nat) (b:List UInt8) (hq:q<l.length):layF (aDk s l []) [((q:Int),b)]=(0,aDk (s+2) (l.set q b) []):=by
 have h0:=wr0 s l [] q b hq
 unfold layF
 rw[h0,if_neg (fun e=>e rfl)]
 show barF (aDk (s+1) l [((q:Int),b)])=_
 rw[bar1,show s+1+1=s+2 by omega]
theorem lay2 (s:Int) (l:List (List UInt8)) (q r:Nat) (b c:List UInt8) (hq:q<r) (hr:r<l.length):layF (aDk s l []) [((q:Int),b),((r:Int),c)]=(0,aDk (s+3) ((l.set q b).set r c) []):=by
 have h0:=wr0 s l [] q b om
 have h1:=wr0 (s+1) l [((q:Int),b)] r c hr
 have e:wset [((q:Int),b)] (r:Int) c=[((q:Int),b),((r:Int),c)]:=by
  simp[wset,show ¬((r:Int)=(q:Int)) by omega]
 rw[e]at h1
 unfold layF
 rw[h0,if_neg (fun e=>e rfl)]
 show layF (aDk (s+1) l [((q:Int),b)]) [((r:Int),c)]=_
 unfold layF
 rw[h1,if_neg (fun e=>e rfl)]
 show barF (aDk (s+1+1) l [((q:Int),b),((r:Int),c)])=_
 rw[bar2 _ _ _ _ _ _ hq,show s+1+1+1=s+3 by omega]
theorem laysC (D D':DK) (l:List Wr) (ls:List (List Wr)) (h:layF D l=(0,D')):laysF D (l::ls)=laysF D' ls:=by
 conv=>lhs;unfold laysF
 rw[h,if_neg (fun e=>e rfl)]
theorem lays_w2 (H:List UInt8):laysF (newD 200) [[((0:Int),zb)],[((1:Int),bk1 1),((2:Int),bk1 2)],[((0:Int),H)],w2]=(0,aD4 H):=by
 have hl:l200.length=200:=zk
 have h1:=lay1 0 l200 0 zb om
 have h2:=lay2 (0+2) (l200.set 0 zb) 1 2 (bk1 1) (bk1 2) (by decide) (by rw[yc];omega)
 have h3:=lay1 (0+2+3) (((l200.set 0 zb).set 1 (bk1 1)).set 2 (bk1 2)) 0 H (by rw[yc,yc,yc];omega)
 have h4:=lay2 (0+2+3+2) ((((l200.set 0 zb).set 1 (bk1 1)).set 2 (bk1 2)).set 0 H) 100 150 (bk1 1) (bk1 2) (by decide) (by rw[yc,yc,yc,yc];omega)
 exact(laysC _ _ _ _ h1).trans ((laysC _ _ _ _ h2).trans ((laysC _ _ _ _ h3).trans ((laysC _ _ _ _ h4).trans rfl)))
theorem ris_w2:risF w2=w2:=by
 have h:yK w2 w2.length=[((100:Int),0),((150:Int),1)]:=rfl
 unfold risF
 rw[h]
 unfold keysN
 show List.map _ (srt [100,150])=_
 rw[srt2 (by decide)]
 rfl
theorem trans_w2:transF (newD 200) 1 w2=(0,aD4 (qi 1 w2)):=by
 unfold transF stagesF
 generalize qi 1 w2=H
 exact lays_w2 H
theorem com_w2:yZ ⟨0,0,newD 200⟩ w2=(0,⟨0,1,aD4 (qi 1 w2)⟩):=by
 have h:=com_ok (why:=0) (num:=0) (D:=newD 200) (l:=w2) rfl kr (by rw[ris_w2];decide) (by rw[ris_w2];decide) (by rw[ris_w2];show(transF (newD 200) 1 w2).1=0;rw[trans_w2])
 rw[ris_w2]at h
 have e:transF (newD 200) ((0+1)%18446744073709551616) w2=(0,aD4 (qi 1 w2)):=trans_w2
 rw[e]at h
 exact h
theorem g200:DG (newD 200):=DG.new (by decide)
theorem gD4:DG (aD4 (qi 1 w2)):=by
 have h:=commit_good (J:=⟨0,0,newD 200⟩) g200 w2_w
 rw[com_w2]at h;exact h
theorem last100 (H:List UInt8):lastsF (aD4 H) 100=bk1 1:=by kernel_rfl
theorem last150 (H:List UInt8):lastsF (aD4 H) 150=bk1 2:=by kernel_rfl
theorem inW_lit (b:Nat) (l:List Wr) (h:WW l) (t:TypeId):InW [(b,.cells (jv l).toArray t (0,0))] (some ⟨b,0,none⟩) l:=by
 intro _
 refine⟨b,0,_,t,(0,0),rfl,zi.2 rfl,fun j hj=>?_⟩
 rw[zF,zo]
 have hl:(jv l).length=l.length*513:=jv_len h
 show(jv l)[j]? = some ((jv l).getD j undef)
 rw[zc,zd om];rfl
theorem jv_w2:jc ((100:Int),bk1 1)++jc ((150:Int),bk1 2)=jv w2:=by show _=[((100:Int),bk1 1),((150:Int),bk1 2)].flatMap jc;simp
theorem shaAwake1 {t0:TypeId} {fr0:Nat×Nat} (w:World) (hR:Has w [(1,.cells (wv Kc) t0 fr0)]) :
  Calls Tryz.prog 93 #[] w fun e w'=>e=.returned (.bool true)∧Ext [] w w':=by
 refine enter [] [(1,.cells (wv Kc) t0 fr0)] [] Tryz.func93 rfl kr (yj hR) ?_
 refine Rq [] ?_
 refine Cfg.begL rfl ?_
 refine Lu (zr (.bool true) rfl Tryz.func130 rfl rfl kr (fun w1 h=>shaAwake w1 (h.hasR (fun e he=>he)))) ?_
 refine Ld 1 [0] ?_
 refine Rt [.bool true] (fun w1 hp=>?_)
 exact⟨rfl,hp.ext⟩
theorem dAwake1 (w:World) :
  Calls Tryz.prog 94 #[] w fun e w'=>e=.returned (.bool true)∧Ext [] w w':=by
 refine enter [] [] [] Tryz.func94 rfl kr (yy w) ?_
 refine Rq [] ?_
 refine Cfg.begL rfl ?_
 refine Lu (zr (.bool true) rfl Tryz.func131 rfl rfl kr (fun w1 _=>dAwake w1)) ?_
 refine Ld 1 [0] ?_
 refine Rt [.bool true] (fun w1 hp=>?_)
 exact⟨rfl,hp.ext⟩
theorem awakeW {t0:TypeId} {fr0:Nat×Nat} (w:World) (hb:w.heap[1]? = some (.cells (wv Kc) t0 fr0)) :
  Calls Tryz.prog 58 #[] w fun e w'=>e=.returned (.bool true)∧Ext [] w w':=by
 have hR:Has w [(1,Obj.cells (wv Kc) t0 fr0)]:=fun e he=>by rw[zi.1 he];exact hb
 have hop:=open_new (n:=200) (by decide)
 refine enter [] [(1,Obj.cells (wv Kc) t0 fr0)] [] Tryz.func58 rfl kr (yj hR) ?_
 refine Rq [] ?_
 refine Be rfl rfl (zY (fun y:DM×MX=>.tuple #[pT y.1.d,.int .i64 0]) [] (fun y=>dO (newD 200) y.1 y.2) (fun y=>MapOk y.2.1 y.2.2 []) [] [] rfl rfl Tryz.func7 rfl rfl kr (fun w1 h _ _=>dNew 200 w1 (by decide))) ?_
 rintro⟨m,x⟩ hmo
 refine Ld 5 [1] ?_
 refine Bp 1 [] none n0 trivial ?_
 refine Le (zY (vs:=[pT m.d]) (fun z:MX×Nat=>.tuple #[pT z.2,.int .i64 0]) (dO (newD 200) m x) (fun z=>(cl z.2 #[.int .i64 (0:Int),pT m.d,.int .u64 (0:Int)] 143)::dO (newD 200) m z.1) (fun z=>MapOk z.1.1 z.1.2 (wv2 (newD 200).wait)) [] [] rfl rfl Tryz.func30 rfl rfl kr (fun w1 h hA1 hd1=>by have h9:=jOpenOk m x (newD 200) t0 fr0 w1 g200 hmo ⟨Int.le_refl 0,by show(0:Int)≤4611686018426000000;decide⟩ hA1 hd1 (h.hasR (fun e he=>he)) (apart (Fl:=[]) (A:=dO (newD 200) m x) (T:=[]) h (fun e he=>he)) (by rw[hop]);rw[hop]at h9;exact h9)) ?_
 rintro⟨x2,jb⟩ hmo_x2
 refine Ld 5 [1,3,4] ?_
 refine Bp 7 [dZ,dZ,dZ,(1,false,none),(1,false,none)] (some [1,3,21]) (fun _=>[((.bool false:Value)=.bool false),((.bool false:Value)=.bool false)]) ⟨rfl,rfl,trivial⟩ ?_
 refine Lu (zr (.bool true) rfl Tryz.func93 rfl rfl kr (fun w1 h=>shaAwake1 w1 (h.hasR (fun e he=>he)))) ?_
 refine Lp 3 [(1,false,none)] (some [1,3,25]) (fun _=>[((.bool false:Value)=.bool false)]) ⟨rfl,trivial⟩ ?_
 refine Lu (zr (.bool true) rfl Tryz.func94 rfl rfl kr (fun w1 _=>dAwake1 w1)) ?_
 refine Lp 2 [(1,false,none)] (some [1,3,28]) (fun _=>[((.bool false:Value)=.bool false)]) ⟨rfl,trivial⟩ ?_
 refine zg rfl ?_
 refine yb rfl (b:=false) kr rfl ?_
 refine Cfg.begL rfl ?_
 refine qL 5 [dZ,(dS (.agg (bv (bk1 1)))),(dS (.agg (jc ((100:Int),bk1 1)).toArray)),(dS (.agg (bv (bk1 2)))),(dS (.agg (jc ((150:Int),bk1 2)).toArray))] (some [1,3,29,31,33]) (Γ':=[(33,[],.agg (jc ((150:Int),bk1 2)).toArray),(31,[],.agg (jc ((100:Int),bk1 1)).toArray),(29,[],pT jb),(3,[],pT jb),(1,[],pT m.d)]) (nd:=(fun S=>[(∀w1,S w1→(Instr.build 37 #[(0,.int .u8 1)]).run Tryz.prog w1=.ok (.agg (bv (bk1 1))) w1),(∀w1,S w1→(Instr.build 101 #[(0,.int .i64 100),(1,.agg (bv (bk1 1)))]).run Tryz.prog w1=.ok (.agg (jc ((100:Int),bk1 1)).toArray) w1),(∀w1,S w1→(Instr.build 37 #[(0,.int .u8 2)]).run Tryz.prog w1=.ok (.agg (bv (bk1 2))) w1),(∀w1,S w1→(Instr.build 101 #[(0,.int .i64 150),(1,.agg (bv (bk1 2)))]).run Tryz.prog w1=.ok (.agg (jc ((150:Int),bk1 2)).toArray) w1)])) kr (fun _=>kr) ⟨(fun _ _=>kr),(fun w1 _=>build_wr 100 (bk1_len 1) w1),(fun _ _=>kr),(fun w1 _=>build_wr 150 (bk1_len 2) w1),trivial⟩ ?_
 refine Le (Eff.buildAgg2 (u:=(jc ((100:Int),bk1 1)).toArray) (v:=(jc ((150:Int),bk1 2)).toArray) rfl kr kr Tryz.underlying98 kr (z:=(.agg (jc wz).toArray)) kr (show(jc ((100:Int),bk1 1)).toArray.size=513 from List.size_toArray.trans (yl (bk1_len 1))) (show(jc ((150:Int),bk1 2)).toArray.size=513 from List.size_toArray.trans (yl (bk1_len 2))) (by decide) (by decide)) ?_
 rintro kb ⟨hkb,nkb⟩
 refine yF (O':=([cl kb ((jv w2).toArray) 101]++(((cl jb #[.int .i64 (0:Int),pT m.d,.int .u64 (0:Int)] 143)::dO (newD 200) m x2)++[]))) (congrArg (fun q:List Value=>(([cl kb q.toArray 101]++(((cl jb #[.int .i64 (0:Int),pT m.d,.int .u64 (0:Int)] 143)::dO (newD 200) m x2)++[])):LO)) jv_w2) ?_
 refine Le (zY (vs:=[pT jb,sP kb 0 2 2]) (fun _:MX=>.int .i64 0) ((cl jb #[.int .i64 (0:Int),pT m.d,.int .u64 (0:Int)] 143)::dO (newD 200) m x2) (fun z=>(cl jb #[.int .i64 (0:Int),pT m.d,.int .u64 (1:Int)] 143)::dO (aD4 (qi 1 w2)) m z) (fun z=>MapOk z.1 z.2 (wv2 (aD4 (qi 1 w2)).wait)) [cl kb ((jv w2).toArray) 101] [] rfl rfl Tryz.func38 rfl rfl kr (fun w1 h hA1 hd1=>by have h9:=jCommit jb 0 0 m x2 (newD 200) (some ⟨kb,0,none⟩) 2 w2 [(kb,Obj.cells (jv w2).toArray 101 (0,0))] t0 fr0 w1 g200 hmo_x2 hA1 hd1 (inW_lit kb w2 w2_w 101) w2_w (by decide) ⟨Int.le_refl 0,by show(0:Int)≤4611686018425000000;decide⟩ (fun e he=>(zq.1 he).elim (fun h1=>h1▸h.ro _ mH) (fun h1=>h.own e (mL h1))) (fun e he=>(zq.1 he).elim (fun h1=>h1▸apart (Fl:=[cl kb ((jv w2).toArray) 101]) (A:=((cl jb #[.int .i64 (0:Int),pT m.d,.int .u64 (0:Int)] 143)::dO (newD 200) m x2)) (T:=[]) (L:=[(1,Obj.cells (wv Kc) t0 fr0)]) h (fun e he=>he) _ (zi.2 rfl)) (fun h1=>mid_apart (F:=[cl kb ((jv w2).toArray) 101]) (A:=((cl jb #[.int .i64 (0:Int),pT m.d,.int .u64 (0:Int)] 143)::dO (newD 200) m x2)) (T:=[]) h e (.inl h1)));rw[com_w2]at h9;exact h9)) ?_
 rintro x3 hmo_x3
 refine Ld 1 [1,3,5] ?_
 refine Bp 4 [dZ,dZ,dZ,(1,false,none)] (some [1,3,38,39]) (fun _=>[((.bool true:Value)=.bool true)]) ⟨rfl,trivial⟩ ?_
 refine Lu (zr (.int .i64 10) rfl Tryz.func17 rfl rfl kr (fun w1 h=>dSteps m x3 (aD4 (qi 1 w2)) w1 (fun e he=>h.own e (qJ [cl kb ((jv w2).toArray) 101] (mL (zf _ he)))))) ?_
 refine Lp 4 [(1,false,none),dZ,dZ,(1,false,none)] (some [1,3,43,44]) (fun _=>[((.bool true:Value)=.bool true),((.bool true:Value)=.bool true)]) ⟨rfl,rfl,trivial⟩ ?_
 refine Lu (zr (vs:=[pT m.d,.int .i64 100]) (.agg (bv (bk1 1))) rfl Tryz.func95 rfl rfl kr (fun w1 h=>by have h9:=dLasts m x3 (aD4 (qi 1 w2)) 100 w1 gD4 hmo_x3 (fun e he=>h.own e (qJ [cl kb ((jv w2).toArray) 101] (mL (zf _ he))));rw[last100]at h9;exact h9)) ?_
 refine Lp 5 [(1,false,some (.int .u8 1)),(1,false,none),dZ,dZ,(1,false,none)] (some [3,49,50]) (fun _=>[((.bool true:Value)=.bool true),(iL (0:Int) 512),(((bv (bk1 1)))[0]? = some (.int .u8 1)),((.bool true:Value)=.bool true),((.bool true:Value)=.bool true)]) ⟨rfl,om,kr,rfl,rfl,trivial⟩ ?_
 refine Lu (zr (vs:=[pT m.d,.int .i64 150]) (.agg (bv (bk1 2))) rfl Tryz.func95 rfl rfl kr (fun w1 h=>by have h9:=dLasts m x3 (aD4 (qi 1 w2)) 150 w1 gD4 hmo_x3 (fun e he=>h.own e (qJ [cl kb ((jv w2).toArray) 101] (mL (zf _ he))));rw[last150]at h9;exact h9)) ?_
 refine Lp 5 [(1,false,some (.int .u8 2)),(1,false,none),dZ,dZ,(1,false,none)] (some [55,56]) (fun _=>[((.bool true:Value)=.bool true),(iL (0:Int) 512),(((bv (bk1 2)))[0]? = some (.int .u8 2)),((.bool true:Value)=.bool true),((.bool true:Value)=.bool true)]) ⟨rfl,om,kr,rfl,rfl,trivial⟩ ?_
 refine Lu (zr (.int .u64 1) rfl Tryz.func96 rfl rfl kr (fun w1 h=>jNumber jb 0 1 m x3 (aD4 (qi 1 w2)) w1 (fun e he=>h.own e (qJ [cl kb ((jv w2).toArray) 101] (mL he))))) ?_
 refine Lp 3 [(1,false,none)] (some [0]) (fun _=>[((.bool true:Value)=.bool true)]) ⟨rfl,trivial⟩ ?_
 refine zg rfl ?_
 refine Rt [.bool true] (fun w1 hp=>?_)
 exact⟨by simp[resOf],hp.ext⟩
end
section
open K
theorem jAwake1 {t0:TypeId} {fr0:Nat×Nat} (w:World) (hR:Has w [(1,.cells (wv Kc) t0 fr0)]) :
  Calls Tryz.prog 26 #[] w fun e w'=>e=.returned (.bool true)∧Ext [] w w':=by
 refine enter [] [(1,.cells (wv Kc) t0 fr0)] [] Tryz.func26 rfl kr (yj hR) ?_
 refine Rq [] ?_
 refine Cfg.begL rfl ?_
 refine Lu (zr (.bool true) rfl Tryz.func58 rfl rfl kr (fun w1 h=>awakeW w1 (h.ro _ mH))) ?_
 refine Ld 1 [0] ?_
 refine Rt [.bool true] (fun w1 hp=>?_)
 exact⟨rfl,hp.ext⟩
end
section
open K
theorem newF_hi (f t:Int):(t≤f→((newF f t).length:Int)=0)∧(f<t→(t-f<4096→((newF f t).length:Int)=t-f)∧(4096≤t-f→((newF f t).length:Int)=4096)):=by
 unfold newF
 split
 ·rename_i h;exact⟨fun _=>rfl,fun h2=>by omega⟩
 rename_i h
 refine⟨fun h2=>absurd h2 h,fun _=>?_⟩
 rw[zk]
 exact⟨fun _=>by omega,fun _=>by omega⟩
theorem new59:newF 5 9=[true,true,true,true]:=by decide
theorem runs59:yW [true,true,true,true] 0=[(0,4)]:=by
 rw[runsAt_some (n:=4) (by decide) (by decide) (by decide),runsAt_end (by decide)]
theorem take59:yr 5 [true,true,true,true] 3=(5,0,[false,false,false,true]):=by
 have h:=take_ok (f:=5) (fr:=[true,true,true,true]) (n:=3) (pre:=[]) (rest:=[]) (k:=0) (m:=4) (by decide) runs59 (fun y hy=>by cases hy) (by decide)
 exact h.1.trans (by decide)
theorem free59:suml (yW [false,false,false,true] 0)=1:=by rw[suml_count];decide
theorem awakeC (w:World) :
  Calls Tryz.prog 59 #[] w fun e w'=>e=.returned (.bool true)∧Ext [] w w':=by
 refine enter [] [] [] Tryz.func59 rfl kr (yy w) ?_
 refine Rq [] ?_
 refine Be rfl rfl (zY (vs:=[.int .i64 5,.int .i64 9]) (fun x:Nat×K.Own=>pT x.1) [] (fun x=>spO x.1 (5:Int) x.2 ([true,true,true,true])) (fun x=>Good x.2 ([true,true,true,true])) [] [] rfl rfl Tryz.func32 rfl rfl kr (fun w1 h _ _=>(by have h9:=newU (5:Int) (9:Int) w1 (by unfold I64;omega) (by unfold I64;omega);rw[new59]at h9;exact h9))) ?_
 rintro⟨s1,o1⟩ hg_o1
 have hl_1:=newF_len (5:Int) (9:Int)
 have hh_1:=newF_hi (5:Int) (9:Int)
 refine Ld 1 [1] ?_
 refine Rq [1,6] ?_
 refine yb rfl (b:=false) kr rfl ?_
 refine Bq 1 [1,8] ?_
 refine Le (zY (vs:=[pT s1,.int .i64 3]) (fun _:K.Own=>.tuple #[.int .i64 5,.int .i64 0]) (spO s1 (5:Int) o1 ([true,true,true,true])) (fun o=>spO s1 (5:Int) o ([false,false,false,true])) (fun o=>Good o ([false,false,false,true])) [] [] rfl rfl Tryz.func97 rfl rfl kr (fun w1 h hA hd=>(by have h9:=takeU s1 (5:Int) o1 ([true,true,true,true]) (3:Int) w1 (by simp only[List.length_cons,List.length_nil];omega) (by simp only[List.length_cons,List.length_nil];omega) hg_o1 (by unfold I64;omega) hA hd;rw[take59]at h9;exact h9))) ?_
 rintro o2 hg_o2
 refine Ld 5 [1,2,3] ?_
 refine Bp 8 [dZ,dZ,dZ,(1,false,none),(1,false,none),dZ,dZ,(1,false,none)] (some [1,18,19]) (fun _=>[((.bool true:Value)=.bool true),((.bool true:Value)=.bool true),((.bool true:Value)=.bool true)]) ⟨rfl,rfl,rfl,trivial⟩ ?_
 refine Lu (zr (vs:=[pT s1]) (.int .i64 1) rfl Tryz.func47 rfl rfl kr (fun w1 h=>(by have h9:=freeU s1 (5:Int) o2 ([false,false,false,true]) w1 (by simp only[List.length_cons,List.length_nil];omega) (by simp only[List.length_cons,List.length_nil];omega) hg_o2 (h.has (fun e he=>by simp[he]));rw[free59]at h9;exact h9))) ?_
 refine Lp 4 [(1,false,none),dZ,dZ,(1,false,none)] (some [1,23,24]) (fun _=>[((.bool true:Value)=.bool true),((.bool true:Value)=.bool true)]) ⟨rfl,rfl,trivial⟩ ?_
 refine Lu (zr (vs:=[pT s1,.int .i64 8]) (.bool true) rfl Tryz.func98 rfl rfl kr (fun w1 h=>(by have h9:=isU s1 (5:Int) (8:Int) o2 ([false,false,false,true]) w1 (by unfold I64;omega) (by unfold I64;omega) (by simp only[List.length_cons,List.length_nil];omega) hg_o2 (h.has (fun e he=>by simp[he]));rw[(show(inP 5 [false,false,false,true].length 8&&[false,false,false,true].getD (8-5:Int).toNat false)=true by decide)]at h9;exact h9))) ?_
 refine qL 3 [dZ,dZ,(1,false,none)] (some [27,28]) (Γ':=[(28,[],pT s1),(27,[],.bool true)]) (nd:=(fun _=>[((.bool true:Value)=.bool true)])) kr (fun _=>kr) ⟨rfl,trivial⟩ ?_
 refine Lu (zr (vs:=[pT s1,.int .i64 5]) (.bool false) rfl Tryz.func98 rfl rfl kr (fun w1 h=>(by have h9:=isU s1 (5:Int) (5:Int) o2 ([false,false,false,true]) w1 (by unfold I64;omega) (by unfold I64;omega) (by simp only[List.length_cons,List.length_nil];omega) hg_o2 (h.has (fun e he=>by simp[he]));rw[(show(inP 5 [false,false,false,true].length 5&&[false,false,false,true].getD (5-5:Int).toNat false)=false by decide)]at h9;exact h9))) ?_
 refine Lp 3 [(1,false,none)] (some [0]) (fun _=>[((.bool true:Value)=.bool true)]) ⟨rfl,trivial⟩ ?_
 refine zg rfl ?_
 refine Rt [.bool true] (fun w1 hp=>?_)
 exact⟨rfl,hp.ext⟩
theorem spAwake1 (w:World) :
  Calls Tryz.prog 27 #[] w fun e w'=>e=.returned (.bool true)∧Ext [] w w':=by
 refine enter [] [] [] Tryz.func27 rfl kr (yy w) ?_
 refine Rq [] ?_
 refine Cfg.begL rfl ?_
 refine Lu (zr (.bool true) rfl Tryz.func59 rfl rfl kr (fun w1 h=>awakeC w1)) ?_
 refine Ld 1 [0] ?_
 refine Rt [.bool true] (fun w1 hp=>?_)
 exact⟨rfl,hp.ext⟩
end
section
open K
theorem inF_blk (b:Nat) (t:TypeId) (l:List FA):InF acL 4 [(b,.cells (l.flatMap acL).toArray t (0,0))] (some ⟨b,0,none⟩) l:=by
 intro _
 have hl:(l.flatMap acL).length=l.length*4:=flat_len (fun x _=>acL_len x)
 refine⟨b,0,_,t,(0,0),rfl,mH,fun j hj=>?_⟩
 show _=some ((l.flatMap acL).getD j undef)
 rw[zF,zo,zc,zd om];rfl
theorem fOpenOk {N:Nat} (m:DM) (x:MX) (D D2:DK) (num:Nat) (t0:TypeId) (fr0:Nat×Nat) (w:World) (hg:DG D) (hmo:MapOk x.1 x.2 (wv2 D.wait)) (hs:0≤D.steps∧D.steps≤4611686018426000000) (hA:Has w (dO D m x)) (hd:((dO D m x).map (·.1)).Nodup) (hR:Has w [(1,Obj.cells (wv Kc) t0 fr0)]) (hnr:∀e∈[(1,Obj.cells (wv Kc) t0 fr0)],e.1∉(dO D m x).map (·.1)) (hO:openF D=(0,num,D2)) (hg2:DG D2) (hN:D2.last.length=N) (hb9:121<N∧N≤400) (hdn:D2.down=false) (h0:(opL D2 24 (T0 N)).1=true) (hwk:WOk (opL D2 24 (T0 N)).2.W) :
  Calls Tryz.prog 8 #[.pointer (some ⟨m.d,0,none⟩)] w fun e w'=>∃q:FM×MX,(FOk q.1 (opL D2 24 (T0 N)).2∧MapOk q.2.1 q.2.2 (wv2 D2.wait))∧e=.returned (.tuple #[.pointer (some ⟨q.1.fb,0,none⟩),.int .i64 0])∧∃R1,HP w ((dO D m x).map (·.1)) R1 (gO q.1 0 num m (opL D2 24 (T0 N)).2++dO D2 m q.2) w':=by
 refine(fOpen m x D D2 num t0 fr0 w hg hmo hs hA hd hR hnr hO hg2 hN hb9 hdn).mono ?_
 rintro e w' (⟨_,z,y,⟨a1,a2,a3,a4⟩,he,hp⟩|⟨h1,_⟩)
 ·exact⟨(z,y),⟨⟨a1,hwk,a2,a3⟩,a4⟩,he,hp⟩
 rw[h0]at h1;cases h1
theorem new_steps (N:Nat):0≤(newD N).steps∧(newD N).steps≤4611686018425000000:=⟨Int.le_refl 0,by show(0:Int)≤4611686018425000000;decide⟩
theorem new_steps6 (N:Nat):0≤(newD N).steps∧(newD N).steps≤4611686018426000000:=⟨Int.le_refl 0,by show(0:Int)≤4611686018426000000;decide⟩
theorem go_side {w0 w:World} {M:List Nat} {R L A U T:List (Nat×Obj)} {tab:Nat×Obj} (h:HP w0 M R (L++(A++T)) w) (ht:tab∈R) (hU:∀e∈U,e∈L):Has w (tab::U)∧∀e∈tab::U,e.1∉A.map (·.1):=by
 refine⟨fun e he=>?_,fun e he hm=>?_⟩
 ·rcases zq.1 he with rfl|he
  ·exact h.ro _ ht
  exact h.own _ (mL (hU e he))
 rcases zq.1 he with rfl|he
 ·obtain⟨e2,h2,h3⟩:=zv.1 hm
  exact h.away (mR (mL h2)) ht h3
 exact HP.sep h (hU e he) hm
theorem fAwake {t0:TypeId} {fr0:Nat×Nat} (w:World) (hR:Has w [(1,Obj.cells (wv Kc) t0 fr0)]) :
  Calls Tryz.prog 5 #[] w fun e w'=>e=.returned (.bool true)∧Ext [] w w':=by
 obtain⟨n1,D1,hdo,hD1,hs1⟩:=ex_do
 refine enter [] [(1,Obj.cells (wv Kc) t0 fr0)] [] Tryz.func5 rfl kr (yj hR) ?_
 refine Rq [] ?_
 refine Be rfl rfl (zY (fun y:DM×MX=>.tuple #[pT y.1.d,.int .i64 0]) [] (fun y=>dO (newD 200) y.1 y.2) (fun y=>MapOk y.2.1 y.2.2 []) [] [] rfl rfl Tryz.func7 rfl rfl kr (fun w1 h _ _=>dNew 200 w1 (by have:=(by decide:(121:Nat)<200∧200≤400);omega))) ?_
 rintro⟨m,x⟩ hmo
 refine Ld 5 [1] ?_
 refine Bq 1 [13] ?_
 refine Le (zY (vs:=[pT m.d]) (fun q:FM×MX=>.tuple #[pT q.1.fb,.int .i64 0]) (dO (newD 200) m x) (fun q=>gO q.1 0 s00.num m s00.T++dO s00.D m q.2) (fun q=>FOk q.1 s00.T∧MapOk q.2.1 q.2.2 (wv2 s00.D.wait)) [] [] rfl rfl Tryz.func8 rfl rfl kr (fun w1 h hA1 hd1=>by have h8:=Wl.new (by decide:(121:Nat)<200∧200≤400);have h7:=op_new (by decide:(121:Nat)<200∧200≤400) 24 (zD _);have h9:=fOpenOk m x (newD 200) (newD 200) 0 t0 fr0 w1 h8.g hmo (new_steps6 200) hA1 hd1 (fun e he=>h.ro e he) (apart (Fl:=[]) (A:=dO (newD 200) m x) (T:=[]) h (fun e he=> he)) (h8.open0 (new_shown 0)) h8.g (newD_len 200) (by decide:(121:Nat)<200∧200≤400) rfl (by rw[h7]) (by rw[h7];exact WOk.nil);rw[h7]at h9;exact h9)) ?_
 rintro⟨z,y⟩ ⟨hfz,hmy⟩
 refine Ld 5 [3,4] ?_
 refine Bp 7 [dZ,dZ,dZ,(1,false,none),(1,false,none)] (some [3,23]) (fun _=>[((.bool false:Value)=.bool false),((.bool false:Value)=.bool false)]) ⟨rfl,rfl,trivial⟩ ?_
 refine Lu (zr (.bool true) rfl Tryz.func26 rfl rfl kr (fun w1 h=>jAwake1 w1 (h.hasR (fun e he=>he)))) ?_
 refine Lp 3 [(1,false,none)] (some [3,27]) (fun _=>[((.bool false:Value)=.bool false)]) ⟨rfl,trivial⟩ ?_
 refine Lu (zr (.bool true) rfl Tryz.func27 rfl rfl kr (fun w1 _=>spAwake1 w1)) ?_
 refine Lp 2 [(1,false,none)] (some [3,30]) (fun _=>[((.bool false:Value)=.bool false)]) ⟨rfl,trivial⟩ ?_
 refine zg rfl ?_
 refine yb rfl (b:=false) kr rfl ?_
 refine Cfg.begL rfl ?_
 refine qL 1 [] (some [3,31]) (Γ':=[(31,[],pT z.fb),(3,[],pT z.fb)]) (nd:=(fun _=>[])) kr (fun _=>kr) trivial ?_
 refine Lu (zr (.agg (acC ex1)) rfl Tryz.func28 rfl rfl kr (fun w1 _=>fMkPut sA sHi w1)) ?_
 refine Lu (zr (.agg (acC ex2)) rfl Tryz.func29 rfl rfl kr (fun w1 _=>fMkRen sA sB w1)) ?_
 refine Le (Eff.reO (A2:=fun kb=>([cl kb (([ex1,ex2].flatMap acL).toArray) 34]++((gO z 0 s00.num m s00.T++dO s00.D m y)++[]))) (Eff.buildAgg2 (u:=acC ex1) (v:=acC ex2) rfl kr kr Tryz.underlying22 kr (z:=.agg (acC faz)) kr rfl rfl (by decide) (by decide)) (fun kb=>rfl)) ?_
 rintro kb ⟨hkb,nkb⟩
 refine Le (zY (vs:=[.pointer (some ⟨z.fb,0,none⟩),.slice (some ⟨kb,0,none⟩) 2 2]) (fun _:FM×MX=>.int .i64 0) ((gO z 0 s00.num m s00.T++dO s00.D m y)) (fun q=>(gO q.1 0 n1 m exT2++dO D1 m q.2)) (fun q=>q.1.fb=z.fb∧FOk q.1 exT2∧MapOk q.2.1 q.2.2 (wv2 D1.wait)∧Wl 200 D1∧s00.D.steps≤D1.steps∧D1.steps≤s00.D.steps+20000) [(kb,.cells (([ex1,ex2].flatMap acL).toArray) 34 (0,0))] [] rfl rfl Tryz.func9 rfl rfl kr (fun w1 h hA1 hd1=>by have h9:=fDo z m y s00 (some ⟨kb,0,none⟩) 2 [ex1,ex2] [(kb,Obj.cells (([ex1,ex2].flatMap acL).toArray) 34 (0,0))] t0 fr0 w1 Wl.n2 hfz hmy (new_steps 200) hA1 hd1 (inF_blk kb 34 [ex1,ex2]) (fun a ha=>by rcases zq.1 ha with rfl|ha;exact⟨by decide,by decide⟩;rw[zi.1 ha];exact⟨by decide,by decide⟩) (by show 2≤1000000;decide) (go_side (L:=[(kb,Obj.cells (([ex1,ex2].flatMap acL).toArray) 34 (0,0))]) (A:=(gO z 0 s00.num m s00.T++dO s00.D m y)) (U:=[(kb,Obj.cells (([ex1,ex2].flatMap acL).toArray) 34 (0,0))]) (T:=[]) h mH (fun e he=>by rw[zi.1 he];exact mG 0 rfl)).1 (go_side (L:=[(kb,Obj.cells (([ex1,ex2].flatMap acL).toArray) 34 (0,0))]) (A:=(gO z 0 s00.num m s00.T++dO s00.D m y)) (U:=[(kb,Obj.cells (([ex1,ex2].flatMap acL).toArray) 34 (0,0))]) (T:=[]) h mH (fun e he=>by rw[zi.1 he];exact mG 0 rfl)).2;rw[hdo]at h9;exact h9)) ?_
 rintro⟨z2,y2⟩ ⟨hz2,hf2,hm2,-⟩
 refine Ld 1 [3,5] ?_
 refine Bp 1 [] none n0 trivial ?_
 refine Lu (zr (vs:=[pT z.fb,.string ⟨#[98]⟩]) (.tuple #[.string ⟨#[104,105]⟩,.int .i64 0]) rfl Tryz.func13 rfl rfl kr (fun w1 h=>by have h9:=fRead z2 n1 m y2 D1 exT2 sB 0 w1 (fun e he=>h.own e (show e∈([cl kb (([ex1,ex2].flatMap acL).toArray) 34]++((gO z2 0 n1 m exT2++dO D1 m y2)++[])) from(mR (mL he)))) hD1 hm2 hf2 (by decide) rfl (by rw[exT2_at];exact .inr ⟨by decide,by decide⟩);rw[hz2,ex_read hD1 hs1]at h9;exact h9)) ?_
 refine Ld 5 [3,5,6,7] ?_
 refine Bp 11 [dZ,dZ,dZ,(1,false,none),(1,false,none),dZ,dZ,(1,false,none),(1,false,none)] (some [3,51]) (fun _=>[((.bool true:Value)=.bool true),((.bool true:Value)=.bool true),((.bool true:Value)=.bool true),((.bool true:Value)=.bool true)]) ⟨rfl,rfl,rfl,rfl,trivial⟩ ?_
 refine qw 51 (b:=((⟨#[104,105]⟩:ByteArray).toList==(⟨#[104,105]⟩:ByteArray).toList)) kr true (beq_self_eq_true _) ?_
 refine Lp 1 [(1,false,none)] (some [51,52]) (fun _=>[((.bool true:Value)=.bool true)]) ⟨rfl,trivial⟩ ?_
 refine Lu (zr (vs:=[pT z.fb,.string ⟨#[97]⟩]) (.bool false) rfl Tryz.func25 rfl rfl kr (fun w1 h=>by have h9:=fHas z2 0 n1 m y2 D1 exT2 sA w1 (fun e he=>h.own e (show e∈([cl kb (([ex1,ex2].flatMap acL).toArray) 34]++((gO z2 0 n1 m exT2++dO D1 m y2)++[])) from(mR (mL he)))) hf2.tb hf2.g hf2.sm;rw[hz2,show(smget exT2.W sA).isSome=false from by kernel_rfl]at h9;exact h9)) ?_
 refine Lp 3 [(1,false,none)] (some [0]) (fun _=>[((.bool true:Value)=.bool true)]) ⟨rfl,trivial⟩ ?_
 refine zg rfl ?_
 refine Rt [.bool true] (fun w1 hp=>?_)
 exact⟨by simp[resOf],hp.ext⟩
end
end Go.Proofs.YtfgdepggdiibdaaGreatDoor