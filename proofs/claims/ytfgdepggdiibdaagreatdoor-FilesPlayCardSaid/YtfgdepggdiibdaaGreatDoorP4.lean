/- Texts on which the proof of this claim stands: Fl2, Sp1, Sp2, Sp3, Sp4, Sp5, Sp6, Sp8, Sp9, Sp7, SpA, SpB, SpC, SpD, FlN, Fl3. -/
import Derived.Test.YtfgdepggdiibdaaGreatDoorP3
import Derived.Test.YtfgdepggdiibdaaGreatDoorP2
import Derived.Test.YtfgdepggdiibdaaGreatDoorChecked
import Derived.Test.YtfgdepggdiibdaaGreatDoorP1
set_option linter.unusedVariables false
set_option maxRecDepth 100000
set_option maxHeartbeats 8000000
namespace Go.Proofs.YtfgdepggdiibdaaGreatDoor
open List (replicate)
section
open K
theorem getD_of {α:Type} {l:List α} {i:Nat} (z:α) (h:i<l.length):l.getD i z=l[i]:=by rw[zc,zd h];rfl
def plL (p:Pl):List UInt8:=be p.nm.size 1++((p.nm.data.toList++replicate (72-p.nm.size) 0)++flat four [p.at_,p.sz])
theorem plL_len {p:Pl} (h:PlOk p):(plL p).length=81:=by
 have h1:=h.nm
 have h2:p.nm.data.toList.length=p.nm.size:=ba_len p.nm
 unfold plL
 simp only[List.length_append,be_len,List.length_replicate,h2,flat,List.flatMap_cons,List.flatMap_nil,List.append_nil,four]
 omega
def six (ps:List Pl) (n:Nat):List Pl:=(ps.drop (6*n)).take 6
theorem six_len {ps:List Pl} {n:Nat} (hl:ps.length=144) (hn:n<24):(six ps n).length=6:=by unfold six;rw[z8,qg];omega
theorem six_at {ps:List Pl} {n i:Nat} (hi:i<6):(six ps n).getD i plz=ps.getD (6*n+i) plz:=by
 unfold six
 rw[zc,List.getElem?_take,if_pos hi,List.getElem?_drop,zc]
theorem six_in {ps:List Pl} {n:Nat} {p:Pl} (h:p∈six ps n):p∈ps:=List.mem_of_mem_drop (qV h)
theorem flat81:∀ {l:List Pl},(∀p∈l,PlOk p)→(flat plL l).length=81*l.length
 | [],_=>rfl
 | p::l,h=>by
  have h1:=plL_len (h p mH)
  have h2:=flat81 (l:=l) (fun q hq=>h q (zf _ hq))
  have e:flat plL (p::l)=plL p++flat plL l:=by simp[flat]
  rw[e,zh,h1,h2,zL];omega
def shL (ps:List Pl) (n:Nat):List UInt8:=flat plL (six ps n)
def yN (ps:List Pl) (n:Nat):List UInt8:=shL ps n++replicate (512-(shL ps n).length) 0
theorem shL_len {ps:List Pl} {n:Nat} (hl:ps.length=144) (hn:n<24) (ho:∀p∈ps,PlOk p):(shL ps n).length=486:=by
 unfold shL;rw[flat81 (fun p hp=>ho p (six_in hp)),six_len hl hn]
theorem sheetF_len {ps:List Pl} {n:Nat} (hl:ps.length=144) (hn:n<24) (ho:∀p∈ps,PlOk p):(yN ps n).length=512:=by
 unfold yN;rw[zh,zk,shL_len hl hn ho]
def tbC (ps:List Pl) (nr rm:Nat):Array Value:=(ps.flatMap plc++[Value.map (some nr),Value.pointer (some ⟨rm,0,none⟩)]).toArray
theorem plf_len (ps:List Pl):(ps.flatMap plc).length=ps.length*3:=flat_len (fun p _=>plc_len p)
theorem tb_cell {ps:List Pl} {nr rm k j:Nat} {v:Value} (hk:k<ps.length) (hv:(plc (ps.getD k plz))[j]? = some v):(tbC ps nr rm)[k*3+j]? = some v:=by
 have hj:j<3:=(yu.1 hv).1
 unfold tbC
 rw[zo,zJ (by rw[plf_len];omega)]
 have h:=fl_cell (f:=plc) (sz:=3) (l:=ps) plz (fun p _=>plc_len p) (off:=0) (cs:=(ps.flatMap plc).toArray) (fun j hj=>by
  rw[zF,zo,zc,zd (by rw[plf_len];exact hj)];rfl) hk hv
 rwa [zF,zo]at h
theorem tb_names {ps:List Pl} {nr rm:Nat} (hl:ps.length=144):(tbC ps nr rm)[432]? = some (Value.map (some nr)):=by
 unfold tbC
 rw[zo,yd (by rw[plf_len];omega),plf_len,hl];rfl
theorem tb_room {ps:List Pl} {nr rm:Nat} (hl:ps.length=144):(tbC ps nr rm)[433]? = some (Value.pointer (some ⟨rm,0,none⟩)):=by
 unfold tbC
 rw[zo,yd (by rw[plf_len];omega),plf_len,hl];rfl
theorem wByteM (L:List UInt8) (n:Nat) (w:World) (hn:n≤72) (hr:L.length+1≤140737488355328):Calls Tryz.prog 111 #[.agg #[.string (tx L)],.int .u8 ((n:Int)%256)] w fun e w'=>e=.returned (.agg #[.string (tx (L++be n 1))])∧Ext [] w w':=by
 rw[show(n:Int)%256=(n:Int) by omega]
 exact wByte (tx L) n w om (by rw[qf];exact hr)
theorem fRepM (s:Nat) (w:World) (hs:s≤72):Calls Tryz.prog 113 #[.string ⟨#[0]⟩,.int .i64 (72-(s:Int))] w fun e w'=>e=.returned (.string (tx (replicate (72-s) 0)))∧Ext [] w w':=by
 rw[show(72-(s:Int))=((72-s:Nat):Int) by omega]
 exact fRep (72-s) w om
theorem sh_next {l:List Pl} {i:Nat} (h:i<l.length):flat plL (l.take (i+1))=flat plL (l.take i)++plL (l.getD i plz):=by
 rw[zV h,flat_app,getD_of _ h];simp[flat]
theorem fSheet (tb nr rm:Nat) (ps:List Pl) (n:Nat) (w:World) (hR:Has w [(tb,.cells (tbC ps nr rm) 88 (0,0))]) (hl:ps.length=144) (ho:∀p∈ps,PlOk p) (hn:n<24) :
  Calls Tryz.prog 72 #[.pointer (some ⟨tb,0,none⟩),.int .i64 (n:Int)] w fun e w'=>e=.returned (.agg (bv (yN ps n)))∧Ext [] w w':=by
 have hsl:=shL_len hl hn ho
 have h6:=six_len hl hn
 have hf8:∀x,(four x).length=4:=fun x=>be_len _ _
 refine enter [] [cl tb (tbC ps nr rm) 88] [] Tryz.func72 rfl kr (yj hR) ?_
 refine Be rfl rfl (zM (z:=(.agg (bv (replicate 512 0)))) rfl kr) ?_
 rintro rs ⟨hrs,nrs⟩
 refine zg rfl ?_
 refine Bp 1 [(dS (.agg #[.string ByteArray.empty]))] none (fun S=>[(∀w1,S w1→(Instr.build 202 #[]).run Tryz.prog w1=.ok (.agg #[.string ByteArray.empty]) w1)]) ⟨(fun _ _=>kr),trivial⟩ ?_
 refine Le (zM (z:=(.agg #[.string ByteArray.empty])) rfl kr) ?_
 rintro ob ⟨hob,nob⟩
 refine Lu (zC (b:=ob) (off:=0) (vs:=#[.string ByteArray.empty]) (n:=1) rfl kr kr kr rfl (by simp[K.one]) 0 (cs:=#[.string ByteArray.empty]) (e:=202) kr (by simp)) ?_
 refine oL 0 rfl (show _ = #[.string ByteArray.empty]from rfl) ?_
 refine zg rfl ?_
 refine Cg (Γ':=[(5,[],pT ob),(4,[],pT rs),(0,[],pT tb),(1,[],iN n)]) ?_
 refine Rg [4,5,18,19,20] [] (fun _=>[(i6 ((n:Int)*6)),(i6 ((n:Int)+1)),(i6 (((n:Int)+1)*6)),(0≤((n:Int)*6)),(0≤(((n:Int)+1)*6)),((n*6)≤((n+1)*6)∧((n+1)*6)≤144)]) ⟨om,om,om,om,om,om,trivial⟩ ?_
 refine oB 0 rfl (show _ = #[.string (tx (flat plL ((six ps n).take 0)))]from by rfl) ?_
 refine ye rfl (ι:=Nat) (fun(i:Nat)=>[(20,[],iN i),(19,[],iN ((((n+1)*6)-((n*6))))),(18,[],.slice (some ⟨tb,(if 144=(n*6)then 0 else(((n*6))*3)),none⟩) (((n+1)*6)-((n*6))) (144-((n*6)))),(5,[],pT ob),(4,[],pT rs)]) (fun(i:Nat)=>[cl ob #[.string (tx (flat plL ((six ps n).take i)))] 202,cl rs (bv (replicate 512 0)) 37]) (fun(i:Nat)=>(i≤6)) (fun(i:Nat)=>6-i) 0 ?_ (Conv.mk kr) (cO (cO .slnil)) ?_
 ·exact zH _
 rintro i hi
 refine Rq [4,5,18,19,20,21] ?_
 refine eC rfl (p:=((i:Int)<(((((n+1)*6)-((n*6))):Nat):Int))) kr (fun c1=>?_) (fun c1=>?_)
 ·have hxo:PlOk (ps.getD (6*n+i) plz):=ho _ (K.getD_mem om)
  have hx1:=hxo.nm
  have hx2:=hxo.at_
  have hx3:=hxo.sz
  have hfl0:(flat plL ((six ps n).take i)).length=81*i:=by rw[flat81 (fun p hp=>ho p (six_in (qV hp))),z8];omega
  have hmA:(((ps.getD (6*n+i) plz).at_:Int)%4294967296)=((ps.getD (6*n+i) plz).at_:Int):=by omega
  have hmS:(((ps.getD (6*n+i) plz).sz:Int)%4294967296)=((ps.getD (6*n+i) plz).sz:Int):=by omega
  refine Bp 2 [dZ,(dS (.agg (plc (ps.getD (6*n+i) plz)).toArray))] (some [4,5,18,19,20,23]) (fun S=>[(0≤(i:Int)∧(i:Int)<(((((n+1)*6)-((n*6))):Nat):Int)),(∀w1,S w1→(loadVar 85 ⟨tb,(addO (if 144=(n*6)then 0 else(((n*6))*3)) (i*3)),none⟩).run Tryz.prog w1=.ok (.agg (plc (ps.getD (6*n+i) plz)).toArray) w1)]) ⟨om,(fun w1 h=>yw (vs:=plc (ps.getD (6*n+i) plz)) Tryz.underlying85 rfl kr (plc_len _) (fun q9 v hq9=>h.rcell 0 rfl ((congrArg (fun z=>(tbC ps nr rm)[z]?) (show _=(6*n+i)*3+q9 by rw[y4,if_neg om];omega)).trans (tb_cell om hq9)))),trivial⟩ ?_
  refine Le (zM (z:=(.agg (plc plz).toArray)) rfl kr) ?_
  rintro xb ⟨hxb,nxb⟩
  refine Lu (zC (b:=xb) (off:=0) (vs:=(plc (ps.getD (6*n+i) plz)).toArray) (n:=3) rfl kr kr kr rfl (all_plc _) 0 (cs:=(plc plz).toArray) (e:=85) kr (zD 3)) ?_
  refine oL 0 rfl (show _=((plc (ps.getD (6*n+i) plz)).toArray) from(show spl (plc plz).toArray 0 (plc (ps.getD (6*n+i) plz)).toArray.toList=(plc (ps.getD (6*n+i) plz)).toArray from yx rfl)) ?_
  refine zg rfl ?_
  refine Cg (Γ':=[(7,[],pT xb),(20,[],iN i),(19,[],iN ((((n+1)*6)-((n*6))))),(18,[],.slice (some ⟨tb,(if 144=(n*6)then 0 else(((n*6))*3)),none⟩) (((n+1)*6)-((n*6))) (144-((n*6)))),(5,[],pT ob),(4,[],pT rs)]) ?_
  refine yo rfl kr [cl xb ((plc (ps.getD (6*n+i) plz)).toArray) 85,cl rs (bv (replicate 512 0)) 37] ?_
  refine Ap [1,2,3,4,6,7,8,9,10,11] [dZ,(dS (.string (ps.getD (6*n+i) plz).nm)),dZ,dZ,dZ,(dS (.string (ps.getD (6*n+i) plz).nm)),dZ,(dS (.string (ps.getD (6*n+i) plz).nm))] (some [4,5,7,18,19,20,28,31,35]) (bF 4062 16) (cO (.cons _ (cO .slnil))) 6 (fun S=>[(cE S xb 0 (.string (ps.getD (6*n+i) plz).nm)),(cE S xb 0 (.string (ps.getD (6*n+i) plz).nm)),(cE S xb 0 (.string (ps.getD (6*n+i) plz).nm)),(i6 (72-(((ps.getD (6*n+i) plz).nm.size:Nat):Int)))]) ⟨(oC 0 rfl rfl),(oC 0 rfl rfl),(oC 0 rfl rfl),om,trivial⟩ ?_
  refine Au 0 rfl 5  (qm (raw:=false) (orc:=some (.agg #[.string (tx (flat plL ((six ps n).take i)))])) (v:=.agg #[.string (tx (flat plL ((six ps n).take i)))]) (nd:=(fun S=>[(lV S 202 ob 0 (.agg #[.string (tx (flat plL ((six ps n).take i)))]))])) (fun _=>kr) ⟨(fun w1 h=>h.oload 1 rfl Tryz.underlying202 rfl (n:=1) kr rfl),trivial⟩ kr) (fun _ _=>(cO (.cons _ (cO .slnil)))) ?_
  refine Au 5 rfl 4  (zr (.agg #[.string (tx ((flat plL ((six ps n).take i))++be (ps.getD (6*n+i) plz).nm.size 1))]) rfl Tryz.func111 rfl rfl kr (fun w1 _=>wByteM (flat plL ((six ps n).take i)) (ps.getD (6*n+i) plz).nm.size w1 hx1 (by rw[hfl0];omega))) (fun _ _=>(cO (.cons _ (cO .slnil)))) ?_
  refine Au 12 rfl 3  (zr (.string (tx (replicate (72-(ps.getD (6*n+i) plz).nm.size) 0))) rfl Tryz.func113 rfl rfl kr (fun w1 _=>fRepM (ps.getD (6*n+i) plz).nm.size w1 hx1)) (fun _ _=>(cO (.cons _ (cO .slnil)))) ?_
  refine Ae 13 rfl 2  (yP (e:=9) (cells:=#[.string (ps.getD (6*n+i) plz).nm,.string (tx (replicate (72-(ps.getD (6*n+i) plz).nm.size) 0))]) (parts:=#[(0,.string (ps.getD (6*n+i) plz).nm),(1,.string (tx (replicate (72-(ps.getD (6*n+i) plz).nm.size) 0)))]) rfl kr (fun _=>kr)) (fun _ _=>(.cons _ (cO (.cons _ (cO .slnil))))) ?_
  rintro sb ⟨hsb,nsb⟩
  refine Au 14 rfl 1  (zr (.agg #[.string (tx ((tx ((flat plL ((six ps n).take i))++be (ps.getD (6*n+i) plz).nm.size 1)).data.toList++cat [(ps.getD (6*n+i) plz).nm,(tx (replicate (72-(ps.getD (6*n+i) plz).nm.size) 0))]))]) rfl Tryz.func112 rfl rfl kr (fun w1 h=>wRaw (tx ((flat plL ((six ps n).take i))++be (ps.getD (6*n+i) plz).nm.size 1)) (some ⟨sb,0,none⟩) 2 [(ps.getD (6*n+i) plz).nm,(tx (replicate (72-(ps.getD (6*n+i) plz).nm.size) 0))] [(sb,.cells (List.map Value.string [(ps.getD (6*n+i) plz).nm,(tx (replicate (72-(ps.getD (6*n+i) plz).nm.size) 0))]).toArray 9 (0,0))] w1 (inS_lit sb 9 (0,0) [(ps.getD (6*n+i) plz).nm,(tx (replicate (72-(ps.getD (6*n+i) plz).nm.size) 0))]) (h.has (fun e he=>mG 0 (by rw[zi.1 he];rfl))) (by show 2≤maxLen;decide) (by rw[qf];simp only[cat,List.flatMap_cons,List.flatMap_nil,List.append_nil,List.length_append,be_len,ba_len,tx_list,List.length_replicate,hfl0];omega))) (fun _ _=>(.cons _ (cO (.cons _ (cO .slnil))))) ?_
  refine Au 15 rfl 0  (zC (b:=ob) (off:=0) (vs:=#[.string (tx ((tx ((flat plL ((six ps n).take i))++be (ps.getD (6*n+i) plz).nm.size 1)).data.toList++cat [(ps.getD (6*n+i) plz).nm,(tx (replicate (72-(ps.getD (6*n+i) plz).nm.size) 0))]))]) (n:=1) rfl kr kr kr rfl (by simp[K.one]) 2 (cs:=#[.string (tx (flat plL ((six ps n).take i)))]) (e:=202) kr (by simp)) (fun _ _=>(.cons _ (cO (.cons _ (cO .slnil))))) ?_
  refine oA 2 rfl (show _ = #[.string (tx ((tx ((flat plL ((six ps n).take i))++be (ps.getD (6*n+i) plz).nm.size 1)).data.toList++cat [(ps.getD (6*n+i) plz).nm,(tx (replicate (72-(ps.getD (6*n+i) plz).nm.size) 0))]))]from rfl) ?_
  refine z6 kr ?_
  refine Cg (Γ':=[(7,[],pT xb),(20,[],iN i),(19,[],iN ((((n+1)*6)-((n*6))))),(18,[],.slice (some ⟨tb,(if 144=(n*6)then 0 else(((n*6))*3)),none⟩) (((n+1)*6)-((n*6))) (144-((n*6)))),(5,[],pT ob),(4,[],pT rs)]) ?_
  refine Bp 7 [(dS (.agg #[.string (tx ((tx ((flat plL ((six ps n).take i))++be (ps.getD (6*n+i) plz).nm.size 1)).data.toList++cat [(ps.getD (6*n+i) plz).nm,(tx (replicate (72-(ps.getD (6*n+i) plz).nm.size) 0))]))])),dZ,(dS (iN ((ps.getD (6*n+i) plz).at_))),dZ,dZ,(dS (iN ((ps.getD (6*n+i) plz).sz)))] (some [4,5,18,19,20,39,42,45]) (fun S=>[(lV S 202 ob 0 (.agg #[.string (tx ((tx ((flat plL ((six ps n).take i))++be (ps.getD (6*n+i) plz).nm.size 1)).data.toList++cat [(ps.getD (6*n+i) plz).nm,(tx (replicate (72-(ps.getD (6*n+i) plz).nm.size) 0))]))])),(cE S xb 1 (iN ((ps.getD (6*n+i) plz).at_))),(cE S xb 2 (iN ((ps.getD (6*n+i) plz).sz)))]) ⟨(fun w1 h=>h.oload 2 rfl Tryz.underlying202 rfl (n:=1) kr rfl),(oC 1 rfl rfl),(oC 1 rfl rfl),trivial⟩ ?_
  refine Le (yP (e:=157) (cells:=#[.int .u32 ((((ps.getD (6*n+i) plz).at_:Nat):Int)%4294967296),.int .u32 ((((ps.getD (6*n+i) plz).sz:Nat):Int)%4294967296)]) (parts:=#[(0,.int .u32 ((((ps.getD (6*n+i) plz).at_:Nat):Int)%4294967296)),(1,.int .u32 ((((ps.getD (6*n+i) plz).sz:Nat):Int)%4294967296))]) rfl kr (fun _=>kr)) ?_
  rintro fb ⟨hfb,nfb⟩
  refine Lu (zr (.agg #[.string (tx ((tx ((tx ((flat plL ((six ps n).take i))++be (ps.getD (6*n+i) plz).nm.size 1)).data.toList++cat [(ps.getD (6*n+i) plz).nm,(tx (replicate (72-(ps.getD (6*n+i) plz).nm.size) 0))])).data.toList++flat four [(ps.getD (6*n+i) plz).at_,(ps.getD (6*n+i) plz).sz]))]) rfl Tryz.func114 rfl rfl kr (fun w1 h=>wFour (tx ((tx ((flat plL ((six ps n).take i))++be (ps.getD (6*n+i) plz).nm.size 1)).data.toList++cat [(ps.getD (6*n+i) plz).nm,(tx (replicate (72-(ps.getD (6*n+i) plz).nm.size) 0))])) (some ⟨fb,0,none⟩) 2 [(ps.getD (6*n+i) plz).at_,(ps.getD (6*n+i) plz).sz] [cl fb #[.int .u32 ((ps.getD (6*n+i) plz).at_:Int),.int .u32 ((ps.getD (6*n+i) plz).sz:Int)] 157] w1 (fun _=>⟨fb,0,_,_,_,rfl,mH,fun j hj=>by match j,hj with|0,_=>rfl|1,_=>rfl⟩) (by have hq:=h.own (cl fb #[.int .u32 (((ps.getD (6*n+i) plz).at_:Int)%4294967296),.int .u32 (((ps.getD (6*n+i) plz).sz:Int)%4294967296)] 157) (mG 0 rfl);rw[hmA,hmS]at hq;intro e he;rw[zi.1 he];exact hq) (by show 2≤maxLen;decide) (by simp only[qf,tx_list,cat,List.flatMap_cons,List.flatMap_nil,List.append_nil,flat,List.length_append,be_len,ba_len,List.length_replicate,four];have:=hfl0;simp only[flat]at this;omega) (fun q=>match q with|0=>hx2|1=>(show(ps.getD (6*n+i) plz).sz<4294967296 by omega)|_+2=>(show 0<4294967296 by decide)))) ?_
  refine Lu (zC (b:=ob) (off:=0) (vs:=#[.string (tx ((tx ((tx ((flat plL ((six ps n).take i))++be (ps.getD (6*n+i) plz).nm.size 1)).data.toList++cat [(ps.getD (6*n+i) plz).nm,(tx (replicate (72-(ps.getD (6*n+i) plz).nm.size) 0))])).data.toList++flat four [(ps.getD (6*n+i) plz).at_,(ps.getD (6*n+i) plz).sz]))]) (n:=1) rfl kr kr kr rfl (by simp[K.one]) 3 (cs:=#[.string (tx ((tx ((flat plL ((six ps n).take i))++be (ps.getD (6*n+i) plz).nm.size 1)).data.toList++cat [(ps.getD (6*n+i) plz).nm,(tx (replicate (72-(ps.getD (6*n+i) plz).nm.size) 0))]))]) (e:=202) kr (by simp)) ?_
  refine oL 3 rfl (show _ = #[.string (tx ((tx ((tx ((flat plL ((six ps n).take i))++be (ps.getD (6*n+i) plz).nm.size 1)).data.toList++cat [(ps.getD (6*n+i) plz).nm,(tx (replicate (72-(ps.getD (6*n+i) plz).nm.size) 0))])).data.toList++flat four [(ps.getD (6*n+i) plz).at_,(ps.getD (6*n+i) plz).sz]))]from rfl) ?_
  refine zg rfl ?_
  refine Cg (Γ':=[(20,[],iN i),(19,[],iN ((((n+1)*6)-((n*6))))),(18,[],.slice (some ⟨tb,(if 144=(n*6)then 0 else(((n*6))*3)),none⟩) (((n+1)*6)-((n*6))) (144-((n*6)))),(5,[],pT ob),(4,[],pT rs)]) ?_
  refine Rg [4,5,18,19,20] [] (fun _=>[(i6 ((i:Int)+1))]) ⟨om,trivial⟩ ?_
  refine oB 3 rfl (show _ = #[.string (tx (flat plL ((six ps n).take (i+1))))]from by rw[sh_next om,six_at om];unfold plL;simp only[tx_list,cat,List.flatMap_cons,List.flatMap_nil,List.append_nil,List.append_assoc]) ?_
  refine zG rfl (i+1) (show i+1≤6 by omega) om (Conv.mk kr) (.cons _ (.cons _ (.cons _ (cO (cO .slnil)))))
 refine Be rfl rfl (zM (z:=(.agg (bv (replicate 512 0)))) rfl kr) ?_
 rintro hb ⟨hhb,nhb⟩
 refine zg rfl ?_
 refine Cg (Γ':=[(8,[],pT hb),(5,[],pT ob),(4,[],pT rs)]) ?_
 have hi6:i=6:=by omega
 have hss:(tx (shL ps n)).size=(shL ps n).length:=qf _
 have hfl:(shL ps n++replicate (512-(shL ps n).length) 0).length=512:=sheetF_len hl hn ho
 refine oB 1 rfl (show _ = #[.string (tx (shL ps n))]from by rw[hi6,yB om];rfl) ?_
 refine yo rfl kr [cl rs (bv (replicate 512 0)) 37] ?_
 refine Ap [0] [] none (tF 1 3) (.cons _ (.cons _ (cO .slnil))) 3 (fun _=>[(512≤512)]) ⟨om,trivial⟩ ?_
 refine Au 1 rfl 2  (qm (raw:=false) (orc:=some (.agg #[.string (tx (shL ps n))])) (v:=.agg #[.string (tx (shL ps n))]) (nd:=(fun S=>[(lV S 202 ob 0 (.agg #[.string (tx (shL ps n))]))])) (fun _=>kr) ⟨(fun w1 h=>h.oload 1 rfl Tryz.underlying202 rfl (n:=1) kr rfl),trivial⟩ kr) (fun _ _=>(.cons _ (.cons _ (cO .slnil)))) ?_
 refine Au 2 rfl 1  (zr (.string (tx (shL ps n))) rfl Tryz.func115 rfl rfl kr (fun w1 _=>wString (tx (shL ps n)) w1)) (fun _ _=>(.cons _ (.cons _ (cO .slnil)))) ?_
 refine Au 3 rfl 0  (Eff.copyS rfl Tryz.underlying111 kr (b:=hb) (off:=0) (dl:=512) (c:=512) kr (s:=(tx (shL ps n))) kr 0 (cs:=(bv (replicate 512 0))) (te:=37) kr ((shL ps n).length) (by rw[hss];omega) (by rw[zsz512];omega)) (fun _ _=>(.cons _ (.cons _ (cO .slnil)))) ?_
 refine z6 kr ?_
 refine Cg (Γ':=[(8,[],pT hb),(4,[],pT rs)]) ?_
 refine oB 0 rfl (show _=(bv (shL ps n++replicate (512-(shL ps n).length) 0))from by exact hd_spl om rfl) ?_
 refine Bp 1 [(dS (.agg (bv (shL ps n++replicate (512-(shL ps n).length) 0))))] (some [4,53]) (fun S=>[(lV S 37 hb 0 (.agg (bv (shL ps n++replicate (512-(shL ps n).length) 0))))]) ⟨(fun w1 h=>h.oload 0 rfl Tryz.underlying37 rfl (n:=512) kr ((zP _).trans hfl)),trivial⟩ ?_
 refine Lu (zC (b:=rs) (off:=0) (vs:=(bv (shL ps n++replicate (512-(shL ps n).length) 0))) (n:=512) rfl kr kr kr ((zP _).trans hfl) (qF _) 2 (cs:=(bv (replicate 512 0))) (e:=37) kr (by rw[zsz512];omega)) ?_
 refine yF (congrArg (fun(xq:Array Value)=>([cl hb (bv (shL ps n++replicate (512-(shL ps n).length) 0)) 37,cl ob #[.string (tx (shL ps n))] 202,cl rs xq 37]:LO)) (show _=(bv (shL ps n++replicate (512-(shL ps n).length) 0))from yx (((zP _).trans hfl).trans zsz512.symm))) ?_
 refine zg rfl ?_
 refine Cg (Γ':=[(4,[],pT rs)]) ?_
 refine yD rfl (rs:=[.cell 4 37]) rfl [.agg (bv (shL ps n++replicate (512-(shL ps n).length) 0))] ⟨⟨_,by kernel_rfl,(fun w1 h=>h.oload 2 rfl Tryz.underlying37 rfl (n:=512) kr ((zP _).trans hfl))⟩,trivial⟩ (fun w1 hp=>?_)
 exact⟨rfl,hp.ext⟩
end
section
open K
def rb (fr:List Bool):List Value:=fr.map Value.bool
theorem rb_len (fr:List Bool):(rb fr).length=fr.length:=by simp[rb]
theorem rb_get {fr:List Bool} {i:Nat} (h:i<fr.length):(rb fr)[i]? = some (.bool (fr.getD i false)):=by simp[rb,List.getElem?_eq_getElem h]
theorem rb_one (fr:List Bool):∀v∈rb fr,one v=true:=by
 intro v hv
 obtain⟨b,_,rfl⟩:=zv.1 hv
 rfl
theorem own_zero (b:Nat):OwnOk (some (b,0,[])) 1 0 []:=⟨rfl,(fun h=>by cases h),(fun p h=>by cases h;exact⟨rfl,zD _⟩)⟩
theorem rb_src {w0 w:World} {M:List Nat} {R O:List (Nat×Obj)} (h:HP w0 M R O w) {b:Nat} {fr:List Bool} {junk:List Value} {t:TypeId} (hm:(b,Obj.cells (rb fr++junk).toArray t (0,0))∈R) {j:Nat} {v:Value} (hv:(rb fr)[j]? = some v):w.cell? ⟨b,0+j,none⟩=some v:=by
 rw[zI (h.ro _ hm),zF]
 obtain⟨hj,hx⟩:=yu.1 hv
 simp only[List.getElem?_toArray]
 rw[zJ hj,hv]
theorem cloneN (w:World) :
  Calls Tryz.prog 117 #[.slice none 0 0] w fun e w'=>e=.returned (.slice none 0 0)∧Ext [] w w':=by
 refine enter [] [] [] Tryz.func117 rfl kr (yy w) ?_
 refine Rq [0] ?_
 refine Rq [0,4] ?_
 refine Cfg.condT rfl (b:=true) kr rfl ?_
 refine Rq [2] ?_
 refine Rt [.slice none 0 0] (fun w1 hp=>?_)
 exact⟨rfl,hp.ext⟩
theorem cloneB (b cap:Nat) (fr:List Bool) (junk:List Value) (w:World) (hn:0<fr.length) (hm:fr.length≤4096) (hR:Has w [(b,.cells (rb fr++junk).toArray 4 (0,0))]) :
  Calls Tryz.prog 117 #[.slice (some ⟨b,0,none⟩) fr.length cap] w fun e w'=>∃o:K.Own,OwnOk o 1 fr.length (rb fr)∧e=.returned (.slice o.a fr.length o.c)∧Has w' (o.o 4 (rb fr))∧(∀x∈o.o 4 (rb fr),w.heap.size≤x.1)∧Ext [] w w':=by
 refine enter [] [cl b ((rb fr++junk).toArray) 4] [] Tryz.func117 rfl kr (yj hR) ?_
 refine Rq [0] ?_
 refine Rq [0,4] ?_
 refine yb rfl (b:=false) kr rfl ?_
 refine Be rfl rfl (yP (e:=4) (cells:=#[]) (parts:=#[]) rfl kr (fun _=>kr)) ?_
 rintro z ⟨hz,nz⟩
 refine Lq 1 [5,6] ?_
 refine Le (y8 rfl 1 1 Tryz.underlying149 kr (z:=.bool false) kr rfl (some (z,0,[])) (n:=0) (xs:=[]) (own_zero z) kr (b2:=b) (off2:=0) (m:=fr.length) (c2:=cap) kr (rb fr) (by rw[rb_len,jg]) (rb_one fr) [] [] rfl (fun w1 h j v hj=>rb_src h mH hj) om om) ?_
 rintro o ko
 refine Ld 1 [2] ?_
 refine Rt [sO o ((0+fr.length))] (fun w1 hp=>?_)
 have ko2:=ko
 rw[zF]at ko2
 exact⟨o,ko2,by rw[zF];rfl,fun x hx=>hp.own x (by simpa using hx),fun x hx=>(hp.mine x (by simpa using hx)).resolve_right (fun h=>by cases h),hp.ext⟩
end
section
open K
def spO (s:Nat) (f:Int) (o:K.Own) (fr:List Bool):List (Nat×Obj):=(s,.cells #[.int .i64 f,.slice (Own.a o) fr.length (Own.c o)] 151 (0,0))::Own.o 4 (rb fr) o
def inP (f:Int) (n:Nat) (p:Int):Bool:=decide (f≤p∧p<f+n)
def I64 (x:Int):Prop:=-9223372036854775808≤x∧x≤9223372036854775807
theorem place (s:Nat) (f p:Int) (o:K.Own) (fr:List Bool) (w:World) (hf:I64 f) (hpI:I64 p) (hm:fr.length≤4096) (hR:Has w [(s,.cells #[.int .i64 f,.slice (Own.a o) fr.length (Own.c o)] 151 (0,0))]) :
  Calls Tryz.prog 132 #[.pointer (some ⟨s,0,none⟩),.int .i64 p] w fun e w'=>e=.returned (.tuple #[.int .i64 (if inP f fr.length p then p-f else 0),.bool (inP f fr.length p)])∧Ext [] w w':=by
 unfold I64 at hf hpI
 refine enter [] [cl s #[.int .i64 f,sO o fr.length] 151] [] Tryz.func132 rfl kr (yj hR) ?_
 refine Rq [0,1] ?_
 refine Cfg.regD rfl kr [0,1,32] [dZ,dZ,dZ,(1,false,none),(1,false,none),(1,false,none),(1,false,none),(1,false,some (.int .i64 f)),(1,false,none),dZ,dZ,dZ,dZ,dZ,dZ,dZ,(dS (.int .i64 f)),dZ,dZ,dZ,dZ,dZ,(dS (sO o fr.length))] (Γ':=[(32,[],.bool ((decide (p<f)) || (decide ((((p%18446744073709551616)-(f%18446744073709551616))%18446744073709551616)≥((fr.length:Int)%18446744073709551616))))),(0,[],pT s),(1,[],.int .i64 p)]) (nd:=(fun S=>[((.bool false:Value)=.bool false),((.bool false:Value)=.bool false),((.bool false:Value)=.bool false),((.bool false:Value)=.bool false),((.bool false:Value)=.bool false),(cE S s 0 (.int .i64 f)),((.bool false:Value)=.bool false),((.bool (decide (p<f)):Value)=.bool false→(cE S s 0 (.int .i64 f))),((.bool (decide (p<f)):Value)=.bool false→(cE S s 1 (sO o fr.length)))])) kr kr (fun _=>kr) ⟨rfl,rfl,rfl,rfl,rfl,(rC 0 rfl rfl),rfl,(fun g0=>have q0:(¬(p<f)):=(dF (boolV g0));(rC 0 rfl rfl)),(fun g0=>have q0:(¬(p<f)):=(dF (boolV g0));(rC 0 rfl rfl)),trivial⟩ ?_
 refine zX rfl (b:=((decide (p<f)) || (decide ((((p%18446744073709551616)-(f%18446744073709551616))%18446744073709551616)≥((fr.length:Int)%18446744073709551616))))) kr (fun c1r=>?_) (fun c1r=>?_)
 ·have c1:((p<f)∨((((p%18446744073709551616)-(f%18446744073709551616))%18446744073709551616)≥((fr.length:Int)%18446744073709551616))):=((orT c1r).elim (fun h=>Or.inl (dT h)) (fun h=>Or.inr (dT h)))
  refine Rq [4,5] ?_
  refine yD rfl (rs:=[.tmp 4,.tmp 5]) rfl [.int .i64 0,.bool false] ⟨kr,by kernel_rfl,trivial⟩ (fun w1 hp=>?_)
  have hin:inP f fr.length p=false:=by
   unfold inP
   simp at c1r
   simp
   omega
  rw[hin]
  exact⟨rfl,hp.ext⟩
 have c1:((¬(p<f))∧(¬((((p%18446744073709551616)-(f%18446744073709551616))%18446744073709551616)≥((fr.length:Int)%18446744073709551616)))):=⟨(dF (orF1 c1r)),(dF (orF2 c1r))⟩
 refine Rg [4,5] [dZ,dZ,dZ,dZ,(dS (.int .i64 f))] (fun S=>[(cE S s 0 (.int .i64 f)),(i6 (p-f))]) ⟨(rC 0 rfl rfl),om,trivial⟩ ?_
 refine yD rfl (rs:=[.tmp 4,.tmp 5]) rfl [.int .i64 (p-f),.bool true] ⟨kr,by kernel_rfl,trivial⟩ (fun w1 hp=>?_)
 have hin:inP f fr.length p=true:=by
  unfold inP
  simp at c1r
  simp
  omega
 rw[hin]
 exact⟨rfl,hp.ext⟩
end
section
open K
def spC (s:Nat) (f:Int) (x:Nat×Nat×List Value) (fr:List Bool):List (Nat×Obj):=[(s,.cells #[.int .i64 f,.slice (some ⟨x.1,0,none⟩) fr.length x.2.1] 151 (0,0)),(x.1,.cells (rb fr++x.2.2).toArray 4 (0,0))]
def ra (l:List (Int×Int)) (i:Nat):Int:=(l.getD i (0,0)).1
def rl (l:List (Int×Int)) (i:Nat):Int:=(l.getD i (0,0)).2
def rcell (l:List (Int×Int)) (j:Nat):Value:=.int .i64 (if j%2=0 then ra l (j / 2)else rl l (j / 2))
theorem load_run {P:Program} {w:World} {b off:Nat} {ty:TypeId} {d:TypeDesc} {v0 v1:Value} (hu:P.underlying ty=some d) (hd:(match d with|.struct _|.array _ _=>true|_=>false)=true) (hi:(P.info? ty).map (·.size)=some 2)
  (h0:w.cell? ⟨b,off,none⟩=some v0) (h1:w.cell? ⟨b,off+1,none⟩=some v1):(loadVar ty ⟨b,off,none⟩).run P w=.ok (.agg #[v0,v1]) w:=by
 obtain⟨inf,hinf,hs⟩:=zZ.1 hi
 have h1:=K.run_loadCells (P:=P) (w:=w) (b:=b) (off:=off) (n:=2) (fun j=>if j=0 then v0 else v1) (fun j hj=>by
  match j,hj with
  | 0,_=>exact h0
  | 1,_=>exact h1)
 have h3:(isAgg ty).run P w=.ok true w:=by
  simp only[isAgg,Sem.run_bind,zx hu,Result.andThen_ok]
  cases d <;> simp_all
 have h4:(sizeOf ty).run P w=.ok 2 w:=by rw[yT hinf,hs]
 have h2:((List.range 2).map fun j=>if j=0 then v0 else v1).toArray = #[v0,v1]:=rfl
 rw[h2]at h1
 simp[loadVar,h3,h4,h1]
theorem run_at {w0 w:World} {M:List Nat} {R O:List (Nat×Obj)} (h:HP w0 M R O w) {sb off:Nat} {cs:Array Value} {te:TypeId} {fre:Nat×Nat} (hm:(sb,Obj.cells cs te fre)∈R) {l:List (Int×Int)} (hcs:∀j,j<2*l.length→cs[off+j]? = some (rcell l j)) {i:Nat} (hi:i<l.length) :
  (loadVar 117 ⟨sb,off+i*2,none⟩).run Tryz.prog w=.ok (.agg #[.int .i64 (ra l i),.int .i64 (rl l i)]) w:=by
 refine load_run Tryz.underlying117 rfl kr ?_ ?_
 ·rw[zI (h.ro _ hm),hcs (i*2) om]
  unfold rcell
  rw[if_pos om,show i*2 / 2=i by omega]
 rw[zI (h.ro _ hm),Nat.add_assoc,hcs (i*2+1) om]
 unfold rcell
 rw[if_neg om,show(i*2+1) / 2=i by omega]
def loopF (tz:Bool) (k:Nat):Nat→Nat→List Bool→Nat×List Bool
 | 0,_,nx=>(0,nx)
 | c+1,n,nx=>if nx.length≤k+n then(2,nx)else if nx.getD (k+n) false==tz then(17,nx)else loopF tz k c (n+1) (nx.set (k+n) tz)
def ql (f:Int) (nn:Nat) (tz:Bool):List (Int×Int)→List Bool→Nat×List Bool
 | [],nx=>(0,nx)
 | r::l,nx=>if r.2<1 then(2,nx)else if inP f nn r.1 then(if(loopF tz (r.1-f).toNat r.2.toNat 0 nx).1=0 then ql f nn tz l (loopF tz (r.1-f).toNat r.2.toNat 0 nx).2 else loopF tz (r.1-f).toNat r.2.toNat 0 nx) else(2,nx)
def yS (f:Int) (tz:Bool) (l:List (Int×Int)) (fr:List Bool):List Bool:=if(ql f fr.length tz l fr).1=0 then(ql f fr.length tz l fr).2 else fr
theorem turn_step {f:Int} {nn:Nat} {tz:Bool} {l:List (Int×Int)} {nx:List Bool} {i:Nat} (hi:i<l.length):ql f nn tz (l.drop i) nx=if rl l i<1 then(2,nx)else if inP f nn (ra l i) then(if(loopF tz (ra l i-f).toNat (rl l i).toNat 0 nx).1=0 then ql f nn tz (l.drop (i+1)) (loopF tz (ra l i-f).toNat (rl l i).toNat 0 nx).2 else loopF tz (ra l i-f).toNat (rl l i).toNat 0 nx) else(2,nx):=by
 rw[yn hi,ql]
 have e:l.getD i (0,0)=l[i]:=by simp[List.getElem?_eq_getElem hi]
 unfold ra rl
 rw[e]
theorem loop_step {tz:Bool} {k m n:Nat} {ny:List Bool} (h:n<m):loopF tz k (m-n) n ny=if ny.length≤k+n then(2,ny)else if ny.getD (k+n) false==tz then(17,ny)else loopF tz k (m-(n+1)) (n+1) (ny.set (k+n) tz):=by
 rw[show m-n=(m-(n+1))+1 by omega,loopF]
theorem loop_end {tz:Bool} {k m n:Nat} {ny:List Bool} (h:m≤n):loopF tz k (m-n) n ny=(0,ny):=by
 rw[show m-n=0 by omega,loopF]
theorem rb_set (ny:List Bool) (j2:List Value) {i:Nat} (h:i<ny.length) (b:Bool):(rb ny++j2).toArray.setIfInBounds i (.bool b)=(rb (ny.set i b)++j2).toArray:=by
 rw[qU,List.set_append_left _ _ (by rw[rb_len];exact h)]
 unfold rb
 rw[List.map_set]
theorem rb_cell (ny:List Bool) (j2:List Value) {i:Nat} (h:i<ny.length):(rb ny++j2).toArray[i]? = some (.bool (ny.getD i false)):=by
 rw[zo,zJ (by rw[rb_len];exact h),rb_get h]
theorem two_one {a b:Value} (h1:one a=true) (h2:one b=true):∀v∈(#[a,b]:Array Value).toList,one v=true:=by
 intro v hv
 simp at hv
 rcases hv with rfl|rfl <;> assumption
theorem turnC (s b cp:Nat) (jk:List Value) (f:Int) (fr:List Bool) (tz:Bool) (la:Option Addr) (cap:Nat) (l:List (Int×Int)) (Rl:List (Nat×Obj)) (w:World) (hf:I64 f) (hm:fr.length≤4096) (hn:0<fr.length) (hI:InS Rl la (2*l.length) (rcell l)) (hl:l.length≤maxLen) (h1:∀i,I64 (ra l i)) (h2:∀i,I64 (rl l i)) (hA:Has w (spC s f (b,cp,jk) fr)) (hd:((spC s f (b,cp,jk) fr).map (·.1)).Nodup) (hRl:Has w Rl) (hnr:∀e∈Rl,e.1∉(spC s f (b,cp,jk) fr).map (·.1)) :
  Calls Tryz.prog 110 #[.pointer (some ⟨s,0,none⟩),.bool tz,.slice la l.length cap] w fun e w'=>∃x:Nat×Nat×List Value,e=.returned (.int .i64 ((ql f fr.length tz l fr).1:Int))∧∃R1,HP w [s,b] R1 (spC s f x (yS f tz l fr)) w':=by
 unfold maxLen at hl
 unfold I64 at hf h1 h2
 refine enter [s,b] Rl [cl s #[.int .i64 f,sP b 0 fr.length cp] 151,cl b ((rb fr++jk).toArray) 4] Tryz.func110 rfl kr (HP.ofL hA hd hRl hnr) ?_
 refine Rq [0,1,2] ?_
 refine Rq [0,1,2,14] ?_
 refine yb rfl (b:=false) kr rfl ?_
 refine Bp 4 [dZ,dZ,dZ,(dS (sP b 0 fr.length cp))] (some [0,1,2,18]) (fun S=>[(cE S s 1 (sP b 0 fr.length cp))]) ⟨(oC 0 rfl rfl),trivial⟩ ?_
 refine Le (Eff.callOF 4 1 fr.length (rb fr) [] [(s,.cells #[.int .i64 f,.slice (some ⟨b,0,none⟩) fr.length cp] 151 (0,0)),(b,.cells ((rb fr++jk).toArray) 4 (0,0))] rfl rfl Tryz.func117 rfl rfl kr (fun w1 h=>cloneB b cp fr jk w1 hn hm (h.has (fun e he=>by rw[zi.1 he];exact mG 1 rfl)))) ?_
 rintro o2 ko2
 obtain⟨⟨b2,cq2,j2⟩,rfl⟩:=own_some ko2 hn
 refine yF (O':=[cl b2 ((rb fr++j2).toArray) 4,cl s #[.int .i64 f,sP b 0 fr.length cp] 151,cl b ((rb fr++jk).toArray) 4]) rfl ?_
 refine Ld 1 [0,1,2,7] ?_
 refine Rq [0,1,7,20,21,22] ?_
 refine ye rfl (ι:=Nat×List Bool) (fun(i,nx)=>[(22,[],iN i),(21,[],iN l.length),(20,[],.slice la l.length cap),(7,[],sP b2 0 fr.length cq2),(0,[],pT s),(1,[],.bool tz)]) (fun(i,nx)=>[cl b2 ((rb nx++j2).toArray) 4,cl s #[.int .i64 f,sP b 0 fr.length cp] 151,cl b ((rb fr++jk).toArray) 4]) (fun(i,nx)=>(i≤l.length)∧(nx.length=fr.length)∧(ql f fr.length tz (l.drop i) nx=ql f fr.length tz l fr)) (fun(i,nx)=>l.length-i) (0,fr) ?_ (Conv.mk kr) (cO (cO (cO .slnil))) ?_
 ·exact⟨zH _,rfl,rfl⟩
 rintro⟨i,nx⟩ ⟨hi,hnx,hT⟩
 refine Rq [0,1,7,20,21,22,23] ?_
 refine eC rfl (p:=((i:Int)<(l.length:Int))) kr (fun c2=>?_) (fun c2=>?_)
 ·obtain⟨sb,off,cs,te,fre,rfl,hmem,hcs⟩:=hI om
  refine y9 (Γ':=[(23,[],.bool (decide ((i:Int)<(l.length:Int)))),(22,[],iN i),(21,[],iN l.length),(20,[],sP sb off l.length cap),(7,[],sP b2 0 fr.length cq2),(0,[],pT s),(1,[],.bool tz)]) (Conv.mk kr) ?_
  refine Bp 2 [dZ,(dS (.agg #[.int .i64 (ra l i),.int .i64 (rl l i)]))] (some [0,1,7,20,21,22,25]) (fun S=>[(0≤(i:Int)∧(i:Int)<(l.length:Int)),(∀w1,S w1→(loadVar 117 ⟨sb,(addO off (i*2)),none⟩).run Tryz.prog w1=.ok (.agg #[.int .i64 (ra l i),.int .i64 (rl l i)]) w1)]) ⟨om,(fun w1 h=>by rw[y4];exact run_at h hmem hcs om),trivial⟩ ?_
  refine Le (zM (z:=(.agg #[.int .i64 0,.int .i64 0])) rfl kr) ?_
  rintro t9 ⟨ht9,nt9⟩
  refine Lu (zC (b:=t9) (off:=0) (vs:=#[.int .i64 (ra l i),.int .i64 (rl l i)]) (n:=2) rfl kr kr kr rfl (two_one rfl rfl) 0 (cs:=#[.int .i64 0,.int .i64 0]) (e:=117) kr (zD 2)) ?_
  refine yF (congrArg (fun(xq:Array Value)=>([cl t9 xq 117,cl b2 ((rb nx++j2).toArray) 4,cl s #[.int .i64 f,sP b 0 fr.length cp] 151,cl b ((rb fr++jk).toArray) 4]:LO)) (show _ = #[.int .i64 (ra l i),.int .i64 (rl l i)]from rfl)) ?_
  refine zg rfl ?_
  refine Cg (Γ':=[(9,[],pT t9),(22,[],iN i),(21,[],iN l.length),(20,[],sP sb off l.length cap),(7,[],sP b2 0 fr.length cq2),(0,[],pT s),(1,[],.bool tz)]) ?_
  refine Rg [0,1,7,9,20,21,22,28] [dZ,(dS (.int .i64 (rl l i)))] (fun S=>[(cE S t9 1 (.int .i64 (rl l i)))]) ⟨(oC 0 rfl rfl),trivial⟩ ?_
  refine eC rfl (p:=((rl l i)<(1:Int))) kr (fun c3=>?_) (fun c3=>?_)
  ·refine Rq [6] ?_
   refine Rt [.int .i64 2] (fun w1 hp=>?_)
   have he:(ql f fr.length tz l fr).1=2:=by rw[←hT,turn_step om,if_pos om]
   have hr:yS f tz l fr=fr:=by unfold yS;rw[he,if_neg (by decide)]
   rw[he,hr]
   exact⟨(b,cp,jk),rfl,_,hp.sub (.cons _ (.cons _ slr))⟩
  refine Bp 3 [dZ,dZ,(dS (.int .i64 (ra l i)))] (some [0,1,7,9,20,21,22,30,32]) (fun S=>[(cE S t9 0 (.int .i64 (ra l i)))]) ⟨(oC 0 rfl rfl),trivial⟩ ?_
  refine Lu (zr (.tuple #[.int .i64 (if inP f fr.length (ra l i)then ra l i-f else 0),.bool (inP f fr.length (ra l i))]) rfl Tryz.func132 rfl rfl kr (fun w1 h=>place s f (ra l i) (some (b,cp,jk)) fr w1 hf (h1 i) hm (h.has (fun e he=>by rw[zi.1 he];exact mG 2 rfl)))) ?_
  refine Ld 5 [0,1,7,9,10,11,20,21,22] ?_
  refine Rq [0,1,7,9,10,20,21,22,37] ?_
  refine zX rfl (b:=(!(inP f fr.length (ra l i)))) kr (fun c4r=>?_) (fun c4r=>?_)
  ·have c4:((inP f fr.length (ra l i))=false):=(notT c4r)
   refine Rq [6] ?_
   refine Rt [.int .i64 2] (fun w1 hp=>?_)
   have he:(ql f fr.length tz l fr).1=2:=by rw[←hT,turn_step om,if_neg om,if_neg (by simpa using c4r)]
   have hr:yS f tz l fr=fr:=by unfold yS;rw[he,if_neg (by decide)]
   rw[he,hr]
   exact⟨(b,cp,jk),rfl,_,hp.sub (.cons _ (.cons _ slr))⟩
  have c4:((inP f fr.length (ra l i))=true):=(notF c4r)
  have hin:inP f fr.length (ra l i)=true:=by simpa using c4r
  have hin2:f≤ra l i∧ra l i<f+(fr.length:Int):=by simpa [inP] using hin
  obtain⟨k0,hk0,hk1⟩:∃k0:Nat,ra l i-f=(k0:Int)∧k0<fr.length:=⟨(ra l i-f).toNat,by omega,by omega⟩
  refine sI 10 (show(if inP f fr.length (ra l i)then ra l i-f else 0)=(k0:Int) from(by rw[if_pos hin];exact hk0)) ?_
  refine Rg [0,1,7,10,20,21,22,39,40] [dZ,(dS (.int .i64 (rl l i)))] (fun S=>[(cE S t9 1 (.int .i64 (rl l i)))]) ⟨(oC 0 rfl rfl),trivial⟩ ?_
  refine ye rfl (ι:=Nat×List Bool) (fun(n,ny)=>[(40,[],iN n),(39,[],.int .i64 (rl l i)),(10,[],iN k0),(22,[],iN i),(21,[],iN l.length),(20,[],sP sb off l.length cap),(7,[],sP b2 0 fr.length cq2),(0,[],pT s),(1,[],.bool tz)]) (fun(n,ny)=>[cl b2 ((rb ny++j2).toArray) 4,cl s #[.int .i64 f,sP b 0 fr.length cp] 151,cl b ((rb fr++jk).toArray) 4]) (fun(n,ny)=>((n:Int)≤rl l i)∧(k0+n≤fr.length)∧(ny.length=fr.length)∧(loopF tz k0 ((rl l i).toNat-n) n ny=loopF tz k0 (rl l i).toNat 0 nx)) (fun(n,ny)=>(rl l i).toNat-n) (0,nx) ?_ (Conv.mk kr) (.cons _ (cO (cO (cO .slnil)))) ?_
  ·exact⟨by show((0:Nat):Int)≤_;omega,by show k0+0≤_;omega,hnx,rfl⟩
  rintro⟨n,ny⟩ ⟨hn2,hkn,hny,hL⟩
  refine Rq [0,1,7,10,20,21,22,39,40,41] ?_
  refine eC rfl (p:=((n:Int)<(rl l i))) kr (fun c5=>?_) (fun c5=>?_)
  ·refine Rq [0,1,7,10,12,20,21,22,39,40] ?_
   refine Rg [0,1,7,10,12,20,21,22,39,40,48] [] (fun _=>[(i6 ((k0:Int)+(n:Int)))]) ⟨om,trivial⟩ ?_
   refine eC rfl (p:=(((k0:Int)+(n:Int))≥(fr.length:Int))) kr (fun c6=>?_) (fun c6=>?_)
   ·refine Rq [6] ?_
    refine Rt [.int .i64 2] (fun w1 hp=>?_)
    have hx:loopF tz k0 (rl l i).toNat 0 nx=(2,ny):=by rw[←hL,loop_step (show n<(rl l i).toNat by omega),if_pos om]
    have he:(ql f fr.length tz l fr).1=2:=by rw[←hT,turn_step om,if_neg om,if_pos hin,hk0,yk,hx];rfl
    have hr:yS f tz l fr=fr:=by unfold yS;rw[he,if_neg (by decide)]
    rw[he,hr]
    exact⟨(b,cp,jk),rfl,_,hp.sub (.cons _ slr)⟩
   refine Rg [0,1,7,10,12,20,21,22,39,40,56] [dZ,dZ,dZ,dZ,dZ,(dS (.bool (ny.getD (k0+n) false)))] (fun S=>[(i6 ((k0:Int)+(n:Int))),(iL ((k0:Int)+(n:Int)) (fr.length:Int)),(cE S b2 (k0+n) (.bool (ny.getD (k0+n) false)))]) ⟨om,om,(fun w1 h=>h.ocell 0 rfl (rb_cell ny j2 om)),trivial⟩ ?_
   refine zX rfl (b:=((ny.getD (k0+n) false)==tz)) kr (fun c7r=>?_) (fun c7r=>?_)
   ·have c7:(((ny.getD (k0+n) false)==tz)=true):=c7r
    refine Rq [6] ?_
    refine Rt [.int .i64 17] (fun w1 hp=>?_)
    have hx:loopF tz k0 (rl l i).toNat 0 nx=(17,ny):=by rw[←hL,loop_step (show n<(rl l i).toNat by omega),if_neg om,if_pos c7r]
    have he:(ql f fr.length tz l fr).1=17:=by rw[←hT,turn_step om,if_neg om,if_pos hin,hk0,yk,hx];rfl
    have hr:yS f tz l fr=fr:=by unfold yS;rw[he,if_neg (by decide)]
    rw[he,hr]
    exact⟨(b,cp,jk),rfl,_,hp.sub (.cons _ slr)⟩
   have c7:(((ny.getD (k0+n) false)==tz)=false):=c7r
   refine Cfg.begL rfl ?_
   refine qL 6 [] (some [0,1,7,10,20,21,22,39,40,61,62]) (Γ':=[(62,[],.pointer (some ⟨b2,(k0+n),none⟩)),(61,[],.bool tz),(40,[],iN n),(39,[],.int .i64 (rl l i)),(10,[],iN k0),(22,[],iN i),(21,[],iN l.length),(20,[],sP sb off l.length cap),(7,[],sP b2 0 fr.length cq2),(0,[],pT s),(1,[],.bool tz)]) (nd:=(fun _=>[(i6 ((k0:Int)+(n:Int))),(iL ((k0:Int)+(n:Int)) (fr.length:Int))])) kr (fun _=>kr) ⟨om,om,trivial⟩ ?_
   refine Lu (zS (b:=b2) (off:=(k0+n)) (v:=.bool tz) rfl kr kr rfl kr 0 (cs:=(rb ny++j2).toArray) (e:=4) kr (by simp only[List.size_toArray,List.length_append,rb_len];omega)) ?_
   refine zg rfl ?_
   refine Cg (Γ':=[(40,[],iN n),(39,[],.int .i64 (rl l i)),(10,[],iN k0),(22,[],iN i),(21,[],iN l.length),(20,[],sP sb off l.length cap),(7,[],sP b2 0 fr.length cq2),(0,[],pT s),(1,[],.bool tz)]) ?_
   refine Rg [0,1,7,10,20,21,22,39,40] [] (fun _=>[(i6 ((n:Int)+1))]) ⟨om,trivial⟩ ?_
   refine zU (congrArg (fun(xq:Array Value)=>([cl b2 xq 4,cl s #[.int .i64 f,sP b 0 fr.length cp] 151,cl b ((rb fr++jk).toArray) 4]:LO)) (show _=((rb (ny.set (k0+n) tz)++j2).toArray)from rb_set ny j2 om tz)) ?_
   refine zG rfl (n+1,ny.set (k0+n) tz) ⟨by omega,by omega,by rw[yc];exact hny,by rw[←hL,loop_step (show n<(rl l i).toNat by omega),if_neg om,if_neg (by rw[c7r];simp)]⟩ (by show(rl l i).toNat-(n+1)<(rl l i).toNat-n;omega) (Conv.mk kr) (cO (cO (cO .slnil)))
  refine Rg [0,1,7,20,21,22] [] (fun _=>[(i6 ((i:Int)+1))]) ⟨om,trivial⟩ ?_
  have hd0:=loop_end (tz:=tz) (k:=k0) (ny:=ny) (show(rl l i).toNat≤n by omega)
  rw[hL]at hd0
  have hS:=turn_step (f:=f) (nn:=fr.length) (tz:=tz) (l:=l) (nx:=nx) (i:=i) om
  rw[if_neg om,if_pos hin,hk0,yk,hd0,if_pos rfl]at hS
  refine zG rfl (i+1,ny) ⟨by omega,hny,by rw[←hT];exact hS.symm⟩ (by show l.length-(i+1)<l.length-i;omega) (Conv.mk kr) (cO (cO (cO .slnil)))
 obtain rfl:i=l.length:=by omega
 rw[List.drop_length]at hT
 refine y9 (Γ':=[(21,[],iN l.length),(20,[],.slice la l.length cap),(7,[],sP b2 0 fr.length cq2),(0,[],pT s)]) (Conv.mk kr) ?_
 refine Bq 4 [66,68] ?_
 refine Lu (zS (b:=s) (off:=1) (v:=sP b2 0 fr.length cq2) rfl kr kr rfl kr 1 (cs:=#[.int .i64 f,sP b 0 fr.length cp]) (e:=151) kr (by simp)) ?_
 refine zg rfl ?_
 refine Cg (Γ':=[]) ?_
 refine Rq [6] ?_
 refine Rt [.int .i64 0] (fun w1 hp=>?_)
 have he:(ql f fr.length tz l fr).1=0:=by rw[←hT];rfl
 have hr:yS f tz l fr=nx:=by unfold yS;rw[he,if_pos rfl,←hT];rfl
 rw[he,hr]
 exact⟨(b2,cq2,j2),rfl,_,(hp.sub (O':=[(b2,_),(s,_)]) (cO (cO (.cons _ .slnil)))).perm (by unfold spC;rw[hnx];exact List.Perm.swap _ _ _)⟩
end
section
open K
def rlen (fr:List Bool) (k:Nat):Nat:=((fr.drop k).takeWhile id).length
theorem rlen_is {fr:List Bool}:∀ {n k:Nat},(∀j,j<n→fr.getD (k+j) false=true)→k+n≤fr.length→(fr.length≤k+n∨fr.getD (k+n) false=false)→rlen fr k=n:=by
 intro n
 induction n with
 | zero=>
  intro k _ hk h
  unfold rlen
  rcases qy k fr.length with hlt|hge
  ·rw[yn hlt]
   rcases h with h|h
   ·omega
   ·have hx:fr[k]=false:=by simpa [List.getD_eq_getElem?_getD,List.getElem?_eq_getElem hlt] using h
    simp[hx]
  ·rw[qe hge];rfl
 | succ n ih=>
  intro k h1 hk h2
  have hlt:k<fr.length:=by omega
  have hx:fr[k]=true:=by simpa [List.getD_eq_getElem?_getD,List.getElem?_eq_getElem hlt] using h1 0 om
  have:=ih (k:=k+1) (fun j hj=>by rw[show k+1+j=k+(j+1) by omega];exact h1 (j+1) om) om (by rw[show k+1+n=k+(n+1) by omega];exact h2)
  unfold rlen at this ⊢
  rw[yn hlt,List.takeWhile_cons,hx]
  simp[this]
def yW (fr:List Bool) (k:Nat):List (Nat×Nat):=
 if k<fr.length then(if 0<rlen fr k then[(k,rlen fr k)] else[])++yW fr (k+rlen fr k+1) else[]
termination_by fr.length-k
theorem runsAt_end {fr:List Bool} {k:Nat} (h:¬k<fr.length):yW fr k=[]:=by rw[yW,if_neg h]
theorem runsAt_some {fr:List Bool} {k n:Nat} (h:k<fr.length) (hn:rlen fr k=n) (h0:0<n):yW fr k=(k,n)::yW fr (k+n+1):=by
 rw[yW,if_pos h,hn,if_pos h0];rfl
theorem runsAt_none {fr:List Bool} {k n:Nat} (h:k<fr.length) (hn:rlen fr k=n) (h0:¬0<n):yW fr k=yW fr (k+n+1):=by
 rw[yW,if_pos h,hn,if_neg h0];rfl
theorem inA {A:List (Nat×Obj)} {x:Nat×Obj} (h:x∈A):x∈([]:List (Nat×Obj))++(A++[]):=by simpa using h
theorem fr_cell {fr:List Bool} {jk:List Value} {i:Nat} (h:i<fr.length):(rb fr++jk).toArray[i]? = some (.bool (fr.getD i false)):=rb_cell fr jk h
theorem runsIt0 (l dr tb s b cp:Nat) (fi:FuncId) (T:Array Value) (ps:Array Tmp) (assign body:Code) (jk:List Value) (f:Int) (fr:List Bool) (σ:Type) (A:σ→List (Nat×Obj)) (J:List (Nat×Nat)→σ→Prop) (s0:σ) (p:Nat×Nat→Bool) (w:World) (hf : -9223372036854775808≤f∧f+fr.length≤9223372036854775807) (hm:fr.length≤4096) (hps:ps.size=1) (hJ:J [] s0) (hA:Has w (A s0)) (hd:((A s0).map (·.1)).Nodup) (hmem:∀pre x,(∀y∈pre,p y=true)→J pre x→(∀e∈[(tb,Obj.cells #[.pointer (some ⟨s,0,none⟩)] 82 (0,0)),(s,Obj.cells #[.int .i64 f,.slice (some ⟨b,0,none⟩) fr.length cp] 151 (0,0)),(b,Obj.cells (rb fr++jk).toArray 4 (0,0))],e∈A x)∧(l,Obj.loop (rec0 fi T ps assign body dr .ready none))∈A x) (hy:∀pre x (a:Nat×Nat) rest,(∀y∈pre,p y=true)→J pre x→yW fr 0=pre++a::rest→∀w,Has w (A x)→((A x).map (·.1)).Nodup→RoundIn Fence.wide 0 Tryz.prog l fi ((ps.zip #[(fun(x:Nat×Nat)=>Value.agg #[.int .i64 (f+(x.1:Int)),.int .i64 (x.2:Int)]) a]).foldl (fun tmps (t,a)=>tmps.setIfInBounds t a) T) assign body w fun e w'=>∃y,J (pre++[a]) y∧e=.returned (.bool (p a))∧∃R1,HP w ((A x).map (·.1)) R1 (A y) w') :
  Calls Tryz.prog 129 #[.func (.yield l) #[] #[],.pointer (some ⟨tb,0,none⟩)] w fun e w'=>∃y,J (vis p (yW fr 0)) y∧e=.returned (.tuple #[])∧∃R1,HP w ((A s0).map (·.1)) R1 (A y) w':=by
 refine enter ((A s0).map (·.1)) [] ([]++(A s0++[])) Tryz.func129 rfl kr (by have h0:=HP.ofL hA hd (R:=[]) (fun e he=>by cases he) (fun e he=>by cases he);simpa using h0) ?_
 refine Rg [0,1,6] [(dS (pT s))] (fun S=>[(cE S tb 0 (pT s))]) ⟨(fun w1 h=>zI (h.own _ (inA ((hmem [] s0 (fun x hx=>by cases hx) hJ).1 _ mH)))),trivial⟩ ?_
 refine yb rfl (b:=false) kr rfl ?_
 refine Rq [0,1,3] ?_
 refine ye rfl (ι:=Nat×List (Nat×Nat)×σ) (fun(k,pre,x)=>[(3,[],iN k),(0,[],.func (.yield l) #[] #[]),(1,[],pT tb)]) (fun(k,pre,x)=>([]++(A x++[]))) (fun(k,pre,x)=>(k≤fr.length+1)∧(yW fr 0=pre++yW fr k)∧(∀x∈pre,p x=true)∧(J pre x)) (fun(k,pre,x)=>fr.length+2-k) (0,[],s0) ?_ (Conv.mk kr) slr ?_
 ·exact⟨zH _,rfl,(fun x hx=>by cases hx),hJ⟩
 rintro⟨k,pre,x⟩ ⟨hk,hR,hal,hJx⟩
 refine Rg [0,1,3,13] [dZ,(dS (pT s)),dZ,dZ,(dS (sP b 0 fr.length cp))] (fun S=>[(cE S tb 0 (pT s)),(cE S s 1 (sP b 0 fr.length cp))]) ⟨(fun w1 h=>zI (h.own _ (inA ((hmem pre x hal hJx).1 _ mH)))),(fun w1 h=>zI (h.own _ (inA ((hmem pre x hal hJx).1 _ (zf _ mH))))),trivial⟩ ?_
 refine eC rfl (p:=((k:Int)<(fr.length:Int))) kr (fun c2=>?_) (fun c2=>?_)
 ·refine Rq [0,1,3,4] ?_
  refine ye rfl (ι:=Nat) (fun(n:Nat)=>[(4,[],iN n),(3,[],iN k),(0,[],.func (.yield l) #[] #[]),(1,[],pT tb)]) (fun(n:Nat)=>([]++(A x++[]))) (fun(n:Nat)=>(k+n≤fr.length)∧(∀j,j<n→fr.getD (k+j) false=true)) (fun(n:Nat)=>fr.length-n) 0 ?_ (Conv.mk kr) slr ?_
  ·exact⟨by show k+0≤_;omega,fun j hj=>absurd hj (qx _)⟩
  rintro n ⟨hkn,hrun⟩
  refine Rg [0,1,3,4,33] [dZ,dZ,dZ,(dS (pT s)),dZ,dZ,(dS (sP b 0 fr.length cp)),dZ,dZ,dZ,(dS (pT s)),dZ,dZ,(dS (sP b 0 fr.length cp)),dZ,dZ,dZ,dZ,(dS (.bool (fr.getD (k+n) false)))] (fun S=>[(i6 ((k:Int)+(n:Int))),(cE S tb 0 (pT s)),(cE S s 1 (sP b 0 fr.length cp)),((.bool (decide (((k:Int)+(n:Int))<(fr.length:Int))):Value)=.bool true→(cE S tb 0 (pT s))),((.bool (decide (((k:Int)+(n:Int))<(fr.length:Int))):Value)=.bool true→(cE S s 1 (sP b 0 fr.length cp))),((.bool (decide (((k:Int)+(n:Int))<(fr.length:Int))):Value)=.bool true→(i6 ((k:Int)+(n:Int)))),((.bool (decide (((k:Int)+(n:Int))<(fr.length:Int))):Value)=.bool true→(iL ((k:Int)+(n:Int)) (fr.length:Int))),((.bool (decide (((k:Int)+(n:Int))<(fr.length:Int))):Value)=.bool true→(cE S b (k+n) (.bool (fr.getD (k+n) false))))]) ⟨om,(fun w1 h=>zI (h.own _ (inA ((hmem pre x hal hJx).1 _ mH)))),(fun w1 h=>zI (h.own _ (inA ((hmem pre x hal hJx).1 _ (zf _ mH))))),(fun g0=>have q0:(((k:Int)+(n:Int))<(fr.length:Int)):=(dT (boolV g0));(fun w1 h=>zI (h.own _ (inA ((hmem pre x hal hJx).1 _ mH))))),(fun g0=>have q0:(((k:Int)+(n:Int))<(fr.length:Int)):=(dT (boolV g0));(fun w1 h=>zI (h.own _ (inA ((hmem pre x hal hJx).1 _ (zf _ mH)))))),(fun g0=>have q0:(((k:Int)+(n:Int))<(fr.length:Int)):=(dT (boolV g0));om),(fun g0=>have q0:(((k:Int)+(n:Int))<(fr.length:Int)):=(dT (boolV g0));om),(fun g0=>have q0:(((k:Int)+(n:Int))<(fr.length:Int)):=(dT (boolV g0));(fun w1 h=>(zI (h.own _ (inA ((hmem pre x hal hJx).1 _ (zf _ (zf _ mH)))))).trans (fr_cell om))),trivial⟩ ?_
  refine zX rfl (b:=((decide (((k:Int)+(n:Int))<(fr.length:Int)))&&(fr.getD (k+n) false))) kr (fun c3r=>?_) (fun c3r=>?_)
  ·have c3:((((k:Int)+(n:Int))<(fr.length:Int))∧((fr.getD (k+n) false)=true)):=⟨(dT (andT1 c3r)),(andT2 c3r)⟩
   refine Rg [0,1,3,4] [] (fun _=>[(i6 ((n:Int)+1))]) ⟨om,trivial⟩ ?_
   refine zG rfl (n+1) ⟨by show k+(n+1)≤_;omega,fun j hj=>by rcases qy j n with h|h;exact hrun j h;rw[show j=n by omega];exact c3.2⟩ (by show fr.length-(n+1)<fr.length-n;omega) (Conv.mk kr) slr
  have c3:((¬(((k:Int)+(n:Int))<(fr.length:Int)))∨((fr.getD (k+n) false)=false)):=((andF c3r).elim (fun h=>Or.inl (dF h)) (fun h=>Or.inr h))
  have hlen:rlen fr k=n:=rlen_is hrun hkn (by rcases qy (k+n) fr.length with h|h;right;have hc:=c3r;simp at hc;simpa using hc om;exact .inl h)
  refine Bq 3 [0,1,3,4,38] ?_
  by_cases c4:(decide ((n:Int)>(0:Int)))=true
  ·have c4k:(decide ((n:Int)>(0:Int)))=true:=c4
   have c4q:=(dT c4k)
   have hR2:yW fr 0=pre++(k,n)::yW fr (k+(n+1)):=by rw[hR,runsAt_some om hlen om];rfl
   refine qw 38 (b:=(decide ((n:Int)>(0:Int)))) kr true c4k ?_
   refine qL 9 [(1,false,none),(1,false,some (pT s)),(1,false,none),(1,false,none),(1,false,some (.int .i64 f)),(1,false,none),(1,false,none),(1,false,none),(1,false,some (.agg #[.int .i64 (f+(k:Int)),iN n]))] (some [0,1,3,4,38,39,47]) (Γ':=[(47,[],.agg #[.int .i64 (f+(k:Int)),iN n]),(39,[],.func (.yield l) #[] #[]),(38,[],.bool true),(4,[],iN n),(3,[],iN k),(0,[],.func (.yield l) #[] #[]),(1,[],pT tb)]) (nd:=(fun S=>[((.bool true:Value)=.bool true),((.bool true:Value)=.bool true),(cE S tb 0 (pT s)),((.bool true:Value)=.bool true),((.bool true:Value)=.bool true),((.bool true:Value)=.bool true),(cE S s 0 (.int .i64 f)),((.bool true:Value)=.bool true),((.bool true:Value)=.bool true),(i6 (f+(k:Int))),((.bool true:Value)=.bool true),((.bool true:Value)=.bool true),(∀w1,S w1→(Instr.build 117 #[(0,.int .i64 (f+(k:Int))),(1,iN n)]).run Tryz.prog w1=.ok (.agg #[.int .i64 (f+(k:Int)),iN n]) w1)])) kr (fun _=>kr) ⟨rfl,rfl,(fun w1 h=>zI (h.own _ (inA ((hmem pre x hal hJx).1 _ mH)))),rfl,rfl,rfl,(fun w1 h=>zI (h.own _ (inA ((hmem pre x hal hJx).1 _ (zf _ mH))))),rfl,rfl,om,rfl,rfl,(fun _ _=>kr),trivial⟩ ?_
   refine CfgL.effI (o:=_) rfl kr kr (EffI.yield (ι:=σ) (vs:=[.agg #[.int .i64 (f+(k:Int)),iN n]]) (fun _=>.bool (p (k,n))) (A x) (fun y=>A y) (fun y=>J (pre++[(k,n)]) y) [] [] rfl rfl kr kr hps.symm (hmem pre x hal hJx).2 (fun w1 hh hdn=>hy pre x (k,n) _ hal hJx hR2 w1 hh hdn)) ?_
   rintro y hJy
   refine Lp 2 [(1,false,none)] (some [0,1,3,4,50]) (fun _=>[((.bool true:Value)=.bool true)]) ⟨rfl,trivial⟩ ?_
   refine zg rfl ?_
   refine zX rfl (b:=(!(p (k,n)))) kr (fun c5r=>?_) (fun c5r=>?_)
   ·have c5:((p (k,n))=false):=(notT c5r)
    refine yD rfl (rs:=[]) rfl [] trivial (fun w1 hp=>?_)
    have hv:vis p (yW fr 0)=pre++[(k,n)]:=by rw[hR2];exact vis_stop hal (by simpa using c5r)
    rw[hv]
    have h3:HP w ((A s0).map (·.1)) [] ([]++(A y++[])) w1:=hp
    rw[yM,zm]at h3
    exact⟨y,hJy,rfl,_,h3⟩
   have c5:((p (k,n))=true):=(notF c5r)
   refine Rg [0,1,3] [] (fun _=>[(i6 ((n:Int)+1)),(i6 ((k:Int)+((n:Int)+1)))]) ⟨om,om,trivial⟩ ?_
   refine zG rfl (k+(n+1),pre++[(k,n)],y) ⟨by omega,by rw[hR2,zO];rfl,fun x hx=>by rcases yG.1 hx with hx|hx;exact hal x hx;rw[zi.1 hx];simpa using c5r,hJy⟩ (by show fr.length+2-(k+(n+1))<fr.length+2-k;omega) (Conv.mk kr) slr
  have c4k:(decide ((n:Int)>(0:Int)))=false:=(by simpa using c4)
  have c4q:=(dF c4k)
  refine qw 38 (b:=(decide ((n:Int)>(0:Int)))) kr false c4k ?_
  refine Lp 12 [(2,false,none),(2,false,none),(2,false,none),(2,false,none),(2,false,none),(2,false,none),(2,false,none),(2,false,none),(2,false,none),(2,false,none),(2,false,none)] (some [0,1,3,4,50]) (fun _=>[((.bool false:Value)≠.bool true),((.bool false:Value)≠.bool true),((.bool false:Value)≠.bool true),((.bool false:Value)≠.bool true),((.bool false:Value)≠.bool true),((.bool false:Value)≠.bool true),((.bool false:Value)≠.bool true),((.bool false:Value)≠.bool true),((.bool false:Value)≠.bool true),((.bool false:Value)≠.bool true),((.bool false:Value)≠.bool true)]) ⟨(by simp),(by simp),(by simp),(by simp),(by simp),(by simp),(by simp),(by simp),(by simp),(by simp),(by simp),trivial⟩ ?_
  refine zg rfl ?_
  refine yb rfl (b:=false) kr rfl ?_
  refine Rg [0,1,3] [] (fun _=>[(i6 ((n:Int)+1)),(i6 ((k:Int)+((n:Int)+1)))]) ⟨om,om,trivial⟩ ?_
  refine zG rfl (k+(n+1),pre,x) ⟨by omega,by rw[hR,runsAt_none om hlen om];rfl,hal,hJx⟩ (by show fr.length+2-(k+(n+1))<fr.length+2-k;omega) (Conv.mk kr) slr
 refine Cfg.fin rfl (rs:=[]) rfl [] trivial (fun w1 hp=>?_)
 have hv:vis p (yW fr 0)=pre:=by rw[hR,runsAt_end om,zm,vis_all hal]
 rw[hv]
 have h3:HP w ((A s0).map (·.1)) [] ([]++(A x++[])) w1:=hp
 rw[yM,zm]at h3
 exact⟨x,hJx,rfl,_,h3⟩
theorem runsIt (tb s b cp:Nat) (jk:List Value) (f:Int) (fr:List Bool) (hf : -9223372036854775808≤f∧f+fr.length≤9223372036854775807) (hm:fr.length≤4096) :
  IterSpec Tryz.prog 129 #[.pointer (some ⟨tb,0,none⟩)] [(tb,Obj.cells #[.pointer (some ⟨s,0,none⟩)] 82 (0,0)),(s,Obj.cells #[.int .i64 f,.slice (some ⟨b,0,none⟩) fr.length cp] 151 (0,0)),(b,Obj.cells (rb fr++jk).toArray 4 (0,0))] (yW fr 0) (fun(x:Nat×Nat)=>Value.agg #[.int .i64 (f+(x.1:Int)),.int .i64 (x.2:Int)]):=
 fun l dr fi T ps assign body σ A J s0 p w hps hJ hA hd hmem hy=>runsIt0 l dr tb s b cp fi T ps assign body jk f fr σ A J s0 p w hf hm hps hJ hA hd hmem hy
end
section
open K
theorem runsC (s:Nat) (w:World) :
  Calls Tryz.prog 88 #[.pointer (some ⟨s,0,none⟩)] w fun e w'=>∃tb:Nat,True∧e=.returned (.func (.func 129) #[] #[.pointer (some ⟨tb,0,none⟩)])∧w.heap.size≤tb∧w'.heap[tb]? = some (.cells #[.pointer (some ⟨s,0,none⟩)] 82 (0,0))∧Ext [] w w':=by
 refine enter [] [] [] Tryz.func88 rfl kr (yy w) ?_
 refine Be rfl rfl (y7 (v:=pT s) rfl kr) ?_
 rintro tb ⟨htb,ntb⟩
 refine Ld 1 [1] ?_
 refine Rq [2] ?_
 refine Rt [.func (.func 129) #[] #[pT tb]] (fun w1 hp=>?_)
 exact⟨tb,trivial,rfl,htb,hp.own (tb,_) mH,hp.ext⟩
end
section
open K
theorem in_lt {f q:Int} {n:Nat} (h:inP f n q=true):f≤q∧q<f+(n:Int):=by simpa [inP] using h
theorem isC (s b cp:Nat) (jk:List Value) (f q:Int) (fr:List Bool) (w:World) (hf:I64 f) (hq:I64 q) (hm:fr.length≤4096) (hR:Has w (spC s f (b,cp,jk) fr)) :
  Calls Tryz.prog 98 #[.pointer (some ⟨s,0,none⟩),.int .i64 q] w fun e w'=>e=.returned (.bool (inP f fr.length q&&fr.getD (q-f).toNat false))∧Ext [] w w':=by
 refine enter [] [cl s #[.int .i64 f,sP b 0 fr.length cp] 151,cl b ((rb fr++jk).toArray) 4] [] Tryz.func98 rfl kr (yj hR) ?_
 refine Rq [0,1] ?_
 refine Bq 2 [0,8,9] ?_
 refine Lu (zr (.tuple #[.int .i64 (if inP f fr.length q then q-f else 0),.bool (inP f fr.length q)]) rfl Tryz.func132 rfl rfl kr (fun w1 h=>place s f q (some (b,cp,jk)) fr w1 hf hq hm (h.hasR (fun e he=>by rw[zi.1 he];exact mH)))) ?_
 refine Ld 5 [0,5,6] ?_
 refine Rg [4] [dZ,dZ,dZ,dZ,dZ,(dS (sP b 0 fr.length cp)),dZ,dZ,(dS (.bool (fr.getD (q-f).toNat false)))] (fun S=>[((.bool (inP f fr.length q):Value)=.bool true→(cE S s 1 (sP b 0 fr.length cp))),((.bool (inP f fr.length q):Value)=.bool true→(iL (if inP f fr.length q then q-f else 0) (fr.length:Int))),((.bool (inP f fr.length q):Value)=.bool true→(cE S b (((if inP f fr.length q then q-f else 0)).toNat) (.bool (fr.getD (q-f).toNat false))))]) ⟨(fun g0=>have q0:((inP f fr.length q)=true):=(boolV g0);(rC 0 rfl rfl)),(fun g0=>have q0:((inP f fr.length q)=true):=(boolV g0);(by have:=in_lt q0;rw[if_pos q0];omega)),(fun g0=>have q0:((inP f fr.length q)=true):=(boolV g0);(fun w1 h=>by have:=in_lt q0;rw[if_pos q0];exact h.rcell 1 rfl (rb_cell fr jk om))),trivial⟩ ?_
 refine Rt [.bool ((inP f fr.length q)&&(fr.getD (q-f).toNat false))] (fun w1 hp=>?_)
 exact⟨rfl,hp.ext⟩
theorem claimC (s b cp:Nat) (jk:List Value) (f:Int) (fr:List Bool) (la:Option Addr) (cap:Nat) (l:List (Int×Int)) (Rl:List (Nat×Obj)) (w:World) (hf:I64 f) (hm:fr.length≤4096) (hn:0<fr.length) (hI:InS Rl la (2*l.length) (rcell l)) (hl:l.length≤maxLen) (h1:∀i,I64 (ra l i)) (h2:∀i,I64 (rl l i)) (hA:Has w (spC s f (b,cp,jk) fr)) (hd:((spC s f (b,cp,jk) fr).map (·.1)).Nodup) (hRl:Has w Rl) (hnr:∀e∈Rl,e.1∉(spC s f (b,cp,jk) fr).map (·.1)) :
  Calls Tryz.prog 71 #[.pointer (some ⟨s,0,none⟩),.slice la l.length cap] w fun e w'=>∃x:Nat×Nat×List Value,e=.returned (.int .i64 ((ql f fr.length false l fr).1:Int))∧∃R1,HP w [s,b] R1 (spC s f x (yS f false l fr)) w':=by
 refine enter [s,b] Rl [cl s #[.int .i64 f,sP b 0 fr.length cp] 151,cl b ((rb fr++jk).toArray) 4] Tryz.func71 rfl kr (HP.ofL hA hd hRl hnr) ?_
 refine Rq [0,1] ?_
 refine Bq 2 [5,6] ?_
 refine Le (zY (vs:=[pT s,.bool false,.slice la l.length cap]) (fun _:Nat×Nat×List Value=>.int .i64 ((ql f fr.length false l fr).1:Int)) (spC s f (b,cp,jk) fr) (fun x=>spC s f x (yS f false l fr)) (fun _=>True) [] [] rfl rfl Tryz.func110 rfl rfl kr (fun w1 h hA1 hd1=>(turnC s b cp jk f fr false la cap l Rl w1 hf hm hn hI hl h1 h2 hA1 hd1 (h.hasR (fun e he=>he)) hnr).mono fun e w2 hx=>by obtain⟨x,he,R1,hq⟩:=hx;exact⟨x,trivial,he,R1,hq⟩)) ?_
 rintro xq -
 refine Ld 1 [4] ?_
 refine Rt [.int .i64 ((ql f fr.length false l fr).1:Int)] (fun w1 hp=>?_)
 have h3:HP w [s,b] Rl ([]++(spC s f xq (yS f false l fr)++[])) w1:=hp
 rw[yM,zm]at h3
 exact⟨xq,rfl,_,h3⟩
theorem giveC (s b cp:Nat) (jk:List Value) (f:Int) (fr:List Bool) (la:Option Addr) (cap:Nat) (l:List (Int×Int)) (Rl:List (Nat×Obj)) (w:World) (hf:I64 f) (hm:fr.length≤4096) (hn:0<fr.length) (hI:InS Rl la (2*l.length) (rcell l)) (hl:l.length≤maxLen) (h1:∀i,I64 (ra l i)) (h2:∀i,I64 (rl l i)) (hA:Has w (spC s f (b,cp,jk) fr)) (hd:((spC s f (b,cp,jk) fr).map (·.1)).Nodup) (hRl:Has w Rl) (hnr:∀e∈Rl,e.1∉(spC s f (b,cp,jk) fr).map (·.1)) :
  Calls Tryz.prog 77 #[.pointer (some ⟨s,0,none⟩),.slice la l.length cap] w fun e w'=>∃x:Nat×Nat×List Value,e=.returned (.int .i64 ((ql f fr.length true l fr).1:Int))∧∃R1,HP w [s,b] R1 (spC s f x (yS f true l fr)) w':=by
 refine enter [s,b] Rl [cl s #[.int .i64 f,sP b 0 fr.length cp] 151,cl b ((rb fr++jk).toArray) 4] Tryz.func77 rfl kr (HP.ofL hA hd hRl hnr) ?_
 refine Rq [0,1] ?_
 refine Bq 2 [5,6] ?_
 refine Le (zY (vs:=[pT s,.bool true,.slice la l.length cap]) (fun _:Nat×Nat×List Value=>.int .i64 ((ql f fr.length true l fr).1:Int)) (spC s f (b,cp,jk) fr) (fun x=>spC s f x (yS f true l fr)) (fun _=>True) [] [] rfl rfl Tryz.func110 rfl rfl kr (fun w1 h hA1 hd1=>(turnC s b cp jk f fr true la cap l Rl w1 hf hm hn hI hl h1 h2 hA1 hd1 (h.hasR (fun e he=>he)) hnr).mono fun e w2 hx=>by obtain⟨x,he,R1,hq⟩:=hx;exact⟨x,trivial,he,R1,hq⟩)) ?_
 rintro xq -
 refine Ld 1 [4] ?_
 refine Rt [.int .i64 ((ql f fr.length true l fr).1:Int)] (fun w1 hp=>?_)
 have h3:HP w [s,b] Rl ([]++(spC s f xq (yS f true l fr)++[])) w1:=hp
 rw[yM,zm]at h3
 exact⟨xq,rfl,_,h3⟩
end
section
open K
def suml (l:List (Nat×Nat)):Nat:=(l.map (·.2)).sum
theorem suml_app (a b:List (Nat×Nat)):suml (a++b)=suml a+suml b:=by simp[suml]
theorem suml_cons (a:Nat×Nat) (b:List (Nat×Nat)):suml (a::b)=a.2+suml b:=by simp[suml]
theorem rlen_le (fr:List Bool) (k:Nat):rlen fr k≤fr.length-k:=by
 unfold rlen
 refine yU (List.takeWhile_sublist _).length_le ?_
 rw[qg];exact zD _
theorem suml_le (fr:List Bool):∀k,suml (yW fr k)≤fr.length-k:=by
 intro k
 induction h:fr.length-k using Nat.strongRecOn generalizing k with
 | ind m ih=>
  subst h
  rw[yW]
  split
  ·rename_i hk
   have h1:=rlen_le fr k
   have h2:=ih (fr.length-(k+rlen fr k+1)) om (k+rlen fr k+1) rfl
   rw[suml_app]
   split
   ·rw[suml_cons];simp only[suml,List.map_nil,List.sum_nil]at h2 ⊢;omega
   ·simp only[suml,List.map_nil,List.sum_nil]at h2 ⊢;omega
  ·simp[suml]
theorem runs_in {fr:List Bool}:∀ {k:Nat} {x:Nat×Nat},x∈yW fr k→x.1+x.2≤fr.length:=by
 intro k
 induction h:fr.length-k using Nat.strongRecOn generalizing k with
 | ind m ih=>
  subst h
  intro x hx
  rw[yW]at hx
  split at hx
  ·rename_i hk
   have h1:=rlen_le fr k
   rcases yG.1 hx with hx|hx
   ·split at hx
    ·rw[zi.1 hx];simp only;omega
    ·cases hx
   ·exact ih (fr.length-(k+rlen fr k+1)) om rfl hx
  ·cases hx
theorem sp_nodup {w:World} {s:Nat} {f:Int} {x:Nat×Nat×List Value} {fr:List Bool} (h:Has w (spC s f x fr)):((spC s f x fr).map (·.1)).Nodup:=by
 have h1:=h _ mH
 have h2:=h _ (zf _ mH)
 have hne:s≠x.1:=fun e=>by
  simp only at h1 h2
  rw[e,h2]at h1
  simp at h1
 simp[spC,hne]
theorem freeC (s b cp:Nat) (jk:List Value) (f:Int) (fr:List Bool) (w:World) (hf : -9223372036854775808≤f∧f+fr.length≤9223372036854775807) (hm:fr.length≤4096) (hR:Has w (spC s f (b,cp,jk) fr)) :
  Calls Tryz.prog 47 #[.pointer (some ⟨s,0,none⟩)] w fun e w'=>e=.returned (.int .i64 (suml (yW fr 0):Int))∧Ext [] w w':=by
 refine enterM [] [cl s #[.int .i64 f,sP b 0 fr.length cp] 151,cl b ((rb fr++jk).toArray) 4] [] Tryz.func47 rfl kr (yj hR) ?_
 refine Rq [0] ?_
 refine Be rfl rfl (zM (z:=(.int .i64 0)) rfl kr) ?_
 rintro za ⟨hza,nza⟩
 refine Lu (zS (b:=za) (off:=0) (v:=.int .i64 0) rfl kr kr rfl kr 0 (cs:=#[.int .i64 0]) (e:=3) kr (by simp)) ?_
 refine zg rfl ?_
 refine Bq 1 [3,5] ?_
 refine Le (Eff.callN (fun tb=>.func (.func 129) #[] #[pT tb]) (fun tb=>tb) (fun _=>.cells #[pT s] 82 (0,0)) (fun _=>True) rfl Tryz.func88 rfl rfl kr (fun w1 h=>runsC s w1)) ?_
 rintro tb -
 refine zg rfl ?_
 refine Cg (Γ':=[(6,[],.func (.func 129) #[] #[pT tb]),(3,[],pT za)]) ?_
 refine Cfg.rangeJ rfl (caps:=#[pT tb]) kr Tryz.func129 kr rfl kr (runsIt tb s b cp jk f fr hf hm) (σ:=Nat) (fun(m:Nat)=>[cl tb #[pT s] 82,cl za #[iN m] 3]) (fun pre m=>m=suml pre) 0 rfl [cl s #[.int .i64 f,sP b 0 fr.length cp] 151,cl b ((rb fr++jk).toArray) 4] (by rfl) (fun e he=>he) (fun w1 h=>sp_nodup (x:=(b,cp,jk)) (h.hasR (fun e he=>he))) (fun(m:Nat)=>[cl tb #[pT s] 82,cl za #[iN m] 3,cl s #[.int .i64 f,sP b 0 fr.length cp] 151,cl b ((rb fr++jk).toArray) 4]) (fun _=>rfl) (fun _=>true) (fun pre x _ _ e he=>List.Sublist.subset (cO (.cons _ (cO (cO .slnil)))) he) (.ret) rfl ?_ ?_ ?_
 ·intro l ob1 ob2 w2 M2 pre m ⟨k,n⟩ rest hal hJx hit
  have hs:=suml_le fr 0
  rw[hit,suml_app,suml_cons]at hs
  have hm2:m=suml pre:=hJx
  simp only at hs
  refine⟨Nat,fun _=>True,fun(zy:Nat)=>[(4,[],pT zy),(3,[],pT za)],fun(zy:Nat)=>[cl zy #[.int .i64 (f+(k:Int)),iN n] 117,cl tb #[pT s] 82,cl za #[iN m] 3,cl s #[.int .i64 f,sP b 0 fr.length cp] 151,cl b ((rb fr++jk).toArray) 4],?_,?_⟩
  ·
   refine Be rfl rfl (zM (z:=(.agg #[.int .i64 0,.int .i64 0])) rfl kr) ?_
   rintro zy ⟨hzy,nzy⟩
   refine Lu (zC (b:=zy) (off:=0) (vs:=#[.int .i64 (f+(k:Int)),iN n]) (n:=2) rfl kr kr kr rfl (two_one rfl rfl) 0 (cs:=#[.int .i64 0,.int .i64 0]) (e:=117) kr (zD 2)) ?_
   refine yF (congrArg (fun(xq:Array Value)=>([cl zy xq 117,(l,ob1),cl tb #[pT s] 82,cl za #[iN m] 3,cl s #[.int .i64 f,sP b 0 fr.length cp] 151,cl b ((rb fr++jk).toArray) 4]:LO)) (show _ = #[.int .i64 (f+(k:Int)),iN n]from rfl)) ?_
   refine zg rfl ?_
   refine Cg (Γ':=[(4,[],pT zy),(3,[],pT za)]) ?_
   refine Cfg.permO (O':=[(l,ob1),cl zy #[.int .i64 (f+(k:Int)),iN n] 117,cl tb #[pT s] 82,cl za #[iN m] 3,cl s #[.int .i64 f,sP b 0 fr.length cp] 151,cl b ((rb fr++jk).toArray) 4]) (List.Perm.swap _ _ _) ?_
   refine Cfg.mid rfl zy trivial (Conv.mk kr) slr
  rintro zy -
  refine Bp 4 [(dS (iN m)),dZ,(dS (iN n))] (some [3,11]) (fun S=>[(cE S za 0 (iN m)),(cE S zy 1 (iN n)),(i6 ((m:Int)+(n:Int)))]) ⟨(oC 3 rfl rfl),(oC 1 rfl rfl),om,trivial⟩ ?_
  refine Lu (zS (b:=za) (off:=0) (v:=.int .i64 ((m:Int)+(n:Int))) rfl kr kr rfl kr 3 (cs:=#[iN m]) (e:=3) kr (by simp)) ?_
  refine zg rfl ?_
  refine Cg (Γ':=[]) ?_
  refine Cfg.finR rfl (fun w1 hp=>?_)
  exact⟨m+n,by rw[suml_app,←hm2,suml_cons];rfl,rfl,hp.sub (cO (.cons _ (cO (cO (cO (cO .slnil))))))⟩
 ·intro dr1 m hal hJy
  refine Rg [2] [(dS (iN m))] (fun S=>[(cE S za 0 (iN m))]) ⟨(oC 2 rfl rfl),trivial⟩ ?_
  refine Cfg.retM (O':=[cl tb #[pT s] 82,cl za #[iN m] 3]) rfl (rs:=[.tmp 2]) rfl [iN m] slr ⟨kr,trivial⟩ (fun w1 hp=>?_)
  exact⟨by rw[show m=_ from hJy];rfl,hp.ext⟩
 intro dr1 m pre ⟨k,n⟩ rest hit hal hpa hJy
 cases hpa
end
section
open K
def tkG (f:Int) (fr:List Bool) (n:Int):Option (Nat×Nat)→Int×Nat×List Bool
 | none=>(0,0,fr)
 | some r=>(f+(r.1:Int),(ql f fr.length false [(f+(r.1:Int),n)] fr).1,yS f false [(f+(r.1:Int),n)] fr)
def yr (f:Int) (fr:List Bool) (n:Int):Int×Nat×List Bool:=
 if n<1 then(0,2,fr)else match (yW fr 0).find? (fun r=>decide (n≤(r.2:Int))) with
  | none=>(0,14,fr)
  | some r=>tkG f fr n (some r)
abbrev TS:=Int×Nat×List Bool×Nat×Nat×List Value
def TJ (f:Int) (fr:List Bool) (n:Int) (b cp:Nat) (jk:List Value) (pre:List (Nat×Nat)) (z:TS):Prop:=
 (z.1,z.2.1,z.2.2.1)=tkG f fr n (pre.find? fun r=>decide (n≤(r.2:Int)))∧(pre.find? (fun r=>decide (n≤(r.2:Int)))=none→z.2.2.2=(b,cp,jk))
def tkP (n:Int) (r:Nat×Nat):Bool:=!decide (n≤(r.2:Int))
theorem tk_none {n:Int} {pre:List (Nat×Nat)} (h:∀y∈pre,tkP n y=true):pre.find? (fun r=>decide (n≤(r.2:Int)))=none:=by
 rw[List.find?_eq_none]
 intro x hx
 have:=h x hx
 simpa [tkP] using this
theorem tk_some {n:Int} {pre rest:List (Nat×Nat)} {a:Nat×Nat} (h:∀y∈pre,tkP n y=true) (ha:tkP n a=false):(pre++a::rest).find? (fun r=>decide (n≤(r.2:Int)))=some a:=by
 rw[List.find?_append,tk_none h]
 have:n≤(a.2:Int):=by simpa [tkP] using ha
 simp[this]
section
variable {f:Int} {fr:List Bool} {n:Int} {b cp:Nat} {jk:List Value} {pre:List (Nat×Nat)} {a:Nat×Nat}
theorem TJ_none {a1:Int} {e1:Nat} {f2:List Bool} {xb xc:Nat} {xj:List Value} (h:TJ f fr n b cp jk pre (a1,e1,f2,xb,xc,xj)) (hp:∀y∈pre,tkP n y=true):0=a1∧0=e1∧fr=f2∧b=xb∧cp=xc∧jk=xj:=by
 obtain⟨h1,h2⟩:=h
 rw[tk_none hp]at h1
 have h3:=h2 (tk_none hp)
 simp only[tkG,Prod.mk.injEq]at h1 h3
 exact⟨h1.1.symm,h1.2.1.symm,h1.2.2.symm,h3.1.symm,h3.2.1.symm,h3.2.2.symm⟩
theorem TJ_keep (hp:∀y∈pre,tkP n y=true):TJ f fr n b cp jk pre (0,0,fr,b,cp,jk):=⟨by rw[tk_none hp];rfl,fun _=>rfl⟩
theorem TJ_stop {x:Nat×Nat×List Value} (hp:∀y∈pre,tkP n y=true) (ha:tkP n a=false):TJ f fr n b cp jk (pre++[a]) (f+(a.1:Int),(ql f fr.length false [(f+(a.1:Int),n)] fr).1,yS f false [(f+(a.1:Int),n)] fr,x):=
 ⟨by rw[tk_some hp ha];rfl,fun h=>by rw[tk_some hp ha]at h;cases h⟩
theorem TJ_end {a1:Int} {e1:Nat} {f2:List Bool} {x:Nat×Nat×List Value} (h:TJ f fr n b cp jk (pre++[a]) (a1,e1,f2,x)) (hp:∀y∈pre,tkP n y=true) (ha:tkP n a=false):(a1,e1,f2)=tkG f fr n (some a):=by
 have h1:=h.1
 rw[tk_some hp ha]at h1
 exact h1
theorem all_snoc {p:Nat×Nat→Bool} (hp:∀y∈pre,p y=true) (ha:p a=true):∀y∈pre++[a],p y=true:=fun y hy=>by
 rcases yG.1 hy with hy|hy
 ·exact hp y hy
 rw[zi.1 hy];exact ha
end
theorem takeF_low {f:Int} {fr:List Bool} {n:Int} (h:n<1):yr f fr n=(0,2,fr):=by unfold yr;rw[if_pos h]
theorem takeF_none {f:Int} {fr:List Bool} {n:Int} (h:¬n<1) (hp:∀y∈yW fr 0,tkP n y=true):yr f fr n=(0,14,fr):=by unfold yr;rw[if_neg h,tk_none hp]
theorem takeF_some {f:Int} {fr:List Bool} {n:Int} (h:¬n<1) {pre rest:List (Nat×Nat)} {a:Nat×Nat} (hi:yW fr 0=pre++a::rest) (hp:∀y∈pre,tkP n y=true) (ha:tkP n a=false):yr f fr n=tkG f fr n (some a):=by unfold yr;rw[if_neg h,hi,tk_some hp ha]
theorem ins1 (zl t:Nat) (a n:Int):InS [(zl,.cells #[.int .i64 a,.int .i64 n] t (0,0))] (some ⟨zl,0,none⟩) (2*[(a,n)].length) (rcell [(a,n)]):=by
 intro _
 refine⟨zl,0,_,t,(0,0),rfl,mH,fun j hj=>?_⟩
 have hj2:j<2:=hj
 match j,hj2 with
 | 0,_=>rfl
 | 1,_=>rfl
theorem ra1 {a n:Int} (h:I64 a) (i:Nat):I64 (ra [(a,n)] i):=by
 cases i with
 | zero=>exact h
 | succ i=>exact⟨by simp[ra],by simp[ra]⟩
theorem rl1 {a n:Int} (h:I64 n) (i:Nat):I64 (rl [(a,n)] i):=by
 cases i with
 | zero=>exact h
 | succ i=>exact⟨by simp[rl],by simp[rl]⟩
theorem takeC (s b cp:Nat) (jk:List Value) (f:Int) (fr:List Bool) (n:Int) (w:World) (hf : -9223372036854775808≤f∧f+fr.length≤9223372036854775807) (hm:fr.length≤4096) (h0:0<fr.length) (hn:I64 n) (hA:Has w (spC s f (b,cp,jk) fr)) (hd:((spC s f (b,cp,jk) fr).map (·.1)).Nodup) :
  Calls Tryz.prog 97 #[.pointer (some ⟨s,0,none⟩),.int .i64 n] w fun e w'=>∃x,e=.returned (.tuple #[.int .i64 (yr f fr n).1,.int .i64 ((yr f fr n).2.1:Int)])∧∃R1,HP w [s,b] R1 (spC s f x (yr f fr n).2.2) w':=by
 have hf2:I64 f:=⟨hf.1,by omega⟩
 have hn2:=hn
 unfold I64 at hn2
 refine enterM [s,b] [] [cl s #[.int .i64 f,sP b 0 fr.length cp] 151,cl b ((rb fr++jk).toArray) 4] Tryz.func97 rfl kr (HP.ofL hA hd (fun e he=>by cases he) (fun e he=>by cases he)) ?_
 refine Be rfl rfl (y7 (v:=pT s) rfl kr) ?_
 rintro zs ⟨hzs,nzs⟩
 refine Le (y7 (v:=.int .i64 n) rfl kr) ?_
 rintro zn ⟨hzn,nzn⟩
 refine Le (zM (z:=(.int .i64 0)) rfl kr) ?_
 rintro za ⟨hza,nza⟩
 refine Le (zM (z:=(.int .i64 0)) rfl kr) ?_
 rintro ze ⟨hze,nze⟩
 refine zg rfl ?_
 refine Cg (Γ':=[(5,[],pT ze),(4,[],pT za),(3,[],pT zn),(2,[],pT zs)]) ?_
 refine Rg [2,3,4,5,8] [(dS (pT s))] (fun S=>[(cE S zs 0 (pT s))]) ⟨(oC 3 rfl rfl),trivial⟩ ?_
 refine yb rfl (b:=false) kr rfl ?_
 refine Rg [2,3,4,5,10] [(dS (.int .i64 n))] (fun S=>[(cE S zn 0 (.int .i64 n))]) ⟨(oC 2 rfl rfl),trivial⟩ ?_
 refine eC rfl (p:=(n<(1:Int))) kr (fun c2=>?_) (fun c2=>?_)
 ·refine Cfg.begL rfl ?_
  refine Lu (zS (b:=za) (off:=0) (v:=.int .i64 0) rfl kr kr rfl kr 1 (cs:=#[.int .i64 0]) (e:=3) kr (by simp)) ?_
  refine Lu (zS (b:=ze) (off:=0) (v:=.int .i64 2) rfl kr kr rfl kr 0 (cs:=#[.int .i64 0]) (e:=27) kr (by simp)) ?_
  refine zg rfl ?_
  refine Cg (Γ':=[(5,[],pT ze),(4,[],pT za)]) ?_
  refine Cfg.retM (O':=[cl ze (#[.int .i64 0].setIfInBounds 0 (.int .i64 2)) 27,cl za (#[.int .i64 0].setIfInBounds 0 (.int .i64 0)) 3,cl zn #[.int .i64 n] 3,cl zs #[pT s] 82,cl s #[.int .i64 f,sP b 0 fr.length cp] 151,cl b ((rb fr++jk).toArray) 4]) rfl (rs:=[.cell 4 3,.cell 5 27]) rfl [.int .i64 0,.int .i64 2] slr ⟨⟨_,by kernel_rfl,fun w1 h=>h.ovar 1 (off:=0) rfl kr rfl⟩,⟨_,by kernel_rfl,fun w1 h=>h.ovar 0 (off:=0) rfl kr rfl⟩,trivial⟩ (fun w1 hp=>?_)
  rw[takeF_low c2]
  exact⟨(b,cp,jk),rfl,_,hp.sub (.cons _ (.cons _ (.cons _ (.cons _ (cO (cO .slnil))))))⟩
 have hlow:¬n<1:=c2
 refine Bp 1 [(dS (pT s))] (some [2,3,4,5,11]) (fun S=>[(cE S zs 0 (pT s))]) ⟨(oC 3 rfl rfl),trivial⟩ ?_
 refine Le (Eff.callN (fun tb=>.func (.func 129) #[] #[pT tb]) (fun tb=>tb) (fun _=>.cells #[pT s] 82 (0,0)) (fun _=>True) rfl Tryz.func88 rfl rfl kr (fun w1 h=>runsC s w1)) ?_
 rintro tb -
 refine zg rfl ?_
 refine Cg (Γ':=[(12,[],.func (.func 129) #[] #[pT tb]),(5,[],pT ze),(4,[],pT za),(3,[],pT zn),(2,[],pT zs)]) ?_
 refine Cfg.rangeJ rfl (caps:=#[pT tb]) kr Tryz.func129 kr rfl kr (runsIt tb s b cp jk f fr hf hm) (σ:=TS) (fun(z:TS)=>[cl tb #[pT s] 82,cl ze #[iN z.2.1] 27,cl za #[.int .i64 z.1] 3,cl zn #[.int .i64 n] 3,cl zs #[pT s] 82,cl s #[.int .i64 f,sP z.2.2.2.1 0 z.2.2.1.length z.2.2.2.2.1] 151,cl z.2.2.2.1 ((rb z.2.2.1++z.2.2.2.2.2).toArray) 4]) (TJ f fr n b cp jk) (0,0,fr,b,cp,jk) (TJ_keep (fun y hy=>by cases hy)) [] (by rfl) (fun e he=>by cases he) (fun w1 h=>qX) (fun(z:TS)=>[cl tb #[pT s] 82,cl ze #[iN z.2.1] 27,cl za #[.int .i64 z.1] 3,cl zn #[.int .i64 n] 3,cl zs #[pT s] 82,cl s #[.int .i64 f,sP z.2.2.2.1 0 z.2.2.1.length z.2.2.2.2.1] 151,cl z.2.2.2.1 ((rb z.2.2.1++z.2.2.2.2.2).toArray) 4]) (fun _=>rfl) (tkP n) (fun pre x hp hx e he=>by obtain⟨a1,e1,fr2,xb,xc,xj⟩:=x;obtain⟨rfl,rfl,rfl,rfl,rfl,rfl⟩:=TJ_none hx hp;exact List.Sublist.subset (cO (.cons _ (.cons _ (.cons _ (.cons _ (cO (cO .slnil))))))) he) (.ret) rfl ?_ ?_ ?_
 ·intro l ob1 ob2 w2 M2 pre ⟨a1,e1,fr2,xb,xc,xj⟩ ⟨k,m⟩ rest hal hJx hit
  obtain⟨rfl,rfl,rfl,rfl,rfl,rfl⟩:=TJ_none hJx hal
  have hkm:=runs_in (show(k,m)∈yW fr 0 by rw[hit];simp)
  simp only at hkm
  have hfk:I64 (f+(k:Int)):=⟨by omega,by omega⟩
  refine⟨Nat,fun _=>True,fun(zy:Nat)=>[(6,[],pT zy),(5,[],pT ze),(4,[],pT za),(3,[],pT zn),(2,[],pT zs)],fun(zy:Nat)=>[cl zy #[.int .i64 (f+(k:Int)),iN m] 117,cl tb #[pT s] 82,cl ze #[.int .i64 (0:Int)] 27,cl za #[.int .i64 0] 3,cl zn #[.int .i64 n] 3,cl zs #[pT s] 82,cl s #[.int .i64 f,sP b 0 fr.length cp] 151,cl b ((rb fr++jk).toArray) 4],?_,?_⟩
  ·
   refine Be rfl rfl (zM (z:=(.agg #[.int .i64 0,.int .i64 0])) rfl kr) ?_
   rintro zy ⟨hzy,nzy⟩
   refine Lu (zC (b:=zy) (off:=0) (vs:=#[.int .i64 (f+(k:Int)),iN m]) (n:=2) rfl kr kr kr rfl (two_one rfl rfl) 0 (cs:=#[.int .i64 0,.int .i64 0]) (e:=117) kr (zD 2)) ?_
   refine yF (congrArg (fun(xq:Array Value)=>([cl zy xq 117,(l,ob1),cl tb #[pT s] 82,cl ze #[.int .i64 (0:Int)] 27,cl za #[.int .i64 0] 3,cl zn #[.int .i64 n] 3,cl zs #[pT s] 82,cl s #[.int .i64 f,sP b 0 fr.length cp] 151,cl b ((rb fr++jk).toArray) 4]:LO)) (show _ = #[.int .i64 (f+(k:Int)),iN m]from rfl)) ?_
   refine zg rfl ?_
   refine Cg (Γ':=[(6,[],pT zy),(5,[],pT ze),(4,[],pT za),(3,[],pT zn),(2,[],pT zs)]) ?_
   refine Cfg.permO (O':=[(l,ob1),cl zy #[.int .i64 (f+(k:Int)),iN m] 117,cl tb #[pT s] 82,cl ze #[.int .i64 (0:Int)] 27,cl za #[.int .i64 0] 3,cl zn #[.int .i64 n] 3,cl zs #[pT s] 82,cl s #[.int .i64 f,sP b 0 fr.length cp] 151,cl b ((rb fr++jk).toArray) 4]) (List.Perm.swap _ _ _) ?_
   refine Cfg.mid rfl zy trivial (Conv.mk kr) slr
  rintro zy -
  refine Rg [2,3,4,5,6,17] [dZ,(dS (iN m)),(dS (.int .i64 n))] (fun S=>[(cE S zy 1 (iN m)),(cE S zn 0 (.int .i64 n))]) ⟨(oC 1 rfl rfl),(oC 5 rfl rfl),trivial⟩ ?_
  refine eC rfl (p:=((m:Int)≥n)) kr (fun c3=>?_) (fun c3=>?_)
  ·refine yo rfl kr [(l,ob2),cl zy #[.int .i64 (f+(k:Int)),iN m] 117,cl tb #[pT s] 82,cl zn #[.int .i64 n] 3,cl zs #[pT s] 82] ?_
   refine Ap [0,1,2,3,4,5,6] [dZ,(dS (.int .i64 (f+(k:Int)))),(dS (pT s)),dZ,(dS (.int .i64 (f+(k:Int)))),(dS (.int .i64 n)),(dS (.agg #[.int .i64 (f+(k:Int)),.int .i64 n]))] (some [4,5,19,20,24]) (tF 7 4) (cO (cO (cO (.cons _ (.cons _ (cO (cO (.cons _ (.cons _ .slnil))))))))) 4 (fun S=>[(cE S zy 0 (.int .i64 (f+(k:Int)))),(cE S zs 0 (pT s)),(cE S zy 0 (.int .i64 (f+(k:Int)))),(cE S zn 0 (.int .i64 n)),(∀w1,S w1→(Instr.build 117 #[(0,.int .i64 (f+(k:Int))),(1,.int .i64 n)]).run Tryz.prog w1=.ok (.agg #[.int .i64 (f+(k:Int)),.int .i64 n]) w1)]) ⟨(oC 1 rfl rfl),(oC 4 rfl rfl),(oC 1 rfl rfl),(oC 3 rfl rfl),(fun _ _=>kr),trivial⟩ ?_
   refine Ae 7 rfl 3  (yR (vs:=#[.int .i64 (f+(k:Int)),.int .i64 n]) (n:=2) rfl kr Tryz.underlying114 kr (z:=(.agg #[.int .i64 0,.int .i64 0])) kr rfl (by decide) (by decide)) (fun _ _=>(.cons _ (cO (cO (cO (.cons _ (.cons _ (cO (cO (.cons _ (.cons _ .slnil))))))))))) ?_
   rintro zl ⟨hzl,nzl⟩
   refine Ae 8 rfl 2  (zY (vs:=[pT s,.slice (some ⟨zl,0,none⟩) 1 1]) (fun _:Nat×Nat×List Value=>.int .i64 ((ql f fr.length false [(f+(k:Int),n)] fr).1:Int)) (spC s f (b,cp,jk) fr) (fun x=>spC s f x (yS f false [(f+(k:Int),n)] fr)) (fun _=>True) [(zl,.cells #[.int .i64 (f+(k:Int)),.int .i64 n] 117 (0,0)),(l,ob2),(zy,.cells #[.int .i64 (f+(k:Int)),iN m] 117 (0,0)),(tb,.cells #[pT s] 82 (0,0)),(ze,.cells #[.int .i64 (0:Int)] 27 (0,0)),(za,.cells #[.int .i64 0] 3 (0,0)),(zn,.cells #[.int .i64 n] 3 (0,0)),(zs,.cells #[pT s] 82 (0,0))] [] rfl rfl Tryz.func71 rfl rfl kr (fun w1 h hA1 hd1=>(claimC s b cp jk f fr (some ⟨zl,0,none⟩) 1 [(f+(k:Int),n)] [(zl,.cells #[.int .i64 (f+(k:Int)),.int .i64 n] 117 (0,0))] w1 hf2 hm h0 (ins1 zl 117 (f+(k:Int)) n) (by show 1≤maxLen;decide) (ra1 hfk) (rl1 hn) hA1 hd1 (h.has (fun e he=>by rw[zi.1 he];exact mG 0 rfl)) (fun e he=>by rw[zi.1 he];simp only[spC,List.map_cons,List.map_nil,List.mem_cons,List.not_mem_nil,or_false,not_or];exact⟨h.ne 0 8 rfl rfl (by decide),h.ne 0 9 rfl rfl (by decide)⟩)).mono fun e w2 hx=>by obtain⟨x,he,R1,hq⟩:=hx;exact⟨x,trivial,he,R1,hq⟩)) (fun _ _=>(.cons _ (.cons_cons _ (.cons_cons _ (.cons_cons _ (.cons _ (.cons _ (.cons_cons _ (.cons_cons _ (.cons _ (.cons _ .slnil))))))))))) ?_
   rintro⟨xb,xc,xj⟩ -
   refine Au 9 rfl 1  (zS (b:=za) (off:=0) (v:=.int .i64 (f+(k:Int))) rfl kr kr rfl kr 5 (cs:=#[.int .i64 0]) (e:=3) kr (by simp)) (fun _ _=>(.cons _ (cO (cO (cO (.cons _ (.cons _ (cO (cO (.cons _ (.cons _ .slnil))))))))))) ?_
   refine Au 10 rfl 0  (zS (b:=ze) (off:=0) (v:=.int .i64 ((ql f fr.length false [(f+(k:Int),n)] fr).1:Int)) rfl kr kr rfl kr 4 (cs:=#[.int .i64 (0:Int)]) (e:=27) kr (by simp)) (fun _ _=>(.cons _ (cO (cO (cO (.cons _ (.cons _ (cO (cO (.cons _ (.cons _ .slnil))))))))))) ?_
   refine z6 kr ?_
   refine Cg (Γ':=[(5,[],pT ze),(4,[],pT za)]) ?_
   refine Cfg.retR rfl (fun w1 hp=>?_)
   have hpa:tkP n (k,m)=false:=by simp only[tkP];simpa using c3
   exact⟨(f+(k:Int),(ql f fr.length false [(f+(k:Int),n)] fr).1,yS f false [(f+(k:Int),n)] fr,xb,xc,xj),TJ_stop hal hpa,by rw[if_neg (by rw[hpa];decide)],hp.sub (.cons _ (cO (.cons _ (cO (cO (cO (cO (cO (cO (cO .slnil))))))))))⟩
  refine Cfg.finR rfl (fun w1 hp=>?_)
  have hpa:tkP n (k,m)=true:=by simp only[tkP];simpa using c3
  exact⟨(0,0,fr,b,cp,jk),TJ_keep (all_snoc hal hpa),by rw[if_pos hpa],hp.sub (cO (.cons _ (cO (cO (cO (cO (cO (cO (cO .slnil)))))))))⟩
 ·intro dr1 ⟨a1,e1,fr2,xb,xc,xj⟩ hal hJy
  obtain⟨rfl,rfl,rfl,rfl,rfl,rfl⟩:=TJ_none hJy hal
  have hT:=takeF_none (f:=f) hlow hal
  refine Cfg.begL rfl ?_
  refine Lu (zS (b:=za) (off:=0) (v:=.int .i64 0) rfl kr kr rfl kr 3 (cs:=#[.int .i64 0]) (e:=3) kr (by simp)) ?_
  refine Lu (zS (b:=ze) (off:=0) (v:=.int .i64 14) rfl kr kr rfl kr 2 (cs:=#[.int .i64 (0:Int)]) (e:=27) kr (by simp)) ?_
  refine zg rfl ?_
  refine Cg (Γ':=[(5,[],pT ze),(4,[],pT za)]) ?_
  refine Cfg.retM (O':=[cl tb #[pT s] 82,cl ze (#[.int .i64 (0:Int)].setIfInBounds 0 (.int .i64 14)) 27,cl za (#[.int .i64 0].setIfInBounds 0 (.int .i64 0)) 3,cl zn #[.int .i64 n] 3,cl zs #[pT s] 82,cl s #[.int .i64 f,sP b 0 fr.length cp] 151,cl b ((rb fr++jk).toArray) 4]) rfl (rs:=[.cell 4 3,.cell 5 27]) rfl [.int .i64 0,.int .i64 14] slr ⟨⟨_,by kernel_rfl,fun w1 h=>h.ovar 2 (off:=0) rfl kr rfl⟩,⟨_,by kernel_rfl,fun w1 h=>h.ovar 1 (off:=0) rfl kr rfl⟩,trivial⟩ (fun w1 hp=>?_)
  rw[hT]
  exact⟨(b,cp,jk),rfl,_,hp.sub (.cons _ (.cons _ (.cons _ (.cons _ (.cons _ (cO (cO .slnil)))))))⟩
 intro dr1 ⟨a1,e1,fr2,xb,xc,xj⟩ pre ⟨k,m⟩ rest hit hal hpa hJy
 have he:=TJ_end hJy hal hpa
 have hT:=takeF_some (f:=f) hlow hit hal hpa
 rw[←he]at hT
 refine Cfg.retM (O':=[cl tb #[pT s] 82,cl ze #[iN e1] 27,cl za #[.int .i64 a1] 3,cl zn #[.int .i64 n] 3,cl zs #[pT s] 82,cl s #[.int .i64 f,sP xb 0 fr2.length xc] 151,cl xb ((rb fr2++xj).toArray) 4]) rfl (rs:=[.cell 4 3,.cell 5 27]) rfl [.int .i64 a1,iN e1] slr ⟨⟨_,by kernel_rfl,fun w1 h=>h.ovar 2 (off:=0) rfl kr rfl⟩,⟨_,by kernel_rfl,fun w1 h=>h.ovar 1 (off:=0) rfl kr rfl⟩,trivial⟩ (fun w1 hp=>?_)
 rw[hT]
 exact⟨(xb,xc,xj),rfl,_,hp.sub (.cons _ (.cons _ (.cons _ (.cons _ (.cons _ (cO (cO .slnil)))))))⟩
end
section
open K
theorem run_mkB {P:Program} {w:World} {t e:TypeId} {k:IntKind} {n:Nat} {inf:TypeInfo} (hu:P.underlying t=some (.slice e)) (hinf:P.info? e=some inf) (hb:inf.bytes=1) (hs:inf.size=1) (hz:inf.zero=some (.bool false)) (h0:0<n) (hn:n≤4096) :
  (Instr.makeSlice t (.int k (n:Int)) (.int k (n:Int))).run P w=.ok (.slice (some ⟨w.heap.size,0,none⟩) n n) (w.alloc (.cells (rb (replicate n false)).toArray e (0,0))):=by
 have w1:IntKind.i64.wrap (n:Int)=(n:Int):=wrap_in (by simp[lo,hi];omega)
 have c1:¬((n:Int)<0):=by omega
 have c2:¬((inf.bytes:Int)*(n:Int)>2^48):=by rw[hb];omega
 have c4:¬((n:Int)>(n:Int)):=by omega
 have hti:(typeInfo e).run P w=.ok inf w:=by simp[typeInfo,program,Sem.run,hinf]
 have har:(askRoom ((n:Int).toNat*inf.bytes)).run P w=.ok () w:=by
  unfold askRoom
  split <;> rfl
 have hzv:(zeroValue e).run P w=.ok (.bool false) w:=by simp[zeroValue,typeInfo,program,Sem.run,hinf,hz]
 have hrow:(Array.range n).map (fun x=>(#[Value.bool false]:Array Value)[x%1]!)=(rb (replicate n false)).toArray:=by
  apply Array.ext
  ·simp[rb]
  ·intro i h1 h2
   simp[rb,Nat.mod_one]
 simp only[Instr.makeSlice,Sem.run_bind,zx hu,Result.andThen_ok,asInt,asIntOf,Sem.run_pure,hti,w1,c1,c2,c4,decide_false,Bool.or_self,Bool.false_eq_true,if_false,har,yT hinf]
 rw[yk,hs,jg,if_neg om]
 simp only[Sem.run_bind,hzv,Result.andThen_ok,Sem.run_pure,Value.cells]
 rw[show(#[Value.bool false]:Array Value).size=1 from rfl,hrow]
 simp[newRow,newObj,Sem.run]
end
section
open K
def tf (N k:Nat):List Bool:=replicate k true++replicate (N-k) false
theorem tf_len {N k:Nat} (h:k≤N):(tf N k).length=N:=by simp[tf];omega
theorem tf_zero (N:Nat):replicate N false=tf N 0:=by simp[tf]
theorem tf_all (N:Nat):tf N N=replicate N true:=by simp[tf]
theorem tf_set {N k:Nat} (h:k<N):(tf N k).set k true=tf N (k+1):=by
 unfold tf
 rw[qI _ _ (by simp)]
 rw[show N-k=(N-(k+1))+1 by omega,List.replicate_succ,zk,qH,List.set_cons_zero,List.replicate_succ' (n:=k),zO]
 rfl
theorem mkB2 {P:Program} {w:World} {t e:TypeId} {k:IntKind} {n:Nat} (hu:P.underlying t=some (.slice e)) (hi:(P.info? e).map (fun i=>(i.bytes,i.size,i.zero))=some (1,1,some (.bool false))) (h0:0<n) (hn:n≤4096) :
  (Instr.makeSlice t (.int k (n:Int)) (.int k (n:Int))).run P w=.ok (.slice (some ⟨w.heap.size,0,none⟩) n n) (w.alloc (.cells (rb (replicate n false)).toArray e (0,0))):=by
 obtain⟨inf,hinf,he⟩:=zZ.1 hi
 simp only[Prod.mk.injEq]at he
 exact run_mkB hu hinf he.1 he.2.1 he.2.2 h0 hn
theorem minI2 {C:Cx} {R O:List (Nat×Obj)} {Γ:Env} {op:Oper} {x y:Operand} {tys:Array TypeId} {k:IntKind} {a b:Int} (c:Int) (hc:(if b<a then b else a)=c) (ho:op.op=.call ⟨.builtin .min,#[x,y],tys⟩) (hx:opd Γ [] x=some (.int k a)) (hy:opd Γ [] y=some (.int k b)):Eff C R O Γ op Unit (fun _=>.int k c) (fun _=>O) (fun _=>True):=by
 subst hc;exact Eff.minI ho hx hy
theorem K.HP.conv {w0 w:World} {M:List Nat} {R O O':List (Nat×Obj)} (h:HP w0 M R O w) (e:O=O'):HP w0 M R O' w:=by rw[←e];exact h
theorem newC (f t:Int) (N:Nat) (w:World) (hf:I64 f) (ht:I64 t) (hlt:f<t) (hN:N=min (t-f).toNat 4096) :
  Calls Tryz.prog 32 #[.int .i64 f,.int .i64 t] w fun e w'=>∃x:Nat×Nat,e=.returned (.pointer (some ⟨x.1,0,none⟩))∧∃R1,HP w [] R1 (spC x.1 f (x.2,N,[]) (replicate N true)) w':=by
 unfold I64 at hf ht
 refine enter [] [] [] Tryz.func32 rfl kr (yy w) ?_
 refine Rq [0,1] ?_
 refine Bp 2 [dZ,(dS (.agg #[.int .i64 f,.slice none 0 0]))] (some [0,1,9]) (fun S=>[(∀w1,S w1→(Instr.build 151 #[(0,.int .i64 f)]).run Tryz.prog w1=.ok (.agg #[.int .i64 f,.slice none 0 0]) w1)]) ⟨(fun _ _=>kr),trivial⟩ ?_
 refine Le (y7 (v:=.agg #[.int .i64 f,.slice none 0 0]) rfl kr) ?_
 rintro s ⟨hs,ns⟩
 refine Ld 1 [0,1,5] ?_
 refine Rq [0,1,5,13] ?_
 refine yb rfl (b:=(decide (t≤f))) kr (decide_eq_false om) ?_
 refine Rq [5,6] ?_
 refine Bq 2 [5,20,21] ?_
 refine Lu (minI2 (k:=.u64) (a:=(((t%18446744073709551616)-(f%18446744073709551616))%18446744073709551616)) (b:=4096) (N:Int) (by split <;> omega) rfl kr kr) ?_
 refine Le (Eff.makeRow (e:=4) (n:=N) (cells:=(rb (replicate N false)).toArray) (v1:=.int .u64 (N:Int)) (v2:=.int .u64 (N:Int)) rfl kr kr (fun w1=>mkB2 (P:=Tryz.prog) (k:=.u64) Tryz.underlying149 kr om om)) ?_
 rintro b ⟨hb,nb⟩
 refine Lq 2 [5,23,25] ?_
 refine Lu (zS (b:=s) (off:=1) (v:=sP b 0 N N) rfl kr kr rfl kr 1 (cs:=#[.int .i64 f,.slice none 0 0]) (e:=151) kr (by simp)) ?_
 refine zg rfl ?_
 refine Cg (Γ':=[(5,[],pT s)]) ?_
 refine Rg [5,30,31] [dZ,dZ,dZ,(dS (sP b 0 N N))] (fun S=>[(cE S s 1 (sP b 0 N N))]) ⟨(oC 1 rfl rfl),trivial⟩ ?_
 refine oB 0 rfl (show _=((rb (tf N 0)++[]).toArray)from by rw[zm,tf_zero]) ?_
 refine ye rfl (ι:=Nat) (fun(k:Nat)=>[(31,[],iN k),(30,[],iN N),(5,[],pT s)]) (fun(k:Nat)=>[cl b ((rb (tf N k)++[]).toArray) 4,cl s ((#[.int .i64 f,.slice none 0 0]:Array Value).setIfInBounds 1 (sP b 0 N N)) 151]) (fun(k:Nat)=>(k≤N)) (fun(k:Nat)=>N-k) 0 ?_ (Conv.mk kr) (cO (cO .slnil)) ?_
 ·exact zH _
 rintro k hk
 refine Rq [5,30,31,32] ?_
 refine eC rfl (p:=((k:Int)<(N:Int))) kr (fun c2=>?_) (fun c2=>?_)
 ·refine Rq [5,7,30,31] ?_
  refine Bp 6 [dZ,dZ,dZ,(dS (sP b 0 N N))] (some [5,30,31,39]) (fun S=>[(cE S s 1 (sP b 0 N N)),(iL (k:Int) (N:Int))]) ⟨(oC 1 rfl rfl),om,trivial⟩ ?_
  refine Lu (zS (b:=b) (off:=k) (v:=.bool true) rfl kr kr rfl kr 0 (cs:=(rb (tf N k)++[]).toArray) (e:=4) kr (by simp only[List.size_toArray,List.length_append,rb_len,tf_len (show k≤N by omega)];simp only[List.length_nil];omega)) ?_
  refine zg rfl ?_
  refine Cg (Γ':=[(31,[],iN k),(30,[],iN N),(5,[],pT s)]) ?_
  refine Rg [5,30,31] [] (fun _=>[(i6 ((k:Int)+1))]) ⟨om,trivial⟩ ?_
  refine oB 0 rfl (show _=((rb (tf N (k+1))++[]).toArray)from by rw[rb_set _ _ (by rw[tf_len om];omega),tf_set om]) ?_
  refine zG rfl (k+1) (by show k+1≤N;omega) (by show N-(k+1)<N-k;omega) (Conv.mk kr) (cO (cO .slnil))
 refine Rq [4] ?_
 refine Rt [pT s] (fun w1 hp=>?_)
 obtain rfl:k=N:=by omega
 rw[tf_all]at hp
 have hl:(replicate k true).length=k:=zk
 refine⟨(s,b),rfl,_,(hp.perm (List.Perm.swap _ _ _)).conv ?_⟩
 unfold spC
 rw[hl]
 rfl
theorem newE (f t:Int) (w:World) (hle:t≤f) :
  Calls Tryz.prog 32 #[.int .i64 f,.int .i64 t] w fun e w'=>∃s:Nat,e=.returned (.pointer (some ⟨s,0,none⟩))∧∃R1,HP w [] R1 [(s,.cells #[.int .i64 f,.slice none 0 0] 151 (0,0))] w':=by
 refine enter [] [] [] Tryz.func32 rfl kr (yy w) ?_
 refine Rq [0,1] ?_
 refine Bp 2 [dZ,(dS (.agg #[.int .i64 f,.slice none 0 0]))] (some [0,1,9]) (fun S=>[(∀w1,S w1→(Instr.build 151 #[(0,.int .i64 f)]).run Tryz.prog w1=.ok (.agg #[.int .i64 f,.slice none 0 0]) w1)]) ⟨(fun _ _=>kr),trivial⟩ ?_
 refine Le (y7 (v:=.agg #[.int .i64 f,.slice none 0 0]) rfl kr) ?_
 rintro s ⟨hs,ns⟩
 refine Ld 1 [0,1,5] ?_
 refine Rq [0,1,5,13] ?_
 refine Cfg.condT rfl (b:=(decide (t≤f))) kr (decide_eq_true om) ?_
 refine Rq [4] ?_
 refine Rt [pT s] (fun w1 hp=>?_)
 exact⟨s,rfl,_,hp⟩
end
section
open K
theorem inE {f p:Int}:inP f ([]:List Bool).length p=false:=by unfold inP;simp
theorem inE0 {f p:Int}:inP f 0 p=false:=inE
theorem itE (tb s l:Nat) (f:Int) (w:World) (hR:Has w [(tb,.cells #[.pointer (some ⟨s,0,none⟩)] 82 (0,0)),(s,.cells #[.int .i64 f,.slice none 0 0] 151 (0,0))]) :
  Calls Tryz.prog 129 #[.func (.yield l) #[] #[],.pointer (some ⟨tb,0,none⟩)] w fun e w'=>e=.returned (.tuple #[])∧Ext [] w w':=by
 refine enter [] [cl tb #[pT s] 82,cl s #[.int .i64 f,.slice none 0 0] 151] [] Tryz.func129 rfl kr (yj hR) ?_
 refine Rg [0,1,6] [(dS (pT s))] (fun S=>[(cE S tb 0 (pT s))]) ⟨(rC 0 rfl rfl),trivial⟩ ?_
 refine yb rfl (b:=false) kr rfl ?_
 refine Rq [0,1,3] ?_
 refine ye rfl (ι:=Nat) (fun(k:Nat)=>[(3,[],iN k),(0,[],.func (.yield l) #[] #[]),(1,[],pT tb)]) (fun(k:Nat)=>[]) (fun(k:Nat)=>True) (fun(k:Nat)=>0) 0 ?_ (Conv.mk kr) .slnil ?_
 ·trivial
 rintro k -
 refine Rg [0,1,3,13] [dZ,(dS (pT s)),dZ,dZ,(dS (.slice none 0 0))] (fun S=>[(cE S tb 0 (pT s)),(cE S s 1 (.slice none 0 0))]) ⟨(rC 0 rfl rfl),(rC 1 rfl rfl),trivial⟩ ?_
 refine yb rfl (b:=(decide ((k:Int)<(0:Int)))) kr (decide_eq_false om) ?_
 refine Cfg.fin rfl (rs:=[]) rfl [] trivial (fun w1 hp=>?_)
 exact⟨rfl,hp.ext⟩
theorem runsE (tb s:Nat) (f:Int):IterSpec Tryz.prog 129 #[.pointer (some ⟨tb,0,none⟩)] [(tb,.cells #[.pointer (some ⟨s,0,none⟩)] 82 (0,0)),(s,.cells #[.int .i64 f,.slice none 0 0] 151 (0,0))] ([]:List (Nat×Nat)) (fun(x:Nat×Nat)=>Value.agg #[.int .i64 (f+(x.1:Int)),.int .i64 (x.2:Int)]):=IterSpec.none fun l w h=>itE tb s l f w h
theorem freeE (s:Nat) (f:Int) (w:World) (hR:Has w [(s,.cells #[.int .i64 f,.slice none 0 0] 151 (0,0))]) :
  Calls Tryz.prog 47 #[.pointer (some ⟨s,0,none⟩)] w fun e w'=>e=.returned (.int .i64 0)∧Ext [] w w':=by
 refine enterM [] [cl s #[.int .i64 f,.slice none 0 0] 151] [] Tryz.func47 rfl kr (yj hR) ?_
 refine Rq [0] ?_
 refine Be rfl rfl (zM (z:=(.int .i64 0)) rfl kr) ?_
 rintro za ⟨hza,nza⟩
 refine Lu (zS (b:=za) (off:=0) (v:=.int .i64 0) rfl kr kr rfl kr 0 (cs:=#[.int .i64 0]) (e:=3) kr (by simp)) ?_
 refine zg rfl ?_
 refine Bq 1 [3,5] ?_
 refine Le (Eff.callN (fun tb=>.func (.func 129) #[] #[pT tb]) (fun tb=>tb) (fun _=>.cells #[pT s] 82 (0,0)) (fun _=>True) rfl Tryz.func88 rfl rfl kr (fun w1 h=>runsC s w1)) ?_
 rintro tb -
 refine zg rfl ?_
 refine Cg (Γ':=[(6,[],.func (.func 129) #[] #[pT tb]),(3,[],pT za)]) ?_
 refine Cfg.rangeJ rfl (caps:=#[pT tb]) kr Tryz.func129 kr rfl kr (runsE tb s f) (σ:=Unit) (fun(_:Unit)=>[cl tb #[pT s] 82,cl za #[.int .i64 0] 3]) (fun _ _=>True) () trivial [cl s #[.int .i64 f,.slice none 0 0] 151] (by rfl) (fun e he=>he) (fun w1 h=>by simp) (fun(_:Unit)=>[cl tb #[pT s] 82,cl za #[.int .i64 0] 3,cl s #[.int .i64 f,.slice none 0 0] 151]) (fun _=>rfl) (fun _=>true) (fun pre x _ _ e he=>List.Sublist.subset (cO (.cons _ (cO .slnil))) he) (.ret) rfl ?_ ?_ ?_
 ·intro l ob1 ob2 w2 M2 pre _ ⟨k,n⟩ rest hal hJx hit
  simp at hit
 ·intro dr1 _ hal hJy
  refine Rg [2] [(dS (.int .i64 0))] (fun S=>[(cE S za 0 (.int .i64 0))]) ⟨(oC 2 rfl rfl),trivial⟩ ?_
  refine Cfg.retM (O':=[cl tb #[pT s] 82,cl za #[.int .i64 0] 3]) rfl (rs:=[.tmp 2]) rfl [.int .i64 0] slr ⟨kr,trivial⟩ (fun w1 hp=>?_)
  exact⟨rfl,hp.ext⟩
 intro dr1 _ pre ⟨k,n⟩ rest hit hal hpa hJy
 cases hpa
theorem takeE (s:Nat) (f n:Int) (w:World) (hn:I64 n) (hA:Has w [(s,.cells #[.int .i64 f,.slice none 0 0] 151 (0,0))]) :
  Calls Tryz.prog 97 #[.pointer (some ⟨s,0,none⟩),.int .i64 n] w fun e w'=>e=.returned (.tuple #[.int .i64 0,.int .i64 (if n<1 then 2 else 14)])∧∃R1,HP w [s] R1 [(s,.cells #[.int .i64 f,.slice none 0 0] 151 (0,0))] w':=by
 have hn2:=hn
 unfold I64 at hn2
 refine enterM [s] [] [cl s #[.int .i64 f,.slice none 0 0] 151] Tryz.func97 rfl kr (HP.ofL hA (by simp) (fun e he=>by cases he) (fun e he=>by cases he)) ?_
 refine Be rfl rfl (y7 (v:=pT s) rfl kr) ?_
 rintro zs ⟨hzs,nzs⟩
 refine Le (y7 (v:=.int .i64 n) rfl kr) ?_
 rintro zn ⟨hzn,nzn⟩
 refine Le (zM (z:=(.int .i64 0)) rfl kr) ?_
 rintro za ⟨hza,nza⟩
 refine Le (zM (z:=(.int .i64 0)) rfl kr) ?_
 rintro ze ⟨hze,nze⟩
 refine zg rfl ?_
 refine Cg (Γ':=[(5,[],pT ze),(4,[],pT za),(3,[],pT zn),(2,[],pT zs)]) ?_
 refine Rg [2,3,4,5,8] [(dS (pT s))] (fun S=>[(cE S zs 0 (pT s))]) ⟨(oC 3 rfl rfl),trivial⟩ ?_
 refine yb rfl (b:=false) kr rfl ?_
 refine Rg [2,3,4,5,10] [(dS (.int .i64 n))] (fun S=>[(cE S zn 0 (.int .i64 n))]) ⟨(oC 2 rfl rfl),trivial⟩ ?_
 refine eC rfl (p:=(n<(1:Int))) kr (fun c2=>?_) (fun c2=>?_)
 ·refine Cfg.begL rfl ?_
  refine Lu (zS (b:=za) (off:=0) (v:=.int .i64 0) rfl kr kr rfl kr 1 (cs:=#[.int .i64 0]) (e:=3) kr (by simp)) ?_
  refine Lu (zS (b:=ze) (off:=0) (v:=.int .i64 2) rfl kr kr rfl kr 0 (cs:=#[.int .i64 0]) (e:=27) kr (by simp)) ?_
  refine zg rfl ?_
  refine Cg (Γ':=[(5,[],pT ze),(4,[],pT za)]) ?_
  refine Cfg.retM (O':=[cl ze (#[.int .i64 0].setIfInBounds 0 (.int .i64 2)) 27,cl za (#[.int .i64 0].setIfInBounds 0 (.int .i64 0)) 3,cl zn #[.int .i64 n] 3,cl zs #[pT s] 82,cl s #[.int .i64 f,.slice none 0 0] 151]) rfl (rs:=[.cell 4 3,.cell 5 27]) rfl [.int .i64 0,.int .i64 2] slr ⟨⟨_,by kernel_rfl,fun w1 h=>h.ovar 1 (off:=0) rfl kr rfl⟩,⟨_,by kernel_rfl,fun w1 h=>h.ovar 0 (off:=0) rfl kr rfl⟩,trivial⟩ (fun w1 hp=>?_)
  exact⟨by rw[if_pos c2];rfl,_,hp.sub (.cons _ (.cons _ (.cons _ (.cons _ (cO .slnil)))))⟩
 have hlow:¬n<1:=c2
 refine Bp 1 [(dS (pT s))] (some [2,3,4,5,11]) (fun S=>[(cE S zs 0 (pT s))]) ⟨(oC 3 rfl rfl),trivial⟩ ?_
 refine Le (Eff.callN (fun tb=>.func (.func 129) #[] #[pT tb]) (fun tb=>tb) (fun _=>.cells #[pT s] 82 (0,0)) (fun _=>True) rfl Tryz.func88 rfl rfl kr (fun w1 h=>runsC s w1)) ?_
 rintro tb -
 refine zg rfl ?_
 refine Cg (Γ':=[(12,[],.func (.func 129) #[] #[pT tb]),(5,[],pT ze),(4,[],pT za),(3,[],pT zn),(2,[],pT zs)]) ?_
 refine Cfg.rangeJ rfl (caps:=#[pT tb]) kr Tryz.func129 kr rfl kr (runsE tb s f) (σ:=Unit) (fun(_:Unit)=>[cl tb #[pT s] 82,cl ze #[.int .i64 0] 27,cl za #[.int .i64 0] 3,cl zn #[.int .i64 n] 3,cl zs #[pT s] 82,cl s #[.int .i64 f,.slice none 0 0] 151]) (fun _ _=>True) () trivial [] (by rfl) (fun e he=>by cases he) (fun w1 h=>qX) (fun(_:Unit)=>[cl tb #[pT s] 82,cl ze #[.int .i64 0] 27,cl za #[.int .i64 0] 3,cl zn #[.int .i64 n] 3,cl zs #[pT s] 82,cl s #[.int .i64 f,.slice none 0 0] 151]) (fun _=>rfl) (fun _=>true) (fun pre x _ _ e he=>List.Sublist.subset (cO (.cons _ (.cons _ (.cons _ (.cons _ (cO .slnil)))))) he) (.ret) rfl ?_ ?_ ?_
 ·intro l ob1 ob2 w2 M2 pre _ ⟨k,n⟩ rest hal hJx hit
  simp at hit
 ·intro dr1 _ hal hJy
  refine Cfg.begL rfl ?_
  refine Lu (zS (b:=za) (off:=0) (v:=.int .i64 0) rfl kr kr rfl kr 3 (cs:=#[.int .i64 0]) (e:=3) kr (by simp)) ?_
  refine Lu (zS (b:=ze) (off:=0) (v:=.int .i64 14) rfl kr kr rfl kr 2 (cs:=#[.int .i64 0]) (e:=27) kr (by simp)) ?_
  refine zg rfl ?_
  refine Cg (Γ':=[(5,[],pT ze),(4,[],pT za)]) ?_
  refine Cfg.retM (O':=[cl tb #[pT s] 82,cl ze (#[.int .i64 0].setIfInBounds 0 (.int .i64 14)) 27,cl za (#[.int .i64 0].setIfInBounds 0 (.int .i64 0)) 3,cl zn #[.int .i64 n] 3,cl zs #[pT s] 82,cl s #[.int .i64 f,.slice none 0 0] 151]) rfl (rs:=[.cell 4 3,.cell 5 27]) rfl [.int .i64 0,.int .i64 14] slr ⟨⟨_,by kernel_rfl,fun w1 h=>h.ovar 2 (off:=0) rfl kr rfl⟩,⟨_,by kernel_rfl,fun w1 h=>h.ovar 1 (off:=0) rfl kr rfl⟩,trivial⟩ (fun w1 hp=>?_)
  exact⟨by rw[if_neg hlow];rfl,_,hp.sub (.cons _ (.cons _ (.cons _ (.cons _ (.cons _ (cO .slnil))))))⟩
 intro dr1 _ pre ⟨k,n⟩ rest hit hal hpa hJy
 cases hpa
end
section
open K
theorem turnE (s:Nat) (f:Int) (tz:Bool) (la:Option Addr) (cap:Nat) (l:List (Int×Int)) (Rl:List (Nat×Obj)) (w:World) (hf:I64 f) (hI:InS Rl la (2*l.length) (rcell l)) (hl:l.length≤maxLen) (h1:∀i,I64 (ra l i)) (h2:∀i,I64 (rl l i)) (hA:Has w [(s,.cells #[.int .i64 f,.slice none 0 0] 151 (0,0))]) (hRl:Has w Rl) (hnr:∀e∈Rl,e.1∉[s]) :
  Calls Tryz.prog 110 #[.pointer (some ⟨s,0,none⟩),.bool tz,.slice la l.length cap] w fun e w'=>e=.returned (.int .i64 ((ql f 0 tz l []).1:Int))∧∃R1,HP w [s] R1 [(s,.cells #[.int .i64 f,.slice none 0 0] 151 (0,0))] w':=by
 unfold maxLen at hl
 unfold I64 at hf h1 h2
 refine enter [s] Rl [cl s #[.int .i64 f,.slice none 0 0] 151] Tryz.func110 rfl kr (HP.ofL hA (by simp) hRl (by simpa using hnr)) ?_
 refine Rq [0,1,2] ?_
 refine Rq [0,1,2,14] ?_
 refine yb rfl (b:=false) kr rfl ?_
 refine Bp 4 [dZ,dZ,dZ,(dS (.slice none 0 0))] (some [0,1,2,18]) (fun S=>[(cE S s 1 (.slice none 0 0))]) ⟨(oC 0 rfl rfl),trivial⟩ ?_
 refine Lu (zr (.slice none 0 0) rfl Tryz.func117 rfl rfl kr (fun w1 h=>cloneN w1)) ?_
 refine Ld 1 [0,1,2,7] ?_
 refine Rq [0,1,7,20,21,22] ?_
 refine ye rfl (ι:=Nat) (fun(i:Nat)=>[(22,[],iN i),(21,[],iN l.length),(20,[],.slice la l.length cap),(7,[],.slice none 0 0),(0,[],pT s),(1,[],.bool tz)]) (fun(i:Nat)=>[cl s #[.int .i64 f,.slice none 0 0] 151]) (fun(i:Nat)=>(i≤l.length)∧(ql f 0 tz (l.drop i) []=ql f 0 tz l [])) (fun(i:Nat)=>l.length-i) 0 ?_ (Conv.mk kr) (cO .slnil) ?_
 ·exact⟨zH _,rfl⟩
 rintro i ⟨hi,hT⟩
 refine Rq [0,1,7,20,21,22,23] ?_
 refine eC rfl (p:=((i:Int)<(l.length:Int))) kr (fun c2=>?_) (fun c2=>?_)
 ·obtain⟨sb,off,cs,te,fre,rfl,hmem,hcs⟩:=hI om
  refine y9 (Γ':=[(23,[],.bool (decide ((i:Int)<(l.length:Int)))),(22,[],iN i),(21,[],iN l.length),(20,[],sP sb off l.length cap),(7,[],.slice none 0 0),(0,[],pT s),(1,[],.bool tz)]) (Conv.mk kr) ?_
  refine Bp 2 [dZ,(dS (.agg #[.int .i64 (ra l i),.int .i64 (rl l i)]))] (some [0,1,7,20,21,22,25]) (fun S=>[(0≤(i:Int)∧(i:Int)<(l.length:Int)),(∀w1,S w1→(loadVar 117 ⟨sb,(addO off (i*2)),none⟩).run Tryz.prog w1=.ok (.agg #[.int .i64 (ra l i),.int .i64 (rl l i)]) w1)]) ⟨om,(fun w1 h=>by rw[y4];exact run_at h hmem hcs om),trivial⟩ ?_
  refine Le (zM (z:=(.agg #[.int .i64 0,.int .i64 0])) rfl kr) ?_
  rintro t9 ⟨ht9,nt9⟩
  refine Lu (zC (b:=t9) (off:=0) (vs:=#[.int .i64 (ra l i),.int .i64 (rl l i)]) (n:=2) rfl kr kr kr rfl (two_one rfl rfl) 0 (cs:=#[.int .i64 0,.int .i64 0]) (e:=117) kr (zD 2)) ?_
  refine oL 0 rfl (show _ = #[.int .i64 (ra l i),.int .i64 (rl l i)]from rfl) ?_
  refine zg rfl ?_
  refine Cg (Γ':=[(9,[],pT t9),(22,[],iN i),(21,[],iN l.length),(20,[],sP sb off l.length cap),(7,[],.slice none 0 0),(0,[],pT s),(1,[],.bool tz)]) ?_
  refine Rg [0,1,7,9,20,21,22,28] [dZ,(dS (.int .i64 (rl l i)))] (fun S=>[(cE S t9 1 (.int .i64 (rl l i)))]) ⟨(oC 0 rfl rfl),trivial⟩ ?_
  refine eC rfl (p:=((rl l i)<(1:Int))) kr (fun c3=>?_) (fun c3=>?_)
  ·refine Rq [6] ?_
   refine Rt [.int .i64 2] (fun w1 hp=>?_)
   have he:(ql f 0 tz l []).1=2:=by rw[←hT,turn_step om,if_pos om]
   rw[he]
   exact⟨rfl,_,hp.sub (.cons _ (cO .slnil))⟩
  refine Bp 3 [dZ,dZ,(dS (.int .i64 (ra l i)))] (some [0,1,7,9,20,21,22,30,32]) (fun S=>[(cE S t9 0 (.int .i64 (ra l i)))]) ⟨(oC 0 rfl rfl),trivial⟩ ?_
  refine Lu (zr (.tuple #[.int .i64 (if inP f ([]:List Bool).length (ra l i)then ra l i-f else 0),.bool (inP f ([]:List Bool).length (ra l i))]) rfl Tryz.func132 rfl rfl kr (fun w1 h=>place s f (ra l i) none [] w1 hf (h1 i) (by simp) (h.has (fun e he=>by rw[zi.1 he];exact mG 1 rfl)))) ?_
  refine Ld 5 [0,1,7,9,10,11,20,21,22] ?_
  refine Rq [0,1,7,9,10,20,21,22,37] ?_
  refine Cfg.condT rfl (b:=(!(inP f ([]:List Bool).length (ra l i)))) kr (by rw[inE];rfl) ?_
  refine Rq [6] ?_
  refine Rt [.int .i64 2] (fun w1 hp=>?_)
  have he:(ql f 0 tz l []).1=2:=by rw[←hT,turn_step om,if_neg om,if_neg (by rw[inE0];decide)]
  rw[he]
  exact⟨rfl,_,hp.sub (.cons _ (cO .slnil))⟩
 obtain rfl:i=l.length:=by omega
 rw[List.drop_length]at hT
 refine y9 (Γ':=[(21,[],iN l.length),(20,[],.slice la l.length cap),(7,[],.slice none 0 0),(0,[],pT s)]) (Conv.mk kr) ?_
 refine Bq 4 [66,68] ?_
 refine Lu (zS (b:=s) (off:=1) (v:=.slice none 0 0) rfl kr kr rfl kr 0 (cs:=#[.int .i64 f,.slice none 0 0]) (e:=151) kr (by simp)) ?_
 refine zg rfl ?_
 refine Cg (Γ':=[]) ?_
 refine Rq [6] ?_
 refine Rt [.int .i64 0] (fun w1 hp=>?_)
 have he:(ql f 0 tz l []).1=0:=by rw[←hT];rfl
 rw[he]
 exact⟨rfl,_,hp.sub (cO .slnil)⟩
theorem claimE (s:Nat) (f:Int) (la:Option Addr) (cap:Nat) (l:List (Int×Int)) (Rl:List (Nat×Obj)) (w:World) (hf:I64 f) (hI:InS Rl la (2*l.length) (rcell l)) (hl:l.length≤maxLen) (h1:∀i,I64 (ra l i)) (h2:∀i,I64 (rl l i)) (hA:Has w [(s,.cells #[.int .i64 f,.slice none 0 0] 151 (0,0))]) (hRl:Has w Rl) (hnr:∀e∈Rl,e.1∉[s]) :
  Calls Tryz.prog 71 #[.pointer (some ⟨s,0,none⟩),.slice la l.length cap] w fun e w'=>e=.returned (.int .i64 ((ql f 0 false l []).1:Int))∧∃R1,HP w [s] R1 [(s,.cells #[.int .i64 f,.slice none 0 0] 151 (0,0))] w':=by
 refine enter [s] Rl [cl s #[.int .i64 f,.slice none 0 0] 151] Tryz.func71 rfl kr (HP.ofL hA (by simp) hRl (by simpa using hnr)) ?_
 refine Rq [0,1] ?_
 refine Bq 2 [5,6] ?_
 refine Lu (zY (vs:=[pT s,.bool false,.slice la l.length cap]) (fun _:Unit=>.int .i64 ((ql f 0 false l []).1:Int)) [cl s #[.int .i64 f,.slice none 0 0] 151] (fun _=>[cl s #[.int .i64 f,.slice none 0 0] 151]) (fun _=>True) [] [] rfl rfl Tryz.func110 rfl rfl kr (fun w1 h hA1 hd1=>(turnE s f false la cap l Rl w1 hf hI hl h1 h2 hA1 (h.hasR (fun e he=>he)) hnr).mono fun e w2 hx=>⟨(),trivial,hx⟩)) ?_
 refine Ld 1 [4] ?_
 refine Rt [.int .i64 ((ql f 0 false l []).1:Int)] (fun w1 hp=>?_)
 exact⟨rfl,_,hp⟩
theorem giveE (s:Nat) (f:Int) (la:Option Addr) (cap:Nat) (l:List (Int×Int)) (Rl:List (Nat×Obj)) (w:World) (hf:I64 f) (hI:InS Rl la (2*l.length) (rcell l)) (hl:l.length≤maxLen) (h1:∀i,I64 (ra l i)) (h2:∀i,I64 (rl l i)) (hA:Has w [(s,.cells #[.int .i64 f,.slice none 0 0] 151 (0,0))]) (hRl:Has w Rl) (hnr:∀e∈Rl,e.1∉[s]) :
  Calls Tryz.prog 77 #[.pointer (some ⟨s,0,none⟩),.slice la l.length cap] w fun e w'=>e=.returned (.int .i64 ((ql f 0 true l []).1:Int))∧∃R1,HP w [s] R1 [(s,.cells #[.int .i64 f,.slice none 0 0] 151 (0,0))] w':=by
 refine enter [s] Rl [cl s #[.int .i64 f,.slice none 0 0] 151] Tryz.func77 rfl kr (HP.ofL hA (by simp) hRl (by simpa using hnr)) ?_
 refine Rq [0,1] ?_
 refine Bq 2 [5,6] ?_
 refine Lu (zY (vs:=[pT s,.bool true,.slice la l.length cap]) (fun _:Unit=>.int .i64 ((ql f 0 true l []).1:Int)) [cl s #[.int .i64 f,.slice none 0 0] 151] (fun _=>[cl s #[.int .i64 f,.slice none 0 0] 151]) (fun _=>True) [] [] rfl rfl Tryz.func110 rfl rfl kr (fun w1 h hA1 hd1=>(turnE s f true la cap l Rl w1 hf hI hl h1 h2 hA1 (h.hasR (fun e he=>he)) hnr).mono fun e w2 hx=>⟨(),trivial,hx⟩)) ?_
 refine Ld 1 [4] ?_
 refine Rt [.int .i64 ((ql f 0 true l []).1:Int)] (fun w1 hp=>?_)
 exact⟨rfl,_,hp⟩
theorem isE (s:Nat) (f q:Int) (w:World) (hf:I64 f) (hq:I64 q) (hR:Has w [(s,.cells #[.int .i64 f,.slice none 0 0] 151 (0,0))]) :
  Calls Tryz.prog 98 #[.pointer (some ⟨s,0,none⟩),.int .i64 q] w fun e w'=>e=.returned (.bool false)∧Ext [] w w':=by
 refine enter [] [cl s #[.int .i64 f,.slice none 0 0] 151] [] Tryz.func98 rfl kr (yj hR) ?_
 refine Rq [0,1] ?_
 refine Bq 2 [0,8,9] ?_
 refine Lu (zr (vs:=[pT s,.int .i64 q]) (.tuple #[.int .i64 0,.bool false]) rfl Tryz.func132 rfl rfl kr (fun w1 h=>(place s f q none [] w1 hf hq (by simp) (h.hasR (fun e he=>by rw[zi.1 he];exact mH))).mono fun e w2 hx=>by have h1:=hx.1;rw[inE]at h1;exact⟨h1,hx.2⟩)) ?_
 refine Ld 5 [0,5,6] ?_
 refine Rg [4] [dZ,dZ,(2,false,none),(2,false,none),(2,false,none),(2,false,none),(2,false,none),(2,false,none),(2,false,none)] (fun _=>[((.bool false:Value)≠.bool true),((.bool false:Value)≠.bool true),((.bool false:Value)≠.bool true),((.bool false:Value)≠.bool true),((.bool false:Value)≠.bool true),((.bool false:Value)≠.bool true),((.bool false:Value)≠.bool true)]) ⟨(by simp),(by simp),(by simp),(by simp),(by simp),(by simp),(by simp),trivial⟩ ?_
 refine Rt [.bool false] (fun w1 hp=>?_)
 exact⟨rfl,hp.ext⟩
theorem copyE (s:Nat) (f:Int) (w:World) (hR:Has w [(s,.cells #[.int .i64 f,.slice none 0 0] 151 (0,0))]) :
  Calls Tryz.prog 74 #[.pointer (some ⟨s,0,none⟩)] w fun e w'=>∃s2:Nat,e=.returned (.pointer (some ⟨s2,0,none⟩))∧∃R1,HP w [] R1 [(s2,.cells #[.int .i64 f,.slice none 0 0] 151 (0,0))] w':=by
 refine enter [] [cl s #[.int .i64 f,.slice none 0 0] 151] [] Tryz.func74 rfl kr (yj hR) ?_
 refine Rq [0] ?_
 refine Rq [0,4] ?_
 refine yb rfl (b:=false) kr rfl ?_
 refine yo rfl kr [] ?_
 refine Ap (List.range 8) [dZ,dZ,dZ,(dS (.int .i64 f)),dZ,dZ,dZ,(dS (.slice none 0 0))] (some [8,12]) (tF 8 4) .slnil 4 (fun S=>[(cE S s 0 (.int .i64 f)),(cE S s 1 (.slice none 0 0))]) ⟨(rC 0 rfl rfl),(rC 0 rfl rfl),trivial⟩ ?_
 refine Au 8 rfl 3  (zr (.slice none 0 0) rfl Tryz.func117 rfl rfl kr (fun w1 h=>cloneN w1)) (fun _ _=>zz _) ?_
 refine Ap [9] [(dS (.agg #[.int .i64 f,.slice none 0 0]))] (some [14]) (tF 10 2) .slnil 2 (fun S=>[(∀w1,S w1→(Instr.build 151 #[(0,.int .i64 f),(1,.slice none 0 0)]).run Tryz.prog w1=.ok (.agg #[.int .i64 f,.slice none 0 0]) w1)]) ⟨(fun _ _=>kr),trivial⟩ ?_
 refine Ae 10 rfl 1  (y7 (v:=.agg #[.int .i64 f,.slice none 0 0]) rfl kr) (fun _ _=>zz _) ?_
 rintro s2 ⟨hs2,ns2⟩
 refine Ap [11] [] (some [2]) (tF 12 0) (.cons _ .slnil) 0 n0 trivial ?_
 refine z6 kr ?_
 refine Rt [pT s2] (fun w1 hp=>?_)
 exact⟨s2,rfl,_,hp⟩
theorem copyC (s b cp:Nat) (jk:List Value) (f:Int) (fr:List Bool) (w:World) (hn:0<fr.length) (hm:fr.length≤4096) (hR:Has w (spC s f (b,cp,jk) fr)) :
  Calls Tryz.prog 74 #[.pointer (some ⟨s,0,none⟩)] w fun e w'=>∃x:Nat×Nat×Nat×List Value,e=.returned (.pointer (some ⟨x.1,0,none⟩))∧∃R1,HP w [] R1 (spC x.1 f x.2 fr) w':=by
 refine enter [] [cl s #[.int .i64 f,sP b 0 fr.length cp] 151,cl b ((rb fr++jk).toArray) 4] [] Tryz.func74 rfl kr (yj hR) ?_
 refine Rq [0] ?_
 refine Rq [0,4] ?_
 refine yb rfl (b:=false) kr rfl ?_
 refine yo rfl kr [] ?_
 refine Ap (List.range 8) [dZ,dZ,dZ,(dS (.int .i64 f)),dZ,dZ,dZ,(dS (sP b 0 fr.length cp))] (some [8,12]) (tF 8 4) .slnil 4 (fun S=>[(cE S s 0 (.int .i64 f)),(cE S s 1 (sP b 0 fr.length cp))]) ⟨(rC 0 rfl rfl),(rC 0 rfl rfl),trivial⟩ ?_
 refine Ae 8 rfl 3  (Eff.callOF 4 1 fr.length (rb fr) [] [] rfl rfl Tryz.func117 rfl rfl kr (fun w1 h=>cloneB b cp fr jk w1 hn hm (h.hasR (fun e he=>by rw[zi.1 he];exact zf _ mH)))) (fun _ _=>zz _) ?_
 rintro o2 ko2
 obtain⟨⟨b2,cq2,j2⟩,rfl⟩:=own_some ko2 hn
 refine CfgA.setO (O':=[cl b2 ((rb fr++j2).toArray) 4]) rfl ?_
 refine Ap [9] [(dS (.agg #[.int .i64 f,sP b2 0 fr.length cq2]))] (some [14]) (tF 10 2) (.cons _ .slnil) 2 (fun S=>[(∀w1,S w1→(Instr.build 151 #[(0,.int .i64 f),(1,sP b2 0 fr.length cq2)]).run Tryz.prog w1=.ok (.agg #[.int .i64 f,sP b2 0 fr.length cq2]) w1)]) ⟨(fun _ _=>kr),trivial⟩ ?_
 refine Ae 10 rfl 1  (y7 (v:=.agg #[.int .i64 f,sP b2 0 fr.length cq2]) rfl kr) (fun _ _=>zz _) ?_
 rintro s2 ⟨hs2,ns2⟩
 refine Ap [11] [] (some [2]) (tF 12 0) (.cons _ (.cons _ .slnil)) 0 n0 trivial ?_
 refine z6 kr ?_
 refine Rt [pT s2] (fun w1 hp=>?_)
 exact⟨(s2,b2,cq2,j2),rfl,_,hp⟩
end
section
open K
def Good (o:K.Own) (fr:List Bool):Prop:=(o=none∧fr=[])∨∃x,o=some x∧0<fr.length
def newF (f t:Int):List Bool:=if t≤f then[]else replicate (min (t-f).toNat 4096) true
theorem newF_len (f t:Int):(newF f t).length≤4096:=by unfold newF;split <;> simp;omega
theorem loopF_len (tz:Bool) (k:Nat):∀(c n:Nat) (nx:List Bool),(loopF tz k c n nx).2.length=nx.length
 | 0,_,_=>rfl
 | c+1,n,nx=>by
  rw[loopF]
  split
  ·rfl
  split
  ·rfl
  rw[loopF_len tz k c];simp
theorem turnF_len (f:Int) (nn:Nat) (tz:Bool):∀(l:List (Int×Int)) (nx:List Bool),(ql f nn tz l nx).2.length=nx.length
 | [],_=>rfl
 | r::l,nx=>by
  rw[ql]
  split
  ·rfl
  split
  ·split
   ·rw[turnF_len f nn tz l,loopF_len]
   rw[loopF_len]
  rfl
theorem turnR_len (f:Int) (tz:Bool) (l:List (Int×Int)) (fr:List Bool):(yS f tz l fr).length=fr.length:=by
 unfold yS;split
 ·exact turnF_len ..
 rfl
theorem takeF_len (f:Int) (fr:List Bool) (n:Int):(yr f fr n).2.2.length=fr.length:=by
 unfold yr;split
 ·rfl
 split
 ·rfl
 exact turnR_len ..
theorem nil_len {fr:List Bool} (h:fr.length=0):fr=[]:=ya h
theorem newU (f t:Int) (w:World) (hf:I64 f) (ht:I64 t):Calls Tryz.prog 32 #[.int .i64 f,.int .i64 t] w fun e w'=>∃x:Nat×K.Own,Good x.2 (newF f t)∧e=.returned (.pointer (some ⟨x.1,0,none⟩))∧∃R1,HP w [] R1 (spO x.1 f x.2 (newF f t)) w':=by
 unfold newF
 by_cases h:t≤f
 ·rw[if_pos h]
  refine(newE f t w h).mono ?_
  rintro e w' ⟨s,he,R1,hp⟩
  exact⟨(s,none),.inl ⟨rfl,rfl⟩,he,R1,hp⟩
 rw[if_neg h]
 refine(newC f t _ w hf ht om rfl).mono ?_
 rintro e w' ⟨x,he,R1,hp⟩
 exact⟨(x.1,some (x.2,_,[])),.inr ⟨_,rfl,by rw[zk];omega⟩,he,R1,hp⟩
theorem takeU (s:Nat) (f:Int) (o:K.Own) (fr:List Bool) (n:Int) (w:World) (hf : -9223372036854775808≤f∧f+fr.length≤9223372036854775807) (hm:fr.length≤4096) (hg:Good o fr) (hn:I64 n) (hA:Has w (spO s f o fr)) (hd:((spO s f o fr).map (·.1)).Nodup) :
  Calls Tryz.prog 97 #[.pointer (some ⟨s,0,none⟩),.int .i64 n] w fun e w'=>∃o2:K.Own,Good o2 (yr f fr n).2.2∧e=.returned (.tuple #[.int .i64 (yr f fr n).1,.int .i64 ((yr f fr n).2.1:Int)])∧∃R1,HP w ((spO s f o fr).map (·.1)) R1 (spO s f o2 (yr f fr n).2.2) w':=by
 rcases hg with ⟨rfl,rfl⟩|⟨⟨b,cp,jk⟩,rfl,h0⟩
 ·refine(takeE s f n w hn hA).mono ?_
  rintro e w' ⟨he,R1,hp⟩
  have h2:yr f [] n=(0,if n<1 then 2 else 14,[]):=by unfold yr;rw[runsAt_end (by simp)];split <;> rfl
  rw[h2]
  refine⟨none,.inl ⟨rfl,rfl⟩,?_,R1,hp⟩
  rw[he];split <;> rfl
 refine(takeC s b cp jk f fr n w hf hm h0 hn hA hd).mono ?_
 rintro e w' ⟨x,he,R1,hp⟩
 exact⟨some x,.inr ⟨x,rfl,by rw[takeF_len];exact h0⟩,he,R1,hp⟩
theorem freeU (s:Nat) (f:Int) (o:K.Own) (fr:List Bool) (w:World) (hf : -9223372036854775808≤f∧f+fr.length≤9223372036854775807) (hm:fr.length≤4096) (hg:Good o fr) (hR:Has w (spO s f o fr)) :
  Calls Tryz.prog 47 #[.pointer (some ⟨s,0,none⟩)] w fun e w'=>e=.returned (.int .i64 (suml (yW fr 0):Int))∧Ext [] w w':=by
 rcases hg with ⟨rfl,rfl⟩|⟨⟨b,cp,jk⟩,rfl,h0⟩
 ·rw[runsAt_end (by simp)];exact freeE s f w hR
 exact freeC s b cp jk f fr w hf hm hR
theorem isU (s:Nat) (f q:Int) (o:K.Own) (fr:List Bool) (w:World) (hf:I64 f) (hq:I64 q) (hm:fr.length≤4096) (hg:Good o fr) (hR:Has w (spO s f o fr)) :
  Calls Tryz.prog 98 #[.pointer (some ⟨s,0,none⟩),.int .i64 q] w fun e w'=>e=.returned (.bool (inP f fr.length q&&fr.getD (q-f).toNat false))∧Ext [] w w':=by
 rcases hg with ⟨rfl,rfl⟩|⟨⟨b,cp,jk⟩,rfl,h0⟩
 ·rw[inE];exact isE s f q w hf hq hR
 exact isC s b cp jk f q fr w hf hq hm hR
theorem copyU (s:Nat) (f:Int) (o:K.Own) (fr:List Bool) (w:World) (hm:fr.length≤4096) (hg:Good o fr) (hR:Has w (spO s f o fr)) :
  Calls Tryz.prog 74 #[.pointer (some ⟨s,0,none⟩)] w fun e w'=>∃x:Nat×K.Own,Good x.2 fr∧e=.returned (.pointer (some ⟨x.1,0,none⟩))∧∃R1,HP w [] R1 (spO x.1 f x.2 fr) w':=by
 rcases hg with ⟨rfl,rfl⟩|⟨⟨b,cp,jk⟩,rfl,h0⟩
 ·refine(copyE s f w hR).mono ?_
  rintro e w' ⟨s2,he,R1,hp⟩
  exact⟨(s2,none),.inl ⟨rfl,rfl⟩,he,R1,hp⟩
 refine(copyC s b cp jk f fr w h0 hm hR).mono ?_
 rintro e w' ⟨x,he,R1,hp⟩
 exact⟨(x.1,some x.2),.inr ⟨_,rfl,h0⟩,he,R1,hp⟩
theorem turn_nil (f:Int) (tz:Bool) (l:List (Int×Int)):yS f tz l []=[]:=nil_len (by rw[turnR_len];rfl)
theorem claimU (s:Nat) (f:Int) (o:K.Own) (fr:List Bool) (la:Option Addr) (cap:Nat) (l:List (Int×Int)) (Rl:List (Nat×Obj)) (w:World) (hf:I64 f) (hm:fr.length≤4096) (hg:Good o fr) (hI:InS Rl la (2*l.length) (rcell l)) (hl:l.length≤maxLen) (h1:∀i,I64 (ra l i)) (h2:∀i,I64 (rl l i))
  (hA:Has w (spO s f o fr)) (hd:((spO s f o fr).map (·.1)).Nodup) (hRl:Has w Rl) (hnr:∀e∈Rl,e.1∉(spO s f o fr).map (·.1)) :
  Calls Tryz.prog 71 #[.pointer (some ⟨s,0,none⟩),.slice la l.length cap] w fun e w'=>∃o2:K.Own,Good o2 (yS f false l fr)∧e=.returned (.int .i64 ((ql f fr.length false l fr).1:Int))∧∃R1,HP w ((spO s f o fr).map (·.1)) R1 (spO s f o2 (yS f false l fr)) w':=by
 rcases hg with ⟨rfl,rfl⟩|⟨⟨b,cp,jk⟩,rfl,h0⟩
 ·refine(claimE s f la cap l Rl w hf hI hl h1 h2 hA hRl hnr).mono ?_
  rintro e w' ⟨he,R1,hp⟩
  rw[turn_nil]
  exact⟨none,.inl ⟨rfl,rfl⟩,he,R1,hp⟩
 refine(claimC s b cp jk f fr la cap l Rl w hf hm h0 hI hl h1 h2 hA hd hRl hnr).mono ?_
 rintro e w' ⟨x,he,R1,hp⟩
 exact⟨some x,.inr ⟨x,rfl,by rw[turnR_len];exact h0⟩,he,R1,hp⟩
theorem giveU (s:Nat) (f:Int) (o:K.Own) (fr:List Bool) (la:Option Addr) (cap:Nat) (l:List (Int×Int)) (Rl:List (Nat×Obj)) (w:World) (hf:I64 f) (hm:fr.length≤4096) (hg:Good o fr) (hI:InS Rl la (2*l.length) (rcell l)) (hl:l.length≤maxLen) (h1:∀i,I64 (ra l i)) (h2:∀i,I64 (rl l i))
  (hA:Has w (spO s f o fr)) (hd:((spO s f o fr).map (·.1)).Nodup) (hRl:Has w Rl) (hnr:∀e∈Rl,e.1∉(spO s f o fr).map (·.1)) :
  Calls Tryz.prog 77 #[.pointer (some ⟨s,0,none⟩),.slice la l.length cap] w fun e w'=>∃o2:K.Own,Good o2 (yS f true l fr)∧e=.returned (.int .i64 ((ql f fr.length true l fr).1:Int))∧∃R1,HP w ((spO s f o fr).map (·.1)) R1 (spO s f o2 (yS f true l fr)) w':=by
 rcases hg with ⟨rfl,rfl⟩|⟨⟨b,cp,jk⟩,rfl,h0⟩
 ·refine(giveE s f la cap l Rl w hf hI hl h1 h2 hA hRl hnr).mono ?_
  rintro e w' ⟨he,R1,hp⟩
  rw[turn_nil]
  exact⟨none,.inl ⟨rfl,rfl⟩,he,R1,hp⟩
 refine(giveC s b cp jk f fr la cap l Rl w hf hm h0 hI hl h1 h2 hA hd hRl hnr).mono ?_
 rintro e w' ⟨x,he,R1,hp⟩
 exact⟨some x,.inr ⟨x,rfl,by rw[turnR_len];exact h0⟩,he,R1,hp⟩
end
section
open K
def okNm (s:ByteArray) (k:Nat):Bool:=decide (33≤sbyte s k∧sbyte s k≤126)
def namB (s:ByteArray):Bool:=decide (1≤s.size∧s.size≤72)&&(List.range s.size).all (okNm s)
theorem nall_yes {n:Nat} {f:Nat→Bool} (h:∀j,j<n→f j=true):(List.range n).all f=true:=by
 simp only[List.all_eq_true,List.mem_range];exact h
theorem nall_no {n k:Nat} {f:Nat→Bool} (hk:k<n) (h:f k=false):(List.range n).all f=false:=by
 cases hh:(List.range n).all f with
 | false=>rfl
 | true=>
  have:=q3.1 hh k (qz.2 hk)
  rw[h]at this;cases this
theorem nup {f:Nat→Bool} {k:Nat} (h:∀j,j<k→f j=true) (hk:f k=true):∀j,j<k+1→f j=true:=by
 intro j hj
 rcases qy j k with h1|h1
 ·exact h j h1
 rw[show j=k by omega];exact hk
theorem fNamed (s:ByteArray) (w:World) (hs:s.size≤maxLen) :
  Calls Tryz.prog 14 #[.string s] w fun e w'=>e=.returned (.bool (namB s))∧Ext [] w w':=by
 unfold maxLen at hs
 refine enter [] [] [] Tryz.func14 rfl kr (yy w) ?_
 refine Rq [0] ?_
 refine Rq [0,11] ?_
 refine zX rfl (b:=((decide ((s.size:Int)<(1:Int))) || (decide ((s.size:Int)>(72:Int))))) kr (fun c1r=>?_) (fun c1r=>?_)
 ·have c1:(((s.size:Int)<(1:Int))∨((s.size:Int)>(72:Int))):=((orT c1r).elim (fun h=>Or.inl (dT h)) (fun h=>Or.inr (dT h)))
  refine Rq [2] ?_
  refine Rt [.bool false] (fun w1 hp=>?_)
  exact⟨by rw[show namB s=false by unfold namB;rw[decide_eq_false om,Bool.false_and]];rfl,hp.ext⟩
 have c1:((¬((s.size:Int)<(1:Int)))∧(¬((s.size:Int)>(72:Int)))):=⟨(dF (orF1 c1r)),(dF (orF2 c1r))⟩
 refine Rq [0,13,14] ?_
 refine ye rfl (ι:=Nat) (fun(k:Nat)=>[(14,[],iN k),(13,[],iN s.size),(0,[],.string s)]) (fun(k:Nat)=>[]) (fun(k:Nat)=>(k≤s.size)∧(∀j,j<k→okNm s j=true)) (fun(k:Nat)=>s.size-k) 0 ?_ (Conv.mk kr) .slnil ?_
 ·exact⟨zH _,fun j h=>absurd h (qx j)⟩
 rintro k ⟨hk,hall⟩
 refine Rq [0,13,14,15] ?_
 refine eC rfl (p:=((k:Int)<(s.size:Int))) kr (fun c2=>?_) (fun c2=>?_)
 ·refine Rq [0,3,13,14] ?_
  refine Rg [0,13,14,26] [] (fun _=>[(iL (k:Int) (s.size:Int)),((.bool (decide ((sbyte s (k:Int))<(33:Int))):Value)=.bool false→(iL (k:Int) (s.size:Int)))]) ⟨om,(fun g0=>have q0:(¬((sbyte s (k:Int))<(33:Int))):=(dF (boolV g0));om),trivial⟩ ?_
  refine zX rfl (b:=((decide ((sbyte s (k:Int))<(33:Int))) || (decide ((sbyte s (k:Int))>(126:Int))))) kr (fun c3r=>?_) (fun c3r=>?_)
  ·have c3:(((sbyte s (k:Int))<(33:Int))∨((sbyte s (k:Int))>(126:Int))):=((orT c3r).elim (fun h=>Or.inl (dT h)) (fun h=>Or.inr (dT h)))
   refine Cfg.reg rfl [2] [] (Γ':=[(2,[],.bool false)]) (nd:=(fun _=>[])) (fun _=>kr) trivial ?_
   refine Rt [.bool false] (fun w1 hp=>?_)
   have hok:okNm s k=false:=decide_eq_false om
   exact⟨by rw[show namB s=false by unfold namB;rw[nall_no om hok,Bool.and_false]];rfl,hp.ext⟩
  have c3:((¬((sbyte s (k:Int))<(33:Int)))∧(¬((sbyte s (k:Int))>(126:Int)))):=⟨(dF (orF1 c3r)),(dF (orF2 c3r))⟩
  refine Rg [0,13,14] [] (fun _=>[(i6 ((k:Int)+1))]) ⟨om,trivial⟩ ?_
  have hok:okNm s k=true:=decide_eq_true om
  refine zG rfl (k+1) ⟨by omega,nup hall hok⟩ (by show s.size-(k+1)<s.size-k;omega) (Conv.mk kr) .slnil
 refine Rq [2] ?_
 refine Rt [.bool true] (fun w1 hp=>?_)
 exact⟨by rw[show namB s=true by rw[show k=s.size by omega]at hall;unfold namB;rw[decide_eq_true om,nall_yes hall];rfl];rfl,hp.ext⟩
end
section
open K
def cnt0 (s:ByteArray):Int:=s.foldl (fun n x=>if x==(0:Int).toNat.toUInt8 then n+1 else n) ((0:Nat):Int)
theorem run_count {P:Program} {w:World} (s:ByteArray):(Extern.BytealgCount.count #[.string s,.int .u8 0]).run P w=.ok (.int .i64 (cnt0 s)) w:=by
 have e:Extern.BytealgCount.count #[.string s,.int .u8 0]=(Extern.Bytes.bytesOf (.string s) >>= fun b=>Extern.Bytes.asByte (.int .u8 0) >>= fun c=>pure (goInt (b.foldl (fun n x=>if x==c then n+1 else n) ((0:Nat):Int)))):=rfl
 rw[e]
 simp only[Extern.Bytes.bytesOf,Extern.Bytes.asByte,Sem.run_bind,Sem.run_pure,Result.andThen_ok]
 rfl
structure Tb where
 ps:List Pl
 W:List (ByteArray×Value)
 fr:List Bool
def zB (b:List UInt8) (k:Nat):IN:=⟨0,b.drop (81*k)⟩
def zu (b:List UInt8) (k:Nat):List UInt8:=(b.drop (81*k)).take 81
theorem raw_next {b:List UInt8} {k:Nat} (hb:b.length=512) (hk:k<6):nextF (zB b k) 81=(zu b k,zB b (k+1)):=by
 unfold nextF zB zu
 rw[if_neg (show ¬(0:Int)≠0 by decide),if_neg (by simp only[List.length_drop];omega)]
 simp only[List.drop_drop]
 rw[show 81*k+(81:Int).toNat=81*(k+1) by omega];rfl
def eZ (raw:List UInt8):IN:=(byteF ⟨0,raw⟩).2
def eL (raw:List UInt8):Nat:=(byteF ⟨0,raw⟩).1
def eN (raw:List UInt8):List UInt8:=(nextF (eZ raw) 72).1
def eW (raw:List UInt8):IN:=(nextF (eZ raw) 72).2
def nmOf (raw:List UInt8):ByteArray:=tx ((eN raw).take (eL raw))
def badN (raw:List UInt8):Bool:=decide (eL raw>(eN raw).length) || !namB (nmOf raw)
def yt (raw:List UInt8):Pl:=⟨nmOf raw,(ym (eW raw)).1,(ym (ym (eW raw)).2).1⟩
def badP (W:List (ByteArray×Value)) (p:Pl):Bool:=(smget W p.nm).isSome || (decide (p.sz>32768) || (decide (p.sz=0)&&decide (p.at_≠0)))
def entP (q:Nat) (raw:List UInt8) (T:Tb):Option Tb:=
 if cnt0 (tx raw)=81 then some T else if badN raw=true then none else if badP T.W (yt raw)=true then none else
  if(ql 121 T.fr.length false (yQ (yt raw)) T.fr).1≠0 then none else some ⟨T.ps.set q (yt raw),smset T.W (yt raw).nm (.int .i64 (q:Int)),yS 121 false (yQ (yt raw)) T.fr⟩
def entL (b:List UInt8) (n:Nat):Nat→Tb→Bool×Tb
 | 0,T=>(decide (yN T.ps n=b),T)
 | j+1,T=>match entP (6*n+(5-j)) (zu b (5-j)) T with
  | none=>(false,T)
  | some T2=>entL b n j T2
theorem entL_step {b:List UInt8} {n k:Nat} {T T2:Tb} (hk:k<6) (h:entP (6*n+k) (zu b k) T=some T2):entL b n (6-k) T=entL b n (6-(k+1)) T2:=by
 rw[show 6-k=(6-(k+1))+1 by omega,entL,show 5-(6-(k+1))=k by omega,h]
theorem entL_stop {b:List UInt8} {n k:Nat} {T:Tb} (hk:k<6) (h:entP (6*n+k) (zu b k) T=none):entL b n (6-k) T=(false,T):=by
 rw[show 6-k=(6-(k+1))+1 by omega,entL,show 5-(6-(k+1))=k by omega,h]
structure TbOk (T:Tb):Prop where
 l:T.ps.length=144
 o:∀p∈T.ps,PlOk p
 f:T.fr.length≤4096
theorem ent_skip {q:Nat} {raw:List UInt8} {T:Tb} (h:cnt0 (tx raw)=81):entP q raw T=some T:=if_pos h
theorem ent_badN {q:Nat} {raw:List UInt8} {T:Tb} (h:¬cnt0 (tx raw)=81) (h1:badN raw=true):entP q raw T=none:=by unfold entP;rw[if_neg h,if_pos h1]
theorem ent_badP {q:Nat} {raw:List UInt8} {T:Tb} (h:¬cnt0 (tx raw)=81) (h1:badN raw=false) (h2:badP T.W (yt raw)=true):entP q raw T=none:=by unfold entP;rw[if_neg h,if_neg (by rw[h1];decide),if_pos h2]
theorem ent_room {q:Nat} {raw:List UInt8} {T:Tb} (h:¬cnt0 (tx raw)=81) (h1:badN raw=false) (h2:badP T.W (yt raw)=false) (h3:(ql 121 T.fr.length false (yQ (yt raw)) T.fr).1≠0):entP q raw T=none:=by unfold entP;rw[if_neg h,if_neg (by rw[h1];decide),if_neg (by rw[h2];decide),if_pos h3]
theorem ent_ok {q:Nat} {raw:List UInt8} {T:Tb} (h:¬cnt0 (tx raw)=81) (h1:badN raw=false) (h2:badP T.W (yt raw)=false) (h3:¬(ql 121 T.fr.length false (yQ (yt raw)) T.fr).1≠0):entP q raw T=some ⟨T.ps.set q (yt raw),smset T.W (yt raw).nm (.int .i64 (q:Int)),yS 121 false (yQ (yt raw)) T.fr⟩:=by unfold entP;rw[if_neg h,if_neg (by rw[h1];decide),if_neg (by rw[h2];decide),if_neg h3]
def tabO (tb nr rm:Nat) (T:Tb) (o:K.Own) (x:Array MapEntry×Nat):List (Nat×Obj):=(tb,.cells (tbC T.ps nr rm) 88 (0,0))::(nr,.map x.1 x.2)::spO rm 121 o T.fr
theorem claimP0 {p:Pl} (h0:p.sz=0) (rm:Nat) (o:K.Own) (fr:List Bool) (w:World) (hm:fr.length≤4096) (hg:Good o fr) (hA:Has w (spO rm 121 o fr)) (hd:((spO rm 121 o fr).map (·.1)).Nodup) :
  Calls Tryz.prog 71 #[.pointer (some ⟨rm,0,none⟩),.slice none 0 0] w fun e w'=>∃o2:K.Own,Good o2 (yS 121 false (yQ p) fr)∧e=.returned (.int .i64 ((ql 121 fr.length false (yQ p) fr).1:Int))∧∃R1,HP w ((spO rm 121 o fr).map (·.1)) R1 (spO rm 121 o2 (yS 121 false (yQ p) fr)) w':=by
 have e:yQ p=[]:=if_pos h0
 rw[e]
 exact claimU rm 121 o fr none 0 [] [] w (by unfold I64;omega) hm hg (fun h=>absurd h (by decide)) (zH _) (fun i=>by unfold I64 ra;simp) (fun i=>by unfold I64 rl;simp) hA hd (fun e he=>by cases he) (fun e he=>by cases he)
theorem claimP1 {p:Pl} (h0:0<p.sz) (ho:PlOk p) (rb rm:Nat) (o:K.Own) (fr:List Bool) (w:World) (hm:fr.length≤4096) (hg:Good o fr) (hA:Has w (spO rm 121 o fr)) (hd:((spO rm 121 o fr).map (·.1)).Nodup) (hR:Has w [(rb,.cells #[.int .i64 (p.at_:Int),.int .i64 (secs p.sz:Int)] 117 (0,0))]) (hn:rb∉(spO rm 121 o fr).map (·.1)) :
  Calls Tryz.prog 71 #[.pointer (some ⟨rm,0,none⟩),.slice (some ⟨rb,0,none⟩) 1 1] w fun e w'=>∃o2:K.Own,Good o2 (yS 121 false (yQ p) fr)∧e=.returned (.int .i64 ((ql 121 fr.length false (yQ p) fr).1:Int))∧∃R1,HP w ((spO rm 121 o fr).map (·.1)) R1 (spO rm 121 o2 (yS 121 false (yQ p) fr)) w':=by
 have e:yQ p=[((p.at_:Int),(secs p.sz:Int))]:=if_neg om
 have h1:=ho.at_
 have h2:=ho.sz
 rw[e]
 exact claimU rm 121 o fr (some ⟨rb,0,none⟩) 1 _ _ w (by unfold I64;omega) hm hg (ins1 rb 117 (p.at_:Int) (secs p.sz:Int)) (by show 1≤maxLen;decide) (ra1 (by unfold I64;omega)) (rl1 (by unfold I64 secs;omega)) hA hd hR (fun e he=>by rw[zi.1 he];exact hn)
theorem fCount (s:ByteArray) (w:World) :
  Calls Tryz.prog 68 #[.string s,.string ⟨#[0]⟩] w fun e w'=>e=.returned (.int .i64 (cnt0 s))∧Ext [] w w':=by
 refine enter [] [] [] Tryz.func68 rfl kr (yy w) ?_
 refine Rq [0,1] ?_
 refine Rq [0,1,9] ?_
 refine yb rfl (b:=false) kr rfl ?_
 refine Rq [0,1,15] ?_
 refine Cfg.condT rfl (b:=true) kr rfl ?_
 refine Bp 3 [] (some [16,18]) (fun _=>[(iL (0:Int) 1)]) ⟨om,trivial⟩ ?_
 refine Lu (Eff.callE (.int .i64 (cnt0 s)) (e:=Extern.BytealgCount.count) rfl Tryz.func107 rfl rfl kr kr kr (fun w1 h=>run_count s)) ?_
 refine Ld 1 [4] ?_
 refine Rt [.int .i64 (cnt0 s)] (fun w1 hp=>?_)
 exact⟨rfl,hp.ext⟩
end
end Go.Proofs.YtfgdepggdiibdaaGreatDoor