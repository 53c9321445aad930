/- Texts on which the proof of this claim stands: Wire1, Wire2, Wire3, Wire4, K24, Jn1, K36, K33, Fl1, FlR, Jn2, K27. -/
import Derived.Test.YtfgdepggdiibdaaGreatDoorP2
import Derived.Test.YtfgdepggdiibdaaGreatDoorP1
import Derived.Test.YtfgdepggdiibdaaGreatDoorChecked
import Derived.Lib.Repeat
import Derived.Shelf.Strings.Repeat
set_option linter.unusedVariables false
set_option maxRecDepth 100000
set_option maxHeartbeats 8000000
namespace Go.Proofs.YtfgdepggdiibdaaGreatDoor
open List (replicate)
section
open K
def be (n:Nat):Nat→List UInt8
 | 0=>[]
 | k+1=>UInt8.ofNat (n / 256^k)::be n k
theorem be_len (n:Nat):∀k,(be n k).length=k
 | 0=>rfl
 | k+1=>by rw[be,zL,be_len n k]
def nrow (n k:Nat):List UInt8:=(List.range 8).map fun i=>if i<k then UInt8.ofNat (n / 256^(7-i))else 0
theorem nrow_len (n k:Nat):(nrow n k).length=8:=by simp[nrow]
theorem nrow_end (n:Nat):nrow n 8=be n 8:=rfl
theorem nrow_set (n k:Nat) (hk:k<8):(nrow n k).set k (UInt8.ofNat (n / 256^(7-k)))=nrow n (k+1):=by
 rcases k with _|_|_|_|_|_|_|_|k <;> first|rfl|omega
theorem u8_mod (m:Nat):UInt8.ofNat (m%256)=UInt8.ofNat m:=by
 apply UInt8.toNat_inj.1
 simp
theorem nrow_step (n k:Nat) (hk:k<8) {x:Int} (hx:x=((n:Int) / ((2^(56-8*(k:Int)).toNat:Nat):Int))%256):(bv (nrow n k)).setIfInBounds k (.int .u8 x)=bv (nrow n (k+1)):=by
 have e1:((n:Int) / ((2^(56-8*(k:Int)).toNat:Nat):Int))%256=((n / 2^(56-8*(k:Int)).toNat%256:Nat):Int):=by rw[Int.natCast_emod,Int.natCast_ediv];rfl
 rw[hx,e1]
 have hlt:n / 2^(56-8*(k:Int)).toNat%256<256:=qT _ (by decide)
 rw[bv_set om om,yk,u8_mod,show(56-8*(k:Int)).toNat=8*(7-k) by omega,Nat.pow_mul,show 2^8=256 from rfl,nrow_set n k hk]
def beS (n k:Nat):ByteArray:=⟨(be n k).toArray⟩
theorem qM (n k:Nat):(beS n k).size=k:=by simp[beS,ByteArray.size,be_len]
theorem beS_list (n k:Nat):(beS n k).data.toList=be n k:=rfl
theorem be_drop (n:Nat):∀(j k:Nat),(be n (j+k)).drop j=be n k
 | 0,k=>by rw[zF];rfl
 | j+1,k=>by rw[show j+1+k=(j+k)+1 by omega,be,List.drop_succ_cons,be_drop n j k]
theorem num_str {P:Program} {w0 w:World} {M:List Nat} {R O:List (Nat×Obj)} {n k b j c:Nat} {t:TypeId} (h:HP w0 M R O w) (ho:O[0]? = some (b,.cells (bv (nrow n k)) t (0,0))) (hk:k=8) (m:Nat) (hj:j+m=8) :
  (Conv.bytesToString (.slice (some ⟨b,j,none⟩) m c)).run P w=.ok (.string (beS n m)) w:=by
 subst hk
 refine bytes_str (be_len n m) fun i hi=>?_
 have e:=be_drop n j m
 rw[hj]at e
 rw[←e,h.ocell 0 ho (bv_get (n:=8) (nrow_len n 8) (show j+i<8 by omega)),nrow_end]
 simp[List.getD_eq_getElem?_getD,List.getElem?_drop]
def sat (ss:List ByteArray) (i:Nat):ByteArray:=ss.getD i ByteArray.empty
def cat (ss:List ByteArray):List UInt8:=ss.flatMap fun s=>s.data.toList
theorem take_sat {ss:List ByteArray} {i:Nat} (h:i<ss.length):ss.take (i+1)=ss.take i++[sat ss i]:=by
 rw[zV h];simp[sat,List.getElem?_eq_getElem h]
theorem cat_app (a b:List ByteArray):cat (a++b)=cat a++cat b:=yY ..
theorem cat_one (s:ByteArray):cat [s]=s.data.toList:=by simp[cat]
theorem cat_succ {ss:List ByteArray} {i:Nat} (h:i<ss.length):cat (ss.take (i+1))=cat (ss.take i)++(sat ss i).data.toList:=by rw[take_sat h,cat_app,cat_one]
theorem cat_part {ss:List ByteArray} {i:Nat} (h:i<ss.length):(cat (ss.take i)).length+(sat ss i).size≤(cat ss).length:=by
 have h1:=cat_succ h
 have h2:cat ss=cat (ss.take (i+1))++cat (ss.drop (i+1)):=by rw[←cat_app,yz]
 rw[h2,h1,zh,zh,ba_len];omega
def tx (l:List UInt8):ByteArray:=⟨l.toArray⟩
theorem tx_list (l:List UInt8):(tx l).data.toList=l:=rfl
theorem qf (l:List UInt8):(tx l).size=l.length:=by simp[tx,ByteArray.size]
theorem tx_back (s:ByteArray):tx s.data.toList=s:=by cases s;rfl
theorem one_len (x:ByteArray):[x].length≤maxLen:=by simp[maxLen]
theorem inS_lit (bk:Nat) (t:TypeId) (fr:Nat×Nat) (ss:List ByteArray):InS [(bk,.cells (ss.map Value.string).toArray t fr)] (some ⟨bk,0,none⟩) ss.length (fun j=>.string (sat ss j)):=by
 intro _
 refine⟨bk,0,_,t,fr,rfl,zi.2 rfl,fun j hj=>?_⟩
 rw[zF]
 simp[sat,List.getElem?_eq_getElem hj]
theorem wNumber1 (n:Nat) (w:World) (hn:n<2^64) :
  Calls Tryz.prog 143 #[.int .u64 (n:Int),.int .i64 1] w fun e w'=>e=.returned (.string (beS n 1))∧Ext [] w w':=by
 refine enter [] [] [] Tryz.func143 rfl kr (yy w) ?_
 refine Rq [0,1] ?_
 refine Be rfl rfl (zM (z:=(.agg (bv (replicate 8 0)))) rfl kr) ?_
 rintro b ⟨hb,nb⟩
 refine zg rfl ?_
 refine Rq [0,1,5,7] ?_
 refine ye rfl (ι:=Nat) (fun(k:Nat)=>[(7,[],iN k),(5,[],pT b),(0,[],.int .u64 (n:Int)),(1,[],.int .i64 1)]) (fun(k:Nat)=>[cl b (bv (nrow n k)) 256]) (fun(k:Nat)=>(k≤8)) (fun(k:Nat)=>8-k) 0 ?_ (Conv.mk kr) slr ?_
 ·exact zH _
 rintro k hk
 refine Rq [0,1,5,7,8] ?_
 refine eC rfl (p:=((k:Int)<(8:Int))) kr (fun c1=>?_) (fun c1=>?_)
 ·refine Rq [0,1,5,6,7] ?_
  refine Bp 8 [] (some [0,1,5,7,16,17]) (fun _=>[(i6 (8*(k:Int))),(i6 (56-(8*(k:Int)))),(0≤(56-(8*(k:Int)))∧((56-(8*(k:Int)))).toNat≤64),(iL (k:Int) 8)]) ⟨om,om,om,om,trivial⟩ ?_
  refine Lu (zS (b:=b) (off:=k) (v:=.int .u8 (((n:Int) / ((2^((56-(8*(k:Int)))).toNat:Nat):Int))%256)) rfl kr kr rfl kr 0 (cs:=(bv (nrow n k))) (e:=256) kr (by rw[zP,nrow_len];omega)) ?_
  refine zg rfl ?_
  refine Cg (Γ':=[(7,[],iN k),(5,[],pT b),(0,[],.int .u64 (n:Int)),(1,[],.int .i64 1)]) ?_
  refine Rg [0,1,5,7] [] (fun _=>[(i6 ((k:Int)+1))]) ⟨om,trivial⟩ ?_
  refine oB 0 rfl (show _=(bv (nrow n (k+1)))from nrow_step n k om rfl) ?_
  refine zG rfl (k+1) (show k+1≤8 by omega) om (Conv.mk kr) (cO .slnil)
 refine Rg [4] [dZ,dZ,dZ,(dS (.string (beS n 1)))] (fun S=>[(i6 (7:Int)),(0≤(7:Int)),(7≤8∧8≤8),(∀w1,S w1→(Conv.bytesToString (.slice (some ⟨b,(if 8=7 then 0 else 7),none⟩) (8-7) (8-7))).run Tryz.prog w1=.ok (.string (beS n 1)) w1)]) ⟨om,om,om,(fun w1 h=>num_str h rfl om 1 rfl),trivial⟩ ?_
 refine Rt [.string (beS n 1)] (fun w1 hp=>?_)
 exact⟨rfl,hp.ext⟩
theorem wNumber4 (n:Nat) (w:World) (hn:n<2^64) :
  Calls Tryz.prog 143 #[.int .u64 (n:Int),.int .i64 4] w fun e w'=>e=.returned (.string (beS n 4))∧Ext [] w w':=by
 refine enter [] [] [] Tryz.func143 rfl kr (yy w) ?_
 refine Rq [0,1] ?_
 refine Be rfl rfl (zM (z:=(.agg (bv (replicate 8 0)))) rfl kr) ?_
 rintro b ⟨hb,nb⟩
 refine zg rfl ?_
 refine Rq [0,1,5,7] ?_
 refine ye rfl (ι:=Nat) (fun(k:Nat)=>[(7,[],iN k),(5,[],pT b),(0,[],.int .u64 (n:Int)),(1,[],.int .i64 4)]) (fun(k:Nat)=>[cl b (bv (nrow n k)) 256]) (fun(k:Nat)=>(k≤8)) (fun(k:Nat)=>8-k) 0 ?_ (Conv.mk kr) slr ?_
 ·exact zH _
 rintro k hk
 refine Rq [0,1,5,7,8] ?_
 refine eC rfl (p:=((k:Int)<(8:Int))) kr (fun c1=>?_) (fun c1=>?_)
 ·refine Rq [0,1,5,6,7] ?_
  refine Bp 8 [] (some [0,1,5,7,16,17]) (fun _=>[(i6 (8*(k:Int))),(i6 (56-(8*(k:Int)))),(0≤(56-(8*(k:Int)))∧((56-(8*(k:Int)))).toNat≤64),(iL (k:Int) 8)]) ⟨om,om,om,om,trivial⟩ ?_
  refine Lu (zS (b:=b) (off:=k) (v:=.int .u8 (((n:Int) / ((2^((56-(8*(k:Int)))).toNat:Nat):Int))%256)) rfl kr kr rfl kr 0 (cs:=(bv (nrow n k))) (e:=256) kr (by rw[zP,nrow_len];omega)) ?_
  refine zg rfl ?_
  refine Cg (Γ':=[(7,[],iN k),(5,[],pT b),(0,[],.int .u64 (n:Int)),(1,[],.int .i64 4)]) ?_
  refine Rg [0,1,5,7] [] (fun _=>[(i6 ((k:Int)+1))]) ⟨om,trivial⟩ ?_
  refine oB 0 rfl (show _=(bv (nrow n (k+1)))from nrow_step n k om rfl) ?_
  refine zG rfl (k+1) (show k+1≤8 by omega) om (Conv.mk kr) (cO .slnil)
 refine Rg [4] [dZ,dZ,dZ,(dS (.string (beS n 4)))] (fun S=>[(i6 (4:Int)),(0≤(4:Int)),(4≤8∧8≤8),(∀w1,S w1→(Conv.bytesToString (.slice (some ⟨b,(if 8=4 then 0 else 4),none⟩) (8-4) (8-4))).run Tryz.prog w1=.ok (.string (beS n 4)) w1)]) ⟨om,om,om,(fun w1 h=>num_str h rfl om 4 rfl),trivial⟩ ?_
 refine Rt [.string (beS n 4)] (fun w1 hp=>?_)
 exact⟨rfl,hp.ext⟩
theorem wNumber8 (n:Nat) (w:World) (hn:n<2^64) :
  Calls Tryz.prog 143 #[.int .u64 (n:Int),.int .i64 8] w fun e w'=>e=.returned (.string (beS n 8))∧Ext [] w w':=by
 refine enter [] [] [] Tryz.func143 rfl kr (yy w) ?_
 refine Rq [0,1] ?_
 refine Be rfl rfl (zM (z:=(.agg (bv (replicate 8 0)))) rfl kr) ?_
 rintro b ⟨hb,nb⟩
 refine zg rfl ?_
 refine Rq [0,1,5,7] ?_
 refine ye rfl (ι:=Nat) (fun(k:Nat)=>[(7,[],iN k),(5,[],pT b),(0,[],.int .u64 (n:Int)),(1,[],.int .i64 8)]) (fun(k:Nat)=>[cl b (bv (nrow n k)) 256]) (fun(k:Nat)=>(k≤8)) (fun(k:Nat)=>8-k) 0 ?_ (Conv.mk kr) slr ?_
 ·exact zH _
 rintro k hk
 refine Rq [0,1,5,7,8] ?_
 refine eC rfl (p:=((k:Int)<(8:Int))) kr (fun c1=>?_) (fun c1=>?_)
 ·refine Rq [0,1,5,6,7] ?_
  refine Bp 8 [] (some [0,1,5,7,16,17]) (fun _=>[(i6 (8*(k:Int))),(i6 (56-(8*(k:Int)))),(0≤(56-(8*(k:Int)))∧((56-(8*(k:Int)))).toNat≤64),(iL (k:Int) 8)]) ⟨om,om,om,om,trivial⟩ ?_
  refine Lu (zS (b:=b) (off:=k) (v:=.int .u8 (((n:Int) / ((2^((56-(8*(k:Int)))).toNat:Nat):Int))%256)) rfl kr kr rfl kr 0 (cs:=(bv (nrow n k))) (e:=256) kr (by rw[zP,nrow_len];omega)) ?_
  refine zg rfl ?_
  refine Cg (Γ':=[(7,[],iN k),(5,[],pT b),(0,[],.int .u64 (n:Int)),(1,[],.int .i64 8)]) ?_
  refine Rg [0,1,5,7] [] (fun _=>[(i6 ((k:Int)+1))]) ⟨om,trivial⟩ ?_
  refine oB 0 rfl (show _=(bv (nrow n (k+1)))from nrow_step n k om rfl) ?_
  refine zG rfl (k+1) (show k+1≤8 by omega) om (Conv.mk kr) (cO .slnil)
 refine Rg [4] [dZ,dZ,dZ,(dS (.string (beS n 8)))] (fun S=>[(i6 (0:Int)),(0≤(0:Int)),(0≤8∧8≤8),(∀w1,S w1→(Conv.bytesToString (.slice (some ⟨b,(if 8=0 then 0 else 0),none⟩) (8-0) (8-0))).run Tryz.prog w1=.ok (.string (beS n 8)) w1)]) ⟨om,om,om,(fun w1 h=>num_str h rfl om 8 rfl),trivial⟩ ?_
 refine Rt [.string (beS n 8)] (fun w1 hp=>?_)
 exact⟨rfl,hp.ext⟩
theorem wWith (s:ByteArray) (la:Option Addr) (cap:Nat) (ss:List ByteArray) (Rl:List (Nat×Obj)) (w:World) (hI:InS Rl la ss.length (fun j=>.string (sat ss j))) (hR:Has w Rl) (hn:ss.length≤maxLen) (hr:s.size+(cat ss).length≤140737488355328) :
  Calls Tryz.prog 142 #[.agg #[.string s],.slice la ss.length cap] w fun e w'=>e=.returned (.agg #[.string (tx (s.data.toList++cat ss))])∧Ext [] w w':=by
 unfold maxLen at hn
 refine enter [] Rl [] Tryz.func142 rfl kr (yj hR) ?_
 refine Be rfl rfl (y7 (v:=.agg #[.string s]) rfl kr) ?_
 rintro o ⟨ho,no⟩
 refine Le (zM (z:=(.agg #[.string ByteArray.empty])) rfl kr) ?_
 rintro rs ⟨hrs,nrs⟩
 refine zg rfl ?_
 refine Cg (Γ':=[(4,[],pT rs),(2,[],pT o),(1,[],.slice la ss.length cap)]) ?_
 refine Be rfl rfl (Eff.allocB 5 [cl rs #[.string ByteArray.empty] 202,cl o #[.string s] 202] [] rfl rfl kr) ?_
 rintro b ⟨hb,nb⟩
 refine zg rfl ?_
 refine Bp 2 [dZ,(dS (.string s))] (some [1,4,5,9]) (fun S=>[(cE S o 0 (.string s))]) ⟨(oC 1 rfl rfl),trivial⟩ ?_
 refine Le (zY (fun _=>(.tuple #[iN s.size,.nilIface]:Value)) (bl 113 5 b ([]) bd0) (fun B1=>bl 113 5 b (([])++s.data.toList) B1) (fun B1=>BdOk b (([])++s.data.toList) B1) [cl rs #[.string ByteArray.empty] 202,cl o #[.string s] 202] [] (by rfl) rfl Tryz.func147 rfl rfl kr (fun w1 h hh hd=>bWriteString b ([]) bd0 s w1 (bd0_ok b) hh hd (by simp only[List.length_nil];omega))) ?_
 rintro B1 kB1
 refine zg rfl ?_
 refine Cg (Γ':=[(5,[],pT b),(4,[],pT rs),(1,[],.slice la ss.length cap)]) ?_
 refine Rq [4,5,11,12,13] ?_
 refine zU (congrArg (fun(xq:List UInt8)=>(([(rs,.cells #[.string ByteArray.empty] 202 (0,0)),(o,.cells #[.string s] 202 (0,0))]++(bl 113 5 b xq B1++[])):LO)) (show _=(s.data.toList++cat (ss.take 0))from by rw[qG];simp[cat])) ?_
 refine ye rfl (ι:=Nat×Bd) (fun(i,B)=>[(13,[],iN i),(12,[],iN ss.length),(11,[],.slice la ss.length cap),(5,[],pT b),(4,[],pT rs)]) (fun(i,B)=>([cl rs #[.string ByteArray.empty] 202,cl o #[.string s] 202]++(bl 113 5 b (s.data.toList++cat (ss.take i)) B++[]))) (fun(i,B)=>(i≤ss.length)∧(BdOk b (s.data.toList++cat (ss.take i)) B)) (fun(i,B)=>ss.length-i) (0,B1) ?_ (Conv.mk kr) slr ?_
 ·exact⟨zH _,by rw[qG,show s.data.toList++cat []=[]++s.data.toList by simp[cat]];exact kB1⟩
 rintro⟨i,B⟩ ⟨hi,hB⟩
 refine Rq [4,5,11,12,13,14] ?_
 refine eC rfl (p:=((i:Int)<(ss.length:Int))) kr (fun c1=>?_) (fun c1=>?_)
 ·obtain⟨sb,off,cs,te,fre,rfl,hmem,hcs⟩:=hI om
  refine y9 (Γ':=[(14,[],.bool (decide ((i:Int)<(ss.length:Int)))),(13,[],iN i),(12,[],iN ss.length),(11,[],sP sb off ss.length cap),(5,[],pT b),(4,[],pT rs)]) (Conv.mk kr) ?_
  refine Rg [4,5,7,11,12,13] [dZ,(dS (.string (sat ss i)))] (fun S=>[(0≤(i:Int)∧(i:Int)<(ss.length:Int)),(cE S sb (addO off i) (.string (sat ss i)))]) ⟨om,(fun w1 h=>by rw[y4];exact(zI (h.ro _ hmem)).trans (hcs i om)),trivial⟩ ?_
  refine Bq 1 [4,5,11,12,13,17] ?_
  refine Le (zY (fun _=>(.tuple #[.int .i64 ((sat ss i).size:Int),.nilIface]:Value)) (bl 113 5 b (s.data.toList++cat (ss.take i)) B) (fun B1=>bl 113 5 b ((s.data.toList++cat (ss.take i))++(sat ss i).data.toList) B1) (fun B1=>BdOk b ((s.data.toList++cat (ss.take i))++(sat ss i).data.toList) B1) [cl rs #[.string ByteArray.empty] 202,cl o #[.string s] 202] [] (by rfl) rfl Tryz.func147 rfl rfl kr (fun w1 h hh hd=>bWriteString b (s.data.toList++cat (ss.take i)) B (sat ss i) w1 hB hh hd (by have:=cat_part (ss:=ss) (i:=i) om;rw[zh,ba_len];omega))) ?_
  rintro B2 kB2
  refine zg rfl ?_
  refine Cg (Γ':=[(13,[],iN i),(12,[],iN ss.length),(11,[],sP sb off ss.length cap),(5,[],pT b),(4,[],pT rs)]) ?_
  refine Rg [4,5,11,12,13] [] (fun _=>[(i6 ((i:Int)+1))]) ⟨om,trivial⟩ ?_
  have hcs2:(s.data.toList++cat (ss.take i))++(sat ss i).data.toList=(s.data.toList++cat (ss.take (i+1))):=by rw[cat_succ om,zO]
  refine zU (congrArg (fun(xq:List UInt8)=>(([cl rs #[.string ByteArray.empty] 202,cl o #[.string s] 202]++(bl 113 5 b xq B2++[])):LO)) (show _=(s.data.toList++cat (ss.take (i+1)))from hcs2)) ?_
  refine zG rfl (i+1,B2) ⟨by omega,hcs2▸kB2⟩ (by show ss.length-(i+1)<ss.length-i;omega) (Conv.mk kr) slr
 obtain rfl:i=ss.length:=by omega
 refine zU (congrArg (fun(xq:List UInt8)=>(([(rs,.cells #[.string ByteArray.empty] 202 (0,0)),(o,.cells #[.string s] 202 (0,0))]++(bl 113 5 b xq B++[])):LO)) (show _=(s.data.toList++cat ss)from by rw[yV])) ?_
 rw[yV]at hB
 refine y9 (Γ':=[(12,[],iN ss.length),(11,[],.slice la ss.length cap),(5,[],pT b),(4,[],pT rs)]) (Conv.mk kr) ?_
 refine Cfg.begL rfl ?_
 refine Lu (zY (fun _:Unit=>(.string (tx (s.data.toList++cat ss)):Value)) (bl 113 5 b (s.data.toList++cat ss) B) (fun _=>[]) (fun _=>True) [cl rs #[.string ByteArray.empty] 202,cl o #[.string s] 202] [] (by rfl) rfl Tryz.func46 rfl rfl kr (fun w1 h hh hd=>bString b (s.data.toList++cat ss) B w1 hB hh hd (by rw[zh,ba_len];omega))) ?_
 refine Lp 1 [(dS (.agg #[.string (tx (s.data.toList++cat ss))]))] (some [4,21]) (fun S=>[(∀w1,S w1→(Instr.build 202 #[(0,.string (tx (s.data.toList++cat ss)))]).run Tryz.prog w1=.ok (.agg #[.string (tx (s.data.toList++cat ss))]) w1)]) ⟨(fun _ _=>kr),trivial⟩ ?_
 refine Lu (zC (b:=rs) (off:=0) (vs:=#[.string (tx (s.data.toList++cat ss))]) (n:=1) rfl kr kr kr rfl (by simp[K.one]) 0 (cs:=#[.string ByteArray.empty]) (e:=202) kr (by simp)) ?_
 refine oL 0 rfl (show _ = #[.string (tx (s.data.toList++cat ss))]from rfl) ?_
 refine zg rfl ?_
 refine Cg (Γ':=[(4,[],pT rs)]) ?_
 refine yD rfl (rs:=[.cell 4 202]) rfl [.agg #[.string (tx (s.data.toList++cat ss))]] ⟨⟨_,by kernel_rfl,(fun w1 h=>h.oload 0 rfl Tryz.underlying202 rfl (n:=1) kr rfl)⟩,trivial⟩ (fun w1 hp=>?_)
 exact⟨rfl,hp.ext⟩
end
section
open K
def flat {α:Type} (f:α→List UInt8) (l:List α):List UInt8:=l.flatMap f
theorem flat_app {α:Type} (f:α→List UInt8) (a b:List α):flat f (a++b)=flat f a++flat f b:=yY ..
theorem flat_succ {α:Type} {f:α→List UInt8} {l:List α} {i:Nat} (d:α) (h:i<l.length):flat f (l.take (i+1))=flat f (l.take i)++f (l.getD i d):=by
 rw[zV h,flat_app]
 simp[flat,List.getElem?_eq_getElem h]
theorem flat_part {α:Type} {f:α→List UInt8} {l:List α} {i:Nat} (d:α) (h:i<l.length):(flat f (l.take i)).length+(f (l.getD i d)).length≤(flat f l).length:=by
 have h1:=flat_succ (f:=f) d h
 have h2:flat f l=flat f (l.take (i+1))++flat f (l.drop (i+1)):=by rw[←flat_app,yz]
 rw[h2,h1,zh,zh];omega
theorem cat_tx (l:List UInt8):cat [tx l]=l:=by rw[cat_one,tx_list]
def four (n:Nat):List UInt8:=be n 4
def eight (n:Nat):List UInt8:=be n 8
theorem HP.notin {w0 w:World} {M:List Nat} {R Fl A T:List (Nat×Obj)} {d:Nat} {ob:Obj} (h:HP w0 M R (Fl++(A++T)) w) (hm:(d,ob)∈Fl):d∉A.map (·.1):=by
 intro hx
 have hd:=h.dist
 rw[yf,yf]at hd
 exact(y6.1 hd).2.2 d (zv.2 ⟨_,hm,rfl⟩) d (mL hx) rfl
theorem zsz32:(bv (replicate 32 0)).size=32:=rfl
theorem wByte (s:ByteArray) (n:Nat) (w:World) (hn:n<256) (hr:s.size+1≤140737488355328) :
  Calls Tryz.prog 111 #[.agg #[.string s],.int .u8 (n:Int)] w fun e w'=>e=.returned (.agg #[.string (tx (s.data.toList++be n 1))])∧Ext [] w w':=by
 refine enter [] [] [] Tryz.func111 rfl kr (yy w) ?_
 refine Be rfl rfl (y7 (v:=.agg #[.string s]) rfl kr) ?_
 rintro o ⟨ho,no⟩
 refine Le (zM (z:=(.agg #[.string ByteArray.empty])) rfl kr) ?_
 rintro rs ⟨hrs,nrs⟩
 refine zg rfl ?_
 refine Cg (Γ':=[(4,[],pT rs),(2,[],pT o),(1,[],.int .u8 (n:Int))]) ?_
 refine yo rfl kr [cl o #[.string s] 202] ?_
 refine Ap [0,1,2] [(dS (.agg #[.string s]))] (some [4,5,7]) (tF 3 4) (.cons _ (cO .slnil)) 4 (fun S=>[(lV S 202 o 0 (.agg #[.string s])),((0:Int)≤(n:Int)∧(n:Int)≤18446744073709551615)]) ⟨(fun w1 h=>h.oload 0 rfl Tryz.underlying202 rfl (n:=1) kr rfl),om,trivial⟩ ?_
 refine Au 3 rfl 3  (zr (.string (beS n 1)) rfl Tryz.func143 rfl rfl kr (fun w1 _=>wNumber1 n w1 om)) (fun _ _=>(.cons _ (cO .slnil))) ?_
 refine Ae 4 rfl 2  (yP (e:=9) (cells:=#[.string (beS n 1)]) (parts:=#[(0,.string (beS n 1))]) rfl kr (fun _=>kr)) (fun _ _=>(.cons _ (.cons _ (cO .slnil)))) ?_
 rintro x3 ⟨hx3,nx3⟩
 refine Au 5 rfl 1  (zr (.agg #[.string (tx (s.data.toList++cat [(beS n 1)]))]) rfl Tryz.func142 rfl rfl kr (fun w1 h=>wWith s (some ⟨x3,0,none⟩) 1 [(beS n 1)] [(x3,.cells (List.map Value.string [(beS n 1)]).toArray 9 (0,0))] w1 (inS_lit x3 9 (0,0) [(beS n 1)]) (h.has (fun e he=>mG 0 (by rw[zi.1 he];rfl))) (one_len _) (by rw[cat_one,beS_list,be_len];omega))) (fun _ _=>(.cons _ (.cons _ (cO .slnil)))) ?_
 refine Au 6 rfl 0  (zC (b:=rs) (off:=0) (vs:=#[.string (tx (s.data.toList++cat [(beS n 1)]))]) (n:=1) rfl kr kr kr rfl (by simp[K.one]) 1 (cs:=#[.string ByteArray.empty]) (e:=202) kr (by simp)) (fun _ _=>(.cons _ (.cons _ (cO .slnil)))) ?_
 refine oA 1 rfl (show _ = #[.string (tx (s.data.toList++cat [(beS n 1)]))]from rfl) ?_
 refine z6 kr ?_
 refine Cg (Γ':=[(4,[],pT rs)]) ?_
 refine yD rfl (rs:=[.cell 4 202]) rfl [.agg #[.string (tx (s.data.toList++cat [(beS n 1)]))]] ⟨⟨_,by kernel_rfl,(fun w1 h=>h.oload 1 rfl Tryz.underlying202 rfl (n:=1) kr rfl)⟩,trivial⟩ (fun w1 hp=>?_)
 exact⟨by rw[cat_one,beS_list];rfl,hp.ext⟩
theorem wFour (s:ByteArray) (la:Option Addr) (cap:Nat) (xs:List Nat) (Rl:List (Nat×Obj)) (w:World) (hI:InS Rl la xs.length (fun j=>.int .u32 ((xs.getD j 0:Nat):Int))) (hR:Has w Rl) (hn:xs.length≤maxLen) (hr:s.size+(flat four xs).length≤140737488355328) (hx:∀i,xs.getD i 0<4294967296) :
  Calls Tryz.prog 114 #[.agg #[.string s],.slice la xs.length cap] w fun e w'=>e=.returned (.agg #[.string (tx (s.data.toList++flat four xs))])∧Ext [] w w':=by
 unfold maxLen at hn
 refine enter [] Rl [] Tryz.func114 rfl kr (yj hR) ?_
 refine Be rfl rfl (y7 (v:=.agg #[.string s]) rfl kr) ?_
 rintro o ⟨ho,no⟩
 refine Le (zM (z:=(.agg #[.string ByteArray.empty])) rfl kr) ?_
 rintro rs ⟨hrs,nrs⟩
 refine zg rfl ?_
 refine Cg (Γ':=[(4,[],pT rs),(2,[],pT o),(1,[],.slice la xs.length cap)]) ?_
 refine Be rfl rfl (Eff.allocB 5 [cl rs #[.string ByteArray.empty] 202,cl o #[.string s] 202] [] rfl rfl kr) ?_
 rintro b ⟨hb,nb⟩
 refine zg rfl ?_
 refine Rq [2,4,5,8,9,10] ?_
 refine zU (congrArg (fun(xq:List UInt8)=>(([(rs,.cells #[.string ByteArray.empty] 202 (0,0)),(o,.cells #[.string s] 202 (0,0))]++(bl 113 5 b xq bd0++[])):LO)) (show _=(flat four (xs.take 0))from by rw[qG];rfl)) ?_
 refine ye rfl (ι:=Nat×Bd) (fun(i,B)=>[(10,[],iN i),(9,[],iN xs.length),(8,[],.slice la xs.length cap),(5,[],pT b),(4,[],pT rs),(2,[],pT o)]) (fun(i,B)=>([cl rs #[.string ByteArray.empty] 202,cl o #[.string s] 202]++(bl 113 5 b (flat four (xs.take i)) B++[]))) (fun(i,B)=>(i≤xs.length)∧(BdOk b (flat four (xs.take i)) B)) (fun(i,B)=>xs.length-i) (0,bd0) ?_ (Conv.mk kr) slr ?_
 ·exact⟨zH _,by rw[qG];exact(bd0_ok b)⟩
 rintro⟨i,B⟩ ⟨hi,hB⟩
 have hpart:=fun(hlt:i<xs.length)=>flat_part (f:=four) 0 hlt
 refine Rq [2,4,5,8,9,10,11] ?_
 refine eC rfl (p:=((i:Int)<(xs.length:Int))) kr (fun c1=>?_) (fun c1=>?_)
 ·have hpt:=hpart om
  obtain⟨sb,off,cs,te,fre,rfl,hmem,hcs⟩:=hI om
  refine y9 (Γ':=[(11,[],.bool (decide ((i:Int)<(xs.length:Int)))),(10,[],iN i),(9,[],iN xs.length),(8,[],sP sb off xs.length cap),(5,[],pT b),(4,[],pT rs),(2,[],pT o)]) (Conv.mk kr) ?_
  refine Rg [2,4,5,7,8,9,10] [dZ,(dS (uN (xs.getD i 0)))] (fun S=>[(0≤(i:Int)∧(i:Int)<(xs.length:Int)),(cE S sb (addO off i) (uN (xs.getD i 0)))]) ⟨om,(fun w1 h=>by rw[y4];exact(zI (h.ro _ hmem)).trans (hcs i om)),trivial⟩ ?_
  refine Bp 2 [] (some [2,4,5,8,9,10,15]) (fun _=>[((0:Int)≤((xs.getD i 0):Int)∧((xs.getD i 0):Int)≤18446744073709551615)]) ⟨(by have:=hx i;omega),trivial⟩ ?_
  refine Lu (zr (.string (beS ((xs.getD i 0)) 4)) rfl Tryz.func143 rfl rfl kr (fun w1 _=>wNumber4 ((xs.getD i 0)) w1 (by have:=hx i;omega))) ?_
  refine Le (zY (fun _=>(.tuple #[.int .i64 ((beS ((xs.getD i 0)) 4).size:Int),.nilIface]:Value)) (bl 113 5 b (flat four (xs.take i)) B) (fun B1=>bl 113 5 b ((flat four (xs.take i))++(beS ((xs.getD i 0)) 4).data.toList) B1) (fun B1=>BdOk b ((flat four (xs.take i))++(beS ((xs.getD i 0)) 4).data.toList) B1) [cl rs #[.string ByteArray.empty] 202,cl o #[.string s] 202] [] (by rfl) rfl Tryz.func147 rfl rfl kr (fun w1 h hh hd=>bWriteString b (flat four (xs.take i)) B (beS ((xs.getD i 0)) 4) w1 hB hh hd (by rw[qM];have:(four (xs.getD i 0)).length=4:=be_len _ _;omega))) ?_
  rintro B2 kB2
  refine zg rfl ?_
  refine Cg (Γ':=[(10,[],iN i),(9,[],iN xs.length),(8,[],sP sb off xs.length cap),(5,[],pT b),(4,[],pT rs),(2,[],pT o)]) ?_
  refine Rg [2,4,5,8,9,10] [] (fun _=>[(i6 ((i:Int)+1))]) ⟨om,trivial⟩ ?_
  have hcs2:((flat four (xs.take i))++(beS ((xs.getD i 0)) 4).data.toList)=(flat four (xs.take (i+1))):=by rw[flat_succ 0 om];rfl
  refine zU (congrArg (fun(xq:List UInt8)=>(([cl rs #[.string ByteArray.empty] 202,cl o #[.string s] 202]++(bl 113 5 b xq B2++[])):LO)) (show _=(flat four (xs.take (i+1)))from hcs2)) ?_
  refine zG rfl (i+1,B2) ⟨by omega,hcs2▸kB2⟩ (by show xs.length-(i+1)<xs.length-i;omega) (Conv.mk kr) slr
 obtain rfl:i=xs.length:=by omega
 refine zU (congrArg (fun(xq:List UInt8)=>(([(rs,.cells #[.string ByteArray.empty] 202 (0,0)),(o,.cells #[.string s] 202 (0,0))]++(bl 113 5 b xq B++[])):LO)) (show _=(flat four xs)from by rw[yV])) ?_
 rw[yV]at hB
 refine y9 (Γ':=[(9,[],iN xs.length),(8,[],.slice la xs.length cap),(5,[],pT b),(4,[],pT rs),(2,[],pT o)]) (Conv.mk kr) ?_
 refine yo rfl kr [cl o #[.string s] 202] ?_
 refine Ap [0] [(dS (.agg #[.string s]))] (some [4,5,19]) (tF 1 4) (.cons _ (cO nL)) 4 (fun S=>[(lV S 202 o 0 (.agg #[.string s]))]) ⟨(fun w1 h=>h.oload 0 rfl Tryz.underlying202 rfl (n:=1) kr rfl),trivial⟩ ?_
 refine Au 1 rfl 3  (zY (fun _:Unit=>(.string (tx (flat four xs)):Value)) (bl 113 5 b (flat four xs) B) (fun _=>[]) (fun _=>True) [cl rs #[.string ByteArray.empty] 202,cl o #[.string s] 202] [] (by rfl) rfl Tryz.func46 rfl rfl kr (fun w1 h hh hd=>bString b (flat four xs) B w1 hB hh hd om)) (fun _ _=>(.cons _ (cO .slnil))) ?_
 refine Ae 2 rfl 2  (yP (e:=9) (cells:=#[.string (tx (flat four xs))]) (parts:=#[(0,.string (tx (flat four xs)))]) rfl kr (fun _=>kr)) (fun _ _=>(.cons _ (.cons _ (cO .slnil)))) ?_
 rintro x3 ⟨hx3,nx3⟩
 refine Au 3 rfl 1  (zr (.agg #[.string (tx (s.data.toList++cat [(tx (flat four xs))]))]) rfl Tryz.func142 rfl rfl kr (fun w1 h=>wWith s (some ⟨x3,0,none⟩) 1 [(tx (flat four xs))] [(x3,.cells (List.map Value.string [(tx (flat four xs))]).toArray 9 (0,0))] w1 (inS_lit x3 9 (0,0) [(tx (flat four xs))]) (h.has (fun e he=>mG 0 (by rw[zi.1 he];rfl))) (one_len _) (by rw[cat_tx];omega))) (fun _ _=>(.cons _ (.cons _ (cO .slnil)))) ?_
 refine Au 4 rfl 0  (zC (b:=rs) (off:=0) (vs:=#[.string (tx (s.data.toList++cat [(tx (flat four xs))]))]) (n:=1) rfl kr kr kr rfl (by simp[K.one]) 1 (cs:=#[.string ByteArray.empty]) (e:=202) kr (by simp)) (fun _ _=>(.cons _ (.cons _ (cO .slnil)))) ?_
 refine oA 1 rfl (show _ = #[.string (tx (s.data.toList++cat [(tx (flat four xs))]))]from rfl) ?_
 refine z6 kr ?_
 refine Cg (Γ':=[(4,[],pT rs)]) ?_
 refine yD rfl (rs:=[.cell 4 202]) rfl [.agg #[.string (tx (s.data.toList++cat [(tx (flat four xs))]))]] ⟨⟨_,by kernel_rfl,(fun w1 h=>h.oload 1 rfl Tryz.underlying202 rfl (n:=1) kr rfl)⟩,trivial⟩ (fun w1 hp=>?_)
 exact⟨by rw[cat_tx];rfl,hp.ext⟩
theorem wEight (s:ByteArray) (la:Option Addr) (cap:Nat) (xs:List Nat) (Rl:List (Nat×Obj)) (w:World) (hI:InS Rl la xs.length (fun j=>.int .u64 ((xs.getD j 0:Nat):Int))) (hR:Has w Rl) (hn:xs.length≤maxLen) (hr:s.size+(flat eight xs).length≤140737488355328) (hx:∀i,xs.getD i 0<18446744073709551616) :
  Calls Tryz.prog 134 #[.agg #[.string s],.slice la xs.length cap] w fun e w'=>e=.returned (.agg #[.string (tx (s.data.toList++flat eight xs))])∧Ext [] w w':=by
 unfold maxLen at hn
 refine enter [] Rl [] Tryz.func134 rfl kr (yj hR) ?_
 refine Be rfl rfl (y7 (v:=.agg #[.string s]) rfl kr) ?_
 rintro o ⟨ho,no⟩
 refine Le (zM (z:=(.agg #[.string ByteArray.empty])) rfl kr) ?_
 rintro rs ⟨hrs,nrs⟩
 refine zg rfl ?_
 refine Cg (Γ':=[(4,[],pT rs),(2,[],pT o),(1,[],.slice la xs.length cap)]) ?_
 refine Be rfl rfl (Eff.allocB 5 [cl rs #[.string ByteArray.empty] 202,cl o #[.string s] 202] [] rfl rfl kr) ?_
 rintro b ⟨hb,nb⟩
 refine zg rfl ?_
 refine Rq [2,4,5,8,9,10] ?_
 refine zU (congrArg (fun(xq:List UInt8)=>(([(rs,.cells #[.string ByteArray.empty] 202 (0,0)),(o,.cells #[.string s] 202 (0,0))]++(bl 113 5 b xq bd0++[])):LO)) (show _=(flat eight (xs.take 0))from by rw[qG];rfl)) ?_
 refine ye rfl (ι:=Nat×Bd) (fun(i,B)=>[(10,[],iN i),(9,[],iN xs.length),(8,[],.slice la xs.length cap),(5,[],pT b),(4,[],pT rs),(2,[],pT o)]) (fun(i,B)=>([cl rs #[.string ByteArray.empty] 202,cl o #[.string s] 202]++(bl 113 5 b (flat eight (xs.take i)) B++[]))) (fun(i,B)=>(i≤xs.length)∧(BdOk b (flat eight (xs.take i)) B)) (fun(i,B)=>xs.length-i) (0,bd0) ?_ (Conv.mk kr) slr ?_
 ·exact⟨zH _,by rw[qG];exact(bd0_ok b)⟩
 rintro⟨i,B⟩ ⟨hi,hB⟩
 have hpart:=fun(hlt:i<xs.length)=>flat_part (f:=eight) 0 hlt
 refine Rq [2,4,5,8,9,10,11] ?_
 refine eC rfl (p:=((i:Int)<(xs.length:Int))) kr (fun c1=>?_) (fun c1=>?_)
 ·have hpt:=hpart om
  obtain⟨sb,off,cs,te,fre,rfl,hmem,hcs⟩:=hI om
  refine y9 (Γ':=[(11,[],.bool (decide ((i:Int)<(xs.length:Int)))),(10,[],iN i),(9,[],iN xs.length),(8,[],sP sb off xs.length cap),(5,[],pT b),(4,[],pT rs),(2,[],pT o)]) (Conv.mk kr) ?_
  refine Rg [2,4,5,7,8,9,10] [dZ,(dS (.int .u64 ((xs.getD i 0):Int)))] (fun S=>[(0≤(i:Int)∧(i:Int)<(xs.length:Int)),(cE S sb (addO off i) (.int .u64 ((xs.getD i 0):Int)))]) ⟨om,(fun w1 h=>by rw[y4];exact(zI (h.ro _ hmem)).trans (hcs i om)),trivial⟩ ?_
  refine Bq 1 [2,4,5,8,9,10,14] ?_
  refine Lu (zr (.string (beS ((xs.getD i 0)) 8)) rfl Tryz.func143 rfl rfl kr (fun w1 _=>wNumber8 ((xs.getD i 0)) w1 (by have:=hx i;omega))) ?_
  refine Le (zY (fun _=>(.tuple #[.int .i64 ((beS ((xs.getD i 0)) 8).size:Int),.nilIface]:Value)) (bl 113 5 b (flat eight (xs.take i)) B) (fun B1=>bl 113 5 b ((flat eight (xs.take i))++(beS ((xs.getD i 0)) 8).data.toList) B1) (fun B1=>BdOk b ((flat eight (xs.take i))++(beS ((xs.getD i 0)) 8).data.toList) B1) [cl rs #[.string ByteArray.empty] 202,cl o #[.string s] 202] [] (by rfl) rfl Tryz.func147 rfl rfl kr (fun w1 h hh hd=>bWriteString b (flat eight (xs.take i)) B (beS ((xs.getD i 0)) 8) w1 hB hh hd (by rw[qM];have:(eight (xs.getD i 0)).length=8:=be_len _ _;omega))) ?_
  rintro B2 kB2
  refine zg rfl ?_
  refine Cg (Γ':=[(10,[],iN i),(9,[],iN xs.length),(8,[],sP sb off xs.length cap),(5,[],pT b),(4,[],pT rs),(2,[],pT o)]) ?_
  refine Rg [2,4,5,8,9,10] [] (fun _=>[(i6 ((i:Int)+1))]) ⟨om,trivial⟩ ?_
  have hcs2:((flat eight (xs.take i))++(beS ((xs.getD i 0)) 8).data.toList)=(flat eight (xs.take (i+1))):=by rw[flat_succ 0 om];rfl
  refine zU (congrArg (fun(xq:List UInt8)=>(([cl rs #[.string ByteArray.empty] 202,cl o #[.string s] 202]++(bl 113 5 b xq B2++[])):LO)) (show _=(flat eight (xs.take (i+1)))from hcs2)) ?_
  refine zG rfl (i+1,B2) ⟨by omega,hcs2▸kB2⟩ (by show xs.length-(i+1)<xs.length-i;omega) (Conv.mk kr) slr
 obtain rfl:i=xs.length:=by omega
 refine zU (congrArg (fun(xq:List UInt8)=>(([(rs,.cells #[.string ByteArray.empty] 202 (0,0)),(o,.cells #[.string s] 202 (0,0))]++(bl 113 5 b xq B++[])):LO)) (show _=(flat eight xs)from by rw[yV])) ?_
 rw[yV]at hB
 refine y9 (Γ':=[(9,[],iN xs.length),(8,[],.slice la xs.length cap),(5,[],pT b),(4,[],pT rs),(2,[],pT o)]) (Conv.mk kr) ?_
 refine yo rfl kr [cl o #[.string s] 202] ?_
 refine Ap [0] [(dS (.agg #[.string s]))] (some [4,5,18]) (tF 1 4) (.cons _ (cO nL)) 4 (fun S=>[(lV S 202 o 0 (.agg #[.string s]))]) ⟨(fun w1 h=>h.oload 0 rfl Tryz.underlying202 rfl (n:=1) kr rfl),trivial⟩ ?_
 refine Au 1 rfl 3  (zY (fun _:Unit=>(.string (tx (flat eight xs)):Value)) (bl 113 5 b (flat eight xs) B) (fun _=>[]) (fun _=>True) [cl rs #[.string ByteArray.empty] 202,cl o #[.string s] 202] [] (by rfl) rfl Tryz.func46 rfl rfl kr (fun w1 h hh hd=>bString b (flat eight xs) B w1 hB hh hd om)) (fun _ _=>(.cons _ (cO .slnil))) ?_
 refine Ae 2 rfl 2  (yP (e:=9) (cells:=#[.string (tx (flat eight xs))]) (parts:=#[(0,.string (tx (flat eight xs)))]) rfl kr (fun _=>kr)) (fun _ _=>(.cons _ (.cons _ (cO .slnil)))) ?_
 rintro x3 ⟨hx3,nx3⟩
 refine Au 3 rfl 1  (zr (.agg #[.string (tx (s.data.toList++cat [(tx (flat eight xs))]))]) rfl Tryz.func142 rfl rfl kr (fun w1 h=>wWith s (some ⟨x3,0,none⟩) 1 [(tx (flat eight xs))] [(x3,.cells (List.map Value.string [(tx (flat eight xs))]).toArray 9 (0,0))] w1 (inS_lit x3 9 (0,0) [(tx (flat eight xs))]) (h.has (fun e he=>mG 0 (by rw[zi.1 he];rfl))) (one_len _) (by rw[cat_tx];omega))) (fun _ _=>(.cons _ (.cons _ (cO .slnil)))) ?_
 refine Au 4 rfl 0  (zC (b:=rs) (off:=0) (vs:=#[.string (tx (s.data.toList++cat [(tx (flat eight xs))]))]) (n:=1) rfl kr kr kr rfl (by simp[K.one]) 1 (cs:=#[.string ByteArray.empty]) (e:=202) kr (by simp)) (fun _ _=>(.cons _ (.cons _ (cO .slnil)))) ?_
 refine oA 1 rfl (show _ = #[.string (tx (s.data.toList++cat [(tx (flat eight xs))]))]from rfl) ?_
 refine z6 kr ?_
 refine Cg (Γ':=[(4,[],pT rs)]) ?_
 refine yD rfl (rs:=[.cell 4 202]) rfl [.agg #[.string (tx (s.data.toList++cat [(tx (flat eight xs))]))]] ⟨⟨_,by kernel_rfl,(fun w1 h=>h.oload 1 rfl Tryz.underlying202 rfl (n:=1) kr rfl)⟩,trivial⟩ (fun w1 hp=>?_)
 exact⟨by rw[cat_tx];rfl,hp.ext⟩
theorem wDigest (s:ByteArray) (la:Option Addr) (cap:Nat) (xs:List (List UInt8)) (Rl:List (Nat×Obj)) (w:World) (hI:InS Rl la (xs.length*32) (fun j=>.int .u8 (((xs.getD (j / 32) []).getD (j%32) 0).toNat:Int))) (hR:Has w Rl) (hn:xs.length≤maxLen) (hr:s.size+(flat id xs).length≤140737488355328) (hx:∀i,i<xs.length→(xs.getD i []).length=32) :
  Calls Tryz.prog 135 #[.agg #[.string s],.slice la xs.length cap] w fun e w'=>e=.returned (.agg #[.string (tx (s.data.toList++flat id xs))])∧Ext [] w w':=by
 unfold maxLen at hn
 refine enter [] Rl [] Tryz.func135 rfl kr (yj hR) ?_
 refine Be rfl rfl (y7 (v:=.agg #[.string s]) rfl kr) ?_
 rintro o ⟨ho,no⟩
 refine Le (zM (z:=(.agg #[.string ByteArray.empty])) rfl kr) ?_
 rintro rs ⟨hrs,nrs⟩
 refine zg rfl ?_
 refine Cg (Γ':=[(4,[],pT rs),(2,[],pT o),(1,[],.slice la xs.length cap)]) ?_
 refine Be rfl rfl (Eff.allocB 5 [cl rs #[.string ByteArray.empty] 202,cl o #[.string s] 202] [] rfl rfl kr) ?_
 rintro b ⟨hb,nb⟩
 refine zg rfl ?_
 refine Rq [2,4,5,8,9,10] ?_
 refine zU (congrArg (fun(xq:List UInt8)=>(([(rs,.cells #[.string ByteArray.empty] 202 (0,0)),(o,.cells #[.string s] 202 (0,0))]++(bl 113 5 b xq bd0++[])):LO)) (show _=(flat id (xs.take 0))from by rw[qG];rfl)) ?_
 refine ye rfl (ι:=Nat×Bd) (fun(i,B)=>[(10,[],iN i),(9,[],iN xs.length),(8,[],.slice la xs.length cap),(5,[],pT b),(4,[],pT rs),(2,[],pT o)]) (fun(i,B)=>([cl rs #[.string ByteArray.empty] 202,cl o #[.string s] 202]++(bl 113 5 b (flat id (xs.take i)) B++[]))) (fun(i,B)=>(i≤xs.length)∧(BdOk b (flat id (xs.take i)) B)) (fun(i,B)=>xs.length-i) (0,bd0) ?_ (Conv.mk kr) slr ?_
 ·exact⟨zH _,by rw[qG];exact(bd0_ok b)⟩
 rintro⟨i,B⟩ ⟨hi,hB⟩
 have hpart:=fun(hlt:i<xs.length)=>flat_part (f:=id) [] hlt
 refine Rq [2,4,5,8,9,10,11] ?_
 refine eC rfl (p:=((i:Int)<(xs.length:Int))) kr (fun c1=>?_) (fun c1=>?_)
 ·have hpt:=hpart om
  obtain⟨sb,off,cs,te,fre,rfl,hmem,hcs⟩:=hI om
  refine y9 (Γ':=[(11,[],.bool (decide ((i:Int)<(xs.length:Int)))),(10,[],iN i),(9,[],iN xs.length),(8,[],sP sb off xs.length cap),(5,[],pT b),(4,[],pT rs),(2,[],pT o)]) (Conv.mk kr) ?_
  refine Bp 2 [dZ,(dS (.agg (bv (xs.getD i []))))] (some [2,4,5,8,9,10,13]) (fun S=>[(0≤(i:Int)∧(i:Int)<(xs.length:Int)),(∀w1,S w1→(loadVar 226 ⟨sb,(addO off (i*32)),none⟩).run Tryz.prog w1=.ok (.agg (bv (xs.getD i []))) w1)]) ⟨om,(fun w1 h=>load_bytes Tryz.underlying226 rfl kr (hx i om) (fun j hj=>by rw[y4];exact(zI (h.ro _ hmem)).trans ((congrArg (fun z=>cs[z]?) (show off+i*32+j=off+(i*32+j) by omega)).trans ((hcs (i*32+j) om).trans (by simp only[show(i*32+j) / 32=i by omega,show(i*32+j)%32=j by omega]))))),trivial⟩ ?_
  refine Le (zM (z:=(.agg (bv (replicate 32 0)))) rfl kr) ?_
  rintro d ⟨hd,nd⟩
  refine Lu (zC (b:=d) (off:=0) (vs:=(bv (xs.getD i []))) (n:=32) rfl kr kr kr ((zP _).trans (hx i om)) (qF _) 0 (cs:=(bv (replicate 32 0))) (e:=226) kr (by rw[zsz32];omega)) ?_
  refine yF (congrArg (fun(xq:Array Value)=>(([cl d xq 226,cl rs #[.string ByteArray.empty] 202,cl o #[.string s] 202]++(bl 113 5 b (flat id (xs.take i)) B++[])):LO)) (show _=(bv (xs.getD i []))from yx (((zP _).trans (hx i om)).trans zsz32.symm))) ?_
  refine zg rfl ?_
  refine Cg (Γ':=[(7,[],pT d),(10,[],iN i),(9,[],iN xs.length),(8,[],sP sb off xs.length cap),(5,[],pT b),(4,[],pT rs),(2,[],pT o)]) ?_
  refine Bp 1 [] (some [2,4,5,8,9,10,14]) (fun _=>[(32≤32)]) ⟨om,trivial⟩ ?_
  refine Le (zY (fun _=>(.tuple #[.int .i64 32,.nilIface]:Value)) (bl 113 5 b (flat id (xs.take i)) B) (fun B1=>bl 113 5 b ((flat id (xs.take i))++(xs.getD i [])) B1) (fun B1=>BdOk b ((flat id (xs.take i))++(xs.getD i [])) B1) [cl d (bv (xs.getD i [])) 226,cl rs #[.string ByteArray.empty] 202,cl o #[.string s] 202] [] (by rfl) rfl Tryz.func45 rfl rfl kr (fun w1 h hh hd=>bWrite b (flat id (xs.take i)) B d 32 32 (xs.getD i []) 226 w1 hB hh hd (by have h32:=hx i om;have hid:(id (xs.getD i []):List UInt8).length=32:=h32;omega) (by decide) (hx i om) (h.own (d,_) (mG 0 rfl)) (HP.notin h (mG 0 rfl)))) ?_
  rintro B1 kB1
  refine zg rfl ?_
  refine Cg (Γ':=[(10,[],iN i),(9,[],iN xs.length),(8,[],sP sb off xs.length cap),(5,[],pT b),(4,[],pT rs),(2,[],pT o)]) ?_
  refine Rg [2,4,5,8,9,10] [] (fun _=>[(i6 ((i:Int)+1))]) ⟨om,trivial⟩ ?_
  have hcs2:((flat id (xs.take i))++(xs.getD i []))=(flat id (xs.take (i+1))):=by rw[flat_succ [] om];rfl
  refine zU (congrArg (fun(xq:List UInt8)=>(([cl d (bv (xs.getD i [])) 226,cl rs #[.string ByteArray.empty] 202,cl o #[.string s] 202]++(bl 113 5 b xq B1++[])):LO)) (show _=(flat id (xs.take (i+1)))from hcs2)) ?_
  refine zG rfl (i+1,B1) ⟨by omega,hcs2▸kB1⟩ (by show xs.length-(i+1)<xs.length-i;omega) (Conv.mk kr) (.cons _ slr)
 obtain rfl:i=xs.length:=by omega
 refine zU (congrArg (fun(xq:List UInt8)=>(([(rs,.cells #[.string ByteArray.empty] 202 (0,0)),(o,.cells #[.string s] 202 (0,0))]++(bl 113 5 b xq B++[])):LO)) (show _=(flat id xs)from by rw[yV])) ?_
 rw[yV]at hB
 refine y9 (Γ':=[(9,[],iN xs.length),(8,[],.slice la xs.length cap),(5,[],pT b),(4,[],pT rs),(2,[],pT o)]) (Conv.mk kr) ?_
 refine yo rfl kr [cl o #[.string s] 202] ?_
 refine Ap [0] [(dS (.agg #[.string s]))] (some [4,5,17]) (tF 1 4) (.cons _ (cO nL)) 4 (fun S=>[(lV S 202 o 0 (.agg #[.string s]))]) ⟨(fun w1 h=>h.oload 0 rfl Tryz.underlying202 rfl (n:=1) kr rfl),trivial⟩ ?_
 refine Au 1 rfl 3  (zY (fun _:Unit=>(.string (tx (flat id xs)):Value)) (bl 113 5 b (flat id xs) B) (fun _=>[]) (fun _=>True) [cl rs #[.string ByteArray.empty] 202,cl o #[.string s] 202] [] (by rfl) rfl Tryz.func46 rfl rfl kr (fun w1 h hh hd=>bString b (flat id xs) B w1 hB hh hd om)) (fun _ _=>(.cons _ (cO .slnil))) ?_
 refine Ae 2 rfl 2  (yP (e:=9) (cells:=#[.string (tx (flat id xs))]) (parts:=#[(0,.string (tx (flat id xs)))]) rfl kr (fun _=>kr)) (fun _ _=>(.cons _ (.cons _ (cO .slnil)))) ?_
 rintro x4 ⟨hx4,nx4⟩
 refine Au 3 rfl 1  (zr (.agg #[.string (tx (s.data.toList++cat [(tx (flat id xs))]))]) rfl Tryz.func142 rfl rfl kr (fun w1 h=>wWith s (some ⟨x4,0,none⟩) 1 [(tx (flat id xs))] [(x4,.cells (List.map Value.string [(tx (flat id xs))]).toArray 9 (0,0))] w1 (inS_lit x4 9 (0,0) [(tx (flat id xs))]) (h.has (fun e he=>mG 0 (by rw[zi.1 he];rfl))) (one_len _) (by rw[cat_tx];omega))) (fun _ _=>(.cons _ (.cons _ (cO .slnil)))) ?_
 refine Au 4 rfl 0  (zC (b:=rs) (off:=0) (vs:=#[.string (tx (s.data.toList++cat [(tx (flat id xs))]))]) (n:=1) rfl kr kr kr rfl (by simp[K.one]) 1 (cs:=#[.string ByteArray.empty]) (e:=202) kr (by simp)) (fun _ _=>(.cons _ (.cons _ (cO .slnil)))) ?_
 refine oA 1 rfl (show _ = #[.string (tx (s.data.toList++cat [(tx (flat id xs))]))]from rfl) ?_
 refine z6 kr ?_
 refine Cg (Γ':=[(4,[],pT rs)]) ?_
 refine yD rfl (rs:=[.cell 4 202]) rfl [.agg #[.string (tx (s.data.toList++cat [(tx (flat id xs))]))]] ⟨⟨_,by kernel_rfl,(fun w1 h=>h.oload 1 rfl Tryz.underlying202 rfl (n:=1) kr rfl)⟩,trivial⟩ (fun w1 hp=>?_)
 exact⟨by rw[cat_tx];rfl,hp.ext⟩
theorem wRaw (s:ByteArray) (la:Option Addr) (cap:Nat) (ss:List ByteArray) (Rl:List (Nat×Obj)) (w:World) (hI:InS Rl la ss.length (fun j=>.string (sat ss j))) (hR:Has w Rl) (hn:ss.length≤maxLen) (hr:s.size+(cat ss).length≤140737488355328) :
  Calls Tryz.prog 112 #[.agg #[.string s],.slice la ss.length cap] w fun e w'=>e=.returned (.agg #[.string (tx (s.data.toList++cat ss))])∧Ext [] w w':=by
 refine enter [] Rl [] Tryz.func112 rfl kr (yj hR) ?_
 refine Be rfl rfl (y7 (v:=.agg #[.string s]) rfl kr) ?_
 rintro o ⟨ho,no⟩
 refine Le (zM (z:=(.agg #[.string ByteArray.empty])) rfl kr) ?_
 rintro rs ⟨hrs,nrs⟩
 refine zg rfl ?_
 refine Cg (Γ':=[(4,[],pT rs),(2,[],pT o),(1,[],.slice la ss.length cap)]) ?_
 refine Bp 2 [(dS (.agg #[.string s]))] (some [4,5,6]) (fun S=>[(lV S 202 o 0 (.agg #[.string s]))]) ⟨(fun w1 h=>h.oload 1 rfl Tryz.underlying202 rfl (n:=1) kr rfl),trivial⟩ ?_
 refine Lu (zr (.agg #[.string (tx (s.data.toList++cat ss))]) rfl Tryz.func142 rfl rfl kr (fun w1 h=>wWith s la cap ss Rl w1 hI (h.hasR (fun _ he=>he)) hn hr)) ?_
 refine Lu (zC (b:=rs) (off:=0) (vs:=#[.string (tx (s.data.toList++cat ss))]) (n:=1) rfl kr kr kr rfl (by simp[K.one]) 0 (cs:=#[.string ByteArray.empty]) (e:=202) kr (by simp)) ?_
 refine oL 0 rfl (show _ = #[.string (tx (s.data.toList++cat ss))]from rfl) ?_
 refine zg rfl ?_
 refine Cg (Γ':=[(4,[],pT rs)]) ?_
 refine yD rfl (rs:=[.cell 4 202]) rfl [.agg #[.string (tx (s.data.toList++cat ss))]] ⟨⟨_,by kernel_rfl,(fun w1 h=>h.oload 0 rfl Tryz.underlying202 rfl (n:=1) kr rfl)⟩,trivial⟩ (fun w1 hp=>?_)
 exact⟨rfl,hp.ext⟩
theorem wString (s:ByteArray) (w:World) :
  Calls Tryz.prog 115 #[.agg #[.string s]] w fun e w'=>e=.returned (.string s)∧Ext [] w w':=by
 refine enter [] [] [] Tryz.func115 rfl kr (yy w) ?_
 refine Be rfl rfl (y7 (v:=.agg #[.string s]) rfl kr) ?_
 rintro o ⟨ho,no⟩
 refine Ld 1 [1] ?_
 refine Rg [2] [dZ,(dS (.string s))] (fun S=>[(cE S o 0 (.string s))]) ⟨(oC 0 rfl rfl),trivial⟩ ?_
 refine Rt [.string s] (fun w1 hp=>?_)
 exact⟨rfl,hp.ext⟩
end
section
open K
theorem byteLt (b:UInt8):b.toNat<256:=UInt8.toNat_lt b
structure IN where
 er:Int
 rest:List UInt8
def inC (z:IN):Array Value:=#[.int .i64 z.er,.string (tx z.rest)]
def failF (z:IN) (e:Int):IN:=if z.er=0 then⟨e,z.rest⟩else z
def nextF (z:IN) (n:Int):List UInt8×IN:=if z.er≠0 then([],z)else if n<0∨n>(z.rest.length:Int) then([],⟨3,z.rest⟩) else(z.rest.take n.toNat,⟨z.er,z.rest.drop n.toNat⟩)
theorem tx_take (l:List UInt8) (n:Nat):(tx l).extract 0 n=tx (l.take n):=by
 apply ByteArray.ext
 apply qq
 rw[ByteArray.data_extract,Array.toList_extract,List.extract_eq_take_drop]
 simp[tx]
theorem tx_drop (l:List UInt8) (n:Nat):(tx l).extract n (tx l).size=tx (l.drop n):=by
 apply ByteArray.ext
 apply qq
 rw[ByteArray.data_extract,Array.toList_extract,List.extract_eq_take_drop,qf]
 simp only[tx,List.take_of_length_le (show(l.drop n).length≤l.length-n by simp)]
theorem nextF_len (z:IN) (n:Nat):(nextF z n).1.length≤n:=by
 unfold nextF
 split
 ·simp
 split
 ·simp
 simp;omega
def vf (n:Nat) (b:UInt8):Nat:=n*256%18446744073709551616+b.toNat
def valF (l:List UInt8):Nat:=l.foldl vf 0
theorem vf_lt (n:Nat) (b:UInt8):vf n b<18446744073709551616:=by have:=byteLt b;unfold vf;omega
theorem foldl_lt:∀(l:List UInt8) (n:Nat),n<18446744073709551616→l.foldl vf n<18446744073709551616
 | [],n,h=>h
 | b::l,n,_=>foldl_lt l (vf n b) (vf_lt n b)
theorem valF_lt (l:List UInt8):valF l<18446744073709551616:=foldl_lt l 0 (by decide)
theorem or256 (a b:Nat) (hb:b<256):256*a ||| b=256*a+b:=by
 have:=Nat.two_pow_add_eq_or_of_lt (i:=8) (b:=b) (by simpa using hb) a
 simpa using this.symm
theorem vf_or (n:Nat) (b:UInt8):((((n:Int)*256)%18446744073709551616).toNat ||| b.toNat)=vf n b:=by
 have:=byteLt b
 rw[show(((n:Int)*256)%18446744073709551616).toNat=256*(n%72057594037927936) by omega,or256 _ _ this]
 unfold vf;omega
def gb (l:List UInt8) (i:Nat):UInt8:=l.getD i 0
theorem val_succ {l:List UInt8} {i:Nat} (h:i<l.length):valF (l.take (i+1))=vf (valF (l.take i)) (gb l i):=by
 unfold valF
 rw[zV h,List.foldl_append]
 simp[gb,List.getElem?_eq_getElem h]
def byteF (z:IN):Nat×IN:=(valF (nextF z 1).1%256,(nextF z 1).2)
def ym (z:IN):Nat×IN:=(valF (nextF z 4).1%4294967296,(nextF z 4).2)
def eightF (z:IN):Nat×IN:=(valF (nextF z 8).1,(nextF z 8).2)
def boundF (z:IN) (most e:Int):Nat×IN:=if(ym z).1>(if 0>most then 0 else most).toNat then(0,failF (ym z).2 e)else ym z
theorem fourF_lt (z:IN):(ym z).1<4294967296:=qT _ (by decide)
theorem sbyte_gb (l:List UInt8) (i:Nat):sbyte (tx l) (i:Int)=((gb l i).toNat:Int):=rfl
theorem wOf (l:List UInt8) (w:World) :
  Calls Tryz.prog 66 #[.string (tx l)] w fun e w'=>∃b:Nat,True∧e=.returned (.pointer (some ⟨b,0,none⟩))∧w.heap.size≤b∧w'.heap[b]? = some (.cells (inC ⟨0,l⟩) 196 (0,0))∧Ext [] w w':=by
 refine enter [] [] [] Tryz.func66 rfl kr (yy w) ?_
 refine Rq [0] ?_
 refine Bp 2 [dZ,(dS (.agg (inC ⟨0,l⟩)))] (some [4]) (fun S=>[(∀w1,S w1→(Instr.build 196 #[(1,.string (tx l))]).run Tryz.prog w1=.ok (.agg (inC ⟨0,l⟩)) w1)]) ⟨(fun _ _=>kr),trivial⟩ ?_
 refine Le (y7 (v:=.agg (inC ⟨0,l⟩)) rfl kr) ?_
 rintro b1 ⟨hb1,nb1⟩
 refine Ld 1 [2] ?_
 refine Rt [pT b1] (fun w1 hp=>?_)
 exact⟨b1,trivial,rfl,hb1,hp.own (b1,_) mH,hp.ext⟩
theorem wFailed (b:Nat) (z:IN) (w:World) (hB:w.heap[b]? = some (.cells (inC z) 196 (0,0))) :
  Calls Tryz.prog 139 #[.pointer (some ⟨b,0,none⟩)] w fun e w'=>e=.returned (.bool (z.er != (0:Int)))∧Ext [] w w':=by
 refine enter [] [(b,.cells (inC z) 196 (0,0))] [] Tryz.func139 rfl kr (yj (fun e he=>by rw[zi.1 he];exact hB)) ?_
 refine Rq [0] ?_
 refine Rg [2] [dZ,dZ,dZ,(dS (.int .i64 z.er))] (fun S=>[(cE S b 0 (.int .i64 z.er))]) ⟨(rC 0 rfl rfl),trivial⟩ ?_
 refine Rt [.bool (z.er != (0:Int))] (fun w1 hp=>?_)
 exact⟨rfl,hp.ext⟩
theorem wNote (b:Nat) (z:IN) (x:Int) (w:World) (hB:w.heap[b]? = some (.cells (inC z) 196 (0,0))) :
  Calls Tryz.prog 140 #[.pointer (some ⟨b,0,none⟩),.int .i64 x] w fun e w'=>e=.returned (.tuple #[])∧Ext [b] w w'∧w'.heap[b]? = some (.cells (inC (failF z x)) 196 (0,0)):=by
 refine enter [b] [] [cl b (inC z) 196] Tryz.func140 rfl kr (HP.startM (R:=[]) (fun _ h=>by cases h) hB (by simp)) ?_
 refine Rg [0,1,8] [dZ,dZ,dZ,(dS (.int .i64 z.er))] (fun S=>[(cE S b 0 (.int .i64 z.er))]) ⟨(oC 0 rfl rfl),trivial⟩ ?_
 refine zX rfl (b:=(z.er==(0:Int))) kr (fun c1r=>?_) (fun c1r=>?_)
 ·have c1:=(beq_iff_eq.1 c1r)
  refine Bq 4 [10,12] ?_
  refine Lu (zS (b:=b) (off:=0) (v:=.int .i64 x) rfl kr kr rfl kr 0 (cs:=(inC z)) (e:=196) kr (by simp[inC])) ?_
  refine zg rfl ?_
  refine Cg (Γ':=[]) ?_
  refine Cfg.fin rfl (rs:=[]) rfl [] trivial (fun w1 hp=>?_)
  exact⟨rfl,hp.ext,(show failF z x=⟨x,z.rest⟩from if_pos c1).symm▸hp.own (b,_) mH⟩
 have c1:=(beq_eq_false_iff_ne.1 c1r)
 refine Cfg.fin rfl (rs:=[]) rfl [] trivial (fun w1 hp=>?_)
 exact⟨rfl,hp.ext,(show failF z x=z from if_neg c1).symm▸hp.own (b,_) mH⟩
theorem wNext (b:Nat) (z:IN) (n:Int) (w:World) (hB:w.heap[b]? = some (.cells (inC z) 196 (0,0))) :
  Calls Tryz.prog 105 #[.pointer (some ⟨b,0,none⟩),.int .i64 n] w fun e w'=>e=.returned (.string (tx (nextF z n).1))∧Ext [b] w w'∧w'.heap[b]? = some (.cells (inC (nextF z n).2) 196 (0,0)):=by
 have hts:=qf z.rest
 refine enter [b] [] [cl b (inC z) 196] Tryz.func105 rfl kr (HP.startM (R:=[]) (fun _ h=>by cases h) hB (by simp)) ?_
 refine Rq [0,1] ?_
 refine Bp 6 [dZ,dZ,dZ,(1,false,none),(1,false,none),(1,false,none)] (some [0,1,8,11]) (fun _=>[((.bool false:Value)=.bool false),((.bool false:Value)=.bool false),((.bool false:Value)=.bool false)]) ⟨rfl,rfl,rfl,trivial⟩ ?_
 refine Lu (zr (.bool (z.er != (0:Int))) rfl Tryz.func139 rfl rfl kr (fun w1 h=>wFailed b z w1 (h.own (b,_) (mG 0 rfl)))) ?_
 refine Ld 1 [0,1,13] ?_
 refine zX rfl (b:=(z.er != (0:Int))) kr (fun c1r=>?_) (fun c1r=>?_)
 ·have c1:=(bne_iff_ne.1 c1r)
  refine Rq [4] ?_
  refine Rt [.string ⟨#[]⟩] (fun w1 hp=>?_)
  have hx:nextF z n=([],z):=if_pos c1
  rw[hx]
  exact⟨rfl,hp.ext,hp.own (b,_) mH⟩
 have c1:=(bne_eq_false_iff_eq.1 c1r)
 refine Rg [0,1,24] [dZ,dZ,dZ,dZ,dZ,dZ,dZ,(dS (.string (tx z.rest)))] (fun S=>[((.bool (decide (n<(0:Int))):Value)=.bool false→(cE S b 1 (.string (tx z.rest))))]) ⟨(fun g0=>have q0:(¬(n<(0:Int))):=(dF (boolV g0));(oC 0 rfl rfl)),trivial⟩ ?_
 refine zX rfl (b:=((decide (n<(0:Int))) || (decide (n>((tx z.rest).size:Int))))) kr (fun c2r=>?_) (fun c2r=>?_)
 ·have c2:((n<(0:Int))∨(n>((tx z.rest).size:Int))):=((orT c2r).elim (fun h=>Or.inl (dT h)) (fun h=>Or.inr (dT h)))
  refine Bq 3 [27] ?_
  refine Lu (yX (.tuple #[]) 0 (b:=b) (ob:=.cells (inC z) 196 (0,0)) (.cells (inC (failF z (3:Int))) 196 (0,0)) rfl Tryz.func140 rfl rfl kr kr (fun w1 h=>wNote b z (3:Int) w1 (h.own (b,_) (mG 0 rfl)))) ?_
  refine zg rfl ?_
  refine Cg (Γ':=[]) ?_
  refine Rq [4] ?_
  refine Rt [.string ⟨#[]⟩] (fun w1 hp=>?_)
  have hx:nextF z n=([],⟨3,z.rest⟩):=(if_neg om).trans (if_pos om)
  have hf:failF z (3:Int)=⟨3,z.rest⟩:=if_pos om
  rw[hx]
  exact⟨rfl,hp.ext,hf▸hp.own (b,_) mH⟩
 have c2:((¬(n<(0:Int)))∧(¬(n>((tx z.rest).size:Int)))):=⟨(dF (orF1 c2r)),(dF (orF2 c2r))⟩
 refine Rg [0,1,5] [dZ,dZ,dZ,(dS (.string (tx z.rest)))] (fun S=>[(cE S b 1 (.string (tx z.rest))),(0≤n),(0≤(n).toNat∧(n).toNat≤(tx z.rest).size)]) ⟨(oC 0 rfl rfl),om,om,trivial⟩ ?_
 refine Bp 9 [dZ,dZ,dZ,dZ,(dS (.string (tx z.rest)))] (some [5,41,43]) (fun S=>[(cE S b 1 (.string (tx z.rest))),(0≤n),((n).toNat≤(tx z.rest).size∧(tx z.rest).size≤(tx z.rest).size)]) ⟨(oC 0 rfl rfl),om,om,trivial⟩ ?_
 refine Lu (zS (b:=b) (off:=1) (v:=.string ((tx z.rest).extract ((n).toNat) ((tx z.rest).size))) rfl kr kr rfl kr 0 (cs:=(inC z)) (e:=196) kr (by simp[inC])) ?_
 refine zg rfl ?_
 refine Cg (Γ':=[(5,[],.string ((tx z.rest).extract 0 ((n).toNat)))]) ?_
 refine Rq [4] ?_
 refine Rt [.string ((tx z.rest).extract 0 ((n).toNat))] (fun w1 hp=>?_)
 have hx:nextF z n=(z.rest.take n.toNat,⟨z.er,z.rest.drop n.toNat⟩):=(if_neg om).trans (if_neg om)
 rw[hx]
 exact⟨by rw[tx_take];rfl,hp.ext,by show w1.heap[b]? = some (.cells #[.int .i64 z.er,.string (tx (z.rest.drop n.toNat))] 196 (0,0));rw[←tx_drop];exact hp.own (b,_) mH⟩
theorem wValue (l:List UInt8) (w:World) (hl:l.length≤9223372036854775807) :
  Calls Tryz.prog 109 #[.string (tx l)] w fun e w'=>e=.returned (.int .u64 (valF l:Int))∧Ext [] w w':=by
 have hts:=qf l
 refine enter [] [] [] Tryz.func109 rfl kr (yy w) ?_
 refine Rq [0] ?_
 refine Rq [0,3] ?_
 refine Rq [0,3,6,7] ?_
 refine ye rfl (ι:=Nat) (fun(i:Nat)=>[(7,[],iN i),(6,[],.int .i64 ((tx l).size:Int)),(3,[],.int .u64 ((valF (l.take i)):Int)),(0,[],.string (tx l))]) (fun(i:Nat)=>[]) (fun(i:Nat)=>(i≤l.length)) (fun(i:Nat)=>l.length-i) 0 ?_ (Conv.mk kr) .slnil ?_
 ·exact zH _
 rintro i hi
 refine Rq [0,3,6,7,8] ?_
 refine eC rfl (p:=((i:Int)<((tx l).size:Int))) kr (fun c1=>?_) (fun c1=>?_)
 ·refine Rq [0,3,4,6,7] ?_
  refine Rg [0,3,6,7] [] (fun _=>[(0≤(8:Int)∧8≤64),(iL (i:Int) ((tx l).size:Int)),((0:Int)≤(sbyte (tx l) (i:Int))∧(sbyte (tx l) (i:Int))≤18446744073709551615),((0≤((((valF (l.take i)):Int)*256)%18446744073709551616)∧((((valF (l.take i)):Int)*256)%18446744073709551616)≤18446744073709551615)∧0≤(sbyte (tx l) (i:Int))∧(sbyte (tx l) (i:Int))≤18446744073709551615)]) ⟨om,om,(by have:=byteLt (gb l i);have:=valF_lt (l.take i);have:=sbyte_gb l i;omega),(by have:=byteLt (gb l i);have:=valF_lt (l.take i);have:=sbyte_gb l i;omega),trivial⟩ ?_
  refine Rg [0,3,6,7] [] (fun _=>[(i6 ((i:Int)+1))]) ⟨om,trivial⟩ ?_
  refine zN 3 (congrArg (fun(xq:Int)=>(.int .u64 xq:Value)) (show(((((((valF (l.take i)):Int)*256)%18446744073709551616)).toNat ||| ((sbyte (tx l) (i:Int))).toNat:Nat):Int)=((valF (l.take (i+1))):Int)from by rw[val_succ om,←vf_or,sbyte_gb];rfl)) ?_
  refine zG rfl (i+1) (show i+1≤l.length by omega) om (Conv.mk kr) .slnil
 refine Rq [2] ?_
 refine Rt [.int .u64 ((valF (l.take i)):Int)] (fun w1 hp=>?_)
 exact⟨by rw[show l.take i=l from yB om];rfl,hp.ext⟩
theorem wTByte (b:Nat) (z:IN) (w:World) (hB:w.heap[b]? = some (.cells (inC z) 196 (0,0))) :
  Calls Tryz.prog 69 #[.pointer (some ⟨b,0,none⟩)] w fun e w'=>e=.returned (.int .u8 ((byteF z).1:Int))∧Ext [b] w w'∧w'.heap[b]? = some (.cells (inC (byteF z).2) 196 (0,0)):=by
 refine enter [b] [] [cl b (inC z) 196] Tryz.func69 rfl kr (HP.startM (R:=[]) (fun _ h=>by cases h) hB (by simp)) ?_
 refine Rq [0] ?_
 refine Bq 1 [3] ?_
 refine Lu (yX (.string (tx (nextF z (1:Int)).1)) 0 (b:=b) (ob:=.cells (inC z) 196 (0,0)) (.cells (inC ((nextF z (1:Int)).2)) 196 (0,0)) rfl Tryz.func105 rfl rfl kr kr (fun w1 h=>wNext b z (1:Int) w1 (h.own (b,_) (mG 0 rfl)))) ?_
 refine Lu (zr (.int .u64 ((valF ((nextF z (1:Int)).1)):Int)) rfl Tryz.func109 rfl rfl kr (fun w1 _=>wValue ((nextF z (1:Int)).1) w1 (yU (nextF_len _ _) (by decide)))) ?_
 refine Ld 2 [2] ?_
 refine Rt [.int .u8 (((valF ((nextF z (1:Int)).1)):Int)%256)] (fun w1 hp=>?_)
 exact⟨rfl,hp.ext,hp.own (b,_) mH⟩
theorem wTFour (b:Nat) (z:IN) (w:World) (hB:w.heap[b]? = some (.cells (inC z) 196 (0,0))) :
  Calls Tryz.prog 70 #[.pointer (some ⟨b,0,none⟩)] w fun e w'=>e=.returned (.int .u32 ((ym z).1:Int))∧Ext [b] w w'∧w'.heap[b]? = some (.cells (inC (ym z).2) 196 (0,0)):=by
 refine enter [b] [] [cl b (inC z) 196] Tryz.func70 rfl kr (HP.startM (R:=[]) (fun _ h=>by cases h) hB (by simp)) ?_
 refine Rq [0] ?_
 refine Bq 1 [3] ?_
 refine Lu (yX (.string (tx (nextF z (4:Int)).1)) 0 (b:=b) (ob:=.cells (inC z) 196 (0,0)) (.cells (inC ((nextF z (4:Int)).2)) 196 (0,0)) rfl Tryz.func105 rfl rfl kr kr (fun w1 h=>wNext b z (4:Int) w1 (h.own (b,_) (mG 0 rfl)))) ?_
 refine Lu (zr (.int .u64 ((valF ((nextF z (4:Int)).1)):Int)) rfl Tryz.func109 rfl rfl kr (fun w1 _=>wValue ((nextF z (4:Int)).1) w1 (yU (nextF_len _ _) (by decide)))) ?_
 refine Ld 2 [2] ?_
 refine Rt [.int .u32 (((valF ((nextF z (4:Int)).1)):Int)%4294967296)] (fun w1 hp=>?_)
 exact⟨rfl,hp.ext,hp.own (b,_) mH⟩
theorem wTEight (b:Nat) (z:IN) (w:World) (hB:w.heap[b]? = some (.cells (inC z) 196 (0,0))) :
  Calls Tryz.prog 99 #[.pointer (some ⟨b,0,none⟩)] w fun e w'=>e=.returned (.int .u64 ((eightF z).1:Int))∧Ext [b] w w'∧w'.heap[b]? = some (.cells (inC (eightF z).2) 196 (0,0)):=by
 refine enter [b] [] [cl b (inC z) 196] Tryz.func99 rfl kr (HP.startM (R:=[]) (fun _ h=>by cases h) hB (by simp)) ?_
 refine Rq [0] ?_
 refine Bq 1 [3] ?_
 refine Lu (yX (.string (tx (nextF z (8:Int)).1)) 0 (b:=b) (ob:=.cells (inC z) 196 (0,0)) (.cells (inC ((nextF z (8:Int)).2)) 196 (0,0)) rfl Tryz.func105 rfl rfl kr kr (fun w1 h=>wNext b z (8:Int) w1 (h.own (b,_) (mG 0 rfl)))) ?_
 refine Lu (zr (.int .u64 ((valF ((nextF z (8:Int)).1)):Int)) rfl Tryz.func109 rfl rfl kr (fun w1 _=>wValue ((nextF z (8:Int)).1) w1 (yU (nextF_len _ _) (by decide)))) ?_
 refine Ld 1 [2] ?_
 refine Rt [.int .u64 ((valF ((nextF z (8:Int)).1)):Int)] (fun w1 hp=>?_)
 exact⟨rfl,hp.ext,hp.own (b,_) mH⟩
theorem wFail (b:Nat) (z:IN) (x:Int) (w:World) (hB:w.heap[b]? = some (.cells (inC z) 196 (0,0))) :
  Calls Tryz.prog 164 #[.pointer (some ⟨b,0,none⟩),.int .i64 x] w fun e w'=>e=.returned (.tuple #[])∧Ext [b] w w'∧w'.heap[b]? = some (.cells (inC (failF z x)) 196 (0,0)):=by
 refine enter [b] [] [cl b (inC z) 196] Tryz.func164 rfl kr (HP.startM (R:=[]) (fun _ h=>by cases h) hB (by simp)) ?_
 refine Rq [0,1,5] ?_
 refine Cfg.condT rfl (b:=true) kr rfl ?_
 refine Bq 4 [8,9] ?_
 refine Lu (yX (.tuple #[]) 0 (b:=b) (ob:=.cells (inC z) 196 (0,0)) (.cells (inC (failF z x)) 196 (0,0)) rfl Tryz.func140 rfl rfl kr kr (fun w1 h=>wNote b z x w1 (h.own (b,_) (mG 0 rfl)))) ?_
 refine zg rfl ?_
 refine Cg (Γ':=[]) ?_
 refine Cfg.fin rfl (rs:=[]) rfl [] trivial (fun w1 hp=>?_)
 exact⟨rfl,hp.ext,hp.own (b,_) mH⟩
theorem wBounded (b:Nat) (z:IN) (most x:Int) (w:World) (hB:w.heap[b]? = some (.cells (inC z) 196 (0,0))) (hm:most≤9223372036854775807) :
  Calls Tryz.prog 133 #[.pointer (some ⟨b,0,none⟩),.int .i64 most,.int .i64 x] w fun e w'=>e=.returned (.int .i64 ((boundF z most x).1:Int))∧Ext [b] w w'∧w'.heap[b]? = some (.cells (inC (boundF z most x).2) 196 (0,0)):=by
 have hfl:=fourF_lt z
 have hmx:(if(0:Int)>most then(0:Int)else most)≤9223372036854775807∧0≤(if(0:Int)>most then(0:Int)else most):=by split <;> omega
 refine enter [b] [] [cl b (inC z) 196] Tryz.func133 rfl kr (HP.startM (R:=[]) (fun _ h=>by cases h) hB (by simp)) ?_
 refine Rq [0,1,2] ?_
 refine Bp 1 [] none n0 trivial ?_
 refine Lu (yX (.int .u32 ((ym z).1:Int)) 0 (b:=b) (ob:=.cells (inC z) 196 (0,0)) (.cells (inC ((ym z).2)) 196 (0,0)) rfl Tryz.func70 rfl rfl kr kr (fun w1 h=>wTFour b z w1 (h.own (b,_) (mG 0 rfl)))) ?_
 refine Ld 1 [0,1,2,7] ?_
 refine Bp 3 [] (some [0,2,7,11,12]) (fun _=>[((0:Int)≤((ym z).1:Int)∧((ym z).1:Int)≤18446744073709551615)]) ⟨om,trivial⟩ ?_
 refine Lu (Eff.maxI (k:=.i64) (a:=most) (b:=0) rfl kr kr) ?_
 refine Ld 2 [0,2,7,15] ?_
 refine eC rfl (p:=(((ym z).1:Int)>((if(0:Int)>most then(0:Int)else most)%18446744073709551616))) kr (fun c1=>?_) (fun c1=>?_)
 ·refine Bq 2 [16,17] ?_
  refine Lu (yX (.tuple #[]) 0 (b:=b) (ob:=.cells (inC ((ym z).2)) 196 (0,0)) (.cells (inC (failF ((ym z).2) x)) 196 (0,0)) rfl Tryz.func164 rfl rfl kr kr (fun w1 h=>wFail b ((ym z).2) x w1 (h.own (b,_) (mG 0 rfl)))) ?_
  refine zg rfl ?_
  refine Cg (Γ':=[]) ?_
  refine Rq [6] ?_
  refine Rt [.int .i64 0] (fun w1 hp=>?_)
  have hx:boundF z most x=(0,failF (ym z).2 x):=if_pos om
  rw[hx]
  exact⟨rfl,hp.ext,hp.own (b,_) mH⟩
 refine Rg [6] [] (fun _=>[(i6 ((ym z).1:Int))]) ⟨om,trivial⟩ ?_
 refine Rt [.int .i64 ((ym z).1:Int)] (fun w1 hp=>?_)
 have hx:boundF z most x=ym z:=if_neg om
 rw[hx]
 exact⟨rfl,hp.ext,hp.own (b,_) mH⟩
theorem wCount (b:Nat) (z:IN) (most:Int) (w:World) (hB:w.heap[b]? = some (.cells (inC z) 196 (0,0))) (hm:most≤9223372036854775807) :
  Calls Tryz.prog 100 #[.pointer (some ⟨b,0,none⟩),.int .i64 most] w fun e w'=>e=.returned (.int .i64 ((boundF z most 6).1:Int))∧Ext [b] w w'∧w'.heap[b]? = some (.cells (inC (boundF z most 6).2) 196 (0,0)):=by
 refine enter [b] [] [cl b (inC z) 196] Tryz.func100 rfl kr (HP.startM (R:=[]) (fun _ h=>by cases h) hB (by simp)) ?_
 refine Rq [0,1] ?_
 refine Bq 2 [5,6] ?_
 refine Lu (yX (.int .i64 ((boundF z most (6:Int)).1:Int)) 0 (b:=b) (ob:=.cells (inC z) 196 (0,0)) (.cells (inC ((boundF z most (6:Int)).2)) 196 (0,0)) rfl Tryz.func133 rfl rfl kr kr (fun w1 h=>wBounded b z most (6:Int) w1 (h.own (b,_) (mG 0 rfl)) om)) ?_
 refine Ld 1 [4] ?_
 refine Rt [.int .i64 ((boundF z most (6:Int)).1:Int)] (fun w1 hp=>?_)
 exact⟨rfl,hp.ext,hp.own (b,_) mH⟩
theorem wTRaw (b:Nat) (z:IN) (n:Int) (w:World) (hB:w.heap[b]? = some (.cells (inC z) 196 (0,0))) :
  Calls Tryz.prog 67 #[.pointer (some ⟨b,0,none⟩),.int .i64 n] w fun e w'=>e=.returned (.string (tx (nextF z n).1))∧Ext [b] w w'∧w'.heap[b]? = some (.cells (inC (nextF z n).2) 196 (0,0)):=by
 refine enter [b] [] [cl b (inC z) 196] Tryz.func67 rfl kr (HP.startM (R:=[]) (fun _ h=>by cases h) hB (by simp)) ?_
 refine Rq [0,1] ?_
 refine Bq 2 [5,6] ?_
 refine Lu (yX (.string (tx (nextF z n).1)) 0 (b:=b) (ob:=.cells (inC z) 196 (0,0)) (.cells (inC ((nextF z n).2)) 196 (0,0)) rfl Tryz.func105 rfl rfl kr kr (fun w1 h=>wNext b z n w1 (h.own (b,_) (mG 0 rfl)))) ?_
 refine Ld 1 [4] ?_
 refine Rt [.string (tx (nextF z n).1)] (fun w1 hp=>?_)
 exact⟨rfl,hp.ext,hp.own (b,_) mH⟩
theorem wErr (b:Nat) (z:IN) (w:World) (hB:w.heap[b]? = some (.cells (inC z) 196 (0,0))) :
  Calls Tryz.prog 101 #[.pointer (some ⟨b,0,none⟩)] w fun e w'=>e=.returned (.int .i64 z.er)∧Ext [] w w':=by
 refine enter [] [(b,.cells (inC z) 196 (0,0))] [] Tryz.func101 rfl kr (yj (fun e he=>by rw[zi.1 he];exact hB)) ?_
 refine Rq [0] ?_
 refine Rq [0,4] ?_
 refine yb rfl (b:=false) kr rfl ?_
 refine Rg [2] [dZ,dZ,dZ,dZ,(dS (.int .i64 z.er))] (fun S=>[(cE S b 0 (.int .i64 z.er))]) ⟨(rC 0 rfl rfl),trivial⟩ ?_
 refine Rt [.int .i64 z.er] (fun w1 hp=>?_)
 exact⟨rfl,hp.ext⟩
end
section
open K
def nd (n i:Nat):Nat:=n / 256^i
theorem nd_zero (n:Nat):nd n 0=n:=by simp[nd]
theorem nd_succ (n i:Nat):nd n i / 256=nd n (i+1):=by unfold nd;rw[Nat.pow_succ,Nat.div_div_eq_div_mul]
theorem str1 {P:Program} {w0 w:World} {M:List Nat} {R O:List (Nat×Obj)} (h:HP w0 M R O w) (i:Nat) {b:Nat} {t:TypeId} {x:Int} (ho:O[i]? = some (b,.cells #[.int .u8 x] t (0,0))) (h0:0≤x∧x≤255) :
  (Conv.bytesToString (.slice (some ⟨b,0,none⟩) 1 1)).run P w=.ok (.string (tx [UInt8.ofNat x.toNat])) w:=by
 have e1:(#[.int .u8 x]:Array Value)=bv [UInt8.ofNat x.toNat]:=by
  simp only[bv,List.map_cons,List.map_nil]
  rw[show((UInt8.ofNat x.toNat).toNat:Int)=x by simp;omega]
 rw[e1]at ho
 exact h.ostr i ho rfl
theorem be_step (n i:Nat):tx [UInt8.ofNat (((nd n i:Int)%256)%256).toNat]++beS n i=beS n (i+1):=by
 apply ByteArray.ext
 rw[ByteArray.data_append]
 apply qq
 rw[show(((nd n i:Int)%256)%256).toNat=nd n i%256 by omega,u8_mod]
 simp[tx,beS,be,nd]
theorem tx_app (a b:List UInt8):tx a++tx b=tx (a++b):=by
 apply ByteArray.ext
 rw[ByteArray.data_append]
 apply qq
 simp[tx]
theorem inS_num (bk:Nat) (t:TypeId) (fr:Nat×Nat) (k:IntKind) (n:Nat):InS [(bk,.cells #[.int k (n:Int)] t fr)] (some ⟨bk,0,none⟩) [n].length (fun j=>.int k (([n].getD j 0:Nat):Int)):=by
 intro _
 refine⟨bk,0,_,t,fr,rfl,zi.2 rfl,fun j hj=>?_⟩
 obtain rfl:j=0:=by simpa using hj
 rfl
theorem one_get {n m:Nat} (h:n<m) (hm:0<m) (i:Nat):[n].getD i 0<m:=by
 cases i with
 | zero=>exact h
 | succ i=>exact hm
theorem flat_one {α:Type} (f:α→List UInt8) (x:α):flat f [x]=f x:=by simp[flat]
theorem rNum (n k:Nat) (w:World) (hn:n<18446744073709551616) (hk:k≤8) :
  Calls Tryz.prog 90 #[.int .u64 (n:Int),.int .i64 (k:Int)] w fun e w'=>e=.returned (.string (beS n k))∧Ext [] w w':=by
 refine enter [] [] [] Tryz.func90 rfl kr (yy w) ?_
 refine Rq [0,1] ?_
 refine Rq [0,1,5] ?_
 refine Rq [0,1,5,6] ?_
 refine zN 0 (congrArg (fun(xq:Int)=>(.int .u64 xq:Value)) (show(n:Int)=((nd n 0):Int)from by rw[nd_zero])) ?_
 refine ye rfl (ι:=Nat) (fun(i:Nat)=>[(6,[],iN i),(5,[],.string (beS n i)),(0,[],.int .u64 ((nd n i):Int)),(1,[],iN k)]) (fun(i:Nat)=>[]) (fun(i:Nat)=>(i≤k)) (fun(i:Nat)=>k-i) 0 ?_ (Conv.mk kr) .slnil ?_
 ·exact zH _
 rintro i hi
 refine Rq [0,1,5,6,9] ?_
 refine eC rfl (p:=((i:Int)<(k:Int))) kr (fun c1=>?_) (fun c1=>?_)
 ·refine Bp 3 [] (some [0,1,5,6,14]) (fun _=>[(0≤((nd n i):Int)∧0<(256:Int))]) ⟨(by have:nd n i≤n:=Nat.div_le_self _ _;omega),trivial⟩ ?_
  refine Le (yP (e:=5) (cells:=#[.int .u8 ((((nd n i):Int)%256)%256)]) (parts:=#[(0,.int .u8 ((((nd n i):Int)%256)%256))]) rfl kr (fun _=>kr)) ?_
  rintro x1 ⟨hx1,nx1⟩
  refine Lp 4 [(dS (.string (tx [UInt8.ofNat (((((nd n i):Int)%256)%256)).toNat])))] (some [0,1,5,6]) (fun S=>[(∀w1,S w1→(Conv.bytesToString (sP x1 0 1 1)).run Tryz.prog w1=.ok (.string (tx [UInt8.ofNat (((((nd n i):Int)%256)%256)).toNat])) w1),((tx [UInt8.ofNat (((((nd n i):Int)%256)%256)).toNat]).size+(beS n i).size≤9223372036854775807)]) ⟨(fun w1 h=>str1 h 0 rfl om),(by rw[qM,qf];simp only[List.length_cons,List.length_nil];omega),trivial⟩ ?_
  refine zg rfl ?_
  refine Rg [0,1,5,6] [] (fun _=>[(0≤((nd n i):Int)∧((nd n i):Int)≤18446744073709551615∧0<(256:Int))]) ⟨(by have:nd n i≤n:=Nat.div_le_self _ _;omega),trivial⟩ ?_
  refine Rg [0,1,5,6] [] (fun _=>[(i6 ((i:Int)+1))]) ⟨om,trivial⟩ ?_
  refine zN 5 (congrArg Value.string (show((tx [UInt8.ofNat (((((nd n i):Int)%256)%256)).toNat])++(beS n i))=(beS n (i+1))from be_step n i)) ?_
  refine zN 0 (congrArg (fun(xq:Int)=>(.int .u64 xq:Value)) (show(((nd n i):Int) / 256)=((nd n (i+1)):Int)from by rw[←nd_succ];rfl)) ?_
  refine zG rfl (i+1) (show i+1≤k by omega) om (Conv.mk kr) (.cons _ .slnil)
 refine Rq [4] ?_
 refine Rt [.string (beS n i)] (fun w1 hp=>?_)
 obtain rfl:i=k:=by omega
 exact⟨rfl,hp.ext⟩
end
namespace K
section
variable {C:Cx} {R O:List (Nat×Obj)} {Γ:Env} {op:Oper}
theorem Eff.sliceTo {t e:TypeId} {x h:Operand} (ho:op.op=.slice t x none (some h) none) (ht:C.P.underlying t=some (.slice e)) (hsz:((C.P.info? e).map (·.size)).isSome=true)
  {a:Option Addr} {n c m:Nat} (hx:opd Γ [] x=some (.slice a n c)) (hh:opd Γ [] h=some (.int .i64 (m:Int))) (hm:m≤c):Eff C R O Γ op Unit (fun _=>.slice a m c) (fun _=>O) (fun _=>True):=by
 obtain⟨sz,hsz⟩:=qP.1 hsz
 obtain⟨inf,hi,hs1⟩:=zZ.1 hsz
 refine yL fun ac w hs hp=>⟨(),w,trivial,?_,hp⟩
 have hb:∀(x y:Nat) (code:BoundsCode),x≤y→(Instr.sliceBound (.int .i64 (x:Int)) y code).run C.P w=.ok x w:=by
  intro x y code hxy
  have hai:(asIntOf (.int .i64 (x:Int))).run C.P w=.ok (.i64,(x:Int)) w:=rfl
  have h2:(0:Int)≤(x:Int)∧(x:Int)≤(y:Int):=⟨by omega,by omega⟩
  simp[Instr.sliceBound,hai,hxy]
 have hbs:(Instr.sliceBounds true n c none (some (.int .i64 (m:Int))) none).run C.P w=.ok (0,m,c) w:=by
  simp[Instr.sliceBounds,hb m c _ hm,Result.andThen_ok]
 have hr:(Instr.slice t (.slice a n c) none (some (.int .i64 (m:Int))) none).run C.P w=.ok (.slice a m c) w:=by
  simp only[Instr.slice,Sem.run_bind,zx ht,Result.andThen_ok,hbs,yT hi,Sem.run_pure]
  cases a <;> simp[Addr.add]
 have e1:=yI hs (zW _) hx
 have e2:=yI hs (zW _) hh
 simp only[execOp,ho]
 refine run_v ?_
 simp only[Option.map_some,Option.map_none,e1,e2,Instr.sliceAt,Sem.run_bind,zx ht,Result.andThen_ok]
 exact hr
end
end K
section
open K
abbrev Wr:=Int×List UInt8
def wz:Wr:=(0,zb)
def jc (r:Wr):List Value:=.int .i64 r.1::(bv r.2).toList
def jv (l:List Wr):List Value:=l.flatMap jc
def WW (l:List Wr):Prop:=∀r∈l,r.2.length=512
theorem yl {r:Wr} (h:r.2.length=512):(jc r).length=513:=by unfold jc;rw[zL,z7,zP,h]
theorem WW.tail {r:Wr} {l:List Wr} (h:WW (r::l)):WW l:=fun x hx=>h x (zf _ hx)
theorem WW.nil:WW []:=fun _ h=>by cases h
theorem WW.app {a b:List Wr} (ha:WW a) (hb:WW b):WW (a++b):=fun x hx=>(yG.1 hx).elim (ha x) (hb x)
theorem WW.take {l:List Wr} (h:WW l) (i:Nat):WW (l.take i):=fun x hx=>h x (qV hx)
theorem WW.drop {l:List Wr} (h:WW l) (i:Nat):WW (l.drop i):=fun x hx=>h x (List.mem_of_mem_drop hx)
theorem WW.at {l:List Wr} (h:WW l) (i:Nat):(l.getD i wz).2.length=512:=by
 rw[zc]
 by_cases hi:i<l.length
 ·rw[zd hi];exact h _ (qr hi)
 rw[qn om];exact qA
theorem jv_cons (r:Wr) (l:List Wr):jv (r::l)=jc r++jv l:=rfl
theorem jv_app (a b:List Wr):jv (a++b)=jv a++jv b:=by simp[jv]
theorem jv_one (r:Wr):jv [r]=jc r:=by simp[jv]
theorem jv_len {l:List Wr} (h:WW l):(jv l).length=l.length*513:=by
 induction l with
 | nil=>rfl
 | cons r l ih=>rw[jv_cons,zh,yl (h r mH),ih h.tail,zL];omega
theorem jc_all (r:Wr):∀v∈jc r,K.one v=true:=by
 intro v hv
 rcases zq.1 hv with rfl|hv
 ·rfl
 exact qF _ v hv
theorem jv_get {l:List Wr} (h:WW l):∀ {i j:Nat},i<l.length→j<513→(jv l)[i*513+j]? = (jc (l.getD i wz))[j]?:=by
 induction l with
 | nil=>intro i j hi;simp at hi
 | cons r l ih=>
  intro i j hi hj
  have hr:=yl (h r mH)
  rw[jv_cons]
  cases i with
  | zero=>rw[Nat.zero_mul,zF,zJ om];rfl
  | succ i=>
   rw[yd om,hr,show(i+1)*513+j-513=i*513+j by omega]
   exact ih h.tail (by simpa using hi) hj
theorem jc_some {r:Wr} {j:Nat} {v:Value} (h:r.2.length=512) (hv:(jc r)[j]? = some v):j<513:=by
 have:=(yu.1 hv).1
 rw[yl h]at this;exact this
theorem wr_cell {l:List Wr} {cs:Array Value} {off i:Nat} (hW:WW l) (hcs:∀j,j<l.length*513→cs[off+j]? = some ((jv l).getD j undef)) (hi:i<l.length) {j:Nat} {v:Value} (hv:(jc (l.getD i wz))[j]? = some v):cs[off+i*513+j]? = some v:=by
 have hj:=jc_some (hW.at i) hv
 rw[Nat.add_assoc,hcs (i*513+j) om,zc,jv_get hW hi hj,hv];rfl
def InW (Rl:List (Nat×Obj)) (la:Option Addr) (l:List Wr):Prop:=InS Rl la (l.length*513) (fun j=>(jv l).getD j undef)
theorem InW.mono {Rl Rl':List (Nat×Obj)} {la:Option Addr} {l:List Wr} (h:InW Rl la l) (hR:∀e∈Rl,e∈Rl'):InW Rl' la l:=InS.mono h hR
theorem inW_own {o:K.Own} {e:TypeId} {l:List Wr} (hok:OwnOk o 513 l.length (jv l)):InW (o.o e (jv l)) o.a l:=by
 intro hn
 obtain⟨p,rfl⟩:=own_some hok om
 refine⟨p.1,0,_,e,(0,0),rfl,mH,fun j hj=>?_⟩
 have hl:=hok.len
 rw[zF]
 simp only[List.getElem?_toArray]
 rw[zJ om,zc,zd om];rfl
def two (a:Int):List UInt8:=[UInt8.ofNat ((a / 256)%256).toNat,UInt8.ofNat (a%256).toNat]
def twoW (r:Wr):List UInt8:=two r.1
def blkW (r:Wr):List UInt8:=r.2
theorem twoW_len (r:Wr):(twoW r).length=2:=rfl
def mkL:List UInt8:=[80,82,84,82]
def hdS (n:Nat) (l:List Wr):List UInt8:=mkL++eight n++four l.length++flat twoW l
def hdL (n:Nat) (l:List Wr):List UInt8:=hdS n l++shaD (hdS n l++flat blkW l)
def qi (n:Nat) (l:List Wr):List UInt8:=hdL n (l.take 96)++replicate (512-(hdL n (l.take 96)).length) 0
theorem flat2_len (l:List Wr):(flat twoW l).length=2*l.length:=by
 induction l with
 | nil=>rfl
 | cons a l ih=>rw[show a::l=[a]++l from rfl,flat_app,zh,ih];simp only[flat,List.flatMap_cons,List.flatMap_nil,List.append_nil,twoW_len,List.length_append,List.length_cons,List.length_nil];omega
theorem hdS_len (n:Nat) (l:List Wr):(hdS n l).length=16+2*l.length:=by
 unfold hdS;rw[zh,zh,zh,flat2_len];unfold eight four;rw[be_len,be_len];simp only[mkL,List.length_cons,List.length_nil]
theorem hdL_len (n:Nat) (l:List Wr):(hdL n l).length=48+2*l.length:=by
 unfold hdL;rw[zh,hdS_len,shaD_len];omega
theorem t96_len (l:List Wr):(l.take 96).length≤96:=by rw[z8];omega
theorem headF_len (n:Nat) (l:List Wr):(qi n l).length=512:=by
 have h1:=hdL_len n (l.take 96)
 have h2:=t96_len l
 unfold qi;rw[zh,zk];omega
end
namespace K
section
open Go.MapKept
theorem ba_eqb (a b:ByteArray):(a==b)=decide (a=b):=by
 obtain⟨x⟩:=a
 obtain⟨y⟩:=b
 show(x==y)=_
 by_cases h:x=y
 ·rw[h,decide_eq_true rfl];exact beq_self_eq_true _
 rw[decide_eq_false (fun e=>h (by injection e))];exact beq_eq_false_iff_ne.2 h
theorem era_map {α β:Type} (f:α→β):∀(l:List α) (i:Nat),(l.eraseIdx i).map f=(l.map f).eraseIdx i
 | [],_=>rfl
 | _::_,0=>rfl
 | a::l,i+1=>by rw[List.eraseIdx_cons_succ,yi,yi,List.eraseIdx_cons_succ,era_map f l i]
structure SMapOk (es:Array MapEntry) (ck:Nat) (W:List (ByteArray×Value)):Prop where
 rel:es.toList.map (fun e=>(e.key,e.val))=W.map fun p=>(Value.string p.1,p.2)
 st:Stamped es ck
def smfind (k:ByteArray):List (ByteArray×Value)→Nat→Option (Nat×Value)
 | [],_=>none
 | p::W,i=>if k=p.1 then some (i,p.2)else smfind k W (i+1)
def smget (W:List (ByteArray×Value)) (k:ByteArray):Option Value:=match W with
 | []=>none
 | p::W=>if k=p.1 then some p.2 else smget W k
def smset (W:List (ByteArray×Value)) (k:ByteArray) (v:Value):List (ByteArray×Value):=match W with
 | []=>[(k,v)]
 | p::W=>if k=p.1 then(k,v)::W else p::smset W k v
theorem smfind_get (k:ByteArray):∀(W:List (ByteArray×Value)) (i:Nat),(smfind k W i).map (·.2)=smget W k
 | [],_=>rfl
 | p::W,i=>by
  unfold smfind smget
  split
  ·rfl
  exact smfind_get k W (i+1)
theorem smget_set (W:List (ByteArray×Value)) (k:ByteArray) (v:Value) (j:ByteArray):smget (smset W k v) j=if j=k then some v else smget W j:=by
 induction W with
 | nil=>simp[smset,smget]
 | cons p W ih=>
  unfold smset
  by_cases h:k=p.1
  ·rw[if_pos h]
   unfold smget
   by_cases hj:j=k
   ·rw[if_pos hj,if_pos hj]
   ·simp only[if_neg hj]
    rw[if_neg (show ¬j=p.1 from fun e=>hj (by rw[e,h]))]
  ·rw[if_neg h]
   unfold smget
   by_cases hj:j=p.1
   ·rw[if_pos hj,if_neg (fun e=>h (by rw[←e,hj])),if_pos hj]
   ·rw[if_neg hj,if_neg hj,ih]
theorem smset_keys {W:List (ByteArray×Value)} {k:ByteArray} {v:Value}:∀p∈smset W k v,p.1=k∨p∈W:=by
 induction W with
 | nil=>intro p hp;rw[smset]at hp;rw[zi.1 hp];exact .inl rfl
 | cons q W ih=>
  intro p hp
  unfold smset at hp
  split at hp
  ·rcases zq.1 hp with rfl|hp
   ·exact .inl rfl
   ·exact .inr (zf _ hp)
  ·rcases zq.1 hp with rfl|hp
   ·exact .inr mH
   ·rcases ih p hp with h|h
    ·exact .inl h
    ·exact .inr (zf _ h)
theorem sfindNow_of (k:ByteArray):∀(es:List MapEntry) (W:List (ByteArray×Value)) (i:Nat),es.map (fun e=>(e.key,e.val))=W.map (fun p=>(Value.string p.1,p.2))→Instr.findNow .string (.string k) es i=some (smfind k W i)
 | [],[],_,_=>rfl
 | [],_::_,_,h=>by simp at h
 | _::_,[],_,h=>by simp at h
 | e::es,p::W,i,h=>by
  simp only[List.map_cons,List.cons.injEq,Prod.mk.injEq]at h
  obtain⟨⟨h1,h2⟩,h3⟩:=h
  unfold Instr.findNow smfind
  rw[h1]
  simp only[Instr.sameNow]
  by_cases hk:k=p.1
  ·subst hk;rw[ba_eqb,decide_eq_true rfl];simp[h2]
  rw[if_neg hk,ba_eqb,decide_eq_false hk]
  exact sfindNow_of k es W (i+1) h3
theorem smfind_some {k:ByteArray}:∀ {W:List (ByteArray×Value)} {i j:Nat} {v:Value},smfind k W i=some (j,v)→i≤j∧W[j-i]? = some (k,v)
 | [],_,_,_,h=>by cases h
 | p::W,i,j,v,h=>by
  unfold smfind at h
  split at h
  ·rename_i hk
   simp only[Option.some.injEq,Prod.mk.injEq]at h
   obtain⟨rfl,rfl⟩:=h
   refine⟨zD _,?_⟩
   rw[qH,List.getElem?_cons_zero,hk]
  obtain⟨h1,h2⟩:=smfind_some h
  refine⟨by omega,?_⟩
  rw[show j-i=(j-(i+1))+1 by omega,List.getElem?_cons_succ];exact h2
theorem smfind_set {k:ByteArray} (u:Value):∀ {W:List (ByteArray×Value)} {i j:Nat} {v:Value},smfind k W i=some (j,v)→smset W k u=W.set (j-i) (k,u)
 | [],_,_,_,h=>by cases h
 | p::W,i,j,v,h=>by
  unfold smfind at h
  unfold smset
  split at h
  ·rename_i hk
   simp only[Option.some.injEq,Prod.mk.injEq]at h
   obtain⟨rfl,rfl⟩:=h
   rw[if_pos hk,qH,List.set_cons_zero]
  rename_i hk
  have h1:=(smfind_some h).1
  rw[if_neg hk,smfind_set u h,show j-i=(j-(i+1))+1 by omega,List.set_cons_succ]
theorem smfind_none {k:ByteArray} (u:Value):∀ {W:List (ByteArray×Value)} {i:Nat},smfind k W i=none→smset W k u=W++[(k,u)]∧∀p∈W,p.1≠k
 | [],_,_=>⟨rfl,fun p h=>by cases h⟩
 | p::W,i,h=>by
  unfold smfind at h
  unfold smset
  split at h
  ·cases h
  rename_i hk
  obtain⟨h1,h2⟩:=smfind_none u h
  rw[if_neg hk,h1]
  refine⟨rfl,fun q hq=>?_⟩
  rcases zq.1 hq with rfl|hq
  ·exact fun e=>hk e.symm
  exact h2 q hq
section
variable {P:Program} {w:World}
theorem str_key {k:ByteArray} {kt:TypeId} (hd:P.underlying kt=some .string) (e:Bool):(Instr.checkKey e 10000 kt (.string k)).run P w=.ok () w:=by
 show(Instr.checkKey e (9999+1) kt (.string k)).run P w=_
 unfold Instr.checkKey
 simp only[Sem.run_bind,zx hd,Result.andThen_ok];rfl
theorem str_find {k:ByteArray} {kt:TypeId} (hd:P.underlying kt=some .string) {es:Array MapEntry} {ck:Nat} {W:List (ByteArray×Value)} (h:SMapOk es ck W):(Instr.findKey kt (.string k) es.toList).run P w=.ok (smfind k W 0) w:=by
 unfold Instr.findKey
 simp only[Sem.run_bind,zx hd,Result.andThen_ok,sfindNow_of k _ _ 0 h.rel];rfl
theorem srun_lookup {t kt e:TypeId} {k:ByteArray} {r:Nat} {es:Array MapEntry} {ck:Nat} {W:List (ByteArray×Value)} {z:Value} (hm:P.underlying t=some (.map kt e)) (hd:P.underlying kt=some .string) (hz0:(P.info? e).bind (·.zero)=some z) (hb:w.heap[r]? = some (.map es ck)) (h:SMapOk es ck W) (ok:Bool) :
  (Instr.lookup t (.map (some r)) (.string k) ok).run P w=.ok (if ok then .tuple #[(smget W k).getD z,.bool (smget W k).isSome] else(smget W k).getD z) w:=by
 obtain⟨inf,hi,hz⟩:=qK.1 hz0
 have hzv:(zeroValue e).run P w=.ok z w:=by simp[zeroValue,typeInfo,program,Sem.run,hi,hz]
 unfold Instr.lookup
 simp only[Sem.run_bind,zx hm,Result.andThen_ok,Go.MapKept.run_getObj_map hb,Sem.run_pure,str_key hd,str_find hd h]
 rw[←smfind_get k W 0]
 cases smfind k W 0 with
 | none=>simp only[Sem.run_bind,hzv,Result.andThen_ok,Sem.run_pure];cases ok <;> rfl
 | some p=>cases ok <;> rfl
theorem srun_mapUpdate {t kt e:TypeId} {k:ByteArray} {v:Value} {r:Nat} {es:Array MapEntry} {ck:Nat} {W:List (ByteArray×Value)} (hm:P.underlying t=some (.map kt e)) (hd:P.underlying kt=some .string) (hb:w.heap[r]? = some (.map es ck)) (h:SMapOk es ck W) :
  ∃es' ck',SMapOk es' ck' (smset W k v)∧(Instr.mapUpdate t (.map (some r)) (.string k) v).run P w=.ok () {w with heap:=w.heap.setIfInBounds r (.map es' ck')}:=by
 cases hf:smfind k W 0 with
 | none=>
  obtain⟨h1,h2⟩:=smfind_none v hf
  refine⟨es.push {key:=.string k,val:=v,born:=ck},ck+1,⟨?_,stamped_push h.st ?_⟩,?_⟩
  ·rw[Array.toList_push,yf,h.rel,h1,yf];rfl
  ·intro x hx hk
   have hx2:(x.key,x.val)∈W.map fun p=>(Value.string p.1,p.2):=by rw[←h.rel];exact zv.2 ⟨x,hx,rfl⟩
   obtain⟨p,hp,he⟩:=zv.1 hx2
   simp only[Prod.mk.injEq]at he
   rw[hk]at he
   have:=he.1
   simp only[Value.string.injEq]at this
   exact h2 p hp this
  ·simp only[Instr.mapUpdate,Sem.run_bind,zx hm,Result.andThen_ok,Go.MapKept.run_getObj_map hb,str_key hd,str_find hd h,hf,Go.MapKept.run_setObj_map _ hb]
 | some jp=>
  obtain⟨j,u⟩:=jp
  obtain⟨_,hW⟩:=smfind_some hf
  rw[Nat.sub_zero]at hW
  have hlen:es.toList.length=W.length:=by have:=congrArg List.length h.rel;simpa using this
  have hjW:j<W.length:=(yu.1 hW).1
  have hj:j<es.size:=by rw[←z7];omega
  have hej:(es[j].key,es[j].val)=(Value.string k,u):=by
   have h3:(es.toList.map (fun e=>(e.key,e.val)))[j]? = (W.map fun p=>(Value.string p.1,p.2))[j]?:=by rw[h.rel]
   rw[qa,qa,hW,qj,qp hj]at h3
   simpa using h3
  simp only[Prod.mk.injEq]at hej
  have hkt:(Instr.keyThatStays (((es[j]?).map (·.key)).getD (.string k)) (.string k)).run P w=.ok (.string k) w:=by
   rw[qp hj,Option.map_some,qR,hej.1]
   exact run_keyThatStays (d:=.string) (by first|trivial|rfl|exact⟨_,rfl⟩)
  refine⟨es.modify j (fun e=>{e with key:=.string k,val:=v}),ck,⟨?_,stamped_modify h.st j _ (fun _ _=>rfl) (fun e _ hge=>by rw[qp hj]at hge;cases hge;exact hej.1.symm)⟩,?_⟩
  ·rw[smfind_set v hf,Nat.sub_zero,List.map_set,←h.rel]
   apply List.ext_getElem?
   intro q
   simp only[List.getElem?_map,Array.getElem?_toList,Array.getElem?_modify,List.getElem?_set,List.length_map,Array.length_toList]
   by_cases hq:j=q
   ·subst hq;simp[hj]
   ·simp[hq]
  ·simp only[Instr.mapUpdate,Sem.run_bind,zx hm,Result.andThen_ok,Go.MapKept.run_getObj_map hb,str_key hd,str_find hd h,hf,hkt,Go.MapKept.run_setObj_map _ hb]
end
section
variable {C:Cx} {R O:List (Nat×Obj)} {Γ:Env} {op:Oper}
theorem Eff.sGet {t kt e:TypeId} {x y:Operand} {ok:Bool} (ho:op.op=.lookup t x y ok) (hm:C.P.underlying t=some (.map kt e)) (hd:C.P.underlying kt=some .string) {z:Value} (hz0:(C.P.info? e).bind (·.zero)=some z) {r:Nat} {k:ByteArray} (hx:opd Γ [] x=some (.map (some r))) (hy:opd Γ [] y=some (.string k))
  {es:Array MapEntry} {ck:Nat} {W:List (ByteArray×Value)} (h:SMapOk es ck W) (hb:∀w,HP C.w0 C.M R O w→w.heap[r]? = some (.map es ck)) :
  Eff C R O Γ op Unit (fun _=>if ok then .tuple #[(smget W k).getD z,.bool (smget W k).isSome] else(smget W k).getD z) (fun _=>O) (fun _=>True):=
 yL fun a w hs hp=>⟨(),w,trivial,by
  simp only[execOp,ho]
  refine run_v ?_
  rw[yI hs (zW _) hx,yI hs (zW _) hy]
  exact srun_lookup hm hd hz0 (hb w hp) h ok,hp⟩
theorem Eff.sSet {t kt e:TypeId} {x y v:Operand} (ho:op.op=.mapUpdate t x y v) (hm:C.P.underlying t=some (.map kt e)) (hd:C.P.underlying kt=some .string) {r:Nat} {k:ByteArray} {u:Value} (hx:opd Γ [] x=some (.map (some r))) (hy:opd Γ [] y=some (.string k)) (hv:opd Γ [] v=some u)
  {es:Array MapEntry} {ck:Nat} {W:List (ByteArray×Value)} (h:SMapOk es ck W) (i:Nat) (hO:O[i]? = some (r,.map es ck)) :
  Eff C R O Γ op (Array MapEntry×Nat) (fun _=>undef) (fun x=>O.set i (r,.map x.1 x.2)) (fun x=>SMapOk x.1 x.2 (smset W k u)):=by
 refine Eff.of_skip fun a w hs hp=>?_
 obtain⟨es',ck',h1,h2⟩:=srun_mapUpdate (v:=u) (k:=k) hm hd (hp.own _ (yg hO)) h
 refine⟨(es',ck'),_,h1,?_,hp.set i (.map es' ck') hO (w':={w with heap:=w.heap.setIfInBounds r (.map es' ck')}) rfl rfl rfl rfl⟩
 have e1:=yI hs (zW _) hx
 have e2:=yI hs (zW _) hy
 have e3:=yI hs (zW _) hv
 simp[execOp,ho,e1,e2,e3,h2]
theorem SMapOk.empty (ck:Nat):SMapOk #[] ck []:=⟨rfl,stamped_empty ck⟩
end
def smdel (W:List (ByteArray×Value)) (k:ByteArray):List (ByteArray×Value):=match W with
 | []=>[]
 | p::W=>if k=p.1 then W else p::smdel W k
theorem smfind_del {k:ByteArray}:∀ {W:List (ByteArray×Value)} {i j:Nat} {v:Value},smfind k W i=some (j,v)→smdel W k=W.eraseIdx (j-i)
 | [],_,_,_,h=>by cases h
 | p::W,i,j,v,h=>by
  unfold smfind at h
  unfold smdel
  split at h
  ·rename_i hk
   simp only[Option.some.injEq,Prod.mk.injEq]at h
   obtain⟨rfl,rfl⟩:=h
   rw[if_pos hk,qH];rfl
  rename_i hk
  have h1:=(smfind_some h).1
  rw[if_neg hk,smfind_del h,show j-i=(j-(i+1))+1 by omega];rfl
theorem smdel_none {k:ByteArray}:∀ {W:List (ByteArray×Value)} {i:Nat},smfind k W i=none→smdel W k=W
 | [],_,_=>rfl
 | p::W,i,h=>by
  unfold smfind at h
  unfold smdel
  split at h
  ·cases h
  rename_i hk
  rw[if_neg hk,smdel_none h]
theorem smdel_mem {k:ByteArray}:∀ {W:List (ByteArray×Value)},∀p∈smdel W k,p∈W
 | [],p,h=>by cases h
 | q::W,p,h=>by
  unfold smdel at h
  split at h
  ·exact zf _ h
  rcases zq.1 h with rfl|h
  ·exact mH
  exact zf _ (smdel_mem p h)
theorem smget_no {k:ByteArray}:∀ {W:List (ByteArray×Value)},k∉W.map (·.1)→smget W k=none
 | [],_=>rfl
 | p::W,h=>by
  unfold smget
  rw[if_neg (fun e=>h (by rw[e];exact mH)),smget_no (fun hm=>h (zf _ hm))]
theorem smget_del {k j:ByteArray}:∀ {W:List (ByteArray×Value)},(W.map (·.1)).Nodup→smget (smdel W k) j=if j=k then none else smget W j
 | [],_=>by simp[smdel,smget]
 | p::W,h=>by
  rw[yi,qd]at h
  unfold smdel
  by_cases hk:k=p.1
  ·rw[if_pos hk]
   by_cases hj:j=k
   ·rw[if_pos hj,hj]
    exact smget_no (by rw[hk];exact h.1)
   rw[if_neg hj]
   show _=(if j=p.1 then some p.2 else smget W j)
   rw[if_neg (fun e=>hj (by rw[e,hk]))]
  rw[if_neg hk]
  show(if j=p.1 then some p.2 else smget (smdel W k) j)=if j=k then none else if j=p.1 then some p.2 else smget W j
  rw[smget_del h.2]
  by_cases hj:j=k
  ·rw[if_pos hj,if_pos hj,if_neg (fun e=>hk (by rw[←hj,e]))]
  rw[if_neg hj,if_neg hj]
theorem smdel_nodup {k:ByteArray}:∀ {W:List (ByteArray×Value)},(W.map (·.1)).Nodup→((smdel W k).map (·.1)).Nodup
 | [],h=>h
 | p::W,h=>by
  rw[yi,qd]at h
  unfold smdel
  split
  ·exact h.2
  rw[yi,qd]
  refine⟨fun hm=>h.1 ?_,smdel_nodup h.2⟩
  obtain⟨q,hq,e⟩:=zv.1 hm
  exact zv.2 ⟨q,smdel_mem q hq,e⟩
theorem smset_nodup {k:ByteArray} {v:Value}:∀ {W:List (ByteArray×Value)},(W.map (·.1)).Nodup→((smset W k v).map (·.1)).Nodup
 | [],_=>by simp[smset]
 | p::W,h=>by
  rw[yi,qd]at h
  unfold smset
  split
  ·rename_i hk
   rw[yi,qd]
   exact⟨by show k∉_;rw[hk];exact h.1,h.2⟩
  rename_i hk
  rw[yi,qd]
  refine⟨fun hm=>?_,smset_nodup h.2⟩
  obtain⟨q,hq,e⟩:=zv.1 hm
  rcases smset_keys q hq with e2|h2
  ·exact hk (by rw[←e2,e])
  exact h.1 (zv.2 ⟨q,h2,e⟩)
section
variable {P:Program} {w:World}
theorem srun_delete {t kt e:TypeId} {k:ByteArray} {r:Nat} {es:Array MapEntry} {ck:Nat} {W:List (ByteArray×Value)} {ty:TypeId} {tys:Array TypeId} (ht:tys[0]? = some t) (hm:P.underlying t=some (.map kt e)) (hd:P.underlying kt=some .string) (hb:w.heap[r]? = some (.map es ck)) (h:SMapOk es ck W) :
  ∃es',SMapOk es' ck (smdel W k)∧(Builtin.delete_ tys ty #[.map (some r),.string k]).run P w=.ok (.tuple #[]) {w with heap:=w.heap.setIfInBounds r (.map es' ck)}:=by
 cases hf:smfind k W 0 with
 | none=>
  refine⟨es,by rw[smdel_none hf];exact h,?_⟩
  simp[Builtin.delete_,ht,Sem.run_bind,zx hm,Result.andThen_ok,Go.MapKept.run_getObj_map hb,str_key hd,str_find hd h,hf,Go.MapKept.run_setObj_map _ hb]
 | some jp=>
  obtain⟨j,u⟩:=jp
  refine⟨es.eraseIdxIfInBounds j,⟨?_,stamped_erase h.st j⟩,?_⟩
  ·have h1:=smfind_del hf
   rw[Nat.sub_zero]at h1
   rw[h1,era_map,←h.rel,←era_map,Array.toList_eraseIdxIfInBounds]
  ·simp[Builtin.delete_,ht,Sem.run_bind,zx hm,Result.andThen_ok,Go.MapKept.run_getObj_map hb,str_key hd,str_find hd h,hf,Go.MapKept.run_setObj_map _ hb]
end
section
variable {C:Cx} {R O:List (Nat×Obj)} {Γ:Env} {op:Oper}
theorem Eff.sDel {t kt e:TypeId} {x y:Operand} {tys:Array TypeId} (ho:op.op=.call ⟨.builtin .delete,#[x,y],tys⟩) (ht:tys[0]? = some t) (hm:C.P.underlying t=some (.map kt e)) (hd:C.P.underlying kt=some .string) {r:Nat} {k:ByteArray} (hx:opd Γ [] x=some (.map (some r))) (hy:opd Γ [] y=some (.string k))
  {es:Array MapEntry} {ck:Nat} {W:List (ByteArray×Value)} (h:SMapOk es ck W) (i:Nat) (hO:O[i]? = some (r,.map es ck)) :
  Eff C R O Γ op (Array MapEntry) (fun _=>.tuple #[]) (fun x=>O.set i (r,.map x ck)) (fun x=>SMapOk x ck (smdel W k)):=by
 refine yL fun a w hs hp=>?_
 obtain⟨es',h1,h2⟩:=srun_delete (ty:=op.type) (k:=k) ht hm hd (hp.own _ (yg hO)) h
 refine⟨es',_,h1,?_,hp.set i (.map es' ck) hO (w':={w with heap:=w.heap.setIfInBounds r (.map es' ck)}) rfl rfl rfl rfl⟩
 simp[execOp,ho,resolve,invoke,builtin,yI hs (zW _) hx,yI hs (zW _) hy,h2]
end
def mdel (W:List (Int×Value)) (k:Int):List (Int×Value):=match W with
 | []=>[]
 | p::W=>if k=p.1 then W else p::mdel W k
theorem mfind_del {k:Int}:∀ {W:List (Int×Value)} {i j:Nat} {v:Value},mfind k W i=some (j,v)→mdel W k=W.eraseIdx (j-i)
 | [],_,_,_,h=>by cases h
 | p::W,i,j,v,h=>by
  unfold mfind at h
  unfold mdel
  split at h
  ·rename_i hk
   simp only[Option.some.injEq,Prod.mk.injEq]at h
   obtain⟨rfl,rfl⟩:=h
   rw[if_pos hk,qH];rfl
  rename_i hk
  have h1:=(mfind_some h).1
  rw[if_neg hk,mfind_del h,show j-i=(j-(i+1))+1 by omega];rfl
theorem mdel_none {k:Int}:∀ {W:List (Int×Value)} {i:Nat},mfind k W i=none→mdel W k=W
 | [],_,_=>rfl
 | p::W,i,h=>by
  unfold mfind at h
  unfold mdel
  split at h
  ·cases h
  rename_i hk
  rw[if_neg hk,mdel_none h]
section
variable {P:Program} {w:World}
theorem run_delete {t kt e:TypeId} {q:IntKind} {k:Int} {r:Nat} {es:Array MapEntry} {ck:Nat} {W:List (Int×Value)} {ty:TypeId} {tys:Array TypeId} (ht:tys[0]? = some t) (hm:P.underlying t=some (.map kt e)) (hd:P.underlying kt=some (.int q)) (hb:w.heap[r]? = some (.map es ck)) (h:MapOk es ck W) :
  ∃es',MapOk es' ck (mdel W k)∧(Builtin.delete_ tys ty #[.map (some r),.int .i64 k]).run P w=.ok (.tuple #[]) {w with heap:=w.heap.setIfInBounds r (.map es' ck)}:=by
 cases hf:mfind k W 0 with
 | none=>
  refine⟨es,by rw[mdel_none hf];exact h,?_⟩
  simp[Builtin.delete_,ht,Sem.run_bind,zx hm,Result.andThen_ok,Go.MapKept.run_getObj_map hb,int_key hd,int_find hd h,hf,Go.MapKept.run_setObj_map _ hb]
 | some jp=>
  obtain⟨j,u⟩:=jp
  refine⟨es.eraseIdxIfInBounds j,⟨?_,stamped_erase h.st j⟩,?_⟩
  ·have h1:=mfind_del hf
   rw[Nat.sub_zero]at h1
   rw[h1,era_map,←h.rel,←era_map,Array.toList_eraseIdxIfInBounds]
  ·simp[Builtin.delete_,ht,Sem.run_bind,zx hm,Result.andThen_ok,Go.MapKept.run_getObj_map hb,int_key hd,int_find hd h,hf,Go.MapKept.run_setObj_map _ hb]
end
section
variable {C:Cx} {R O:List (Nat×Obj)} {Γ:Env} {op:Oper}
theorem Eff.mDel {t kt e:TypeId} {q:IntKind} {x y:Operand} {tys:Array TypeId} (ho:op.op=.call ⟨.builtin .delete,#[x,y],tys⟩) (ht:tys[0]? = some t) (hm:C.P.underlying t=some (.map kt e)) (hd:C.P.underlying kt=some (.int q)) {r:Nat} {k:Int} (hx:opd Γ [] x=some (.map (some r))) (hy:opd Γ [] y=some (.int .i64 k))
  {es:Array MapEntry} {ck:Nat} {W:List (Int×Value)} (h:MapOk es ck W) (i:Nat) (hO:O[i]? = some (r,.map es ck)) :
  Eff C R O Γ op (Array MapEntry) (fun _=>.tuple #[]) (fun x=>O.set i (r,.map x ck)) (fun x=>MapOk x ck (mdel W k)):=by
 refine yL fun a w hs hp=>?_
 obtain⟨es',h1,h2⟩:=run_delete (ty:=op.type) (k:=k) ht hm hd (hp.own _ (yg hO)) h
 refine⟨es',_,h1,?_,hp.set i (.map es' ck) hO (w':={w with heap:=w.heap.setIfInBounds r (.map es' ck)}) rfl rfl rfl rfl⟩
 simp[execOp,ho,resolve,invoke,builtin,yI hs (zW _) hx,yI hs (zW _) hy,h2]
end
section
variable {C:Cx} {R O:List (Nat×Obj)} {Γ:Env}
theorem run_mclone {P:Program} {w:World} {t:TypeId} {r:Nat} {es:Array MapEntry} {ck:Nat} (hb:w.heap[r]? = some (.map es ck)):(Extern.MapsClone.clone #[.iface t (.map (some r))]).run P w=.ok (.iface t (.map (some w.heap.size))) (w.alloc (.map es ck)):=by
 have e:Extern.MapsClone.clone #[.iface t (.map (some r))]=(getObj r >>= fun o=>match o with
   | .map entries clock=>(newObj (.map entries clock) >>= fun n=>pure (.iface t (.map (some n))))
   | _ => stuck "maps.clone: a map expected") := rfl
 rw[e]
 simp[Go.MapKept.run_getObj_map hb,Result.andThen,newObj,Sem.run]
theorem Eff.mapClone {o : Oper} {f : FuncId} {fn : Func} {xs : List Operand} {tys : Array TypeId} {vs : List Value} {t : TypeId} {r : Nat} {es : Array MapEntry} {ck : Nat} (ho : o.op = .call ⟨.value (.func f),xs.toArray,tys⟩) (hf : C.P.funcs[f]? = some fn) (hnm : (fn.name == "runtime.NumGoroutine") = false) (hb : fn.body.isNone = true) (h1 : (Extern.findNext fn).isNone = true) (h2 : Extern.find fn = some Extern.MapsClone.clone) (hx : opds Γ xs = some vs) (hv : vs = [.iface t (.map (some r))])
  (h:∀w,HP C.w0 C.M R O w→w.heap[r]? = some (.map es ck)):Eff C R O Γ o Nat (fun b=>.iface t (.map (some b))) (fun b=>(b,.map es ck)::O) (fun b=>C.w0.heap.size≤b∧b∉O.map (·.1)):=
 yL fun a w hs hp=>⟨w.heap.size,w.alloc (.map es ck),⟨hp.ext.size,hp.fresh (zD _)⟩,by
  subst hv
  have hargs:=opds_ok hs hx
  have hc:=run_extern hf hnm hb h1 h2 (run_mclone (t:=t) (P:=C.P) (h w hp))
  simp[execOp,ho,resolve,Deferred.ofValue,Act.eval,invoke,hargs,hc],hp.alloc _⟩
theorem Eff.mapIsNil {op:Oper} {t t2 k e:TypeId} {x y:Operand} {r:Nat} (ho:op.op=.binOp .eql t x y t2) (hu:C.P.underlying t=some (.map k e)) (hx:opd Γ [] x=some (.map (some r))) (hy:opd Γ [] y=some (.map none)):Eff C R O Γ op Unit (fun _=>.bool false) (fun _=>O) (fun _=>True):=
 yL fun a w hs hp=>⟨(),w,trivial,by
  have hq:(Op.equal t (.map (some r)) (.map none)).run C.P w=.ok false w:=by
   show(Op.equalIn (9999+1) t _ _).run C.P w=_
   rw[Op.equalIn]
   simp only[Sem.run_bind,zx hu,Result.andThen_ok,Sem.run_pure,Option.isNone]
  have hg:eqGuard .eql t x y (.map (some r)) (.map none)=pure ():=rfl
  simp only[execOp,ho]
  refine run_v ?_
  rw[yI hs (zW _) hx,yI hs (zW _) hy]
  simp only[hg,Sem.run_bind,Sem.run_pure,Result.andThen_ok,binOp,hq],hp⟩
theorem Eff.assertM {op:Oper} {t kt e xt:TypeId} {x:Operand} {v:Value} (ho:op.op=.typeAssert x xt t false) (hu:C.P.underlying t=some (.map kt e)) (hx:opd Γ [] x=some (.iface t v)):Eff C R O Γ op Unit (fun _=>v) (fun _=>O) (fun _=>True):=
 yL fun a w hs hp=>⟨(),w,trivial,by
  simp only[execOp,ho]
  refine run_v ?_
  rw[yI hs (zW _) hx]
  unfold Instr.typeAssert
  simp[Sem.run_bind,zx hu,Result.andThen_ok],hp⟩
end
section
variable {C:Cx} {R Os O:List (Nat×Obj)} {Γ:Env} {ops:Array Oper} {fuel:Nat} {l:Array Bool} {ks:List KI}
theorem CfgA.join {ι:Type} (O2:ι→List (Nat×Obj)) (Γ2:ι→Env) (h1:∀i,Cfg C R (O2 i) (Γ2 i) ks) (h2:(∀i,Cfg C R (O2 i) (Γ2 i) ks)→CfgA C R Os O Γ ops fuel l ks):CfgA C R Os O Γ ops fuel l ks:=h2 h1
end
end
def splL (xs:List Value) (off:Nat) (vs:List Value):List Value:=xs.take off++(vs++xs.drop (off+vs.length))
theorem splL_len {xs vs:List Value} {off:Nat} (h:off+vs.length≤xs.length):(splL xs off vs).length=xs.length:=by
 unfold splL
 rw[zh,zh,z8,qg];omega
theorem spl_row {xs vs junk:List Value} {off:Nat} (h:off+vs.length≤xs.length):spl (xs++junk).toArray off vs=(splL xs off vs++junk).toArray:=by
 have h1:=spl_list (xs.take off) ((xs.drop off).take vs.length) (xs.drop (off+vs.length)++junk) vs (by rw[z8,qg];omega)
 have e:xs.take off++(xs.drop off).take vs.length++(xs.drop (off+vs.length)++junk)=xs++junk:=by
  have e1:(xs.drop off).take vs.length++xs.drop (off+vs.length)=xs.drop off:=by
   rw[←List.drop_drop,yz]
  rw[zO,←zO ((xs.drop off).take vs.length),e1,←zO,yz]
 rw[e,z8,qC om]at h1
 rw[h1]
 unfold splL
 simp only[List.append_assoc]
theorem OwnOk.splL {o:Own} {sz n:Nat} {xs vs:List Value} {off:Nat} (hok:OwnOk o sz n xs) (h:off+vs.length≤xs.length):OwnOk o sz n (splL xs off vs):=
 ⟨(splL_len h).trans hok.len,hok.nil,fun p hp=>by rw[splL_len h];exact hok.some p hp⟩
section
variable {C:Cx} {R O:List (Nat×Obj)} {Γ:Env} {o:Oper}
theorem Eff.storeOwn {t:TypeId} {x y:Operand} {b off:Nat} {vs:Array Value} {n:Nat} (ho:o.op=.store t x y) {ow:Own} {e:TypeId} {xs:List Value} (ha:Own.a ow=some ⟨b,0,none⟩) (hx:opd Γ [] x=some (.pointer (some ⟨b,off,none⟩))) (hy:opd Γ [] y=some (.agg vs))
  (hsz0:(C.P.info? t).map (·.size)=some n) (hn:vs.size=n) (h1:∀v∈vs.toList,K.one v=true) (F T:LO) (hO:O=F++(Own.o e xs ow++T)) (hoff:off+n≤xs.length) :
  Eff C R O Γ o Unit (fun _=>undef) (fun _=>F++(Own.o e (splL xs off vs.toList) ow++T)) (fun _=>True):=by
 cases ow with
 | none=>cases ha
 | some p=>
  obtain⟨b',cap,junk⟩:=p
  obtain rfl:b'=b:=by simpa [Own.a] using ha
  have hi:O[F.length]? = some (b',.cells (xs++junk).toArray e (0,0)):=by
   rw[hO,yd (zD _),qH];rfl
  have h:=zC (C:=C) (R:=R) ho hx hy hsz0 hn h1 F.length hi (by rw[zp,zh];omega)
  rw[spl_row (by rw[z7];omega)]at h
  have e1:O.set F.length (b',.cells (splL xs off vs.toList++junk).toArray e (0,0))=F++(Own.o e (splL xs off vs.toList) (some (b',cap,junk))++T):=by
   rw[hO,qI _ _ (zD _),qH];rfl
  rw[e1]at h
  exact h
theorem set_spl {xs:List Value} {off:Nat} {v:Value} (junk:List Value) (h:off<xs.length):(xs++junk).toArray.setIfInBounds off v=(splL xs off [v]++junk).toArray:=by
 have:=spl_row (junk:=junk) (vs:=[v]) (off:=off) (xs:=xs) (by simp only[List.length_singleton];omega)
 exact this
theorem Eff.storeOwn1 {t:TypeId} {x y:Operand} {b off:Nat} {v:Value} (ho:o.op=.store t x y) {ow:Own} {e:TypeId} {xs:List Value} (ha:Own.a ow=some ⟨b,0,none⟩) (hx:opd Γ [] x=some (.pointer (some ⟨b,off,none⟩))) (hy:opd Γ [] y=some v) (h1:K.one v=true)
  (hsz0:(C.P.info? t).map (·.size)=some 1) (F T:LO) (hO:O=F++(Own.o e xs ow++T)) (hoff:off<xs.length) :
  Eff C R O Γ o Unit (fun _=>undef) (fun _=>F++(Own.o e (splL xs off [v]) ow++T)) (fun _=>True):=by
 cases ow with
 | none=>cases ha
 | some p=>
  obtain⟨b',cap,junk⟩:=p
  obtain rfl:b'=b:=by simpa [Own.a] using ha
  have hi:O[F.length]? = some (b',.cells (xs++junk).toArray e (0,0)):=by
   rw[hO,yd (zD _),qH];rfl
  have h:=zS (C:=C) (R:=R) ho hx hy h1 hsz0 F.length hi (by rw[zp,zh];omega)
  rw[set_spl junk hoff]at h
  have e1:O.set F.length (b',.cells (splL xs off [v]++junk).toArray e (0,0))=F++(Own.o e (splL xs off [v]) (some (b',cap,junk))++T):=by
   rw[hO,qI _ _ (zD _),qH];rfl
  rw[e1]at h
  exact h
theorem Eff.reO {ι:Type} {V:ι→Value} {A A2:ι→List (Nat×Obj)} {F:ι→Prop} (h:Eff C R O Γ o ι V A F) (e:∀x,A x=A2 x):Eff C R O Γ o ι V A2 F:=by
 have:A=A2:=funext e
 subst this
 exact h
end
end K
section
open K
structure Pl where
 nm:ByteArray
 at_:Nat
 sz:Nat
def plz:Pl:=⟨ByteArray.empty,0,0⟩
def plc (p:Pl):List Value:=[.string p.nm,.int .i64 (p.at_:Int),.int .i64 (p.sz:Int)]
theorem plc_len (p:Pl):(plc p).length=3:=rfl
theorem all_plc (p:Pl):∀v∈plc p,K.one v=true:=by
 intro v h
 simp only[plc,List.mem_cons,List.not_mem_nil,or_false]at h
 rcases h with rfl|rfl|rfl <;> rfl
def secs (n:Nat):Nat:=(n+511) / 512
structure PlOk (p:Pl):Prop where
 nm:p.nm.size≤72
 at_:p.at_<4294967296
 sz:p.sz≤32768
theorem PlOk.z:PlOk plz:=⟨zH _,by decide,zH _⟩
def yQ (p:Pl):List (Int×Int):=if p.sz=0 then[] else[((p.at_:Int),(secs p.sz:Int))]
theorem fRun0 (p:Pl) (w:World) (h0:p.sz=0) :
  Calls Tryz.prog 44 #[.agg (plc p).toArray] w fun e w'=>e=.returned (.slice none 0 0)∧Ext [] w w':=by
 refine enter [] [] [] Tryz.func44 rfl kr (yy w) ?_
 refine Be rfl rfl (y7 (v:=.agg (plc p).toArray) rfl kr) ?_
 rintro pb ⟨hpb,npb⟩
 refine Ld 1 [1] ?_
 refine Rg [1,5] [dZ,(dS (iN p.sz))] (fun S=>[(cE S pb 2 (iN p.sz))]) ⟨(oC 0 rfl rfl),trivial⟩ ?_
 refine Cfg.condT rfl (b:=((p.sz:Int)==(0:Int))) kr (by rw[h0];rfl) ?_
 refine Rq [2] ?_
 refine Rt [.slice none 0 0] (fun w1 hp=>?_)
 exact⟨rfl,hp.ext⟩
theorem fRun1 (p:Pl) (w:World) (h0:0<p.sz) (h1:PlOk p) :
  Calls Tryz.prog 44 #[.agg (plc p).toArray] w fun e w'=>∃rb:Nat,True∧e=.returned (.slice (some ⟨rb,0,none⟩) 1 1)∧w.heap.size≤rb∧w'.heap[rb]? = some (.cells #[.int .i64 (p.at_:Int),.int .i64 (secs p.sz:Int)] 117 (0,0))∧Ext [] w w':=by
 have h2:=h1.at_
 have h3:=h1.sz
 refine enter [] [] [] Tryz.func44 rfl kr (yy w) ?_
 refine Be rfl rfl (y7 (v:=.agg (plc p).toArray) rfl kr) ?_
 rintro pb ⟨hpb,npb⟩
 refine Ld 1 [1] ?_
 refine Rg [1,5] [dZ,(dS (iN p.sz))] (fun S=>[(cE S pb 2 (iN p.sz))]) ⟨(oC 0 rfl rfl),trivial⟩ ?_
 refine yb rfl (b:=((p.sz:Int)==(0:Int))) kr (beq_eq_false_iff_ne.2 om) ?_
 refine Bp 8 [dZ,(dS (iN p.at_)),dZ,(dS (iN p.sz)),dZ,dZ,dZ,(dS (.agg #[iN p.at_,.int .i64 (secs p.sz:Int)]))] (some [13]) (fun S=>[(cE S pb 1 (iN p.at_)),(cE S pb 2 (iN p.sz)),(i6 ((p.sz:Int)+512)),(i6 (((p.sz:Int)+512)-1)),(0≤(((p.sz:Int)+512)-1)∧(((p.sz:Int)+512)-1)≤9223372036854775807∧0<(512:Int)),(∀w1,S w1→(Instr.build 117 #[(0,iN p.at_),(1,.int .i64 ((((p.sz:Int)+512)-1) / 512))]).run Tryz.prog w1=.ok (.agg #[iN p.at_,.int .i64 (secs p.sz:Int)]) w1)]) ⟨(oC 0 rfl rfl),(oC 0 rfl rfl),om,om,om,(fun w1 _=>by rw[show((p.sz:Int)+512-1) / 512=(secs p.sz:Int) by unfold secs;omega];kernel_rfl),trivial⟩ ?_
 refine Le (yR (vs:=#[iN p.at_,.int .i64 (secs p.sz:Int)]) (n:=2) rfl kr Tryz.underlying114 kr (z:=(.agg #[.int .i64 0,.int .i64 0])) kr (by rfl) (by decide) (by decide)) ?_
 rintro rb ⟨hrb,nrb⟩
 refine Ld 1 [2] ?_
 refine Rt [sP rb 0 1 1] (fun w1 hp=>?_)
 exact⟨rb,trivial,rfl,hrb,hp.own (rb,_) mH,hp.ext⟩
theorem mClone (r:Nat) (es:Array MapEntry) (ck:Nat) (w:World) (hR:Has w [(r,.map es ck)]) :
  Calls Tryz.prog 73 #[.map (some r)] w fun e w'=>∃r2:Nat,True∧e=.returned (.map (some r2))∧w.heap.size≤r2∧w'.heap[r2]? = some (.map es ck)∧Ext [] w w':=by
 refine enter [] [(r,.map es ck)] [] Tryz.func73 rfl kr (yj hR) ?_
 refine Rq [0] ?_
 refine Bp 1 [] none n0 trivial ?_
 refine Lu (Eff.mapIsNil (r:=r) rfl Tryz.underlying81 kr kr) ?_
 refine zg rfl ?_
 refine Cg (Γ':=[(4,[],.bool false),(0,[],.map (some r))]) ?_
 refine yb rfl (b:=false) kr rfl ?_
 refine Bq 2 [6] ?_
 refine Le (Eff.mapClone (t:=81) (r:=r) (es:=es) (ck:=ck) rfl Tryz.func116 (by rfl) (by rfl) (by rfl) (by rfl) kr rfl (fun w1 h=>h.ro _ mH)) ?_
 rintro r2 ⟨hr2,nr2⟩
 refine Lu (Eff.assertM (v:=.map (some r2)) rfl Tryz.underlying81 kr) ?_
 refine Ld 1 [2] ?_
 refine Rt [.map (some r2)] (fun w1 hp=>?_)
 exact⟨r2,trivial,rfl,hr2,hp.own (r2,_) mH,hp.ext⟩
theorem mKeysS (r:Nat) (w:World) :
  Calls Tryz.prog 43 #[.map (some r)] w fun e w'=>∃b:Nat,True∧e=.returned (.func (.func 86) #[] #[.pointer (some ⟨b,0,none⟩)])∧w.heap.size≤b∧w'.heap[b]? = some (.cells #[.map (some r)] 81 (0,0))∧Ext [] w w':=by
 refine enter [] [] [] Tryz.func43 rfl kr (yy w) ?_
 refine Be rfl rfl (y7 (v:=.map (some r)) rfl kr) ?_
 rintro kb ⟨hkb,nkb⟩
 refine Ld 1 [1] ?_
 refine Rq [2] ?_
 refine Rt [.func (.func 86) #[] #[pT kb]] (fun w1 hp=>?_)
 exact⟨kb,trivial,rfl,hkb,hp.own (kb,_) mH,hp.ext⟩
theorem mKeysI (r:Nat) (w:World) :
  Calls Tryz.prog 79 #[.map (some r)] w fun e w'=>∃b:Nat,True∧e=.returned (.func (.func 122) #[] #[.pointer (some ⟨b,0,none⟩)])∧w.heap.size≤b∧w'.heap[b]? = some (.cells #[.map (some r)] 94 (0,0))∧Ext [] w w':=by
 refine enter [] [] [] Tryz.func79 rfl kr (yy w) ?_
 refine Be rfl rfl (y7 (v:=.map (some r)) rfl kr) ?_
 rintro kb ⟨hkb,nkb⟩
 refine Ld 1 [1] ?_
 refine Rq [2] ?_
 refine Rt [.func (.func 122) #[] #[pT kb]] (fun w1 hp=>?_)
 exact⟨kb,trivial,rfl,hkb,hp.own (kb,_) mH,hp.ext⟩
end
section
open Go.Shelf Go.Proofs Go.RowKit
def Tryz.laysRepeat_ren:Go.Shelf.Ren:=⟨fun|105=>113|212=>144|99=>145|165=>146|166=>147|170=>148|169=>46|263=>173|264=>174|206=>175|240=>87|241=>176|276=>128|277=>197|n=>n,fun|9=>9|3=>3|4=>4|20=>20|0=>0|46=>189|109=>229|5=>5|72=>113|76=>120|51=>157|146=>257|53=>141|148=>259|70=>110|37=>111|75=>119|127=>178|164=>218|80=>122|n=>n,fun|n=>n⟩
theorem Tryz.laysRepeat:Go.Proofs.Lays.n105 Tryz.prog Tryz.laysRepeat_ren:={
 mixed:=by kernel_rfl,
 f99:=Tryz.func145.trans (congrArg some kr),
 f105:=Tryz.func113.trans (congrArg some kr),
 f165:=Tryz.func146.trans (congrArg some kr),
 f166:=Tryz.func147.trans (congrArg some kr),
 f169:=Tryz.func46.trans (congrArg some kr),
 f170:=Tryz.func148.trans (congrArg some kr),
 f206:=Tryz.func175.trans (congrArg some kr),
 f212:=Tryz.func144.trans (congrArg some kr),
 f240:=Tryz.func87.trans (congrArg some kr),
 f241:=Tryz.func176.trans (congrArg some kr),
 f263:=Tryz.func173.trans (congrArg some kr),
 f264:=Tryz.func174.trans (congrArg some kr),
 f276:=Tryz.func128.trans (congrArg some kr),
 f277:=Tryz.func197.trans (congrArg some kr),
 t0:=Tryz.underlying0,
 a0:=Tryz.isAgg0,
 z0:=Tryz.sizeOf0,
 v0:=Tryz.zeroValue0,
 t3:=Tryz.underlying3,
 a3:=Tryz.isAgg3,
 z3:=Tryz.sizeOf3,
 v3:=Tryz.zeroValue3,
 t4:=Tryz.underlying4,
 a4:=Tryz.isAgg4,
 z4:=Tryz.sizeOf4,
 v4:=Tryz.zeroValue4,
 t5:=Tryz.underlying5,
 a5:=Tryz.isAgg5,
 z5:=Tryz.sizeOf5,
 v5:=Tryz.zeroValue5,
 t9:=Tryz.underlying9,
 a9:=Tryz.isAgg9,
 z9:=Tryz.sizeOf9,
 v9:=Tryz.zeroValue9,
 t20:=Tryz.underlying20,
 a20:=Tryz.isAgg20,
 z20:=Tryz.sizeOf20,
 v20:=Tryz.zeroValue20,
 t37:=Tryz.underlying111,
 a37:=Tryz.isAgg111,
 z37:=Tryz.sizeOf111,
 v37:=Tryz.zeroValue111,
 t46:=Tryz.underlying189,
 a46:=Tryz.isAgg189,
 z46:=Tryz.sizeOf189,
 v46:=Tryz.zeroValue189,
 t51:=Tryz.underlying157,
 a51:=Tryz.isAgg157,
 z51:=Tryz.sizeOf157,
 v51:=Tryz.zeroValue157,
 t53:=Tryz.underlying141,
 a53:=Tryz.isAgg141,
 z53:=Tryz.sizeOf141,
 v53:=Tryz.zeroValue141,
 t70:=Tryz.underlying110,
 a70:=Tryz.isAgg110,
 z70:=Tryz.sizeOf110,
 v70:=Tryz.zeroValue110,
 t72:=Tryz.underlying113,
 a72:=Tryz.isAgg113,
 z72:=Tryz.sizeOf113,
 v72:=Tryz.zeroValue113,
 t75:=Tryz.underlying119,
 a75:=Tryz.isAgg119,
 z75:=Tryz.sizeOf119,
 v75:=Tryz.zeroValue119,
 t76:=Tryz.underlying120,
 a76:=Tryz.isAgg120,
 z76:=Tryz.sizeOf120,
 v76:=Tryz.zeroValue120,
 t109:=Tryz.underlying229,
 a109:=Tryz.isAgg229,
 z109:=Tryz.sizeOf229,
 v109:=Tryz.zeroValue229,
 t127:=Tryz.underlying178,
 a127:=Tryz.isAgg178,
 z127:=Tryz.sizeOf178,
 v127:=Tryz.zeroValue178,
 t146:=Tryz.underlying257,
 a146:=Tryz.isAgg257,
 z146:=Tryz.sizeOf257,
 v146:=Tryz.zeroValue257,
 t148:=Tryz.underlying259,
 a148:=Tryz.isAgg259,
 z148:=Tryz.sizeOf259,
 v148:=Tryz.zeroValue259,
 t164:=Tryz.underlying218,
 a164:=Tryz.isAgg218,
 z164:=Tryz.sizeOf218,
 v164:=Tryz.zeroValue218}
theorem repExtra:Builder.Extra Tryz.prog Tryz.laysRepeat_ren:={
 sizeBuilder:=by kernel_rfl,
 liesBuilder:=by kernel_rfl,
 t5:=Tryz.laysRepeat.t5,
 a5:=Tryz.laysRepeat.a5,
 z5:=Tryz.laysRepeat.z5,
 v5:=Tryz.laysRepeat.v5,
 infoByte:=by kernel_rfl,
 cellsByte:=by kernel_rfl,
 sizeByte:=by kernel_rfl,
 neB5:=by decide}
theorem fRepeat:Tryz.laysRepeat_ren.f 105=113:=by kernel_rfl
theorem repL (x:UInt8):∀c,Lib.repeatL [x] c=replicate c x
 | 0=>rfl
 | c+1=>by rw[show Lib.repeatL [x] (c+1)=[x]++Lib.repeatL [x] c from rfl,repL x c];rfl
theorem fRep (n:Nat) (w:World) (hn:n≤1000000):Calls Tryz.prog 113 #[.string ⟨#[0]⟩,.int .i64 (n:Int)] w fun e w'=>e=.returned (.string (tx (replicate n 0)))∧K.Ext [] w w':=by
 have h:=Any.strings_Repeat Tryz.laysRepeat repExtra ⟨#[0]⟩ n w om (by show 1*n≤_;omega)
 rw[fRepeat]at h
 refine h.mono fun e w' ⟨he,hB⟩=>⟨?_,hB.os,hB.tape,hB.output,hB.size,fun k hk _=>hB.block k hk⟩
 rw[he,show(⟨#[0]⟩:ByteArray).data.toList=[0]from rfl,repL];rfl
end
section
open K
theorem inS_dig (bk:Nat) (t:TypeId) (fr:Nat×Nat) (d:List UInt8) (h:d.length=32):InS [(bk,.cells (bv d) t fr)] (some ⟨bk,0,none⟩) ([d].length*32) (fun j=>.int .u8 ((([d].getD (j / 32) []).getD (j%32) 0).toNat:Int)):=by
 intro _
 refine⟨bk,0,_,t,fr,rfl,zi.2 rfl,fun j hj=>?_⟩
 simp only[List.length_cons,List.length_nil]at hj
 rw[zF,bv_get h om]
 simp only[show j / 32=0 by omega,show j%32=j by omega]
 rfl
theorem wDigest1 (l d:List UInt8) (bk:Nat) (t:TypeId) (w:World) (h:d.length=32) (hr:l.length+32≤140737488355328) (hh:Has w [(bk,.cells (bv d) t (0,0))]) :
  Calls Tryz.prog 135 #[.agg #[.string (tx l)],.slice (some ⟨bk,0,none⟩) 1 1] w fun e w'=>e=.returned (.agg #[.string (tx (l++d))])∧Ext [] w w':=by
 have:=wDigest (tx l) (some ⟨bk,0,none⟩) 1 [d] [(bk,.cells (bv d) t (0,0))] w (inS_dig bk t (0,0) d h) hh (by simp[maxLen]) (by rw[flat_one,qf];show _+d.length≤_;omega) (fun i hi=>by
  obtain rfl:i=0:=by simpa using hi
  exact h)
 rw[flat_one]at this
 exact this
theorem InW.take {Rl:List (Nat×Obj)} {la:Option Addr} {l:List Wr} (h:InW Rl la l) (k:Nat) (hW:WW l):InW Rl la (l.take k):=by
 have hk:(l.take k).length≤l.length:=by rw[z8];omega
 have e:jv l=jv (l.take k)++jv (l.drop k):=by rw[←jv_app,yz]
 have hl:=jv_len (hW.take k)
 have h':InS Rl la (l.length*513) (fun j=>(jv l).getD j undef):=h
 show InS Rl la ((l.take k).length*513) (fun j=>(jv (l.take k)).getD j undef)
 generalize (l.take k).length=m at *
 generalize l.length=n at *
 intro hn
 have h0:0<n*513:=by omega
 obtain⟨b,off,cs,te,fre,h1,h2,h3⟩:=h' h0
 refine⟨b,off,cs,te,fre,h1,h2,fun j hj=>?_⟩
 have hj':j<n*513:=by omega
 refine(h3 j hj').trans (congrArg some ?_)
 show(jv l).getD j undef=(jv (l.take k)).getD j undef
 rw[e,zc,zJ om,zc]
theorem K.Eff.minI2 {C:Cx} {R O:List (Nat×Obj)} {Γ:Env} {op:Oper} {x y:Operand} {tys:Array TypeId} {k:IntKind} {a b:Int} (c:Int) (hc:(if b<a then b else a)=c) (ho:op.op=.call ⟨.builtin .min,#[x,y],tys⟩) (hx:opd Γ [] x=some (.int k a)) (hy:opd Γ [] y=some (.int k b)):Eff C R O Γ op Unit (fun _=>.int k c) (fun _=>O) (fun _=>True):=by
 subst hc;exact Eff.minI ho hx hy
theorem be_one (n:Nat):be n 1=[UInt8.ofNat n]:=by simp[be]
theorem two_eq (a:Int):two a=be ((a / 256)%256).toNat 1++be (a%256).toNat 1:=by rw[be_one,be_one];rfl
theorem wByteI (L:List UInt8) (x:Int) (w:World) (hx:0≤x∧x<256) (hr:L.length+1≤140737488355328):Calls Tryz.prog 111 #[.agg #[.string (tx L)],.int .u8 x] w fun e w'=>e=.returned (.agg #[.string (tx (L++be x.toNat 1))])∧Ext [] w w':=by
 have h9:=wByte (tx L) x.toNat w om (by rw[qf];exact hr)
 rw[Int.toNat_of_nonneg hx.1]at h9
 exact h9
theorem wr_str {P:Program} {w0 w:World} {M:List Nat} {R O:List (Nat×Obj)} (h:HP w0 M R O w) (i:Nat) {b:Nat} {r:Wr} {t:TypeId} (ho:O[i]? = some (b,.cells (jc r).toArray t (0,0))) (hr:r.2.length=512) (c:Nat):(Conv.bytesToString (.slice (some ⟨b,1,none⟩) 512 c)).run P w=.ok (.string (tx r.2)) w:=by
 refine bytes_str hr fun j hj=>?_
 rw[zI (h.own _ (yg ho)),zo,show 1+j=j+1 by omega]
 show(bv r.2).toList[j]? = _
 rw[qj];exact bv_get hr hj
def pts (n:Nat) (q:List Wr) (i:Nat):List ByteArray:=tx (hdS n q)::(q.take i).map fun r=>tx r.2
theorem pts_len {n:Nat} {q:List Wr} {i:Nat} (h:i≤q.length):(pts n q i).length=i+1:=by
 unfold pts;rw[zL,zA,z8];omega
theorem pts_succ {n:Nat} {q:List Wr} {i:Nat} (h:i<q.length):pts n q (i+1)=pts n q i++[tx (q.getD i wz).2]:=by
 unfold pts;rw[zV h,yf,qZ]
 simp[List.getElem?_eq_getElem h]
theorem pts_vals {n:Nat} {q:List Wr} {i:Nat} (h:i<q.length):(pts n q i).map Value.string++[Value.string (tx (q.getD i wz).2)]=(pts n q (i+1)).map Value.string:=by
 rw[pts_succ h,yf];rfl
theorem pts_cat (n:Nat) (q:List Wr):scat (pts n q q.length)=hdS n q++flat blkW q:=by
 unfold pts;rw[yV]
 show(tx (hdS n q)).data.toList++List.flatMap (fun s:ByteArray=>s.data.toList) (q.map fun r=>tx r.2)=_
 rw[List.flatMap_map];rfl
theorem str_one (s:ByteArray):∀v∈[Value.string s],K.one v=true:=fun v hv=>by rw[zi.1 hv];rfl
theorem hd_spl {L:List UInt8} {n:Nat} (hL:L.length≤512) (hn:n=L.length):spl (bv (replicate 512 0)) 0 (bv ((tx L).data.toList.take n)).toList=bv (L++replicate (512-L.length) 0):=by
 subst hn
 have e0:(tx L).data.toList.take L.length=L:=by rw[tx_list];exact yV ..
 rw[e0]
 have e1:replicate 512 (0:UInt8)=replicate L.length 0++replicate (512-L.length) 0:=by rw[List.replicate_append_replicate];congr 1;omega
 have e2:∀a b:List UInt8,bv (a++b)=([]++(bv a).toList++(bv b).toList).toArray:=fun a b=>by simp[bv]
 rw[e1,e2,e2]
 exact spl_list [] _ _ _ (by rw[z7,z7,zP,zP,zk])
theorem hdS_flat (n:Nat) (q:List Wr):mkL++eight n++four q.length++flat twoW (q.take q.length)=hdS n q:=by rw[yV];rfl
theorem jHead (number:Nat) (la:Option Addr) (cap:Nat) (l:List Wr) (Rl:List (Nat×Obj)) {kt:Array Value} {t0:TypeId} {fr0:Nat×Nat} (w:World) (hnu:number<18446744073709551616) (hI:InW Rl la l) (hW:WW l) (hn:l.length≤maxLen) (hcap:l.length≤cap) (hR:Has w ((1,.cells kt t0 fr0)::Rl)) (hK:KT kt:=by assumption) :
  Calls Tryz.prog 102 #[.int .u64 (number:Int),.slice la l.length cap] w fun e w'=>e=.returned (.agg (bv (qi number l)))∧Ext [] w w':=by
 unfold maxLen at hn
 obtain⟨q,hq⟩:∃q,q=l.take 96:=⟨_,rfl⟩
 have hIq:InW ((1,.cells kt t0 fr0)::Rl) la q:=hq▸(hI.take 96 hW).mono (fun e he=>zf _ he)
 have hWq:WW q:=hq▸hW.take 96
 have hql:q.length=min 96 l.length:=by rw[hq,z8]
 have hqm:(if(96:Int)<(l.length:Int) then(96:Int) else(l.length:Int))=(q.length:Int):=by split <;> omega
 have hhf:qi number l=hdL number q++replicate (512-(hdL number q).length) 0:=by rw[hq];rfl
 rw[hhf]
 have hdl:=hdL_len number q
 have hsl:=hdS_len number q
 clear hhf hq
 have hf8:∀x,(eight x).length=8:=fun x=>be_len _ _
 have hf4:∀x,(four x).length=4:=fun x=>be_len _ _
 have hmod:((q.length:Int)%4294967296)=(q.length:Int):=by omega
 refine enter [] ((1,.cells kt t0 fr0)::Rl) [] Tryz.func102 rfl kr (yj hR) ?_
 refine Be rfl rfl (zM (z:=(.agg (bv (replicate 512 0)))) rfl kr) ?_
 rintro rs ⟨hrs,nrs⟩
 refine zg rfl ?_
 refine Bq 3 [0,1,4,12,14] ?_
 refine Lu (Eff.minI2 (k:=.i64) (a:=(l.length:Int)) (b:=(96:Int)) (q.length:Int) hqm rfl kr kr) ?_
 refine Lu (Eff.sliceTo (a:=la) (n:=l.length) (c:=cap) (m:=q.length) rfl Tryz.underlying98 kr kr kr om) ?_
 refine Ld 1 [0,1,4] ?_
 refine Bp 1 [(dS (.agg #[.string ByteArray.empty]))] none (fun S=>[(∀w1,S w1→(Instr.build 202 #[]).run Tryz.prog w1=.ok (.agg #[.string ByteArray.empty]) w1)]) ⟨(fun _ _=>kr),trivial⟩ ?_
 refine Le (yP (e:=9) (cells:=#[.string ⟨#[80,82,84,82]⟩]) (parts:=#[(0,.string ⟨#[80,82,84,82]⟩)]) rfl kr (fun _=>kr)) ?_
 rintro x2 ⟨hx2,nx2⟩
 refine Lu (zr (.agg #[.string (tx (qQ++cat [⟨#[80,82,84,82]⟩]))]) rfl Tryz.func112 rfl rfl kr (fun w1 h=>wRaw ByteArray.empty (some ⟨x2,0,none⟩) 1 [⟨#[80,82,84,82]⟩] [(x2,.cells (List.map Value.string [⟨#[80,82,84,82]⟩]).toArray 9 (0,0))] w1 (inS_lit x2 9 (0,0) [⟨#[80,82,84,82]⟩]) (h.has (fun e he=>mG 0 (by rw[zi.1 he];rfl))) (one_len _) (by rw[cat_one,ba_len];decide))) ?_
 refine Lq 1 [1,4,19,20] ?_
 refine Le (yP (e:=141) (cells:=#[.int .u64 (number:Int)]) (parts:=#[(0,.int .u64 (number:Int))]) rfl kr (fun _=>kr)) ?_
 rintro x3 ⟨hx3,nx3⟩
 refine Lu (zr (.agg #[.string (tx ((tx (qQ++cat [⟨#[80,82,84,82]⟩])).data.toList++flat eight [number]))]) rfl Tryz.func134 rfl rfl kr (fun w1 h=>wEight (tx (qQ++cat [⟨#[80,82,84,82]⟩])) (some ⟨x3,0,none⟩) 1 [number] [cl x3 #[.int .u64 (number:Int)] 141] w1 (inS_num x3 141 (0,0) .u64 number) (h.has (fun e he=>mG 0 (by rw[zi.1 he];rfl))) (by simp[maxLen]) (by simp only[List.length_cons,List.length_nil,qf,flat_one,List.length_append,cat_one,ba_len,hf8,show ByteArray.empty.size=0 from rfl];omega) (one_get om (by decide)))) ?_
 refine Lq 3 [1,4,22,25] ?_
 refine Le (yP (e:=157) (cells:=#[.int .u32 ((q.length:Int)%4294967296)]) (parts:=#[(0,.int .u32 ((q.length:Int)%4294967296))]) rfl kr (fun _=>kr)) ?_
 rintro x4 ⟨hx4,nx4⟩
 refine Lu (zr (.agg #[.string (tx ((tx ((tx (qQ++cat [⟨#[80,82,84,82]⟩])).data.toList++flat eight [number])).data.toList++flat four [q.length]))]) rfl Tryz.func114 rfl rfl kr (fun w1 h=>wFour (tx ((tx (qQ++cat [⟨#[80,82,84,82]⟩])).data.toList++flat eight [number])) (some ⟨x4,0,none⟩) 1 [q.length] [cl x4 #[uN q.length] 157] w1 (inS_num x4 157 (0,0) .u32 q.length) (by have hq:=h.own (cl x4 #[.int .u32 ((q.length:Int)%4294967296)] 157) (mG 0 rfl);rw[hmod]at hq;intro e he;rw[zi.1 he];exact hq) (by simp[maxLen]) (by simp only[List.length_cons,List.length_nil,qf,tx_list,flat_one,List.length_append,cat_one,ba_len,hf8,hf4,show ByteArray.empty.size=0 from rfl];omega) (one_get om (by decide)))) ?_
 refine Le (zM (z:=(.agg #[.string ByteArray.empty])) rfl kr) ?_
 rintro o ⟨ho,no⟩
 refine Lu (zC (b:=o) (off:=0) (vs:=#[.string (tx ((tx ((tx (qQ++cat [⟨#[80,82,84,82]⟩])).data.toList++flat eight [number])).data.toList++flat four [q.length]))]) (n:=1) rfl kr kr kr rfl (by simp[K.one]) 0 (cs:=#[.string ByteArray.empty]) (e:=202) kr (by simp)) ?_
 refine oL 0 rfl (show _ = #[.string (tx ((tx ((tx (qQ++cat [⟨#[80,82,84,82]⟩])).data.toList++flat eight [number])).data.toList++flat four [q.length]))]from rfl) ?_
 refine zg rfl ?_
 refine Cg (Γ':=[(5,[],pT o),(1,[],.slice la q.length cap),(4,[],pT rs)]) ?_
 refine Rq [1,4,5,28,29,30] ?_
 refine oB 0 rfl (show _ = #[.string (tx (mkL++eight number++four q.length++flat twoW (q.take 0)))]from by rfl) ?_
 refine ye rfl (ι:=Nat) (fun(i:Nat)=>[(30,[],iN i),(29,[],iN q.length),(28,[],.slice la q.length cap),(5,[],pT o),(1,[],.slice la q.length cap),(4,[],pT rs)]) (fun(i:Nat)=>[cl o #[.string (tx (mkL++eight number++four q.length++flat twoW (q.take i)))] 202,cl rs (bv (replicate 512 0)) 37]) (fun(i:Nat)=>(i≤q.length)) (fun(i:Nat)=>q.length-i) 0 ?_ (Conv.mk kr) (cO (.cons _ (.cons _ (.cons _ (cO .slnil))))) ?_
 ·exact zH _
 rintro i hi
 refine Rq [1,4,5,28,29,30,31] ?_
 refine eC rfl (p:=((i:Int)<(q.length:Int))) kr (fun c1=>?_) (fun c1=>?_)
 ·obtain⟨sb,off,cs,te,fre,rfl,hmem,hcs⟩:=hIq om
  refine y9 (Γ':=[(31,[],.bool (decide ((i:Int)<(q.length:Int)))),(30,[],iN i),(29,[],iN q.length),(28,[],sP sb off q.length cap),(5,[],pT o),(1,[],sP sb off q.length cap),(4,[],pT rs)]) (Conv.mk kr) ?_
  refine Bp 2 [dZ,(dS (.agg (jc (q.getD i wz)).toArray))] (some [1,4,5,28,29,30,33]) (fun S=>[(0≤(i:Int)∧(i:Int)<(q.length:Int)),(∀w1,S w1→(loadVar 101 ⟨sb,(addO off (i*513)),none⟩).run Tryz.prog w1=.ok (.agg (jc (q.getD i wz)).toArray) w1)]) ⟨om,(fun w1 h=>yw Tryz.underlying101 rfl kr (yl (hWq.at i)) (fun j v hj=>by rw[y4];exact(zI (h.ro _ hmem)).trans (wr_cell hWq hcs om hj))),trivial⟩ ?_
  refine Le (zM (z:=(.agg (jc wz).toArray)) rfl kr) ?_
  rintro xb6 ⟨hxb6,nxb6⟩
  refine Lu (zC (b:=xb6) (off:=0) (vs:=(jc (q.getD i wz)).toArray) (n:=513) rfl kr kr kr (by rw[zp,yl (hWq.at i)]) (jc_all _) 0 (cs:=(jc wz).toArray) (e:=101) kr (by show 0+513≤(jc wz).toArray.size;rw[zp,yl qA];decide)) ?_
  refine yF (congrArg (fun(xq:Array Value)=>([cl xb6 xq 101,cl o #[.string (tx (mkL++eight number++four q.length++flat twoW (q.take i)))] 202,cl rs (bv (replicate 512 0)) 37]:LO)) (show _=((jc (q.getD i wz)).toArray)from yx (by rw[zp,zp,yl (hWq.at i)];exact(yl qA).symm))) ?_
  refine zg rfl ?_
  refine Cg (Γ':=[(7,[],pT xb6),(30,[],iN i),(29,[],iN q.length),(28,[],sP sb off q.length cap),(5,[],pT o),(1,[],sP sb off q.length cap),(4,[],pT rs)]) ?_
  refine yo rfl kr [cl xb6 ((jc (q.getD i wz)).toArray) 101,cl rs (bv (replicate 512 0)) 37] ?_
  refine Ap [1,2,3,4,6,7,8] [dZ,(dS (.int .i64 ((q.getD i wz).1))),dZ,dZ,dZ,(dS (.int .i64 ((q.getD i wz).1)))] (some [1,4,5,28,29,30,38,42]) (bF 478 11) (cO (.cons _ (cO .slnil))) 4 (fun S=>[(cE S xb6 0 (.int .i64 ((q.getD i wz).1))),(0≤(8:Int)∧8≤64),(cE S xb6 0 (.int .i64 ((q.getD i wz).1)))]) ⟨(oC 0 rfl rfl),om,(oC 0 rfl rfl),trivial⟩ ?_
  refine Au 0 rfl 3  (qm (raw:=false) (orc:=some (.agg #[.string (tx (mkL++eight number++four q.length++flat twoW (q.take i)))])) (v:=.agg #[.string (tx (mkL++eight number++four q.length++flat twoW (q.take i)))]) (nd:=(fun S=>[(lV S 202 o 0 (.agg #[.string (tx (mkL++eight number++four q.length++flat twoW (q.take i)))]))])) (fun _=>kr) ⟨(fun w1 h=>h.oload 1 rfl Tryz.underlying202 rfl (n:=1) kr rfl),trivial⟩ kr) (fun _ _=>(cO (.cons _ (cO .slnil)))) ?_
  refine Au 5 rfl 2  (zr (.agg #[.string (tx ((mkL++eight number++four q.length++flat twoW (q.take i))++be ((((q.getD i wz).1) / 256)%256).toNat 1))]) rfl Tryz.func111 rfl rfl kr (fun w1 _=>wByteI (mkL++eight number++four q.length++flat twoW (q.take i)) ((((q.getD i wz).1) / 256)%256) w1 om (by simp only[List.length_append,flat2_len,hf8,hf4,show mkL.length=4 from rfl,List.length_take];omega))) (fun _ _=>(cO (.cons _ (cO .slnil)))) ?_
  refine Au 9 rfl 1  (zr (.agg #[.string (tx (((mkL++eight number++four q.length++flat twoW (q.take i))++be ((((q.getD i wz).1) / 256)%256).toNat 1)++be (((q.getD i wz).1)%256).toNat 1))]) rfl Tryz.func111 rfl rfl kr (fun w1 _=>wByteI ((mkL++eight number++four q.length++flat twoW (q.take i))++be ((((q.getD i wz).1) / 256)%256).toNat 1) (((q.getD i wz).1)%256) w1 om (by simp only[List.length_append,be_len,flat2_len,hf8,hf4,show mkL.length=4 from rfl,List.length_take];omega))) (fun _ _=>(cO (.cons _ (cO .slnil)))) ?_
  refine Au 10 rfl 0  (zC (b:=o) (off:=0) (vs:=#[.string (tx (((mkL++eight number++four q.length++flat twoW (q.take i))++be ((((q.getD i wz).1) / 256)%256).toNat 1)++be (((q.getD i wz).1)%256).toNat 1))]) (n:=1) rfl kr kr kr rfl (by simp[K.one]) 1 (cs:=#[.string (tx (mkL++eight number++four q.length++flat twoW (q.take i)))]) (e:=202) kr (by simp)) (fun _ _=>(cO (.cons _ (cO .slnil)))) ?_
  refine oA 1 rfl (show _ = #[.string (tx (((mkL++eight number++four q.length++flat twoW (q.take i))++be ((((q.getD i wz).1) / 256)%256).toNat 1)++be (((q.getD i wz).1)%256).toNat 1))]from rfl) ?_
  refine z6 kr ?_
  refine Cg (Γ':=[(30,[],iN i),(29,[],iN q.length),(28,[],sP sb off q.length cap),(5,[],pT o),(1,[],sP sb off q.length cap),(4,[],pT rs)]) ?_
  refine Rg [1,4,5,28,29,30] [] (fun _=>[(i6 ((i:Int)+1))]) ⟨om,trivial⟩ ?_
  refine oB 1 rfl (show _ = #[.string (tx (mkL++eight number++four q.length++flat twoW (q.take (i+1))))]from by rw[flat_succ wz om,←zO,show twoW (q.getD i wz)=two (q.getD i wz).1 from rfl,two_eq,←zO]) ?_
  refine zG rfl (i+1) (show i+1≤q.length by omega) om (Conv.mk kr) (.cons _ (cO (cO .slnil)))
 obtain rfl:i=q.length:=by omega
 refine oB 0 rfl (show _ = #[.string (tx (hdS number q))]from by rw[hdS_flat]) ?_
 refine y9 (Γ':=[(28,[],.slice la q.length cap),(5,[],pT o),(1,[],.slice la q.length cap),(4,[],pT rs)]) (Conv.mk kr) ?_
 refine Bp 1 [(dS (.agg #[.string (tx (hdS number q))]))] (some [1,4,5,45]) (fun S=>[(lV S 202 o 0 (.agg #[.string (tx (hdS number q))]))]) ⟨(fun w1 h=>h.oload 0 rfl Tryz.underlying202 rfl (n:=1) kr rfl),trivial⟩ ?_
 refine Lu (zr (.string (tx (hdS number q))) rfl Tryz.func115 rfl rfl kr (fun w1 _=>wString (tx (hdS number q)) w1)) ?_
 refine Le (yP (e:=9) (cells:=#[.string (tx (hdS number q))]) (parts:=#[(0,.string (tx (hdS number q)))]) rfl kr (fun _=>kr)) ?_
 rintro x7 ⟨hx7,nx7⟩
 refine Ld 1 [1,4,5,8] ?_
 refine Rq [4,5,8,48,49,50] ?_
 refine Cfg.permO (O':=([cl o #[.string (tx (hdS number q))] 202,cl rs (bv (replicate 512 0)) 37]++(Own.o 9 ((pts number q 0).map Value.string) ((some (x7,1,[])))++[]))) (List.perm_append_comm (l₁:=([cl x7 #[.string (tx (hdS number q))] 9]:LO))) ?_
 refine ye rfl (ι:=Nat×K.Own) (fun(i,own)=>[(50,[],iN i),(49,[],iN q.length),(48,[],.slice la q.length cap),(8,[],sO own ((i+1))),(5,[],pT o),(4,[],pT rs)]) (fun(i,own)=>([cl o #[.string (tx (hdS number q))] 202,cl rs (bv (replicate 512 0)) 37]++(Own.o 9 ((pts number q i).map Value.string) own++[]))) (fun(i,own)=>(i≤q.length)∧(OwnOk own 1 (i+1) ((pts number q i).map Value.string))) (fun(i,own)=>q.length-i) (0,some (x7,1,[])) ?_ (Conv.mk kr) (cO (cO (zE slr (zj _ _)))) ?_
 ·exact⟨zH _,⟨rfl,(fun h=>by cases h),(fun p h=>by cases h;exact⟨rfl,zD _⟩)⟩⟩
 rintro⟨i,own⟩ ⟨hi,hok⟩
 refine Rq [4,5,8,48,49,50,51] ?_
 refine eC rfl (p:=((i:Int)<(q.length:Int))) kr (fun c2=>?_) (fun c2=>?_)
 ·obtain⟨sb,off,cs,te,fre,rfl,hmem,hcs⟩:=hIq om
  refine y9 (Γ':=[(51,[],.bool (decide ((i:Int)<(q.length:Int)))),(50,[],iN i),(49,[],iN q.length),(48,[],sP sb off q.length cap),(8,[],sO own ((i+1))),(5,[],pT o),(4,[],pT rs)]) (Conv.mk kr) ?_
  refine Bp 2 [dZ,(dS (.agg (jc (q.getD i wz)).toArray))] (some [4,5,8,48,49,50,53]) (fun S=>[(0≤(i:Int)∧(i:Int)<(q.length:Int)),(∀w1,S w1→(loadVar 101 ⟨sb,(addO off (i*513)),none⟩).run Tryz.prog w1=.ok (.agg (jc (q.getD i wz)).toArray) w1)]) ⟨om,(fun w1 h=>yw Tryz.underlying101 rfl kr (yl (hWq.at i)) (fun j v hj=>by rw[y4];exact(zI (h.ro _ hmem)).trans (wr_cell hWq hcs om hj))),trivial⟩ ?_
  refine Le (zM (z:=(.agg (jc wz).toArray)) rfl kr) ?_
  rintro xb8 ⟨hxb8,nxb8⟩
  refine Lu (zC (b:=xb8) (off:=0) (vs:=(jc (q.getD i wz)).toArray) (n:=513) rfl kr kr kr (by rw[zp,yl (hWq.at i)]) (jc_all _) 0 (cs:=(jc wz).toArray) (e:=101) kr (by show 0+513≤(jc wz).toArray.size;rw[zp,yl qA];decide)) ?_
  refine yF (congrArg (fun(xq:Array Value)=>(([cl xb8 xq 101,cl o #[.string (tx (hdS number q))] 202,cl rs (bv (replicate 512 0)) 37]++(Own.o 9 ((pts number q i).map Value.string) own++[])):LO)) (show _=((jc (q.getD i wz)).toArray)from yx (by rw[zp,zp,yl (hWq.at i)];exact(yl qA).symm))) ?_
  refine zg rfl ?_
  refine Cg (Γ':=[(10,[],pT xb8),(50,[],iN i),(49,[],iN q.length),(48,[],sP sb off q.length cap),(8,[],sO own ((i+1))),(5,[],pT o),(4,[],pT rs)]) ?_
  refine Bp 4 [dZ,dZ,dZ,(dS (.string (tx (q.getD i wz).2)))] (some [4,5,8,48,49,50,54,57]) (fun S=>[(512≤512),(∀w1,S w1→(Conv.bytesToString (sP xb8 1 512 512)).run Tryz.prog w1=.ok (.string (tx (q.getD i wz).2)) w1)]) ⟨om,(fun w1 h=>wr_str h 0 rfl (hWq.at i) _),trivial⟩ ?_
  refine Le (yP (e:=9) (cells:=#[.string (tx (q.getD i wz).2)]) (parts:=#[(0,.string (tx (q.getD i wz).2))]) rfl kr (fun _=>kr)) ?_
  rintro x9 ⟨hx9,nx9⟩
  refine Le (y8 rfl 1 16 Tryz.underlying41 kr (z:=(.string ByteArray.empty)) kr kr own (xs:=((pts number q i).map Value.string)) hok kr (b2:=x9) (off2:=0) (m:=1) (c2:=1) kr ([Value.string (tx (q.getD i wz).2)]) rfl (str_one _) [(x9,.cells #[.string (tx (q.getD i wz).2)] 9 (0,0)),(xb8,.cells ((jc (q.getD i wz)).toArray) 101 (0,0)),(o,.cells #[.string (tx (hdS number q))] 202 (0,0)),(rs,.cells (bv (replicate 512 0)) 37 (0,0))] [] (by rfl) (fun w1 h j v hj=>by rw[zF];exact h.ocell 0 rfl (by rw[←qj];exact hj)) om om) ?_
  rintro o8 ko8
  refine Ld 1 [4,5,8,48,49,50] ?_
  refine Rg [4,5,8,48,49,50] [] (fun _=>[(i6 ((i:Int)+1))]) ⟨om,trivial⟩ ?_
  have hpv:=pts_vals (n:=number) (q:=q) (i:=i) om
  refine zU (congrArg (fun(xq:List Value)=>(([cl x9 #[.string (tx (q.getD i wz).2)] 9,cl xb8 ((jc (q.getD i wz)).toArray) 101,cl o #[.string (tx (hdS number q))] 202,cl rs (bv (replicate 512 0)) 37]++(Own.o 9 xq o8++[])):LO)) (show _=((pts number q (i+1)).map Value.string)from hpv)) ?_
  refine zG rfl (i+1,o8) ⟨by omega,hpv▸ko8⟩ (by show q.length-(i+1)<q.length-i;omega) (Conv.mk kr) (.cons _ (.cons _ slr))
 obtain rfl:i=q.length:=by omega
 have hss:(tx (hdS number q++shaD (scat (pts number q q.length)))).size=(hdL number q).length:=by rw[qf,pts_cat];rfl
 have hfl:(hdL number q++replicate (512-(hdL number q).length) 0).length=512:=by rw[zh,zk];omega
 refine y9 (Γ':=[(8,[],sO own ((q.length+1))),(5,[],pT o),(4,[],pT rs)]) (Conv.mk kr) ?_
 refine Be rfl rfl (zM (z:=(.agg (bv (replicate 512 0)))) rfl kr) ?_
 rintro hb ⟨hhb,nhb⟩
 refine zg rfl ?_
 refine yo rfl kr [cl rs (bv (replicate 512 0)) 37] ?_
 refine Ap [0,2] [] (some [4,5,11,61,63]) (bF 5 8) (.cons _ (.cons _ (cO nL))) 6 (fun _=>[(512≤512)]) ⟨om,trivial⟩ ?_
 refine CfgA.two 1 3 kr (fuel':=5) rfl ?_ ?_
 ·
  refine Iu rfl  (qm (raw:=false) (orc:=some (.agg #[.string (tx (hdS number q))])) (v:=.agg #[.string (tx (hdS number q))]) (nd:=(fun S=>[(lV S 202 o 0 (.agg #[.string (tx (hdS number q))]))])) (fun _=>kr) ⟨(fun w1 h=>h.oload 1 rfl Tryz.underlying202 rfl (n:=1) kr rfl),trivial⟩ kr) (fun _ _=>(.cons _ (.cons _ (cO nL)))) ?_
  refine Au 3 rfl 4  (zr (vs:=[sO own ((q.length+1))]) (.agg (bv (shaD (scat (pts number q q.length))))) rfl Tryz.func136 rfl rfl kr (fun w1 h=>by have h9:=shaSum (Own.a own) (Own.c own) (pts number q q.length) (Own.o 9 ((pts number q q.length).map Value.string) own) w1 (own_ins (by rw[pts_len (zD _)];exact hok) (fun j hj=>by simp[ssat,List.getElem?_eq_getElem hj])) (by rw[pts_len (zD _)];unfold maxLen;omega) (fun e he=>(zq.1 he).elim (fun h1=>h1▸h.ro _ mH) (fun h1=>h.own e (show e∈([cl hb (bv (replicate 512 0)) 37,cl o #[.string (tx (hdS number q))] 202,cl rs (bv (replicate 512 0)) 37]++(Own.o 9 ((pts number q q.length).map Value.string) own++[])) from(mR (mL h1))))) hK;rw[pts_len (zD _)]at h9;exact h9)) (fun _ _=>(.cons _ (.cons _ (cO nL)))) ?_
  refine Ae 4 rfl 3  (yR (vs:=(bv (shaD (scat (pts number q q.length))))) (n:=32) rfl kr Tryz.underlying249 kr (z:=(.agg #[.int .u8 0,.int .u8 0,.int .u8 0,.int .u8 0,.int .u8 0,.int .u8 0,.int .u8 0,.int .u8 0,.int .u8 0,.int .u8 0,.int .u8 0,.int .u8 0,.int .u8 0,.int .u8 0,.int .u8 0,.int .u8 0,.int .u8 0,.int .u8 0,.int .u8 0,.int .u8 0,.int .u8 0,.int .u8 0,.int .u8 0,.int .u8 0,.int .u8 0,.int .u8 0,.int .u8 0,.int .u8 0,.int .u8 0,.int .u8 0,.int .u8 0,.int .u8 0])) kr ((zP _).trans (shaD_len _)) (by decide) (by decide)) (fun _ _=>(.cons _ (.cons _ (.cons _ (cO nL))))) ?_
  rintro x11 ⟨hx11,nx11⟩
  refine Au 5 rfl 2  (zr (.agg #[.string (tx (hdS number q++shaD (scat (pts number q q.length))))]) rfl Tryz.func135 rfl rfl kr (fun w1 h=>wDigest1 (hdS number q) (shaD (scat (pts number q q.length))) x11 226 w1 (shaD_len _) om (fun e he=>by rw[zi.1 he];exact h.own _ (show(x11,Obj.cells (bv (shaD (scat (pts number q q.length)))) 226 (0,0))∈([(x11,.cells (bv (shaD (scat (pts number q q.length)))) 226 (0,0)),(hb,.cells (bv (replicate 512 0)) 37 (0,0)),(o,.cells #[.string (tx (hdS number q))] 202 (0,0)),(rs,.cells (bv (replicate 512 0)) 37 (0,0))]++(Own.o 9 ((pts number q q.length).map Value.string) own++[])) from(mL (mG 0 rfl)))))) (fun _ _=>(.cons _ (.cons _ (.cons _ (.cons_cons _ (zz _)))))) ?_
  refine Au 6 rfl 1  (zr (.string (tx (hdS number q++shaD (scat (pts number q q.length))))) rfl Tryz.func115 rfl rfl kr (fun w1 _=>wString (tx (hdS number q++shaD (scat (pts number q q.length)))) w1)) (fun _ _=>(.cons _ (.cons _ (.cons _ (cO nL))))) ?_
  refine Au 7 rfl 0  (Eff.copyS rfl Tryz.underlying111 kr (b:=hb) (off:=0) (dl:=512) (c:=512) kr (s:=(tx (hdS number q++shaD (scat (pts number q q.length))))) kr 1 (cs:=(bv (replicate 512 0))) (te:=37) kr ((hdL number q).length) (by rw[hss];omega) (by rw[zsz512];omega)) (fun _ _=>(.cons _ (.cons _ (.cons _ (cO nL))))) ?_
  refine z6 kr ?_
  refine Cg (Γ':=[(11,[],pT hb),(4,[],pT rs)]) ?_
  refine zU (congrArg (fun(xq:Array Value)=>(([cl x11 (bv (shaD (scat (pts number q q.length)))) 226,cl hb xq 37,cl o #[.string (tx (hdS number q))] 202,cl rs (bv (replicate 512 0)) 37]++(Own.o 9 ((pts number q q.length).map Value.string) own++[])):LO)) (show _=(bv (hdL number q++replicate (512-(hdL number q).length) 0)) from(by rw[pts_cat];exact hd_spl (L:=hdL number q) om rfl))) ?_
  refine Bp 1 [(dS (.agg (bv (hdL number q++replicate (512-(hdL number q).length) 0))))] (some [4,69]) (fun S=>[(lV S 37 hb 0 (.agg (bv (hdL number q++replicate (512-(hdL number q).length) 0))))]) ⟨(fun w1 h=>h.oload 1 rfl Tryz.underlying37 rfl (n:=512) kr ((zP _).trans hfl)),trivial⟩ ?_
  refine Lu (zC (b:=rs) (off:=0) (vs:=(bv (hdL number q++replicate (512-(hdL number q).length) 0))) (n:=512) rfl kr kr kr ((zP _).trans hfl) (qF _) 3 (cs:=(bv (replicate 512 0))) (e:=37) kr (by rw[zsz512];omega)) ?_
  refine yF (congrArg (fun(xq:Array Value)=>(([cl x11 (bv (shaD (scat (pts number q q.length)))) 226,cl hb (bv (hdL number q++replicate (512-(hdL number q).length) 0)) 37,cl o #[.string (tx (hdS number q))] 202,cl rs xq 37]++(Own.o 9 ((pts number q q.length).map Value.string) own++[])):LO)) (show _=(bv (hdL number q++replicate (512-(hdL number q).length) 0))from yx (((zP _).trans hfl).trans zsz512.symm))) ?_
  refine zg rfl ?_
  refine Cg (Γ':=[(4,[],pT rs)]) ?_
  refine yD rfl (rs:=[.cell 4 37]) rfl [.agg (bv (hdL number q++replicate (512-(hdL number q).length) 0))] ⟨⟨_,by kernel_rfl,(fun w1 h=>h.oload 3 rfl Tryz.underlying37 rfl (n:=512) kr ((zP _).trans hfl))⟩,trivial⟩ (fun w1 hp=>?_)
  exact⟨rfl,hp.ext⟩
 
 refine Iu rfl  (zr (vs:=[sO own ((q.length+1))]) (.agg (bv (shaD (scat (pts number q q.length))))) rfl Tryz.func136 rfl rfl kr (fun w1 h=>by have h9:=shaSum (Own.a own) (Own.c own) (pts number q q.length) (Own.o 9 ((pts number q q.length).map Value.string) own) w1 (own_ins (by rw[pts_len (zD _)];exact hok) (fun j hj=>by simp[ssat,List.getElem?_eq_getElem hj])) (by rw[pts_len (zD _)];unfold maxLen;omega) (fun e he=>(zq.1 he).elim (fun h1=>h1▸h.ro _ mH) (fun h1=>h.own e (show e∈([cl hb (bv (replicate 512 0)) 37,cl o #[.string (tx (hdS number q))] 202,cl rs (bv (replicate 512 0)) 37]++(Own.o 9 ((pts number q q.length).map Value.string) own++[])) from(mR (mL h1))))) hK;rw[pts_len (zD _)]at h9;exact h9)) (fun _ _=>(.cons _ (.cons _ (cO nL)))) ?_
 refine CfgA.two 1 4 kr (fuel':=4) rfl ?_ ?_
 ·
  refine Iu rfl  (qm (raw:=false) (orc:=some (.agg #[.string (tx (hdS number q))])) (v:=.agg #[.string (tx (hdS number q))]) (nd:=(fun S=>[(lV S 202 o 0 (.agg #[.string (tx (hdS number q))]))])) (fun _=>kr) ⟨(fun w1 h=>h.oload 1 rfl Tryz.underlying202 rfl (n:=1) kr rfl),trivial⟩ kr) (fun _ _=>(.cons _ (.cons _ (cO nL)))) ?_
  refine Ae 4 rfl 3  (yR (vs:=(bv (shaD (scat (pts number q q.length))))) (n:=32) rfl kr Tryz.underlying249 kr (z:=(.agg #[.int .u8 0,.int .u8 0,.int .u8 0,.int .u8 0,.int .u8 0,.int .u8 0,.int .u8 0,.int .u8 0,.int .u8 0,.int .u8 0,.int .u8 0,.int .u8 0,.int .u8 0,.int .u8 0,.int .u8 0,.int .u8 0,.int .u8 0,.int .u8 0,.int .u8 0,.int .u8 0,.int .u8 0,.int .u8 0,.int .u8 0,.int .u8 0,.int .u8 0,.int .u8 0,.int .u8 0,.int .u8 0,.int .u8 0,.int .u8 0,.int .u8 0,.int .u8 0])) kr ((zP _).trans (shaD_len _)) (by decide) (by decide)) (fun _ _=>(.cons _ (.cons _ (.cons _ (cO nL))))) ?_
  rintro x12 ⟨hx12,nx12⟩
  refine Au 5 rfl 2  (zr (.agg #[.string (tx (hdS number q++shaD (scat (pts number q q.length))))]) rfl Tryz.func135 rfl rfl kr (fun w1 h=>wDigest1 (hdS number q) (shaD (scat (pts number q q.length))) x12 226 w1 (shaD_len _) om (fun e he=>by rw[zi.1 he];exact h.own _ (show(x12,Obj.cells (bv (shaD (scat (pts number q q.length)))) 226 (0,0))∈([(x12,.cells (bv (shaD (scat (pts number q q.length)))) 226 (0,0)),(hb,.cells (bv (replicate 512 0)) 37 (0,0)),(o,.cells #[.string (tx (hdS number q))] 202 (0,0)),(rs,.cells (bv (replicate 512 0)) 37 (0,0))]++(Own.o 9 ((pts number q q.length).map Value.string) own++[])) from(mL (mG 0 rfl)))))) (fun _ _=>(.cons _ (.cons _ (.cons _ (.cons_cons _ (zz _)))))) ?_
  refine Au 6 rfl 1  (zr (.string (tx (hdS number q++shaD (scat (pts number q q.length))))) rfl Tryz.func115 rfl rfl kr (fun w1 _=>wString (tx (hdS number q++shaD (scat (pts number q q.length)))) w1)) (fun _ _=>(.cons _ (.cons _ (.cons _ (cO nL))))) ?_
  refine Au 7 rfl 0  (Eff.copyS rfl Tryz.underlying111 kr (b:=hb) (off:=0) (dl:=512) (c:=512) kr (s:=(tx (hdS number q++shaD (scat (pts number q q.length))))) kr 1 (cs:=(bv (replicate 512 0))) (te:=37) kr ((hdL number q).length) (by rw[hss];omega) (by rw[zsz512];omega)) (fun _ _=>(.cons _ (.cons _ (.cons _ (cO nL))))) ?_
  refine z6 kr ?_
  refine Cg (Γ':=[(11,[],pT hb),(4,[],pT rs)]) ?_
  refine zU (congrArg (fun(xq:Array Value)=>(([cl x12 (bv (shaD (scat (pts number q q.length)))) 226,cl hb xq 37,cl o #[.string (tx (hdS number q))] 202,cl rs (bv (replicate 512 0)) 37]++(Own.o 9 ((pts number q q.length).map Value.string) own++[])):LO)) (show _=(bv (hdL number q++replicate (512-(hdL number q).length) 0)) from(by rw[pts_cat];exact hd_spl (L:=hdL number q) om rfl))) ?_
  refine Bp 1 [(dS (.agg (bv (hdL number q++replicate (512-(hdL number q).length) 0))))] (some [4,69]) (fun S=>[(lV S 37 hb 0 (.agg (bv (hdL number q++replicate (512-(hdL number q).length) 0))))]) ⟨(fun w1 h=>h.oload 1 rfl Tryz.underlying37 rfl (n:=512) kr ((zP _).trans hfl)),trivial⟩ ?_
  refine Lu (zC (b:=rs) (off:=0) (vs:=(bv (hdL number q++replicate (512-(hdL number q).length) 0))) (n:=512) rfl kr kr kr ((zP _).trans hfl) (qF _) 3 (cs:=(bv (replicate 512 0))) (e:=37) kr (by rw[zsz512];omega)) ?_
  refine yF (congrArg (fun(xq:Array Value)=>(([cl x12 (bv (shaD (scat (pts number q q.length)))) 226,cl hb (bv (hdL number q++replicate (512-(hdL number q).length) 0)) 37,cl o #[.string (tx (hdS number q))] 202,cl rs xq 37]++(Own.o 9 ((pts number q q.length).map Value.string) own++[])):LO)) (show _=(bv (hdL number q++replicate (512-(hdL number q).length) 0))from yx (((zP _).trans hfl).trans zsz512.symm))) ?_
  refine zg rfl ?_
  refine Cg (Γ':=[(4,[],pT rs)]) ?_
  refine yD rfl (rs:=[.cell 4 37]) rfl [.agg (bv (hdL number q++replicate (512-(hdL number q).length) 0))] ⟨⟨_,by kernel_rfl,(fun w1 h=>h.oload 3 rfl Tryz.underlying37 rfl (n:=512) kr ((zP _).trans hfl))⟩,trivial⟩ (fun w1 hp=>?_)
  exact⟨rfl,hp.ext⟩
 
 refine Ie rfl  (yR (vs:=(bv (shaD (scat (pts number q q.length))))) (n:=32) rfl kr Tryz.underlying249 kr (z:=(.agg #[.int .u8 0,.int .u8 0,.int .u8 0,.int .u8 0,.int .u8 0,.int .u8 0,.int .u8 0,.int .u8 0,.int .u8 0,.int .u8 0,.int .u8 0,.int .u8 0,.int .u8 0,.int .u8 0,.int .u8 0,.int .u8 0,.int .u8 0,.int .u8 0,.int .u8 0,.int .u8 0,.int .u8 0,.int .u8 0,.int .u8 0,.int .u8 0,.int .u8 0,.int .u8 0,.int .u8 0,.int .u8 0,.int .u8 0,.int .u8 0,.int .u8 0,.int .u8 0])) kr ((zP _).trans (shaD_len _)) (by decide) (by decide)) (fun _ _=>(.cons _ (.cons _ (.cons _ (cO nL))))) ?_
 rintro x13 ⟨hx13,nx13⟩
 refine Au 1 rfl 3  (qm (raw:=false) (orc:=some (.agg #[.string (tx (hdS number q))])) (v:=.agg #[.string (tx (hdS number q))]) (nd:=(fun S=>[(lV S 202 o 0 (.agg #[.string (tx (hdS number q))]))])) (fun _=>kr) ⟨(fun w1 h=>h.oload 2 rfl Tryz.underlying202 rfl (n:=1) kr rfl),trivial⟩ kr) (fun _ _=>(.cons _ (.cons _ (.cons _ (cO nL))))) ?_
 refine Au 5 rfl 2  (zr (.agg #[.string (tx (hdS number q++shaD (scat (pts number q q.length))))]) rfl Tryz.func135 rfl rfl kr (fun w1 h=>wDigest1 (hdS number q) (shaD (scat (pts number q q.length))) x13 226 w1 (shaD_len _) om (fun e he=>by rw[zi.1 he];exact h.own _ (show(x13,Obj.cells (bv (shaD (scat (pts number q q.length)))) 226 (0,0))∈([(x13,.cells (bv (shaD (scat (pts number q q.length)))) 226 (0,0)),(hb,.cells (bv (replicate 512 0)) 37 (0,0)),(o,.cells #[.string (tx (hdS number q))] 202 (0,0)),(rs,.cells (bv (replicate 512 0)) 37 (0,0))]++(Own.o 9 ((pts number q q.length).map Value.string) own++[])) from(mL (mG 0 rfl)))))) (fun _ _=>(.cons _ (.cons _ (.cons _ (.cons_cons _ (zz _)))))) ?_
 refine Au 6 rfl 1  (zr (.string (tx (hdS number q++shaD (scat (pts number q q.length))))) rfl Tryz.func115 rfl rfl kr (fun w1 _=>wString (tx (hdS number q++shaD (scat (pts number q q.length)))) w1)) (fun _ _=>(.cons _ (.cons _ (.cons _ (cO nL))))) ?_
 refine Au 7 rfl 0  (Eff.copyS rfl Tryz.underlying111 kr (b:=hb) (off:=0) (dl:=512) (c:=512) kr (s:=(tx (hdS number q++shaD (scat (pts number q q.length))))) kr 1 (cs:=(bv (replicate 512 0))) (te:=37) kr ((hdL number q).length) (by rw[hss];omega) (by rw[zsz512];omega)) (fun _ _=>(.cons _ (.cons _ (.cons _ (cO nL))))) ?_
 refine z6 kr ?_
 refine Cg (Γ':=[(11,[],pT hb),(4,[],pT rs)]) ?_
 refine zU (congrArg (fun(xq:Array Value)=>(([cl x13 (bv (shaD (scat (pts number q q.length)))) 226,cl hb xq 37,cl o #[.string (tx (hdS number q))] 202,cl rs (bv (replicate 512 0)) 37]++(Own.o 9 ((pts number q q.length).map Value.string) own++[])):LO)) (show _=(bv (hdL number q++replicate (512-(hdL number q).length) 0)) from(by rw[pts_cat];exact hd_spl (L:=hdL number q) om rfl))) ?_
 refine Bp 1 [(dS (.agg (bv (hdL number q++replicate (512-(hdL number q).length) 0))))] (some [4,69]) (fun S=>[(lV S 37 hb 0 (.agg (bv (hdL number q++replicate (512-(hdL number q).length) 0))))]) ⟨(fun w1 h=>h.oload 1 rfl Tryz.underlying37 rfl (n:=512) kr ((zP _).trans hfl)),trivial⟩ ?_
 refine Lu (zC (b:=rs) (off:=0) (vs:=(bv (hdL number q++replicate (512-(hdL number q).length) 0))) (n:=512) rfl kr kr kr ((zP _).trans hfl) (qF _) 3 (cs:=(bv (replicate 512 0))) (e:=37) kr (by rw[zsz512];omega)) ?_
 refine yF (congrArg (fun(xq:Array Value)=>(([cl x13 (bv (shaD (scat (pts number q q.length)))) 226,cl hb (bv (hdL number q++replicate (512-(hdL number q).length) 0)) 37,cl o #[.string (tx (hdS number q))] 202,cl rs xq 37]++(Own.o 9 ((pts number q q.length).map Value.string) own++[])):LO)) (show _=(bv (hdL number q++replicate (512-(hdL number q).length) 0))from yx (((zP _).trans hfl).trans zsz512.symm))) ?_
 refine zg rfl ?_
 refine Cg (Γ':=[(4,[],pT rs)]) ?_
 refine yD rfl (rs:=[.cell 4 37]) rfl [.agg (bv (hdL number q++replicate (512-(hdL number q).length) 0))] ⟨⟨_,by kernel_rfl,(fun w1 h=>h.oload 3 rfl Tryz.underlying37 rfl (n:=512) kr ((zP _).trans hfl))⟩,trivial⟩ (fun w1 hp=>?_)
 exact⟨rfl,hp.ext⟩
end
namespace K
def InF {α:Type} (f:α→List Value) (sz:Nat) (Rl:List (Nat×Obj)) (la:Option Addr) (l:List α):Prop:=InS Rl la (l.length*sz) (fun j=>(l.flatMap f).getD j undef)
theorem InF.mono {α:Type} {f:α→List Value} {sz:Nat} {Rl Rl':List (Nat×Obj)} {la:Option Addr} {l:List α} (h:InF f sz Rl la l) (hR:∀e∈Rl,e∈Rl'):InF f sz Rl' la l:=InS.mono h hR
theorem fl_cell {α:Type} {f:α→List Value} {sz:Nat} {l:List α} (z:α) (hsz:∀x∈l,(f x).length=sz) {cs:Array Value} {off i:Nat} (hcs:∀j,j<l.length*sz→cs[off+j]? = some ((l.flatMap f).getD j undef)) (hi:i<l.length) {j:Nat} {v:Value} (hv:(f (l.getD i z))[j]? = some v):cs[off+i*sz+j]? = some v:=by
 have e:l.getD i z=l[i]:=by rw[zc,zd hi];rfl
 rw[e]at hv
 have hj:j<sz:=by have:=(yu.1 hv).1;rw[hsz _ (qr hi)]at this;exact this
 have h1:=flat_get f sz hsz hi hj
 have hlt:i*sz+j<l.length*sz:=by
  have:i*sz+sz≤l.length*sz:=by rw[←Nat.succ_mul];exact Nat.mul_le_mul_right _ hi
  omega
 rw[Nat.add_assoc,hcs _ hlt,zc,h1,hv];rfl
theorem fl_one {α:Type} {g:α→Value} {l:List α} (z:α) {cs:Array Value} {off i:Nat} (hcs:∀j,j<l.length*1→cs[off+j]? = some ((l.flatMap fun x=>[g x]).getD j undef)) (hi:i<l.length):cs[off+i]? = some (g (l.getD i z)):=by
 have:=fl_cell (f:=fun x=>[g x]) z (fun x _=>rfl) hcs hi (j:=0) (v:=g (l.getD i z)) rfl
 rw[jg,Nat.add_zero]at this;exact this
theorem flat_len {α:Type} {f:α→List Value} {sz:Nat}:∀ {l:List α},(∀x∈l,(f x).length=sz)→(l.flatMap f).length=l.length*sz
 | [],_=>by simp
 | x::l,h=>by rw[yv,zh,h x mH,flat_len (fun y hy=>h y (zf _ hy)),zL,Nat.succ_mul,Nat.add_comm]
theorem own_inf {α:Type} {f:α→List Value} {sz:Nat} {o:Own} {e:TypeId} {l:List α} (hok:OwnOk o sz l.length (l.flatMap f)):InF f sz (o.o e (l.flatMap f)) o.a l:=by
 intro hn
 have hn1:0<l.length:=Nat.pos_of_ne_zero (fun h=>by rw[h,Nat.zero_mul]at hn;omega)
 obtain⟨p,rfl⟩:=own_some hok hn1
 refine⟨p.1,0,_,e,(0,0),rfl,mH,fun j hj=>?_⟩
 have hl:=hok.len
 rw[zF]
 simp only[List.getElem?_toArray]
 rw[zJ om,zc,zd om];rfl
theorem getD_at {α:Type} {l:List α} {i:Nat} {z:α} (h:i<l.length):l.getD i z=l[i]:=by rw[zc,zd h];rfl
theorem getD_mem {α:Type} {l:List α} {i:Nat} {z:α} (h:i<l.length):l.getD i z∈l:=by rw[getD_at h];exact qr h
section
variable {C:Cx} {R O:List (Nat×Obj)} {Γ:Env} {op:Oper}
theorem Eff.appendA {t e:TypeId} {x1 x2:Operand} (ho:op.op=.call ⟨.builtin .append,#[x1,x2],#[t,t]⟩) (sz bytes:Nat) (ht:C.P.underlying t=some (.slice e)) (hsz:(C.P.info? e).map (fun i=>(i.size,i.bytes))=some (sz,bytes))
  {z:Value} (hz0:(C.P.info? e).bind (·.zero)=some z) (hzs:z.cells.size=sz) (own:Own) {n:Nat} {xs:List Value} (hok:OwnOk own sz n xs) (h1:opd Γ [] x1=some (.slice own.a n own.c))
  (a2:Addr) {m c2:Nat} (h2:opd Γ [] x2=some (.slice (some a2) m c2)) (news:List Value) (hl:news.length=m*sz) (hone:∀v∈news,K.one v=true)
  (hsrc:∀w,HP C.w0 C.M R O w→∀j v,news[j]? = some v→w.cell? (a2.add j)=some v) (O1:LO) (hO:O=own.o e xs++O1) (hroom:(n+m)*bytes≤140737488355328) (h63:n+m≤9223372036854775807) :
  Eff C R O Γ op Own (fun o=>.slice o.a (n+m) o.c) (fun o=>o.o e (xs++news)++O1) (fun o=>OwnOk o sz (n+m) (xs++news)):=by
 refine yL fun a w hs hp=>?_
 obtain⟨inf,hi,hse⟩:=zZ.1 hsz
 obtain⟨inf',hi',hz⟩:=qK.1 hz0
 rw[hi]at hi'
 simp only[Option.some.injEq]at hi'
 subst hi'
 simp only[Prod.mk.injEq]at hse
 obtain⟨rfl,rfl⟩:=hse
 have hnews:∀j v,news[j]? = some v→w.cell? (Addr.add a2 j)=some v:=fun j v hj=>hsrc w hp j v hj
 have hlen:(xs++news).length=(n+m)*inf.size:=by rw[zh,hok.len,hl,Nat.add_mul]
 have hex:∀ {v:Value} {w':World},(Builtin.append_ #[t,t] op.type #[a.eval x1,a.eval x2]).run C.P w=.ok v w'→(execOp a.eval op).run C.P w=.ok (.value v) w':=by
  intro v w' h
  simp[execOp,ho,resolve,invoke,builtin,h]
 have e1:=yI hs (zW _) h1
 have e2:=yI hs (zW _) h2
 have fresh:∀(c:Nat),n+m≤c→HP C.w0 C.M R O1 w→HP C.w0 C.M R (Own.o e (xs++news) (some (w.heap.size,c,(Builtin.zeroCells z.cells (c-(n+m))).toList))++O1) (w.drew.alloc (.cells (xs.toArray++news.toArray++Builtin.zeroCells z.cells (c-(n+m))) e)) ∧
   OwnOk (some (w.heap.size,c,(Builtin.zeroCells z.cells (c-(n+m))).toList)) inf.size (n+m) (xs++news):=by
  intro c hc hp1
  have hp2:=(hp1.calm (ext_drew w)).alloc (.cells (xs.toArray++news.toArray++Builtin.zeroCells z.cells (c-(n+m))) e (0,0))
  refine⟨?_,hlen,fun h=>(by cases h),fun p hp'=>?_⟩
  ·have e3:(xs.toArray++news.toArray++Builtin.zeroCells z.cells (c-(n+m)))=(xs++news++(Builtin.zeroCells z.cells (c-(n+m))).toList).toArray:=by
    apply qq
    simp
   rw[e3]at hp2 ⊢
   exact hp2
  ·simp only[Option.some.injEq]at hp'
   subst hp'
   refine⟨?_,hc⟩
   simp only[Array.length_toList,zeroCells_size,hzs,hlen,←Nat.add_mul]
   congr 1
   omega
 cases own with
 | none=>
  have hn:=hok.nil rfl
  subst hn
  have hx:xs=[]:=ya (by simpa using hok.len)
  subst hx
  simp only[Own.o,List.nil_append]at hO
  subst hO
  by_cases hm:m=0
  ·subst hm
   have hnn:news=[]:=ya (by simpa using hl)
   subst hnn
   refine⟨none,w,OwnOk.none _,hex ?_,hp⟩
   rw[e1,e2]
   simp[Builtin.append_,zx ht,yT hi,Builtin.lenOf,Builtin.firstCells,loadCells,loadCellsFrom,Own.a,Own.c]
  ·obtain⟨f1,f2⟩:=fresh (grownCap w m 0 e) (by have:=grownCap_ge w m 0 e;omega) hp
   refine⟨some (w.heap.size,grownCap w m 0 e,_),_,f2,hex ?_,f1⟩
   rw[e1,e2]
   have hr:=run_append_nil (P:=C.P) w t op.type e inf z ht hi hz a2 m c2 news hl hnews om om (by simp only[Nat.zero_add]at hroom;omega)
   simp only[Own.a,Own.c,Nat.zero_add,Array.empty_append]at hr ⊢
   exact hr
 | some p=>
  obtain⟨b,cap,junk⟩:=p
  obtain⟨hj,hnc⟩:=hok.some _ rfl
  simp only at hj hnc
  have hget:O[0]? = some (b,.cells (xs++junk).toArray e (0,0)):=by rw[hO];rfl
  have hb:=hp.own _ (yg hget)
  have hp1:HP C.w0 C.M R O1 w:=hp.sub (by rw[hO];exact zj _ _)
  by_cases hr:n+m≤cap
  ·have hfit:n*inf.size+news.length≤(xs++junk).toArray.size:=by
    simp only[List.size_toArray,List.length_append,hj,hl,←Nat.add_mul]
    exact Nat.mul_le_mul_right _ hr
   have hrun:=Go.run_append_room (P:=C.P) w t op.type e inf ht hi b n cap (xs++junk).toArray hb a2 m c2 news hl hnews (fun u hu=>one_cell (hone u hu)) hr hfit
   have e3:((xs++junk).toArray.toList.take (n*inf.size)++news++(xs++junk).toArray.toList.drop (n*inf.size+news.length))=xs++news++junk.drop news.length:=by
    rw[←hok.len]
    simp[List.drop_append,List.drop_eq_nil_of_le (show xs.length≤xs.length+news.length by omega)]
   rw[e3]at hrun
   refine⟨some (b,cap,junk.drop news.length),_,⟨hlen,fun h=>(by cases h),fun p hp'=>?_⟩,hex (by rw[e1,e2];exact hrun),?_⟩
   ·simp only[Option.some.injEq]at hp'
    subst hp'
    refine⟨?_,hr⟩
    have hle:news.length≤junk.length:=by
     simp only[List.size_toArray,List.length_append,←hok.len]at hfit
     omega
    simp only[List.length_append,List.length_drop]
    omega
   ·have:=hp.set 0 (.cells (xs++news++junk.drop news.length).toArray e (0,0)) hget (setRow_get hb) rfl rfl rfl
    rw[hO]at this
    exact this
  ·obtain⟨f1,f2⟩:=fresh (grownCap w (n+m) cap e) (grownCap_ge w (n+m) cap e) hp1
   have holds:∀j v,xs[j]? = some v→w.cell? (Addr.add ⟨b,0,none⟩ j)=some v:=fun j v hjv=>by
    rw[add_none,zF,zI hb]
    have hlt:j<xs.length:=(yu.1 hjv).1
    simp[List.getElem?_append_left hlt,hjv]
   have hrun:=Go.run_append_grow (P:=C.P) w t op.type e inf z ht hi hz ⟨b,0,none⟩ n cap xs hok.len holds a2 m c2 news hl hnews om om (growslice_fits om hroom)
   exact⟨some (w.heap.size,grownCap w (n+m) cap e,_),_,f2,hex (by rw[e1,e2];exact hrun),f1⟩
end
end K
end Go.Proofs.YtfgdepggdiibdaaGreatDoor