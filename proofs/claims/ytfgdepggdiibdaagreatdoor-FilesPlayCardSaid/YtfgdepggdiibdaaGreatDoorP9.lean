/- Texts on which the proof of this claim stands: Fr2, Fr3, Fr4, Fr5, Fr6, Fr7, Fp5, IU, IV, K38, Lay3. -/
import Derived.Test.YtfgdepggdiibdaaGreatDoorP8
import Derived.Test.YtfgdepggdiibdaaGreatDoorP2
import Derived.Test.YtfgdepggdiibdaaGreatDoorP5
import Derived.Test.YtfgdepggdiibdaaGreatDoorP3
import Derived.Test.YtfgdepggdiibdaaGreatDoorP4
import Derived.Sort.KeysCollected
import Derived.Sort.Walk0
import Derived.Below
import Derived.Shelf.SlIter.Nil
import Derived.Test.YtfgdepggdiibdaaGreatDoorChecked
import Derived.Shelf.SortM.Plain
import Derived.Shelf.SortM.SortNone
set_option linter.unusedVariables false
set_option maxRecDepth 100000
set_option maxHeartbeats 8000000
namespace Go.Proofs.YtfgdepggdiibdaaGreatDoor
open List (replicate)
section
open K
theorem own_adr {o:K.Own} {sz n:Nat} {xs:List Value} (e:TypeId) (h:OwnOk o sz n xs) (hn:0<n):∃(b:Nat) (cs:Array Value),Own.a o=some ⟨b,0,none⟩∧(b,Obj.cells cs e (0,0))∈Own.o e xs o∧∀(j:Nat) (v:Value),xs[j]? = some v→cs[j]? = some v:=by
 obtain⟨⟨b,c,j⟩,rfl⟩:=own_some h hn
 exact⟨b,(xs++j).toArray,rfl,mH,fun i v hv=>by rw[zo,zJ (yu.1 hv).1];exact hv⟩
def rnc (r:Nat×Nat):List Value:=[.int .i64 (r.1:Int),.int .i64 (r.2:Int)]
def rnv (l:List (Nat×Nat)):List Value:=l.flatMap rnc
theorem rnv_len (l:List (Nat×Nat)):(rnv l).length=l.length*2:=flat_len (fun x _=>rfl)
theorem rnv_app (a b:List (Nat×Nat)):rnv (a++b)=rnv a++rnv b:=yY
theorem rnv_snoc (l:List (Nat×Nat)) (a m:Nat):rnv l++[Value.int .i64 (a:Int),Value.int .i64 (m:Int)]=rnv (l++[(a,m)]):=by rw[rnv_app];rfl
theorem rnv_at (pre:List (Nat×Nat)) (r:Nat×Nat):(rnv (pre++[r]))[pre.length*2]? = some (.int .i64 (r.1:Int))∧(rnv (pre++[r]))[pre.length*2+1]? = some (.int .i64 (r.2:Int)):=by
 have h:=rnv_len pre
 rw[rnv_app]
 exact⟨by rw[yd om,h,qH];rfl,by rw[yd om,h,Nat.add_sub_cancel_left];rfl⟩
theorem rnv_get {l:List (Nat×Nat)} {i:Nat} (h:i<l.length):(rnv l)[i*2]? = some (.int .i64 ((l.getD i (0,0)).1:Int))∧(rnv l)[i*2+1]? = some (.int .i64 ((l.getD i (0,0)).2:Int)):=by
 have e:l=(l.take i++[l.getD i (0,0)])++l.drop (i+1):=by
  have e2:l.getD i (0,0)=l[i]:=by rw[zc,zd h];rfl
  rw[e2,zO,List.singleton_append,←yn h,yz]
 obtain⟨h1,h2⟩:=rnv_at (l.take i) (l.getD i (0,0))
 have hl:(l.take i).length=i:=by rw[z8];omega
 rw[hl]at h1 h2
 have hl2:(rnv (l.take i++[l.getD i (0,0)])).length=(i+1)*2:=by rw[rnv_len,zh,hl];rfl
 constructor
 ·conv=>lhs;rw[e,rnv_app,zJ om]
  exact h1
 conv=>lhs;rw[e,rnv_app,zJ om]
 exact h2
theorem rnv_upd (pre:List (Nat×Nat)) (r:Nat×Nat):splL (rnv (pre++[r])) (pre.length*2+1) [Value.int .i64 ((r.2:Int)+1)]=rnv (pre++[(r.1,r.2+1)]):=by
 have h:=rnv_len pre
 have e:rnv (pre++[r])=(rnv pre++[Value.int .i64 (r.1:Int)])++[Value.int .i64 (r.2:Int)]:=by rw[rnv_app,zO];rfl
 have hl:(rnv pre++[Value.int .i64 (r.1:Int)]).length=pre.length*2+1:=by rw[zh,h];rfl
 unfold splL
 rw[e,←hl,List.take_left,List.drop_of_length_le (by rw[zh];exact zD _),zm,rnv_app,zO]
 rfl
def rnS (out:List (Nat×Nat)) (x:Nat):List (Nat×Nat):=match out.getLast? with
 | some r=>if r.1+r.2=x then out.dropLast++[(r.1,r.2+1)]else out++[(x,1)]
 | none=>out++[(x,1)]
def rnF (l:List Nat):List (Nat×Nat):=l.foldl rnS []
theorem rnS_app (pre:List (Nat×Nat)) (r:Nat×Nat) (x:Nat):rnS (pre++[r]) x=if r.1+r.2=x then pre++[(r.1,r.2+1)]else pre++[r]++[(x,1)]:=by
 unfold rnS
 rw[List.getLast?_concat,List.dropLast_concat]
theorem rnF_next {l:List Nat} {i:Nat} (h:i<l.length):rnF (l.take (i+1))=rnS (rnF (l.take i)) (l.getD i 0):=by
 unfold rnF
 rw[zV h,List.foldl_append,zc,zd h];rfl
theorem rnS_len (out:List (Nat×Nat)) (x:Nat):(rnS out x).length≤out.length+1:=by
 unfold rnS
 split
 ·split
  ·rw[zh,List.length_dropLast,q6];omega
  rw[zh];exact zD _
 rw[zh];exact zD _
theorem rnF_len (l:List Nat) (i:Nat):(rnF (l.take i)).length≤i:=by
 induction i with
 | zero=>rw[qG];exact zD _
 | succ i ih=>
  rcases qy i l.length with h|h
  ·rw[rnF_next h]
   have:=rnS_len (rnF (l.take i)) (l.getD i 0)
   omega
  ·rw[yB om]at ih ⊢;omega
theorem last_of {α:Type} {l:List α} (h:0<l.length):∃pre r,l=pre++[r]:=by
 have hn:l≠[]:=fun e=>by rw[e]at h;cases h
 exact⟨l.dropLast,l.getLast hn,(List.dropLast_concat_getLast hn).symm⟩
def rnB (fr:List Bool) (out:List (Nat×Nat)) (j:Nat):List (Nat×Nat):=if fr.getD j false then rnS out (121+j)else out
theorem rnF_bits (fr:List Bool):rnF (frL fr)=(List.range' 0 fr.length).foldl (rnB fr) []:=by
 unfold rnF frL
 rw[List.foldl_map,List.foldl_filter,←List.range_eq_range']
 rfl
theorem rn_grow (fr:List Bool) (pre:List (Nat×Nat)) (a:Nat):∀(n k m:Nat),(∀j,j<n→fr.getD (k+j) false=true)→a+m=121+k→(List.range' k n).foldl (rnB fr) (pre++[(a,m)])=pre++[(a,m+n)]
 | 0,k,m,_,_=>rfl
 | n+1,k,m,h,e=>by
  rw[List.range'_succ,q8]
  have h0:fr.getD k false=true:=h 0 (Nat.succ_pos n)
  have e1:rnB fr (pre++[(a,m)]) k=pre++[(a,m+1)]:=by unfold rnB;rw[h0,if_pos rfl,rnS_app,if_pos e]
  rw[e1,rn_grow fr pre a n (k+1) (m+1) (fun j hj=>by rw[show k+1+j=k+(j+1) by omega];exact h (j+1) om) om,show m+1+n=m+(n+1) by omega]
theorem rn_fresh {out:List (Nat×Nat)} {x:Nat} (h:∀r,out.getLast? = some r→r.1+r.2≠x):rnS out x=out++[(x,1)]:=by
 unfold rnS
 split
 ·rename_i r hr
  rw[if_neg (h r hr)]
 rfl
theorem rn_all (fr:List Bool):∀(d k:Nat),fr.length-k=d→∀out:List (Nat×Nat),(∀r,out.getLast? = some r→r.1+r.2<121+k)→(List.range' k (fr.length-k)).foldl (rnB fr) out=out++(yW fr k).map fun r=>(121+r.1,r.2):=by
 intro d
 induction d using Nat.strongRecOn with
 | ind d ih=>
  intro k hd out hout
  by_cases hk:k<fr.length
  ·obtain⟨n,hn⟩:∃n,n=rlen fr k:=⟨_,rfl⟩
   have hle:=rlen_le fr k
   have htr:∀j,j<n→fr.getD (k+j) false=true:=fun j hj=>rlen_true om
   have hend:=rlen_end fr k
   rw[←hn]at hle hend
   have tail:∀out2:List (Nat×Nat),(∀r,out2.getLast? = some r→r.1+r.2≤121+(k+n))→(List.range' (k+n) (fr.length-(k+n))).foldl (rnB fr) out2=out2++(yW fr (k+n+1)).map fun r=>(121+r.1,r.2):=fun out2 h2=>by
    rcases qy (k+n) fr.length with h3|h3
    ·rw[show fr.length-(k+n)=(fr.length-(k+n+1))+1 by omega,List.range'_succ,q8]
     have e1:rnB fr out2 (k+n)=out2:=by unfold rnB;rw[hend];rfl
     rw[e1]
     exact ih (fr.length-(k+n+1)) om (k+n+1) rfl out2 (fun r hr=>by have:=h2 r hr;omega)
    ·rw[show fr.length-(k+n)=0 by omega,runsAt_end om]
     exact(zm _).symm
   rw[show fr.length-k=n+(fr.length-(k+n)) by omega,←List.range'_append_1,List.foldl_append]
   by_cases h0:0<n
   ·obtain⟨n',rfl⟩:∃n',n=n'+1:=⟨n-1,by omega⟩
    have e1:rnB fr out k=out++[(121+k,1)]:=by
     unfold rnB
     rw[show fr.getD k false=true from htr 0 h0,if_pos rfl]
     exact rn_fresh fun r hr=>by have:=hout r hr;omega
    rw[List.range'_succ,q8,e1,rn_grow fr out (121+k) n' (k+1) 1 (fun j hj=>by rw[show k+1+j=k+(j+1) by omega];exact htr (j+1) om) om,tail _ (fun r hr=>by rw[List.getLast?_concat]at hr;injection hr with hr;rw[←hr];simp only;omega),runsAt_some hk hn.symm h0,yi,zO,Nat.add_comm 1 n']
    rfl
   ·have hn0:n=0:=by omega
    subst hn0
    rw[runsAt_none hk hn.symm om]
    exact tail out (fun r hr=>by have:=hout r hr;omega)
  ·rw[show fr.length-k=0 by omega,runsAt_end hk]
   exact(zm _).symm
theorem rn_runs (fr:List Bool):rnF (frL fr)=(yW fr 0).map fun r=>(121+r.1,r.2):=by
 have:=rn_all fr fr.length 0 rfl [] (fun r hr=>by cases hr)
 rw[rnF_bits]
 exact this
theorem r5Runs (sb n:Nat) (o:K.Own) (l:List Nat) (w:World) (hR:Has w (spD sb n o l)) (ho:OwnOk o 1 l.length (nv l)) (hl:l.length≤400) (hlx:∀x∈l,x<100000) :
  Calls Tryz.prog 89 #[.pointer (some ⟨sb,0,none⟩)] w fun e w'=>∃q:K.Own,OwnOk q 2 (rnF l).length (rnv (rnF l))∧e=.returned (.slice (Own.a q) (rnF l).length (Own.c q))∧∃R1,HP w [] R1 (Own.o 137 (rnv (rnF l)) q) w':=by
 refine enter [] (spD sb n o l) [] Tryz.func89 rfl kr (yj hR) ?_
 refine Rq [0] ?_
 refine Rq [0,3] ?_
 refine Rg [3,10,11,12] [dZ,dZ,dZ,(dS (sO o l.length))] (fun S=>[(cE S sb 2 (sO o l.length))]) ⟨(rC 0 rfl rfl),trivial⟩ ?_
 refine zN 3 (show .slice none 0 0=sO none 0 from rfl) ?_
 refine zN 3 (congrArg (fun(xq:Nat)=>(.slice (Own.a none) xq (Own.c none):Value)) (show 0=((rnF (l.take 0)).length)from by rw[qG];rfl)) ?_
 refine ye rfl (ι:=Nat×K.Own) (fun(i,qo)=>[(12,[],iN i),(11,[],iN l.length),(10,[],sO o l.length),(3,[],sO qo ((rnF (l.take i)).length))]) (fun(i,qo)=>([]++(Own.o 137 (rnv (rnF (l.take i))) qo++[]))) (fun(i,qo)=>(i≤l.length)∧(OwnOk qo 2 (rnF (l.take i)).length (rnv (rnF (l.take i))))∧(∀y∈(rnF (l.take i)),y.1<100000∧y.2≤i)) (fun(i,qo)=>l.length-i) (0,none) ?_ (Conv.mk kr) slr ?_
 ·exact⟨zH _,OwnOk.none _,fun y hy=>by rw[qG]at hy;cases hy⟩
 rintro⟨i,qo⟩ ⟨hi,hq,hrx⟩
 refine Rq [3,10,11,12,13] ?_
 refine eC rfl (p:=((i:Int)<(l.length:Int))) kr (fun c1=>?_) (fun c1=>?_)
 ·obtain⟨fb,fc,fj,hof,hoo⟩:=own_at ho (i:=i) om
  obtain⟨x,hx⟩:∃x,x=l.getD i 0:=⟨_,rfl⟩
  have hxl:=hlx _ (getD_inN (l:=l) (d:=0) (i:=i) om)
  rw[←hx]at hxl
  have hzl:=rnF_len l i
  refine zN 10 (show .slice (Own.a o) l.length (Own.c o)=.slice (some ⟨fb,0,none⟩) l.length fc from by rw[hof];rfl) ?_
  refine Rg [3,5,10,11,12] [dZ,(dS (iN x))] (fun S=>[(0≤(i:Int)∧(i:Int)<(l.length:Int)),(cE S fb i (iN x))]) ⟨om,(fun w1 h=>by rw[hx];exact nv_cell (h.ro _ (zf _ (by rw[hoo];exact mH))) om),trivial⟩ ?_
  refine Rq [3,5,6,10,11,12] ?_
  by_cases hz:0<(rnF (l.take i)).length
  ·
   obtain⟨pre,r,hZ⟩:=last_of hz
   have hZl:(rnF (l.take i)).length=pre.length+1:=by rw[hZ,zh];rfl
   obtain⟨rb,rcs,hba,hbm,hbc⟩:=own_adr 137 hq hz
   have hr1:=hrx r (by rw[hZ];exact mR (zi.2 rfl))
   refine zN 3 (show .slice (Own.a qo) ((rnF (l.take i)).length) (Own.c qo)=.slice (some ⟨rb,0,none⟩) (rnF (l.take i)).length (Own.c qo)from by rw[hba]) ?_
   refine Cfg.regD rfl kr [3,5,6,10,11,12,36] [dZ,dZ,dZ,dZ,dZ,dZ,dZ,dZ,(dS (iN r.1)),dZ,dZ,dZ,dZ,dZ,(dS (iN r.2))] (Γ':=[(36,[],.bool ((decide (((rnF (l.take i)).length:Int)>(0:Int)))&&(((r.1:Int)+(r.2:Int))==(x:Int)))),(6,[],.int .i64 ((rnF (l.take i)).length:Int)),(5,[],iN x),(12,[],iN i),(11,[],iN l.length),(10,[],.slice (some ⟨fb,0,none⟩) l.length fc),(3,[],.slice (some ⟨rb,0,none⟩) (rnF (l.take i)).length (Own.c qo))]) (nd:=(fun S=>[((.bool (decide (((rnF (l.take i)).length:Int)>(0:Int))):Value)=.bool true→(i6 (((rnF (l.take i)).length:Int)-1))),((.bool (decide (((rnF (l.take i)).length:Int)>(0:Int))):Value)=.bool true→(0≤(((rnF (l.take i)).length:Int)-1)∧(((rnF (l.take i)).length:Int)-1)<((rnF (l.take i)).length:Int))),((.bool (decide (((rnF (l.take i)).length:Int)>(0:Int))):Value)=.bool true→(cE S rb (((((rnF (l.take i)).length:Int)-1)).toNat*2) (iN r.1))),((.bool (decide (((rnF (l.take i)).length:Int)>(0:Int))):Value)=.bool true→(i6 (((rnF (l.take i)).length:Int)-1))),((.bool (decide (((rnF (l.take i)).length:Int)>(0:Int))):Value)=.bool true→(0≤(((rnF (l.take i)).length:Int)-1)∧(((rnF (l.take i)).length:Int)-1)<((rnF (l.take i)).length:Int))),((.bool (decide (((rnF (l.take i)).length:Int)>(0:Int))):Value)=.bool true→(cE S rb ((((((rnF (l.take i)).length:Int)-1)).toNat*2)+1) (iN r.2))),((.bool (decide (((rnF (l.take i)).length:Int)>(0:Int))):Value)=.bool true→(i6 ((r.1:Int)+(r.2:Int))))])) kr kr (fun _=>kr) ⟨(fun g0=>have q0:(((rnF (l.take i)).length:Int)>(0:Int)):=(dT (boolV g0));om),(fun g0=>have q0:(((rnF (l.take i)).length:Int)>(0:Int)):=(dT (boolV g0));om),(fun g0=>have q0:(((rnF (l.take i)).length:Int)>(0:Int)):=(dT (boolV g0));(fun w1 h=>by rw[show(((((rnF (l.take i)).length:Int)-1)).toNat*2)=pre.length*2 by omega];exact(zI (h.own _ (mR (mL hbm)))).trans (hbc _ _ (by rw[hZ];exact(rnv_at pre r).1)))),(fun g0=>have q0:(((rnF (l.take i)).length:Int)>(0:Int)):=(dT (boolV g0));om),(fun g0=>have q0:(((rnF (l.take i)).length:Int)>(0:Int)):=(dT (boolV g0));om),(fun g0=>have q0:(((rnF (l.take i)).length:Int)>(0:Int)):=(dT (boolV g0));(fun w1 h=>by rw[show((((((rnF (l.take i)).length:Int)-1)).toNat*2)+1)=pre.length*2+1 by omega];exact(zI (h.own _ (mR (mL hbm)))).trans (hbc _ _ (by rw[hZ];exact(rnv_at pre r).2)))),(fun g0=>have q0:(((rnF (l.take i)).length:Int)>(0:Int)):=(dT (boolV g0));om),trivial⟩ ?_
   refine zX rfl (b:=((decide (((rnF (l.take i)).length:Int)>(0:Int)))&&(((r.1:Int)+(r.2:Int))==(x:Int)))) kr (fun c2r=>?_) (fun c2r=>?_)
   ·have c2:((((rnF (l.take i)).length:Int)>(0:Int))∧(((r.1:Int)+(r.2:Int))=(x:Int))):=⟨(dT (andT1 c2r)),(beq_iff_eq.1 (andT2 c2r))⟩
    refine Bp 9 [dZ,dZ,dZ,dZ,dZ,(dS (iN r.2))] (some [3,10,11,12,43,45]) (fun S=>[(i6 (((rnF (l.take i)).length:Int)-1)),(0≤(((rnF (l.take i)).length:Int)-1)∧(((rnF (l.take i)).length:Int)-1)<((rnF (l.take i)).length:Int)),(cE S rb ((((((rnF (l.take i)).length:Int)-1)).toNat*2)+1) (iN r.2)),(i6 ((r.2:Int)+1)),(0≤(((rnF (l.take i)).length:Int)-1)∧(((rnF (l.take i)).length:Int)-1)<((rnF (l.take i)).length:Int))]) ⟨om,om,(fun w1 h=>by rw[show((((((rnF (l.take i)).length:Int)-1)).toNat*2)+1)=pre.length*2+1 by omega];exact(zI (h.own _ (mR (mL hbm)))).trans (hbc _ _ (by rw[hZ];exact(rnv_at pre r).2))),om,om,trivial⟩ ?_
    refine Lu (Eff.reO (A2:=fun _=>([]++(Own.o 137 (splL (rnv (rnF (l.take i))) (pre.length*2+1) [.int .i64 ((r.2:Int)+1)]) qo++[]))) (Eff.storeOwn1 (b:=rb) (off:=pre.length*2+1) (v:=.int .i64 ((r.2:Int)+1)) rfl (ow:=qo) (e:=137) (xs:=(rnv (rnF (l.take i)))) hba (by rw[show pre.length*2+1=((((((rnF (l.take i)).length:Int)-1)).toNat*2)+1) by omega];kernel_rfl) kr rfl kr [] [] rfl (by rw[rnv_len];omega)) (fun _=>rfl)) ?_
    refine zg rfl ?_
    refine Cg (Γ':=[(12,[],iN i),(11,[],iN l.length),(10,[],sP fb 0 l.length fc),(3,[],sP rb 0 (rnF (l.take i)).length (Own.c qo))]) ?_
    refine Rg [3,10,11,12] [] (fun _=>[(i6 ((i:Int)+1))]) ⟨om,trivial⟩ ?_
    have hnx:(rnF (l.take (i+1)))=pre++[(r.1,r.2+1)]:=by rw[rnF_next om,hZ,rnS_app,if_pos om]
    have hup:splL (rnv (rnF (l.take i))) (pre.length*2+1) [Value.int .i64 ((r.2:Int)+1)]=rnv (rnF (l.take (i+1))):=by rw[hnx,hZ];exact rnv_upd pre r
    have hq2:OwnOk qo 2 (rnF (l.take (i+1))).length (rnv (rnF (l.take (i+1)))):=by
        have h9:=OwnOk.splL hq (off:=pre.length*2+1) (vs:=[Value.int .i64 ((r.2:Int)+1)]) (by rw[rnv_len,q6];omega)
        rw[hup]at h9
        rw[show(rnF (l.take (i+1))).length=(rnF (l.take i)).length by rw[hnx,hZl,zh];rfl]
        exact h9
    refine zU (congrArg (fun(xq:List Value)=>(([]++(Own.o 137 xq qo++[])):LO)) (show _=(rnv (rnF (l.take (i+1))))from by rw[show(r.2:Int)+1=(r.2:Int)+1 from rfl];exact hup)) ?_
    refine zN 3 (show .slice (some ⟨rb,0,none⟩) (rnF (l.take i)).length (Own.c qo)=.slice (Own.a qo) ((rnF (l.take (i+1))).length) (Own.c qo)from by rw[hba,hnx,hZl,zh];rfl) ?_
    refine zN 10 (show .slice (some ⟨fb,0,none⟩) l.length fc=.slice (Own.a o) l.length (Own.c o)from by rw[hof];rfl) ?_
    refine zG rfl (i+1,qo) ⟨by omega,hq2,fun y hy=>by rw[hnx]at hy;rcases yG.1 hy with hy|hy;have h7:=hrx y (by rw[hZ];exact mL hy);exact⟨h7.1,by omega⟩;rw[zi.1 hy];exact⟨hr1.1,by show r.2+1≤i+1;omega⟩⟩ (by show l.length-(i+1)<l.length-i;omega) (Conv.mk kr) slr
   have c2:((¬(((rnF (l.take i)).length:Int)>(0:Int)))∨(((r.1:Int)+(r.2:Int))≠(x:Int))):=((andF c2r).elim (fun h=>Or.inl (dF h)) (fun h=>Or.inr (beq_eq_false_iff_ne.1 h)))
   refine zN 3 (show .slice (some ⟨rb,0,none⟩) (rnF (l.take i)).length (Own.c qo)=.slice (Own.a qo) ((rnF (l.take i)).length) (Own.c qo)from by rw[hba]) ?_
   refine Bp 3 [dZ,dZ,(dS (.agg #[iN x,.int .i64 1]))] (some [3,10,11,12,46,48]) (fun S=>[(∀w1,S w1→(Instr.build 137 #[(0,iN x),(1,.int .i64 1)]).run Tryz.prog w1=.ok (.agg #[iN x,.int .i64 1]) w1)]) ⟨(fun _ _=>kr),trivial⟩ ?_
   refine Le (yR (vs:=#[iN x,.int .i64 1]) (n:=2) rfl kr Tryz.underlying138 kr (z:=(.agg #[.int .i64 0,.int .i64 0])) kr rfl (by decide) (by decide)) ?_
   rintro tb ⟨htb,ntb⟩
   refine Le (y8 rfl 2 16 Tryz.underlying138 kr (z:=(.agg #[.int .i64 0,.int .i64 0])) kr kr qo (xs:=(rnv (rnF (l.take i)))) hq kr (b2:=tb) (off2:=0) (m:=1) (c2:=1) kr ([iN x,.int .i64 1]) rfl (by intro q hq;rcases zq.1 hq with rfl|hq;rfl;rw[zi.1 hq];rfl) [(tb,.cells #[iN x,.int .i64 1] 137 (0,0))] [] (by rfl) (fun w1 h j v hj=>by rw[zF];exact h.ocell 0 rfl (by rw[zo];exact hj)) om om) ?_
   rintro o1 ko1
   refine Ld 1 [3,10,11,12] ?_
   refine Rg [3,10,11,12] [] (fun _=>[(i6 ((i:Int)+1))]) ⟨om,trivial⟩ ?_
   have hnx:(rnF (l.take (i+1)))=(rnF (l.take i))++[(x,1)]:=by rw[rnF_next om,←hx,hZ,rnS_app,if_neg om]
   have hrv:rnv (rnF (l.take i))++[Value.int .i64 (x:Int),Value.int .i64 1]=rnv (rnF (l.take (i+1))):=by rw[hnx];exact rnv_snoc _ x 1
   have hln:(rnF (l.take (i+1))).length=(rnF (l.take i)).length+1:=by rw[hnx,zh];rfl
   refine zU (congrArg (fun(xq:List Value)=>(([cl tb #[iN x,.int .i64 1] 137]++(Own.o 137 xq o1++[])):LO)) (show _=(rnv (rnF (l.take (i+1))))from hrv)) ?_
   refine zN 10 (show .slice (some ⟨fb,0,none⟩) l.length fc=.slice (Own.a o) l.length (Own.c o)from by rw[hof];rfl) ?_
   refine zN 3 (congrArg (fun(xq:Nat)=>(.slice (Own.a o1) xq (Own.c o1):Value)) (show(((rnF (l.take i)).length+1))=((rnF (l.take (i+1))).length)from by rw[hln])) ?_
   refine zG rfl (i+1,o1) ⟨by omega,by rw[hln];exact hrv▸ko1,fun y hy=>by rw[hnx]at hy;rcases yG.1 hy with hy|hy;have h7:=hrx y hy;exact⟨h7.1,by omega⟩;rw[zi.1 hy];exact⟨hxl,by show 1≤i+1;omega⟩⟩ (by show l.length-(i+1)<l.length-i;omega) (Conv.mk kr) (.cons _ slr)
  
  refine sI 6 (show((rnF (l.take i)).length:Int)=0 from by omega) ?_
  refine Cfg.regD rfl kr [3,5,6,10,11,12,36] [dZ,dZ,dZ,(2,false,none),(2,false,none),(2,false,none),(2,false,none),(2,false,none),(2,false,none),(2,false,none),(2,false,none),(2,false,none),(2,false,none),(2,false,none),(2,false,none),(2,false,none),(2,false,none),(2,false,none)] (Γ':=[(36,[],.bool false),(6,[],.int .i64 0),(5,[],iN x),(12,[],iN i),(11,[],iN l.length),(10,[],sP fb 0 l.length fc),(3,[],sO qo ((rnF (l.take i)).length))]) (nd:=(fun _=>[((.bool false:Value)≠.bool true),((.bool false:Value)≠.bool true),((.bool false:Value)≠.bool true),((.bool false:Value)≠.bool true),((.bool false:Value)≠.bool true),((.bool false:Value)≠.bool true),((.bool false:Value)≠.bool true),((.bool false:Value)≠.bool true),((.bool false:Value)≠.bool true),((.bool false:Value)≠.bool true),((.bool false:Value)≠.bool true),((.bool false:Value)≠.bool true),((.bool false:Value)≠.bool true),((.bool false:Value)≠.bool true),((.bool false:Value)≠.bool true)])) kr kr (fun _=>kr) ⟨(by simp),(by simp),(by simp),(by simp),(by simp),(by simp),(by simp),(by simp),(by simp),(by simp),(by simp),(by simp),(by simp),(by simp),(by simp),trivial⟩ ?_
  refine yb rfl (b:=false) kr rfl ?_
  refine Bp 3 [dZ,dZ,(dS (.agg #[iN x,.int .i64 1]))] (some [3,10,11,12,46,48]) (fun S=>[(∀w1,S w1→(Instr.build 137 #[(0,iN x),(1,.int .i64 1)]).run Tryz.prog w1=.ok (.agg #[iN x,.int .i64 1]) w1)]) ⟨(fun _ _=>kr),trivial⟩ ?_
  refine Le (yR (vs:=#[iN x,.int .i64 1]) (n:=2) rfl kr Tryz.underlying138 kr (z:=(.agg #[.int .i64 0,.int .i64 0])) kr rfl (by decide) (by decide)) ?_
  rintro tb ⟨htb,ntb⟩
  refine Le (y8 rfl 2 16 Tryz.underlying138 kr (z:=(.agg #[.int .i64 0,.int .i64 0])) kr kr qo (xs:=(rnv (rnF (l.take i)))) hq kr (b2:=tb) (off2:=0) (m:=1) (c2:=1) kr ([iN x,.int .i64 1]) rfl (by intro q hq;rcases zq.1 hq with rfl|hq;rfl;rw[zi.1 hq];rfl) [(tb,.cells #[iN x,.int .i64 1] 137 (0,0))] [] (by rfl) (fun w1 h j v hj=>by rw[zF];exact h.ocell 0 rfl (by rw[zo];exact hj)) om om) ?_
  rintro o2 ko2
  refine Ld 1 [3,10,11,12] ?_
  refine Rg [3,10,11,12] [] (fun _=>[(i6 ((i:Int)+1))]) ⟨om,trivial⟩ ?_
  have hZ0:(rnF (l.take i))=[]:=ya om
  have hnx:(rnF (l.take (i+1)))=(rnF (l.take i))++[(x,1)]:=by rw[rnF_next om,←hx,hZ0];rfl
  have hrv:rnv (rnF (l.take i))++[Value.int .i64 (x:Int),Value.int .i64 1]=rnv (rnF (l.take (i+1))):=by rw[hnx];exact rnv_snoc _ x 1
  have hln:(rnF (l.take (i+1))).length=(rnF (l.take i)).length+1:=by rw[hnx,zh];rfl
  refine zU (congrArg (fun(xq:List Value)=>(([cl tb #[iN x,.int .i64 1] 137]++(Own.o 137 xq o2++[])):LO)) (show _=(rnv (rnF (l.take (i+1))))from hrv)) ?_
  refine zN 10 (show .slice (some ⟨fb,0,none⟩) l.length fc=.slice (Own.a o) l.length (Own.c o)from by rw[hof];rfl) ?_
  refine zN 3 (congrArg (fun(xq:Nat)=>(.slice (Own.a o2) xq (Own.c o2):Value)) (show(((rnF (l.take i)).length+1))=((rnF (l.take (i+1))).length)from by rw[hln])) ?_
  refine zG rfl (i+1,o2) ⟨by omega,by rw[hln];exact hrv▸ko2,fun y hy=>by rw[hnx]at hy;rcases yG.1 hy with hy|hy;have h7:=hrx y hy;exact⟨h7.1,by omega⟩;rw[zi.1 hy];exact⟨hxl,by show 1≤i+1;omega⟩⟩ (by show l.length-(i+1)<l.length-i;omega) (Conv.mk kr) (.cons _ slr)
 refine Rq [2] ?_
 refine Rt [sO qo ((rnF (l.take i)).length)] (fun w1 hp=>?_)
 have hie:i=l.length:=by omega
 have hlt:l.take i=l:=by rw[hie,yV]
 rw[hlt]at hq
 have h9:HP w [] (spD sb n o l) ([]++(Own.o 137 (rnv (rnF (l.take i))) qo++[])) w1:=hp
 rw[hlt,yM,zm]at h9
 exact⟨qo,hq,by rw[hlt];rfl,_,h9⟩
end
section
open K
def rl5 (a k:Nat):List Nat:=(List.range k).map fun i=>a+i
theorem rl5_len (a k:Nat):(rl5 a k).length=k:=by unfold rl5;rw[zA,qk]
theorem rl5_next (a k:Nat):nv (rl5 a k)++[Value.int .i64 ((a+k:Nat):Int)]=nv (rl5 a (k+1)):=by
 rw[nv_snoc]
 unfold rl5
 rw[qc,yf];rfl
theorem rl5_at {a k i:Nat} (h:i<k):(rl5 a k).getD i 0=a+i:=by
 unfold rl5
 rw[zc,qa,List.getElem?_range h];rfl
theorem frL_next {fr:List Bool} {i:Nat} (h:i<fr.length):frL (fr.take (i+1))=frL (fr.take i)++if fr.getD i false=true then[121+i] else[]:=by
 rw[zV h,frL_snoc,z8,qC om,zc,zd h]
 rfl
theorem frL_get {fr:List Bool} {i:Nat}:decide (121+i∈frL fr)=fr.getD i false:=by
 rw[Bool.eq_iff_iff,decide_eq_true_iff,frL_mem,Nat.add_sub_cancel_left]
 exact⟨fun h=>h.2,fun h=>⟨by omega,h⟩⟩
theorem frL_le {fr:List Bool}:∀x∈frL fr,x<121+fr.length:=fun x hx=>by
 obtain⟨h1,h2⟩:=frL_mem.1 hx
 rcases qy (x-121) fr.length with h3|h3
 ·omega
 rw[zc,qn h3]at h2;cases h2
theorem r5Turn (sb n r0:Nat) (o:K.Own) (fr:List Bool) (a m:Nat) (w:World) (hA:Has w (spD sb n o (frL fr))) (hd:((spD sb n o (frL fr)).map (·.1)).Nodup) (hR:Has w [(r0,.cells #[.int .i64 (a:Int),.int .i64 (m:Int)] 137 (0,0))]) (hnr:∀e∈[((r0,.cells #[.int .i64 (a:Int),.int .i64 (m:Int)] 137 (0,0)):Nat×Obj)],e.1∉(spD sb n o (frL fr)).map (·.1)) (ho:OwnOk o 1 (frL fr).length (nv (frL fr))) (hn:fr.length=n∧n≤400) (hm:0<m) (ha:121≤a∧a+m≤121+n) (hf:∀j,a-121≤j→j<a-121+m→fr.getD j false=true) :
  Calls Tryz.prog 56 #[.pointer (some ⟨sb,0,none⟩),.slice (some ⟨r0,0,none⟩) 1 1,.bool false] w fun e w'=>∃o2:K.Own,OwnOk o2 1 (frL (fill fr (a-121) m false)).length (nv (frL (fill fr (a-121) m false)))∧e=.returned (.int .i64 0)∧∃R1,HP w ((spD sb n o (frL fr)).map (·.1)) R1 (spD sb n o2 (frL (fill fr (a-121) m false))) w':=by
 have hfl:=frL_len fr
 have hfm:∀k,k<m→a+k∈frL fr:=fun k hk=>frL_mem.2 ⟨by omega,hf _ om om⟩
 have hf2:(fill fr (a-121) m false).length=n:=by rw[fill_len];exact hn.1
 have hg2:∀i,(fill fr (a-121) m false).getD i false=if a-121≤i∧i<a-121+m then false else fr.getD i false:=fun i=>fill_getD _ _ _ _ _ om
 refine enter ((spD sb n o (frL fr)).map (·.1)) [cl r0 #[iN a,iN m] 137] ([cl sb #[.int .i64 121,iN n,sO o ((frL fr).length)] 63]++(Own.o 3 (nv (frL fr)) o++[])) Tryz.func56 rfl kr (by rw[zm];exact HP.ofL hA hd hR hnr) ?_
 refine Rq [0,1,2] ?_
 refine Rq [0,1,2,7] ?_
 refine Rq [0,2,7,20,21,22] ?_
 refine zN 7 (show .slice none 0 0=.slice (Own.a none) ((0*m)) (Own.c none)from by rw[Nat.zero_mul];rfl) ?_
 refine ye rfl (ι:=Nat×K.Own) (fun(q,os)=>[(22,[],iN q),(21,[],.int .i64 (1:Int)),(20,[],sP r0 0 1 1),(7,[],sO os ((q*m))),(0,[],pT sb),(2,[],.bool false)]) (fun(q,os)=>([cl sb #[.int .i64 121,iN n,sO o ((frL fr).length)] 63]++(Own.o 3 (nv (rl5 a (q*m))) os++(Own.o 3 (nv (frL fr)) o++[])))) (fun(q,os)=>(q≤1)∧(OwnOk os 1 (q*m) (nv (rl5 a (q*m))))) (fun(q,os)=>1-q) (0,none) ?_ (Conv.mk kr) slr ?_
 ·exact⟨by omega,by rw[Nat.zero_mul];exact OwnOk.none _⟩
 rintro⟨q,os⟩ ⟨hq,hos⟩
 refine Rq [0,2,7,20,21,22,23] ?_
 refine eC rfl (p:=((q:Int)<(1:Int))) kr (fun c1=>?_) (fun c1=>?_)
 ·have hq0:q=0:=by omega
  refine Bp 2 [dZ,(dS (.agg #[iN a,iN m]))] (some [0,2,7,20,21,22,25]) (fun S=>[(iL (q:Int) 1),(lV S 137 r0 (q*2) (.agg #[iN a,iN m]))]) ⟨om,(fun w1 h=>yw (vs:=[iN a,iN m]) Tryz.underlying137 rfl kr rfl (fun q9 v hq9=>h.rcell 0 rfl (by rw[show((q*2))+q9=q9 by omega,zo];exact hq9))),trivial⟩ ?_
  refine Le (zM (z:=(.agg #[.int .i64 0,.int .i64 0])) rfl kr) ?_
  rintro rc9 ⟨hrc9,nrc9⟩
  refine Lu (zC (b:=rc9) (off:=0) (vs:=#[iN a,iN m]) (n:=2) rfl kr kr kr rfl (two_one rfl rfl) 0 (cs:=#[.int .i64 0,.int .i64 0]) (e:=137) kr (zD 2)) ?_
  refine yF (congrArg (fun(xq:Array Value)=>(([cl rc9 xq 137,cl sb #[.int .i64 121,iN n,sO o ((frL fr).length)] 63]++(Own.o 3 (nv (rl5 a (q*m))) os++(Own.o 3 (nv (frL fr)) o++[]))):LO)) (show _ = #[iN a,iN m]from rfl)) ?_
  refine zg rfl ?_
  refine Cg (Γ':=[(9,[],pT rc9),(22,[],iN q),(21,[],.int .i64 (1:Int)),(20,[],sP r0 0 1 1),(7,[],sO os ((q*m))),(0,[],pT sb),(2,[],.bool false)]) ?_
  refine Rg [0,2,7,9,20,21,22,28] [dZ,(dS (iN m))] (fun S=>[(cE S rc9 1 (iN m))]) ⟨(oC 0 rfl rfl),trivial⟩ ?_
  refine yb rfl (b:=(decide ((m:Int)<(1:Int)))) kr (decide_eq_false om) ?_
  refine Rq [0,2,7,9,10,20,21,22] ?_
  refine zN 7 (congrArg (fun(xq:Nat)=>(.slice (Own.a os) xq (Own.c os):Value)) (show((q*m))=0 from by rw[hq0,Nat.zero_mul])) ?_
  refine zU (congrArg (fun(xq:List Value)=>(([(rc9,.cells #[iN a,iN m] 137 (0,0)),(sb,.cells #[.int .i64 121,iN n,.slice (Own.a o) ((frL fr).length) (Own.c o)] 63 (0,0))]++(Own.o 3 xq os++(Own.o 3 (nv (frL fr)) o++[]))):LO)) (show _=(nv (rl5 a 0))from by rw[hq0,Nat.zero_mul])) ?_
  refine ye rfl (ι:=Nat×K.Own) (fun(k,os)=>[(10,[],iN k),(9,[],pT rc9),(22,[],iN q),(21,[],.int .i64 (1:Int)),(20,[],sP r0 0 1 1),(7,[],sO os k),(0,[],pT sb),(2,[],.bool false)]) (fun(k,os)=>([cl rc9 #[iN a,iN m] 137,cl sb #[.int .i64 121,iN n,sO o ((frL fr).length)] 63]++(Own.o 3 (nv (rl5 a k)) os++(Own.o 3 (nv (frL fr)) o++[])))) (fun(k,os)=>(k≤m)∧(OwnOk os 1 k (nv (rl5 a k)))) (fun(k,os)=>m-k) (0,os) ?_ (Conv.mk kr) slr ?_
  ·exact⟨zH _,by rw[hq0,Nat.zero_mul]at hos;exact hos⟩
  rintro⟨k,os⟩ ⟨hk,hos⟩
  refine Rg [0,2,7,9,10,20,21,22,32] [dZ,dZ,(dS (iN m))] (fun S=>[(cE S rc9 1 (iN m))]) ⟨(oC 0 rfl rfl),trivial⟩ ?_
  refine eC rfl (p:=((k:Int)<(m:Int))) kr (fun c3=>?_) (fun c3=>?_)
  ·refine Rg [0,2,7,9,10,11,20,21,22] [dZ,(dS (iN a))] (fun S=>[(cE S rc9 0 (iN a)),(i6 ((a:Int)+(k:Int)))]) ⟨(oC 0 rfl rfl),om,trivial⟩ ?_
   refine Cfg.regD rfl kr [0,2,7,9,10,11,20,21,22,63] [dZ,dZ,dZ,dZ,(dS (.int .i64 121)),dZ,dZ,dZ,dZ,dZ,dZ,(dS (.int .i64 121)),dZ,dZ,dZ,dZ,(dS (iN n)),dZ,dZ,dZ,dZ,dZ,(dS (iN a))] (Γ':=[(63,[],.bool (((decide (((a:Int)+(k:Int))<(121:Int))) || (decide ((((a:Int)+(k:Int))-121)≥(n:Int)))) || (decide (((a:Int)+(k:Int))<(a:Int))))),(11,[],.int .i64 ((a:Int)+(k:Int))),(10,[],iN k),(9,[],pT rc9),(22,[],iN q),(21,[],.int .i64 (1:Int)),(20,[],sP r0 0 1 1),(7,[],sO os k),(0,[],pT sb),(2,[],.bool false)]) (nd:=(fun S=>[(cE S sb 0 (.int .i64 121)),((.bool (decide (((a:Int)+(k:Int))<(121:Int))):Value)=.bool false→(cE S sb 0 (.int .i64 121))),((.bool (decide (((a:Int)+(k:Int))<(121:Int))):Value)=.bool false→(i6 (((a:Int)+(k:Int))-121))),((.bool (decide (((a:Int)+(k:Int))<(121:Int))):Value)=.bool false→(cE S sb 1 (iN n))),((.bool ((decide (((a:Int)+(k:Int))<(121:Int))) || (decide ((((a:Int)+(k:Int))-121)≥(n:Int)))):Value)=.bool false→(cE S rc9 0 (iN a)))])) kr kr (fun _=>kr) ⟨(oC 1 rfl rfl),(fun g0=>have q0:(¬(((a:Int)+(k:Int))<(121:Int))):=(dF (boolV g0));(oC 1 rfl rfl)),(fun g0=>have q0:(¬(((a:Int)+(k:Int))<(121:Int))):=(dF (boolV g0));om),(fun g0=>have q0:(¬(((a:Int)+(k:Int))<(121:Int))):=(dF (boolV g0));(oC 1 rfl rfl)),(fun g0=>have q0:((¬(((a:Int)+(k:Int))<(121:Int)))∧(¬((((a:Int)+(k:Int))-121)≥(n:Int)))):=⟨(dF (orF1 (boolV g0))),(dF (orF2 (boolV g0)))⟩;(oC 0 rfl rfl)),trivial⟩ ?_
   refine yb rfl (b:=(((decide (((a:Int)+(k:Int))<(121:Int))) || (decide ((((a:Int)+(k:Int))-121)≥(n:Int)))) || (decide (((a:Int)+(k:Int))<(a:Int))))) kr (by rw[Bool.or_eq_false_iff,Bool.or_eq_false_iff];exact⟨⟨decide_eq_false om,decide_eq_false om⟩,decide_eq_false om⟩) ?_
   refine Bq 2 [0,2,7,9,10,11,20,21,22,64,65] ?_
   refine Lu (zr (vs:=[pT sb,.int .i64 ((a:Int)+(k:Int))]) (.bool true) rfl Tryz.func92 rfl rfl kr (fun w1 h=>by have h9:=r5Has sb n o (frL fr) (a+k) w1 (fun e he=>(zq.1 he).elim (fun h1=>h1▸h.own _ (mL (mG 1 rfl))) (fun h1=>h.own e (mR (mR (mL h1))))) ho om;rw[decide_eq_true (hfm k om)]at h9;exact h9)) ?_
   refine Ld 2 [0,2,7,9,10,11,20,21,22,68] ?_
   refine yb rfl (b:=false) kr rfl ?_
   refine Rq [0,2,7,9,10,11,20,21,22,69,70,71] ?_
   refine ye rfl (ι:=Nat) (fun(j4:Nat)=>[(71,[],iN j4),(70,[],iN k),(69,[],sO os k),(11,[],.int .i64 ((a:Int)+(k:Int))),(10,[],iN k),(9,[],pT rc9),(22,[],iN q),(21,[],.int .i64 (1:Int)),(20,[],sP r0 0 1 1),(7,[],sO os k),(0,[],pT sb),(2,[],.bool false)]) (fun(j4:Nat)=>([cl rc9 #[iN a,iN m] 137,cl sb #[.int .i64 121,iN n,sO o ((frL fr).length)] 63]++(Own.o 3 (nv (rl5 a k)) os++(Own.o 3 (nv (frL fr)) o++[])))) (fun(j4:Nat)=>(j4≤k)) (fun(j4:Nat)=>k-j4) 0 ?_ (Conv.mk kr) slr ?_
   ·exact zH _
   rintro j4 hj4
   refine Rq [0,2,7,9,10,11,20,21,22,69,70,71,72] ?_
   refine eC rfl (p:=((j4:Int)<(k:Int))) kr (fun c6=>?_) (fun c6=>?_)
   ·obtain⟨qb,qcs,hba,hbm,hbc⟩:=own_adr 3 hos om
    refine zN 69 (show .slice (Own.a os) k (Own.c os)=.slice (some ⟨qb,0,none⟩) k (Own.c os)from by rw[hba]) ?_
    refine Rg [0,2,7,9,10,11,13,20,21,22,69,70,71] [dZ,(dS (iN ((a+j4))))] (fun S=>[(iL (j4:Int) (k:Int)),(cE S qb j4 (iN ((a+j4))))]) ⟨om,(fun w1 h=>by have h9:=(zI (h.own (cl qb qcs 3) (mR (mL hbm)))).trans (hbc j4 _ (nv_get (by rw[rl5_len];omega)));rw[rl5_at om]at h9;exact h9),trivial⟩ ?_
    refine Rq [0,2,7,9,10,11,20,21,22,69,70,71,77] ?_
    refine yb rfl (b:=((((a+j4):Nat):Int)==((a:Int)+(k:Int)))) kr (beq_eq_false_iff_ne.2 om) ?_
    refine Rg [0,2,7,9,10,11,20,21,22,69,70,71] [] (fun _=>[(i6 ((j4:Int)+1))]) ⟨om,trivial⟩ ?_
    refine zN 69 (show .slice (some ⟨qb,0,none⟩) k (Own.c os)=.slice (Own.a os) k (Own.c os)from by rw[hba]) ?_
    refine zG rfl (j4+1) (show j4+1≤k by omega) (by show k-(j4+1)<k-j4;omega) (Conv.mk kr) slr
   refine Bq 2 [0,2,7,9,10,20,21,22,79,80] ?_
   refine Le (yP (e:=3) (cells:=#[.int .i64 ((a:Int)+(k:Int))]) (parts:=#[(0,.int .i64 ((a:Int)+(k:Int)))]) rfl kr (fun _=>kr)) ?_
   rintro tb81 ⟨htb81,ntb81⟩
   refine Le (y8 rfl 1 8 Tryz.underlying61 kr (z:=(.int .i64 0)) kr kr os (xs:=(nv (rl5 a k))) hos kr (b2:=tb81) (off2:=0) (m:=1) (c2:=1) kr ([.int .i64 ((a:Int)+(k:Int))]) rfl (by intro q hq;rw[zi.1 hq];rfl) [(tb81,.cells #[.int .i64 ((a:Int)+(k:Int))] 3 (0,0)),(rc9,.cells #[iN a,iN m] 137 (0,0)),(sb,.cells #[.int .i64 121,iN n,.slice (Own.a o) ((frL fr).length) (Own.c o)] 63 (0,0))] ([]++(Own.o 3 (nv (frL fr)) o++[])) (by rfl) (fun w1 h j v hj=>by rw[zF];exact h.ocell 0 rfl (by rw[zo];exact hj)) om om) ?_
   rintro o2 ko2
   refine Ld 1 [0,2,7,9,10,20,21,22] ?_
   refine Rg [0,2,7,9,10,20,21,22] [] (fun _=>[(i6 ((k:Int)+1))]) ⟨om,trivial⟩ ?_
   have hrv:=rl5_next a k
   refine zU (congrArg (fun(xq:List Value)=>(([cl tb81 #[.int .i64 ((a:Int)+(k:Int))] 3,cl rc9 #[iN a,iN m] 137,cl sb #[.int .i64 121,iN n,sO o ((frL fr).length)] 63]++(Own.o 3 xq o2++(Own.o 3 (nv (frL fr)) o++[]))):LO)) (show _=(nv (rl5 a (k+1)))from hrv)) ?_
   refine zG rfl (k+1,o2) ⟨by omega,hrv▸ko2⟩ (by show m-(k+1)<m-k;omega) (Conv.mk kr) (.cons _ slr)
  refine Rg [0,2,7,20,21,22] [] (fun _=>[(i6 ((q:Int)+1))]) ⟨om,trivial⟩ ?_
  have hq1:(q+1)*m=k:=by rw[hq0,zF,Nat.one_mul];omega
  refine zU (congrArg (fun(xq:List Value)=>(([(rc9,.cells #[iN a,iN m] 137 (0,0)),(sb,.cells #[.int .i64 121,iN n,.slice (Own.a o) ((frL fr).length) (Own.c o)] 63 (0,0))]++(Own.o 3 xq os++(Own.o 3 (nv (frL fr)) o++[]))):LO)) (show _=(nv (rl5 a ((q+1)*m)))from by rw[hq1])) ?_
  refine zN 7 (congrArg (fun(xq:Nat)=>(sO os xq:Value)) (show k=(((q+1)*m))from hq1.symm)) ?_
  refine zG rfl (q+1,os) ⟨by omega,by rw[hq1];exact hos⟩ (by show 1-(q+1)<1-q;omega) (Conv.mk kr) (.cons _ slr)
 refine Rq [0,2,7,14] ?_
 refine Rq [0,2,7,14,15] ?_
 have hq1:q=1:=by omega
 rw[hq1,Nat.one_mul]at hos
 refine zN 14 (show .slice none 0 0=sO none ((frL ((fill fr (a-121) m false).take 0)).length)from rfl) ?_
 refine zN 7 (congrArg (fun(xq:Nat)=>(.slice (Own.a os) xq (Own.c os):Value)) (show((q*m))=m from by rw[hq1,Nat.one_mul])) ?_
 refine zU (congrArg (fun(xq:List Value)=>(([(sb,.cells #[.int .i64 121,iN n,.slice (Own.a o) ((frL fr).length) (Own.c o)] 63 (0,0))]++(Own.o 3 xq os++(Own.o 3 (nv (frL fr)) o++[]))):LO)) (show _=(nv (rl5 a m))from by rw[hq1,Nat.one_mul])) ?_
 refine ye rfl (ι:=Nat×K.Own) (fun(i,on)=>[(15,[],iN i),(14,[],sO on ((frL ((fill fr (a-121) m false).take i)).length)),(7,[],sO os m),(0,[],pT sb),(2,[],.bool false)]) (fun(i,on)=>([cl sb #[.int .i64 121,iN n,sO o ((frL fr).length)] 63]++(Own.o 3 (nv (frL ((fill fr (a-121) m false).take i))) on++(Own.o 3 (nv (rl5 a m)) os++(Own.o 3 (nv (frL fr)) o++[]))))) (fun(i,on)=>(i≤n)∧(OwnOk on 1 (frL ((fill fr (a-121) m false).take i)).length (nv (frL ((fill fr (a-121) m false).take i))))) (fun(i,on)=>n-i) (0,none) ?_ (Conv.mk kr) slr ?_
 ·exact⟨zH _,OwnOk.none _⟩
 rintro⟨i,on⟩ ⟨hi,hon⟩
 have hnl:=frL_len ((fill fr (a-121) m false).take i)
 rw[z8]at hnl
 refine Rg [0,2,7,14,15,89] [dZ,dZ,dZ,dZ,(dS (iN n))] (fun S=>[(cE S sb 1 (iN n))]) ⟨(oC 0 rfl rfl),trivial⟩ ?_
 refine eC rfl (p:=((i:Int)<(n:Int))) kr (fun c8=>?_) (fun c8=>?_)
 ·refine Rg [0,2,7,14,15,16] [dZ,dZ,dZ,(dS (.int .i64 121))] (fun S=>[(cE S sb 0 (.int .i64 121)),(i6 (121+(i:Int)))]) ⟨(oC 0 rfl rfl),om,trivial⟩ ?_
  refine Rq [0,2,7,14,15,16,17] ?_
  refine Rq [0,2,7,14,15,16,17,98,99,100] ?_
  refine zN 17 (congrArg (fun(xq:Bool)=>(.bool xq:Value)) (show false=(decide (a≤121+i∧121+i<a+0)) from(decide_eq_false om).symm)) ?_
  refine ye rfl (ι:=Nat) (fun(j8:Nat)=>[(100,[],iN j8),(99,[],iN m),(98,[],sO os m),(17,[],.bool (decide (a≤121+i∧121+i<a+j8))),(16,[],.int .i64 (121+(i:Int))),(15,[],iN i),(14,[],sO on ((frL ((fill fr (a-121) m false).take i)).length)),(7,[],sO os m),(0,[],pT sb),(2,[],.bool false)]) (fun(j8:Nat)=>([cl sb #[.int .i64 121,iN n,sO o ((frL fr).length)] 63]++(Own.o 3 (nv (frL ((fill fr (a-121) m false).take i))) on++(Own.o 3 (nv (rl5 a m)) os++(Own.o 3 (nv (frL fr)) o++[]))))) (fun(j8:Nat)=>(j8≤m)) (fun(j8:Nat)=>m-j8) 0 ?_ (Conv.mk kr) slr ?_
  ·exact zH _
  rintro j8 hj8
  refine Rq [0,2,7,14,15,16,17,98,99,100,101] ?_
  refine eC rfl (p:=((j8:Int)<(m:Int))) kr (fun c9=>?_) (fun c9=>?_)
  ·obtain⟨qb,qcs,hba,hbm,hbc⟩:=own_adr 3 hos om
   refine zN 98 (show .slice (Own.a os) m (Own.c os)=.slice (some ⟨qb,0,none⟩) m (Own.c os)from by rw[hba]) ?_
   refine Rg [0,2,7,14,15,16,17,19,98,99,100] [dZ,(dS (iN ((a+j8))))] (fun S=>[(iL (j8:Int) (m:Int)),(cE S qb j8 (iN ((a+j8))))]) ⟨om,(fun w1 h=>by have h9:=(zI (h.own (cl qb qcs 3) (mR (mR (mL hbm))))).trans (hbc j8 _ (nv_get (by rw[rl5_len];omega)));rw[rl5_at om]at h9;exact h9),trivial⟩ ?_
   refine Rq [0,2,7,14,15,16,17,98,99,100,106] ?_
   refine zX rfl (b:=((((a+j8):Nat):Int)==(121+(i:Int)))) kr (fun c10r=>?_) (fun c10r=>?_)
   ·have c10:=(beq_iff_eq.1 c10r)
    refine Rq [0,2,7,14,15,16,17,98,99,100] ?_
    refine Rg [0,2,7,14,15,16,17,98,99,100] [] (fun _=>[(i6 ((j8:Int)+1))]) ⟨om,trivial⟩ ?_
    refine zN 98 (show .slice (some ⟨qb,0,none⟩) m (Own.c os)=.slice (Own.a os) m (Own.c os)from by rw[hba]) ?_
    refine zN 17 (congrArg (fun(xq:Bool)=>(.bool xq:Value)) (show true=(decide (a≤121+i∧121+i<a+(j8+1))) from(decide_eq_true om).symm)) ?_
    refine zG rfl (j8+1) (show j8+1≤m by omega) (by show m-(j8+1)<m-j8;omega) (Conv.mk kr) slr
   have c10:=(beq_eq_false_iff_ne.1 c10r)
   refine Rg [0,2,7,14,15,16,17,98,99,100] [] (fun _=>[(i6 ((j8:Int)+1))]) ⟨om,trivial⟩ ?_
   refine zN 98 (show .slice (some ⟨qb,0,none⟩) m (Own.c os)=.slice (Own.a os) m (Own.c os)from by rw[hba]) ?_
   refine zN 17 (congrArg (fun(xq:Bool)=>(.bool xq:Value)) (show(decide (a≤121+i∧121+i<a+j8))=(decide (a≤121+i∧121+i<a+(j8+1))) from(decide_eq_decide.2 om))) ?_
   refine zG rfl (j8+1) (show j8+1≤m by omega) (by show m-(j8+1)<m-j8;omega) (Conv.mk kr) slr
  refine Bq 2 [0,2,7,14,15,16,17,108,109] ?_
  refine Lu (zr (vs:=[pT sb,.int .i64 (121+(i:Int))]) (.bool (fr.getD i false)) rfl Tryz.func92 rfl rfl kr (fun w1 h=>by have h9:=r5Has sb n o (frL fr) (121+i) w1 (fun e he=>(zq.1 he).elim (fun h1=>h1▸h.own _ (mL (mG 0 rfl))) (fun h1=>h.own e (mR (mR (mR (mL h1)))))) ho om;rw[frL_get]at h9;exact h9)) ?_
  refine Lq 3 [0,2,7,14,15,16,113] ?_
  by_cases c11:(!((fr.getD i false)==(decide (a≤121+i∧121+i<a+j8))))=true
  ·have c11k:(!((fr.getD i false)==(decide (a≤121+i∧121+i<a+j8))))=true:=c11
   have c11q:((!((fr.getD i false)==(decide (a≤121+i∧121+i<a+j8))))=true):=c11k
   refine qw 113 (b:=(!((fr.getD i false)==(decide (a≤121+i∧121+i<a+j8))))) kr true c11k ?_
   refine Lp 2 [(1,false,none),(1,false,none)] none (fun _=>[((.bool true:Value)=.bool true),((.bool true:Value)=.bool true)]) ⟨rfl,rfl,trivial⟩ ?_
   refine Lu (zr (vs:=[pT sb,.int .i64 (121+(i:Int))]) (.bool (fr.getD i false)) rfl Tryz.func92 rfl rfl kr (fun w1 h=>by have h9:=r5Has sb n o (frL fr) (121+i) w1 (fun e he=>(zq.1 he).elim (fun h1=>h1▸h.own _ (mL (mG 0 rfl))) (fun h1=>h.own e (mR (mR (mR (mL h1)))))) ho om;rw[frL_get]at h9;exact h9)) ?_
   refine Lp 4 [(1,false,none),dZ,(1,false,none)] (some [0,2,7,14,15,16,120]) (fun _=>[((.bool true:Value)=.bool true),((.bool true:Value)=.bool true)]) ⟨rfl,rfl,trivial⟩ ?_
   refine zg rfl ?_
   refine zX rfl (b:=((fr.getD i false) || false)) kr (fun c12r=>?_) (fun c12r=>?_)
   ·have c12:(((fr.getD i false)=true)∨(false=true)):=((orT c12r).elim (fun h=>Or.inl h) (fun h=>Or.inr h))
    refine Bq 2 [0,2,7,14,15,121,122] ?_
    refine Le (yP (e:=3) (cells:=#[.int .i64 (121+(i:Int))]) (parts:=#[(0,.int .i64 (121+(i:Int)))]) rfl kr (fun _=>kr)) ?_
    rintro tb123 ⟨htb123,ntb123⟩
    refine Le (y8 rfl 1 8 Tryz.underlying61 kr (z:=(.int .i64 0)) kr kr on (xs:=(nv (frL ((fill fr (a-121) m false).take i)))) hon kr (b2:=tb123) (off2:=0) (m:=1) (c2:=1) kr ([.int .i64 (121+(i:Int))]) rfl (by intro q hq;rw[zi.1 hq];rfl) [(tb123,.cells #[.int .i64 (121+(i:Int))] 3 (0,0)),(sb,.cells #[.int .i64 121,iN n,.slice (Own.a o) ((frL fr).length) (Own.c o)] 63 (0,0))] ([]++(Own.o 3 (nv (rl5 a m)) os++(Own.o 3 (nv (frL fr)) o++[]))) (by rfl) (fun w1 h j v hj=>by rw[zF];exact h.ocell 0 rfl (by rw[zo];exact hj)) om om) ?_
    rintro o5 ko5
    refine Ld 1 [0,2,7,14,15] ?_
    refine Rg [0,2,7,14,15] [] (fun _=>[(i6 ((i:Int)+1))]) ⟨om,trivial⟩ ?_
    have h1:fr.getD i false=true:=by simpa using c12
    have h2:¬(a≤121+i∧121+i<a+j8):=by
        have h3:=c11k
        rw[h1]at h3
        simp at h3;omega
    have hyes:(if a-121≤i∧i<a-121+m then false else fr.getD i false)=true:=by rw[if_neg om];exact h1
    have hnx:(frL ((fill fr (a-121) m false).take (i+1)))=(frL ((fill fr (a-121) m false).take i))++[121+i]:=by
        rw[frL_next (fr:=(fill fr (a-121) m false)) (i:=i) om,hg2]
        rw[if_pos hyes]
    have hrv:nv (frL ((fill fr (a-121) m false).take i))++[Value.int .i64 ((121+i:Nat):Int)]=nv (frL ((fill fr (a-121) m false).take (i+1))):=by rw[hnx];exact nv_snoc _ _
    have hln:(frL ((fill fr (a-121) m false).take (i+1))).length=(frL ((fill fr (a-121) m false).take i)).length+1:=by rw[hnx,zh];rfl
    refine zU (congrArg (fun(xq:List Value)=>(([cl tb123 #[.int .i64 (121+(i:Int))] 3,cl sb #[.int .i64 121,iN n,sO o ((frL fr).length)] 63]++(Own.o 3 xq o5++(Own.o 3 (nv (rl5 a m)) os++(Own.o 3 (nv (frL fr)) o++[])))):LO)) (show _=(nv (frL ((fill fr (a-121) m false).take (i+1))))from hrv)) ?_
    refine zN 14 (congrArg (fun(xq:Nat)=>(.slice (Own.a o5) xq (Own.c o5):Value)) (show(((frL ((fill fr (a-121) m false).take i)).length+1))=((frL ((fill fr (a-121) m false).take (i+1))).length)from by rw[hln])) ?_
    refine zG rfl (i+1,o5) ⟨by omega,by rw[hln];exact hrv▸ko5⟩ (by show n-(i+1)<n-i;omega) (Conv.mk kr) (.cons _ slr)
   have c12:(((fr.getD i false)=false)∧(false=false)):=⟨(orF1 c12r),(orF2 c12r)⟩
   refine Rg [0,2,7,14,15] [] (fun _=>[(i6 ((i:Int)+1))]) ⟨om,trivial⟩ ?_
   have h1:fr.getD i false=false:=by simpa using c12
   have hno:¬(if a-121≤i∧i<a-121+m then false else fr.getD i false)=true:=by rw[h1];split <;> decide
   have hnx:(frL ((fill fr (a-121) m false).take (i+1)))=(frL ((fill fr (a-121) m false).take i))++[]:=by
       rw[frL_next (fr:=(fill fr (a-121) m false)) (i:=i) om,hg2]
       rw[if_neg hno]
   rw[zm]at hnx
   refine zU (congrArg (fun(xq:List Value)=>(([(sb,.cells #[.int .i64 121,iN n,.slice (Own.a o) ((frL fr).length) (Own.c o)] 63 (0,0))]++(Own.o 3 xq on++(Own.o 3 (nv (rl5 a m)) os++(Own.o 3 (nv (frL fr)) o++[])))):LO)) (show _=(nv (frL ((fill fr (a-121) m false).take (i+1))))from by rw[hnx])) ?_
   refine zN 14 (congrArg (fun(xq:Nat)=>(.slice (Own.a on) xq (Own.c on):Value)) (show((frL ((fill fr (a-121) m false).take i)).length)=((frL ((fill fr (a-121) m false).take (i+1))).length)from by rw[hnx])) ?_
   refine zG rfl (i+1,on) ⟨by omega,by rw[hnx];exact hon⟩ (by show n-(i+1)<n-i;omega) (Conv.mk kr) slr
  have c11k:(!((fr.getD i false)==(decide (a≤121+i∧121+i<a+j8))))=false:=(by simpa using c11)
  have c11q:((!((fr.getD i false)==(decide (a≤121+i∧121+i<a+j8))))=false):=c11k
  refine qw 113 (b:=(!((fr.getD i false)==(decide (a≤121+i∧121+i<a+j8))))) kr false c11k ?_
  refine Lp 7 [(2,false,none),(2,false,none),(2,false,none),(2,false,none),(2,false,none),(2,false,none)] (some [0,2,7,14,15,16,120]) (fun _=>[((.bool false:Value)≠.bool true),((.bool false:Value)≠.bool true),((.bool false:Value)≠.bool true),((.bool false:Value)≠.bool true),((undef:Value)≠.bool false),((.bool false:Value)≠.bool true)]) ⟨(by simp),(by simp),(by simp),(by simp),(by simp[undef]),(by simp),trivial⟩ ?_
  refine zg rfl ?_
  refine yb rfl (b:=false) kr rfl ?_
  refine Rg [0,2,7,14,15] [] (fun _=>[(i6 ((i:Int)+1))]) ⟨om,trivial⟩ ?_
  have hno:¬(if a-121≤i∧i<a-121+m then false else fr.getD i false)=true:=by
      split
      ·decide
      ·have h3:decide (a≤121+i∧121+i<a+j8)=false:=decide_eq_false om
       have h4:=c11k
       rw[h3]at h4
       intro h5
       rw[h5]at h4
       simp at h4
  have hnx:(frL ((fill fr (a-121) m false).take (i+1)))=(frL ((fill fr (a-121) m false).take i))++[]:=by
      rw[frL_next (fr:=(fill fr (a-121) m false)) (i:=i) om,hg2]
      rw[if_neg hno]
  rw[zm]at hnx
  refine zU (congrArg (fun(xq:List Value)=>(([(sb,.cells #[.int .i64 121,iN n,.slice (Own.a o) ((frL fr).length) (Own.c o)] 63 (0,0))]++(Own.o 3 xq on++(Own.o 3 (nv (rl5 a m)) os++(Own.o 3 (nv (frL fr)) o++[])))):LO)) (show _=(nv (frL ((fill fr (a-121) m false).take (i+1))))from by rw[hnx])) ?_
  refine zN 14 (congrArg (fun(xq:Nat)=>(.slice (Own.a on) xq (Own.c on):Value)) (show((frL ((fill fr (a-121) m false).take i)).length)=((frL ((fill fr (a-121) m false).take (i+1))).length)from by rw[hnx])) ?_
  refine zG rfl (i+1,on) ⟨by omega,by rw[hnx];exact hon⟩ (by show n-(i+1)<n-i;omega) (Conv.mk kr) slr
 refine Bq 4 [126,128] ?_
 refine Lu (zS (b:=sb) (off:=2) (v:=sO on ((frL ((fill fr (a-121) m false).take i)).length)) rfl kr kr rfl kr 0 (cs:=#[.int .i64 121,iN n,sO o ((frL fr).length)]) (e:=63) kr (by simp)) ?_
 refine zg rfl ?_
 refine Cg (Γ':=[]) ?_
 refine Rq [6] ?_
 refine Rt [.int .i64 0] (fun w1 hp=>?_)
 have hie:i=n:=by omega
 have htk:(fill fr (a-121) m false).take i=(fill fr (a-121) m false):=yB om
 have h8:HP w ((spD sb n o (frL fr)).map (·.1)) [(r0,.cells #[.int .i64 (a:Int),.int .i64 (m:Int)] 137 (0,0))] ((sb,.cells #[.int .i64 121,.int .i64 (n:Int),.slice (Own.a on) (frL ((fill fr (a-121) m false).take i)).length (Own.c on)] 63 (0,0))::Own.o 3 (nv (frL ((fill fr (a-121) m false).take i))) on) w1:=hp.sub (.cons_cons _ (qv _ _))
 rw[htk]at hon h8
 exact⟨on,hon,rfl,_,h8⟩
end
section
open K
theorem take_none5 {fr:List Bool} {n:Nat} (hn:0<n) (h:∀j,j<(rnF (frL fr)).length→((rnF (frL fr)).getD j (0,0)).2<n):yr 121 fr (n:Int)=(0,14,fr):=by
 refine takeF_none om fun y hy=>?_
 obtain⟨j,hj,e⟩:=qO.1 hy
 have h1:=h j (by rw[rn_runs,zA];exact hj)
 rw[rn_runs,zc,qa,zd hj,e]at h1
 have h1:y.2<n:=h1
 unfold tkP
 rw[decide_eq_false om];rfl
theorem take_hit5 {fr:List Bool} {n i:Nat} (hn:0<n) (hi:i<(rnF (frL fr)).length) (h:∀j,j<i→((rnF (frL fr)).getD j (0,0)).2<n) (hh:n≤((rnF (frL fr)).getD i (0,0)).2) :
  ∃k,((rnF (frL fr)).getD i (0,0)).1=121+k∧yr 121 fr (n:Int)=(((121+k:Nat):Int),0,fill fr k n false)∧k+n≤fr.length∧∀j,k≤j→j<k+n→fr.getD j false=true:=by
 have hl:i<(yW fr 0).length:=by rw[rn_runs,zA]at hi;exact hi
 have hat:∀j,j<(yW fr 0).length→(rnF (frL fr)).getD j (0,0)=(121+((yW fr 0).getD j (0,0)).1,((yW fr 0).getD j (0,0)).2):=fun j hj=>by
  rw[rn_runs,zc,qa,zd hj,zc,zd hj];rfl
 rw[hat i hl]at hh ⊢
 obtain⟨r,hr⟩:∃r,r=(yW fr 0).getD i (0,0):=⟨_,rfl⟩
 have hg:(yW fr 0)[i]=r:=by rw[hr,zc,zd hl];rfl
 rw[←hr]at hh ⊢
 have hs:yW fr 0=(yW fr 0).take i++r::(yW fr 0).drop (i+1):=by rw[←hg,←yn hl,yz]
 obtain⟨t1,t2,t3,t4,_⟩:=take_ok (f:=121) hn hs (fun y hy=>by
  obtain⟨j,hj,e⟩:=qO.1 hy
  have hj2:j<i:=by rw[z8]at hj;omega
  have h1:=h j hj2
  rw[hat j om,zc,zd om]at h1
  rw[List.getElem_take]at e
  simp only[Option.getD_some]at h1
  rw[e]at h1
  unfold tkP
  rw[decide_eq_false om];rfl) (by unfold tkP;rw[decide_eq_true (by simp only at hh;omega)];rfl)
 simp only at hh
 exact⟨r.1,rfl,by rw[t1];congr 1,by omega,fun j h5 h6=>t4 j h5 om⟩
theorem r5Take (sb n:Nat) (o:K.Own) (fr:List Bool) (m:Nat) (w:World) (hA:Has w (spD sb n o (frL fr))) (hd:((spD sb n o (frL fr)).map (·.1)).Nodup) (ho:OwnOk o 1 (frL fr).length (nv (frL fr))) (hn:fr.length=n∧n≤400) (hm:0<m∧m≤100000) :
  Calls Tryz.prog 50 #[.pointer (some ⟨sb,0,none⟩),.int .i64 (m:Int)] w fun e w'=>∃o2:K.Own,True∧e=.returned (.tuple #[.int .i64 (yr 121 fr (m:Int)).1,.int .i64 ((yr 121 fr (m:Int)).2.1:Int)])∧∃R1,HP w ((spD sb n o (frL fr)).map (·.1)) R1 (spD sb n o2 (frL (yr 121 fr (m:Int)).2.2)) w':=by
 have hfl:=frL_len fr
 have hrl:(rnF (frL fr)).length≤400:=by have:=rnF_len (frL fr) (frL fr).length;rw[yV]at this;omega
 refine enter ((spD sb n o (frL fr)).map (·.1)) [] ([]++(spD sb n o (frL fr)++[])) Tryz.func50 rfl kr (by rw[yM,zm];exact HP.ofL hA hd (fun e he=>by cases he) (fun e he=>by cases he)) ?_
 refine Rq [0,1] ?_
 refine Rq [0,1,9] ?_
 refine yb rfl (b:=(decide ((m:Int)<(1:Int)))) kr (decide_eq_false om) ?_
 refine Bq 1 [0,1,10] ?_
 refine Le (zY (fun q:K.Own=>.slice (Own.a q) (rnF (frL fr)).length (Own.c q)) [] (fun q=>Own.o 137 (rnv (rnF (frL fr))) q) (fun q=>OwnOk q 2 (rnF (frL fr)).length (rnv (rnF (frL fr)))) [] (spD sb n o (frL fr)++[]) rfl rfl Tryz.func89 rfl rfl kr (fun w1 h _ _=>r5Runs sb n o (frL fr) w1 (fun e he=>h.own e (mR (mL he))) ho om (fun x hx=>by have:=frL_le x hx;omega))) ?_
 rintro ro hro
 refine Ld 2 [0,1,11,12,13] ?_
 refine ye rfl (ι:=Nat) (fun(i:Nat)=>[(13,[],iN i),(12,[],.int .i64 ((rnF (frL fr)).length:Int)),(11,[],sO ro ((rnF (frL fr)).length)),(0,[],pT sb),(1,[],iN m)]) (fun(i:Nat)=>([]++(Own.o 137 (rnv (rnF (frL fr))) ro++(spD sb n o (frL fr)++[])))) (fun(i:Nat)=>(i≤(rnF (frL fr)).length)∧(∀j,j<i→((rnF (frL fr)).getD j (0,0)).2<m)) (fun(i:Nat)=>(rnF (frL fr)).length-i) 0 ?_ (Conv.mk kr) slr ?_
 ·exact⟨zH _,fun j h=>absurd h (qx j)⟩
 rintro i ⟨hi,hlo⟩
 refine Rq [0,1,11,12,13,14] ?_
 refine eC rfl (p:=((i:Int)<((rnF (frL fr)).length:Int))) kr (fun c2=>?_) (fun c2=>?_)
 ·obtain⟨qb,qcs,hba,hbm,hbc⟩:=own_adr 137 hro om
  obtain⟨r,hr⟩:∃r,r=(rnF (frL fr)).getD i (0,0):=⟨_,rfl⟩
  refine zN 11 (show .slice (Own.a ro) ((rnF (frL fr)).length) (Own.c ro)=.slice (some ⟨qb,0,none⟩) (rnF (frL fr)).length (Own.c ro)from by rw[hba]) ?_
  refine Bp 2 [dZ,(dS (.agg #[iN r.1,iN r.2]))] (some [0,1,11,12,13,16]) (fun S=>[(iL (i:Int) ((rnF (frL fr)).length:Int)),(lV S 137 qb (i*2) (.agg #[iN r.1,iN r.2]))]) ⟨om,(fun w1 h=>yw (vs:=[iN r.1,iN r.2]) Tryz.underlying137 rfl kr rfl (fun q9 v hq9=>(zI (h.own (cl qb qcs 137) (mR (mL hbm)))).trans (by match q9,hq9 with|0,hq9=>exact hbc _ _ ((rnv_get om).1.trans (by rw[←hr];exact hq9))|1,hq9=>exact hbc _ _ ((rnv_get om).2.trans (by rw[←hr];exact hq9))))),trivial⟩ ?_
  refine Le (zM (z:=(.agg #[.int .i64 0,.int .i64 0])) rfl kr) ?_
  rintro rc ⟨hrc,nrc⟩
  refine Lu (zC (b:=rc) (off:=0) (vs:=#[iN r.1,iN r.2]) (n:=2) rfl kr kr kr rfl (two_one rfl rfl) 0 (cs:=#[.int .i64 0,.int .i64 0]) (e:=137) kr (zD 2)) ?_
  refine yF (congrArg (fun(xq:Array Value)=>(([cl rc xq 137]++(Own.o 137 (rnv (rnF (frL fr))) ro++(spD sb n o (frL fr)++[]))):LO)) (show _ = #[iN r.1,iN r.2]from rfl)) ?_
  refine zg rfl ?_
  refine Cg (Γ':=[(7,[],pT rc),(13,[],iN i),(12,[],.int .i64 ((rnF (frL fr)).length:Int)),(11,[],sP qb 0 (rnF (frL fr)).length (Own.c ro)),(0,[],pT sb),(1,[],iN m)]) ?_
  refine Rg [0,1,7,11,12,13,20] [dZ,(dS (iN r.2))] (fun S=>[(cE S rc 1 (iN r.2))]) ⟨(oC 0 rfl rfl),trivial⟩ ?_
  refine eC rfl (p:=((r.2:Int)≥(m:Int))) kr (fun c3=>?_) (fun c3=>?_)
  ·obtain⟨k,hk1,hk2,hk3,hk4⟩:=take_hit5 (fr:=fr) (n:=m) (i:=i) hm.1 om hlo (by rw[←hr];omega)
   rw[←hr]at hk1
   refine yo rfl kr [cl rc #[iN r.1,iN r.2] 137] ?_
   refine Ap [0,1,2,3,4,5,6] [dZ,(dS (iN r.1)),dZ,dZ,(dS (iN r.1)),dZ,(dS (.agg #[iN r.1,iN m]))] (some [22,23,27]) (tF 7 4) (cO nL) 4 (fun S=>[(cE S rc 0 (iN r.1)),(cE S rc 0 (iN r.1)),(∀w1,S w1→(Instr.build 137 #[(0,iN r.1),(1,iN m)]).run Tryz.prog w1=.ok (.agg #[iN r.1,iN m]) w1)]) ⟨(oC 0 rfl rfl),(oC 0 rfl rfl),(fun _ _=>kr),trivial⟩ ?_
   refine Ae 7 rfl 3  (yR (vs:=#[iN r.1,iN m]) (n:=2) rfl kr Tryz.underlying138 kr (z:=(.agg #[.int .i64 0,.int .i64 0])) kr rfl (by decide) (by decide)) (fun _ _=>(.cons _ (cO nL))) ?_
   rintro tb ⟨htb,ntb⟩
   refine Ae 8 rfl 2  (zY (vs:=[pT sb,.slice (some ⟨tb,0,none⟩) 1 1,.bool false]) (fun _:K.Own=>.int .i64 0) (spD sb n o (frL fr)) (fun o2=>spD sb n o2 (frL (fill fr (r.1-121) m false))) (fun _=>True) ([(tb,.cells #[iN r.1,iN m] 137 (0,0)),(rc,.cells #[iN r.1,iN r.2] 137 (0,0))]++(Own.o 137 (rnv (rnF (frL fr))) ro)) [] rfl rfl Tryz.func56 rfl rfl kr (fun w1 h hA1 hd1=>(r5Turn sb n tb o fr r.1 m w1 hA1 hd1 (h.has (fun e he=>by rw[zi.1 he];exact mH)) (by intro e he;rw[zi.1 he];exact HP.sep (Fl:=([(tb,Obj.cells #[iN r.1,iN m] 137 (0,0)),(rc,Obj.cells #[iN r.1,iN r.2] 137 (0,0))]++(Own.o 137 (rnv (rnF (frL fr))) ro))) (Al:=spD sb n o (frL fr)) (T:=[]) h (mL mH)) ho hn hm.1 om (fun j h5 h6=>hk4 j om om)).mono fun _ _ ⟨q,_,a2,a3⟩=>⟨q,trivial,a2,a3⟩)) (fun _ _=>(.cons _ (.cons_cons _ (zz _)))) ?_
   rintro o2 -
   refine Ap [9,10] [] (some [4,5]) (tF 11 0) (.cons _ (cO nL)) 0 n0 trivial ?_
   refine z6 kr ?_
   refine yD rfl (rs:=[.tmp 4,.tmp 5]) rfl [iN r.1,.int .i64 0] ⟨kr,by kernel_rfl,trivial⟩ (fun w1 hp=>?_)
   rw[hk2]
   have hrk:r.1-121=k:=by omega
   have h9:HP w ((spD sb n o (frL fr)).map (·.1)) [] (spD sb n o2 (frL (fill fr (r.1-121) m false))++[]) w1:=hp.sub (.cons _ (.cons _ (zj _ _)))
   rw[zm,hrk]at h9
   exact⟨o2,trivial,by rw[hk1];rfl,_,h9⟩
  refine Rg [0,1,11,12,13] [] (fun _=>[(i6 ((i:Int)+1))]) ⟨om,trivial⟩ ?_
  refine zN 11 (show .slice (some ⟨qb,0,none⟩) (rnF (frL fr)).length (Own.c ro)=.slice (Own.a ro) ((rnF (frL fr)).length) (Own.c ro)from by rw[hba]) ?_
  refine zG rfl (i+1) ⟨by omega,fun j hj=>by rcases qy j i with h|h;exact hlo j h;rw[show j=i by omega,←hr];omega⟩ (by show(rnF (frL fr)).length-(i+1)<(rnF (frL fr)).length-i;omega) (Conv.mk kr) (.cons _ slr)
 refine Rq [4,5] ?_
 refine yD rfl (rs:=[.tmp 4,.tmp 5]) rfl [.int .i64 0,.int .i64 14] ⟨kr,by kernel_rfl,trivial⟩ (fun w1 hp=>?_)
 have htk:=take_none5 (fr:=fr) hm.1 (fun j hj=>hlo j om)
 rw[htk]
 have h9:HP w ((spD sb n o (frL fr)).map (·.1)) [] (spD sb n o (frL fr)++[]) w1:=hp.sub (zj _ _)
 rw[zm]at h9
 exact⟨o,trivial,rfl,_,h9⟩
end
section
open K
def flC (f:RF):List Value:=[.string f.nm,.string f.da,.int .i64 (f.at_:Int)]
def flv (L:List RF):List Value:=L.flatMap flC
theorem flC_len (f:RF):(flC f).length=3:=rfl
theorem flv_len (L:List RF):(flv L).length=L.length*3:=flat_len (fun x _=>rfl)
theorem flC_all (f:RF):∀v∈(flC f).toArray.toList,K.one v=true:=by
 intro v h
 have h2:v∈flC f:=h
 simp only[flC,List.mem_cons,List.not_mem_nil,or_false]at h2
 rcases h2 with rfl|rfl|rfl <;> rfl
theorem str_eqb (a b:ByteArray):(a.toList==b.toList)=decide (a=b):=by
 rw[Go.ByteArray.toList_eq,Go.ByteArray.toList_eq,Bool.eq_iff_iff,beq_iff_eq,decide_eq_true_iff]
 constructor
 ·intro h
  cases a with
  | mk x=>cases b with
   | mk y=>
    have h:x.toList=y.toList:=h
    rw[Array.toList_inj.1 h]
 intro h;rw[h]
theorem fnd_hit {nm:ByteArray} {L:List RF} {i:Nat} (h:i<L.length) (hp:(L.getD i rfz).nm=nm):fnd nm (L.drop i) i=(i:Int):=by
 rw[yn h,fnd]
 rw[zc,zd h]at hp
 exact if_pos hp
theorem fnd_go {nm:ByteArray} {L:List RF} {i:Nat} (h:i<L.length) (hp:¬(L.getD i rfz).nm=nm):fnd nm (L.drop i) i=fnd nm (L.drop (i+1)) (i+1):=by
 rw[yn h,fnd]
 rw[zc,zd h]at hp
 exact if_neg hp
def blkF (s:ByteArray):List UInt8:=s.data.toList.take 512++replicate (512-(s.data.toList.take 512).length) 0
theorem blk_row (s:ByteArray):blkF s=rowK (s.data.toList.take 512) (s.data.toList.take 512).length:=by unfold blkF rowK;rw[yV]
theorem blkF_len (s:ByteArray):(blkF s).length=512:=by unfold blkF;rw[zh,zk,z8];omega
theorem sbyte_take (s:ByteArray) {i:Nat} (h:i<(s.data.toList.take 512).length):sbyte s (i:Int)=(((s.data.toList.take 512).getD i 0).toNat:Int):=by
 rw[z8]at h
 have h2:=ba_len s
 rw[←tx_self s,sbyte_gb,tx_self]
 unfold gb
 rw[zc,zc,List.getElem?_take,if_pos om]
theorem run_mkPl (w:World):(Instr.makeSlice 51 (.int .i64 144) (.int .i64 144)).run Tryz.prog w=.ok (.slice (some ⟨w.heap.size,0,none⟩) 144 144) (w.alloc (.cells (flv (replicate 144 rfz)).toArray 126 (0,0))):=by kernel_rfl
def fsO (qb N:Nat) (o:K.Own) (L:List RF):List (Nat×Obj):=(qb,.cells #[.slice (Own.a o) 144 (Own.c o),.int .i64 (N:Int)] 58 (0,0))::Own.o 126 (flv L) o
theorem rNamed6 (s:ByteArray) (w:World) (hs:s.size≤maxLen) :
  Calls Tryz.prog 48 #[.string s] w fun e w'=>e=.returned (.bool (namB s))∧Ext [] w w':=by
 unfold maxLen at hs
 refine enter [] [] [] Tryz.func48 rfl kr (yy w) ?_
 refine Rq [0] ?_
 refine Rq [0,11] ?_
 refine zX rfl (b:=((decide ((s.size:Int)<(1:Int))) || (decide ((s.size:Int)>(72:Int))))) kr (fun c1r=>?_) (fun c1r=>?_)
 ·have c1:(((s.size:Int)<(1:Int))∨((s.size:Int)>(72:Int))):=((orT c1r).elim (fun h=>Or.inl (dT h)) (fun h=>Or.inr (dT h)))
  refine Rq [2] ?_
  refine Rt [.bool false] (fun w1 hp=>?_)
  exact⟨by rw[show namB s=false by unfold namB;rw[decide_eq_false om,Bool.false_and]];rfl,hp.ext⟩
 have c1:((¬((s.size:Int)<(1:Int)))∧(¬((s.size:Int)>(72:Int)))):=⟨(dF (orF1 c1r)),(dF (orF2 c1r))⟩
 refine Rq [0,3] ?_
 refine ye rfl (ι:=Nat) (fun(k:Nat)=>[(3,[],iN k),(0,[],.string s)]) (fun(k:Nat)=>[]) (fun(k:Nat)=>(k≤s.size)∧(∀j,j<k→okNm s j=true)) (fun(k:Nat)=>s.size-k) 0 ?_ (Conv.mk kr) .slnil ?_
 ·exact⟨zH _,fun j h=>absurd h (qx j)⟩
 rintro k ⟨hk,hall⟩
 refine Rq [0,3,15] ?_
 refine eC rfl (p:=((k:Int)<(s.size:Int))) kr (fun c2=>?_) (fun c2=>?_)
 ·refine Rg [0,3,27] [] (fun _=>[(iL (k:Int) (s.size:Int)),((.bool (decide ((sbyte s (k:Int))<(33:Int))):Value)=.bool false→(iL (k:Int) (s.size:Int)))]) ⟨om,(fun g0=>have q0:(¬((sbyte s (k:Int))<(33:Int))):=(dF (boolV g0));om),trivial⟩ ?_
  refine zX rfl (b:=((decide ((sbyte s (k:Int))<(33:Int))) || (decide ((sbyte s (k:Int))>(126:Int))))) kr (fun c3r=>?_) (fun c3r=>?_)
  ·have c3:(((sbyte s (k:Int))<(33:Int))∨((sbyte s (k:Int))>(126:Int))):=((orT c3r).elim (fun h=>Or.inl (dT h)) (fun h=>Or.inr (dT h)))
   refine Rq [2] ?_
   refine Rt [.bool false] (fun w1 hp=>?_)
   have hok:okNm s k=false:=decide_eq_false om
   exact⟨by rw[show namB s=false by unfold namB;rw[nall_no om hok,Bool.and_false]];rfl,hp.ext⟩
  have c3:((¬((sbyte s (k:Int))<(33:Int)))∧(¬((sbyte s (k:Int))>(126:Int)))):=⟨(dF (orF1 c3r)),(dF (orF2 c3r))⟩
  refine Cfg.reg rfl [0,3] [] (Γ':=[(3,[],.int .i64 ((k:Int)+1)),(0,[],.string s)]) (nd:=(fun _=>[(i6 ((k:Int)+1))])) (fun _=>kr) ⟨om,trivial⟩ ?_
  have hok:okNm s k=true:=decide_eq_true om
  refine zG rfl (k+1) ⟨by omega,nup hall hok⟩ (by show s.size-(k+1)<s.size-k;omega) (Conv.mk kr) .slnil
 refine Rq [2] ?_
 refine Rt [.bool true] (fun w1 hp=>?_)
 exact⟨by rw[show namB s=true by rw[show k=s.size by omega]at hall;unfold namB;rw[decide_eq_true om,nall_yes hall];rfl];rfl,hp.ext⟩
theorem r6Find (la:Option Addr) (cap:Nat) (L:List RF) (Rl:List (Nat×Obj)) (nm:ByteArray) (w:World) (hI:InF flC 3 Rl la L) (hR:Has w Rl) (hll:L.length≤1000) :
  Calls Tryz.prog 49 #[.slice la L.length cap,.string nm] w fun e w'=>e=.returned (.int .i64 (fnd nm L 0))∧Ext [] w w':=by
 refine enter [] Rl [] Tryz.func49 rfl kr (yj hR) ?_
 refine Rq [0,1] ?_
 refine Rq [1,7,8,9] ?_
 refine ye rfl (ι:=Nat) (fun(i:Nat)=>[(9,[],iN i),(8,[],iN L.length),(7,[],.slice la L.length cap),(1,[],.string nm)]) (fun(i:Nat)=>[]) (fun(i:Nat)=>(i≤L.length)∧(fnd nm L 0=fnd nm (L.drop i) i)) (fun(i:Nat)=>L.length-i) 0 ?_ (Conv.mk kr) .slnil ?_
 ·exact⟨zH _,rfl⟩
 rintro i ⟨hi,hfn⟩
 refine Rq [1,7,8,9,10] ?_
 refine eC rfl (p:=((i:Int)<(L.length:Int))) kr (fun c1=>?_) (fun c1=>?_)
 ·obtain⟨sa,off,cs,te,fre,hsb,hmem,hcs⟩:=hI om
  obtain⟨f,hfe⟩:∃f,f=L.getD i rfz:=⟨_,rfl⟩
  refine zN 7 (show .slice la L.length cap=.slice (some ⟨sa,off,none⟩) L.length cap from by rw[hsb]) ?_
  refine Bp 3 [dZ,dZ,(dS (.agg (flC f).toArray))] (some [1,7,8,9,11,13]) (fun S=>[(0≤(i:Int)∧(i:Int)<(L.length:Int)),(∀w1,S w1→(loadVar 126 ⟨sa,(addO off (i*3)),none⟩).run Tryz.prog w1=.ok (.agg (flC f).toArray) w1)]) ⟨om,(fun w1 h=>yw (vs:=flC f) Tryz.underlying126 rfl kr (flC_len _) (fun j v hj=>by rw[y4];exact(zI (h.ro _ hmem)).trans (fl_cell rfz (fun x _=>flC_len x) hcs om (by rw[←hfe];exact hj)))),trivial⟩ ?_
  refine Le (zM (z:=(.agg (flC rfz).toArray)) rfl kr) ?_
  rintro fb ⟨hfb,nfb⟩
  refine Lq 1 [1,5,6,7,8,9,13] ?_
  refine Lu (zC (b:=fb) (off:=0) (vs:=(flC f).toArray) (n:=3) rfl kr kr kr rfl (flC_all _) 0 (cs:=(flC rfz).toArray) (e:=126) kr (zD 3)) ?_
  refine oL 0 rfl (show _=((flC f).toArray) from(show spl (flC rfz).toArray 0 (flC f).toArray.toList=(flC f).toArray from yx rfl)) ?_
  refine zg rfl ?_
  refine Cg (Γ':=[(5,[],iN i),(6,[],pT fb),(9,[],iN i),(8,[],iN L.length),(7,[],sP sa off L.length cap),(1,[],.string nm)]) ?_
  refine Rg [1,5,7,8,9,17] [dZ,(dS (.string f.nm))] (fun S=>[(cE S fb 0 (.string f.nm))]) ⟨(oC 0 rfl rfl),trivial⟩ ?_
  refine zX rfl (b:=(f.nm.toList==nm.toList)) kr (fun c2r=>?_) (fun c2r=>?_)
  ·have c2:((f.nm.toList==nm.toList)=true):=c2r
   refine Rq [4] ?_
   refine Rt [iN i] (fun w1 hp=>?_)
   have hye:f.nm=nm:=by simpa [str_eqb] using c2
   rw[hfn,fnd_hit om (by rw[←hfe];exact hye)]
   exact⟨rfl,hp.ext⟩
  have c2:((f.nm.toList==nm.toList)=false):=c2r
  refine Rg [1,7,8,9] [] (fun _=>[(i6 ((i:Int)+1))]) ⟨om,trivial⟩ ?_
  have hne:¬f.nm=nm:=by simpa [str_eqb] using c2
  refine zN 7 (show .slice (some ⟨sa,off,none⟩) L.length cap=.slice la L.length cap from by rw[hsb]) ?_
  refine zG rfl (i+1) ⟨by omega,hfn.trans (fnd_go om (by rw[←hfe];exact hne))⟩ (by show L.length-(i+1)<L.length-i;omega) (Conv.mk kr) (.cons _ .slnil)
 refine Rq [4] ?_
 refine Rt [.int .i64 (-1)] (fun w1 hp=>?_)
 rw[hfn,show L.drop i=[]from qe om]
 exact⟨rfl,hp.ext⟩
theorem r6Need (f:RF) (w:World) (hs:f.da.size≤32768) :
  Calls Tryz.prog 51 #[.agg (flC f).toArray] w fun e w'=>e=.returned (.int .i64 (secs f.da.size:Int))∧Ext [] w w':=by
 have hse:secs f.da.size=(f.da.size+511) / 512:=rfl
 refine enter [] [] [] Tryz.func51 rfl kr (yy w) ?_
 refine Be rfl rfl (y7 (v:=.agg (flC f).toArray) rfl kr) ?_
 rintro fb ⟨hfb,nfb⟩
 refine Ld 1 [1] ?_
 refine Rq [1,3] ?_
 refine ye rfl (ι:=Nat) (fun(i:Nat)=>[(3,[],iN i),(1,[],pT fb)]) (fun(i:Nat)=>[cl fb ((flC f).toArray) 126]) (fun(i:Nat)=>(i≤secs f.da.size)) (fun(i:Nat)=>secs f.da.size-i) 0 ?_ (Conv.mk kr) (cO .slnil) ?_
 ·exact zH _
 rintro i hi
 refine Rg [1,3,9] [dZ,dZ,dZ,(dS (.string f.da))] (fun S=>[(i6 ((i:Int)*512)),(cE S fb 1 (.string f.da))]) ⟨om,(oC 0 rfl rfl),trivial⟩ ?_
 refine eC rfl (p:=(((i:Int)*512)<(f.da.size:Int))) kr (fun c1=>?_) (fun c1=>?_)
 ·refine Rg [1,3] [] (fun _=>[(i6 ((i:Int)+1))]) ⟨om,trivial⟩ ?_
  refine zG rfl (i+1) (show i+1≤secs f.da.size by omega) (by show secs f.da.size-(i+1)<secs f.da.size-i;omega) (Conv.mk kr) (cO .slnil)
 refine Rq [2] ?_
 refine Rt [iN i] (fun w1 hp=>?_)
 have hie:i=secs f.da.size:=by omega
 subst hie
 exact⟨rfl,hp.ext⟩
theorem r6Block (s:ByteArray) (w:World) (hs:s.size≤1000000) :
  Calls Tryz.prog 91 #[.string s] w fun e w'=>e=.returned (.agg (bv (blkF s)))∧Ext [] w w':=by
 have hxl:(s.data.toList.take 512).length=min 512 s.size:=by rw[z8,ba_len]
 refine enter [] [] [] Tryz.func91 rfl kr (yy w) ?_
 refine Be rfl rfl (zM (z:=(.agg (bv (replicate 512 0)))) rfl kr) ?_
 rintro rs ⟨hrs,nrs⟩
 refine zg rfl ?_
 refine Be rfl rfl (zM (z:=(.agg (bv (replicate 512 0)))) rfl kr) ?_
 rintro hb ⟨hhb,nhb⟩
 refine zg rfl ?_
 refine Rq [0,2,3,4] ?_
 refine oB 0 rfl (show _=(bv (rowK (s.data.toList.take 512) 0))from rfl) ?_
 refine ye rfl (ι:=Nat) (fun(k:Nat)=>[(4,[],iN k),(3,[],pT hb),(2,[],pT rs),(0,[],.string s)]) (fun(k:Nat)=>[cl hb (bv (rowK (s.data.toList.take 512) k)) 37,cl rs (bv (replicate 512 0)) 37]) (fun(k:Nat)=>(k≤(s.data.toList.take 512).length)) (fun(k:Nat)=>(s.data.toList.take 512).length-k) 0 ?_ (Conv.mk kr) (cO (cO .slnil)) ?_
 ·exact zH _
 rintro k hk
 refine Rq [0,2,3,4,12] ?_
 refine zX rfl (b:=((decide ((k:Int)<(512:Int)))&&(decide ((k:Int)<(s.size:Int))))) kr (fun c1r=>?_) (fun c1r=>?_)
 ·have c1:(((k:Int)<(512:Int))∧((k:Int)<(s.size:Int))):=⟨(dT (andT1 c1r)),(dT (andT2 c1r))⟩
  refine Bp 5 [] (some [0,2,3,4,18,19]) (fun _=>[(iL (k:Int) (s.size:Int)),(iL (k:Int) 512)]) ⟨om,om,trivial⟩ ?_
  refine Lu (zS (b:=hb) (off:=k) (v:=.int .u8 (sbyte s (k:Int))) rfl kr kr rfl kr 0 (cs:=(bv (rowK (s.data.toList.take 512) k))) (e:=37) kr (by rw[zP,rowK_len om om];omega)) ?_
  refine zg rfl ?_
  refine Cg (Γ':=[(4,[],iN k),(3,[],pT hb),(2,[],pT rs),(0,[],.string s)]) ?_
  refine Rg [0,2,3,4] [] (fun _=>[(i6 ((k:Int)+1))]) ⟨om,trivial⟩ ?_
  refine oB 0 rfl (show _=(bv (rowK (s.data.toList.take 512) (k+1)))from by rw[sbyte_take s om];exact rowK_set om om) ?_
  refine zG rfl (k+1) (show k+1≤(s.data.toList.take 512).length by omega) (by show(s.data.toList.take 512).length-(k+1)<(s.data.toList.take 512).length-k;omega) (Conv.mk kr) (cO (cO .slnil))
 have c1:((¬((k:Int)<(512:Int)))∨(¬((k:Int)<(s.size:Int)))):=((andF c1r).elim (fun h=>Or.inl (dF h)) (fun h=>Or.inr (dF h)))
 have hke:k=(s.data.toList.take 512).length:=by omega
 refine oB 0 rfl (show _=(bv (blkF s))from by rw[hke,←blk_row]) ?_
 refine Bp 1 [(dS (.agg (bv (blkF s))))] (some [2,20]) (fun S=>[(lV S 37 hb 0 (.agg (bv (blkF s))))]) ⟨(fun w1 h=>h.oload 0 rfl Tryz.underlying37 rfl (n:=512) kr ((zP _).trans (blkF_len s))),trivial⟩ ?_
 refine Lu (zC (b:=rs) (off:=0) (vs:=(bv (blkF s))) (n:=512) rfl kr kr kr ((zP _).trans (blkF_len s)) (qF _) 1 (cs:=(bv (replicate 512 0))) (e:=37) kr (by rw[zsz512];omega)) ?_
 refine oL 1 rfl (show _=(bv (blkF s))from yx (((zP _).trans (blkF_len s)).trans zsz512.symm)) ?_
 refine zg rfl ?_
 refine Cg (Γ':=[(2,[],pT rs)]) ?_
 refine yD rfl (rs:=[.cell 2 37]) rfl [.agg (bv (blkF s))] ⟨⟨_,by kernel_rfl,(fun w1 h=>h.oload 1 rfl Tryz.underlying37 rfl (n:=512) kr ((zP _).trans (blkF_len s)))⟩,trivial⟩ (fun w1 hp=>?_)
 exact⟨rfl,hp.ext⟩
theorem r6New (N:Nat) (w:World) (hN:121<N∧N≤400) :
  Calls Tryz.prog 16 #[.int .i64 (N:Int)] w fun e w'=>∃q:Nat×K.Own,OwnOk q.2 3 144 (flv (replicate 144 rfz))∧e=.returned (.pointer (some ⟨q.1,0,none⟩))∧∃R1,HP w [] R1 (fsO q.1 N q.2 (replicate 144 rfz)) w':=by
 refine enter [] [] [] Tryz.func16 rfl kr (yy w) ?_
 refine Rq [0] ?_
 refine Be rfl rfl (Eff.makeRow (e:=126) (n:=144) (cells:=(flv (replicate 144 rfz)).toArray) (v1:=.int .i64 144) (v2:=.int .i64 144) rfl kr kr (fun w1=>run_mkPl w1)) ?_
 rintro mb ⟨hmb,nmb⟩
 refine Lp 2 [dZ,(dS (.agg #[sP mb 0 144 144,iN N]))] (some [5]) (fun S=>[(∀w1,S w1→(Instr.build 58 #[(0,sP mb 0 144 144),(1,iN N)]).run Tryz.prog w1=.ok (.agg #[sP mb 0 144 144,iN N]) w1)]) ⟨(fun _ _=>kr),trivial⟩ ?_
 refine Le (y7 (v:=.agg #[sP mb 0 144 144,iN N]) rfl kr) ?_
 rintro qb ⟨hqb,nqb⟩
 refine Ld 1 [2] ?_
 refine Rt [pT qb] (fun w1 hp=>?_)
 have hfl:=flv_len (replicate 144 rfz)
 rw[zk]at hfl
 exact⟨(qb,some (mb,144,[])),⟨hfl,(fun h=>by cases h),fun x hx=>by cases hx;exact⟨rfl,zD _⟩⟩,rfl,[],by show HP w [] [] ((qb,_)::[(mb,Obj.cells (flv (replicate 144 rfz)++[]).toArray 126 (0,0))]) w1;rw[zm];exact hp⟩
end
section
open K
structure FL (N:Nat) (L:List RF):Prop where
 l:L.length=144
 lay:Lay N (L.map yh)
 z:∀i,(L.getD i rfz).nm.size=0→L.getD i rfz=rfz
 s:∀i,(L.getD i rfz).da.size≤32768
 n:∀i,(L.getD i rfz).nm.size≤72
theorem Rel.fl {N:Nat} {T:Tb} {L:List RF} (h:Rel N T L):FL N L:=by
 refine⟨h.l,by rw[←h.ps];exact h.lay,h.z,fun i=>?_,fun i=>?_⟩
 ·rcases Nat.eq_zero_or_pos (L.getD i rfz).nm.size with h0|h0
  ·rw[h.z i h0];decide
  exact(h.n i h0).2.1
 rcases Nat.eq_zero_or_pos (L.getD i rfz).nm.size with h0|h0
 ·omega
 exact namB_le (h.n i h0).1
theorem FL.clear {N:Nat} {L:List RF} (h:FL N L) {k:Nat} (hk:k<144):FL N (L.set k rfz):=by
 have hl:k<L.length:=by rw[h.l];exact hk
 refine⟨by rw[yc];exact h.l,?_,fun i=>?_,fun i=>?_,fun i=>?_⟩
 ·rw[map_set];exact h.lay.set0 (by rw[zA];exact hl) rfl
 ·rw[setR_at hl]
  split
  ·exact fun _=>rfl
  exact h.z i
 ·rw[setR_at hl]
  split
  ·decide
  exact h.s i
 rw[setR_at hl]
 split
 ·decide
 exact h.n i
theorem up_frC {N:Nat} (L:List RF) (h:121<N):up (N-121)=frL (frC N (upto 0 (L.map yh))):=by
 rw[(lay_none N (ps:=upto 0 (L.map yh)) (fun i=>by rw[upto_at (zH _),if_neg (qx i)];rfl)).2,frL_all]
theorem sp_step {N j:Nat} {L:List RF} (h:FL N L) (hj:j<144) (hd:0<(L.getD j rfz).da.size):(121≤(L.getD j rfz).at_∧(L.getD j rfz).at_+secs (L.getD j rfz).da.size≤N)∧(∀q,(L.getD j rfz).at_-121≤q→q<(L.getD j rfz).at_-121+secs (L.getD j rfz).da.size→(frC N (upto j (L.map yh))).getD q false=true)∧fill (frC N (upto j (L.map yh))) ((L.getD j rfz).at_-121) (secs (L.getD j rfz).da.size) false=frC N (upto (j+1) (L.map yh)):=by
 have hl:(L.map yh).length=144:=by rw[zA];exact h.l
 have hu:=upto_len (q:=j) (ps:=L.map yh) om
 have hz:((upto j (L.map yh)).getD j plz).sz=0:=by rw[upto_at om,if_neg (Nat.lt_irrefl j)];rfl
 have hat:=map_at L j
 have hlay:Lay N ((upto j (L.map yh)).set j (yh (L.getD j rfz))):=by
  rw[←hat,←upto_next om]
  exact h.lay.upto om
 have hr:=hlay.r j
 rw[set_at om,if_pos rfl]at hr
 have hr:=hr.resolve_left (show ¬(yh (L.getD j rfz)).sz=0 from Nat.pos_iff_ne_zero.1 hd)
 have hs:=secs_pos hd
 have hr:121≤(L.getD j rfz).at_∧(L.getD j rfz).at_+secs (L.getD j rfz).da.size≤N:=hr
 have hf:∀q,(L.getD j rfz).at_-121≤q→q<(L.getD j rfz).at_-121+secs (L.getD j rfz).da.size→(frC N (upto j (L.map yh))).getD q false=true:=fun q h1 h2=>lay_free om hz hlay h1 h2 (Nat.pos_iff_ne_zero.1 hd)
 refine⟨hr,hf,?_⟩
 rw[upto_next om,hat]
 exact(frC_fill (h.lay.upto (q:=j) om) om hz om hf (p:=yh (L.getD j rfz)) (by show(L.getD j rfz).at_=_;omega) rfl hs).1
theorem sp_skip {N j:Nat} {L:List RF} (h:FL N L) (hj:j<144) (hd:¬(0<(L.getD j rfz).nm.size∧0<(L.getD j rfz).da.size)):frC N (upto (j+1) (L.map yh))=frC N (upto j (L.map yh)):=by
 have hl:(L.map yh).length=144:=by rw[zA];exact h.l
 have hu:=upto_len (q:=j) (ps:=L.map yh) om
 rw[upto_next om,map_at]
 refine frC_set0 om (by rw[upto_at om,if_neg (Nat.lt_irrefl j)];rfl) ?_
 show(L.getD j rfz).da.size=0
 rcases Nat.eq_zero_or_pos (L.getD j rfz).nm.size with h0|h0
 ·rw[h.z j h0];rfl
 omega
theorem r6Space (N:Nat) (la:Option Addr) (cap:Nat) (L:List RF) (Rl:List (Nat×Obj)) (w:World) (hI:InF flC 3 Rl la L) (hR:Has w Rl) (hll:L.length≤1000) (hN:121<N∧N≤400) (hL:FL N L) :
  Calls Tryz.prog 23 #[.slice la L.length cap,.int .i64 (N:Int)] w fun e w'=>∃z:Nat×K.Own,OwnOk z.2 1 (frL (frC N (L.map yh))).length (nv (frL (frC N (L.map yh))))∧e=.returned (.pointer (some ⟨z.1,0,none⟩))∧∃R1,HP w [] R1 (spD z.1 (N-121) z.2 (frL (frC N (L.map yh)))) w':=by
 have hl144:=hL.l
 refine enter [] Rl [] Tryz.func23 rfl kr (yj hR) ?_
 refine Rq [0,1] ?_
 refine Bq 1 [0,8] ?_
 refine Le (zY (fun z:Nat×K.Own=>pT z.1) [] (fun z=>spD z.1 (N-121) z.2 (up (N-121))) (fun z=>OwnOk z.2 1 (up (N-121)).length (nv (up (N-121)))) [] [] rfl rfl Tryz.func55 rfl rfl kr (fun w1 h _ _=>r5New N w1 hN)) ?_
 rintro⟨sb,o⟩ ho
 refine Ld 1 [0,5] ?_
 refine Rq [5,10,11,12] ?_
 refine zU (congrArg (fun(xq:List Nat)=>(([]++(spD sb (N-121) o xq++[])):LO)) (show _=(frL (frC N (upto 0 (L.map yh))))from up_frC L hN.1)) ?_
 refine ye rfl (ι:=Nat×K.Own) (fun(j,o)=>[(12,[],iN j),(11,[],iN L.length),(10,[],.slice la L.length cap),(5,[],pT sb)]) (fun(j,o)=>([]++(spD sb (N-121) o (frL (frC N (upto j (L.map yh))))++[]))) (fun(j,o)=>(j≤144)∧(OwnOk o 1 (frL (frC N (upto j (L.map yh)))).length (nv (frL (frC N (upto j (L.map yh))))))) (fun(j,o)=>144-j) (0,o) ?_ (Conv.mk kr) slr ?_
 ·exact⟨zH _,by rw[←up_frC L hN.1];exact ho⟩
 rintro⟨j,o⟩ ⟨hj,ho⟩
 refine Rq [5,10,11,12,13] ?_
 refine eC rfl (p:=((j:Int)<(L.length:Int))) kr (fun c1=>?_) (fun c1=>?_)
 ·obtain⟨sa,off,cs,te,fre,hsb,hmem,hcs⟩:=hI om
  obtain⟨f,hfe⟩:∃f,f=L.getD j rfz:=⟨_,rfl⟩
  refine zN 10 (show .slice la L.length cap=.slice (some ⟨sa,off,none⟩) L.length cap from by rw[hsb]) ?_
  have hfs:=hL.s j
  rw[←hfe]at hfs
  refine Bp 2 [dZ,(dS (.agg (flC f).toArray))] (some [5,10,11,12,15]) (fun S=>[(0≤(j:Int)∧(j:Int)<(L.length:Int)),(∀w1,S w1→(loadVar 126 ⟨sa,(addO off (j*3)),none⟩).run Tryz.prog w1=.ok (.agg (flC f).toArray) w1)]) ⟨om,(fun w1 h=>yw (vs:=flC f) Tryz.underlying126 rfl kr (flC_len _) (fun j v hj=>by rw[y4];exact(zI (h.ro _ hmem)).trans (fl_cell rfz (fun x _=>flC_len x) hcs om (by rw[←hfe];exact hj)))),trivial⟩ ?_
  refine Le (zM (z:=(.agg (flC rfz).toArray)) rfl kr) ?_
  rintro fb ⟨hfb,nfb⟩
  refine Lu (zC (b:=fb) (off:=0) (vs:=(flC f).toArray) (n:=3) rfl kr kr kr rfl (flC_all _) 0 (cs:=(flC rfz).toArray) (e:=126) kr (zD 3)) ?_
  refine yF (congrArg (fun(xq:Array Value)=>(([cl fb xq 126]++(spD sb (N-121) o (frL (frC N (upto j (L.map yh))))++[])):LO)) (show _=((flC f).toArray) from(show spl (flC rfz).toArray 0 (flC f).toArray.toList=(flC f).toArray from yx rfl))) ?_
  refine zg rfl ?_
  refine Cg (Γ':=[(7,[],pT fb),(12,[],iN j),(11,[],iN L.length),(10,[],sP sa off L.length cap),(5,[],pT sb)]) ?_
  refine Rg [5,7,10,11,12,24] [dZ,(dS (.string f.nm)),dZ,dZ,dZ,(dS (.string f.da))] (fun S=>[(cE S fb 0 (.string f.nm)),((.bool (!(f.nm.toList==(⟨#[]⟩:ByteArray).toList)):Value)=.bool true→(cE S fb 1 (.string f.da)))]) ⟨(oC 0 rfl rfl),(fun g0=>have q0:((f.nm.toList==(⟨#[]⟩:ByteArray).toList)=false):=(notT (boolV g0));(oC 0 rfl rfl)),trivial⟩ ?_
  refine zX rfl (b:=((!(f.nm.toList==(⟨#[]⟩:ByteArray).toList))&&(decide ((f.da.size:Int)>(0:Int))))) kr (fun c2r=>?_) (fun c2r=>?_)
  ·have c2:(((f.nm.toList==(⟨#[]⟩:ByteArray).toList)=false)∧((f.da.size:Int)>(0:Int))):=⟨(notT (andT1 c2r)),(dT (andT2 c2r))⟩
   obtain⟨hs1,hs2,hs3⟩:=sp_step hL (j:=j) om (by rw[←hfe];simp at c2;omega)
   rw[←hfe]at hs1 hs2 hs3
   have hfz:0<f.da.size:=by simp at c2;omega
   have hsp:=secs_pos hfz
   have hse:secs f.da.size=(f.da.size+511) / 512:=rfl
   refine yo rfl kr [cl fb ((flC f).toArray) 126] ?_
   refine Ap [0,1,2,3] [dZ,dZ,(dS (iN f.at_)),(dS (.agg (flC f).toArray))] (some [5,10,11,12,25,27,28]) (tF 4 4) (cO nL) 4 (fun S=>[(cE S fb 2 (iN f.at_)),(lV S 126 fb 0 (.agg (flC f).toArray))]) ⟨(oC 0 rfl rfl),(fun w1 h=>h.oload 0 rfl Tryz.underlying126 rfl (n:=3) kr rfl),trivial⟩ ?_
   refine Au 4 rfl 3  (zr (.int .i64 (secs f.da.size:Int)) rfl Tryz.func51 rfl rfl kr (fun w1 _=>r6Need f w1 hfs)) (fun _ _=>(cO nL)) ?_
   refine Ap [5] [(dS (.agg #[iN f.at_,.int .i64 (secs f.da.size:Int)]))] (some [5,10,11,12,25,30]) (tF 6 2) (cO nL) 2 (fun S=>[(∀w1,S w1→(Instr.build 137 #[(0,iN f.at_),(1,iN (secs f.da.size))]).run Tryz.prog w1=.ok (.agg #[iN f.at_,.int .i64 (secs f.da.size:Int)]) w1)]) ⟨(fun _ _=>kr),trivial⟩ ?_
   refine Ae 6 rfl 1  (yR (vs:=#[iN f.at_,.int .i64 (secs f.da.size:Int)]) (n:=2) rfl kr Tryz.underlying138 kr (z:=(.agg #[.int .i64 0,.int .i64 0])) kr rfl (by decide) (by decide)) (fun _ _=>(.cons _ (cO nL))) ?_
   rintro tb ⟨htb,ntb⟩
   refine Ae 7 rfl 0  (zY (fun _:K.Own=>.int .i64 0) (spD sb (N-121) o (frL (frC N (upto j (L.map yh))))) (fun o2=>spD sb (N-121) o2 (frL (fill (frC N (upto j (L.map yh))) (f.at_-121) (secs f.da.size) false))) (fun o2=>OwnOk o2 1 (frL (fill (frC N (upto j (L.map yh))) (f.at_-121) (secs f.da.size) false)).length (nv (frL (fill (frC N (upto j (L.map yh))) (f.at_-121) (secs f.da.size) false)))) [(tb,.cells #[iN f.at_,.int .i64 (secs f.da.size:Int)] 137 (0,0)),(fb,.cells ((flC f).toArray) 126 (0,0))] [] rfl rfl Tryz.func56 rfl rfl kr (fun w1 h hA1 hd1=>r5Turn sb (N-121) tb o (frC N (upto j (L.map yh))) f.at_ (secs f.da.size) w1 hA1 hd1 (h.has (fun e he=>by rw[zi.1 he];exact mH)) (by intro e he;rw[zi.1 he];exact HP.sep (Fl:=[(tb,Obj.cells #[iN f.at_,.int .i64 (secs f.da.size:Int)] 137 (0,0)),(fb,Obj.cells ((flC f).toArray) 126 (0,0))]) (Al:=(spD sb (N-121) o (frL (frC N (upto j (L.map yh)))))) (T:=[]) h mH) ho ⟨frC_len _ _,by omega⟩ hsp ⟨hs1.1,by omega⟩ hs2)) (fun _ _=>(.cons _ (.cons_cons _ (zz _)))) ?_
   rintro o2 ho2
   refine z6 kr ?_
   refine Cg (Γ':=[(12,[],iN j),(11,[],iN L.length),(10,[],sP sa off L.length cap),(5,[],pT sb)]) ?_
   refine Rg [5,10,11,12] [] (fun _=>[(i6 ((j:Int)+1))]) ⟨om,trivial⟩ ?_
   refine zU (congrArg (fun(xq:List Nat)=>(([(tb,.cells #[iN f.at_,.int .i64 (secs f.da.size:Int)] 137 (0,0)),(fb,.cells ((flC f).toArray) 126 (0,0))]++(spD sb (N-121) o2 xq++[])):LO)) (show _=(frL (frC N (upto (j+1) (L.map yh))))from by rw[hs3])) ?_
   refine zN 10 (show .slice (some ⟨sa,off,none⟩) L.length cap=.slice la L.length cap from by rw[hsb]) ?_
   refine zG rfl (j+1,o2) ⟨by omega,by rw[←hs3];exact ho2⟩ (by show 144-(j+1)<144-j;omega) (Conv.mk kr) (.cons _ (.cons _ slr))
  have c2:(((f.nm.toList==(⟨#[]⟩:ByteArray).toList)=true)∨(¬((f.da.size:Int)>(0:Int)))):=((andF c2r).elim (fun h=>Or.inl (notF h)) (fun h=>Or.inr (dF h)))
  refine Rg [5,10,11,12] [] (fun _=>[(i6 ((j:Int)+1))]) ⟨om,trivial⟩ ?_
  have hsk:=sp_skip hL (j:=j) om (by rw[←hfe];rw[nm_empty,decide_eq_true_eq]at c2;omega)
  refine zU (congrArg (fun(xq:List Nat)=>(([(fb,.cells ((flC f).toArray) 126 (0,0))]++(spD sb (N-121) o xq++[])):LO)) (show _=(frL (frC N (upto (j+1) (L.map yh))))from by rw[hsk])) ?_
  refine zN 10 (show .slice (some ⟨sa,off,none⟩) L.length cap=.slice la L.length cap from by rw[hsb]) ?_
  refine zG rfl (j+1,o) ⟨by omega,by rw[hsk];exact ho⟩ (by show 144-(j+1)<144-j;omega) (Conv.mk kr) (.cons _ slr)
 refine Rq [4] ?_
 refine Rt [pT sb] (fun w1 hp=>?_)
 have hje:j=144:=by omega
 have hua:upto j (L.map yh)=L.map yh:=by
  have h1:=upto_all (L.map yh)
  rw[zA,hl144]at h1
  rw[hje];exact h1
 rw[hua]at ho
 have h9:HP w [] Rl ([]++(spD sb (N-121) o (frL (frC N (upto j (L.map yh))))++[])) w1:=hp
 rw[hua,yM,zm]at h9
 exact⟨(sb,o),ho,rfl,_,h9⟩
end
section
open K
theorem ext_list (b:ByteArray) (i j:Nat):(b.extract i j).data.toList=(b.data.toList.take j).drop i:=by
 rw[ByteArray.data_extract,Array.toList_extract,List.extract_eq_take_drop,←List.drop_take]
theorem build_rw6 (n:Int) {t:List UInt8} (ht:t.length=512) (w:World):(Instr.build 132 #[(0,.int .i64 n),(1,.agg (bv t))]).run Tryz.prog w=.ok (.agg (jc (n,t)).toArray) w:=by
 refine run_build w 132 _ _ ?_
 have hz:Tryz.prog.built 132 [(0,.int .i64 n),(1,.agg (bv t))]=Instr.fill ((#[(0,1),(1,512)]:Array (Nat×Nat))[·]?) (jc wz).toArray [(0,.int .i64 n),(1,.agg (bv t))]:=by kernel_rfl
 show Tryz.prog.built 132 [(0,.int .i64 n),(1,.agg (bv t))]=_
 rw[hz]
 have h1:((Value.agg (bv t)).cells).size=512:=by show(bv t).size=512;rw[zP,ht]
 have e0:(Value.int .i64 n).cells.zipIdx.foldl (fun(cs:Array Value) (p:Value×Nat)=>cs.setIfInBounds (0+p.2) p.1) (jc wz).toArray=(jc (n,replicate 512 0)).toArray:=rfl
 have e1:(bv t).zipIdx.foldl (fun(cs:Array Value) (p:Value×Nat)=>cs.setIfInBounds (1+p.2) p.1) (jc (n,replicate 512 0)).toArray=(jc (n,t)).toArray:=by
  rw[←Array.foldl_toList,Array.toList_zipIdx,foldl_spl 1 (bv t).toList 0]
  have:=spl_at (L:=jc (n,replicate 512 0)) (A:=[Value.int .i64 n]) (B:=(bv (replicate 512 0)).toList) (T:=[]) (vs:=(bv t).toList) (off:=1) (by simp[jc]) rfl (by rw[z7,zP,ht];rfl)
  rw[this];simp[jc]
 have e0':(Value.int .i64 n).cells.zipIdx.foldl (fun cs x=>match x with|(c,j)=>cs.setIfInBounds (0+j) c) (jc wz).toArray=(jc (n,replicate 512 0)).toArray:=e0
 have e1':(Value.agg (bv t)).cells.zipIdx.foldl (fun cs x=>match x with|(c,j)=>cs.setIfInBounds (1+j) c) (jc (n,replicate 512 0)).toArray=(jc (n,t)).toArray:=e1
 have q1:(decide ((Value.int .i64 n).cells.size≠1) || decide (0+(Value.int .i64 n).cells.size>(jc wz).toArray.size))=false:=rfl
 have q2:(decide ((Value.agg (bv t)).cells.size≠512) || decide (1+(Value.agg (bv t)).cells.size>(jc (n,replicate 512 0)).toArray.size))=false:=by rw[h1];rfl
 rw[Instr.fill]
 show(if(decide ((Value.int .i64 n).cells.size≠1) || decide (0+(Value.int .i64 n).cells.size>(jc wz).toArray.size))=true then none else _)=_
 rw[q1,if_neg (by decide),e0',Instr.fill]
 show(if(decide ((Value.agg (bv t)).cells.size≠512) || decide (1+(Value.agg (bv t)).cells.size>(jc (n,replicate 512 0)).toArray.size))=true then none else _)=_
 rw[q2,if_neg (by decide),e1',Instr.fill]
def fileR (f:RF):List Wr:=fileW (yh f) f.da (secs f.da.size)
def rSecJ (L:List RF) (j:Nat):List Wr:=shWs (L.map yh) 24++(L.take j).flatMap fileR
def yE (L:List RF):List Wr:=shWs (L.map yh) 24++L.flatMap fileR
theorem rSec_0 (L:List RF):rSecJ L 0=shWs (L.map yh) 24:=by unfold rSecJ;rw[qG];exact zm _
theorem rSec_next {L:List RF} {j:Nat} (h:j<L.length):rSecJ L (j+1)=rSecJ L j++fileR (L.getD j rfz):=by
 unfold rSecJ
 rw[zV h,yY,zO,zc,zd h]
 simp
theorem rSec_all (L:List RF):rSecJ L L.length=yE L:=by unfold rSecJ yE;rw[yV]
theorem blk_sheet {ps:List Pl} (hl:ps.length=144) (ho:∀p∈ps,PlOk p) {n:Nat} (hn:n<24):blkF (tx (shL ps n))=yN ps n:=by
 unfold blkF yN
 rw[tx_list,yB (by rw[shL_len hl hn ho];decide)]
theorem blk_chunk (da:ByteArray) (k:Nat):blkF (da.extract (512*k) da.size)=qt da k:=by
 unfold blkF qt chL
 rw[ext_list,yB (l:=da.data.toList) (by rw[ba_len];exact zD _)]
theorem sec_str (A:List UInt8) (p:Pl):tx A++beS p.nm.size 1++p.nm++tx (replicate (72-p.nm.size) 0)++beS p.at_ 4++beS p.sz 4=tx (A++plL p):=by
 have e:∀n k,beS n k=tx (be n k):=fun _ _=>rfl
 conv=>lhs;rw[←tx_back p.nm]
 rw[e,e,e,tx_app,tx_app,tx_app,tx_app,tx_app]
 unfold plL
 congr 1
 simp only[flat,List.flatMap_cons,List.flatMap_nil,List.append_nil,four,List.append_assoc,qf,ba_len]
theorem sec_zero (A:List UInt8):tx A++tx (replicate 81 0)=tx (A++plL plz):=by rw[tx_app,pl_z]
theorem run_mkBy (w:World) {n:Nat} (hn:n≤1000):(Instr.makeSlice 111 (.int .i64 (n:Int)) (.int .i64 (n:Int))).run Tryz.prog w=.ok (.slice (some ⟨w.heap.size,0,none⟩) n n) (w.alloc (.cells (bv (replicate n 0)) 5 (0,0))):=by
 rcases Nat.eq_zero_or_pos n with h0|h0
 ·subst h0;kernel_rfl
 obtain⟨inf,hinf,he⟩:∃inf,Tryz.prog.info? 5=some inf∧(inf.size=1∧inf.zero=some (.int .u8 0)∧inf.bytes=1):=⟨_,rfl,rfl,rfl,rfl⟩
 have hb:(bv (replicate n 0))=(replicate n (Value.int .u8 0)).toArray:=by
  unfold bv
  simp
 rw[hb]
 refine run_mkZ (L:=replicate n (Value.int .u8 0)) (z:=.int .u8 0) Tryz.underlying111 hinf he.2.1 (by rw[he.1];rfl) (by rw[he.1];omega) om (by rw[he.2.2];decide) (by rw[he.1,zk,jg]) (fun i hi=>?_)
 rw[he.1,jg]at hi
 rw[qh,if_pos hi]
 rw[he.1,Nat.mod_one];rfl
theorem fileR_len (f:RF):(fileR f).length=secs f.da.size:=fileW_len _ _ _
theorem rowF_next (s:List Wr) (f:RF) (k:Nat):jv (s++fileW (yh f) f.da k)++jc (((f.at_+k:Nat):Int),qt f.da k)=jv (s++fileW (yh f) f.da (k+1)):=fileW_jv s (yh f) f.da k
structure FB (L:List RF):Prop where
 o:∀p∈L.map yh,PlOk p
theorem FL.pl {N:Nat} {L:List RF} (h:FL N L) (hN:N≤400) (ha:∀i,(L.getD i rfz).da.size=0→(L.getD i rfz).at_=0):FB L:=⟨fun p hp=>by
 obtain⟨f,hf,rfl⟩:=zv.1 hp
 obtain⟨i,hi,rfl⟩:=qO.1 hf
 have e:L.getD i rfz=L[i]:=by rw[zc,zd hi];rfl
 have h1:=h.n i
 have h2:=h.s i
 have h3:=h.lay.r i
 have h4:=ha i
 rw[map_at,e]at h3
 rw[e]at h1 h2 h4
 refine⟨h1,?_,h2⟩
 show L[i].at_<4294967296
 rcases Nat.eq_zero_or_pos L[i].da.size with h5|h5
 ·rw[h4 h5];decide
 have h6:=h3.resolve_left (show ¬(yh L[i]).sz=0 from Nat.pos_iff_ne_zero.1 h5)
 have h7:(yh L[i]).at_=L[i].at_:=rfl
 omega⟩
theorem r6Sectors {N:Nat} (sa off cap:Nat) (cs:Array Value) (te:TypeId) (fre:Nat×Nat) (L:List RF) (Rl:List (Nat×Obj)) (w:World) (hmem:(sa,Obj.cells cs te fre)∈Rl) (hcs:∀j,j<L.length*3→cs[off+j]? = some ((L.flatMap flC).getD j undef)) (hcap:L.length≤cap) (hR:Has w Rl) (hN:N≤400) (hL:FL N L) (hB:FB L) :
  Calls Tryz.prog 52 #[.slice (some ⟨sa,off,none⟩) L.length cap] w fun e w'=>∃o:K.Own,OwnOk o 513 (yE L).length (jv (yE L))∧e=.returned (.slice (Own.a o) (yE L).length (Own.c o))∧∃R1,HP w [] R1 (Own.o 132 (jv (yE L)) o) w':=by
 have hl144:=hL.l
 have hpl:(L.map yh).length=144:=by rw[zA];exact hl144
 refine enter [] Rl [] Tryz.func52 rfl kr (yj hR) ?_
 refine Rq [0] ?_
 refine Rq [0,3] ?_
 refine Rq [0,3,4] ?_
 refine zN 3 (show .slice none 0 0=sO none 0 from rfl) ?_
 refine ye rfl (ι:=Nat×K.Own) (fun(i,ow)=>[(4,[],iN i),(3,[],sO ow i),(0,[],sP sa off L.length cap)]) (fun(i,ow)=>([]++(Own.o 132 (jv (shWs (L.map yh) i)) ow++[]))) (fun(i,ow)=>(i≤24)∧(OwnOk ow 513 i (jv (shWs (L.map yh) i)))) (fun(i,ow)=>24-i) (0,none) ?_ (Conv.mk kr) slr ?_
 ·exact⟨zH _,OwnOk.none _⟩
 rintro⟨i,ow⟩ ⟨hi,how⟩
 refine Rq [0,3,4,12] ?_
 refine eC rfl (p:=((i:Int)<(24:Int))) kr (fun c1=>?_) (fun c1=>?_)
 ·refine Rq [0,3,4,5] ?_
  refine Rg [0,3,4,5,21,22,23] [] (fun _=>[(i6 (6*(i:Int))),(i6 (6*(i:Int))),(i6 ((6*(i:Int))+6)),(0≤(6*(i:Int))),(0≤((6*(i:Int))+6)),((6*i)≤((6*i)+6)∧((6*i)+6)≤cap)]) ⟨om,om,om,om,om,om,trivial⟩ ?_
  refine zN 21 (show .slice (some ⟨sa,(if cap=(6*i)then off else(addO off (((6*i))*3))),none⟩) (((6*i)+6)-((6*i))) (cap-((6*i)))=.slice (some ⟨sa,(off+6*i*3),none⟩) 6 (cap-6*i)from by rw[if_neg om,y4,show 6*i+6-6*i=6 by omega]) ?_
  refine sI 22 (show(((((6*i)+6)-((6*i))):Nat):Int)=(6:Int)from by omega) ?_
  refine zN 5 (congrArg Value.string (show⟨#[]⟩=(tx (flat plL ((six (L.map yh) i).take 0)))from rfl)) ?_
  refine ye rfl (ι:=Nat) (fun(k:Nat)=>[(23,[],iN k),(22,[],.int .i64 (6:Int)),(21,[],.slice (some ⟨sa,(off+6*i*3),none⟩) 6 (cap-6*i)),(5,[],.string (tx (flat plL ((six (L.map yh) i).take k)))),(4,[],iN i),(3,[],sO ow i),(0,[],sP sa off L.length cap)]) (fun(k:Nat)=>([]++(Own.o 132 (jv (shWs (L.map yh) i)) ow++[]))) (fun(k:Nat)=>(k≤6)) (fun(k:Nat)=>6-k) 0 ?_ (Conv.mk kr) slr ?_
  ·exact zH _
  rintro k hk
  refine Rq [0,3,4,5,21,22,23,24] ?_
  refine eC rfl (p:=((k:Int)<(6:Int))) kr (fun c2=>?_) (fun c2=>?_)
  ·obtain⟨f,hfe⟩:∃f,f=L.getD (6*i+k) rfz:=⟨_,rfl⟩
   have hfo:PlOk (yh f):=hB.o _ (by rw[hfe,←map_at];exact getD_inN om)
   have hf1:f.nm.size≤72:=hfo.nm
   have hf2:f.at_<4294967296:=hfo.at_
   have hf3:f.da.size≤32768:=hfo.sz
   have hfl0:(flat plL ((six (L.map yh) i).take k)).length=81*k:=by rw[flat81 (fun q hq=>hB.o q (six_in (qV hq))),z8,six_len hpl om,qC om]
   have hsx:(six (L.map yh) i).getD k plz=yh f:=by rw[six_at om,map_at,hfe]
   have hsn:=sh_next (l:=six (L.map yh) i) (i:=k) (by rw[six_len hpl om];omega)
   rw[hsx]at hsn
   refine Bp 2 [dZ,(dS (.agg (flC f).toArray))] (some [0,3,4,5,21,22,23,26]) (fun S=>[(iL (k:Int) 6),(lV S 126 sa (addO (off+6*i*3) (k*3)) (.agg (flC f).toArray))]) ⟨om,(fun w1 h=>yw (vs:=flC f) Tryz.underlying126 rfl kr (flC_len _) (fun q9 v hq9=>(zI (h.ro _ hmem)).trans ((congrArg (fun z=>cs[z]?) (show _=off+(6*i+k)*3+q9 by first|(rw[y4];omega)|rw[y4])).trans (fl_cell rfz (i:=6*i+k) (fun x _=>flC_len x) hcs om (by rw[←hfe];exact hq9))))),trivial⟩ ?_
   refine Le (zM (z:=(.agg (flC rfz).toArray)) rfl kr) ?_
   rintro fb ⟨hfb,nfb⟩
   refine Lu (zC (b:=fb) (off:=0) (vs:=(flC f).toArray) (n:=3) rfl kr kr kr rfl (flC_all _) 0 (cs:=(flC rfz).toArray) (e:=126) kr (zD 3)) ?_
   refine yF (congrArg (fun(xq:Array Value)=>(([cl fb xq 126]++(Own.o 132 (jv (shWs (L.map yh) i)) ow++[])):LO)) (show _=((flC f).toArray) from(show spl (flC rfz).toArray 0 (flC f).toArray.toList=(flC f).toArray from yx rfl))) ?_
   refine zg rfl ?_
   refine Cg (Γ':=[(7,[],pT fb),(23,[],iN k),(22,[],.int .i64 (6:Int)),(21,[],.slice (some ⟨sa,(off+6*i*3),none⟩) 6 (cap-6*i)),(5,[],.string (tx (flat plL ((six (L.map yh) i).take k)))),(4,[],iN i),(3,[],sO ow i),(0,[],sP sa off L.length cap)]) ?_
   refine Rg [0,3,4,5,7,21,22,23,29] [dZ,(dS (.string f.nm))] (fun S=>[(cE S fb 0 (.string f.nm))]) ⟨(oC 0 rfl rfl),trivial⟩ ?_
   refine zX rfl (b:=(f.nm.toList==(⟨#[]⟩:ByteArray).toList)) kr (fun c3r=>?_) (fun c3r=>?_)
   ·have c3:((f.nm.toList==(⟨#[]⟩:ByteArray).toList)=true):=c3r
    refine Bq 1 [0,3,4,5,21,22,23,30] ?_
    refine Le (Eff.makeRow (e:=5) (n:=81) (cells:=(bv (replicate 81 0))) (v1:=.int .i64 81) (v2:=.int .i64 81) rfl kr kr (fun w1=>run_mkBy (n:=81) w1 (by decide))) ?_
    rintro zb1 ⟨hzb1,nzb1⟩
    refine Lp 3 [(dS (.string (tx (replicate 81 0))))] (some [0,3,4,5,21,22,23]) (fun S=>[(∀w1,S w1→(Conv.bytesToString (.slice (some ⟨zb1,0,none⟩) 81 81)).run Tryz.prog w1=.ok (.string (tx (replicate 81 0))) w1),((tx (flat plL ((six (L.map yh) i).take k))).size+(tx (replicate 81 0)).size≤9223372036854775807)]) ⟨(fun w1 h=>bytes_str (l:=replicate 81 0) zk (fun j hj=>by rw[zF];exact h.ocell 0 rfl (bv_get (n:=81) zk hj))),(by(repeat rw[yA]);(repeat rw[qf]);(repeat rw[qM]);(repeat rw[zk]);omega),trivial⟩ ?_
    refine zg rfl ?_
    refine Rg [0,3,4,5,21,22,23] [] (fun _=>[(i6 ((k:Int)+1))]) ⟨om,trivial⟩ ?_
    refine zN 5 (congrArg Value.string (show((tx (flat plL ((six (L.map yh) i).take k)))++(tx (replicate 81 0)))=(tx (flat plL ((six (L.map yh) i).take (k+1))))from by rw[hsn,show yh f=plz by rw[show f=rfz by rw[hfe];exact hL.z _ (by rw[←hfe];have h9:=c3;rw[nm_empty,decide_eq_true_eq]at h9;exact h9)];rfl];exact sec_zero _)) ?_
    refine zG rfl (k+1) (show k+1≤6 by omega) (by show 6-(k+1)<6-k;omega) (Conv.mk kr) (.cons _ (.cons _ slr))
   have c3:((f.nm.toList==(⟨#[]⟩:ByteArray).toList)=false):=c3r
   refine yo rfl kr ([cl fb ((flC f).toArray) 126]++(Own.o 132 (jv (shWs (L.map yh) i)) ow++[])) ?_
   refine CfgA.join (ι:=Nat) (fun(zb2:Nat)=>([cl zb2 (bv (replicate (72-f.nm.size) 0)) 5,cl fb ((flC f).toArray) 126]++(Own.o 132 (jv (shWs (L.map yh) i)) ow++[]))) (fun(zb2:Nat)=>[(5,[],.string ((((((tx (flat plL ((six (L.map yh) i).take k)))++(beS f.nm.size 1))++f.nm)++(tx (replicate (72-f.nm.size) 0)))++(beS f.at_ 4))++(beS f.da.size 4))),(23,[],iN k),(22,[],.int .i64 (6:Int)),(21,[],.slice (some ⟨sa,(off+6*i*3),none⟩) 6 (cap-6*i)),(4,[],iN i),(3,[],sO ow i),(0,[],sP sa off L.length cap)]) ?_ ?_
   ·rintro zb2
    refine Rg [0,3,4,5,21,22,23] [] (fun _=>[(i6 ((k:Int)+1))]) ⟨om,trivial⟩ ?_
    refine zN 5 (congrArg Value.string (show((((((tx (flat plL ((six (L.map yh) i).take k)))++(beS f.nm.size 1))++f.nm)++(tx (replicate (72-f.nm.size) 0)))++(beS f.at_ 4))++(beS f.da.size 4))=(tx (flat plL ((six (L.map yh) i).take (k+1))))from by rw[hsn];exact sec_str _ (yh f))) ?_
    refine zG rfl (k+1) (show k+1≤6 by omega) (by show 6-(k+1)<6-k;omega) (Conv.mk kr) (.cons _ (.cons _ slr))
   intro hj
   refine CfgA.pure [0,1,2,3,4,7,8,10,11,12,13,17,18,19,22,23,24,25] [dZ,dZ,(dS (.string f.nm)),dZ,dZ,dZ,(dS (.string f.nm)),dZ,(dS (.string f.nm)),dZ,dZ,dZ,(dS (iN f.at_)),dZ,dZ,(dS (.string f.da))] (some [0,3,4,5,21,22,23,34,38,42,47,53,59]) (l':=(bF 63847839 29)) kr kr slr 11 rfl (Γ':=[(59,[],.int .u64 ((f.da.size:Int)%18446744073709551616)),(53,[],.int .u64 ((f.at_:Int)%18446744073709551616)),(47,[],.int .i64 (72-(f.nm.size:Int))),(42,[],.string f.nm),(38,[],.int .u64 ((f.nm.size:Int)%18446744073709551616)),(34,[],.string (tx (flat plL ((six (L.map yh) i).take k)))),(23,[],iN k),(22,[],.int .i64 (6:Int)),(21,[],.slice (some ⟨sa,(off+6*i*3),none⟩) 6 (cap-6*i)),(5,[],.string (tx (flat plL ((six (L.map yh) i).take k)))),(4,[],iN i),(3,[],sO ow i),(0,[],sP sa off L.length cap)]) (nd:=(fun S=>[(cE S fb 0 (.string f.nm)),(cE S fb 0 (.string f.nm)),(cE S fb 0 (.string f.nm)),(i6 (72-(f.nm.size:Int))),(cE S fb 2 (iN f.at_)),(cE S fb 1 (.string f.da))])) (fun _=>kr) ⟨(oC 0 rfl rfl),(oC 0 rfl rfl),(oC 0 rfl rfl),(by(repeat rw[yA]);(repeat rw[qf]);(repeat rw[qM]);(repeat rw[zk]);omega),(oC 0 rfl rfl),(oC 0 rfl rfl),trivial⟩ ?_
   refine CfgA.two 5 14 kr (fuel':=10) rfl ?_ ?_
   ·
    refine Iu rfl  (zr (.string (beS f.nm.size 1)) rfl Tryz.func90 rfl rfl kr (fun w1 _=>numI f.nm.size 1 w1 om (by decide))) (fun _ _=>slr) ?_
    refine Ap [6,9] [] (some [0,3,4,5,21,22,23,43,47,53,59]) (bF 63848447 29) slr 8 (fun _=>[((tx (flat plL ((six (L.map yh) i).take k))).size+(beS f.nm.size 1).size≤9223372036854775807),(((tx (flat plL ((six (L.map yh) i).take k)))++(beS f.nm.size 1)).size+f.nm.size≤9223372036854775807)]) ⟨(by(repeat rw[yA]);(repeat rw[qf]);(repeat rw[qM]);(repeat rw[zk]);omega),(by(repeat rw[yA]);(repeat rw[qf]);(repeat rw[qM]);(repeat rw[zk]);omega),trivial⟩ ?_
    refine CfgA.two 14 20 kr (fuel':=7) rfl ?_ ?_
    ·
     refine Ie rfl  (Eff.makeRow (e:=5) (n:=(72-f.nm.size)) (cells:=(bv (replicate (72-f.nm.size) 0))) (v1:=.int .i64 (72-(f.nm.size:Int))) (v2:=.int .i64 (72-(f.nm.size:Int))) rfl kr kr (fun w1=>by rw[show(72-(f.nm.size:Int))=((72-f.nm.size:Nat):Int) by omega];exact run_mkBy w1 om)) (fun _ _=>(.cons _ slr)) ?_
     rintro zb2 ⟨hzb2,nzb2⟩
     refine CfgA.grow ([cl zb2 (bv (replicate (72-f.nm.size) 0)) 5,cl fb ((flC f).toArray) 126]++(Own.o 132 (jv (shWs (L.map yh) i)) ow++[])) (by exact(.cons _ slr)) ?_
     refine Ap [15,16] [(dS (.string (tx (replicate (72-f.nm.size) 0))))] (some [0,3,4,5,21,22,23,50,53,59]) (bF 63963135 29) slr 5 (fun S=>[(∀w1,S w1→(Conv.bytesToString (.slice (some ⟨zb2,0,none⟩) (72-f.nm.size) (72-f.nm.size))).run Tryz.prog w1=.ok (.string (tx (replicate (72-f.nm.size) 0))) w1),((((tx (flat plL ((six (L.map yh) i).take k)))++(beS f.nm.size 1))++f.nm).size+(tx (replicate (72-f.nm.size) 0)).size≤9223372036854775807)]) ⟨(fun w1 h=>bytes_str (l:=replicate (72-f.nm.size) 0) zk (fun j hj=>by rw[zF];exact h.ocell 0 rfl (bv_get (n:=(72-f.nm.size)) zk hj))),(by(repeat rw[yA]);(repeat rw[qf]);(repeat rw[qM]);(repeat rw[zk]);omega),trivial⟩ ?_
     refine Au 20 rfl 4  (zr (.string (beS f.at_ 4)) rfl Tryz.func90 rfl rfl kr (fun w1 _=>numI f.at_ 4 w1 om (by decide))) (fun _ _=>slr) ?_
     refine Ap [21] [] (some [0,3,4,5,21,22,23,55,59]) (tF 26 3) slr 3 (fun _=>[(((((tx (flat plL ((six (L.map yh) i).take k)))++(beS f.nm.size 1))++f.nm)++(tx (replicate (72-f.nm.size) 0))).size+(beS f.at_ 4).size≤9223372036854775807)]) ⟨(by(repeat rw[yA]);(repeat rw[qf]);(repeat rw[qM]);(repeat rw[zk]);omega),trivial⟩ ?_
     refine Au 26 rfl 2  (zr (.string (beS f.da.size 4)) rfl Tryz.func90 rfl rfl kr (fun w1 _=>numI f.da.size 4 w1 om (by decide))) (fun _ _=>slr) ?_
     refine Ap [27,28] [] (some [0,3,4,5,21,22,23]) (tF 29 0) slr 0 (fun _=>[((((((tx (flat plL ((six (L.map yh) i).take k)))++(beS f.nm.size 1))++f.nm)++(tx (replicate (72-f.nm.size) 0)))++(beS f.at_ 4)).size+(beS f.da.size 4).size≤9223372036854775807)]) ⟨(by(repeat rw[yA]);(repeat rw[qf]);(repeat rw[qM]);(repeat rw[zk]);omega),trivial⟩ ?_
     refine z6 kr ?_
     refine Cg (Γ':=[(5,[],.string ((((((tx (flat plL ((six (L.map yh) i).take k)))++(beS f.nm.size 1))++f.nm)++(tx (replicate (72-f.nm.size) 0)))++(beS f.at_ 4))++(beS f.da.size 4))),(23,[],iN k),(22,[],.int .i64 (6:Int)),(21,[],.slice (some ⟨sa,(off+6*i*3),none⟩) 6 (cap-6*i)),(4,[],iN i),(3,[],sO ow i),(0,[],sP sa off L.length cap)]) ?_
     exact hj zb2
    
    refine Iu rfl  (zr (.string (beS f.at_ 4)) rfl Tryz.func90 rfl rfl kr (fun w1 _=>numI f.at_ 4 w1 om (by decide))) (fun _ _=>slr) ?_
    refine CfgA.two 14 26 kr (fuel':=6) rfl ?_ ?_
    ·
     refine Ie rfl  (Eff.makeRow (e:=5) (n:=(72-f.nm.size)) (cells:=(bv (replicate (72-f.nm.size) 0))) (v1:=.int .i64 (72-(f.nm.size:Int))) (v2:=.int .i64 (72-(f.nm.size:Int))) rfl kr kr (fun w1=>by rw[show(72-(f.nm.size:Int))=((72-f.nm.size:Nat):Int) by omega];exact run_mkBy w1 om)) (fun _ _=>(.cons _ slr)) ?_
     rintro zb2 ⟨hzb2,nzb2⟩
     refine CfgA.grow ([cl zb2 (bv (replicate (72-f.nm.size) 0)) 5,cl fb ((flC f).toArray) 126]++(Own.o 132 (jv (shWs (L.map yh) i)) ow++[])) (by exact(.cons _ slr)) ?_
     refine Ap [15,16,21] [(dS (.string (tx (replicate (72-f.nm.size) 0))))] (some [0,3,4,5,21,22,23,55,59]) (tF 26 3) slr 3 (fun S=>[(∀w1,S w1→(Conv.bytesToString (.slice (some ⟨zb2,0,none⟩) (72-f.nm.size) (72-f.nm.size))).run Tryz.prog w1=.ok (.string (tx (replicate (72-f.nm.size) 0))) w1),((((tx (flat plL ((six (L.map yh) i).take k)))++(beS f.nm.size 1))++f.nm).size+(tx (replicate (72-f.nm.size) 0)).size≤9223372036854775807),(((((tx (flat plL ((six (L.map yh) i).take k)))++(beS f.nm.size 1))++f.nm)++(tx (replicate (72-f.nm.size) 0))).size+(beS f.at_ 4).size≤9223372036854775807)]) ⟨(fun w1 h=>bytes_str (l:=replicate (72-f.nm.size) 0) zk (fun j hj=>by rw[zF];exact h.ocell 0 rfl (bv_get (n:=(72-f.nm.size)) zk hj))),(by(repeat rw[yA]);(repeat rw[qf]);(repeat rw[qM]);(repeat rw[zk]);omega),(by(repeat rw[yA]);(repeat rw[qf]);(repeat rw[qM]);(repeat rw[zk]);omega),trivial⟩ ?_
     refine Au 26 rfl 2  (zr (.string (beS f.da.size 4)) rfl Tryz.func90 rfl rfl kr (fun w1 _=>numI f.da.size 4 w1 om (by decide))) (fun _ _=>slr) ?_
     refine Ap [27,28] [] (some [0,3,4,5,21,22,23]) (tF 29 0) slr 0 (fun _=>[((((((tx (flat plL ((six (L.map yh) i).take k)))++(beS f.nm.size 1))++f.nm)++(tx (replicate (72-f.nm.size) 0)))++(beS f.at_ 4)).size+(beS f.da.size 4).size≤9223372036854775807)]) ⟨(by(repeat rw[yA]);(repeat rw[qf]);(repeat rw[qM]);(repeat rw[zk]);omega),trivial⟩ ?_
     refine z6 kr ?_
     refine Cg (Γ':=[(5,[],.string ((((((tx (flat plL ((six (L.map yh) i).take k)))++(beS f.nm.size 1))++f.nm)++(tx (replicate (72-f.nm.size) 0)))++(beS f.at_ 4))++(beS f.da.size 4))),(23,[],iN k),(22,[],.int .i64 (6:Int)),(21,[],.slice (some ⟨sa,(off+6*i*3),none⟩) 6 (cap-6*i)),(4,[],iN i),(3,[],sO ow i),(0,[],sP sa off L.length cap)]) ?_
     exact hj zb2
    
    refine Iu rfl  (zr (.string (beS f.da.size 4)) rfl Tryz.func90 rfl rfl kr (fun w1 _=>numI f.da.size 4 w1 om (by decide))) (fun _ _=>slr) ?_
    refine Ae 14 rfl 5  (Eff.makeRow (e:=5) (n:=(72-f.nm.size)) (cells:=(bv (replicate (72-f.nm.size) 0))) (v1:=.int .i64 (72-(f.nm.size:Int))) (v2:=.int .i64 (72-(f.nm.size:Int))) rfl kr kr (fun w1=>by rw[show(72-(f.nm.size:Int))=((72-f.nm.size:Nat):Int) by omega];exact run_mkBy w1 om)) (fun _ _=>(.cons _ slr)) ?_
    rintro zb2 ⟨hzb2,nzb2⟩
    refine CfgA.grow ([cl zb2 (bv (replicate (72-f.nm.size) 0)) 5,cl fb ((flC f).toArray) 126]++(Own.o 132 (jv (shWs (L.map yh) i)) ow++[])) (by exact(.cons _ slr)) ?_
    refine Ap [15,16,21,27,28] [(dS (.string (tx (replicate (72-f.nm.size) 0))))] (some [0,3,4,5,21,22,23]) (tF 29 0) slr 0 (fun S=>[(∀w1,S w1→(Conv.bytesToString (.slice (some ⟨zb2,0,none⟩) (72-f.nm.size) (72-f.nm.size))).run Tryz.prog w1=.ok (.string (tx (replicate (72-f.nm.size) 0))) w1),((((tx (flat plL ((six (L.map yh) i).take k)))++(beS f.nm.size 1))++f.nm).size+(tx (replicate (72-f.nm.size) 0)).size≤9223372036854775807),(((((tx (flat plL ((six (L.map yh) i).take k)))++(beS f.nm.size 1))++f.nm)++(tx (replicate (72-f.nm.size) 0))).size+(beS f.at_ 4).size≤9223372036854775807),((((((tx (flat plL ((six (L.map yh) i).take k)))++(beS f.nm.size 1))++f.nm)++(tx (replicate (72-f.nm.size) 0)))++(beS f.at_ 4)).size+(beS f.da.size 4).size≤9223372036854775807)]) ⟨(fun w1 h=>bytes_str (l:=replicate (72-f.nm.size) 0) zk (fun j hj=>by rw[zF];exact h.ocell 0 rfl (bv_get (n:=(72-f.nm.size)) zk hj))),(by(repeat rw[yA]);(repeat rw[qf]);(repeat rw[qM]);(repeat rw[zk]);omega),(by(repeat rw[yA]);(repeat rw[qf]);(repeat rw[qM]);(repeat rw[zk]);omega),(by(repeat rw[yA]);(repeat rw[qf]);(repeat rw[qM]);(repeat rw[zk]);omega),trivial⟩ ?_
    refine z6 kr ?_
    refine Cg (Γ':=[(5,[],.string ((((((tx (flat plL ((six (L.map yh) i).take k)))++(beS f.nm.size 1))++f.nm)++(tx (replicate (72-f.nm.size) 0)))++(beS f.at_ 4))++(beS f.da.size 4))),(23,[],iN k),(22,[],.int .i64 (6:Int)),(21,[],.slice (some ⟨sa,(off+6*i*3),none⟩) 6 (cap-6*i)),(4,[],iN i),(3,[],sO ow i),(0,[],sP sa off L.length cap)]) ?_
    exact hj zb2
   
   refine Ie rfl  (Eff.makeRow (e:=5) (n:=(72-f.nm.size)) (cells:=(bv (replicate (72-f.nm.size) 0))) (v1:=.int .i64 (72-(f.nm.size:Int))) (v2:=.int .i64 (72-(f.nm.size:Int))) rfl kr kr (fun w1=>by rw[show(72-(f.nm.size:Int))=((72-f.nm.size:Nat):Int) by omega];exact run_mkBy w1 om)) (fun _ _=>(.cons _ slr)) ?_
   rintro zb2 ⟨hzb2,nzb2⟩
   refine CfgA.grow ([cl zb2 (bv (replicate (72-f.nm.size) 0)) 5,cl fb ((flC f).toArray) 126]++(Own.o 132 (jv (shWs (L.map yh) i)) ow++[])) (by exact(.cons _ slr)) ?_
   refine Ap [15] [(dS (.string (tx (replicate (72-f.nm.size) 0))))] (some [0,3,4,5,21,22,23,34,38,42,49,53,59]) (bF 63896991 29) slr 9 (fun S=>[(∀w1,S w1→(Conv.bytesToString (.slice (some ⟨zb2,0,none⟩) (72-f.nm.size) (72-f.nm.size))).run Tryz.prog w1=.ok (.string (tx (replicate (72-f.nm.size) 0))) w1)]) ⟨(fun w1 h=>bytes_str (l:=replicate (72-f.nm.size) 0) zk (fun j hj=>by rw[zF];exact h.ocell 0 rfl (bv_get (n:=(72-f.nm.size)) zk hj))),trivial⟩ ?_
   refine Au 5 rfl 8  (zr (.string (beS f.nm.size 1)) rfl Tryz.func90 rfl rfl kr (fun w1 _=>numI f.nm.size 1 w1 om (by decide))) (fun _ _=>slr) ?_
   refine Ap [6,9,16] [] (some [0,3,4,5,21,22,23,50,53,59]) (bF 63963135 29) slr 5 (fun _=>[((tx (flat plL ((six (L.map yh) i).take k))).size+(beS f.nm.size 1).size≤9223372036854775807),(((tx (flat plL ((six (L.map yh) i).take k)))++(beS f.nm.size 1)).size+f.nm.size≤9223372036854775807),((((tx (flat plL ((six (L.map yh) i).take k)))++(beS f.nm.size 1))++f.nm).size+(tx (replicate (72-f.nm.size) 0)).size≤9223372036854775807)]) ⟨(by(repeat rw[yA]);(repeat rw[qf]);(repeat rw[qM]);(repeat rw[zk]);omega),(by(repeat rw[yA]);(repeat rw[qf]);(repeat rw[qM]);(repeat rw[zk]);omega),(by(repeat rw[yA]);(repeat rw[qf]);(repeat rw[qM]);(repeat rw[zk]);omega),trivial⟩ ?_
   refine Au 20 rfl 4  (zr (.string (beS f.at_ 4)) rfl Tryz.func90 rfl rfl kr (fun w1 _=>numI f.at_ 4 w1 om (by decide))) (fun _ _=>slr) ?_
   refine Ap [21] [] (some [0,3,4,5,21,22,23,55,59]) (tF 26 3) slr 3 (fun _=>[(((((tx (flat plL ((six (L.map yh) i).take k)))++(beS f.nm.size 1))++f.nm)++(tx (replicate (72-f.nm.size) 0))).size+(beS f.at_ 4).size≤9223372036854775807)]) ⟨(by(repeat rw[yA]);(repeat rw[qf]);(repeat rw[qM]);(repeat rw[zk]);omega),trivial⟩ ?_
   refine Au 26 rfl 2  (zr (.string (beS f.da.size 4)) rfl Tryz.func90 rfl rfl kr (fun w1 _=>numI f.da.size 4 w1 om (by decide))) (fun _ _=>slr) ?_
   refine Ap [27,28] [] (some [0,3,4,5,21,22,23]) (tF 29 0) slr 0 (fun _=>[((((((tx (flat plL ((six (L.map yh) i).take k)))++(beS f.nm.size 1))++f.nm)++(tx (replicate (72-f.nm.size) 0)))++(beS f.at_ 4)).size+(beS f.da.size 4).size≤9223372036854775807)]) ⟨(by(repeat rw[yA]);(repeat rw[qf]);(repeat rw[qM]);(repeat rw[zk]);omega),trivial⟩ ?_
   refine z6 kr ?_
   refine Cg (Γ':=[(5,[],.string ((((((tx (flat plL ((six (L.map yh) i).take k)))++(beS f.nm.size 1))++f.nm)++(tx (replicate (72-f.nm.size) 0)))++(beS f.at_ 4))++(beS f.da.size 4))),(23,[],iN k),(22,[],.int .i64 (6:Int)),(21,[],.slice (some ⟨sa,(off+6*i*3),none⟩) 6 (cap-6*i)),(4,[],iN i),(3,[],sO ow i),(0,[],sP sa off L.length cap)]) ?_
   exact hj zb2
  have hk6:k=6:=by omega
  refine zN 5 (congrArg Value.string (show(tx (flat plL ((six (L.map yh) i).take k)))=(tx (shL (L.map yh) i))from by rw[hk6,yB (by rw[six_len hpl om];decide)];rfl)) ?_
  refine Bp 4 [] (some [0,3,4,63,65,66]) (fun _=>[(i6 (97+(i:Int)))]) ⟨om,trivial⟩ ?_
  refine Lu (zr (vs:=[.string (tx (shL (L.map yh) i))]) (.agg (bv (yN (L.map yh) i))) rfl Tryz.func91 rfl rfl kr (fun w1 _=>by have h9:=r6Block (tx (shL (L.map yh) i)) w1 (by rw[qf,shL_len hpl om hB.o];decide);rw[blk_sheet hpl hB.o om]at h9;exact h9)) ?_
  refine Lp 1 [(dS (.agg (jc ((97+(i:Int)),yN (L.map yh) i)).toArray))] (some [0,3,4,63,68]) (fun S=>[(∀w1,S w1→(Instr.build 132 #[(0,.int .i64 (97+(i:Int))),(1,.agg (bv (yN (L.map yh) i)))]).run Tryz.prog w1=.ok (.agg (jc ((97+(i:Int)),yN (L.map yh) i)).toArray) w1)]) ⟨(fun w1 _=>build_rw6 ((97+(i:Int))) (sheetF_len hpl om hB.o) w1),trivial⟩ ?_
  refine Le (yR (vs:=(jc ((97+(i:Int)),yN (L.map yh) i)).toArray) (n:=513) rfl kr Tryz.underlying130 kr (z:=(.agg (jc wz).toArray)) kr (by rw[zp];exact yl (sheetF_len hpl om hB.o)) (by decide) (by decide)) ?_
  rintro tb ⟨htb,ntb⟩
  refine Le (y8 rfl 513 520 Tryz.underlying130 kr (z:=(.agg (jc wz).toArray)) kr kr ow (xs:=(jv (shWs (L.map yh) i))) how kr (b2:=tb) (off2:=0) (m:=1) (c2:=1) kr (jc ((97+(i:Int)),yN (L.map yh) i)) (yl (sheetF_len hpl om hB.o)) (jc_all _) [(tb,.cells ((jc ((97+(i:Int)),yN (L.map yh) i)).toArray) 132 (0,0))] [] (by rfl) (fun w1 h j v hj=>by rw[zF];exact h.ocell 0 rfl (by rw[zo];exact hj)) om om) ?_
  rintro o11 ko11
  refine Ld 1 [0,3,4] ?_
  refine Rg [0,3,4] [] (fun _=>[(i6 ((i:Int)+1))]) ⟨om,trivial⟩ ?_
  have hrv:=shWs_jv (L.map yh) i
  refine zU (congrArg (fun(xq:List Value)=>(([cl tb ((jc ((97+(i:Int)),yN (L.map yh) i)).toArray) 132]++(Own.o 132 xq o11++[])):LO)) (show _=(jv (shWs (L.map yh) (i+1)))from hrv)) ?_
  refine zG rfl (i+1,o11) ⟨by omega,hrv▸ko11⟩ (by show 24-(i+1)<24-i;omega) (Conv.mk kr) (.cons _ slr)
 refine Rq [3,71,72,73] ?_
 have hi24:i=24:=by omega
 refine zN 3 (congrArg (fun(xq:Nat)=>(.slice (Own.a ow) xq (Own.c ow):Value)) (show i=((rSecJ L 0).length)from by rw[rSec_0,shWs_len,hi24])) ?_
 refine zU (congrArg (fun(xq:List Value)=>(([]++(Own.o 132 xq ow++[])):LO)) (show _=(jv (rSecJ L 0))from by rw[rSec_0,hi24])) ?_
 refine ye rfl (ι:=Nat×K.Own) (fun(j,ow)=>[(73,[],iN j),(72,[],iN L.length),(71,[],sP sa off L.length cap),(3,[],sO ow ((rSecJ L j).length))]) (fun(j,ow)=>([]++(Own.o 132 (jv (rSecJ L j)) ow++[]))) (fun(j,ow)=>(j≤144)∧((rSecJ L j).length≤24+64*j)∧(OwnOk ow 513 (rSecJ L j).length (jv (rSecJ L j)))) (fun(j,ow)=>144-j) (0,ow) ?_ (Conv.mk kr) slr ?_
 ·exact⟨zH _,by rw[rSec_0,shWs_len];exact zD _,by rw[rSec_0,shWs_len,←hi24];exact how⟩
 rintro⟨j,ow⟩ ⟨hj,hjl,how⟩
 refine Rq [3,71,72,73,74] ?_
 refine eC rfl (p:=((j:Int)<(L.length:Int))) kr (fun c4=>?_) (fun c4=>?_)
 ·obtain⟨f,hfe⟩:∃f,f=L.getD j rfz:=⟨_,rfl⟩
  have hfs:=hL.s j
  have hrn:=rSec_next (L:=L) (j:=j) om
  rw[←hfe]at hfs hrn
  have hse:secs f.da.size=(f.da.size+511) / 512:=rfl
  have hfo:PlOk (yh f):=hB.o _ (by rw[hfe,←map_at];exact getD_inN om)
  have hf2:f.at_<4294967296:=hfo.at_
  refine Bp 2 [dZ,(dS (.agg (flC f).toArray))] (some [3,71,72,73,76]) (fun S=>[(iL (j:Int) (L.length:Int)),(lV S 126 sa (addO off (j*3)) (.agg (flC f).toArray))]) ⟨om,(fun w1 h=>yw (vs:=flC f) Tryz.underlying126 rfl kr (flC_len _) (fun q9 v hq9=>(zI (h.ro _ hmem)).trans ((congrArg (fun z=>cs[z]?) (show _=off+(j)*3+q9 by first|(rw[y4];omega)|rw[y4])).trans (fl_cell rfz (i:=j) (fun x _=>flC_len x) hcs om (by rw[←hfe];exact hq9))))),trivial⟩ ?_
  refine Le (zM (z:=(.agg (flC rfz).toArray)) rfl kr) ?_
  rintro fb ⟨hfb,nfb⟩
  refine Lu (zC (b:=fb) (off:=0) (vs:=(flC f).toArray) (n:=3) rfl kr kr kr rfl (flC_all _) 0 (cs:=(flC rfz).toArray) (e:=126) kr (zD 3)) ?_
  refine yF (congrArg (fun(xq:Array Value)=>(([cl fb xq 126]++(Own.o 132 (jv (rSecJ L j)) ow++[])):LO)) (show _=((flC f).toArray) from(show spl (flC rfz).toArray 0 (flC f).toArray.toList=(flC f).toArray from yx rfl))) ?_
  refine zg rfl ?_
  refine Cg (Γ':=[(9,[],pT fb),(73,[],iN j),(72,[],iN L.length),(71,[],sP sa off L.length cap),(3,[],sO ow ((rSecJ L j).length))]) ?_
  refine Rq [3,9,10,71,72,73] ?_
  refine zN 3 (congrArg (fun(xq:Nat)=>(sO ow xq:Value)) (show((rSecJ L j).length)=(((rSecJ L j).length+0))from rfl)) ?_
  refine zU (congrArg (fun(xq:List Value)=>(([cl fb ((flC f).toArray) 126]++(Own.o 132 xq ow++[])):LO)) (show _=(jv (rSecJ L j++fileW (yh f) f.da 0)) from(congrArg jv (zm _)).symm)) ?_
  refine ye rfl (ι:=Nat×K.Own) (fun(k,ov)=>[(10,[],iN k),(9,[],pT fb),(73,[],iN j),(72,[],iN L.length),(71,[],sP sa off L.length cap),(3,[],sO ov (((rSecJ L j).length+k)))]) (fun(k,ov)=>([cl fb ((flC f).toArray) 126]++(Own.o 132 (jv (rSecJ L j++fileW (yh f) f.da k)) ov++[]))) (fun(k,ov)=>(k≤secs f.da.size)∧(OwnOk ov 513 ((rSecJ L j).length+k) (jv (rSecJ L j++fileW (yh f) f.da k)))) (fun(k,ov)=>secs f.da.size-k) (0,ow) ?_ (Conv.mk kr) slr ?_
  ·exact⟨zH _,by rw[show fileW (yh f) f.da 0=[]from rfl,zm];exact how⟩
  rintro⟨k,ov⟩ ⟨hk,hok2⟩
  refine Bp 2 [dZ,(dS (.agg (flC f).toArray))] none (fun S=>[(lV S 126 fb 0 (.agg (flC f).toArray))]) ⟨(fun w1 h=>h.oload 0 rfl Tryz.underlying126 rfl (n:=3) kr rfl),trivial⟩ ?_
  refine Lu (zr (.int .i64 (secs f.da.size:Int)) rfl Tryz.func51 rfl rfl kr (fun w1 _=>r6Need f w1 hfs)) ?_
  refine Ld 1 [3,9,10,71,72,73,80] ?_
  refine eC rfl (p:=((k:Int)<((secs f.da.size):Int))) kr (fun c5=>?_) (fun c5=>?_)
  ·refine yo rfl kr [cl fb ((flC f).toArray) 126] ?_
   refine Ap (List.range 10) [dZ,dZ,(dS (iN f.at_)),dZ,dZ,dZ,(dS (.string f.da))] (some [3,9,10,71,72,73,83,87,92]) (tF 10 5) (cO nL) 5 (fun S=>[(cE S fb 2 (iN f.at_)),(i6 ((f.at_:Int)+(k:Int))),(cE S fb 1 (.string f.da)),(i6 (512*(k:Int))),(0≤(512*(k:Int))),((512*k)≤f.da.size∧f.da.size≤f.da.size)]) ⟨(oC 0 rfl rfl),om,(oC 0 rfl rfl),om,om,(by(repeat rw[yA]);(repeat rw[qf]);(repeat rw[qM]);(repeat rw[zk]);omega),trivial⟩ ?_
   refine Au 10 rfl 4  (zr (vs:=[.string (f.da.extract ((512*k)) f.da.size)]) (.agg (bv (qt f.da k))) rfl Tryz.func91 rfl rfl kr (fun w1 _=>by have h9:=r6Block (f.da.extract ((512*k)) f.da.size) w1 (by rw[ByteArray.size_extract];omega);rw[blk_chunk]at h9;exact h9)) (fun _ _=>(cO nL)) ?_
   refine Ap [11] [(dS (.agg (jc (((f.at_+k:Nat):Int),qt f.da k)).toArray))] (some [3,9,10,71,72,73,83,94]) (tF 12 3) (cO nL) 3 (fun S=>[(∀w1,S w1→(Instr.build 132 #[(0,.int .i64 ((f.at_:Int)+(k:Int))),(1,.agg (bv (qt f.da k)))]).run Tryz.prog w1=.ok (.agg (jc (((f.at_+k:Nat):Int),qt f.da k)).toArray) w1)]) ⟨(fun w1 _=>build_rw6 (((f.at_+k:Nat):Int)) (chunkF_len _ _) w1),trivial⟩ ?_
   refine Ae 12 rfl 2  (yR (vs:=(jc (((f.at_+k:Nat):Int),qt f.da k)).toArray) (n:=513) rfl kr Tryz.underlying130 kr (z:=(.agg (jc wz).toArray)) kr (by rw[zp];exact yl (chunkF_len _ _)) (by decide) (by decide)) (fun _ _=>(.cons _ (cO nL))) ?_
   rintro tb ⟨htb,ntb⟩
   refine CfgA.grow [cl tb ((jc (((f.at_+k:Nat):Int),qt f.da k)).toArray) 132,cl fb ((flC f).toArray) 126] (by exact(.cons _ (cO .slnil))) ?_
   refine Ae 13 rfl 1  (y8 rfl 513 520 Tryz.underlying130 kr (z:=(.agg (jc wz).toArray)) kr kr ov (xs:=(jv (rSecJ L j++fileW (yh f) f.da k))) hok2 kr (b2:=tb) (off2:=0) (m:=1) (c2:=1) kr (jc (((f.at_+k:Nat):Int),qt f.da k)) (yl (chunkF_len _ _)) (jc_all _) [(tb,.cells ((jc (((f.at_+k:Nat):Int),qt f.da k)).toArray) 132 (0,0)),(fb,.cells ((flC f).toArray) 126 (0,0))] [] (by rfl) (fun w1 h j v hj=>by rw[zF];exact h.ocell 0 rfl (by rw[zo];exact hj)) om om) (fun _ _=>(.cons_cons _ (.cons_cons _ (zz _)))) ?_
   rintro o14 ko14
   refine CfgA.grow ([cl tb ((jc (((f.at_+k:Nat):Int),qt f.da k)).toArray) 132,cl fb ((flC f).toArray) 126]++(Own.o 132 ((jv (rSecJ L j++fileW (yh f) f.da k))++(jc (((f.at_+k:Nat):Int),qt f.da k))) o14++[])) (by exact(cO (cO nL))) ?_
   refine Ap [14] [] (some [3,9,10,71,72,73]) (tF 15 0) slr 0 n0 trivial ?_
   refine z6 kr ?_
   refine Rg [3,9,10,71,72,73] [] (fun _=>[(i6 ((k:Int)+1))]) ⟨om,trivial⟩ ?_
   have hrv:=rowF_next (rSecJ L j) f k
   refine zU (congrArg (fun(xq:List Value)=>(([cl tb ((jc (((f.at_+k:Nat):Int),qt f.da k)).toArray) 132,cl fb ((flC f).toArray) 126]++(Own.o 132 xq o14++[])):LO)) (show _=(jv (rSecJ L j++fileW (yh f) f.da (k+1)))from hrv)) ?_
   refine zG rfl (k+1,o14) ⟨by omega,hrv▸ko14⟩ (by show secs f.da.size-(k+1)<secs f.da.size-k;omega) (Conv.mk kr) (.cons _ slr)
  refine Rg [3,71,72,73] [] (fun _=>[(i6 ((j:Int)+1))]) ⟨om,trivial⟩ ?_
  have hke:k=secs f.da.size:=by omega
  have hrl2:(rSecJ L (j+1)).length=(rSecJ L j).length+secs f.da.size:=by rw[hrn,zh,fileR_len]
  have hr2:rSecJ L j++fileW (yh f) f.da k=rSecJ L (j+1):=by rw[hke,hrn];rfl
  refine zU (congrArg (fun(xq:List Value)=>(([(fb,.cells ((flC f).toArray) 126 (0,0))]++(Own.o 132 xq ov++[])):LO)) (show _=(jv (rSecJ L (j+1)))from by rw[hr2])) ?_
  refine zN 3 (congrArg (fun(xq:Nat)=>(.slice (Own.a ov) xq (Own.c ov):Value)) (show(((rSecJ L j).length+k))=((rSecJ L (j+1)).length)from by rw[hrl2,hke])) ?_
  refine zG rfl (j+1,ov) ⟨by omega,by omega,by rw[hrl2,←hke,←hr2];exact hok2⟩ (by show 144-(j+1)<144-j;omega) (Conv.mk kr) (.cons _ slr)
 refine Rq [2] ?_
 refine Rt [sO ow ((rSecJ L j).length)] (fun w1 hp=>?_)
 have hje:j=L.length:=by omega
 have h9:HP w [] Rl ([]++(Own.o 132 (jv (rSecJ L j)) ow++[])) w1:=hp
 rw[hje,rSec_all,yM,zm]at h9
 rw[hje,rSec_all]at how
 exact⟨ow,how,by rw[hje,rSec_all];rfl,_,h9⟩
end
section
open K
theorem sorted_ext:∀ {l1 l2:List Int},l1.Pairwise (· < ·)→l2.Pairwise (· < ·)→(∀x,x∈l1↔x∈l2)→l1=l2
 | [],[],_,_,_=>rfl
 | [],b::l2,_,_,h=>absurd ((h b).2 mH) (by simp)
 | a::l1,[],_,_,h=>absurd ((h a).1 mH) (by simp)
 | a::l1,b::l2,h1,h2,h=>by
  obtain⟨h1a,h1b⟩:=List.pairwise_cons.1 h1
  obtain⟨h2a,h2b⟩:=List.pairwise_cons.1 h2
  have hab:a=b:=by
   rcases zq.1 ((h a).1 mH)with e|e
   ·exact e
   ·rcases zq.1 ((h b).2 mH)with e2|e2
    ·exact e2.symm
    ·have:=h1a b e2
     have:=h2a a e
     omega
  subst hab
  rw[sorted_ext h1b h2b (fun x=>⟨fun hx=>by
   rcases zq.1 ((h x).1 (zf _ hx))with e|e
   ·have:=h1a x hx;omega
   ·exact e,fun hx=>by
   rcases zq.1 ((h x).2 (zf _ hx))with e|e
   ·have:=h2a x hx;omega
   ·exact e⟩)]
def OnD (D:DK) (L:List RF):Prop:=∀w∈yE L,shown D w.1=w.2
theorem Rel.fb {N:Nat} {T:Tb} {L:List RF} (h:Rel N T L) (hN:N≤400):FB L:=h.fl.pl hN fun i hi=>by
 rcases Nat.eq_zero_or_pos (L.getD i rfz).nm.size with h0|h0
 ·rw[h.z i h0];rfl
 exact(h.n i h0).2.2 hi
theorem in_file {f:RF} {w:Wr} (h:w∈fileR f):∃k,k<secs f.da.size∧w=(((f.at_+k:Nat):Int),qt f.da k):=by
 obtain⟨k,hk,rfl⟩:=zv.1 h
 exact⟨k,qz.1 hk,rfl⟩
theorem in_sheet {ps:List Pl} {w:Wr} (h:w∈shWs ps 24):∃n:Nat,n<24∧w=((97:Int)+(n:Int),yN ps n):=by
 obtain⟨k,hk,rfl⟩:=zv.1 h
 exact⟨k,qz.1 hk,rfl⟩
section
variable {N:Nat} {T:Tb} {L:List RF}
theorem Rel.file (h:Rel N T L) {f:RF} (hf:f∈L) {w:Wr} (hw:w∈fileR f):((121:Int)≤w.1∧w.1<(N:Int))∧w.2.length=512:=by
 obtain⟨i,hi,rfl⟩:=qO.1 hf
 obtain⟨k,hk,rfl⟩:=in_file hw
 have e:L.getD i rfz=L[i]:=by rw[zc,zd hi];rfl
 have h1:=h.lay.r i
 rw[h.at i,e]at h1
 refine⟨?_,chunkF_len _ _⟩
 have h3:¬(yh L[i]).sz=0:=fun x=>by
  have x:L[i].da.size=0:=x
  rw[x]at hk;exact absurd hk (qx k)
 have h2:121≤L[i].at_∧L[i].at_+secs L[i].da.size≤N:=h1.resolve_left h3
 simp only
 omega
theorem Rel.sec (h:Rel N T L) (hN:121<N∧N≤400):∀w∈yE L,(97≤w.1∧w.1<(N:Int))∧w.2.length=512:=fun w hw=>by
 rcases yG.1 hw with hw|hw
 ·obtain⟨n,hn,rfl⟩:=in_sheet hw
  refine⟨?_,sheetF_len (by rw[zA];exact h.l) hn (h.fb hN.2).o⟩
  simp only
  omega
 obtain⟨f,hf,hw⟩:=List.mem_flatMap.1 hw
 obtain⟨h1,h2⟩:=h.file hf hw
 exact⟨by omega,h2⟩
theorem Rel.dist (h:Rel N T L):Dist (yE L):=by
 unfold yE Dist
 rw[List.pairwise_append]
 refine⟨?_,?_,fun a ha b hb=>?_⟩
 ·exact List.Pairwise.map _ (fun a b hab=>by show(97:Int)+(a:Int)≠(97:Int)+(b:Int);omega) List.pairwise_lt_range
 ·rw[List.pairwise_flatMap]
  refine⟨fun f _=>List.Pairwise.map _ (fun a b hab=>by show(((yh f).at_+a:Nat):Int)≠(((yh f).at_+b:Nat):Int);omega) List.pairwise_lt_range,?_⟩
  rw[List.pairwise_iff_getElem]
  intro i j hi hj hij x hx y hy e
  obtain⟨k,hk,rfl⟩:=in_file hx
  obtain⟨m,hm,rfl⟩:=in_file hy
  have e1:L.getD i rfz=L[i]:=by rw[zc,zd hi];rfl
  have e2:L.getD j rfz=L[j]:=by rw[zc,zd hj];rfl
  have e:((L[i].at_+k:Nat):Int)=((L[j].at_+m:Nat):Int):=e
  refine h.lay.d i j (L[i].at_+k) om ?_ ?_
  ·rw[h.at i,e1]
   exact⟨by show L[i].at_≤_;omega,by show _<L[i].at_+secs L[i].da.size;omega⟩
  rw[h.at j,e2]
  exact⟨by show L[j].at_≤_;omega,by show _<L[j].at_+secs L[j].da.size;omega⟩
 obtain⟨n,hn,rfl⟩:=in_sheet ha
 obtain⟨f,hf,hb⟩:=List.mem_flatMap.1 hb
 have:=(h.file hf hb).1
 simp only
 omega
end
theorem fm_congr {α β:Type} {f g:α→List β}:∀ {l:List α},(∀a∈l,f a=g a)→l.flatMap f=l.flatMap g
 | [],_=>rfl
 | a::l,h=>by rw[yv,yv,h a mH,fm_congr (fun x hx=>h x (zf _ hx))]
theorem fm_filter {α β:Type} {q:α→Bool} {g:α→List β}:∀(l:List α),(l.filter q).flatMap g=l.flatMap fun a=>if q a=true then g a else[]
 | []=>rfl
 | a::l=>by
  rw[qS,yv,←fm_filter l]
  split
  ·rw[yv]
  rfl
theorem list_range {L:List RF} (h:L.length=144):L=(List.range 144).map fun k=>L.getD k rfz:=by
 refine List.ext_getElem (by rw[zA,qk,h]) fun i h1 h2=>?_
 rw[List.getElem_map,List.getElem_range,zc,zd h1];rfl
theorem gget_key {dm:Dm} {k:Int}:(gget dm k).isSome=true↔k∈dm.map (·.1):=by
 constructor
 ·intro h
  obtain⟨v,hv⟩:=qP.1 h
  exact zv.2 ⟨_,gget_in hv,rfl⟩
 intro h
 obtain⟨v,hv⟩:=gget_is h
 rw[hv];rfl
theorem keys_range {D:DK} {dm:Dm} {L:List RF} (h:DmR D dm L):keysF dm=((List.range 144).filter fun(k:Nat)=>(gget dm (k:Int)).isSome).map fun(k:Nat)=>(k:Int):=by
 refine sorted_ext ?_ ?_ fun x=>?_
 ·have h1:=srt_sorted (dm.map (·.1))
  have h2:(srt (dm.map (·.1))).Nodup:=(srt_perm _).nodup_iff.2 h.nd
  exact(h1.and h2).imp fun hab=>by have:=hab.1;have:=hab.2;omega
 ·exact List.Pairwise.map _ (fun a b hab=>by omega) (List.pairwise_lt_range.filter _)
 unfold keysF
 rw[(srt_perm _).mem_iff]
 constructor
 ·intro hx
  obtain⟨p,hp,rfl⟩:=zv.1 hx
  have hr:=h.k p hp
  refine zv.2 ⟨p.1.toNat,qD.2 ⟨qz.2 om,?_⟩,by omega⟩
  rw[show((p.1.toNat:Nat):Int)=p.1 by omega]
  exact gget_key.2 hx
 intro hx
 obtain⟨k,hk,rfl⟩:=zv.1 hx
 exact gget_key.1 (qD.1 hk).2
theorem unl_no {N:Nat} {D:DK} (hw:Wl N D) {w:Wr} (hr:97≤w.1∧w.1<(N:Int)):unl D w=false↔shown D w.1=w.2:=by
 unfold unl
 rw[hw.flt ⟨by omega,hr.2⟩,hw.read ⟨by omega,hr.2⟩]
 simp
theorem ul_rel {N:Nat} {D:DK} {T:Tb} {L:List RF} {dm:Dm} (hw:Wl N D) (h:Rel N T L) (hd:DmR D dm L):ulF D (secF T dm)=(yE L).filter (unl D):=by
 unfold ulF secF yE
 rw[ja,ja,h.ps]
 congr 1
 rw[List.filter_flatMap,List.filter_flatMap,keys_range hd,List.flatMap_map,fm_filter]
 conv=>rhs;rw[list_range h.l,List.flatMap_map]
 refine fm_congr fun k hk=>?_
 have hk:=qz.1 hk
 rcases hd.g k hk with e|⟨e,hb⟩
 ·rw[e,if_pos (show(some (L.getD k rfz).da).isSome=true from rfl)]
  congr 1
  unfold keyW fileR
  rw[e,yk,h.at k];rfl
 rw[e,if_neg (show ¬(none:Option ByteArray).isSome=true by decide)]
 symm
 rw[List.filter_eq_nil_iff]
 intro w hx
 have hm:L.getD k rfz∈L:=getD_inN (by rw[h.l];exact hk)
 have h1:=(h.file hm hx).1
 obtain⟨j,hj,rfl⟩:=in_file hx
 rw[(unl_no hw ⟨by omega,h1.2⟩).2 (hb j hj)];decide
theorem OnD.onb {D:DK} {L:List RF} (h:OnD D L) {f:RF} (hf:f∈L):Onb D f:=fun j hj=>h (((f.at_+j:Nat):Int),qt f.da j) (qJ _ (List.mem_flatMap.2 ⟨f,hf,zv.2 ⟨j,qz.2 hj,rfl⟩⟩))
theorem OnD.dm {D:DK} {L:List RF} (h:OnD D L) (hl:L.length=144):DmR D [] L:=⟨fun k hk=>.inr ⟨rfl,h.onb (getD_inN (by rw[hl];exact hk))⟩,(fun p hp=>by cases hp),qX⟩
theorem dist_eq {l:List Wr} (h:Dist l) {a b:Wr} (ha:a∈l) (hb:b∈l) (e:a.1=b.1):a=b:=by
 have h1:=(lw_iff (r:=fun _=>none) (a:=a.1) (x:=a) h).2 (.inl ⟨ha,rfl⟩)
 have h2:=(lw_iff (r:=fun _=>none) (a:=a.1) (x:=b) h).2 (.inl ⟨hb,e.symm⟩)
 rw[h1]at h2
 exact Option.some.inj h2
theorem do_rel {N:Nat} {s:Fz} {L:List RF} {l:List FA} (hw:Wl N s.D) (hj:JHd N s.D) (h:Rel N s.T L) (hd:OnD s.D L) :
  ((qu N l L).1≠0→(doF s l).1=(qu N l L).1∧(doF s l).2=s)∧((qu N l L).1=0→((doF s l).1=0∧Rel N (doF s l).2.T (qu N l L).2∧OnD (doF s l).2.D (qu N l L).2∧JHd N (doF s l).2.D)∨((doF s l).1=15∧(doF s l).2=s∧96<((yE (qu N l L).2).filter (unl s.D)).length)):=by
 by_cases hl:l.length=0
 ·have e:l=[]:=ya hl
  subst e
  rw[do_none rfl]
  exact⟨fun x=>absurd rfl x,fun _=>.inl ⟨rfl,h,hd,hj⟩⟩
 obtain⟨h1,h2⟩:=acts_rel l h (hd.dm h.l)
 obtain⟨⟨e,T,dm⟩,ha⟩:∃x,actsF l s.T []=x:=⟨_,rfl⟩
 rw[ha]at h1 h2
 obtain⟨L2,hL2⟩:∃x,x=(qu N l L).2:=⟨_,rfl⟩
 rw[←hL2]at h2 ⊢
 rw[h1]
 by_cases he:e=0
 ·subst he
  refine⟨fun x=>absurd rfl x,fun _=>?_⟩
  obtain⟨h3,h4⟩:=h2 rfl
  have hu:=ul_rel hw h3 h4
  have hsec:=h3.sec hw.b
  have hdi:=h3.dist
  obtain⟨U,hU⟩:∃U,U=(yE L2).filter (unl s.D):=⟨_,rfl⟩
  have hUm:∀a∈U,a∈yE L2:=fun a ha=>by rw[hU]at ha;exact(qD.1 ha).1
  have hUd:Dist U:=by rw[hU];exact hdi.filter _
  obtain⟨c1,c2⟩:=commit_full (J:=⟨0,s.num,s.D⟩) hw rfl hj (l:=U) (fun a ha=>(hsec a (hUm a ha)).2) (fun a ha=>(hsec a (hUm a ha)).1) hUd
  have hc:comF s T dm=yZ ⟨0,s.num,s.D⟩ U:=by unfold comF;rw[hu,hU]
  rcases qy 96 U.length with h9|h9
  ·right
   have e15:=c1 h9
   have:=do_com hl ha (C:=yZ ⟨0,s.num,s.D⟩ U) hc.symm (by rw[e15];show(15:Int)≠0;decide)
   rw[this,e15]
   exact⟨rfl,rfl,by rw[←hU];exact h9⟩
  left
  obtain⟨d1,d2,d3,d4⟩:=c2 h9
  have:=do_ok hl ha (C:=yZ ⟨0,s.num,s.D⟩ U) hc.symm d1
  rw[this]
  refine⟨rfl,h3,fun w hx=>?_,d3⟩
  have hr:=(hsec w hx).1
  obtain⟨f1,f2⟩:=d4 w.1 hr.1
  by_cases hy:w∈U
  ·exact f2 w.2 hy
  have hn:unl s.D w=false:=qN.2 fun x=>hy (by rw[hU];exact qD.2 ⟨hx,x⟩)
  show shown (yZ ⟨0,s.num,s.D⟩ U).2.D w.1=w.2
  rw[f1 fun a ha e=>hy (by rw[←dist_eq hdi (hUm a ha) hx e];exact ha)]
  exact(unl_no hw hr).1 hn
 refine⟨fun _=>?_,fun x=>absurd x he⟩
 have:=do_act hl ha he
 rw[this]
 exact⟨rfl,rfl⟩
end
namespace I
open K (one aggB zx yT add_none run_v zI)
structure SortedKeysS (P:Program) (fS fK ety:Nat):Prop where
 has : ∃ fn c,P.funcs[fS]? = some fn ∧ (fn.name == "runtime.NumGoroutine") = false ∧ fn.body = some c
 some:∀(Bm b:Nat) (es:Array MapEntry) (clock:Nat) (ks:List (List UInt8)) (w:World),w.heap[b]? = .some (.map es clock)→Go.MapKept.Stamped es clock→es.toList.map (·.key)=ks.map Go.Proofs.encStr →
  (∀x∈ks,x.length≤Go.maxLen)→ks.length≤1000000→w.cell? ⟨Bm,0,none⟩=.some (.map (.some b)) →
  Calls P fS #[.func (.func fK) #[] #[.pointer (.some ⟨Bm,0,none⟩)]] w fun e w'=>∃v,e=.returned v∧w'.ownsRow w.heap.size ety 1 v ks.length ((ks.mergeSort leB).map Go.Proofs.encStr)∧(v=.slice none 0 0↔ks=[])∧Go.RowKit.Below w.heap.size w w'
 none:∀(Bm:Nat) (w:World),w.cell? ⟨Bm,0,none⟩=.some (.map none) →
  Calls P fS #[.func (.func fK) #[] #[.pointer (.some ⟨Bm,0,none⟩)]] w fun e w'=>e=.returned (.slice none 0 0)∧Go.RowKit.Below w.heap.size w w'
section

end
end I
namespace I
open Go.RowKit Go.Maps Go.Sort Go.Shelf Go.WideElems
def noReadS (_:Value):Option (DataW Unit×List MemPlace):=some (.nil,[])
theorem keyOf_strE {P:Program} {k:TypeId} {x:List UInt8} (hk:P.underlying k=some .string) (hl:x.length≤maxLen):keyOf P k (Go.Proofs.encStr x)=some (.string x):=by
 simp[keyOf,hk,mapKey,Go.Proofs.encStr,ByteArray.size]
 exact hl
theorem keys_permS {P:Program} {k:TypeId} (hk:P.underlying k=some .string):∀ {es:List MapEntry} {ks:List (List UInt8)},es.map (·.key)=ks.map Go.Proofs.encStr→(∀x∈ks,x.length≤maxLen) →
  (∀x∈es,∃y,rd P k noReadS x=some y)∧(es.map (Go.WideElems.rg P k noReadS)).map (fun p=>Go.strOf p.1)=ks
 | [],[],_,_=>⟨fun x hx=>(by cases hx),rfl⟩
 | [],_::_,h,_=>by simp at h
 | _::_,[],h,_=>by simp at h
 | e::es,x::ks,h,hw=>by
  simp only[List.map_cons,List.cons.injEq]at h
  obtain⟨h1,h2⟩:=h
  obtain⟨g1,g2⟩:=keys_permS hk h2 (fun y hy=>hw y (zf _ hy))
  have hrd:rd P k noReadS e=some (.string x,.nil):=by
   have:=keyOf_strE hk (hw x mH)
   simp[Go.WideElems.rd,h1,this,noReadS]
  refine⟨fun y hy=>?_,?_⟩
  ·rcases zq.1 hy with rfl|hy
   ·exact⟨_,hrd⟩
   exact g1 y hy
  simp only[List.map_cons,g2,rg_of hrd]
  rfl
theorem sortedKeysS_of {P:Program} {ρk ρs:Ren} (Lk:SlLaysZ.n7 P ρk) (Ls:SlLaysZ.n6 P ρs) (hsort:∀m,AnyZ.SortsIn P ρs Fence.wide m) (e9:∀args w,(callFunc (ρs.f 9) args).run P w=.ok (.enter (ρs.f 9) args) w) :
  SortedKeysS P (ρs.f 6) (ρk.f 10) (ρs.t 26):=by
 have eg:∀args w,(callFunc (ρk.f 10) args).run P w=.ok (.enter (ρk.f 10) args) w:=Lk.f10.enters rfl
 refine⟨?_,fun Bm b es clock ks w hb hst hk hw hle hcell=>?_,fun Bm w hcell=>?_⟩
 ·obtain⟨nm,h1,h2⟩:=Ls.f6
  exact⟨_,_,h2,h1,rfl⟩
 ·obtain⟨g1,g2⟩:=keys_permS (P:=P) Lk.t26 hk hw
  have hlen:es.size=ks.length:=by
   have:=congrArg List.length hk
   simpa using this
  have hp:(strKeys (DataW.map ((es.toList.map (Go.WideElems.rg P (ρk.t 26) noReadS)).foldr DataW.insert []))).Perm ks:=by
   have:=((WideShapes.sorted_perm (es.toList.map (Go.WideElems.rg P (ρk.t 26) noReadS))).map (fun p=>Go.strOf p.1))
   rw[g2]at this
   exact this
  have hsz:Maps.size (DataW.map ((es.toList.map (Go.WideElems.rg P (ρk.t 26) noReadS)).foldr DataW.insert []))=ks.length:=by
   have:=(WideShapes.sorted_perm (es.toList.map (Go.WideElems.rg P (ρk.t 26) noReadS))).length_eq
   simpa [Maps.size,hlen] using this
  have hown:w.ownsMap P (ρk.t 26) noReadS b es.size (DataW.map ((es.toList.map (Go.WideElems.rg P (ρk.t 26) noReadS)).foldr DataW.insert [])):=
   ⟨es,clock,hb,⟨by rw[hlen];exact yU hle (by decide),hst,g1⟩,zD _,rfl⟩
  have hBm:Bm<w.heap.size:=by
   cases hx:w.heap[Bm]? with
   | none=>simp[World.cell?,hx]at hcell
   | some o=>exact(jf.1 hx).1
  have hseq:=AnyZ.keys_gives (ρ:=ρk) {Lk with} Fence.wide 2 trivial rfl om Bm b es.size _ w hBm hcell hown
  have cS:=AnyZ.sorted_in Ls Fence.wide 5 trivial trivial trivial trivial rfl om (hsort _) e9 (ρk.f 10) #[pT Bm] trivial eg _ _ (by rw[hsz];exact yU hle (by decide)) (by rw[hsz];omega) w hseq
  refine((callsIn_wide (n:=5)).1 cS).mono ?_
  rintro e w' ⟨v,ss,rfl,hS,hrow,hnil,hB⟩
  have hpp:ss.Perm ks:=hS.trans hp
  rw[hpp.length_eq,mergeSort_of_perm hpp]at hrow
  refine⟨v,rfl,hrow,?_,hB⟩
  rw[hnil]
  constructor
  ·intro h;subst h;exact List.Perm.nil_eq hpp |>.symm
  intro h;subst h;exact List.Perm.eq_nil hpp
 have hBm:Bm<w.heap.size:=by
  cases hx:w.heap[Bm]? with
  | none=>simp[World.cell?,hx]at hcell
  | some o=>exact(jf.1 hx).1
 have hseq:=AnyZ.keys_gives_nil (ρ:=ρk) {Lk with} Fence.wide 2 trivial rfl Bm w hBm hcell
 have cS:=AnyZ.sorted_in Ls Fence.wide 5 trivial trivial trivial trivial rfl om (hsort _) e9 (ρk.f 10) #[pT Bm] trivial eg _ 0 (zH _) om w hseq
 refine((callsIn_wide (n:=5)).1 cS).mono ?_
 rintro e w' ⟨v,ss,rfl,rfl,hrow,hnil,hB⟩
 obtain rfl:=hnil.2 rfl
 exact⟨rfl,hB⟩
end I
namespace K
section
open Go.RowKit Go.Maps Go.Sort Go.Shelf Go.WideElems
def srtB (l:List (List UInt8)):List (List UInt8):=l.mergeSort leB
theorem srtB_perm (l:List (List UInt8)):(srtB l).Perm l:=List.mergeSort_perm l leB
theorem srtB_len (l:List (List UInt8)):(srtB l).length=l.length:=(srtB_perm l).length_eq
def srtS (l:List ByteArray):List ByteArray:=(srtB (l.map fun s=>s.data.toList)).map fun x=>⟨x.toArray⟩
theorem srtS_perm (l:List ByteArray):(srtS l).Perm l:=by
 have h:=(srtB_perm (l.map fun s=>s.data.toList)).map (fun x:List UInt8=>(⟨x.toArray⟩:ByteArray))
 rw[q5]at h
 have e:l.map ((fun x:List UInt8=>(⟨x.toArray⟩:ByteArray)) ∘ fun s=>s.data.toList)=l:=by
  conv=>rhs;rw[←List.map_id l]
  exact List.map_congr_left fun s _=>rfl
 rw[e]at h
 exact h
theorem srtS_len (l:List ByteArray):(srtS l).length=l.length:=(srtS_perm l).length_eq
theorem srtS_cells (l:List ByteArray):(srtS l).map Value.string=(srtB (l.map fun s=>s.data.toList)).map Go.Proofs.encStr:=by
 unfold srtS
 rw[q5];rfl
theorem sorted_givesS {P:Program} {fS fK ety:Nat} (S:I.SortedKeysS P fS fK ety) (bm r:Nat) (es:Array MapEntry) (ck:Nat) (W:List (ByteArray×Value)) (w:World) (h:SMapOk es ck W) (hb:w.heap[r]? = .some (.map es ck)) (hk:∀p∈W,p.1.size≤Go.maxLen) (hl:W.length≤1000000)
  (hc:w.cell? ⟨bm,0,none⟩=.some (.map (.some r))) :
  Calls P fS #[.func (.func fK) #[] #[.pointer (.some ⟨bm,0,none⟩)]] w fun e w'=>∃o:Own,OwnOk o 1 W.length ((srtS (W.map (·.1))).map Value.string)∧e=.returned (.slice o.a W.length o.c)∧Has w' (o.o ety ((srtS (W.map (·.1))).map Value.string))∧(∀x∈o.o ety ((srtS (W.map (·.1))).map Value.string),w.heap.size≤x.1)∧Ext [] w w':=by
 obtain⟨ks,hks⟩:∃ks,ks=(W.map (·.1)).map (fun s=>s.data.toList):=⟨_,rfl⟩
 have hlen:ks.length=W.length:=by rw[hks,zA,zA]
 have hkeys:es.toList.map (·.key)=ks.map Go.Proofs.encStr:=by
  have:=congrArg (List.map (·.1)) h.rel
  rw[q5,q5]at this
  rw[hks,q5,q5]
  exact this
 have hcl:(srtS (W.map (·.1))).map Value.string=(srtB ks).map Go.Proofs.encStr:=by rw[srtS_cells,hks]
 have hsl:((srtB ks).map Go.Proofs.encStr).length=W.length:=by rw[zA,srtB_len,hlen]
 rw[hcl]
 refine(S.some bm r es ck ks w hb h.st hkeys (fun x hx=>by
  rw[hks]at hx
  obtain⟨s,hs,rfl⟩:=zv.1 hx
  obtain⟨p,hp,rfl⟩:=zv.1 hs
  exact hk p hp) (by rw[hlen];exact hl) hc).mono ?_
 rintro e w' ⟨v,rfl,hrow,_,hB⟩
 rw[hlen]at hrow
 have hx:Ext [] w w':=⟨hB.os,hB.tape,hB.output,hB.size,fun k hk _=>hB.block k hk⟩
 rcases hrow.2 with ⟨rfl,h0⟩|⟨g,cap,cur,rfl,hbase,hg,r1,_,r3,r4⟩
 ·have e0:(srtB ks).map Go.Proofs.encStr=[]:=ya (by rw[hsl,h0])
  rw[e0,h0]
  exact⟨.none,OwnOk.none 1,rfl,(fun e he=>by cases he),(fun e he=>by cases he),hx⟩
 have hcur:((srtB ks).map Go.Proofs.encStr++cur.toList.drop W.length).toArray=cur:=by
  apply qq
  show(srtB ks).map Go.Proofs.encStr++cur.toList.drop W.length=cur.toList
  have r4':cur.toList.take W.length=(srtB ks).map Go.Proofs.encStr:=by rw[jg]at r4;exact r4
  rw[←r4',yz]
 refine⟨.some (g,cap,cur.toList.drop W.length),⟨by rw[hsl,jg],fun h=>(by cases h),fun p hp=>?_⟩,rfl,fun e he=>?_,fun e he=>?_,hx⟩
 ·cases hp
  refine⟨?_,r1⟩
  have r3':cur.toList.length=cap:=by rw[z7,r3,jg]
  simp only
  rw[hsl,qg,r3'];omega
 ·rw[zi.1 he]
  simp only
  rw[hcur];exact hg
 rw[zi.1 he];exact hbase
end
end K
section
open Go.Shelf Go.Proofs
def L.keys43_ren:Go.Shelf.Ren:=⟨fun|7=>43|10=>86|n=>n,fun|23=>81|26=>9|3=>3|28=>107|0=>0|27=>106|33=>45|4=>4|n=>n,fun|n=>n⟩
theorem L.keys43:Go.Proofs.SlLaysZ.n7 Tryz.prog L.keys43_ren:={
 mixed:=by kernel_rfl,
 f7:=⟨Tryz.f43.name,by decide,Tryz.func43.trans (congrArg some kr)⟩,
 f10:=⟨Tryz.f86.name,by decide,Tryz.func86.trans (congrArg some kr)⟩,
 t0:=Tryz.underlying0,
 a0:=Tryz.isAgg0,
 z0:=Tryz.sizeOf0,
 v0:=Tryz.zeroValue0,
 t4:=Tryz.underlying4,
 a4:=Tryz.isAgg4,
 z4:=Tryz.sizeOf4,
 v4:=Tryz.zeroValue4,
 t23:=Tryz.underlying81,
 a23:=Tryz.isAgg81,
 z23:=Tryz.sizeOf81,
 v23:=Tryz.zeroValue81,
 t26:=Tryz.underlying9,
 a26:=Tryz.isAgg9,
 z26:=Tryz.sizeOf9,
 v26:=Tryz.zeroValue9,
 t27:=Tryz.underlying106,
 a27:=Tryz.isAgg106,
 z27:=Tryz.sizeOf106,
 v27:=Tryz.zeroValue106,
 t28:=Tryz.underlying107,
 a28:=Tryz.isAgg107,
 z28:=Tryz.sizeOf107,
 v28:=Tryz.zeroValue107,
 t33:=Tryz.underlying45,
 a33:=Tryz.isAgg45,
 z33:=Tryz.sizeOf45,
 v33:=Tryz.zeroValue45}
def L.sorted42_ren:Go.Shelf.Ren:=⟨fun|6=>42|8=>84|9=>85|11=>125|13=>127|12=>126|23=>160|24=>161|14=>151|15=>152|16=>153|17=>154|18=>155|19=>156|20=>157|21=>158|22=>159|25=>186|26=>187|27=>188|28=>189|29=>190|30=>191|31=>202|n=>n,fun|26=>9|28=>107|24=>41|0=>0|3=>3|37=>189|48=>157|50=>141|4=>4|40=>239|39=>238|45=>109|5=>5|9=>9|51=>267|55=>270|57=>281|58=>127|33=>45|n=>n,fun|n=>n⟩
theorem L.sorted42:Go.Proofs.SlLaysZ.n6 Tryz.prog L.sorted42_ren:={
 mixed:=by kernel_rfl,
 f6:=⟨Tryz.f42.name,by decide,Tryz.func42.trans (congrArg some kr)⟩,
 f8:=⟨Tryz.f84.name,by decide,Tryz.func84.trans (congrArg some kr)⟩,
 f11:=⟨Tryz.f125.name,by decide,Tryz.func125.trans (congrArg some kr)⟩,
 t0:=Tryz.underlying0,
 a0:=Tryz.isAgg0,
 z0:=Tryz.sizeOf0,
 v0:=Tryz.zeroValue0,
 t24:=Tryz.underlying41,
 a24:=Tryz.isAgg41,
 z24:=Tryz.sizeOf41,
 v24:=Tryz.zeroValue41,
 t26:=Tryz.underlying9,
 a26:=Tryz.isAgg9,
 z26:=Tryz.sizeOf9,
 v26:=Tryz.zeroValue9,
 t28:=Tryz.underlying107,
 a28:=Tryz.isAgg107,
 z28:=Tryz.sizeOf107,
 v28:=Tryz.zeroValue107,
 i26:=by kernel_rfl}
def L.sort85_ren:Go.Shelf.Ren:=⟨fun|6=>85|8=>127|9=>126|19=>160|20=>161|21=>151|22=>152|23=>153|24=>154|25=>155|26=>156|27=>157|28=>158|29=>159|36=>186|31=>187|32=>188|37=>189|38=>190|39=>191|41=>202|n=>n,fun|27=>41|29=>9|3=>3|32=>189|26=>41|0=>0|44=>157|46=>141|4=>4|36=>239|35=>238|41=>109|5=>5|9=>9|53=>267|57=>270|63=>281|64=>127|n=>n,fun|n=>n⟩
theorem L.sort85:Go.Proofs.SlLaysM.n6 Tryz.prog L.sort85_ren:={
 mixed:=by kernel_rfl,
 f6:=⟨Tryz.f85.name,by decide,Tryz.func85.trans (congrArg some kr)⟩,
 f8:=Tryz.func127.trans (congrArg some kr),
 f9:=⟨Tryz.f126.name,by decide,Tryz.func126.trans (congrArg some kr)⟩,
 f19:=Tryz.func160.trans (congrArg some kr),
 f20:=Tryz.func161.trans (congrArg some kr),
 f21:=⟨Tryz.f151.name,by decide,Tryz.func151.trans (congrArg some kr)⟩,
 f22:=⟨Tryz.f152.name,by decide,Tryz.func152.trans (congrArg some kr)⟩,
 f23:=⟨Tryz.f153.name,by decide,Tryz.func153.trans (congrArg some kr)⟩,
 f24:=⟨Tryz.f154.name,by decide,Tryz.func154.trans (congrArg some kr)⟩,
 f25:=⟨Tryz.f155.name,by decide,Tryz.func155.trans (congrArg some kr)⟩,
 f26:=⟨Tryz.f156.name,by decide,Tryz.func156.trans (congrArg some kr)⟩,
 f27:=⟨Tryz.f157.name,by decide,Tryz.func157.trans (congrArg some kr)⟩,
 f28:=⟨Tryz.f158.name,by decide,Tryz.func158.trans (congrArg some kr)⟩,
 f29:=⟨Tryz.f159.name,by decide,Tryz.func159.trans (congrArg some kr)⟩,
 f31:=Tryz.func187.trans (congrArg some kr),
 f32:=Tryz.func188.trans (congrArg some kr),
 f36:=⟨Tryz.f186.name,by decide,Tryz.func186.trans (congrArg some kr)⟩,
 f37:=⟨Tryz.f189.name,by decide,Tryz.func189.trans (congrArg some kr)⟩,
 f38:=⟨Tryz.f190.name,by decide,Tryz.func190.trans (congrArg some kr)⟩,
 f39:=⟨Tryz.f191.name,by decide,Tryz.func191.trans (congrArg some kr)⟩,
 f41:=⟨Tryz.f202.name,by decide,Tryz.func202.trans (congrArg some kr)⟩,
 t0:=Tryz.underlying0,
 a0:=Tryz.isAgg0,
 z0:=Tryz.sizeOf0,
 v0:=Tryz.zeroValue0,
 t3:=Tryz.underlying3,
 a3:=Tryz.isAgg3,
 z3:=Tryz.sizeOf3,
 v3:=Tryz.zeroValue3,
 t4:=Tryz.underlying4,
 a4:=Tryz.isAgg4,
 z4:=Tryz.sizeOf4,
 v4:=Tryz.zeroValue4,
 t5:=Tryz.underlying5,
 a5:=Tryz.isAgg5,
 z5:=Tryz.sizeOf5,
 v5:=Tryz.zeroValue5,
 t9:=Tryz.underlying9,
 a9:=Tryz.isAgg9,
 z9:=Tryz.sizeOf9,
 v9:=Tryz.zeroValue9,
 t26:=Tryz.underlying41,
 a26:=Tryz.isAgg41,
 z26:=Tryz.sizeOf41,
 v26:=Tryz.zeroValue41,
 t27:=Tryz.underlying41,
 a27:=Tryz.isAgg41,
 z27:=Tryz.sizeOf41,
 v27:=Tryz.zeroValue41,
 t29:=Tryz.underlying9,
 a29:=Tryz.isAgg9,
 z29:=Tryz.sizeOf9,
 v29:=Tryz.zeroValue9,
 t32:=Tryz.underlying189,
 a32:=Tryz.isAgg189,
 z32:=Tryz.sizeOf189,
 v32:=Tryz.zeroValue189,
 t35:=Tryz.underlying238,
 a35:=Tryz.isAgg238,
 z35:=Tryz.sizeOf238,
 v35:=Tryz.zeroValue238,
 t36:=Tryz.underlying239,
 a36:=Tryz.isAgg239,
 z36:=Tryz.sizeOf239,
 v36:=Tryz.zeroValue239,
 t41:=Tryz.underlying109,
 a41:=Tryz.isAgg109,
 z41:=Tryz.sizeOf109,
 v41:=Tryz.zeroValue109,
 t44:=Tryz.underlying157,
 a44:=Tryz.isAgg157,
 z44:=Tryz.sizeOf157,
 v44:=Tryz.zeroValue157,
 t46:=Tryz.underlying141,
 a46:=Tryz.isAgg141,
 z46:=Tryz.sizeOf141,
 v46:=Tryz.zeroValue141,
 t53:=Tryz.underlying267,
 a53:=Tryz.isAgg267,
 z53:=Tryz.sizeOf267,
 v53:=Tryz.zeroValue267,
 t57:=Tryz.underlying270,
 a57:=Tryz.isAgg270,
 z57:=Tryz.sizeOf270,
 v57:=Tryz.zeroValue270,
 t63:=Tryz.underlying281,
 a63:=Tryz.isAgg281,
 z63:=Tryz.sizeOf281,
 v63:=Tryz.zeroValue281,
 t64:=Tryz.underlying127,
 a64:=Tryz.isAgg127,
 z64:=Tryz.sizeOf127,
 v64:=Tryz.zeroValue127}
theorem L.sorts42 (m:Nat):AnyZ.SortsIn Tryz.prog L.sorted42_ren Fence.wide m:=
  ⟨fun blk off cap ss W hH hblk hsz=>callsIn_wide.2 (AnyM.slices_Sort_string L.sort85 blk off cap ss W hH hblk hsz),
   fun p cap W=>callsIn_wide.2 (AnyM.slices_Sort_string_none L.sort85 p cap W)⟩
theorem L.sortedKeys43:I.SortedKeysS Tryz.prog 42 86 9:=I.sortedKeysS_of L.keys43 L.sorted42 L.sorts42 (enters_of Tryz.func85 (by kernel_rfl) rfl)
end
end Go.Proofs.YtfgdepggdiibdaaGreatDoor