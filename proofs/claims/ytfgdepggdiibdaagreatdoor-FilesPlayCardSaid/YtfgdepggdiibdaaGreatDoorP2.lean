/- Texts on which the proof of this claim stands: K21, K22, K14, K15, K16, K23, K28, K29, Dk1, Sha6, Bld. -/
import Derived.Test.YtfgdepggdiibdaaGreatDoorP1
import Derived.MapKept
import Derived.Lib.SlKeysI
import Derived.Below
import Derived.Shelf.SlIterI.Nil
import Derived.ArgAppend
import Derived.Test.YtfgdepggdiibdaaGreatDoorChecked
import Derived.Test.YtfgdepggdiibdaaGreatDoorRows
set_option linter.unusedVariables false
set_option maxRecDepth 100000
set_option maxHeartbeats 8000000
namespace Go.Proofs.YtfgdepggdiibdaaGreatDoor
open List (replicate)
namespace K
section
open Go.MapKept
structure MapOk (es:Array MapEntry) (ck:Nat) (W:List (Int×Value)):Prop where
 rel:es.toList.map (fun e=>(e.key,e.val))=W.map fun p=>(Value.int .i64 p.1,p.2)
 st:Stamped es ck
def mfind (k:Int):List (Int×Value)→Nat→Option (Nat×Value)
 | [],_=>none
 | p::W,i=>if k=p.1 then some (i,p.2)else mfind k W (i+1)
def mget (W:List (Int×Value)) (k:Int):Option Value:=match W with
 | []=>none
 | p::W=>if k=p.1 then some p.2 else mget W k
def mset (W:List (Int×Value)) (k:Int) (v:Value):List (Int×Value):=match W with
 | []=>[(k,v)]
 | p::W=>if k=p.1 then(k,v)::W else p::mset W k v
theorem mfind_get (k:Int):∀(W:List (Int×Value)) (i:Nat),(mfind k W i).map (·.2)=mget W k
 | [],_=>rfl
 | p::W,i=>by
  unfold mfind mget
  split
  ·rfl
  exact mfind_get k W (i+1)
theorem findNow_of (q:IntKind) (k:Int):∀(es:List MapEntry) (W:List (Int×Value)) (i:Nat),es.map (fun e=>(e.key,e.val))=W.map (fun p=>(Value.int .i64 p.1,p.2))→Instr.findNow (.int q) (.int .i64 k) es i=some (mfind k W i)
 | [],[],_,_=>rfl
 | [],_::_,_,h=>by simp at h
 | _::_,[],_,h=>by simp at h
 | e::es,p::W,i,h=>by
  simp only[List.map_cons,List.cons.injEq,Prod.mk.injEq]at h
  obtain⟨⟨h1,h2⟩,h3⟩:=h
  unfold Instr.findNow mfind
  rw[h1]
  simp only[Instr.sameNow,if_true]
  by_cases hk:k=p.1
  ·subst hk;simp[h2]
  rw[if_neg hk,show(k==p.1)=false from beq_eq_false_iff_ne.2 hk]
  exact findNow_of q k es W (i+1) h3
theorem mfind_some {k:Int}:∀ {W:List (Int×Value)} {i j:Nat} {v:Value},mfind k W i=some (j,v)→i≤j∧W[j-i]? = some (k,v)
 | [],_,_,_,h=>by cases h
 | p::W,i,j,v,h=>by
  unfold mfind at h
  split at h
  ·rename_i hk
   simp only[Option.some.injEq,Prod.mk.injEq]at h
   obtain⟨rfl,rfl⟩:=h
   refine⟨zD _,?_⟩
   rw[qH,List.getElem?_cons_zero,hk]
  obtain⟨h1,h2⟩:=mfind_some h
  refine⟨by omega,?_⟩
  rw[show j-i=(j-(i+1))+1 by omega,List.getElem?_cons_succ];exact h2
theorem mfind_set {k:Int} (u:Value):∀ {W:List (Int×Value)} {i j:Nat} {v:Value},mfind k W i=some (j,v)→mset W k u=W.set (j-i) (k,u)
 | [],_,_,_,h=>by cases h
 | p::W,i,j,v,h=>by
  unfold mfind at h
  unfold mset
  split at h
  ·rename_i hk
   simp only[Option.some.injEq,Prod.mk.injEq]at h
   obtain⟨rfl,rfl⟩:=h
   rw[if_pos hk,qH,List.set_cons_zero]
  rename_i hk
  have h1:=(mfind_some h).1
  rw[if_neg hk,mfind_set u h,show j-i=(j-(i+1))+1 by omega,List.set_cons_succ]
theorem mfind_none {k:Int} (u:Value):∀ {W:List (Int×Value)} {i:Nat},mfind k W i=none→mset W k u=W++[(k,u)]∧∀p∈W,p.1≠k
 | [],_,_=>⟨rfl,fun p h=>by cases h⟩
 | p::W,i,h=>by
  unfold mfind at h
  unfold mset
  split at h
  ·cases h
  rename_i hk
  obtain⟨h1,h2⟩:=mfind_none u h
  rw[if_neg hk,h1]
  refine⟨rfl,fun q hq=>?_⟩
  rcases zq.1 hq with rfl|hq
  ·exact fun e=>hk e.symm
  exact h2 q hq
section
variable {P:Program} {w:World}
theorem int_key {q:IntKind} {k:Int} {kt:TypeId} (hd:P.underlying kt=some (.int q)) (e:Bool):(Instr.checkKey e 10000 kt (.int .i64 k)).run P w=.ok () w:=by
 show(Instr.checkKey e (9999+1) kt (.int .i64 k)).run P w=_
 unfold Instr.checkKey
 simp only[Sem.run_bind,zx hd,Result.andThen_ok];rfl
theorem int_find {q:IntKind} {k:Int} {kt:TypeId} (hd:P.underlying kt=some (.int q)) {es:Array MapEntry} {ck:Nat} {W:List (Int×Value)} (h:MapOk es ck W):(Instr.findKey kt (.int .i64 k) es.toList).run P w=.ok (mfind k W 0) w:=by
 unfold Instr.findKey
 simp only[Sem.run_bind,zx hd,Result.andThen_ok,findNow_of q k _ _ 0 h.rel];rfl
theorem run_lookup {t kt e:TypeId} {q:IntKind} {k:Int} {r:Nat} {es:Array MapEntry} {ck:Nat} {W:List (Int×Value)} {z:Value} (hm:P.underlying t=some (.map kt e)) (hd:P.underlying kt=some (.int q)) (hz0:(P.info? e).bind (·.zero)=some z) (hb:w.heap[r]? = some (.map es ck)) (h:MapOk es ck W) (ok:Bool) :
  (Instr.lookup t (.map (some r)) (.int .i64 k) ok).run P w=.ok (if ok then .tuple #[(mget W k).getD z,.bool (mget W k).isSome] else(mget W k).getD z) w:=by
 obtain⟨inf,hi,hz⟩:=qK.1 hz0
 have hzv:(zeroValue e).run P w=.ok z w:=by simp[zeroValue,typeInfo,program,Sem.run,hi,hz]
 unfold Instr.lookup
 simp only[Sem.run_bind,zx hm,Result.andThen_ok,Go.MapKept.run_getObj_map hb,Sem.run_pure,int_key hd,int_find hd h]
 rw[←mfind_get k W 0]
 cases mfind k W 0 with
 | none=>simp only[Sem.run_bind,hzv,Result.andThen_ok,Sem.run_pure];cases ok <;> rfl
 | some p=>cases ok <;> rfl
theorem run_mapUpdate {t kt e:TypeId} {q:IntKind} {k:Int} {v:Value} {r:Nat} {es:Array MapEntry} {ck:Nat} {W:List (Int×Value)} (hm:P.underlying t=some (.map kt e)) (hd:P.underlying kt=some (.int q)) (hb:w.heap[r]? = some (.map es ck)) (h:MapOk es ck W) :
  ∃es' ck',MapOk es' ck' (mset W k v)∧(Instr.mapUpdate t (.map (some r)) (.int .i64 k) v).run P w=.ok () {w with heap:=w.heap.setIfInBounds r (.map es' ck')}:=by
 cases hf:mfind k W 0 with
 | none=>
  obtain⟨h1,h2⟩:=mfind_none v hf
  refine⟨es.push {key:=.int .i64 k,val:=v,born:=ck},ck+1,⟨?_,stamped_push h.st ?_⟩,?_⟩
  ·rw[Array.toList_push,yf,h.rel,h1,yf];rfl
  ·intro x hx hk
   have hx2:(x.key,x.val)∈W.map fun p=>(Value.int .i64 p.1,p.2):=by rw[←h.rel];exact zv.2 ⟨x,hx,rfl⟩
   obtain⟨p,hp,he⟩:=zv.1 hx2
   simp only[Prod.mk.injEq]at he
   rw[hk]at he
   have:=he.1
   simp only[Value.int.injEq,true_and]at this
   exact h2 p hp this
  ·simp only[Instr.mapUpdate,Sem.run_bind,zx hm,Result.andThen_ok,Go.MapKept.run_getObj_map hb,int_key hd,int_find hd h,hf,Go.MapKept.run_setObj_map _ hb]
 | some jp=>
  obtain⟨j,u⟩:=jp
  obtain⟨_,hW⟩:=mfind_some hf
  rw[Nat.sub_zero]at hW
  have hlen:es.toList.length=W.length:=by have:=congrArg List.length h.rel;simpa using this
  have hjW:j<W.length:=(yu.1 hW).1
  have hj:j<es.size:=by rw[←z7];omega
  have hej:(es[j].key,es[j].val)=(Value.int .i64 k,u):=by
   have h3:(es.toList.map (fun e=>(e.key,e.val)))[j]? = (W.map fun p=>(Value.int .i64 p.1,p.2))[j]?:=by rw[h.rel]
   rw[qa,qa,hW,qj,qp hj]at h3
   simpa using h3
  simp only[Prod.mk.injEq]at hej
  have hkt:(Instr.keyThatStays (((es[j]?).map (·.key)).getD (.int .i64 k)) (.int .i64 k)).run P w=.ok (.int .i64 k) w:=by
   rw[qp hj,Option.map_some,qR,hej.1]
   exact run_keyThatStays (d:=.int .i64) (by first|trivial|rfl|exact⟨_,rfl⟩)
  refine⟨es.modify j (fun e=>{e with key:=.int .i64 k,val:=v}),ck,⟨?_,stamped_modify h.st j _ (fun _ _=>rfl) (fun e _ hge=>by rw[qp hj]at hge;cases hge;exact hej.1.symm)⟩,?_⟩
  ·rw[mfind_set v hf,Nat.sub_zero,List.map_set,←h.rel]
   apply List.ext_getElem?
   intro q
   simp only[List.getElem?_map,Array.getElem?_toList,Array.getElem?_modify,List.getElem?_set,List.length_map,Array.length_toList]
   by_cases hq:j=q
   ·subst hq;simp[hj]
   ·simp[hq]
  ·simp only[Instr.mapUpdate,Sem.run_bind,zx hm,Result.andThen_ok,Go.MapKept.run_getObj_map hb,int_key hd,int_find hd h,hf,hkt,Go.MapKept.run_setObj_map _ hb]
end
section
variable {C:Cx} {R O:List (Nat×Obj)} {Γ:Env} {op:Oper}
theorem Eff.mapGet {t kt e:TypeId} {q:IntKind} {x y:Operand} {ok:Bool} (ho:op.op=.lookup t x y ok) (hm:C.P.underlying t=some (.map kt e)) (hd:C.P.underlying kt=some (.int q)) {z:Value} (hz0:(C.P.info? e).bind (·.zero)=some z) {r:Nat} {k:Int} (hx:opd Γ [] x=some (.map (some r))) (hy:opd Γ [] y=some (.int .i64 k))
  {es:Array MapEntry} {ck:Nat} {W:List (Int×Value)} (h:MapOk es ck W) (hb:∀w,HP C.w0 C.M R O w→w.heap[r]? = some (.map es ck)) :
  Eff C R O Γ op Unit (fun _=>if ok then .tuple #[(mget W k).getD z,.bool (mget W k).isSome] else(mget W k).getD z) (fun _=>O) (fun _=>True):=
 yL fun a w hs hp=>⟨(),w,trivial,by
  simp only[execOp,ho]
  refine run_v ?_
  rw[yI hs (zW _) hx,yI hs (zW _) hy]
  exact run_lookup hm hd hz0 (hb w hp) h ok,hp⟩
theorem Eff.mapGetV {t kt e:TypeId} {q:IntKind} {x y:Operand} (ho:op.op=.lookup t x y false) (hm:C.P.underlying t=some (.map kt e)) (hd:C.P.underlying kt=some (.int q)) {z:Value} (hz0:(C.P.info? e).bind (·.zero)=some z) {r:Nat} {k:Int} (hx:opd Γ [] x=some (.map (some r))) (hy:opd Γ [] y=some (.int .i64 k))
  {es:Array MapEntry} {ck:Nat} {W:List (Int×Value)} (h:MapOk es ck W) (hb:∀w,HP C.w0 C.M R O w→w.heap[r]? = some (.map es ck)) {v:Value} (hv:mget W k=some v) :
  Eff C R O Γ op Unit (fun _=>v) (fun _=>O) (fun _=>True):=by
 have h1:=Eff.mapGet (z:=z) ho hm hd hz0 hx hy h hb
 rw[hv]at h1
 exact h1
theorem Eff.mapSet {t kt e:TypeId} {q:IntKind} {x y v:Operand} (ho:op.op=.mapUpdate t x y v) (hm:C.P.underlying t=some (.map kt e)) (hd:C.P.underlying kt=some (.int q)) {r:Nat} {k:Int} {u:Value} (hx:opd Γ [] x=some (.map (some r))) (hy:opd Γ [] y=some (.int .i64 k)) (hv:opd Γ [] v=some u)
  {es:Array MapEntry} {ck:Nat} {W:List (Int×Value)} (h:MapOk es ck W) (i:Nat) (hO:O[i]? = some (r,.map es ck)) :
  Eff C R O Γ op (Array MapEntry×Nat) (fun _=>undef) (fun x=>O.set i (r,.map x.1 x.2)) (fun x=>MapOk x.1 x.2 (mset W k u)):=by
 refine Eff.of_skip fun a w hs hp=>?_
 obtain⟨es',ck',h1,h2⟩:=run_mapUpdate (v:=u) (k:=k) hm hd (hp.own _ (yg hO)) h
 refine⟨(es',ck'),_,h1,?_,hp.set i (.map es' ck') hO (w':={w with heap:=w.heap.setIfInBounds r (.map es' ck')}) rfl rfl rfl rfl⟩
 have e1:=yI hs (zW _) hx
 have e2:=yI hs (zW _) hy
 have e3:=yI hs (zW _) hv
 simp[execOp,ho,e1,e2,e3,h2]
theorem Eff.mapNew {t:TypeId} (ho:op.op=.makeMap t none):Eff C R O Γ op Nat (fun b=>.map (some b)) (fun b=>(b,.map #[] 0)::O) (fun b=>C.w0.heap.size≤b∧b∉O.map (·.1)):=by
 refine yL fun a w hs hp=>⟨w.heap.size,w.alloc (.map #[] 0),⟨hp.ext.size,hp.fresh (zD _)⟩,?_,hp.alloc _⟩
 simp[execOp,ho,Instr.makeMap,newObj,Sem.run]
theorem MapOk.empty (ck:Nat):MapOk #[] ck []:=⟨rfl,stamped_empty ck⟩
theorem Eff.mapClear {t kt e:TypeId} {x:Operand} (ho:op.op=.call ⟨.builtin .clear,#[x],#[t]⟩) (hm:C.P.underlying t=some (.map kt e)) {r:Nat} (hx:opd Γ [] x=some (.map (some r))) {es:Array MapEntry} {ck:Nat} (i:Nat) (hO:O[i]? = some (r,.map es ck)) :
  Eff C R O Γ op Unit (fun _=>.tuple #[]) (fun _=>O.set i (r,.map #[] ck)) (fun _=>True):=by
 refine yL fun a w hs hp=>?_
 have hb:=hp.own _ (yg hO)
 refine⟨(),_,trivial,?_,hp.set i (.map #[] ck) hO (w':={w with heap:=w.heap.setIfInBounds r (.map #[] ck)}) rfl rfl rfl rfl⟩
 have hr':(Builtin.clear_ #[t] op.type #[.map (some r)]).run C.P w=.ok (.tuple #[]) {w with heap:=w.heap.setIfInBounds r (.map #[] ck)}:=by
  simp[Builtin.clear_,zx hm,Go.MapKept.run_getObj_map hb,Go.MapKept.run_setObj_map _ hb]
 simp[execOp,ho,resolve,invoke,builtin,yI hs (zW _) hx,hr']
end
end
section
open Go.RowKit Go.Maps Go.Sort Go.Shelf Go.WideElems
structure KSortedKeys (P:Program) (fS fK ety:Nat):Prop where
 has : ∃ fn c,P.funcs[fS]? = some fn ∧ (fn.name == "runtime.NumGoroutine") = false ∧ fn.body = some c
 some:∀(Bm b:Nat) (es:Array MapEntry) (clock:Nat) (ks:List Int) (w:World),w.heap[b]? = .some (.map es clock)→Go.MapKept.Stamped es clock→es.toList.map (·.key)=ks.map encZ →
  (∀x∈ks,(Lit.int .i64 x).wf=true)→ks.length≤1000000→w.cell? ⟨Bm,0,none⟩=.some (.map (.some b)) →
  Calls P fS #[.func (.func fK) #[] #[.pointer (.some ⟨Bm,0,none⟩)]] w fun e w'=>∃v,e=.returned v∧w'.ownsRow w.heap.size ety 1 v ks.length ((ks.mergeSort leI).map encZ)∧(v=.slice none 0 0↔ks=[])∧Go.RowKit.Below w.heap.size w w'
 none:∀(Bm:Nat) (w:World),w.cell? ⟨Bm,0,none⟩=.some (.map none) →
  Calls P fS #[.func (.func fK) #[] #[.pointer (.some ⟨Bm,0,none⟩)]] w fun e w'=>e=.returned (.slice none 0 0)∧Go.RowKit.Below w.heap.size w w'
def noRead (_:Value):Option (DataW Unit×List MemPlace):=some (.nil,[])
theorem keyOf_int {P:Program} {k:TypeId} {x:Int} (hk:P.underlying k=some (.int .i64)) (hw:(Lit.int .i64 x).wf=true):keyOf P k (encZ x)=some (.int .i64 x):=by
 simp[keyOf,hk,mapKey,hw]
theorem keys_perm {P:Program} {k:TypeId} (hk:P.underlying k=some (.int .i64)):∀ {es:List MapEntry} {ks:List Int},es.map (·.key)=ks.map encZ→(∀x∈ks,(Lit.int .i64 x).wf=true) →
  (∀x∈es,∃y,rd P k noRead x=some y)∧(es.map (rg P k noRead)).map (fun p=>intOf p.1)=ks
 | [],[],_,_=>⟨fun x hx=>(by cases hx),rfl⟩
 | [],_::_,h,_=>by simp at h
 | _::_,[],h,_=>by simp at h
 | e::es,x::ks,h,hw=>by
  simp only[List.map_cons,List.cons.injEq]at h
  obtain⟨h1,h2⟩:=h
  obtain⟨g1,g2⟩:=keys_perm hk h2 (fun y hy=>hw y (zf _ hy))
  have hrd:rd P k noRead e=some (.int .i64 x,.nil):=by
   have:=keyOf_int hk (hw x mH)
   simp[rd,h1,this,noRead]
  refine⟨fun y hy=>?_,?_⟩
  ·rcases zq.1 hy with rfl|hy
   ·exact⟨_,hrd⟩
   exact g1 y hy
  simp only[List.map_cons,g2,rg_of hrd]
  rfl
theorem kSortedKeys_of {P:Program} {ρk ρs:Ren} (Lk:SlLaysZI.n7 P ρk) (Ls:SlLaysZI.n6 P ρs) (hsort:∀m,AnyZI.SortsIn P ρs Fence.wide m) (e9:∀args w,(callFunc (ρs.f 9) args).run P w=.ok (.enter (ρs.f 9) args) w) :
  KSortedKeys P (ρs.f 6) (ρk.f 10) (ρs.t 26):=by
 have eg:∀args w,(callFunc (ρk.f 10) args).run P w=.ok (.enter (ρk.f 10) args) w:=Lk.f10.enters rfl
 refine⟨?_,fun Bm b es clock ks w hb hst hk hw hle hcell=>?_,fun Bm w hcell=>?_⟩
 ·obtain⟨nm,h1,h2⟩:=Ls.f6
  exact⟨_,_,h2,h1,rfl⟩
 ·obtain⟨g1,g2⟩:=keys_perm (P:=P) Lk.t26 hk hw
  have hlen:es.size=ks.length:=by
   have:=congrArg List.length hk
   simpa using this
  have hp:(intKeys (DataW.map ((es.toList.map (rg P (ρk.t 26) noRead)).foldr DataW.insert []))).Perm ks:=by
   have:=((WideShapes.sorted_perm (es.toList.map (rg P (ρk.t 26) noRead))).map (fun p=>intOf p.1))
   rw[g2]at this
   exact this
  have hsz:Maps.size (DataW.map ((es.toList.map (rg P (ρk.t 26) noRead)).foldr DataW.insert []))=ks.length:=by
   have:=(WideShapes.sorted_perm (es.toList.map (rg P (ρk.t 26) noRead))).length_eq
   simpa [Maps.size,hlen] using this
  have hown:w.ownsMap P (ρk.t 26) noRead b es.size (DataW.map ((es.toList.map (rg P (ρk.t 26) noRead)).foldr DataW.insert [])):=
   ⟨es,clock,hb,⟨by rw[hlen];exact yU hle (by decide),hst,g1⟩,zD _,rfl⟩
  have hBm:Bm<w.heap.size:=by
   cases hx:w.heap[Bm]? with
   | none=>simp[World.cell?,hx]at hcell
   | some o=>exact(jf.1 hx).1
  have hseq:=AnyZI.keys_gives (ρ:=ρk) {Lk with} Fence.wide 2 trivial rfl om Bm b es.size _ w hBm hcell hown
  have cS:=AnyZI.sorted_in Ls Fence.wide 5 trivial trivial trivial trivial rfl om (hsort _) e9 (ρk.f 10) #[pT Bm] trivial eg _ _ (by rw[hsz];exact yU hle (by decide)) (by rw[hsz];omega) w hseq
  refine((callsIn_wide (n:=5)).1 cS).mono ?_
  rintro e w' ⟨v,ss,rfl,hS,hrow,hnil,hB⟩
  have hpp:ss.Perm ks:=hS.trans hp
  rw[hpp.length_eq,mergeSort_of_perm_i hpp]at hrow
  refine⟨v,rfl,hrow,?_,hB⟩
  rw[hnil]
  constructor
  ·intro h;subst h;exact List.Perm.nil_eq hpp |>.symm
  intro h;subst h;exact List.Perm.eq_nil hpp
 have hBm:Bm<w.heap.size:=by
  cases hx:w.heap[Bm]? with
  | none=>simp[World.cell?,hx]at hcell
  | some o=>exact(jf.1 hx).1
 have hseq:=AnyZI.keys_gives_nil (ρ:=ρk) {Lk with} Fence.wide 2 trivial rfl Bm w hBm hcell
 have cS:=AnyZI.sorted_in Ls Fence.wide 5 trivial trivial trivial trivial rfl om (hsort _) e9 (ρk.f 10) #[pT Bm] trivial eg _ 0 (zH _) om w hseq
 refine((callsIn_wide (n:=5)).1 cS).mono ?_
 rintro e w' ⟨v,ss,rfl,rfl,hrow,hnil,hB⟩
 obtain rfl:=hnil.2 rfl
 exact⟨rfl,hB⟩
theorem in64 {x:Int} (h : -9223372036854775808≤x∧x≤9223372036854775807):(Lit.int .i64 x).wf=true:=by
 simp only[Lit.wf]
 simp
 exact h
def srt (l:List Int):List Int:=l.mergeSort leI
theorem srt_perm (l:List Int):(srt l).Perm l:=List.mergeSort_perm l leI
theorem srt_len (l:List Int):(srt l).length=l.length:=(srt_perm l).length_eq
theorem srt_sorted (l:List Int):(srt l).Pairwise (fun a b=>a≤b):=by
 have h:=List.pairwise_mergeSort (le:=leI) (fun a b c h1 h2=>by simp only[leI,decide_eq_true_eq]at *;omega) (fun a b=>by simp only[leI,Bool.or_eq_true,decide_eq_true_eq];omega) l
 exact h.imp (fun h=>by simpa [leI] using h)
theorem sorted_gives {P:Program} {fS fK ety:Nat} (S:KSortedKeys P fS fK ety) (bm r:Nat) (es:Array MapEntry) (ck:Nat) (W:List (Int×Value)) (w:World) (h:MapOk es ck W) (hb:w.heap[r]? = .some (.map es ck)) (hk:∀p∈W,-9223372036854775808≤p.1∧p.1≤9223372036854775807) (hl:W.length≤1000000)
  (hc:w.cell? ⟨bm,0,none⟩=.some (.map (.some r))) :
  Calls P fS #[.func (.func fK) #[] #[.pointer (.some ⟨bm,0,none⟩)]] w fun e w'=>∃o:Own,OwnOk o 1 W.length ((srt (W.map (·.1))).map encZ)∧e=.returned (.slice o.a W.length o.c)∧Has w' (o.o ety ((srt (W.map (·.1))).map encZ))∧(∀x∈o.o ety ((srt (W.map (·.1))).map encZ),w.heap.size≤x.1)∧Ext [] w w':=by
 have hkeys:es.toList.map (·.key)=(W.map (·.1)).map encZ:=by
  have:=congrArg (List.map (·.1)) h.rel
  rw[q5,q5]at this
  rw[q5]
  exact this
 refine(S.some bm r es ck (W.map (·.1)) w hb h.st hkeys (fun x hx=>by obtain⟨p,hp,rfl⟩:=zv.1 hx;exact in64 (hk p hp)) (by rw[zA];exact hl) hc).mono ?_
 rintro e w' ⟨v,rfl,hrow,_,hB⟩
 rw[zA]at hrow
 have hx:Ext [] w w':=⟨hB.os,hB.tape,hB.output,hB.size,fun k hk _=>hB.block k hk⟩
 rcases hrow.2 with ⟨rfl,h0⟩|⟨g,cap,cur,rfl,hbase,hg,r1,_,r3,r4⟩
 ·have hW:W=[]:=ya h0
  subst hW
  have e0:srt (([]:List (Int×Value)).map (·.1))=[]:=ya (by rw[srt_len];rfl)
  rw[e0]
  exact⟨.none,OwnOk.none 1,rfl,(fun e he=>by cases he),(fun e he=>by cases he),hx⟩
 have hcur:((srt (W.map (·.1))).map encZ++cur.toList.drop W.length).toArray=cur:=by
  apply qq
  show(srt (W.map (·.1))).map encZ++cur.toList.drop W.length=cur.toList
  have r4':cur.toList.take W.length=(srt (W.map (·.1))).map encZ:=by rw[jg]at r4;exact r4
  rw[←r4',yz]
 refine⟨.some (g,cap,cur.toList.drop W.length),⟨by rw[zA,srt_len,zA,jg],fun h=>(by cases h),fun p hp=>?_⟩,rfl,fun e he=>?_,fun e he=>?_,hx⟩
 ·cases hp
  refine⟨?_,r1⟩
  have r3':cur.toList.length=cap:=by rw[z7,r3,jg]
  simp only
  rw[zA,srt_len,zA,qg,r3'];omega
 ·rw[zi.1 he]
  simp only
  rw[hcur];exact hg
 rw[zi.1 he];exact hbase
end
section
variable {C:Cx} {R O:List (Nat×Obj)} {Γ:Env} {op:Oper}
theorem Eff.maxI {x y:Operand} {tys:Array TypeId} {k:IntKind} {a b:Int} (ho:op.op=.call ⟨.builtin .max,#[x,y],tys⟩) (hx:opd Γ [] x=some (.int k a)) (hy:opd Γ [] y=some (.int k b)):Eff C R O Γ op Unit (fun _=>.int k (if b>a then b else a)) (fun _=>O) (fun _=>True):=
 yL fun ac w hs hp=>⟨(),w,trivial,by
  have e1:=yI hs (zW _) hx
  have e2:=yI hs (zW _) hy
  simp[execOp,ho,resolve,invoke,builtin,Builtin.max_,Builtin.max2,e1,e2],hp⟩
theorem Eff.minI {x y:Operand} {tys:Array TypeId} {k:IntKind} {a b:Int} (ho:op.op=.call ⟨.builtin .min,#[x,y],tys⟩) (hx:opd Γ [] x=some (.int k a)) (hy:opd Γ [] y=some (.int k b)):Eff C R O Γ op Unit (fun _=>.int k (if b<a then b else a)) (fun _=>O) (fun _=>True):=
 yL fun ac w hs hp=>⟨(),w,trivial,by
  have e1:=yI hs (zW _) hx
  have e2:=yI hs (zW _) hy
  simp[execOp,ho,resolve,invoke,builtin,Builtin.min_,Builtin.min2,e1,e2],hp⟩
end
section
variable {C:Cx} {R O:List (Nat×Obj)} {Γ:Env} {op:Oper}
end
theorem own_ins {o:Own} {e:TypeId} {n:Nat} {xs:List Value} {f:Nat→Value} (hok:OwnOk o 1 n xs) (hf:∀j,j<n→xs[j]? = some (f j)):InS (o.o e xs) o.a n f:=by
 intro hn
 obtain⟨p,rfl⟩:=own_some hok hn
 refine⟨p.1,0,_,e,(0,0),rfl,mH,fun j hj=>?_⟩
 have hl:xs.length=n:=by simpa using hok.len
 rw[zF]
 simp only[List.getElem?_toArray]
 rw[zJ om]
 exact hf j hj
structure MO where
 b:Nat
 cap:Nat
 junk:List Value
 mark:Bool
def MO.fr (o:MO):Nat×Nat:=bif o.mark then(o.cap,o.cap+1) else(0,0)
def MO.o (e:TypeId) (xs:List Value) (o:MO):List (Nat×Obj):=[(o.b,.cells (xs++o.junk).toArray e o.fr)]
structure MOk (o:MO) (n:Nat) (xs:List Value):Prop where
 len:xs.length=n
 junk:n+o.junk.length=o.cap
section
variable {C:Cx} {R O:List (Nat×Obj)} {Γ:Env} {op:Oper}
theorem ext_push {w w':World} {o:Obj} (hw:w'.heap=w.heap.push o) (h1:w'.os=w.os) (h2:w'.tape=w.tape) (h3:w'.output=w.output):Ext [] w w':=
 ⟨h1,h2,h3,by rw[hw];simp,fun k hk _=>by rw[hw,Array.getElem?_push,if_neg om]⟩
theorem Eff.toBytes {src dst e:TypeId} {x:Operand} (ho:op.op=.convert src dst x) (hu1:C.P.underlying src=some .string) (hu2:C.P.underlying dst=some (.slice e)) (hue:C.P.underlying e=some (.int .u8))
  {t:ByteArray} (hx:opd Γ [] x=some (.string t)) (Fl T:LO) (hO:O=Fl++T) :
  Eff C R O Γ op MO (fun o=>.slice (some ⟨o.b,0,none⟩) t.size o.cap) (fun o=>Fl++(o.o e (bv t.data.toList).toList++T)) (fun o=>MOk o t.size (bv t.data.toList).toList):=by
 refine Eff.perm (O2:=O) (O2':=fun o=>o.o e (bv t.data.toList).toList++O) ?_ (List.Perm.refl _) (fun o=>by rw[hO];exact yp _ _ _)
 refine yL fun a w hs hp=>?_
 let cap:=(Question.appendCap t.size 0 e).cut (w.tape w.drawn (.appendCap t.size 0 e))
 have hcap:t.size≤cap:=Nat.le_add_right _ _
 let cs:Array Value:=(t.data.map fun b=>Value.int .u8 b.toNat)++Array.replicate (cap-t.size) (.int .u8 0)
 have hcs:cs.size=cap:=by simp[cs];show t.size+(cap-t.size)=cap;omega
 let w1:World:={w with drawn:=w.drawn+1}
 let w2:World:=(w1.alloc (.cells cs e (0,0))).freeze ⟨w.heap.size,cap,none⟩ 1
 have hw2:w2.heap=w.heap.push (.cells cs e (cap,cap+1)):=by
  simp only[w2,World.freeze,World.alloc,Nat.one_ne_zero,if_false]
  apply Array.ext_getElem?
  intro k
  simp only[Array.getElem?_modify]
  by_cases hk:w.heap.size=k
  ·subst hk;simp[w1]
  ·simp only[hk,if_false]
   simp only[Array.getElem?_push,w1]
   rw[if_neg (fun h=>hk h.symm),if_neg (fun h=>hk h.symm)]
 have hstb:(Conv.stringToBytes e t).run C.P w=.ok (.slice (some ⟨w.heap.size,0,none⟩) t.size cap) w2:=by
  have hsh:(w1.alloc (.cells cs e (0,0))).shape? w.heap.size=some (e,cap):=by
   simp[World.shape?,World.alloc,w1,hcs]
  have hsh':World.shape? {w1 with heap:=w1.heap.push (.cells cs e (0,0))} w.heap.size=some (e,cap):=hsh
  unfold Conv.stringToBytes
  simp only[Sem.run_bind]
  show _=Result.ok (Value.slice (some ⟨w.heap.size,0,none⟩) t.size cap) w2
  simp only[choose,Sem.run,Question.forced,Bool.false_eq_true,if_false,Result.andThen_ok,newRow,newObj,Sem.run_bind,Sem.run_pure]
  simp only[markStringish,shape,Sem.run_bind,Sem.run]
  have hh:World.shape? {heap:=w.heap.push (.cells ((t.data.map fun b=>Value.int .u8 b.toNat)++Array.replicate ((Question.appendCap t.size 0 e).cut (w.tape w.drawn (.appendCap t.size 0 e))-t.size) (.int .u8 0)) e),tape:=w.tape,drawn:=w.drawn+1,os:=w.os,output:=w.output} w.heap.size=some (e,cap):=hsh'
  rw[hh]
  rfl
 have hcells:cs=((bv t.data.toList).toList++replicate (cap-t.size) (Value.int .u8 0)).toArray:=by
  apply qq
  simp[cs,bv_list]
 have hget:w2.heap[w.heap.size]? = some (.cells ((bv t.data.toList).toList++replicate (cap-t.size) (Value.int .u8 0)).toArray e (cap,cap+1)):=by
  rw[hw2,←hcells];simp
 refine⟨⟨w.heap.size,cap,replicate (cap-t.size) (Value.int .u8 0),true⟩,w2,⟨by rw[bv_len];exact ba_len t,by rw[zk];show t.size+(cap-t.size)=cap;omega⟩,?_,?_⟩
 ·simp only[execOp,ho]
  refine run_v ?_
  simp only[convert,Sem.run_bind,zx hu1,zx hu2,Result.andThen_ok,yI hs (zW _) hx,zx hue,hstb]
 exact(hp.calm (ext_push hw2 rfl rfl rfl)).add hget (hp.fresh (zD _)) (.inl hp.ext.size)
theorem Eff.makeRow {t e:TypeId} {l c:Operand} {n:Nat} {cells:Array Value} {v1 v2:Value} (ho:op.op=.makeSlice t l c) (h1:opd Γ [] l=some v1) (h2:opd Γ [] c=some v2)
  (hrun:∀w,(Instr.makeSlice t v1 v2).run C.P w=.ok (.slice (some ⟨w.heap.size,0,none⟩) n n) (w.alloc (.cells cells e (0,0)))) :
  Eff C R O Γ op Nat (fun b=>.slice (some ⟨b,0,none⟩) n n) (fun b=>(b,.cells cells e (0,0))::O) (fun b=>C.w0.heap.size≤b∧b∉O.map (·.1)):=by
 refine yL fun a w hs hp=>⟨w.heap.size,w.alloc (.cells cells e (0,0)),⟨hp.ext.size,hp.fresh (zD _)⟩,?_,hp.alloc _⟩
 simp only[execOp,ho]
 refine run_v ?_
 rw[yI hs (zW _) h1,yI hs (zW _) h2]
 exact hrun w
end
theorem run_mkZ {P:Program} {w:World} {t e:TypeId} {k:IntKind} {n:Nat} {inf:TypeInfo} {z:Value} {L:List Value} (hu:P.underlying t=some (.slice e)) (hinf:P.info? e=some inf) (hz:inf.zero=some z) (hs:z.cells.size=inf.size) (h0:0<n*inf.size) (hn:n≤1000000000) (hb:inf.bytes≤100000)
  (hl:L.length=n*inf.size) (hL:∀i,i<n*inf.size→L[i]? = some (z.cells[i%inf.size]!)) :
  (Instr.makeSlice t (.int k (n:Int)) (.int k (n:Int))).run P w=.ok (.slice (some ⟨w.heap.size,0,none⟩) n n) (w.alloc (.cells L.toArray e (0,0))):=by
 have w1:IntKind.i64.wrap (n:Int)=(n:Int):=wrap_in (by simp[lo,hi];omega)
 have c1:¬((n:Int)<0):=by omega
 have c2:¬((inf.bytes:Int)*(n:Int)>2^48):=by
  have h1:inf.bytes*n≤100000*1000000000:=Nat.mul_le_mul hb hn
  have h2:((inf.bytes*n:Nat):Int)≤((100000*1000000000:Nat):Int):=Int.ofNat_le.2 h1
  rw[Int.natCast_mul]at h2
  omega
 have c4:¬((n:Int)>(n:Int)):=by omega
 have hti:(typeInfo e).run P w=.ok inf w:=by simp[typeInfo,program,Sem.run,hinf]
 have har:(askRoom ((n:Int).toNat*inf.bytes)).run P w=.ok () w:=by
  unfold askRoom
  split <;> rfl
 have hzv:(zeroValue e).run P w=.ok z w:=by simp[zeroValue,typeInfo,program,Sem.run,hinf,hz]
 have hrow:(Array.range (n*inf.size)).map (fun x=>z.cells[x%z.cells.size]!)=L.toArray:=by
  apply Array.ext
  ·simp[hl]
  ·intro i h1 h2
   have h3:=hL i (by simpa using h1)
   rw[←hs]at h3
   have h4:L.toArray[i]? = some (z.cells[i%z.cells.size]!):=by rw[zo];exact h3
   rw[qp h2]at h4
   rw[Option.some.inj h4]
   simp
 simp only[Instr.makeSlice,Sem.run_bind,zx hu,Result.andThen_ok,asInt,asIntOf,Sem.run_pure,hti,w1,c1,c2,c4,decide_false,Bool.or_self,Bool.false_eq_true,if_false,har,yT hinf]
 rw[yk,if_neg om]
 simp only[Sem.run_bind,hzv,Result.andThen_ok,Sem.run_pure]
 rw[hrow]
 simp[newRow,newObj,Sem.run]
def n0:(World→Prop)→List Prop:=fun _=>[]
def evG (C:Cx) (R O:List (Nat×Obj)) (Γ:Env) (ops:Array Oper) (l:List Oper) (ds:List Dir) (kp:Option (List Nat)):Env:=
 match evR C (HP C.w0 C.M R O) Γ ops l ds kp with
 | some r=>r.1
 | none=>[]
def evN (C:Cx) (R O:List (Nat×Obj)) (Γ:Env) (ops:Array Oper) (l:List Oper) (ds:List Dir) (kp:Option (List Nat)):Option (List Prop):=
 match evR C (HP C.w0 C.M R O) Γ ops l ds kp with
 | some r=>some r.2
 | none=>none
section
variable {C:Cx} {R O Os Os':List (Nat×Obj)} {Γ Γ':Env} {ks ks':List KI} {nd:(World→Prop)→List Prop} {ops:Array Oper}
theorem evG_some {l:List Oper} {ds:List Dir} {kp:Option (List Nat)} {n:List Prop} (h:evN C R O Γ ops l ds kp=some n):evR C (HP C.w0 C.M R O) Γ ops l ds kp=some (evG C R O Γ ops l ds kp,n):=by
 unfold evN at h
 unfold evG
 split at h
 ·rename_i r hr
  rw[hr]
  obtain⟨a,b⟩:=r
  simp only[Option.some.injEq]at h
  rw[h]
 cases h
theorem Rg (kp:List Nat) (ds:List Dir) (nd:(World→Prop)→List Prop) (hn:All (nd (HP C.w0 C.M R O))) {id:Nat} (h:Cfg C R O (evG C R O Γ ops ops.toList ds (some kp)) ks') (hk:K.nrm 99 ks=.inl (.region id ops false)::ks':=by rfl)
  (he:evN C R O Γ ops ops.toList ds (some kp)=some (nd (HP C.w0 C.M R O)):=by kernel_rfl):Cfg C R O Γ ks:=by
 refine Cfg.nrm ?_
 rw[hk]
 intro a w hs hp
 obtain⟨hsel,Γ2,he2,hw⟩:=evR_some (evG_some he)
 refine wpIn_region_list ?_
 have:=wplIn_pure (ro:=C.ro) (Q:=C.Q ks') (l2:=[]) (w:=w) ops.toList ds Γ a (sel_all hsel (fun _ h=>h)) hs he2 hn.mem hp (fun a' hs'=>h a' w (hw _ _ _ hs') hp)
 simpa using this
theorem Lp {rest:List Oper} (k:Nat) (ds:List Dir) (kp:Option (List Nat)) (nd:(World→Prop)→List Prop) (hn:All (nd (HP C.w0 C.M R O))) (h:CfgL C R O (evG C R O Γ ops (rest.take k) ds kp) ops (rest.drop k) ks)
  (hm:(rest.all fun o=>match o.op with|.select ..=>false|_=>true)=true:=by kernel_rfl) (he:evN C R O Γ ops (rest.take k) ds kp=some (nd (HP C.w0 C.M R O)):=by kernel_rfl):CfgL C R O Γ ops rest ks:=by
 intro a w hs hp
 obtain⟨hsel,Γ2,he2,hw⟩:=evR_some (evG_some he)
 have:=wplIn_pure (ro:=C.ro) (Q:=C.Q ks) (l2:=rest.drop k) (w:=w) (rest.take k) ds Γ a (fun o ho cs b hh=>by
  have:=q3.1 hm o (qV ho)
  simp[hh]at this) hs he2 hn.mem hp (fun a' hs'=>h a' w (hw _ _ _ hs') hp)
 rwa [yz]at this
theorem Ap {fuel:Nat} {l:Array Bool} (is:List Nat) (ds:List Dir) (kp:Option (List Nat)) (l':Array Bool) (hO:Os.Sublist O) (fuel':Nat) (nd:(World→Prop)→List Prop) (hn:All (nd (HP C.w0 C.M R Os)))
  (h:CfgA C R Os O (evG C R Os Γ ops ((opsAt ops is).getD []) ds kp) ops fuel' l' ks) (ht:takes .any ops l is=some l':=by kernel_rfl) (ho0:(opsAt ops is).isSome=true:=by kernel_rfl) (hf:fuel=fuel'+is.length:=by rfl)
  (he:evN C R Os Γ ops ((opsAt ops is).getD []) ds kp=some (nd (HP C.w0 C.M R Os)):=by kernel_rfl):CfgA C R Os O Γ ops fuel l ks:=by
 intro a w hs hp
 obtain⟨hsel,Γ2,he2,hw⟩:=evR_some (evG_some he)
 obtain⟨os,ho⟩:=qP.1 ho0
 rw[ho,qR]at he2
 rw[ho,qR]at hw h
 subst hf
 exact any_pure (Q:=C.Q ks) (w:=w) hsel (panicOk C ks) is os ds l Γ a ht ho hs he2 hn.mem (hp.sub hO) (fun a' hs'=>h a' w (hw _ _ _ hs') hp)
theorem Le {rest':List Oper} {o:Oper} {ι:Type} {V:ι→Value} {O':ι→List (Nat×Obj)} {F:ι→Prop} (he:Eff C R O Γ o ι V O' F)
  (h:∀x,F x→CfgL C R (O' x) (putO Γ o.dst (V x)) ops rest' ks) (hd:DstOk C.fn.ntmps o=true:=by kernel_rfl) (hg:guardV Γ ops o=guardW o:=by kernel_rfl) (hnd:ndf o=true:=by kernel_rfl):CfgL C R O Γ ops (o::rest') ks:=CfgL.eff rfl hd hg he h hnd
theorem Ae {fuel:Nat} {l:Array Bool} (i:Nat) {o:Oper} (ho:ops[i]? = some o) (fuel':Nat) {ι:Type} {V:ι→Value} {O':ι→List (Nat×Obj)} {F:ι→Prop} (he:Eff C R O Γ o ι V O' F) (hO:∀x,F x→Os.Sublist (O' x))
  (h:∀x,F x→CfgA C R Os (O' x) (putO Γ o.dst (V x)) ops fuel' (l.setIfInBounds i true) ks) (hr:Region.ready .any ops l=[i]:=by kernel_rfl) (hf:fuel=fuel'+1:=by rfl) (hd:DstOk C.fn.ntmps o=true:=by kernel_rfl) (hg:guardV Γ ops o=guardW o:=by kernel_rfl):CfgA C R Os O Γ ops fuel l ks:=CfgA.eff i ho hr hf hd hg he hO h
theorem Ie {fuel:Nat} {l:Array Bool} {i:Nat} {o:Oper} (ho:ops[i]? = some o) {ι:Type} {V:ι→Value} {O':ι→List (Nat×Obj)} {F:ι→Prop} (he:Eff C R O Γ o ι V O' F) (hO:∀x,F x→Os.Sublist (O' x))
  (h:∀x,F x→CfgA C R Os (O' x) (putO Γ o.dst (V x)) ops fuel (l.setIfInBounds i true) ks) (hd:DstOk C.fn.ntmps o=true:=by kernel_rfl) (hg:guardV Γ ops o=guardW o:=by kernel_rfl):CfgI C R Os O Γ ops fuel l i ks:=CfgI.eff ho hd hg he hO h
theorem wpAnyH_weak {P:Program} {md:Region.Mode} {Q:Exit→Act→World→Prop} {S S':World→Prop} (hS:∀w,S' w→S w):∀(fuel:Nat) (l:Array Bool) (a:Act) (w:World),wpAnyH P md ops Q S' fuel l a w→wpAnyH P md ops Q S fuel l a w
 | 0,_,_,_,h=>h
 | fuel+1,_,_,_,h=>⟨h.1,fun i hi=>wpOp_mono (fun a' w' h'=>⟨hS _ h'.1,wpAnyH_weak hS fuel _ a' w' h'.2⟩) (h.2 i hi)⟩
theorem CfgA.grow {fuel:Nat} {l:Array Bool} (Os':List (Nat×Obj)) (hs:Os.Sublist Os') (h:CfgA C R Os' O Γ ops fuel l ks):CfgA C R Os O Γ ops fuel l ks:=fun a w ha hp=>wpAnyH_weak (fun _ hw=>hw.sub hs) _ _ _ _ (h a w ha hp)
theorem Cg (h:Cfg C R O Γ' ks) (hc:(Γ'.map fun e=>find Γ e.1)=Γ'.map fun e=>some e.2:=by kernel_rfl):Cfg C R O Γ ks:=y9 (Conv.mk hc) h
theorem Lq {rest:List Oper} (k:Nat) (kp:List Nat) (h:CfgL C R O (evG C R O Γ ops (rest.take k) [] (some kp)) ops (rest.drop k) ks)
 (hm:(rest.all fun o=>match o.op with|.select ..=>false|_=>true)=true:=by kernel_rfl) (he:evN C R O Γ ops (rest.take k) [] (some kp)=some (n0 (HP C.w0 C.M R O)):=by kernel_rfl):CfgL C R O Γ ops rest ks:=Lp k [] (some kp) n0 trivial h hm he
theorem Ld {rest:List Oper} (k:Nat) (kp:List Nat) (h:Cfg C R O (evG C R O Γ ops (rest.take k) [] (some kp)) ks) (hr:rest.drop k=[]:=by rfl)
 (hm:(rest.all fun o=>match o.op with|.select ..=>false|_=>true)=true:=by kernel_rfl) (he:evN C R O Γ ops (rest.take k) [] (some kp)=some (n0 (HP C.w0 C.M R O)):=by kernel_rfl):CfgL C R O Γ ops rest ks:=Lp k [] (some kp) n0 trivial (zg hr h) hm he
theorem Rq (kp:List Nat) {id:Nat} (h:Cfg C R O (evG C R O Γ ops ops.toList [] (some kp)) ks') (hk:K.nrm 99 ks=.inl (.region id ops false)::ks':=by rfl)
 (he:evN C R O Γ ops ops.toList [] (some kp)=some (n0 (HP C.w0 C.M R O)):=by kernel_rfl):Cfg C R O Γ ks:=Rg kp [] n0 trivial h hk he
theorem Lu {rest':List Oper} {o:Oper} {V:Unit→Value} {O':Unit→List (Nat×Obj)} {F:Unit→Prop} (he:Eff C R O Γ o Unit V O' F)
 (h:CfgL C R (O' ()) (putO Γ o.dst (V ())) ops rest' ks) (hd:DstOk C.fn.ntmps o=true:=by kernel_rfl) (hg:guardV Γ ops o=guardW o:=by kernel_rfl) (hnd:ndf o=true:=by kernel_rfl):CfgL C R O Γ ops (o::rest') ks:=Le he (fun _ _=>h) hd hg hnd
theorem Au {fuel:Nat} {l:Array Bool} (i:Nat) {o:Oper} (ho:ops[i]? = some o) (fuel':Nat) {V:Unit→Value} {O':Unit→List (Nat×Obj)} {F:Unit→Prop} (he:Eff C R O Γ o Unit V O' F) (hO:∀x,F x→Os.Sublist (O' x))
 (h:CfgA C R Os (O' ()) (putO Γ o.dst (V ())) ops fuel' (l.setIfInBounds i true) ks) (hr:Region.ready .any ops l=[i]:=by kernel_rfl) (hf:fuel=fuel'+1:=by rfl) (hd:DstOk C.fn.ntmps o=true:=by kernel_rfl) (hg:guardV Γ ops o=guardW o:=by kernel_rfl):CfgA C R Os O Γ ops fuel l ks:=Ae i ho fuel' he hO (fun _ _=>h) hr hf hd hg
theorem Iu {fuel:Nat} {l:Array Bool} {i:Nat} {o:Oper} (ho:ops[i]? = some o) {V:Unit→Value} {O':Unit→List (Nat×Obj)} {F:Unit→Prop} (he:Eff C R O Γ o Unit V O' F) (hO:∀x,F x→Os.Sublist (O' x))
 (h:CfgA C R Os (O' ()) (putO Γ o.dst (V ())) ops fuel (l.setIfInBounds i true) ks) (hd:DstOk C.fn.ntmps o=true:=by kernel_rfl) (hg:guardV Γ ops o=guardW o:=by kernel_rfl):CfgI C R Os O Γ ops fuel l i ks:=Ie ho he hO (fun _ _=>h) hd hg
theorem setI {α:Type} {x:α}:∀ {l:List α} {i:Nat},l[i]? = some x→l.set i x=l
 | [],i,h=>by cases i <;> cases h
 | y::l,0,h=>by cases h;rfl
 | y::l,i+1,h=>by rw[List.set_cons_succ,setI (l:=l) (i:=i) (by simpa using h)]
theorem oB (i:Nat) {b:Nat} {t:TypeId} {cs cs':Array Value} (hi:O[i]? = some (b,.cells cs t (0,0))) (h:cs=cs') (hc:Cfg C R (O.set i (b,.cells cs' t (0,0))) Γ ks):Cfg C R O Γ ks:=by
 rw[←h,setI hi]at hc;exact hc
theorem oL {rest:List Oper} (i:Nat) {b:Nat} {t:TypeId} {cs cs':Array Value} (hi:O[i]? = some (b,.cells cs t (0,0))) (h:cs=cs') (hc:CfgL C R (O.set i (b,.cells cs' t (0,0))) Γ ops rest ks):CfgL C R O Γ ops rest ks:=by
 rw[←h,setI hi]at hc;exact hc
theorem oA {fuel:Nat} {l:Array Bool} (i:Nat) {b:Nat} {t:TypeId} {cs cs':Array Value} (hi:O[i]? = some (b,.cells cs t (0,0))) (h:cs=cs') (hc:CfgA C R Os (O.set i (b,.cells cs' t (0,0))) Γ ops fuel l ks):CfgA C R Os O Γ ops fuel l ks:=by
 rw[←h,setI hi]at hc;exact hc
theorem sI (t:Nat) {a b:Int} (h:a=b) (hc:Cfg C R O (setE t (.int .i64 b) Γ) ks) (hk:find Γ t=some ([],.int .i64 a):=by kernel_rfl):Cfg C R O Γ ks:=zN t (congrArg (Value.int .i64) h) hc hk
theorem sU (t:Nat) {a b:Int} (h:a=b) (hc:Cfg C R O (setE t (.int .u32 b) Γ) ks) (hk:find Γ t=some ([],.int .u32 a):=by kernel_rfl):Cfg C R O Γ ks:=zN t (congrArg (Value.int .u32) h) hc hk
abbrev iN (n:Nat):Value:=.int .i64 (n:Int)
abbrev uN (n:Nat):Value:=.int .u32 (n:Int)
theorem eC {p:Prop} [Decidable p] {c:Operand} {x y:Code} (hk:K.nrm 99 ks=.inl (.cond c x y)::ks') (hc:opd Γ [] c=some (.bool (decide p))) (ht:p→Cfg C R O Γ (.inl x::ks')) (hf:¬p→Cfg C R O Γ (.inl y::ks')):Cfg C R O Γ ks:=zX hk hc (fun h=>ht (of_decide_eq_true h)) (fun h=>hf (of_decide_eq_false h))
abbrev lV (S:World→Prop) (t b o:Nat) (v:Value):Prop:=∀w1,S w1→(loadVar t ⟨b,o,none⟩).run Tryz.prog w1=.ok v w1
theorem Bp (k:Nat) (ds:List Dir) (kp:Option (List Nat)) (nd:(World→Prop)→List Prop) (hn:All (nd (HP C.w0 C.M R O))) {id:Nat} (h:CfgL C R O (evG C R O Γ ops (ops.toList.take k) ds kp) ops (ops.toList.drop k) ks') (hk:K.nrm 99 ks=.inl (.region id ops false)::ks':=by rfl)
 (hm:(ops.toList.all fun o=>match o.op with|.select ..=>false|_=>true)=true:=by kernel_rfl) (he:evN C R O Γ ops (ops.toList.take k) ds kp=some (nd (HP C.w0 C.M R O)):=by kernel_rfl):Cfg C R O Γ ks:=Cfg.begL hk (Lp k ds kp nd hn h hm he)
abbrev sO (o:Own) (n:Nat):Value:=.slice (Own.a o) n (Own.c o)
theorem Bq (k:Nat) (kp:List Nat) {id:Nat} (h:CfgL C R O (evG C R O Γ ops (ops.toList.take k) [] (some kp)) ops (ops.toList.drop k) ks') (hk:K.nrm 99 ks=.inl (.region id ops false)::ks':=by rfl)
 (hm:(ops.toList.all fun o=>match o.op with|.select ..=>false|_=>true)=true:=by kernel_rfl) (he:evN C R O Γ ops (ops.toList.take k) [] (some kp)=some (n0 (HP C.w0 C.M R O)):=by kernel_rfl):Cfg C R O Γ ks:=Cfg.begL hk (Lp k [] (some kp) n0 trivial h hm he)
theorem Be {id:Nat} (hk:K.nrm 99 ks=.inl (.region id ops false)::ks') {rest':List Oper} {o:Oper} (ht:ops.toList=o::rest') {ι:Type} {V:ι→Value} {O':ι→List (Nat×Obj)} {F:ι→Prop} (he:Eff C R O Γ o ι V O' F)
 (h:∀x,F x→CfgL C R (O' x) (putO Γ o.dst (V x)) ops rest' ks') (hd:DstOk C.fn.ntmps o=true:=by kernel_rfl) (hg:guardV Γ ops o=guardW o:=by kernel_rfl) (hnd:ndf o=true:=by kernel_rfl):Cfg C R O Γ ks:=Cfg.begL hk (by rw[ht];exact Le he h hd hg hnd)
theorem Rt (vs:List Value) {rs:List ResultVar} (hp:∀w,HP C.w0 C.M R O w→C.post (.returned (resOf vs)) w) (hk:K.nrm 99 ks=.inl .ret::ks':=by rfl) (hr:C.fn.results=rs.toArray:=by rfl) (hv:Res C R O Γ rs vs:=by repeat (first|exact trivial|refine⟨by kernel_rfl,?_⟩)) (hD:C.D=[]:=by rfl):Cfg C R O Γ ks:=yD hk hr vs hv hp hD
end
end K
section
open K
def zb:List UInt8:=replicate 512 0
theorem qA:zb.length=512:=zk
abbrev Wt:=List (Int×List UInt8)
def wv2 (W:Wt):List (Int×Value):=W.map fun p=>(p.1,Value.agg (bv p.2))
def wget (W:Wt) (k:Int):Option (List UInt8):=match W with
 | []=>none
 | p::W=>if k=p.1 then some p.2 else wget W k
def wset (W:Wt) (k:Int) (v:List UInt8):Wt:=match W with
 | []=>[(k,v)]
 | p::W=>if k=p.1 then(k,v)::W else p::wset W k v
def keysW (W:Wt):List Int:=srt ((wv2 W).map (·.1))
theorem keysW_len (W:Wt):(keysW W).length=W.length:=by unfold keysW;rw[srt_len,zA];unfold wv2;rw[zA]
theorem mget_wv (k:Int):∀W:Wt,mget (wv2 W) k=(wget W k).map fun b=>Value.agg (bv b)
 | []=>rfl
 | p::W=>by
  show(if k=p.1 then some (Value.agg (bv p.2))else mget (wv2 W) k)=_
  unfold wget
  split
  ·rfl
  exact mget_wv k W
theorem mset_wv (k:Int) (b:List UInt8):∀W:Wt,mset (wv2 W) k (.agg (bv b))=wv2 (wset W k b)
 | []=>rfl
 | p::W=>by
  show(if k=p.1 then(k,Value.agg (bv b))::wv2 W else(p.1,Value.agg (bv p.2))::mset (wv2 W) k (.agg (bv b)))=_
  unfold wset
  split
  ·rfl
  rw[mset_wv k b W];rfl
theorem wget_set (W:Wt) (k:Int) (v:List UInt8) (j:Int):wget (wset W k v) j=if j=k then some v else wget W j:=by
 induction W with
 | nil=>simp[wset,wget]
 | cons p W ih=>
  unfold wset
  by_cases h:k=p.1
  ·rw[if_pos h]
   unfold wget
   by_cases hj:j=k
   ·rw[if_pos hj,if_pos hj]
   ·simp only[if_neg hj]
    rw[if_neg (show ¬j=p.1 from fun e=>hj (by rw[e,h]))]
  ·rw[if_neg h]
   unfold wget
   by_cases hj:j=p.1
   ·rw[if_pos hj,if_neg (fun e=>h (by rw[←e,hj])),if_pos hj]
   ·rw[if_neg hj,if_neg hj,ih]
theorem wset_mem {W:Wt} {k:Int} {v:List UInt8}:∀p∈wset W k v,p=(k,v)∨p∈W:=by
 induction W with
 | nil=>intro p hp;exact .inl (zi.1 hp)
 | cons q W ih=>
  intro p hp
  unfold wset at hp
  split at hp
  ·rcases zq.1 hp with rfl|hp
   ·exact .inl rfl
   ·exact .inr (zf _ hp)
  ·rcases zq.1 hp with rfl|hp
   ·exact .inr mH
   ·rcases ih p hp with h|h
    ·exact .inl h
    ·exact .inr (zf _ h)
theorem wget_mem {k:Int} {b:List UInt8}:∀ {W:Wt},wget W k=some b→(k,b)∈W
 | [],h=>by cases h
 | p::W,h=>by
  unfold wget at h
  split at h
  ·rename_i hk
   rw[←Option.some.inj h,hk];exact mH
  exact zf _ (wget_mem h)
structure DK where
 fuse:Int
 steps:Int
 down:Bool
 last:List (List UInt8)
 wait:Wt
structure DM where
 d:Nat
 lb:Nat
 mb:Nat
abbrev MX:=Array MapEntry×Nat
def rows (l:List (List UInt8)):List Value:=l.flatMap fun b=>(bv b).toList
def dC (D:DK) (m:DM):Array Value:=#[.int .i64 D.fuse,.int .i64 D.steps,.bool D.down,.slice (some ⟨m.lb,0,none⟩) D.last.length D.last.length,.map (some m.mb)]
def dO (D:DK) (m:DM) (x:MX):List (Nat×Obj):=[(m.d,.cells (dC D m) 76 (0,0)),(m.lb,.cells (rows D.last).toArray 37 (0,0)),(m.mb,.map x.1 x.2)]
def W5 (l:List (List UInt8)):Prop:=∀b∈l,b.length=512
structure DG (D:DK):Prop where
 w:W5 D.last
 ww:∀p∈D.wait,p.2.length=512
 k:∀p∈D.wait,0≤p.1∧p.1<(D.last.length:Int)
 n:D.last.length≤4096
 nd:(D.wait.map (·.1)).Nodup
 f : -1≤D.fuse∧D.fuse≤9223372036854775807
theorem nodup_len:∀(n:Nat) (l:List Int),l.Nodup→(∀x∈l,0≤x∧x<(n:Int))→l.length≤n
 | 0,l,_,h=>by
  cases l with
  | nil=>exact zD _
  | cons a l=>have:=h a mH;omega
 | n+1,l,hd,h=>by
  by_cases hm:(n:Int)∈l
  ·have h1:=nodup_len n (l.erase n) (hd.erase _) (fun x hx=>by
    have h2:=h x (List.mem_of_mem_erase hx)
    have h3:=(hd.mem_erase_iff.1 hx).1
    omega)
   rw[List.length_erase_of_mem hm]at h1
   omega
  ·have h1:=nodup_len n l hd (fun x hx=>by
    have h2:=h x hx
    have h3:x≠(n:Int):=fun e=>hm (e▸hx)
    omega)
   omega
theorem DG.wn {D:DK} (h:DG D):D.wait.length≤D.last.length:=by
 have h1:=nodup_len D.last.length _ h.nd (fun x hx=>by
  obtain⟨p,hp,rfl⟩:=zv.1 hx
  exact h.k p hp)
 rw[zA]at h1;exact h1
theorem DG.wl {D:DK} (h:DG D):D.wait.length≤1000000:=by have:=h.wn;have:=h.n;omega
theorem W5.at {l:List (List UInt8)} (h:W5 l) {i:Nat} (hi:i<l.length):(l.getD i zb).length=512:=by
 rw[zc,zd hi];exact h _ (qr hi)
theorem W5.at' {l:List (List UInt8)} (h:W5 l) (i:Nat):(l.getD i zb).length=512:=by
 by_cases hi:i<l.length
 ·exact h.at hi
 rw[zc,qn om];exact qA
theorem rows_len {l:List (List UInt8)} (h:W5 l):(rows l).length=l.length*512:=by
 induction l with
 | nil=>rfl
 | cons b l ih=>
  have hb:=h b mH
  rw[rows,yv,zh,z7,zP,hb]
  have:=ih (fun x hx=>h x (zf _ hx))
  unfold rows at this
  rw[this,zL];omega
theorem rows_get {l:List (List UInt8)} (h:W5 l) {i j:Nat} (hi:i<l.length) (hj:j<512):(rows l)[i*512+j]? = some (.int .u8 (((l.getD i zb).getD j 0).toNat:Int)):=by
 have h1:=flat_get (fun b:List UInt8=>(bv b).toList) 512 (l:=l) (fun x hx=>by rw[z7,zP,h x hx]) hi hj
 unfold rows
 have e:l.getD i zb=l[i]:=by rw[zc,zd hi];rfl
 rw[h1,qj,e]
 exact bv_get (h _ (qr hi)) hj
theorem rows_split (l:List (List UInt8)) (i:Nat) (hi:i<l.length):rows l=rows (l.take i)++(bv l[i]).toList++rows (l.drop (i+1)):=by
 have e:l=l.take i++(l[i]::l.drop (i+1)):=by rw[←yn hi,yz]
 conv=>lhs;rw[e]
 unfold rows
 rw[yY,yv,zO]
theorem rows_set {l:List (List UInt8)} {b:List UInt8} {i off:Nat} (h:W5 l) (hb:b.length=512) (hi:i<l.length) (ho:off=i*512):spl (rows l).toArray off (bv b).toList=(rows (l.set i b)).toArray:=by
 have h1:=spl_at (L:=rows l) (A:=rows (l.take i)) (B:=(bv l[i]).toList) (T:=rows (l.drop (i+1))) (vs:=(bv b).toList) (off:=off) (rows_split l i hi)
  (by rw[rows_len (fun x hx=>h x (qV hx)),z8,ho];congr 1;omega) (by rw[z7,z7,zP,zP,hb,h _ (qr hi)])
 rw[h1]
 have h2:i<(l.set i b).length:=by rw[yc];exact hi
 rw[rows_split (l.set i b) i h2]
 have e1:(l.set i b).take i=l.take i:=by rw[List.take_set,List.set_eq_of_length_le (by rw[z8];omega)]
 have e2:(l.set i b).drop (i+1)=l.drop (i+1):=by rw[List.drop_set];rw[if_pos om]
 have e3:(l.set i b)[i]=b:=List.getElem_set_self h2
 rw[e1,e2,e3]
theorem sect_cell {w:World} {b n off:Nat} {l:List (List UInt8)} {t:TypeId} {fr:Nat×Nat} (hW:W5 l) (h:w.heap[b]? = some (.cells (rows l).toArray t fr)) {i:Nat} (ho:off=i*512) (hi:i<l.length) (j:Nat) (hj:j<512):w.cell? ⟨b,off+j,none⟩=some (.int .u8 (((l.getD i zb).getD j 0).toNat:Int)):=by
 rw[zI h,zo,ho];exact rows_get hW hi hj
def shown (D:DK) (q:Int):List UInt8:=(wget D.wait q).getD (D.last.getD q.toNat zb)
theorem shown_len {D:DK} (h:DG D) (q:Int):(shown D q).length=512:=by
 unfold shown
 cases hg:wget D.wait q with
 | none=>exact h.w.at' _
 | some b=>exact h.ww _ (wget_mem hg)
def fltF (D:DK) (q:Int):Int:=if D.down=true then 13 else if 0≤q∧q<(D.last.length:Int)then 0 else 2
def zR (D:DK) (q:Int):List UInt8:=if fltF D q=0 then shown D q else zb
def lastsF (D:DK) (q:Int):List UInt8:=if 0≤q∧q<(D.last.length:Int)then D.last.getD q.toNat zb else zb
theorem yO {D:DK} (h:DG D) (q:Int):(zR D q).length=512:=by unfold zR;split;exact shown_len h q;exact qA
theorem getO_len {D:DK} (h:DG D) (q:Int):((wget D.wait q).getD zb).length=512:=by
 cases hg:wget D.wait q with
 | none=>exact qA
 | some b=>exact h.ww _ (wget_mem hg)
theorem zsz512:(bv (replicate 512 0)).size=512:=by rw[zP,zk]
theorem Eff.waitGet {C:Cx} {R O:List (Nat×Obj)} {Γ:Env} {op:Oper} {x y:Operand} {ok:Bool} (hP:C.P=Tryz.prog) (ho:op.op=.lookup 72 x y ok) {r:Nat} {k:Int} (hx:opd Γ [] x=some (.map (some r))) (hy:opd Γ [] y=some (.int .i64 k))
  {es:Array MapEntry} {ck:Nat} {W:Wt} (h:MapOk es ck (wv2 W)) (hb:∀w,HP C.w0 C.M R O w→w.heap[r]? = some (.map es ck)) :
  Eff C R O Γ op Unit (fun _=>if ok then .tuple #[.agg (bv ((wget W k).getD zb)),.bool (wget W k).isSome]else .agg (bv ((wget W k).getD zb))) (fun _=>O) (fun _=>True):=by
 have h1:=Eff.mapGet (C:=C) (z:=.agg (bv zb)) ho (by rw[hP];exact Tryz.underlying72) (by rw[hP];exact Tryz.underlying3) (by rw[hP];kernel_rfl) hx hy h hb
 have e:(mget (wv2 W) k).getD (.agg (bv zb))=.agg (bv ((wget W k).getD zb)):=by rw[mget_wv];cases wget W k <;> rfl
 have e2:(mget (wv2 W) k).isSome=(wget W k).isSome:=by rw[mget_wv];cases wget W k <;> rfl
 rw[e,e2]at h1
 exact h1
theorem fltF_in {D:DK} {q:Int} (h:fltF D q=0):0≤q∧q<(D.last.length:Int):=by
 unfold fltF at h
 split at h
 ·cases h
 split at h
 ·assumption
 cases h
end
section
open K
theorem qE {b n:Nat} (h:n<2^b):(n:Int)≤((2^b-1:Nat):Int):=by omega
theorem tn_lt {x b:Nat} (h:x<2^b):((x:Int)).toNat<2^b:=by rw[yk];exact h
def rotl (x a b:Nat):Nat:=(x*a%4294967296) ||| (x / b)
theorem rotl_lt {x a b:Nat} (h:x<2^32):rotl x a b<2^32:=
 Nat.or_lt_two_pow (qT _ (by decide)) (Nat.lt_of_le_of_lt (Nat.div_le_self _ _) h)
theorem rot25 (x:Nat) (w:World) (hx:x<2^32) :
  Calls Tryz.prog 204 #[.int .u32 (x:Int),.int .i64 (-7)] w fun e w'=>e=.returned (.int .u32 (rotl x 33554432 128:Int))∧Ext [] w w':=by
 refine enter [] [] [] Tryz.func204 rfl kr (yy w) ?_
 refine Rq [0,1] ?_
 refine Rg [0,5] [] (fun _=>[((0≤(18446744073709551609:Int)∧(18446744073709551609:Int)≤18446744073709551615)∧0≤(31:Int)∧(31:Int)≤18446744073709551615)]) ⟨om,trivial⟩ ?_
 refine Rg [4] [] (fun _=>[(0≤(25:Int)∧25≤32),(0≤(7:Int)∧7≤32),((0≤(((x:Int)*33554432)%4294967296)∧(((x:Int)*33554432)%4294967296)≤4294967295)∧0≤((x:Int) / 128)∧((x:Int) / 128)≤4294967295)]) ⟨om,om,om,trivial⟩ ?_
 refine Rt [uN (((((x:Int)*33554432)%4294967296)).toNat ||| (((x:Int) / 128)).toNat)] (fun w1 hp=>?_)
 refine⟨?_,hp.ext⟩
 unfold rotl
 rw[show x*33554432%4294967296=((x:Int)*33554432%4294967296).toNat by omega,show x / 128=((x:Int) / 128).toNat by omega]
 rfl
theorem rot14 (x:Nat) (w:World) (hx:x<2^32) :
  Calls Tryz.prog 204 #[.int .u32 (x:Int),.int .i64 (-18)] w fun e w'=>e=.returned (.int .u32 (rotl x 16384 262144:Int))∧Ext [] w w':=by
 refine enter [] [] [] Tryz.func204 rfl kr (yy w) ?_
 refine Rq [0,1] ?_
 refine Rg [0,5] [] (fun _=>[((0≤(18446744073709551598:Int)∧(18446744073709551598:Int)≤18446744073709551615)∧0≤(31:Int)∧(31:Int)≤18446744073709551615)]) ⟨om,trivial⟩ ?_
 refine Rg [4] [] (fun _=>[(0≤(14:Int)∧14≤32),(0≤(18:Int)∧18≤32),((0≤(((x:Int)*16384)%4294967296)∧(((x:Int)*16384)%4294967296)≤4294967295)∧0≤((x:Int) / 262144)∧((x:Int) / 262144)≤4294967295)]) ⟨om,om,om,trivial⟩ ?_
 refine Rt [uN (((((x:Int)*16384)%4294967296)).toNat ||| (((x:Int) / 262144)).toNat)] (fun w1 hp=>?_)
 refine⟨?_,hp.ext⟩
 unfold rotl
 rw[show x*16384%4294967296=((x:Int)*16384%4294967296).toNat by omega,show x / 262144=((x:Int) / 262144).toNat by omega]
 rfl
theorem rot15 (x:Nat) (w:World) (hx:x<2^32) :
  Calls Tryz.prog 204 #[.int .u32 (x:Int),.int .i64 (-17)] w fun e w'=>e=.returned (.int .u32 (rotl x 32768 131072:Int))∧Ext [] w w':=by
 refine enter [] [] [] Tryz.func204 rfl kr (yy w) ?_
 refine Rq [0,1] ?_
 refine Rg [0,5] [] (fun _=>[((0≤(18446744073709551599:Int)∧(18446744073709551599:Int)≤18446744073709551615)∧0≤(31:Int)∧(31:Int)≤18446744073709551615)]) ⟨om,trivial⟩ ?_
 refine Rg [4] [] (fun _=>[(0≤(15:Int)∧15≤32),(0≤(17:Int)∧17≤32),((0≤(((x:Int)*32768)%4294967296)∧(((x:Int)*32768)%4294967296)≤4294967295)∧0≤((x:Int) / 131072)∧((x:Int) / 131072)≤4294967295)]) ⟨om,om,om,trivial⟩ ?_
 refine Rt [uN (((((x:Int)*32768)%4294967296)).toNat ||| (((x:Int) / 131072)).toNat)] (fun w1 hp=>?_)
 refine⟨?_,hp.ext⟩
 unfold rotl
 rw[show x*32768%4294967296=((x:Int)*32768%4294967296).toNat by omega,show x / 131072=((x:Int) / 131072).toNat by omega]
 rfl
theorem rot13 (x:Nat) (w:World) (hx:x<2^32) :
  Calls Tryz.prog 204 #[.int .u32 (x:Int),.int .i64 (-19)] w fun e w'=>e=.returned (.int .u32 (rotl x 8192 524288:Int))∧Ext [] w w':=by
 refine enter [] [] [] Tryz.func204 rfl kr (yy w) ?_
 refine Rq [0,1] ?_
 refine Rg [0,5] [] (fun _=>[((0≤(18446744073709551597:Int)∧(18446744073709551597:Int)≤18446744073709551615)∧0≤(31:Int)∧(31:Int)≤18446744073709551615)]) ⟨om,trivial⟩ ?_
 refine Rg [4] [] (fun _=>[(0≤(13:Int)∧13≤32),(0≤(19:Int)∧19≤32),((0≤(((x:Int)*8192)%4294967296)∧(((x:Int)*8192)%4294967296)≤4294967295)∧0≤((x:Int) / 524288)∧((x:Int) / 524288)≤4294967295)]) ⟨om,om,om,trivial⟩ ?_
 refine Rt [uN (((((x:Int)*8192)%4294967296)).toNat ||| (((x:Int) / 524288)).toNat)] (fun w1 hp=>?_)
 refine⟨?_,hp.ext⟩
 unfold rotl
 rw[show x*8192%4294967296=((x:Int)*8192%4294967296).toNat by omega,show x / 524288=((x:Int) / 524288).toNat by omega]
 rfl
theorem rot26 (x:Nat) (w:World) (hx:x<2^32) :
  Calls Tryz.prog 204 #[.int .u32 (x:Int),.int .i64 (-6)] w fun e w'=>e=.returned (.int .u32 (rotl x 67108864 64:Int))∧Ext [] w w':=by
 refine enter [] [] [] Tryz.func204 rfl kr (yy w) ?_
 refine Rq [0,1] ?_
 refine Rg [0,5] [] (fun _=>[((0≤(18446744073709551610:Int)∧(18446744073709551610:Int)≤18446744073709551615)∧0≤(31:Int)∧(31:Int)≤18446744073709551615)]) ⟨om,trivial⟩ ?_
 refine Rg [4] [] (fun _=>[(0≤(26:Int)∧26≤32),(0≤(6:Int)∧6≤32),((0≤(((x:Int)*67108864)%4294967296)∧(((x:Int)*67108864)%4294967296)≤4294967295)∧0≤((x:Int) / 64)∧((x:Int) / 64)≤4294967295)]) ⟨om,om,om,trivial⟩ ?_
 refine Rt [uN (((((x:Int)*67108864)%4294967296)).toNat ||| (((x:Int) / 64)).toNat)] (fun w1 hp=>?_)
 refine⟨?_,hp.ext⟩
 unfold rotl
 rw[show x*67108864%4294967296=((x:Int)*67108864%4294967296).toNat by omega,show x / 64=((x:Int) / 64).toNat by omega]
 rfl
theorem rot21 (x:Nat) (w:World) (hx:x<2^32) :
  Calls Tryz.prog 204 #[.int .u32 (x:Int),.int .i64 (-11)] w fun e w'=>e=.returned (.int .u32 (rotl x 2097152 2048:Int))∧Ext [] w w':=by
 refine enter [] [] [] Tryz.func204 rfl kr (yy w) ?_
 refine Rq [0,1] ?_
 refine Rg [0,5] [] (fun _=>[((0≤(18446744073709551605:Int)∧(18446744073709551605:Int)≤18446744073709551615)∧0≤(31:Int)∧(31:Int)≤18446744073709551615)]) ⟨om,trivial⟩ ?_
 refine Rg [4] [] (fun _=>[(0≤(21:Int)∧21≤32),(0≤(11:Int)∧11≤32),((0≤(((x:Int)*2097152)%4294967296)∧(((x:Int)*2097152)%4294967296)≤4294967295)∧0≤((x:Int) / 2048)∧((x:Int) / 2048)≤4294967295)]) ⟨om,om,om,trivial⟩ ?_
 refine Rt [uN (((((x:Int)*2097152)%4294967296)).toNat ||| (((x:Int) / 2048)).toNat)] (fun w1 hp=>?_)
 refine⟨?_,hp.ext⟩
 unfold rotl
 rw[show x*2097152%4294967296=((x:Int)*2097152%4294967296).toNat by omega,show x / 2048=((x:Int) / 2048).toNat by omega]
 rfl
theorem rot7 (x:Nat) (w:World) (hx:x<2^32) :
  Calls Tryz.prog 204 #[.int .u32 (x:Int),.int .i64 (-25)] w fun e w'=>e=.returned (.int .u32 (rotl x 128 33554432:Int))∧Ext [] w w':=by
 refine enter [] [] [] Tryz.func204 rfl kr (yy w) ?_
 refine Rq [0,1] ?_
 refine Rg [0,5] [] (fun _=>[((0≤(18446744073709551591:Int)∧(18446744073709551591:Int)≤18446744073709551615)∧0≤(31:Int)∧(31:Int)≤18446744073709551615)]) ⟨om,trivial⟩ ?_
 refine Rg [4] [] (fun _=>[(0≤(7:Int)∧7≤32),(0≤(25:Int)∧25≤32),((0≤(((x:Int)*128)%4294967296)∧(((x:Int)*128)%4294967296)≤4294967295)∧0≤((x:Int) / 33554432)∧((x:Int) / 33554432)≤4294967295)]) ⟨om,om,om,trivial⟩ ?_
 refine Rt [uN (((((x:Int)*128)%4294967296)).toNat ||| (((x:Int) / 33554432)).toNat)] (fun w1 hp=>?_)
 refine⟨?_,hp.ext⟩
 unfold rotl
 rw[show x*128%4294967296=((x:Int)*128%4294967296).toNat by omega,show x / 33554432=((x:Int) / 33554432).toNat by omega]
 rfl
theorem rot30 (x:Nat) (w:World) (hx:x<2^32) :
  Calls Tryz.prog 204 #[.int .u32 (x:Int),.int .i64 (-2)] w fun e w'=>e=.returned (.int .u32 (rotl x 1073741824 4:Int))∧Ext [] w w':=by
 refine enter [] [] [] Tryz.func204 rfl kr (yy w) ?_
 refine Rq [0,1] ?_
 refine Rg [0,5] [] (fun _=>[((0≤(18446744073709551614:Int)∧(18446744073709551614:Int)≤18446744073709551615)∧0≤(31:Int)∧(31:Int)≤18446744073709551615)]) ⟨om,trivial⟩ ?_
 refine Rg [4] [] (fun _=>[(0≤(30:Int)∧30≤32),(0≤(2:Int)∧2≤32),((0≤(((x:Int)*1073741824)%4294967296)∧(((x:Int)*1073741824)%4294967296)≤4294967295)∧0≤((x:Int) / 4)∧((x:Int) / 4)≤4294967295)]) ⟨om,om,om,trivial⟩ ?_
 refine Rt [uN (((((x:Int)*1073741824)%4294967296)).toNat ||| (((x:Int) / 4)).toNat)] (fun w1 hp=>?_)
 refine⟨?_,hp.ext⟩
 unfold rotl
 rw[show x*1073741824%4294967296=((x:Int)*1073741824%4294967296).toNat by omega,show x / 4=((x:Int) / 4).toNat by omega]
 rfl
theorem rot19 (x:Nat) (w:World) (hx:x<2^32) :
  Calls Tryz.prog 204 #[.int .u32 (x:Int),.int .i64 (-13)] w fun e w'=>e=.returned (.int .u32 (rotl x 524288 8192:Int))∧Ext [] w w':=by
 refine enter [] [] [] Tryz.func204 rfl kr (yy w) ?_
 refine Rq [0,1] ?_
 refine Rg [0,5] [] (fun _=>[((0≤(18446744073709551603:Int)∧(18446744073709551603:Int)≤18446744073709551615)∧0≤(31:Int)∧(31:Int)≤18446744073709551615)]) ⟨om,trivial⟩ ?_
 refine Rg [4] [] (fun _=>[(0≤(19:Int)∧19≤32),(0≤(13:Int)∧13≤32),((0≤(((x:Int)*524288)%4294967296)∧(((x:Int)*524288)%4294967296)≤4294967295)∧0≤((x:Int) / 8192)∧((x:Int) / 8192)≤4294967295)]) ⟨om,om,om,trivial⟩ ?_
 refine Rt [uN (((((x:Int)*524288)%4294967296)).toNat ||| (((x:Int) / 8192)).toNat)] (fun w1 hp=>?_)
 refine⟨?_,hp.ext⟩
 unfold rotl
 rw[show x*524288%4294967296=((x:Int)*524288%4294967296).toNat by omega,show x / 8192=((x:Int) / 8192).toNat by omega]
 rfl
theorem rot10 (x:Nat) (w:World) (hx:x<2^32) :
  Calls Tryz.prog 204 #[.int .u32 (x:Int),.int .i64 (-22)] w fun e w'=>e=.returned (.int .u32 (rotl x 1024 4194304:Int))∧Ext [] w w':=by
 refine enter [] [] [] Tryz.func204 rfl kr (yy w) ?_
 refine Rq [0,1] ?_
 refine Rg [0,5] [] (fun _=>[((0≤(18446744073709551594:Int)∧(18446744073709551594:Int)≤18446744073709551615)∧0≤(31:Int)∧(31:Int)≤18446744073709551615)]) ⟨om,trivial⟩ ?_
 refine Rg [4] [] (fun _=>[(0≤(10:Int)∧10≤32),(0≤(22:Int)∧22≤32),((0≤(((x:Int)*1024)%4294967296)∧(((x:Int)*1024)%4294967296)≤4294967295)∧0≤((x:Int) / 4194304)∧((x:Int) / 4194304)≤4294967295)]) ⟨om,om,om,trivial⟩ ?_
 refine Rt [uN (((((x:Int)*1024)%4294967296)).toNat ||| (((x:Int) / 4194304)).toNat)] (fun w1 hp=>?_)
 refine⟨?_,hp.ext⟩
 unfold rotl
 rw[show x*1024%4294967296=((x:Int)*1024%4294967296).toNat by omega,show x / 4194304=((x:Int) / 4194304).toNat by omega]
 rfl
end
section
open K
def stC (hs:List Nat) (bl:List UInt8) (held total:Nat):Array Value:=((wv hs).toList++((bv bl).toList++[Value.int .i64 (held:Int),Value.int .u64 (total:Int)])).toArray
theorem wlen {hs:List Nat} {n:Nat} (h:hs.length=n):(wv hs).toList.length=n:=by rw[z7,wv_size,h]
theorem blen {hs:List UInt8} {n:Nat} (h:hs.length=n):(bv hs).toList.length=n:=by rw[z7,zP,h]
section
variable {hs:List Nat} {bl:List UInt8} {held total:Nat}
theorem st_size (hh:hs.length=8) (hb:bl.length=64):(stC hs bl held total).size=74:=by
 have h1:=wlen hh;have h2:=blen hb
 simp only[stC,List.size_toArray,List.length_append,h1,h2];rfl
theorem st_sum (hh:hs.length=8) {k:Nat} (hk:k<8):(stC hs bl held total)[k]? = some (.int .u32 ((hs.getD k 0:Nat):Int)):=by
 have h1:=wv_get hh hk
 have h2:=wlen hh
 rw[←qj]at h1
 simp only[stC,List.getElem?_toArray]
 rw[zJ om,h1]
theorem st_byte (hh:hs.length=8) (hb:bl.length=64) {j:Nat} (hj:j<64):(stC hs bl held total)[8+j]? = some (.int .u8 ((bl.getD j 0).toNat:Int)):=by
 have h1:=bv_get hb hj
 have h2:=wlen hh;have h3:=blen hb
 rw[←qj]at h1
 simp only[stC,List.getElem?_toArray]
 rw[yd om,h2,show 8+j-8=j by omega,zJ om,h1]
theorem st_held (hh:hs.length=8) (hb:bl.length=64):(stC hs bl held total)[72]? = some (.int .i64 (held:Int)):=by
 have h2:=wlen hh;have h3:=blen hb
 simp only[stC,List.getElem?_toArray]
 rw[yd om,h2,yd om,h3];rfl
theorem st_total (hh:hs.length=8) (hb:bl.length=64):(stC hs bl held total)[73]? = some (.int .u64 (total:Int)):=by
 have h2:=wlen hh;have h3:=blen hb
 simp only[stC,List.getElem?_toArray]
 rw[yd om,h2,yd om,h3];rfl
theorem st_setSum (hh:hs.length=8) {k:Nat} (hk:k<8) {x:Int} (hx:0≤x):(stC hs bl held total).setIfInBounds k (.int .u32 x)=stC (hs.set k x.toNat) bl held total:=by
 have h1:=wv_set (l:=hs) (i:=k) hx
 have h2:=wlen hh
 apply qq
 simp only[stC,List.setIfInBounds_toArray]
 rw[List.set_append_left _ _ om,←h1,Array.toList_setIfInBounds]
theorem st_setHeld (hh:hs.length=8) (hb:bl.length=64) {n:Nat} {x:Int} (hx:x=(n:Int)):(stC hs bl held total).setIfInBounds 72 (.int .i64 x)=stC hs bl n total:=by
 subst hx
 have h2:=wlen hh;have h3:=blen hb
 apply qq
 simp only[stC,List.setIfInBounds_toArray]
 rw[qI _ _ om,h2,qI _ _ om,h3];rfl
theorem st_setTotal (hh:hs.length=8) (hb:bl.length=64) {n:Nat} {x:Int} (hx:x=(n:Int)):(stC hs bl held total).setIfInBounds 73 (.int .u64 x)=stC hs bl held n:=by
 subst hx
 have h2:=wlen hh;have h3:=blen hb
 apply qq
 simp only[stC,List.setIfInBounds_toArray]
 rw[qI _ _ om,h2,qI _ _ om,h3];rfl
end
def be4 (a b c d:Nat):Nat:=(((a*16777216%4294967296) ||| (b*65536%4294967296)) ||| (c*256%4294967296)) ||| d
theorem m24 (n:Nat):((n:Int)*16777216%4294967296).toNat=n*16777216%4294967296:=by omega
theorem m16 (n:Nat):((n:Int)*65536%4294967296).toNat=n*65536%4294967296:=by omega
theorem m8 (n:Nat):((n:Int)*256%4294967296).toNat=n*256%4294967296:=by omega
theorem d10 (n:Nat):((n:Int) / 1024).toNat=n / 1024:=by omega
theorem d3 (n:Nat):((n:Int) / 8).toNat=n / 8:=by omega
theorem be4_eq (a b c d:Nat):(((((((((((((a:Nat):Int)*16777216)%4294967296)).toNat ||| (((((b:Nat):Int)*65536)%4294967296)).toNat:Nat):Int)).toNat ||| (((((c:Nat):Int)*256)%4294967296)).toNat:Nat):Int)).toNat ||| ((((d:Nat):Int))).toNat:Nat):Int)=((be4 a b c d:Nat):Int):=by
 unfold be4
 rw[m24,m16,m8,yk,yk,yk]
def bt4 (bl:List UInt8) (i:Nat):Nat:=(bl.getD i 0).toNat
def shBe (bl:List UInt8) (t:Nat):Nat:=be4 (bt4 bl (4*t)) (bt4 bl (4*t+1)) (bt4 bl (4*t+2)) (bt4 bl (4*t+3))
def wlow (x:Nat):Nat:=(rotl x 33554432 128 ^^^ rotl x 16384 262144) ^^^ (x / 8)
def whigh (x:Nat):Nat:=(rotl x 32768 131072 ^^^ rotl x 8192 524288) ^^^ (x / 1024)
theorem x3 (p q r:Nat) (c:Int) (h:c.toNat=r):((((((p:Nat):Int)).toNat ^^^ (((q:Nat):Int)).toNat:Nat):Int)).toNat ^^^ c.toNat=(p ^^^ q) ^^^ r:=by rw[h];rfl
theorem wsum (a b c d:Nat):((((((a:Int)+(b:Int))%4294967296)+(c:Int))%4294967296)+(d:Int))%4294967296=(((((a+b)%4294967296+c)%4294967296+d)%4294967296:Nat):Int):=by omega
def wn4 (y x7 x x16:Nat):Nat:=(((whigh y+x7)%4294967296+wlow x)%4294967296+x16)%4294967296
theorem wn_eq (y x7 x x16:Nat):(((((((((((rotl y 32768 131072:Int)).toNat ^^^ ((rotl y 8192 524288:Int)).toNat:Nat):Int)).toNat ^^^ (((y:Int) / 1024)).toNat:Nat):Int)+(x7:Int))%4294967296)+(((((((rotl x 33554432 128:Int)).toNat ^^^ ((rotl x 16384 262144:Int)).toNat:Nat):Int)).toNat ^^^ (((x:Int) / 8)).toNat:Nat):Int))%4294967296+(x16:Int))%4294967296=((wn4 y x7 x x16:Nat):Int):=by
 rw[x3 _ _ _ _ (d10 y),x3 _ _ _ _ (d3 x)]
 exact wsum (whigh y) x7 (wlow x) x16
def rg (r:List Nat) (i:Nat):Nat:=r.getD i 0
def wnext (bl:List UInt8) (r:List Nat) (t:Nat):Nat:=if t<16 then shBe bl t else wn4 (rg r (t-2)) (rg r (t-7)) (rg r (t-15)) (rg r (t-16))
def row (bl:List UInt8):Nat→List Nat
 | 0=>replicate 64 0
 | t+1=>(row bl t).set t (wnext bl (row bl t) t)
theorem row_len (bl:List UInt8):∀t,(row bl t).length=64
 | 0=>by simp[row]
 | t+1=>by rw[row,yc];exact row_len bl t
theorem b8 (b:UInt8):b.toNat<2^32:=by have:=UInt8.toNat_lt b;omega
theorem bt4_lt (bl:List UInt8) (i:Nat):bt4 bl i<256:=UInt8.toNat_lt _
theorem b84 (bl:List UInt8) (i:Nat):bt4 bl i<2^32:=b8 _
theorem be_lt (bl:List UInt8) (t:Nat):shBe bl t<2^32:=
 Nat.or_lt_two_pow (Nat.or_lt_two_pow (Nat.or_lt_two_pow (qT _ (by decide)) (qT _ (by decide))) (qT _ (by decide))) (b84 _ _)
theorem wnext_lt (bl:List UInt8) (r:List Nat) (t:Nat):wnext bl r t<2^32:=by
 unfold wnext
 split
 ·exact be_lt ..
 exact qT _ (by decide)
theorem row_lt (bl:List UInt8):∀t j,rg (row bl t) j<2^32
 | 0,j=>by
  simp only[rg,row,List.getD_eq_getElem?_getD,List.getElem?_replicate]
  split <;> simp
 | t+1,j=>by
  have ih:=row_lt bl t j
  simp only[rg,row,List.getD_eq_getElem?_getD,List.getElem?_set]at *
  split
  ·split
   ·exact wnext_lt ..
   ·simp
  ·exact ih
theorem row_step (bl:List UInt8) (t:Nat) {x:Int} (hx:x=(wnext bl (row bl t) t:Int)):(wv (row bl t)).setIfInBounds t (.int .u32 x)=wv (row bl (t+1)):=by
 subst hx
 rw[wv_set om]
 rfl
theorem wnext_lo {bl:List UInt8} {t:Nat} (h:t<16) {x:Int} (hx:x=((shBe bl t:Nat):Int)):x=(wnext bl (row bl t) t:Int):=by rw[hx];unfold wnext;rw[if_pos h]
theorem wnext_hi {bl:List UInt8} {t:Nat} (h:16≤t) {x:Int} (hx:x=((wn4 (rg (row bl t) (t-2)) (rg (row bl t) (t-7)) (rg (row bl t) (t-15)) (rg (row bl t) (t-16)):Nat):Int)):x=(wnext bl (row bl t) t:Int):=by rw[hx];unfold wnext;rw[if_neg (by omega)]
theorem wsize (bl:List UInt8) (t:Nat):(wv (row bl t)).size=64:=by rw[wv_size,row_len]
end
section
open K
def Kc:List Nat:=[1116352408,1899447441,3049323471,3921009573,961987163,1508970993,2453635748,2870763221,3624381080,310598401,607225278,1426881987,1925078388,2162078206,2614888103,3248222580,3835390401,4022224774,264347078,604807628,770255983,1249150122,1555081692,1996064986,2554220882,2821834349,2952996808,3210313671,3336571891,3584528711,113926993,338241895,666307205,773529912,1294757372,1396182291,1695183700,1986661051,2177026350,2456956037,2730485921,2820302411,3259730800,3345764771,3516065817,3600352804,4094571909,275423344,430227734,506948616,659060556,883997877,958139571,1322822218,1537002063,1747873779,1955562222,2024104815,2227730452,2361852424,2428436474,2756734187,3204031479,3329325298]
structure W8 where
 a:Nat
 b:Nat
 c:Nat
 d:Nat
 e:Nat
 f:Nat
 g:Nat
 h:Nat
structure W8.Ok (s:W8):Prop where
 a:s.a<2^32
 b:s.b<2^32
 c:s.c<2^32
 d:s.d<2^32
 e:s.e<2^32
 f:s.f<2^32
 g:s.g<2^32
 h:s.h<2^32
def bigE (x:Nat):Nat:=(rotl x 67108864 64 ^^^ rotl x 2097152 2048) ^^^ rotl x 128 33554432
def bigA (x:Nat):Nat:=(rotl x 1073741824 4 ^^^ rotl x 524288 8192) ^^^ rotl x 1024 4194304
def choi (e f g:Nat):Nat:=(e &&& f) ^^^ ((4294967295 ^^^ e) &&& g)
def most (a b c:Nat):Nat:=((a &&& b) ^^^ (a &&& c)) ^^^ (b &&& c)
def fst5 (h x c k w:Nat):Nat:=((((h+x)%4294967296+c)%4294967296+k)%4294967296+w)%4294967296
def frst (k w:Nat) (s:W8):Nat:=fst5 s.h (bigE s.e) (choi s.e s.f s.g) k w
def scnd (s:W8):Nat:=(bigA s.a+most s.a s.b s.c)%4294967296
def rnd (k w:Nat) (s:W8):W8:=⟨(frst k w s+scnd s)%4294967296,s.a,s.b,s.c,(s.d+frst k w s)%4294967296,s.e,s.f,s.g⟩
def w8 (l:List Nat):W8:=⟨rg l 0,rg l 1,rg l 2,rg l 3,rg l 4,rg l 5,rg l 6,rg l 7⟩
def w8l (s:W8):List Nat:=[s.a,s.b,s.c,s.d,s.e,s.f,s.g,s.h]
def rv (hs:List Nat) (bl:List UInt8):Nat→W8
 | 0=>w8 hs
 | t+1=>rnd (rg Kc t) (rg (row bl 64) t) (rv hs bl t)
theorem rv_ok {hs:List Nat} (hlt:∀i,rg hs i<2^32) (bl:List UInt8):∀t,(rv hs bl t).Ok
 | 0=>⟨hlt 0,hlt 1,hlt 2,hlt 3,hlt 4,hlt 5,hlt 6,hlt 7⟩
 | t+1=>by
  have ih:=rv_ok hlt bl t
  exact⟨qT _ (by decide),ih.a,ih.b,ih.c,qT _ (by decide),ih.e,ih.f,ih.g⟩
theorem add32 (x y:Nat):((x:Int)+(y:Int))%4294967296=(((x+y)%4294967296:Nat):Int):=by omega
theorem fst5_eq (h x c k w:Nat):((((((((h:Int)+(x:Int))%4294967296)+(c:Int))%4294967296)+(k:Int))%4294967296)+(w:Int))%4294967296=((fst5 h x c k w:Nat):Int):=by unfold fst5;omega
def sm (hs vs:List Nat):Nat→List Nat
 | 0=>hs
 | k+1=>(sm hs vs k).set k ((rg (sm hs vs k) k+rg vs k)%4294967296)
theorem sm_len {hs:List Nat} (vs:List Nat) (hh:hs.length=8):∀k,(sm hs vs k).length=8
 | 0=>hh
 | k+1=>by rw[sm,yc];exact sm_len vs hh k
theorem sm_lt {hs:List Nat} (vs:List Nat) (hlt:∀i,rg hs i<2^32):∀k i,rg (sm hs vs k) i<2^32
 | 0,i=>hlt i
 | k+1,i=>by
  have ih:=sm_lt vs hlt k i
  simp only[rg,sm,List.getD_eq_getElem?_getD,List.getElem?_set]at *
  split
  ·split
   ·exact qT _ (by decide)
   simp
  exact ih
def mixF (hs:List Nat) (bl:List UInt8):List Nat:=sm hs (w8l (rv hs bl 64)) 8
theorem sm_step {hs vs:List Nat} {bl:List UInt8} {held total k:Nat} (hh:hs.length=8) (hk:k<8) :
  (stC (sm hs vs k) bl held total).setIfInBounds k (.int .u32 (((rg (sm hs vs k) k:Int)+(rg vs k:Int))%4294967296))=stC (sm hs vs (k+1)) bl held total:=by
 rw[add32,st_setSum (sm_len vs hh k) hk om,yk]
 rfl
theorem xx3 (p q r:Nat):((((((((p:Nat):Int)).toNat ^^^ (((q:Nat):Int)).toNat:Nat):Int)).toNat ^^^ (((r:Nat):Int)).toNat:Nat):Int)=(((p ^^^ q) ^^^ r:Nat):Int):=rfl
theorem cc4 (m e f g:Nat):(((((((e:Nat):Int)).toNat &&& (((f:Nat):Int)).toNat:Nat):Int)).toNat ^^^ ((((((m ^^^ (((e:Nat):Int)).toNat:Nat):Int)).toNat &&& (((g:Nat):Int)).toNat:Nat):Int)).toNat:Nat)=(((e &&& f) ^^^ ((m ^^^ e) &&& g):Nat):Int):=rfl
theorem bigE_eq (x:Nat):((((((rotl x 67108864 64:Int)).toNat ^^^ ((rotl x 2097152 2048:Int)).toNat:Nat):Int)).toNat ^^^ ((rotl x 128 33554432:Int)).toNat:Nat)=((bigE x:Nat):Int):=by unfold bigE;exact xx3 _ _ _
theorem bigA_eq (x:Nat):((((((rotl x 1073741824 4:Int)).toNat ^^^ ((rotl x 524288 8192:Int)).toNat:Nat):Int)).toNat ^^^ ((rotl x 1024 4194304:Int)).toNat:Nat)=((bigA x:Nat):Int):=by unfold bigA;exact xx3 _ _ _
theorem choi_eq (e f g:Nat):(((((((e:Nat):Int)).toNat &&& (((f:Nat):Int)).toNat:Nat):Int)).toNat ^^^ ((((((4294967295 ^^^ (((e:Nat):Int)).toNat:Nat):Int)).toNat &&& (((g:Nat):Int)).toNat:Nat):Int)).toNat:Nat)=((choi e f g:Nat):Int):=by unfold choi;exact cc4 _ _ _ _
theorem most_eq (a b c:Nat):((((((((((a:Int)).toNat &&& ((b:Int)).toNat:Nat):Int)).toNat ^^^ (((((a:Int)).toNat &&& ((c:Int)).toNat:Nat):Int)).toNat:Nat):Int)).toNat ^^^ (((((b:Int)).toNat &&& ((c:Int)).toNat:Nat):Int)).toNat:Nat):Int)=((most a b c:Nat):Int):=rfl
theorem frst_eq (k w:Nat) (s:W8):((((((((s.h:Int)+(bigE s.e:Int))%4294967296)+(choi s.e s.f s.g:Int))%4294967296)+(k:Int))%4294967296)+(w:Int))%4294967296=((frst k w s:Nat):Int):=by unfold frst;exact fst5_eq _ _ _ _ _
theorem scnd_eq (s:W8):((bigA s.a:Int)+(most s.a s.b s.c:Int))%4294967296=((scnd s:Nat):Int):=by unfold scnd;exact add32 _ _
theorem rv_succ (hs:List Nat) (bl:List UInt8) (t:Nat):rv hs bl (t+1)=rnd (rg Kc t) (rg (row bl 64) t) (rv hs bl t):=rfl
theorem rnd_def (k w:Nat) (s:W8):rnd k w s=⟨(frst k w s+scnd s)%4294967296,s.a,s.b,s.c,(s.d+frst k w s)%4294967296,s.e,s.f,s.g⟩:=rfl
section
variable (a b c d e f g h:Nat)
theorem pa:(W8.mk a b c d e f g h).a=a:=rfl
theorem pb:(W8.mk a b c d e f g h).b=b:=rfl
theorem pc:(W8.mk a b c d e f g h).c=c:=rfl
theorem pd:(W8.mk a b c d e f g h).d=d:=rfl
theorem pe:(W8.mk a b c d e f g h).e=e:=rfl
theorem pf:(W8.mk a b c d e f g h).f=f:=rfl
theorem pg:(W8.mk a b c d e f g h).g=g:=rfl
theorem ph:(W8.mk a b c d e f g h).h=h:=rfl
end
section
variable (hs:List Nat) (bl:List UInt8) (t:Nat)
theorem rv_a:((frst (rg Kc t) (rg (row bl 64) t) (rv hs bl t):Int)+(scnd (rv hs bl t):Int))%4294967296=((rv hs bl (t+1)).a:Int):=by rw[rv_succ,rnd_def,pa,add32]
theorem rv_b:((rv hs bl t).a:Int)=((rv hs bl (t+1)).b:Int):=by rw[rv_succ,rnd_def,pb]
theorem rv_c:((rv hs bl t).b:Int)=((rv hs bl (t+1)).c:Int):=by rw[rv_succ,rnd_def,pc]
theorem rv_d:((rv hs bl t).c:Int)=((rv hs bl (t+1)).d:Int):=by rw[rv_succ,rnd_def,pd]
theorem rv_e:(((rv hs bl t).d:Int)+(frst (rg Kc t) (rg (row bl 64) t) (rv hs bl t):Int))%4294967296=((rv hs bl (t+1)).e:Int):=by rw[rv_succ,rnd_def,pe,add32]
theorem rv_f:((rv hs bl t).e:Int)=((rv hs bl (t+1)).f:Int):=by rw[rv_succ,rnd_def,pf]
theorem rv_g:((rv hs bl t).f:Int)=((rv hs bl (t+1)).g:Int):=by rw[rv_succ,rnd_def,pg]
theorem rv_h:((rv hs bl t).g:Int)=((rv hs bl (t+1)).h:Int):=by rw[rv_succ,rnd_def,ph]
end
theorem w8l_len (s:W8):(w8l s).length=8:=rfl
def KT (kt:Array Value):Prop:=∀t,t<64→kt[t]? = some (.int .u32 (rg Kc t:Int))
theorem kget {t:Nat} (h:t<64):(wv Kc)[t]? = some (.int .u32 (rg Kc t:Int)):=wv_get (n:=64) rfl h
end
section
open K
structure Sh where
 hs:List Nat
 bl:List UInt8
 held:Nat
structure Sh.Ok (s:Sh):Prop where
 hh:s.hs.length=8
 hb:s.bl.length=64
 hlt:∀i,rg s.hs i<2^32
 held:s.held<64
theorem mixF_len {hs:List Nat} (bl:List UInt8) (hh:hs.length=8):(mixF hs bl).length=8:=sm_len _ hh 8
theorem mixF_lt {hs:List Nat} (bl:List UInt8) (hlt:∀i,rg hs i<2^32):∀i,rg (mixF hs bl) i<2^32:=sm_lt _ hlt 8
def feedB (s:Sh) (c:UInt8):Sh:=if s.held+1=64 then⟨mixF s.hs (s.bl.set s.held c),s.bl.set s.held c,0⟩ else⟨s.hs,s.bl.set s.held c,s.held+1⟩
def feed (s:Sh) (l:List UInt8):Sh:=l.foldl feedB s
theorem feed_nil (s:Sh):feed s []=s:=rfl
theorem feed_app (s:Sh) (a b:List UInt8):feed s (a++b)=feed (feed s a) b:=List.foldl_append ..
theorem feedB_ok {s:Sh} (h:s.Ok) (c:UInt8):(feedB s c).Ok:=by
 unfold feedB
 split
 ·exact⟨mixF_len _ h.hh,by simp[h.hb],mixF_lt _ h.hlt,Nat.zero_lt_succ 63⟩
 have:=h.held
 exact⟨h.hh,by simp[h.hb],h.hlt,by show s.held+1<64;omega⟩
theorem feed_ok:∀(l:List UInt8) {s:Sh},s.Ok→(feed s l).Ok
 | [],s,h=>h
 | c::l,s,h=>feed_ok l (feedB_ok h c)
theorem feedB_held {s:Sh} (h:s.Ok) (c:UInt8):(feedB s c).held=(s.held+1)%64:=by
 have:=h.held
 unfold feedB
 split <;> simp only <;> omega
theorem feed_held:∀(l:List UInt8) {s:Sh},s.Ok→(feed s l).held=(s.held+l.length)%64
 | [],s,h=>by have:=h.held;show s.held=(s.held+0)%64;omega
 | c::l,s,h=>by
  have e:=feed_held l (feedB_ok h c)
  rw[feedB_held h c]at e
  show(feed (feedB s c) l).held=_
  rw[e,zL];omega
def lay (bl:List UInt8) (off:Nat):List UInt8→List UInt8
 | []=>bl
 | c::l=>lay (bl.set off c) (off+1) l
theorem lay_len:∀(l bl:List UInt8) (off:Nat),(lay bl off l).length=bl.length
 | [],bl,off=>rfl
 | c::l,bl,off=>by rw[lay,lay_len l,yc]
theorem feed_part:∀(l:List UInt8) (hs:List Nat) (bl:List UInt8) (held:Nat),held+l.length<64→feed ⟨hs,bl,held⟩ l=⟨hs,lay bl held l,held+l.length⟩
 | [],hs,bl,held,_=>rfl
 | c::l,hs,bl,held,h=>by
  rw[zL]at h
  have e:feedB ⟨hs,bl,held⟩ c=⟨hs,bl.set held c,held+1⟩:=by unfold feedB;rw[if_neg (by show ¬held+1=64;omega)]
  show feed (feedB ⟨hs,bl,held⟩ c) l=_
  rw[e,feed_part l hs (bl.set held c) (held+1) om,lay,zL,show held+1+l.length=held+(l.length+1) by omega]
theorem feed_full:∀(l:List UInt8) (hs:List Nat) (bl:List UInt8) (held:Nat),held<64→held+l.length=64→feed ⟨hs,bl,held⟩ l=⟨mixF hs (lay bl held l),lay bl held l,0⟩
 | [],hs,bl,held,h0,h=>by simp at h;omega
 | c::l,hs,bl,held,h0,h=>by
  rw[zL]at h
  show feed (feedB ⟨hs,bl,held⟩ c) l=_
  by_cases hl:held+1=64
  ·obtain rfl:l=[]:=ya om
   unfold feedB;rw[if_pos hl];rfl
  have e:feedB ⟨hs,bl,held⟩ c=⟨hs,bl.set held c,held+1⟩:=by unfold feedB;rw[if_neg hl]
  rw[e,feed_full l hs (bl.set held c) (held+1) om om,lay]
theorem st_setByte {hs:List Nat} {bl:List UInt8} {held total j:Nat} (hh:hs.length=8) (hb:bl.length=64) (hj:j<64) (c:UInt8) :
  (stC hs bl held total).setIfInBounds (8+j) (.int .u8 (c.toNat:Int))=stC hs (bl.set j c) held total:=by
 have h1:=bv_set (l:=bl) (i:=j) (x:=(c.toNat:Int)) om (by have:=UInt8.toNat_lt c;omega)
 have h2:=wlen hh;have h3:=blen hb
 apply qq
 simp only[stC,List.setIfInBounds_toArray]
 rw[qI _ _ om,h2,show 8+j-8=j by omega,List.set_append_left _ _ om]
 rw[show UInt8.ofNat ((c.toNat:Int)).toNat=c by simp]at h1
 rw[←h1,Array.toList_setIfInBounds]
theorem spl_lay:∀(l:List UInt8) {hs:List Nat} {bl:List UInt8} {held total j:Nat},hs.length=8→bl.length=64→j+l.length≤64→spl (stC hs bl held total) (8+j) (bv l).toList=stC hs (lay bl j l) held total
 | [],hs,bl,held,total,j,hh,hb,hj=>rfl
 | c::l,hs,bl,held,total,j,hh,hb,hj=>by
  rw[zL]at hj
  show spl ((stC hs bl held total).setIfInBounds (8+j) (.int .u8 (c.toNat:Int))) (8+j+1) (bv l).toList=_
  rw[st_setByte hh hb om,show 8+j+1=8+(j+1) by omega,spl_lay l hh (by simp[hb]) om,lay]
theorem off_eq {held:Nat} (h:held<64):(if 64=held then 8 else(addO 8 held))=8+held:=by rw[if_neg (by omega),y4]
theorem sext_list (p:ByteArray) (n:Nat):(p.extract n p.size).data.toList=p.data.toList.drop n:=by
 rw[ByteArray.data_extract,Array.toList_extract]
 have:p.size=p.data.toList.length:=by simp
 rw[this,List.extract_eq_take_drop,yB (by simp)]
theorem part_len {p:ByteArray} {n:Nat} (h:n≤p.size):(p.data.toList.take n).length=n:=by
 have:p.size=p.data.toList.length:=by simp
 rw[z8];omega
theorem feed_ext (s:Sh) (p:ByteArray) (n:Nat):feed (feed s (p.data.toList.take n)) (p.extract n p.size).data.toList=feed s p.data.toList:=by
 rw[sext_list,←feed_app,yz]
def cn (p:ByteArray) (held:Nat):Nat:=min p.size (64-held)
theorem ext_size (p:ByteArray) (n:Nat) (h:n≤p.size):(p.extract n p.size).size=p.size-n:=by
 rw[ByteArray.size_extract];omega
end
section
open K
def lb (total:Nat):Nat:=total*8%18446744073709551616
theorem lb_eq (total:Nat):((total:Int)*8)%18446744073709551616=((lb total:Nat):Int):=by unfold lb;omega
def pz (z:Sh) (j:Nat):Sh:=feed z (128::replicate j 0)
def tj (total j:Nat):Nat:=(total+1+j)%18446744073709551616
def padN (z:Sh):Nat:=(119-z.held)%64
theorem pz_zero (z:Sh):feedB z 128=pz z 0:=rfl
theorem pz_succ (z:Sh) (j:Nat):feedB (pz z j) 0=pz z (j+1):=by
 unfold pz
 rw[List.replicate_succ',←qZ,feed_app];rfl
theorem tj_zero (total:Nat):(total+1)%18446744073709551616=tj total 0:=rfl
theorem tj_succ (total j:Nat):(tj total j+1)%18446744073709551616=tj total (j+1):=by unfold tj;omega
theorem pz_ok {z:Sh} (h:z.Ok) (j:Nat):(pz z j).Ok:=feed_ok _ h
theorem pz_held {z:Sh} (h:z.Ok) (j:Nat):(pz z j).held=(z.held+1+j)%64:=by
 unfold pz
 rw[feed_held _ h,zL,zk,show z.held+(j+1)=z.held+1+j by omega]
theorem pad_end {z:Sh} (h:z.Ok) {j:Nat} (hj:j≤padN z):((pz z j).held:Int)=56↔j=padN z:=by
 have h1:=h.held
 rw[pz_held h]
 unfold padN at *
 omega
def tb (n i:Nat):UInt8:=UInt8.ofNat (n / 2^(56-8*i))
def tlr (n k:Nat):List UInt8:=(List.range k).map (tb n)++replicate (8-k) 0
theorem tlr_len {n k:Nat} (h:k≤8):(tlr n k).length=8:=by simp[tlr];omega
theorem u8mod (m:Nat):UInt8.ofNat (m%256)=UInt8.ofNat m:=by apply UInt8.toNat_inj.1;simp
theorem set_one (A:List UInt8) (m:Nat) (x:UInt8) (hm:1≤m):(A++replicate m 0).set A.length x=A++[x]++replicate (m-1) 0:=by
 obtain⟨q,rfl⟩:∃q,m=q+1:=⟨m-1,by omega⟩
 simp[List.replicate_succ]
theorem tlr_step {n k:Nat} (hk:k<8) {x:Int} (hx:x=(n:Int) / ((2^((56-8*(k:Int))).toNat:Nat):Int)%256):(bv (tlr n k)).setIfInBounds k (.int .u8 x)=bv (tlr n (k+1)):=by
 have e:x=((n / 2^(56-8*k)%256:Nat):Int):=by
  rw[hx,show(56-8*(k:Int)).toNat=56-8*k by omega];rfl
 subst e
 have hb:n / 2^(56-8*k)%256<256:=qT _ (by decide)
 rw[bv_set (zT _) om,yk,u8mod]
 congr 1
 have h1:=set_one ((List.range k).map (tb n)) (8-k) (tb n k) om
 rw[zA,qk]at h1
 unfold tlr
 rw[qc,yf]
 exact h1
def tls (n:Nat):ByteArray:=⟨(tlr n 8).toArray⟩
def dg4 (x:Nat):List UInt8:=[UInt8.ofNat (x / 16777216),UInt8.ofNat (x / 65536),UInt8.ofNat (x / 256),UInt8.ofNat x]
def dgr (hs:List Nat) (k:Nat):List UInt8:=(List.range k).flatMap (fun i=>dg4 (rg hs i))++replicate (32-4*k) 0
theorem dgf_len (hs:List Nat):∀k,((List.range k).flatMap (fun i=>dg4 (rg hs i))).length=4*k
 | 0=>rfl
 | k+1=>by rw[qc,yY,zh,dgf_len hs k];simp[dg4];omega
theorem dgr_len {hs:List Nat} {k:Nat} (h:k≤8):(dgr hs k).length=32:=by simp only[dgr,List.length_append,dgf_len,List.length_replicate];omega
theorem set_four (A:List UInt8) (m:Nat) (a b c d:UInt8) (hm:4≤m):((((A++replicate m 0).set A.length a).set (A.length+1) b).set (A.length+2) c).set (A.length+3) d=A++[a,b,c,d]++replicate (m-4) 0:=by
 obtain⟨q,rfl⟩:∃q,m=q+4:=⟨m-4,by omega⟩
 simp[List.replicate_succ]
theorem bset (l:List UInt8) (i m:Nat):(bv l).setIfInBounds i (.int .u8 ((m%256:Nat):Int))=bv (l.set i (UInt8.ofNat m)):=by
 have hb:m%256<256:=qT _ (by decide)
 rw[bv_set (zT _) om,yk,u8mod]
theorem dgr_step (hs:List Nat) {k:Nat} (hk:k<8) {a b c d:Int} (ha:a=((rg hs k / 16777216%256:Nat):Int)) (hb:b=((rg hs k / 65536%256:Nat):Int)) (hc:c=((rg hs k / 256%256:Nat):Int)) (hd:d=((rg hs k%256:Nat):Int)) :
  ((((bv (dgr hs k)).setIfInBounds (4*k) (.int .u8 a)).setIfInBounds ((4*k)+1) (.int .u8 b)).setIfInBounds ((4*k)+2) (.int .u8 c)).setIfInBounds ((4*k)+3) (.int .u8 d)=bv (dgr hs (k+1)):=by
 subst ha hb hc hd
 rw[bset,bset,bset,bset]
 congr 1
 have h1:=set_four ((List.range k).flatMap (fun i=>dg4 (rg hs i))) (32-4*k) (UInt8.ofNat (rg hs k / 16777216)) (UInt8.ofNat (rg hs k / 65536)) (UInt8.ofNat (rg hs k / 256)) (UInt8.ofNat (rg hs k)) om
 rw[dgf_len]at h1
 unfold dgr
 rw[h1,qc,yY,show 32-4*(k+1)=32-4*k-4 by omega]
 simp[dg4]
def z3 (z:Sh) (total:Nat):Sh:=feed (pz z (padN z)) (tlr (lb total) 8)
def shaEnd (z:Sh) (total:Nat):List UInt8:=dgr (z3 z total).hs 8
theorem shaEnd_len (z:Sh) (total:Nat):(shaEnd z total).length=32:=dgr_len (zD 8)
theorem z3_ok {z:Sh} (h:z.Ok) (total:Nat):(z3 z total).Ok:=feed_ok _ (pz_ok h _)
theorem zsz:(bv (replicate 32 0)).size=32:=rfl
theorem dsz (hs:List Nat) {k:Nat} (h:k≤8):(bv (dgr hs k)).size=32:=(zP _).trans (dgr_len h)
end
section
open K
namespace K
theorem HP.dropM {w0 w w':World} {M:List Nat} {R O:List (Nat×Obj)} (h:HP w0 M R O w) (i:Nat) {b:Nat} {o:Obj} (hi:O[i]? = some (b,o)) (hx:Ext [b] w w'):HP w0 M R (O.eraseIdx i) w':=
 h.call hx _ (List.eraseIdx_sublist ..) (by
  intro k hk
  simp only[List.mem_cons,List.not_mem_nil,or_false]at hk
  subst hk
  exact zv.2 ⟨_,yg hi,rfl⟩) (by
  intro e he hm
  simp only[List.mem_cons,List.not_mem_nil,or_false]at hm
  obtain⟨j,hj⟩:=List.mem_iff_getElem?.1 he
  rw[List.getElem?_eraseIdx]at hj
  split at hj
  ·rename_i hlt
   have:=nodup_inj h.dist (i:=j) (j:=i) (x:=b) (by simp[hj,hm]) (by simp[hi])
   omega
  ·rename_i hlt
   have:=nodup_inj h.dist (i:=j+1) (j:=i) (x:=b) (by simp[hj,hm]) (by simp[hi])
   omega)
theorem Eff.callD {C:Cx} {R O:List (Nat×Obj)} {Γ:Env} {o:Oper} {f:FuncId} {fn:Func} {c:Code} {xs:List Operand} {tys:Array TypeId} {vs:List Value} (v:Value) (i:Nat) {b:Nat} {ob:Obj} (ho:o.op=.call ⟨.value (.func f),xs.toArray,tys⟩) (hf:C.P.funcs[f]? = some fn)
  (hnm : (fn.name == "runtime.NumGoroutine") = false) (hb : fn.body = some c) (hx : opds Γ xs = some vs) (hi : O[i]? = some (b,ob))
  (h:∀w,HP C.w0 C.M R O w→Calls C.P f vs.toArray w fun e w'=>e=.returned v∧Ext [b] w w'):Eff C R O Γ o Unit (fun _=>v) (fun _=>O.eraseIdx i) (fun _=>True):=
 Eff.call ho hf hnm hb hx fun w hp=>(h w hp).mono fun _ _ hh=>⟨(),trivial,hh.1,hp.dropM i hi hh.2⟩
end K
def H8:List Nat:=[1779033703,3144134277,1013904242,2773480762,1359893119,2600822924,528734635,1541459225]
def sh0:Sh:=⟨H8,replicate 64 0,0⟩
theorem sh0_ok:sh0.Ok:=⟨rfl,rfl,fun i=>by
 unfold sh0 H8 rg
 rcases i with _|_|_|_|_|_|_|_|i <;> simp,by decide⟩
def ssat (ss:List ByteArray) (i:Nat):ByteArray:=ss.getD i ByteArray.empty
def scat (ss:List ByteArray):List UInt8:=ss.flatMap fun s=>s.data.toList
def sz (ss:List ByteArray) (i:Nat):Sh:=feed sh0 (scat (ss.take i))
def tt (ss:List ByteArray) (i:Nat):Nat:=(scat (ss.take i)).length%18446744073709551616
theorem take_ssat {ss:List ByteArray} {i:Nat} (h:i<ss.length):ss.take (i+1)=ss.take i++[ssat ss i]:=by
 rw[zV h];simp[ssat,List.getElem?_eq_getElem h]
theorem scat_app (a b:List ByteArray):scat (a++b)=scat a++scat b:=yY ..
theorem scat_one (s:ByteArray):scat [s]=s.data.toList:=by simp[scat]
theorem sz_succ {ss:List ByteArray} {i:Nat} (h:i<ss.length):feed (sz ss i) (ssat ss i).data.toList=sz ss (i+1):=by
 unfold sz;rw[take_ssat h,scat_app,scat_one,feed_app]
theorem tt_succ {ss:List ByteArray} {i:Nat} (h:i<ss.length):(tt ss i+(ssat ss i).size)%18446744073709551616=tt ss (i+1):=by
 unfold tt;rw[take_ssat h,scat_app,scat_one,zh]
 have:(ssat ss i).data.toList.length=(ssat ss i).size:=by simp
 omega
theorem sz_ok (ss:List ByteArray) (i:Nat):(sz ss i).Ok:=feed_ok _ sh0_ok
def shaD (l:List UInt8):List UInt8:=shaEnd (feed sh0 l) (l.length%18446744073709551616)
theorem shaD_len (l:List UInt8):(shaD l).length=32:=shaEnd_len _ _
theorem sz_all (ss:List ByteArray):shaEnd (sz ss ss.length) (tt ss ss.length)=shaD (scat ss):=by unfold sz tt shaD;rw[yV]
theorem dz (l:List UInt8):(bv (shaD l)).size=32:=(zP _).trans (shaD_len l)
end
section
open K
theorem words (b:Nat) (hs:List Nat) (bl:List UInt8) (held total:Nat) (w:World) (hh:hs.length=8) (hb:bl.length=64) (hR:Has w [(b,.cells (stC hs bl held total) 275 (0,0))]) :
  Calls Tryz.prog 203 #[.pointer (some ⟨b,0,none⟩)] w fun e w'=>e=.returned (.agg (wv (row bl 64)))∧Ext [] w w':=by
 refine enter [] [cl b (stC hs bl held total) 275] [] Tryz.func203 rfl kr (yj hR) ?_
 refine Be rfl rfl (zM (z:=(.agg (wv (replicate 64 0)))) rfl kr) ?_
 rintro r ⟨hr,nr⟩
 refine zg rfl ?_
 refine Be rfl rfl (zM (z:=(.agg (wv (replicate 64 0)))) rfl kr) ?_
 rintro xw ⟨hxw,nxw⟩
 refine zg rfl ?_
 refine Rq [0,2,3,10] ?_
 refine ye rfl (ι:=Nat) (fun(t:Nat)=>[(10,[],iN t),(3,[],pT xw),(2,[],pT r),(0,[],pT b)]) (fun(t:Nat)=>[cl xw (wv (row bl t)) 283,cl r (wv (replicate 64 0)) 283]) (fun(t:Nat)=>(t≤16)) (fun(t:Nat)=>16-t) 0 ?_ (Conv.mk kr) (cO (cO .slnil)) ?_
 ·exact zH _
 rintro t ht
 refine Rq [0,2,3,10,11] ?_
 refine eC rfl (p:=((t:Int)<(16:Int))) kr (fun c1=>?_) (fun c1=>?_)
 ·refine Rq [0,2,3,4,10] ?_
  refine yo rfl kr [cl r (wv (replicate 64 0)) 283] ?_
  refine Ap (List.range 43) [dZ,dZ,dZ,dZ,dZ,dZ,dZ,(dS (.int .u8 (bt4 bl (4*t):Int))),dZ,dZ,dZ,dZ,dZ,dZ,dZ,dZ,dZ,(dS (.int .u8 (bt4 bl ((4*t)+1):Int))),dZ,dZ,dZ,dZ,dZ,dZ,dZ,dZ,dZ,dZ,(dS (.int .u8 (bt4 bl ((4*t)+2):Int))),dZ,dZ,dZ,dZ,dZ,dZ,dZ,dZ,dZ,dZ,(dS (.int .u8 (bt4 bl ((4*t)+3):Int)))] (some [0,2,3,10,54,55]) (tF 43 1) (.cons _ (cO .slnil)) 1 (fun S=>[(i6 (4*(t:Int))),(iL (4*(t:Int)) 64),(cE S b (addO 8 (4*t)) (.int .u8 (bt4 bl (4*t):Int))),((0:Int)≤(bt4 bl (4*t):Int)∧(bt4 bl (4*t):Int)≤4294967295),(0≤(24:Int)∧24≤32),(i6 (4*(t:Int))),(i6 ((4*(t:Int))+1)),(iL ((4*(t:Int))+1) 64),(cE S b (addO 8 ((4*t)+1)) (.int .u8 (bt4 bl ((4*t)+1):Int))),((0:Int)≤(bt4 bl ((4*t)+1):Int)∧(bt4 bl ((4*t)+1):Int)≤4294967295),(0≤(16:Int)∧16≤32),((0≤(((bt4 bl (4*t):Int)*16777216)%4294967296)∧(((bt4 bl (4*t):Int)*16777216)%4294967296)≤4294967295)∧0≤(((bt4 bl ((4*t)+1):Int)*65536)%4294967296)∧(((bt4 bl ((4*t)+1):Int)*65536)%4294967296)≤4294967295),(i6 (4*(t:Int))),(i6 ((4*(t:Int))+2)),(iL ((4*(t:Int))+2) 64),(cE S b (addO 8 ((4*t)+2)) (.int .u8 (bt4 bl ((4*t)+2):Int))),((0:Int)≤(bt4 bl ((4*t)+2):Int)∧(bt4 bl ((4*t)+2):Int)≤4294967295),(0≤(8:Int)∧8≤32),((0≤((((((bt4 bl (4*t):Int)*16777216)%4294967296)).toNat ||| ((((bt4 bl ((4*t)+1):Int)*65536)%4294967296)).toNat:Nat):Int)∧((((((bt4 bl (4*t):Int)*16777216)%4294967296)).toNat ||| ((((bt4 bl ((4*t)+1):Int)*65536)%4294967296)).toNat:Nat):Int)≤4294967295)∧0≤(((bt4 bl ((4*t)+2):Int)*256)%4294967296)∧(((bt4 bl ((4*t)+2):Int)*256)%4294967296)≤4294967295),(i6 (4*(t:Int))),(i6 ((4*(t:Int))+3)),(iL ((4*(t:Int))+3) 64),(cE S b (addO 8 ((4*t)+3)) (.int .u8 (bt4 bl ((4*t)+3):Int))),((0:Int)≤(bt4 bl ((4*t)+3):Int)∧(bt4 bl ((4*t)+3):Int)≤4294967295),((0≤(((((((((bt4 bl (4*t):Int)*16777216)%4294967296)).toNat ||| ((((bt4 bl ((4*t)+1):Int)*65536)%4294967296)).toNat:Nat):Int)).toNat ||| ((((bt4 bl ((4*t)+2):Int)*256)%4294967296)).toNat:Nat):Int)∧(((((((((bt4 bl (4*t):Int)*16777216)%4294967296)).toNat ||| ((((bt4 bl ((4*t)+1):Int)*65536)%4294967296)).toNat:Nat):Int)).toNat ||| ((((bt4 bl ((4*t)+2):Int)*256)%4294967296)).toNat:Nat):Int)≤4294967295)∧0≤(bt4 bl ((4*t)+3):Int)∧(bt4 bl ((4*t)+3):Int)≤4294967295),(iL (t:Int) 64)]) ⟨om,om,(fun w1 h=>h.rcell 0 rfl (by rw[y4];exact st_byte hh hb om)),(by have:=bt4_lt bl (4*t);omega),om,om,om,om,(fun w1 h=>h.rcell 0 rfl (by rw[y4];exact st_byte hh hb om)),(by have:=bt4_lt bl ((4*t)+1);omega),om,(by have:=bt4_lt bl (4*t);have:=bt4_lt bl ((4*t)+1);omega),om,om,om,(fun w1 h=>h.rcell 0 rfl (by rw[y4];exact st_byte hh hb om)),(by have:=bt4_lt bl ((4*t)+2);omega),om,⟨⟨zT _,qE (b:=32) (Nat.or_lt_two_pow om om)⟩,⟨by omega,by omega⟩⟩,om,om,om,(fun w1 h=>h.rcell 0 rfl (by rw[y4];exact st_byte hh hb om)),(by have:=bt4_lt bl ((4*t)+3);omega),⟨⟨zT _,qE (b:=32) (Nat.or_lt_two_pow (tn_lt (Nat.or_lt_two_pow om om)) om)⟩,⟨zT _,qE (b:=32) (b84 _ _)⟩⟩,om,trivial⟩ ?_
  refine Au 43 rfl 0  (zS (b:=xw) (off:=t) (v:=uN (((((((((((bt4 bl (4*t):Int)*16777216)%4294967296)).toNat ||| ((((bt4 bl ((4*t)+1):Int)*65536)%4294967296)).toNat:Nat):Int)).toNat ||| ((((bt4 bl ((4*t)+2):Int)*256)%4294967296)).toNat:Nat):Int)).toNat ||| ((bt4 bl ((4*t)+3):Int)).toNat)) rfl kr kr rfl kr 0 (cs:=(wv (row bl t))) (e:=283) kr (by rw[wsize];omega)) (fun _ _=>(.cons _ (cO .slnil))) ?_
  refine z6 kr ?_
  refine Cg (Γ':=[(10,[],iN t),(3,[],pT xw),(2,[],pT r),(0,[],pT b)]) ?_
  refine Rg [0,2,3,10] [] (fun _=>[(i6 ((t:Int)+1))]) ⟨om,trivial⟩ ?_
  refine oB 0 rfl (show _=(wv (row bl (t+1)))from row_step bl t (wnext_lo om (be4_eq _ _ _ _))) ?_
  refine zG rfl (t+1) (by show t+1≤16;omega) (by show 16-(t+1)<16-t;omega) (Conv.mk kr) (cO (cO .slnil))
 obtain rfl:t=16:=by omega
 refine y9 (Γ':=[(3,[],pT xw),(2,[],pT r),(0,[],pT b)]) (Conv.mk kr) ?_
 refine Rq [2,3,5] ?_
 refine ye rfl (ι:=Nat) (fun(t:Nat)=>[(5,[],iN t),(3,[],pT xw),(2,[],pT r)]) (fun(t:Nat)=>[cl xw (wv (row bl t)) 283,cl r (wv (replicate 64 0)) 283]) (fun(t:Nat)=>(16≤t)∧(t≤64)) (fun(t:Nat)=>64-t) 16 ?_ (Conv.mk kr) (cO (cO .slnil)) ?_
 ·exact⟨zD _,by decide⟩
 rintro t ⟨ht0,ht⟩
 refine Rq [2,3,5,58] ?_
 refine eC rfl (p:=((t:Int)<(64:Int))) kr (fun c2=>?_) (fun c2=>?_)
 ·refine Cfg.regD rfl kr [2,3,5,6,7] [dZ,dZ,dZ,(dS (.int .u32 (rg (row bl t) (t-15):Int))),dZ,dZ,dZ,(dS (.int .u32 (rg (row bl t) (t-2):Int)))] (Γ':=[(7,[],.int .u32 (rg (row bl t) (t-2):Int)),(6,[],.int .u32 (rg (row bl t) (t-15):Int)),(5,[],iN t),(3,[],pT xw),(2,[],pT r)]) (nd:=(fun S=>[(i6 ((t:Int)-15)),(iL ((t:Int)-15) 64),(cE S xw ((((t:Int)-15)).toNat) (.int .u32 (rg (row bl t) (t-15):Int))),(i6 ((t:Int)-2)),(iL ((t:Int)-2) 64),(cE S xw ((((t:Int)-2)).toNat) (.int .u32 (rg (row bl t) (t-2):Int)))])) kr kr (fun _=>kr) ⟨om,om,(fun w1 h=>h.ocell 0 rfl (by rw[show(((t:Int)-15)).toNat=(t-15) by omega];exact wv_get (row_len bl t) om)),om,om,(fun w1 h=>h.ocell 0 rfl (by rw[show(((t:Int)-2)).toNat=(t-2) by omega];exact wv_get (row_len bl t) om)),trivial⟩ ?_
  refine Bp 1 [] none n0 trivial ?_
  refine Lu (zr (.int .u32 (rotl (rg (row bl t) (t-15)) 33554432 128:Int)) rfl Tryz.func204 rfl rfl kr (fun w1 _=>rot25 _ w1 (row_lt bl t _))) ?_
  refine Lq 1 [2,3,5,6,7,70,71] ?_
  refine Lu (zr (.int .u32 (rotl (rg (row bl t) (t-15)) 16384 262144:Int)) rfl Tryz.func204 rfl rfl kr (fun w1 _=>rot14 _ w1 (row_lt bl t _))) ?_
  refine Lp 5 [] (some [2,3,5,7,8]) (fun _=>[((0≤(rotl (rg (row bl t) (t-15)) 33554432 128:Int)∧(rotl (rg (row bl t) (t-15)) 33554432 128:Int)≤4294967295)∧0≤(rotl (rg (row bl t) (t-15)) 16384 262144:Int)∧(rotl (rg (row bl t) (t-15)) 16384 262144:Int)≤4294967295),(0≤(3:Int)∧3≤32),((0≤((((rotl (rg (row bl t) (t-15)) 33554432 128:Int)).toNat ^^^ ((rotl (rg (row bl t) (t-15)) 16384 262144:Int)).toNat:Nat):Int)∧((((rotl (rg (row bl t) (t-15)) 33554432 128:Int)).toNat ^^^ ((rotl (rg (row bl t) (t-15)) 16384 262144:Int)).toNat:Nat):Int)≤4294967295)∧0≤((rg (row bl t) (t-15):Int) / 8)∧((rg (row bl t) (t-15):Int) / 8)≤4294967295)]) ⟨⟨⟨zT _,qE (b:=32) (rotl_lt (row_lt bl t _))⟩,⟨zT _,qE (b:=32) (rotl_lt (row_lt bl t _))⟩⟩,om,⟨⟨zT _,qE (b:=32) (Nat.xor_lt_two_pow (tn_lt (rotl_lt (row_lt bl t _))) (tn_lt (rotl_lt (row_lt bl t _))))⟩,⟨zT _,qE (b:=32) (Nat.lt_of_le_of_lt (Nat.div_le_self _ _) (row_lt bl t _))⟩⟩,trivial⟩ ?_
  refine zg rfl ?_
  refine Bp 1 [] none n0 trivial ?_
  refine Lu (zr (.int .u32 (rotl (rg (row bl t) (t-2)) 32768 131072:Int)) rfl Tryz.func204 rfl rfl kr (fun w1 _=>rot15 _ w1 (row_lt bl t _))) ?_
  refine qL 1 [] (some [2,3,5,7,8,78,79]) (Γ':=[(79,[],.int .u32 (rg (row bl t) (t-2):Int)),(78,[],.int .u32 (rotl (rg (row bl t) (t-2)) 32768 131072:Int)),(8,[],uN ((((((rotl (rg (row bl t) (t-15)) 33554432 128:Int)).toNat ^^^ ((rotl (rg (row bl t) (t-15)) 16384 262144:Int)).toNat:Nat):Int)).toNat ^^^ (((rg (row bl t) (t-15):Int) / 8)).toNat)),(7,[],.int .u32 (rg (row bl t) (t-2):Int)),(5,[],iN t),(3,[],pT xw),(2,[],pT r)]) (nd:=(fun _=>[])) kr (fun _=>kr) trivial ?_
  refine Lu (zr (.int .u32 (rotl (rg (row bl t) (t-2)) 8192 524288:Int)) rfl Tryz.func204 rfl rfl kr (fun w1 _=>rot13 _ w1 (row_lt bl t _))) ?_
  refine Lp 5 [] (some [2,3,5,8,9]) (fun _=>[((0≤(rotl (rg (row bl t) (t-2)) 32768 131072:Int)∧(rotl (rg (row bl t) (t-2)) 32768 131072:Int)≤4294967295)∧0≤(rotl (rg (row bl t) (t-2)) 8192 524288:Int)∧(rotl (rg (row bl t) (t-2)) 8192 524288:Int)≤4294967295),(0≤(10:Int)∧10≤32),((0≤((((rotl (rg (row bl t) (t-2)) 32768 131072:Int)).toNat ^^^ ((rotl (rg (row bl t) (t-2)) 8192 524288:Int)).toNat:Nat):Int)∧((((rotl (rg (row bl t) (t-2)) 32768 131072:Int)).toNat ^^^ ((rotl (rg (row bl t) (t-2)) 8192 524288:Int)).toNat:Nat):Int)≤4294967295)∧0≤((rg (row bl t) (t-2):Int) / 1024)∧((rg (row bl t) (t-2):Int) / 1024)≤4294967295)]) ⟨⟨⟨zT _,qE (b:=32) (rotl_lt (row_lt bl t _))⟩,⟨zT _,qE (b:=32) (rotl_lt (row_lt bl t _))⟩⟩,om,⟨⟨zT _,qE (b:=32) (Nat.xor_lt_two_pow (tn_lt (rotl_lt (row_lt bl t _))) (tn_lt (rotl_lt (row_lt bl t _))))⟩,⟨zT _,qE (b:=32) (Nat.lt_of_le_of_lt (Nat.div_le_self _ _) (row_lt bl t _))⟩⟩,trivial⟩ ?_
  refine zg rfl ?_
  refine yo rfl kr [cl r (wv (replicate 64 0)) 283] ?_
  refine Ap [0,1,2,3,4,7,9,10,11] [] (some [2,3,5,85,86,89,92,96]) (bF 3743 16) (.cons _ (cO .slnil)) 7 (fun _=>[(i6 ((t:Int)-7)),(iL ((t:Int)-7) 64),(i6 ((t:Int)-16)),(iL ((t:Int)-16) 64)]) ⟨om,om,om,om,trivial⟩ ?_
  refine CfgA.two 5 12 kr (fuel':=6) rfl ?_ ?_
  ·
   refine Iu rfl  (qm (raw:=false) (orc:=some (.int .u32 (rg (row bl t) (t-7):Int))) (v:=.int .u32 (rg (row bl t) (t-7):Int)) (nd:=(fun S=>[(cE S xw ((((t:Int)-7)).toNat) (.int .u32 (rg (row bl t) (t-7):Int)))])) (fun _=>kr) ⟨(fun w1 h=>h.ocell 0 rfl (by rw[show(((t:Int)-7)).toNat=(t-7) by omega];exact wv_get (row_len bl t) om)),trivial⟩ kr) (fun _ _=>(.cons _ (cO .slnil))) ?_
   refine Ap [6,8] [] (some [2,3,5,85,93,96]) (tF 12 4) (.cons _ (cO .slnil)) 4 n0 trivial ?_
   refine Au 12 rfl 3  (qm (raw:=false) (orc:=some (.int .u32 (rg (row bl t) (t-16):Int))) (v:=.int .u32 (rg (row bl t) (t-16):Int)) (nd:=(fun S=>[(cE S xw ((((t:Int)-16)).toNat) (.int .u32 (rg (row bl t) (t-16):Int)))])) (fun _=>kr) ⟨(fun w1 h=>h.ocell 0 rfl (by rw[show(((t:Int)-16)).toNat=(t-16) by omega];exact wv_get (row_len bl t) om)),trivial⟩ kr) (fun _ _=>(.cons _ (cO .slnil))) ?_
   refine Ap [13,14] [] (some [2,3,5,98,99]) (tF 15 1) (.cons _ (cO .slnil)) 1 (fun _=>[(iL (t:Int) 64)]) ⟨om,trivial⟩ ?_
   refine Au 15 rfl 0  (zS (b:=xw) (off:=t) (v:=.int .u32 (((((((((((((rotl (rg (row bl t) (t-2)) 32768 131072:Int)).toNat ^^^ ((rotl (rg (row bl t) (t-2)) 8192 524288:Int)).toNat:Nat):Int)).toNat ^^^ (((rg (row bl t) (t-2):Int) / 1024)).toNat:Nat):Int)+(rg (row bl t) (t-7):Int))%4294967296)+(((((((rotl (rg (row bl t) (t-15)) 33554432 128:Int)).toNat ^^^ ((rotl (rg (row bl t) (t-15)) 16384 262144:Int)).toNat:Nat):Int)).toNat ^^^ (((rg (row bl t) (t-15):Int) / 8)).toNat:Nat):Int))%4294967296)+(rg (row bl t) (t-16):Int))%4294967296)) rfl kr kr rfl kr 0 (cs:=(wv (row bl t))) (e:=283) kr (by rw[wsize];omega)) (fun _ _=>(.cons _ (cO .slnil))) ?_
   refine z6 kr ?_
   refine Cg (Γ':=[(5,[],iN t),(3,[],pT xw),(2,[],pT r)]) ?_
   refine Rg [2,3,5] [] (fun _=>[(i6 ((t:Int)+1))]) ⟨om,trivial⟩ ?_
   refine oB 0 rfl (show _=(wv (row bl (t+1)))from row_step bl t (wnext_hi om (wn_eq _ _ _ _))) ?_
   refine zG rfl (t+1) ⟨by omega,by omega⟩ (by show 64-(t+1)<64-t;omega) (Conv.mk kr) (cO (cO .slnil))
  
  refine Iu rfl  (qm (raw:=false) (orc:=some (.int .u32 (rg (row bl t) (t-16):Int))) (v:=.int .u32 (rg (row bl t) (t-16):Int)) (nd:=(fun S=>[(cE S xw ((((t:Int)-16)).toNat) (.int .u32 (rg (row bl t) (t-16):Int)))])) (fun _=>kr) ⟨(fun w1 h=>h.ocell 0 rfl (by rw[show(((t:Int)-16)).toNat=(t-16) by omega];exact wv_get (row_len bl t) om)),trivial⟩ kr) (fun _ _=>(.cons _ (cO .slnil))) ?_
  refine Au 5 rfl 5  (qm (raw:=false) (orc:=some (.int .u32 (rg (row bl t) (t-7):Int))) (v:=.int .u32 (rg (row bl t) (t-7):Int)) (nd:=(fun S=>[(cE S xw ((((t:Int)-7)).toNat) (.int .u32 (rg (row bl t) (t-7):Int)))])) (fun _=>kr) ⟨(fun w1 h=>h.ocell 0 rfl (by rw[show(((t:Int)-7)).toNat=(t-7) by omega];exact wv_get (row_len bl t) om)),trivial⟩ kr) (fun _ _=>(.cons _ (cO .slnil))) ?_
  refine Ap [6,8,13,14] [] (some [2,3,5,98,99]) (tF 15 1) (.cons _ (cO .slnil)) 1 (fun _=>[(iL (t:Int) 64)]) ⟨om,trivial⟩ ?_
  refine Au 15 rfl 0  (zS (b:=xw) (off:=t) (v:=.int .u32 (((((((((((((rotl (rg (row bl t) (t-2)) 32768 131072:Int)).toNat ^^^ ((rotl (rg (row bl t) (t-2)) 8192 524288:Int)).toNat:Nat):Int)).toNat ^^^ (((rg (row bl t) (t-2):Int) / 1024)).toNat:Nat):Int)+(rg (row bl t) (t-7):Int))%4294967296)+(((((((rotl (rg (row bl t) (t-15)) 33554432 128:Int)).toNat ^^^ ((rotl (rg (row bl t) (t-15)) 16384 262144:Int)).toNat:Nat):Int)).toNat ^^^ (((rg (row bl t) (t-15):Int) / 8)).toNat:Nat):Int))%4294967296)+(rg (row bl t) (t-16):Int))%4294967296)) rfl kr kr rfl kr 0 (cs:=(wv (row bl t))) (e:=283) kr (by rw[wsize];omega)) (fun _ _=>(.cons _ (cO .slnil))) ?_
  refine z6 kr ?_
  refine Cg (Γ':=[(5,[],iN t),(3,[],pT xw),(2,[],pT r)]) ?_
  refine Rg [2,3,5] [] (fun _=>[(i6 ((t:Int)+1))]) ⟨om,trivial⟩ ?_
  refine oB 0 rfl (show _=(wv (row bl (t+1)))from row_step bl t (wnext_hi om (wn_eq _ _ _ _))) ?_
  refine zG rfl (t+1) ⟨by omega,by omega⟩ (by show 64-(t+1)<64-t;omega) (Conv.mk kr) (cO (cO .slnil))
 refine Bp 1 [(dS (.agg (wv (row bl t))))] (some [2,100]) (fun S=>[(lV S 283 xw 0 (.agg (wv (row bl t))))]) ⟨(fun w1 h=>h.oload 0 rfl Tryz.underlying283 rfl (n:=64) kr (wsize bl t)),trivial⟩ ?_
 refine Lu (zC (b:=r) (off:=0) (vs:=(wv (row bl t))) (n:=64) rfl kr kr kr (wsize bl t) (all_wv _) 1 (cs:=(wv (replicate 64 0))) (e:=283) kr (by rw[show wv (replicate 64 0)=wv (row bl 0)from rfl,wsize];omega)) ?_
 refine oL 1 rfl (show _=(wv (row bl t))from yx ((wsize bl t).trans (wsize bl 0).symm)) ?_
 refine zg rfl ?_
 refine Cg (Γ':=[(2,[],pT r)]) ?_
 refine yD rfl (rs:=[.cell 2 283]) rfl [.agg (wv (row bl t))] ⟨⟨_,by kernel_rfl,(fun w1 h=>h.oload 1 rfl Tryz.underlying283 rfl (n:=64) kr (wsize bl t))⟩,trivial⟩ (fun w1 hp=>?_)
 obtain rfl:t=64:=by omega
 exact⟨rfl,hp.ext⟩
end
section
open K
theorem shaMix (b:Nat) (hs:List Nat) (bl:List UInt8) (held total:Nat) {kt:Array Value} {t0:TypeId} {fr0:Nat×Nat} (w:World) (hh:hs.length=8) (hb:bl.length=64) (hlt:∀i,rg hs i<2^32) (hR:Has w [(1,.cells kt t0 fr0)]) (hS:w.heap[b]? = some (.cells (stC hs bl held total) 275 (0,0))) (hne:b≠1) (hK:KT kt:=by assumption) :
  Calls Tryz.prog 193 #[.pointer (some ⟨b,0,none⟩)] w fun e w'=>e=.returned (.tuple #[])∧Ext [b] w w'∧w'.heap[b]? = some (.cells (stC (mixF hs bl) bl held total) 275 (0,0)):=by
 refine enter [b] [(1,.cells kt t0 fr0)] [cl b (stC hs bl held total) 275] Tryz.func193 rfl kr (HP.startM hR hS (by simpa using hne)) ?_
 refine Bp 1 [] none n0 trivial ?_
 refine Lu (zr (.agg (wv (row bl 64))) rfl Tryz.func203 rfl rfl kr (fun w1 h=>words b hs bl held total w1 hh hb (h.has (fun e he=>he)))) ?_
 refine Le (zM (z:=(.agg (wv (replicate 64 0)))) rfl kr) ?_
 rintro xw ⟨hxw,nxw⟩
 refine Lu (zC (b:=xw) (off:=0) (vs:=(wv (row bl 64))) (n:=64) rfl kr kr kr (wsize bl 64) (all_wv _) 0 (cs:=(wv (replicate 64 0))) (e:=283) kr (by rw[show wv (replicate 64 0)=wv (row bl 0)from rfl,wsize];omega)) ?_
 refine oL 0 rfl (show _=(wv (row bl 64))from yx ((wsize bl 64).trans (wsize bl 0).symm)) ?_
 refine zg rfl ?_
 refine Cg (Γ':=[(2,[],pT xw),(0,[],pT b)]) ?_
 refine Cfg.regD rfl kr [0,2,3,4,5,6] [dZ,dZ,dZ,dZ,(dS (.int .u32 (rg hs 0:Int))),dZ,dZ,dZ,dZ,(dS (.int .u32 (rg hs 1:Int))),dZ,dZ,dZ,dZ,(dS (.int .u32 (rg hs 2:Int))),dZ,dZ,dZ,dZ,(dS (.int .u32 (rg hs 3:Int)))] (Γ':=[(6,[],.int .u32 (rg hs 3:Int)),(5,[],.int .u32 (rg hs 2:Int)),(4,[],.int .u32 (rg hs 1:Int)),(3,[],.int .u32 (rg hs 0:Int)),(2,[],pT xw),(0,[],pT b)]) (nd:=(fun S=>[(iL (0:Int) 8),(cE S b 0 (.int .u32 (rg hs 0:Int))),(iL (1:Int) 8),(cE S b 1 (.int .u32 (rg hs 1:Int))),(iL (2:Int) 8),(cE S b 2 (.int .u32 (rg hs 2:Int))),(iL (3:Int) 8),(cE S b 3 (.int .u32 (rg hs 3:Int)))])) kr kr (fun _=>kr) ⟨om,(fun w1 h=>h.ocell 1 rfl (st_sum hh om)),om,(fun w1 h=>h.ocell 1 rfl (st_sum hh om)),om,(fun w1 h=>h.ocell 1 rfl (st_sum hh om)),om,(fun w1 h=>h.ocell 1 rfl (st_sum hh om)),trivial⟩ ?_
 refine Cfg.regD rfl kr [0,2,3,4,5,6,7,8,9,10] [dZ,dZ,dZ,dZ,(dS (.int .u32 (rg hs 4:Int))),dZ,dZ,dZ,dZ,(dS (.int .u32 (rg hs 5:Int))),dZ,dZ,dZ,dZ,(dS (.int .u32 (rg hs 6:Int))),dZ,dZ,dZ,dZ,(dS (.int .u32 (rg hs 7:Int)))] (Γ':=[(10,[],.int .u32 (rg hs 7:Int)),(9,[],.int .u32 (rg hs 6:Int)),(8,[],.int .u32 (rg hs 5:Int)),(7,[],.int .u32 (rg hs 4:Int)),(6,[],.int .u32 (rg hs 3:Int)),(5,[],.int .u32 (rg hs 2:Int)),(4,[],.int .u32 (rg hs 1:Int)),(3,[],.int .u32 (rg hs 0:Int)),(2,[],pT xw),(0,[],pT b)]) (nd:=(fun S=>[(iL (4:Int) 8),(cE S b 4 (.int .u32 (rg hs 4:Int))),(iL (5:Int) 8),(cE S b 5 (.int .u32 (rg hs 5:Int))),(iL (6:Int) 8),(cE S b 6 (.int .u32 (rg hs 6:Int))),(iL (7:Int) 8),(cE S b 7 (.int .u32 (rg hs 7:Int)))])) kr kr (fun _=>kr) ⟨om,(fun w1 h=>h.ocell 1 rfl (st_sum hh om)),om,(fun w1 h=>h.ocell 1 rfl (st_sum hh om)),om,(fun w1 h=>h.ocell 1 rfl (st_sum hh om)),om,(fun w1 h=>h.ocell 1 rfl (st_sum hh om)),trivial⟩ ?_
 refine Rq [0,2,3,4,5,6,7,8,9,10,62] ?_
 refine ye rfl (ι:=Nat) (fun(t:Nat)=>[(62,[],iN t),(10,[],.int .u32 ((rv hs bl t).h:Int)),(9,[],.int .u32 ((rv hs bl t).g:Int)),(8,[],.int .u32 ((rv hs bl t).f:Int)),(7,[],.int .u32 ((rv hs bl t).e:Int)),(6,[],.int .u32 ((rv hs bl t).d:Int)),(5,[],.int .u32 ((rv hs bl t).c:Int)),(4,[],.int .u32 ((rv hs bl t).b:Int)),(3,[],.int .u32 ((rv hs bl t).a:Int)),(2,[],pT xw),(0,[],pT b)]) (fun(t:Nat)=>[cl xw (wv (row bl 64)) 283,cl b (stC hs bl held total) 275]) (fun(t:Nat)=>(t≤64)) (fun(t:Nat)=>64-t) 0 ?_ (Conv.mk kr) (cO (cO .slnil)) ?_
 ·exact zH _
 rintro t ht
 have ok:=rv_ok hlt bl t
 refine Rq [0,2,3,4,5,6,7,8,9,10,62,63] ?_
 refine eC rfl (p:=((t:Int)<(64:Int))) kr (fun c1=>?_) (fun c1=>?_)
 ·refine Rq [0,2,3,4,5,6,7,8,9,10,11,62] ?_
  refine Bp 1 [] none n0 trivial ?_
  refine Lu (zr (.int .u32 (rotl ((rv hs bl t).e) 67108864 64:Int)) rfl Tryz.func204 rfl rfl kr (fun w1 _=>rot26 _ w1 ok.e)) ?_
  refine Lq 1 [0,2,3,4,5,6,7,8,9,10,11,62,66,67] ?_
  refine Lu (zr (.int .u32 (rotl ((rv hs bl t).e) 2097152 2048:Int)) rfl Tryz.func204 rfl rfl kr (fun w1 _=>rot21 _ w1 ok.e)) ?_
  refine Lp 2 [] (some [0,2,3,4,5,6,7,8,9,10,11,62,69,70]) (fun _=>[((0≤(rotl ((rv hs bl t).e) 67108864 64:Int)∧(rotl ((rv hs bl t).e) 67108864 64:Int)≤4294967295)∧0≤(rotl ((rv hs bl t).e) 2097152 2048:Int)∧(rotl ((rv hs bl t).e) 2097152 2048:Int)≤4294967295)]) ⟨⟨⟨zT _,qE (b:=32) (rotl_lt ok.e)⟩,⟨zT _,qE (b:=32) (rotl_lt ok.e)⟩⟩,trivial⟩ ?_
  refine Lu (zr (.int .u32 (rotl ((rv hs bl t).e) 128 33554432:Int)) rfl Tryz.func204 rfl rfl kr (fun w1 _=>rot7 _ w1 ok.e)) ?_
  refine Lp 2 [] (some [0,2,3,4,5,6,7,8,9,10,11,12,62]) (fun _=>[((0≤((((rotl ((rv hs bl t).e) 67108864 64:Int)).toNat ^^^ ((rotl ((rv hs bl t).e) 2097152 2048:Int)).toNat:Nat):Int)∧((((rotl ((rv hs bl t).e) 67108864 64:Int)).toNat ^^^ ((rotl ((rv hs bl t).e) 2097152 2048:Int)).toNat:Nat):Int)≤4294967295)∧0≤(rotl ((rv hs bl t).e) 128 33554432:Int)∧(rotl ((rv hs bl t).e) 128 33554432:Int)≤4294967295)]) ⟨⟨⟨zT _,qE (b:=32) (Nat.xor_lt_two_pow (tn_lt (rotl_lt ok.e)) (tn_lt (rotl_lt ok.e)))⟩,⟨zT _,qE (b:=32) (rotl_lt ok.e)⟩⟩,trivial⟩ ?_
  refine zg rfl ?_
  refine sU 12 (show(((((((rotl ((rv hs bl t).e) 67108864 64:Int)).toNat ^^^ ((rotl ((rv hs bl t).e) 2097152 2048:Int)).toNat:Nat):Int)).toNat ^^^ ((rotl ((rv hs bl t).e) 128 33554432:Int)).toNat:Nat):Int)=(bigE (rv hs bl t).e:Int)from bigE_eq _) ?_
  refine Rg [0,2,3,4,5,6,7,8,9,10,11,12,13,62] [] (fun _=>[((0≤((rv hs bl t).e:Int)∧((rv hs bl t).e:Int)≤4294967295)∧0≤((rv hs bl t).f:Int)∧((rv hs bl t).f:Int)≤4294967295),((0≤(4294967295:Int)∧(4294967295:Int)≤4294967295)∧0≤((rv hs bl t).e:Int)∧((rv hs bl t).e:Int)≤4294967295),((0≤((4294967295 ^^^ (((rv hs bl t).e:Int)).toNat:Nat):Int)∧((4294967295 ^^^ (((rv hs bl t).e:Int)).toNat:Nat):Int)≤4294967295)∧0≤((rv hs bl t).g:Int)∧((rv hs bl t).g:Int)≤4294967295),((0≤(((((rv hs bl t).e:Int)).toNat &&& (((rv hs bl t).f:Int)).toNat:Nat):Int)∧(((((rv hs bl t).e:Int)).toNat &&& (((rv hs bl t).f:Int)).toNat:Nat):Int)≤4294967295)∧0≤(((((4294967295 ^^^ (((rv hs bl t).e:Int)).toNat:Nat):Int)).toNat &&& (((rv hs bl t).g:Int)).toNat:Nat):Int)∧(((((4294967295 ^^^ (((rv hs bl t).e:Int)).toNat:Nat):Int)).toNat &&& (((rv hs bl t).g:Int)).toNat:Nat):Int)≤4294967295)]) ⟨⟨⟨zT _,qE (b:=32) ok.e⟩,⟨zT _,qE (b:=32) ok.f⟩⟩,⟨⟨by omega,by omega⟩,⟨zT _,qE (b:=32) ok.e⟩⟩,⟨⟨zT _,qE (b:=32) (Nat.xor_lt_two_pow om (tn_lt ok.e))⟩,⟨zT _,qE (b:=32) ok.g⟩⟩,⟨⟨zT _,qE (b:=32) (Nat.and_lt_two_pow _ (tn_lt ok.f))⟩,⟨zT _,qE (b:=32) (Nat.and_lt_two_pow _ (tn_lt ok.g))⟩⟩,trivial⟩ ?_
  refine sU 13 (show((((((((rv hs bl t).e:Int)).toNat &&& (((rv hs bl t).f:Int)).toNat:Nat):Int)).toNat ^^^ ((((((4294967295 ^^^ (((rv hs bl t).e:Int)).toNat:Nat):Int)).toNat &&& (((rv hs bl t).g:Int)).toNat:Nat):Int)).toNat:Nat):Int)=(choi (rv hs bl t).e (rv hs bl t).f (rv hs bl t).g:Int)from choi_eq _ _ _) ?_
  refine Cfg.regD rfl kr [0,2,3,4,5,6,7,8,9,14,62] [dZ,dZ,dZ,dZ,dZ,dZ,dZ,(dS (.int .u32 (rg Kc t:Int))),dZ,dZ,dZ,(dS (.int .u32 (rg (row bl 64) t:Int)))] (Γ':=[(14,[],.int .u32 ((((((((((rv hs bl t).h:Int)+(bigE (rv hs bl t).e:Int))%4294967296)+(choi (rv hs bl t).e (rv hs bl t).f (rv hs bl t).g:Int))%4294967296)+(rg Kc t:Int))%4294967296)+(rg (row bl 64) t:Int))%4294967296)),(62,[],iN t),(9,[],.int .u32 ((rv hs bl t).g:Int)),(8,[],.int .u32 ((rv hs bl t).f:Int)),(7,[],.int .u32 ((rv hs bl t).e:Int)),(6,[],.int .u32 ((rv hs bl t).d:Int)),(5,[],.int .u32 ((rv hs bl t).c:Int)),(4,[],.int .u32 ((rv hs bl t).b:Int)),(3,[],.int .u32 ((rv hs bl t).a:Int)),(2,[],pT xw),(0,[],pT b)]) (nd:=(fun S=>[(iL (t:Int) 64),(cE S 1 t (.int .u32 (rg Kc t:Int))),(iL (t:Int) 64),(cE S xw t (.int .u32 (rg (row bl 64) t:Int)))])) kr kr (fun _=>kr) ⟨om,(fun w1 h=>h.rcell 0 rfl (hK _ om)),om,(oC 0 rfl (wv_get (row_len bl 64) om)),trivial⟩ ?_
  refine sU 14 (show((((((((((rv hs bl t).h:Int)+(bigE (rv hs bl t).e:Int))%4294967296)+(choi (rv hs bl t).e (rv hs bl t).f (rv hs bl t).g:Int))%4294967296)+(rg Kc t:Int))%4294967296)+(rg (row bl 64) t:Int))%4294967296)=(frst (rg Kc t) (rg (row bl 64) t) (rv hs bl t):Int)from frst_eq _ _ _) ?_
  refine Bp 1 [] none n0 trivial ?_
  refine Lu (zr (.int .u32 (rotl ((rv hs bl t).a) 1073741824 4:Int)) rfl Tryz.func204 rfl rfl kr (fun w1 _=>rot30 _ w1 ok.a)) ?_
  refine Lq 1 [0,2,3,4,5,6,7,8,9,14,62,95,96] ?_
  refine Lu (zr (.int .u32 (rotl ((rv hs bl t).a) 524288 8192:Int)) rfl Tryz.func204 rfl rfl kr (fun w1 _=>rot19 _ w1 ok.a)) ?_
  refine Lp 2 [] (some [0,2,3,4,5,6,7,8,9,14,62,98,99]) (fun _=>[((0≤(rotl ((rv hs bl t).a) 1073741824 4:Int)∧(rotl ((rv hs bl t).a) 1073741824 4:Int)≤4294967295)∧0≤(rotl ((rv hs bl t).a) 524288 8192:Int)∧(rotl ((rv hs bl t).a) 524288 8192:Int)≤4294967295)]) ⟨⟨⟨zT _,qE (b:=32) (rotl_lt ok.a)⟩,⟨zT _,qE (b:=32) (rotl_lt ok.a)⟩⟩,trivial⟩ ?_
  refine Lu (zr (.int .u32 (rotl ((rv hs bl t).a) 1024 4194304:Int)) rfl Tryz.func204 rfl rfl kr (fun w1 _=>rot10 _ w1 ok.a)) ?_
  refine Lp 2 [] (some [0,2,3,4,5,6,7,8,9,14,15,62]) (fun _=>[((0≤((((rotl ((rv hs bl t).a) 1073741824 4:Int)).toNat ^^^ ((rotl ((rv hs bl t).a) 524288 8192:Int)).toNat:Nat):Int)∧((((rotl ((rv hs bl t).a) 1073741824 4:Int)).toNat ^^^ ((rotl ((rv hs bl t).a) 524288 8192:Int)).toNat:Nat):Int)≤4294967295)∧0≤(rotl ((rv hs bl t).a) 1024 4194304:Int)∧(rotl ((rv hs bl t).a) 1024 4194304:Int)≤4294967295)]) ⟨⟨⟨zT _,qE (b:=32) (Nat.xor_lt_two_pow (tn_lt (rotl_lt ok.a)) (tn_lt (rotl_lt ok.a)))⟩,⟨zT _,qE (b:=32) (rotl_lt ok.a)⟩⟩,trivial⟩ ?_
  refine zg rfl ?_
  refine sU 15 (show(((((((rotl ((rv hs bl t).a) 1073741824 4:Int)).toNat ^^^ ((rotl ((rv hs bl t).a) 524288 8192:Int)).toNat:Nat):Int)).toNat ^^^ ((rotl ((rv hs bl t).a) 1024 4194304:Int)).toNat:Nat):Int)=(bigA (rv hs bl t).a:Int)from bigA_eq _) ?_
  refine Rg [0,2,3,4,5,6,7,8,9,14,15,16,62] [] (fun _=>[((0≤((rv hs bl t).a:Int)∧((rv hs bl t).a:Int)≤4294967295)∧0≤((rv hs bl t).b:Int)∧((rv hs bl t).b:Int)≤4294967295),((0≤((rv hs bl t).a:Int)∧((rv hs bl t).a:Int)≤4294967295)∧0≤((rv hs bl t).c:Int)∧((rv hs bl t).c:Int)≤4294967295),((0≤(((((rv hs bl t).a:Int)).toNat &&& (((rv hs bl t).b:Int)).toNat:Nat):Int)∧(((((rv hs bl t).a:Int)).toNat &&& (((rv hs bl t).b:Int)).toNat:Nat):Int)≤4294967295)∧0≤(((((rv hs bl t).a:Int)).toNat &&& (((rv hs bl t).c:Int)).toNat:Nat):Int)∧(((((rv hs bl t).a:Int)).toNat &&& (((rv hs bl t).c:Int)).toNat:Nat):Int)≤4294967295),((0≤((rv hs bl t).b:Int)∧((rv hs bl t).b:Int)≤4294967295)∧0≤((rv hs bl t).c:Int)∧((rv hs bl t).c:Int)≤4294967295),((0≤((((((((rv hs bl t).a:Int)).toNat &&& (((rv hs bl t).b:Int)).toNat:Nat):Int)).toNat ^^^ ((((((rv hs bl t).a:Int)).toNat &&& (((rv hs bl t).c:Int)).toNat:Nat):Int)).toNat:Nat):Int)∧((((((((rv hs bl t).a:Int)).toNat &&& (((rv hs bl t).b:Int)).toNat:Nat):Int)).toNat ^^^ ((((((rv hs bl t).a:Int)).toNat &&& (((rv hs bl t).c:Int)).toNat:Nat):Int)).toNat:Nat):Int)≤4294967295)∧0≤(((((rv hs bl t).b:Int)).toNat &&& (((rv hs bl t).c:Int)).toNat:Nat):Int)∧(((((rv hs bl t).b:Int)).toNat &&& (((rv hs bl t).c:Int)).toNat:Nat):Int)≤4294967295)]) ⟨⟨⟨zT _,qE (b:=32) ok.a⟩,⟨zT _,qE (b:=32) ok.b⟩⟩,⟨⟨zT _,qE (b:=32) ok.a⟩,⟨zT _,qE (b:=32) ok.c⟩⟩,⟨⟨zT _,qE (b:=32) (Nat.and_lt_two_pow _ (tn_lt ok.b))⟩,⟨zT _,qE (b:=32) (Nat.and_lt_two_pow _ (tn_lt ok.c))⟩⟩,⟨⟨zT _,qE (b:=32) ok.b⟩,⟨zT _,qE (b:=32) ok.c⟩⟩,⟨⟨zT _,qE (b:=32) (Nat.xor_lt_two_pow (tn_lt (Nat.and_lt_two_pow _ (tn_lt ok.b))) (tn_lt (Nat.and_lt_two_pow _ (tn_lt ok.c))))⟩,⟨zT _,qE (b:=32) (Nat.and_lt_two_pow _ (tn_lt ok.c))⟩⟩,trivial⟩ ?_
  refine sU 16 (show(((((((((((rv hs bl t).a:Int)).toNat &&& (((rv hs bl t).b:Int)).toNat:Nat):Int)).toNat ^^^ ((((((rv hs bl t).a:Int)).toNat &&& (((rv hs bl t).c:Int)).toNat:Nat):Int)).toNat:Nat):Int)).toNat ^^^ ((((((rv hs bl t).b:Int)).toNat &&& (((rv hs bl t).c:Int)).toNat:Nat):Int)).toNat:Nat):Int)=(most (rv hs bl t).a (rv hs bl t).b (rv hs bl t).c:Int)from most_eq _ _ _) ?_
  refine Rq [0,2,3,4,5,6,7,8,9,14,17,62] ?_
  refine sU 17 (show(((bigA (rv hs bl t).a:Int)+(most (rv hs bl t).a (rv hs bl t).b (rv hs bl t).c:Int))%4294967296)=(scnd (rv hs bl t):Int)from scnd_eq _) ?_
  refine Rq [0,2,3,4,5,7,8,9,10,14,17,62] ?_
  refine Rq [0,2,3,4,5,6,7,8,9,10,62] ?_
  refine Rg [0,2,3,4,5,6,7,8,9,10,62] [] (fun _=>[(i6 ((t:Int)+1))]) ⟨om,trivial⟩ ?_
  refine sU 3 (show(((frst (rg Kc t) (rg (row bl 64) t) (rv hs bl t):Int)+(scnd (rv hs bl t):Int))%4294967296)=((rv hs bl (t+1)).a:Int)from rv_a hs bl t) ?_
  refine sU 4 (show((rv hs bl t).a:Int)=((rv hs bl (t+1)).b:Int)from rv_b hs bl t) ?_
  refine sU 5 (show((rv hs bl t).b:Int)=((rv hs bl (t+1)).c:Int)from rv_c hs bl t) ?_
  refine sU 6 (show((rv hs bl t).c:Int)=((rv hs bl (t+1)).d:Int)from rv_d hs bl t) ?_
  refine sU 7 (show((((rv hs bl t).d:Int)+(frst (rg Kc t) (rg (row bl 64) t) (rv hs bl t):Int))%4294967296)=((rv hs bl (t+1)).e:Int)from rv_e hs bl t) ?_
  refine sU 8 (show((rv hs bl t).e:Int)=((rv hs bl (t+1)).f:Int)from rv_f hs bl t) ?_
  refine sU 9 (show((rv hs bl t).f:Int)=((rv hs bl (t+1)).g:Int)from rv_g hs bl t) ?_
  refine sU 10 (show((rv hs bl t).g:Int)=((rv hs bl (t+1)).h:Int)from rv_h hs bl t) ?_
  refine zG rfl (t+1) (by show t+1≤64;omega) (by show 64-(t+1)<64-t;omega) (Conv.mk kr) (cO (cO .slnil))
 refine Rg [0,137,138] [dZ,dZ,dZ,dZ,dZ,dZ,dZ,dZ,(dS (.agg (wv (w8l (rv hs bl t)))))] (fun S=>[(∀w1,S w1→(Instr.build 273 #[(0,.int .u32 ((rv hs bl t).a:Int)),(1,.int .u32 ((rv hs bl t).b:Int)),(2,.int .u32 ((rv hs bl t).c:Int)),(3,.int .u32 ((rv hs bl t).d:Int)),(4,.int .u32 ((rv hs bl t).e:Int)),(5,.int .u32 ((rv hs bl t).f:Int)),(6,.int .u32 ((rv hs bl t).g:Int)),(7,.int .u32 ((rv hs bl t).h:Int))]).run Tryz.prog w1=.ok (.agg (wv (w8l (rv hs bl t)))) w1)]) ⟨(fun _ _=>kr),trivial⟩ ?_
 refine ye rfl (ι:=Nat) (fun(k:Nat)=>[(138,[],iN k),(137,[],.agg (wv (w8l (rv hs bl t)))),(0,[],pT b)]) (fun(k:Nat)=>[cl xw (wv (row bl 64)) 283,cl b (stC (sm hs (w8l (rv hs bl t)) k) bl held total) 275]) (fun(k:Nat)=>(k≤8)) (fun(k:Nat)=>8-k) 0 ?_ (Conv.mk kr) (cO (cO .slnil)) ?_
 ·exact zH _
 rintro k hk
 refine Rq [0,137,138,139] ?_
 refine eC rfl (p:=((k:Int)<(8:Int))) kr (fun c2=>?_) (fun c2=>?_)
 ·refine Rg [0,18,19,137,138] [dZ,(dS (.int .u32 (rg (w8l (rv hs bl t)) k:Int)))] (fun _=>[(iL (k:Int) 8),(((wv (w8l (rv hs bl t))))[k]? = some (.int .u32 (rg (w8l (rv hs bl t)) k:Int)))]) ⟨om,(wv_get (w8l_len _) om),trivial⟩ ?_
  refine yo rfl kr [cl xw (wv (row bl 64)) 283] ?_
  refine Ap [0,1,2,3,4,6,8,9] [] (some [0,137,138,143,146,148,151]) (bF 863 12) (cO (.cons _ .slnil)) 4 (fun _=>[(iL (k:Int) 8)]) ⟨om,trivial⟩ ?_
  refine Au 5 rfl 3  (qm (raw:=false) (orc:=some (.int .u32 (rg (sm hs (w8l (rv hs bl t)) k) k:Int))) (v:=.int .u32 (rg (sm hs (w8l (rv hs bl t)) k) k:Int)) (nd:=(fun S=>[(cE S b k (.int .u32 (rg (sm hs (w8l (rv hs bl t)) k) k:Int)))])) (fun _=>kr) ⟨(fun w1 h=>h.ocell 1 rfl (st_sum (sm_len _ hh k) om)),trivial⟩ kr) (fun _ _=>(cO (.cons _ .slnil))) ?_
  refine Ap [7,10] [] (some [0,137,138,149,152]) (tF 11 1) (cO (.cons _ .slnil)) 1 (fun _=>[(iL (k:Int) 8)]) ⟨om,trivial⟩ ?_
  refine Au 11 rfl 0  (zS (b:=b) (off:=k) (v:=.int .u32 (((rg (sm hs (w8l (rv hs bl t)) k) k:Int)+(rg (w8l (rv hs bl t)) k:Int))%4294967296)) rfl kr kr rfl kr 1 (cs:=(stC (sm hs (w8l (rv hs bl t)) k) bl held total)) (e:=275) kr (by rw[st_size (sm_len _ hh k) hb];omega)) (fun _ _=>(cO (.cons _ .slnil))) ?_
  refine z6 kr ?_
  refine Cg (Γ':=[(138,[],iN k),(137,[],.agg (wv (w8l (rv hs bl t)))),(0,[],pT b)]) ?_
  refine Rg [0,137,138] [] (fun _=>[(i6 ((k:Int)+1))]) ⟨om,trivial⟩ ?_
  refine oB 1 rfl (show _=(stC (sm hs (w8l (rv hs bl t)) (k+1)) bl held total)from sm_step hh om) ?_
  refine zG rfl (k+1) (by show k+1≤8;omega) (by show 8-(k+1)<8-k;omega) (Conv.mk kr) (cO (cO .slnil))
 refine Cfg.fin rfl (rs:=[]) rfl [] trivial (fun w1 hp=>?_)
 obtain rfl:t=64:=by omega
 obtain rfl:k=8:=by omega
 exact⟨rfl,hp.ext,hp.own (b,_) (zf _ mH)⟩
end
section
open K
theorem shaWrite (b:Nat) (z:Sh) (total:Nat) (s:ByteArray) {kt:Array Value} {t0:TypeId} {fr0:Nat×Nat} (w:World) (hx:z.Ok) (hR:Has w [(1,.cells kt t0 fr0)]) (hS:w.heap[b]? = some (.cells (stC z.hs z.bl z.held total) 275 (0,0))) (hne:b≠1) (hK:KT kt:=by assumption) :
  Calls Tryz.prog 166 #[.pointer (some ⟨b,0,none⟩),.string s] w fun e w'=>e=.returned (.tuple #[])∧Ext [b] w w'∧w'.heap[b]? = some (.cells (stC (feed z s.data.toList).hs (feed z s.data.toList).bl (feed z s.data.toList).held ((total+s.size)%18446744073709551616)) 275 (0,0)):=by
 refine enter [b] [(1,.cells kt t0 fr0)] [cl b (stC z.hs z.bl z.held total) 275] Tryz.func166 rfl kr (HP.startM hR hS (by simpa using hne)) ?_
 refine Bp 10 [dZ,dZ,dZ,(dS (.int .u64 (total:Int)))] (some [0,1,12,14]) (fun S=>[(cE S b 73 (.int .u64 (total:Int)))]) ⟨(fun w1 h=>h.ocell 0 rfl (st_total hx.hh hx.hb)),trivial⟩ ?_
 refine Lu (zS (b:=b) (off:=73) (v:=.int .u64 (((total:Int)+((s.size:Int)%18446744073709551616))%18446744073709551616)) rfl kr kr rfl kr 0 (cs:=(stC z.hs z.bl z.held total)) (e:=275) kr (by rw[st_size hx.hh hx.hb];omega)) ?_
 refine zg rfl ?_
 refine Cg (Γ':=[(0,[],pT b),(1,[],.string s)]) ?_
 refine oB 0 rfl (show _=(stC z.hs z.bl z.held ((total+s.size)%18446744073709551616))from st_setTotal hx.hh hx.hb om) ?_
 refine ye rfl (ι:=ByteArray×Sh) (fun(p,y)=>[(0,[],pT b),(1,[],.string p)]) (fun(p,y)=>[cl b (stC y.hs y.bl y.held ((total+s.size)%18446744073709551616)) 275]) (fun(p,y)=>(y.Ok)∧(feed y p.data.toList=feed z s.data.toList)) (fun(p,y)=>p.size) (s,z) ?_ (Conv.mk kr) (cO .slnil) ?_
 ·exact⟨hx,rfl⟩
 rintro⟨p,y⟩ ⟨oky,hf⟩
 obtain⟨hs,bl,held⟩:=y
 obtain⟨hh,hb,hlt,hld⟩:=oky
 dsimp only at hh hb hlt hld
 have hcn:cn p held=min p.size (64-held):=rfl
 refine Rq [0,1,17] ?_
 refine eC rfl (p:=((p.size:Int)>(0:Int))) kr (fun c1=>?_) (fun c1=>?_)
 ·refine yo rfl kr [] ?_
  refine Ap [0,1,2,3,4,5,8] [] (some [0,1,20,23,26]) (bF 319 11) (.cons _ .slnil) 4 n0 trivial ?_
  refine Au 6 rfl 3  (qm (raw:=false) (orc:=some (iN held)) (v:=iN held) (nd:=(fun S=>[(cE S b 72 (iN held))])) (fun _=>kr) ⟨(fun w1 h=>h.ocell 0 rfl (st_held hh hb)),trivial⟩ kr) (fun _ _=>zz _) ?_
  refine Ap [7] [] (some [0,1,25,26]) (tF 9 2) (.cons _ .slnil) 2 (fun _=>[(0≤(held:Int)),(held≤64∧64≤64)]) ⟨om,om,trivial⟩ ?_
  refine Au 9 rfl 1  (Eff.copyS rfl Tryz.underlying111 kr (b:=b) (off:=(if 64=held then 8 else(addO 8 held))) (dl:=((64-held))) (c:=((64-held))) kr (s:=p) kr 0 (cs:=(stC hs bl held ((total+s.size)%18446744073709551616))) (te:=275) kr (cn p held) rfl (by rw[off_eq hld,st_size hh hb];omega)) (fun _ _=>zz _) ?_
  refine Ap [10] [] (some [0,1,4]) (tF 11 0) (.cons _ .slnil) 0 n0 trivial ?_
  refine z6 kr ?_
  refine oB 0 rfl (show _=(stC hs (lay bl held (p.data.toList.take (cn p held))) held ((total+s.size)%18446744073709551616))from by rw[off_eq hld];exact spl_lay _ hh hb (by rw[part_len om];omega)) ?_
  refine Rg [0,1,4] [] (fun _=>[(0≤((cn p held):Int)),(((cn p held))≤p.size∧p.size≤p.size)]) ⟨om,om,trivial⟩ ?_
  refine Bp 8 [dZ,dZ,dZ,(dS (iN held))] (some [0,1,36,38]) (fun S=>[(cE S b 72 (iN held)),(i6 ((held:Int)+((cn p held):Int)))]) ⟨(fun w1 h=>h.ocell 0 rfl (st_held hh ((lay_len _ _ _).trans hb))),om,trivial⟩ ?_
  refine Lu (zS (b:=b) (off:=72) (v:=.int .i64 ((held:Int)+((cn p held):Int))) rfl kr kr rfl kr 0 (cs:=(stC hs (lay bl held (p.data.toList.take (cn p held))) held ((total+s.size)%18446744073709551616))) (e:=275) kr (by rw[st_size hh ((lay_len _ _ _).trans hb)];omega)) ?_
  refine zg rfl ?_
  refine Cg (Γ':=[(1,[],.string (p.extract (((cn p held))) p.size)),(0,[],pT b)]) ?_
  refine oB 0 rfl (show _=(stC hs (lay bl held (p.data.toList.take (cn p held))) (held+(cn p held)) ((total+s.size)%18446744073709551616))from st_setHeld hh ((lay_len _ _ _).trans hb) om) ?_
  refine Rg [0,1,43] [dZ,dZ,dZ,(dS (.int .i64 ((held+(cn p held)):Int)))] (fun S=>[(cE S b 72 (.int .i64 ((held+(cn p held)):Int)))]) ⟨(fun w1 h=>h.ocell 0 rfl (st_held hh ((lay_len _ _ _).trans hb))),trivial⟩ ?_
  refine zX rfl (b:=(((held+(cn p held)):Int)==(64:Int))) kr (fun c2r=>?_) (fun c2r=>?_)
  ·have c2:=(beq_iff_eq.1 c2r)
   refine Bq 1 [0,1,44] ?_
   refine Lu (yX (.tuple #[]) 0 (b:=b) (ob:=.cells (stC hs (lay bl held (p.data.toList.take (cn p held))) (held+(cn p held)) ((total+s.size)%18446744073709551616)) 275 (0,0)) (.cells (stC (mixF hs (lay bl held (p.data.toList.take (cn p held)))) (lay bl held (p.data.toList.take (cn p held))) (held+(cn p held)) ((total+s.size)%18446744073709551616)) 275 (0,0)) rfl Tryz.func193 rfl rfl kr kr (fun w1 h=>shaMix b hs (lay bl held (p.data.toList.take (cn p held))) (held+(cn p held)) ((total+s.size)%18446744073709551616) w1 hh ((lay_len _ _ _).trans hb) hlt (h.hasR (fun e he=>he)) (h.own _ mH) hne)) ?_
   refine zg rfl ?_
   refine Cg (Γ':=[(1,[],.string (p.extract (((cn p held))) p.size)),(0,[],pT b)]) ?_
   refine Bq 3 [0,1,48] ?_
   refine Lu (zS (b:=b) (off:=72) (v:=.int .i64 0) rfl kr kr rfl kr 0 (cs:=(stC (mixF hs (lay bl held (p.data.toList.take (cn p held)))) (lay bl held (p.data.toList.take (cn p held))) (held+(cn p held)) ((total+s.size)%18446744073709551616))) (e:=275) kr (by rw[st_size (mixF_len _ hh) ((lay_len _ _ _).trans hb)];omega)) ?_
   refine zg rfl ?_
   refine Cg (Γ':=[(1,[],.string (p.extract (((cn p held))) p.size)),(0,[],pT b)]) ?_
   have hfull:held+(cn p held)=64:=by omega
   have hfd:=feed_full (p.data.toList.take (cn p held)) hs bl held hld (by rw[part_len om];omega)
   refine oB 0 rfl (show _=(stC (mixF hs (lay bl held (p.data.toList.take (cn p held)))) (lay bl held (p.data.toList.take (cn p held))) 0 ((total+s.size)%18446744073709551616))from st_setHeld (mixF_len _ hh) ((lay_len _ _ _).trans hb) rfl) ?_
   refine zG rfl (p.extract (cn p held) p.size,⟨mixF hs (lay bl held (p.data.toList.take (cn p held))),(lay bl held (p.data.toList.take (cn p held))),0⟩) ⟨by rw[←hfd];exact feed_ok _ ⟨hh,hb,hlt,hld⟩,by rw[←hfd,feed_ext];exact hf⟩ (by show(p.extract (cn p held) p.size).size<p.size;rw[ext_size _ _ om];omega) (Conv.mk kr) (cO .slnil)
  have c2:=(beq_eq_false_iff_ne.1 c2r)
  have hpart:held+(cn p held)<64:=by omega
  have hfd:=feed_part (p.data.toList.take (cn p held)) hs bl held (by rw[part_len om];omega)
  rw[part_len om]at hfd
  refine zG rfl (p.extract (cn p held) p.size,⟨hs,(lay bl held (p.data.toList.take (cn p held))),held+(cn p held)⟩) ⟨by rw[←hfd];exact feed_ok _ ⟨hh,hb,hlt,hld⟩,by rw[←hfd,feed_ext];exact hf⟩ (by show(p.extract (cn p held) p.size).size<p.size;rw[ext_size _ _ om];omega) (Conv.mk kr) (cO .slnil)
 refine Cfg.fin rfl (rs:=[]) rfl [] trivial (fun w1 hp=>?_)
 have hp0:p.size=0:=by omega
 have hnil:p.data.toList=[]:=ya (by simpa using hp0)
 rw[hnil,feed_nil]at hf
 rw[←hf]
 exact⟨rfl,hp.ext,hp.own (b,_) mH⟩
end
section
open K
theorem shaWrite1 (b:Nat) (z:Sh) (total:Nat) (c:UInt8) {kt:Array Value} {t0:TypeId} {fr0:Nat×Nat} (w:World) (hx:z.Ok) (hR:Has w [(1,.cells kt t0 fr0)]) (hS:w.heap[b]? = some (.cells (stC z.hs z.bl z.held total) 275 (0,0))) (hne:b≠1) (hK:KT kt:=by assumption) :
  Calls Tryz.prog 166 #[.pointer (some ⟨b,0,none⟩),.string ⟨#[c]⟩] w fun e w'=>e=.returned (.tuple #[])∧Ext [b] w w'∧w'.heap[b]? = some (.cells (stC (feedB z c).hs (feedB z c).bl (feedB z c).held ((total+1)%18446744073709551616)) 275 (0,0)):=
 shaWrite b z total ⟨#[c]⟩ w hx hR hS hne
theorem shaEndC (b:Nat) (z:Sh) (total:Nat) {kt:Array Value} {t0:TypeId} {fr0:Nat×Nat} (w:World) (hx:z.Ok) (hR:Has w [(1,.cells kt t0 fr0)]) (hS:w.heap[b]? = some (.cells (stC z.hs z.bl z.held total) 275 (0,0))) (hne:b≠1) (hK:KT kt:=by assumption) :
  Calls Tryz.prog 167 #[.pointer (some ⟨b,0,none⟩)] w fun e w'=>e=.returned (.agg (bv (shaEnd z total)))∧Ext [b] w w':=by
 refine enter [b] [(1,.cells kt t0 fr0)] [cl b (stC z.hs z.bl z.held total) 275] Tryz.func167 rfl kr (HP.startM hR hS (by simpa using hne)) ?_
 refine Be rfl rfl (zM (z:=(.agg (bv (replicate 32 0)))) rfl kr) ?_
 rintro r ⟨hr,nr⟩
 refine zg rfl ?_
 refine Rg [0,2,3] [dZ,dZ,dZ,(dS (.int .u64 (total:Int)))] (fun S=>[(cE S b 73 (.int .u64 (total:Int)))]) ⟨(fun w1 h=>h.ocell 1 rfl (st_total hx.hh hx.hb)),trivial⟩ ?_
 refine zN 3 (congrArg (fun(xq:Int)=>(.int .u64 xq:Value)) (show(((total:Int)*8)%18446744073709551616)=(lb total:Int)from lb_eq total)) ?_
 refine Bp 1 [] none n0 trivial ?_
 refine Lu (yX (.tuple #[]) 1 (b:=b) (ob:=.cells (stC z.hs z.bl z.held total) 275 (0,0)) (.cells (stC (feedB z 128).hs (feedB z 128).bl (feedB z 128).held ((total+1)%18446744073709551616)) 275 (0,0)) rfl Tryz.func166 rfl rfl kr kr (fun w1 h=>shaWrite1 b z total 128 w1 hx (h.hasR (fun e he=>he)) (h.own _ (mG 1 rfl)) hne)) ?_
 refine zg rfl ?_
 refine Cg (Γ':=[(3,[],.int .u64 (lb total:Int)),(2,[],pT r),(0,[],pT b)]) ?_
 refine oB 1 rfl (show _=(stC (pz z 0).hs (pz z 0).bl (pz z 0).held (tj total 0))from by rw[pz_zero,tj_zero]) ?_
 refine ye rfl (ι:=Nat) (fun(j:Nat)=>[(3,[],.int .u64 (lb total:Int)),(2,[],pT r),(0,[],pT b)]) (fun(j:Nat)=>[cl r (bv (replicate 32 0)) 226,cl b (stC (pz z j).hs (pz z j).bl (pz z j).held (tj total j)) 275]) (fun(j:Nat)=>(j≤padN z)) (fun(j:Nat)=>padN z-j) 0 ?_ (Conv.mk kr) (cO (cO .slnil)) ?_
 ·exact zH _
 rintro j hj
 refine Rg [0,2,3,20] [dZ,dZ,dZ,(dS (.int .i64 ((pz z j).held:Int)))] (fun S=>[(cE S b 72 (.int .i64 ((pz z j).held:Int)))]) ⟨(fun w1 h=>h.ocell 1 rfl (st_held (pz_ok hx j).hh (pz_ok hx j).hb)),trivial⟩ ?_
 refine zX rfl (b:=(((pz z j).held:Int) != (56:Int))) kr (fun c1r=>?_) (fun c1r=>?_)
 ·have c1:=(bne_iff_ne.1 c1r)
  refine Bq 1 [0,2,3,21] ?_
  refine Lu (yX (.tuple #[]) 1 (b:=b) (ob:=.cells (stC (pz z j).hs (pz z j).bl (pz z j).held (tj total j)) 275 (0,0)) (.cells (stC (feedB (pz z j) 0).hs (feedB (pz z j) 0).bl (feedB (pz z j) 0).held ((tj total j+1)%18446744073709551616)) 275 (0,0)) rfl Tryz.func166 rfl rfl kr kr (fun w1 h=>shaWrite1 b (pz z j) (tj total j) 0 w1 (pz_ok hx j) (h.hasR (fun e he=>he)) (h.own _ (mG 1 rfl)) hne)) ?_
  refine zg rfl ?_
  refine Cg (Γ':=[(3,[],.int .u64 (lb total:Int)),(2,[],pT r),(0,[],pT b)]) ?_
  have hjn:j≠padN z:=fun h=>c1 ((pad_end hx hj).2 h)
  refine oB 1 rfl (show _=(stC (pz z (j+1)).hs (pz z (j+1)).bl (pz z (j+1)).held (tj total (j+1)))from by rw[pz_succ,tj_succ]) ?_
  refine zG rfl (j+1) (by show j+1≤padN z;omega) (by show padN z-(j+1)<padN z-j;omega) (Conv.mk kr) (cO (cO .slnil))
 have c1:=(bne_eq_false_iff_eq.1 c1r)
 obtain rfl:j=padN z:=(pad_end hx hj).1 c1
 refine Be rfl rfl (zM (z:=(.agg (bv (replicate 8 0)))) rfl kr) ?_
 rintro tl ⟨htl,ntl⟩
 refine zg rfl ?_
 refine Cg (Γ':=[(4,[],pT tl),(3,[],.int .u64 (lb total:Int)),(2,[],pT r),(0,[],pT b)]) ?_
 refine Rq [0,2,3,4,23] ?_
 refine ye rfl (ι:=Nat) (fun(k1:Nat)=>[(23,[],iN k1),(4,[],pT tl),(3,[],.int .u64 (lb total:Int)),(2,[],pT r),(0,[],pT b)]) (fun(k1:Nat)=>[cl tl (bv (tlr (lb total) k1)) 256,cl r (bv (replicate 32 0)) 226,cl b (stC (pz z (padN z)).hs (pz z (padN z)).bl (pz z (padN z)).held (tj total (padN z))) 275]) (fun(k1:Nat)=>(k1≤8)) (fun(k1:Nat)=>8-k1) 0 ?_ (Conv.mk kr) (cO (cO (cO .slnil))) ?_
 ·exact zH _
 rintro k1 hk1
 refine Rq [0,2,3,4,23,24] ?_
 refine eC rfl (p:=((k1:Int)<(8:Int))) kr (fun c2=>?_) (fun c2=>?_)
 ·refine Rq [0,2,3,4,5,23] ?_
  refine Bp 8 [] (some [0,2,3,4,23,32,33]) (fun _=>[(i6 (8*(k1:Int))),(i6 (56-(8*(k1:Int)))),(0≤(56-(8*(k1:Int)))∧((56-(8*(k1:Int)))).toNat≤64),(iL (k1:Int) 8)]) ⟨om,om,om,om,trivial⟩ ?_
  refine Lu (zS (b:=tl) (off:=k1) (v:=.int .u8 (((lb total:Int) / ((2^((56-(8*(k1:Int)))).toNat:Nat):Int))%256)) rfl kr kr rfl kr 0 (cs:=(bv (tlr (lb total) k1))) (e:=256) kr (by rw[zP,tlr_len hk1];omega)) ?_
  refine zg rfl ?_
  refine Cg (Γ':=[(23,[],iN k1),(4,[],pT tl),(3,[],.int .u64 (lb total:Int)),(2,[],pT r),(0,[],pT b)]) ?_
  refine Rg [0,2,3,4,23] [] (fun _=>[(i6 ((k1:Int)+1))]) ⟨om,trivial⟩ ?_
  refine oB 0 rfl (show _=(bv (tlr (lb total) (k1+1)))from tlr_step om rfl) ?_
  refine zG rfl (k1+1) (by show k1+1≤8;omega) (by show 8-(k1+1)<8-k1;omega) (Conv.mk kr) (cO (cO (cO .slnil)))
 obtain rfl:k1=8:=by omega
 refine y9 (Γ':=[(4,[],pT tl),(3,[],.int .u64 (lb total:Int)),(2,[],pT r),(0,[],pT b)]) (Conv.mk kr) ?_
 refine Bp 3 [dZ,dZ,(dS (.string (tls (lb total))))] (some [0,2,35,37]) (fun S=>[(8≤8),(∀w1,S w1→(Conv.bytesToString (sP tl 0 8 8)).run Tryz.prog w1=.ok (.string (tls (lb total))) w1)]) ⟨om,(fun w1 h=>h.ostr 0 rfl (tlr_len (zD 8))),trivial⟩ ?_
 refine Lu (yX (.tuple #[]) 2 (b:=b) (ob:=.cells (stC (pz z (padN z)).hs (pz z (padN z)).bl (pz z (padN z)).held (tj total (padN z))) 275 (0,0)) (.cells (stC (z3 z total).hs (z3 z total).bl (z3 z total).held ((tj total (padN z)+(tls (lb total)).size)%18446744073709551616)) 275 (0,0)) rfl Tryz.func166 rfl rfl kr kr (fun w1 h=>shaWrite b (pz z (padN z)) (tj total (padN z)) (tls (lb total)) w1 (pz_ok hx _) (h.hasR (fun e he=>he)) (h.own _ (mG 2 rfl)) hne)) ?_
 refine zg rfl ?_
 refine Cg (Γ':=[(2,[],pT r),(0,[],pT b)]) ?_
 refine Be rfl rfl (zM (z:=(.agg (bv (replicate 32 0)))) rfl kr) ?_
 rintro d ⟨hd,nd⟩
 refine zg rfl ?_
 refine Rg [2,6,42,43] [dZ,dZ,dZ,(dS (.agg (wv (z3 z total).hs)))] (fun S=>[(lV S 273 b 0 (.agg (wv (z3 z total).hs)))]) ⟨(fun w1 h=>load_words Tryz.underlying273 rfl kr (z3_ok hx total).hh (fun j hj=>h.ocell 3 rfl (by rw[zF];exact st_sum (z3_ok hx total).hh hj))),trivial⟩ ?_
 refine ye rfl (ι:=Nat) (fun(k2:Nat)=>[(43,[],iN k2),(42,[],.agg (wv (z3 z total).hs)),(6,[],pT d),(2,[],pT r)]) (fun(k2:Nat)=>[cl d (bv (dgr (z3 z total).hs k2)) 226,cl tl (bv (tlr (lb total) 8)) 256,cl r (bv (replicate 32 0)) 226,cl b (stC (z3 z total).hs (z3 z total).bl (z3 z total).held ((tj total (padN z)+(tls (lb total)).size)%18446744073709551616)) 275]) (fun(k2:Nat)=>(k2≤8)) (fun(k2:Nat)=>8-k2) 0 ?_ (Conv.mk kr) (cO (cO (cO (cO .slnil)))) ?_
 ·exact zH _
 rintro k2 hk2
 refine Rq [2,6,42,43,44] ?_
 refine eC rfl (p:=((k2:Int)<(8:Int))) kr (fun c3=>?_) (fun c3=>?_)
 ·refine Rg [2,6,7,8,42,43] [dZ,(dS (.int .u32 (rg (z3 z total).hs k2:Int)))] (fun _=>[(iL (k2:Int) 8),(((wv (z3 z total).hs))[k2]? = some (.int .u32 (rg (z3 z total).hs k2:Int)))]) ⟨om,(wv_get (z3_ok hx total).hh om),trivial⟩ ?_
  refine Bp 6 [] (some [2,6,7,8,42,43,51,52]) (fun _=>[(i6 (4*(k2:Int))),(0≤(24:Int)∧24≤32),(iL (4*(k2:Int)) 32)]) ⟨om,om,om,trivial⟩ ?_
  refine Lu (zS (b:=d) (off:=(4*k2)) (v:=.int .u8 (((rg (z3 z total).hs k2:Int) / 16777216)%256)) rfl kr kr rfl kr 0 (cs:=(bv (dgr (z3 z total).hs k2))) (e:=226) kr (by first|(rw[dsz _ hk2];omega)|(simp only[Array.size_setIfInBounds,dsz _ hk2];omega))) ?_
  refine zg rfl ?_
  refine Cg (Γ':=[(8,[],.int .u32 (rg (z3 z total).hs k2:Int)),(7,[],iN k2),(43,[],iN k2),(42,[],.agg (wv (z3 z total).hs)),(6,[],pT d),(2,[],pT r)]) ?_
  refine Bp 7 [] (some [2,6,7,8,42,43,58,59]) (fun _=>[(i6 (4*(k2:Int))),(i6 ((4*(k2:Int))+1)),(0≤(16:Int)∧16≤32),(iL ((4*(k2:Int))+1) 32)]) ⟨om,om,om,om,trivial⟩ ?_
  refine Lu (zS (b:=d) (off:=((4*k2)+1)) (v:=.int .u8 (((rg (z3 z total).hs k2:Int) / 65536)%256)) rfl kr kr rfl kr 0 (cs:=((bv (dgr (z3 z total).hs k2)).setIfInBounds (4*k2) (.int .u8 (((rg (z3 z total).hs k2:Int) / 16777216)%256)))) (e:=226) kr (by first|(rw[dsz _ hk2];omega)|(simp only[Array.size_setIfInBounds,dsz _ hk2];omega))) ?_
  refine zg rfl ?_
  refine Cg (Γ':=[(8,[],.int .u32 (rg (z3 z total).hs k2:Int)),(7,[],iN k2),(43,[],iN k2),(42,[],.agg (wv (z3 z total).hs)),(6,[],pT d),(2,[],pT r)]) ?_
  refine Bp 7 [] (some [2,6,7,8,42,43,65,66]) (fun _=>[(i6 (4*(k2:Int))),(i6 ((4*(k2:Int))+2)),(0≤(8:Int)∧8≤32),(iL ((4*(k2:Int))+2) 32)]) ⟨om,om,om,om,trivial⟩ ?_
  refine Lu (zS (b:=d) (off:=((4*k2)+2)) (v:=.int .u8 (((rg (z3 z total).hs k2:Int) / 256)%256)) rfl kr kr rfl kr 0 (cs:=(((bv (dgr (z3 z total).hs k2)).setIfInBounds (4*k2) (.int .u8 (((rg (z3 z total).hs k2:Int) / 16777216)%256))).setIfInBounds ((4*k2)+1) (.int .u8 (((rg (z3 z total).hs k2:Int) / 65536)%256)))) (e:=226) kr (by first|(rw[dsz _ hk2];omega)|(simp only[Array.size_setIfInBounds,dsz _ hk2];omega))) ?_
  refine zg rfl ?_
  refine Cg (Γ':=[(8,[],.int .u32 (rg (z3 z total).hs k2:Int)),(7,[],iN k2),(43,[],iN k2),(42,[],.agg (wv (z3 z total).hs)),(6,[],pT d),(2,[],pT r)]) ?_
  refine Bp 6 [] (some [2,6,42,43,71,72]) (fun _=>[(i6 (4*(k2:Int))),(i6 ((4*(k2:Int))+3)),(iL ((4*(k2:Int))+3) 32)]) ⟨om,om,om,trivial⟩ ?_
  refine Lu (zS (b:=d) (off:=((4*k2)+3)) (v:=.int .u8 ((rg (z3 z total).hs k2:Int)%256)) rfl kr kr rfl kr 0 (cs:=((((bv (dgr (z3 z total).hs k2)).setIfInBounds (4*k2) (.int .u8 (((rg (z3 z total).hs k2:Int) / 16777216)%256))).setIfInBounds ((4*k2)+1) (.int .u8 (((rg (z3 z total).hs k2:Int) / 65536)%256))).setIfInBounds ((4*k2)+2) (.int .u8 (((rg (z3 z total).hs k2:Int) / 256)%256)))) (e:=226) kr (by first|(rw[dsz _ hk2];omega)|(simp only[Array.size_setIfInBounds,dsz _ hk2];omega))) ?_
  refine zg rfl ?_
  refine Cg (Γ':=[(43,[],iN k2),(42,[],.agg (wv (z3 z total).hs)),(6,[],pT d),(2,[],pT r)]) ?_
  refine Rg [2,6,42,43] [] (fun _=>[(i6 ((k2:Int)+1))]) ⟨om,trivial⟩ ?_
  refine oB 0 rfl (show _=(bv (dgr (z3 z total).hs (k2+1)))from dgr_step _ om rfl rfl rfl rfl) ?_
  refine zG rfl (k2+1) (by show k2+1≤8;omega) (by show 8-(k2+1)<8-k2;omega) (Conv.mk kr) (cO (cO (cO (cO .slnil))))
 refine Bp 1 [(dS (.agg (bv (dgr (z3 z total).hs k2))))] (some [2,74]) (fun S=>[(lV S 226 d 0 (.agg (bv (dgr (z3 z total).hs k2))))]) ⟨(fun w1 h=>h.oload 0 rfl Tryz.underlying226 rfl (n:=32) kr (dsz _ hk2)),trivial⟩ ?_
 refine Lu (zC (b:=r) (off:=0) (vs:=(bv (dgr (z3 z total).hs k2))) (n:=32) rfl kr kr kr (dsz _ hk2) (qF _) 2 (cs:=(bv (replicate 32 0))) (e:=226) kr (by rw[zsz];omega)) ?_
 refine oL 2 rfl (show _=(bv (dgr (z3 z total).hs k2))from yx ((dsz _ hk2).trans zsz.symm)) ?_
 refine zg rfl ?_
 refine Cg (Γ':=[(2,[],pT r)]) ?_
 refine yD rfl (rs:=[.cell 2 226]) rfl [.agg (bv (dgr (z3 z total).hs k2))] ⟨⟨_,by kernel_rfl,(fun w1 h=>h.oload 2 rfl Tryz.underlying226 rfl (n:=32) kr (dsz _ hk2))⟩,trivial⟩ (fun w1 hp=>?_)
 obtain rfl:k2=8:=by omega
 exact⟨rfl,hp.ext⟩
end
section
open K
theorem shaBegin (w:World) :
  Calls Tryz.prog 165 #[] w fun e w'=>∃b:Nat,True∧e=.returned (.pointer (some ⟨b,0,none⟩))∧w.heap.size≤b∧w'.heap[b]? = some (.cells (stC H8 (replicate 64 0) 0 0) 275 (0,0))∧Ext [] w w':=by
 refine enter [] [] [] Tryz.func165 rfl kr (yy w) ?_
 refine Rq [] ?_
 refine Bp 2 [(dS (.agg (wv H8))),(dS (.agg (stC H8 (replicate 64 0) 0 0)))] (some [2]) (fun S=>[(∀w1,S w1→(Instr.build 273 #[(0,.int .u32 1779033703),(1,.int .u32 3144134277),(2,.int .u32 1013904242),(3,.int .u32 2773480762),(4,.int .u32 1359893119),(5,.int .u32 2600822924),(6,.int .u32 528734635),(7,.int .u32 1541459225)]).run Tryz.prog w1=.ok (.agg (wv H8)) w1),(∀w1,S w1→(Instr.build 275 #[(0,.agg (wv H8))]).run Tryz.prog w1=.ok (.agg (stC H8 (replicate 64 0) 0 0)) w1)]) ⟨(fun _ _=>kr),(fun _ _=>kr),trivial⟩ ?_
 refine Le (y7 (v:=.agg (stC H8 (replicate 64 0) 0 0)) rfl kr) ?_
 rintro b1 ⟨hb1,nb1⟩
 refine Ld 1 [0] ?_
 refine Rt [pT b1] (fun w1 hp=>?_)
 exact⟨b1,trivial,rfl,hb1,hp.own (b1,_) mH,hp.ext⟩
theorem shaSum (la:Option Addr) (cap:Nat) (ss:List ByteArray) (Rl:List (Nat×Obj)) {kt:Array Value} {t0:TypeId} {fr0:Nat×Nat} (w:World) (hI:InS Rl la ss.length (fun j=>.string (ssat ss j))) (hn:ss.length≤maxLen) (hR:Has w ((1,.cells kt t0 fr0)::Rl)) (hK:KT kt:=by assumption) :
  Calls Tryz.prog 136 #[.slice la ss.length cap] w fun e w'=>e=.returned (.agg (bv (shaD (scat ss))))∧Ext [] w w':=by
 unfold maxLen at hn
 have h0:1<w.heap.size:=lt_of_get (hR _ mH)
 refine enter [] ((1,.cells kt t0 fr0)::Rl) [] Tryz.func136 rfl kr (yj hR) ?_
 refine Be rfl rfl (zM (z:=(.agg (bv (replicate 32 0)))) rfl kr) ?_
 rintro r ⟨hr,nr⟩
 refine zg rfl ?_
 refine Be rfl rfl (Eff.callN (fun b:Nat=>pT b) (fun b=>b) (fun _=>.cells (stC H8 (replicate 64 0) 0 0) 275 (0,0)) (fun _=>True) rfl Tryz.func165 rfl rfl kr (fun w1 _=>shaBegin w1)) ?_
 rintro b ⟨-,hb,nb⟩
 have hne:b≠1:=by have:w.heap.size≤b:=hb;omega
 refine Ld 1 [0,2,3] ?_
 refine Rq [2,3,7,8,9] ?_
 refine ye rfl (ι:=Nat) (fun(i:Nat)=>[(9,[],iN i),(8,[],iN ss.length),(7,[],.slice la ss.length cap),(3,[],pT b),(2,[],pT r)]) (fun(i:Nat)=>[cl b (stC (sz ss i).hs (sz ss i).bl (sz ss i).held (tt ss i)) 275,cl r (bv (replicate 32 0)) 226]) (fun(i:Nat)=>(i≤ss.length)) (fun(i:Nat)=>ss.length-i) 0 ?_ (Conv.mk kr) (cO (cO .slnil)) ?_
 ·exact zH _
 rintro i hi
 refine Rq [2,3,7,8,9,10] ?_
 refine eC rfl (p:=((i:Int)<(ss.length:Int))) kr (fun c1=>?_) (fun c1=>?_)
 ·obtain⟨sb,off,cs,te,fre,rfl,hmem,hcs⟩:=hI om
  refine y9 (Γ':=[(10,[],.bool (decide ((i:Int)<(ss.length:Int)))),(9,[],iN i),(8,[],iN ss.length),(7,[],sP sb off ss.length cap),(3,[],pT b),(2,[],pT r)]) (Conv.mk kr) ?_
  refine Rg [2,3,5,7,8,9] [dZ,(dS (.string (ssat ss i)))] (fun S=>[(0≤(i:Int)∧(i:Int)<(ss.length:Int)),(cE S sb (addO off i) (.string (ssat ss i)))]) ⟨om,(fun w1 h=>by rw[y4];exact(zI (h.ro _ (zf _ hmem))).trans (hcs i om)),trivial⟩ ?_
  refine Bq 2 [2,3,7,8,9,13,14] ?_
  refine Lu (yX (.tuple #[]) 0 (b:=b) (ob:=.cells (stC (sz ss i).hs (sz ss i).bl (sz ss i).held (tt ss i)) 275 (0,0)) (.cells (stC (feed (sz ss i) (ssat ss i).data.toList).hs (feed (sz ss i) (ssat ss i).data.toList).bl (feed (sz ss i) (ssat ss i).data.toList).held ((tt ss i+(ssat ss i).size)%18446744073709551616)) 275 (0,0)) rfl Tryz.func166 rfl rfl kr kr (fun w1 h=>shaWrite b (sz ss i) (tt ss i) (ssat ss i) w1 (sz_ok ss i) (h.hasR (fun e he=>by rw[zi.1 he];exact mH)) (h.own _ (mG 0 rfl)) hne)) ?_
  refine zg rfl ?_
  refine Cg (Γ':=[(9,[],iN i),(8,[],iN ss.length),(7,[],sP sb off ss.length cap),(3,[],pT b),(2,[],pT r)]) ?_
  refine Rg [2,3,7,8,9] [] (fun _=>[(i6 ((i:Int)+1))]) ⟨om,trivial⟩ ?_
  refine oB 0 rfl (show _=(stC (sz ss (i+1)).hs (sz ss (i+1)).bl (sz ss (i+1)).held (tt ss (i+1)))from by rw[sz_succ om,tt_succ om]) ?_
  refine zG rfl (i+1) (by show i+1≤ss.length;omega) (by show ss.length-(i+1)<ss.length-i;omega) (Conv.mk kr) (cO (cO .slnil))
 obtain rfl:i=ss.length:=by omega
 refine y9 (Γ':=[(8,[],iN ss.length),(7,[],.slice la ss.length cap),(3,[],pT b),(2,[],pT r)]) (Conv.mk kr) ?_
 refine Bq 1 [2,17] ?_
 refine Lu (Eff.callD (vs:=[pT b]) (.agg (bv (shaD (scat ss)))) 0 (b:=b) (ob:=.cells (stC (sz ss ss.length).hs (sz ss ss.length).bl (sz ss ss.length).held (tt ss ss.length)) 275 (0,0)) rfl Tryz.func167 rfl rfl kr kr (fun w1 h=>by have:=shaEndC b (sz ss ss.length) (tt ss ss.length) w1 (sz_ok ss _) (h.hasR (fun e he=>by rw[zi.1 he];exact mH)) (h.own _ (mG 0 rfl)) hne;rw[sz_all]at this;exact this)) ?_
 refine Lu (zC (b:=r) (off:=0) (vs:=(bv (shaD (scat ss)))) (n:=32) rfl kr kr kr (dz _) (qF _) 0 (cs:=(bv (replicate 32 0))) (e:=226) kr (by rw[zsz];omega)) ?_
 refine oL 0 rfl (show _=(bv (shaD (scat ss)))from yx ((dz _).trans zsz.symm)) ?_
 refine zg rfl ?_
 refine Cg (Γ':=[(2,[],pT r)]) ?_
 refine yD rfl (rs:=[.cell 2 226]) rfl [.agg (bv (shaD (scat ss)))] ⟨⟨_,by kernel_rfl,(fun w1 h=>h.oload 0 rfl Tryz.underlying226 rfl (n:=32) kr (dz _))⟩,trivial⟩ (fun w1 hp=>?_)
 exact⟨rfl,hp.ext⟩
end
section
open K
theorem bCheck0 (b:Nat) (v:Value) (w:World) (hB:w.heap[b]? = some (.cells #[.pointer none,v] 113 (0,0))) :
  Calls Tryz.prog 87 #[.pointer (some ⟨b,0,none⟩)] w fun e w'=>e=.returned (.tuple #[])∧Ext [b] w w'∧w'.heap[b]? = some (.cells #[.pointer (some ⟨b,0,none⟩),v] 113 (0,0)):=by
 refine enter [b] [] [cl b #[.pointer none,v] 113] Tryz.func87 rfl kr (HP.startM (R:=[]) (fun _ h=>by cases h) hB (by simp)) ?_
 refine Rg [0,6] [dZ,dZ,dZ,(dS (.pointer none))] (fun S=>[(cE S b 0 (.pointer none))]) ⟨(oC 0 rfl rfl),trivial⟩ ?_
 refine Cfg.condT rfl (b:=true) kr rfl ?_
 refine Bq 2 [7,8] ?_
 refine Lu (Eff.conv (u:=pT b) (pT b) rfl kr (fun w1 h=>toUnsafe Tryz.underlying110 Tryz.underlying218 kr (h.own (b,_) mH) rfl)) ?_
 refine Lu (Eff.callE (vs:=[pT b]) (pT b) (e:=Extern.AbiNoEscape.same) rfl Tryz.func128 rfl rfl kr kr kr (fun w1 h=>rfl)) ?_
 refine Lu (Eff.conv (u:=pT b) (pT b) rfl kr (fun w1 h=>fromUnsafe Tryz.underlying218 Tryz.underlying110 kr kr (h.own (b,_) mH) rfl)) ?_
 refine Lq 2 [11,13] ?_
 refine Lu (zS (b:=b) (off:=0) (v:=pT b) rfl kr kr rfl kr 0 (cs:=#[.pointer none,v]) (e:=113) kr (Nat.zero_lt_succ 1)) ?_
 refine zg rfl ?_
 refine Cg (Γ':=[]) ?_
 refine Cfg.fin rfl (rs:=[]) rfl [] trivial (fun w1 hp=>?_)
 exact⟨rfl,hp.ext,hp.own (b,_) mH⟩
theorem bCheck1 (b:Nat) (v:Value) (w:World) (hB:w.heap[b]? = some (.cells #[.pointer (some ⟨b,0,none⟩),v] 113 (0,0))) :
  Calls Tryz.prog 87 #[.pointer (some ⟨b,0,none⟩)] w fun e w'=>e=.returned (.tuple #[])∧Ext [b] w w'∧w'.heap[b]? = some (.cells #[.pointer (some ⟨b,0,none⟩),v] 113 (0,0)):=by
 refine enter [b] [] [cl b #[pT b,v] 113] Tryz.func87 rfl kr (HP.startM (R:=[]) (fun _ h=>by cases h) hB (by simp)) ?_
 refine Rg [0,6] [dZ,dZ,dZ,(dS (pT b))] (fun S=>[(cE S b 0 (pT b))]) ⟨(oC 0 rfl rfl),trivial⟩ ?_
 refine yb rfl (b:=false) kr rfl ?_
 refine Bp 5 [dZ,dZ,dZ,(dS (pT b))] (some [17,18]) (fun S=>[(cE S b 0 (pT b))]) ⟨(oC 0 rfl rfl),trivial⟩ ?_
 refine Lu (Eff.neqSame rfl (p:=⟨b,0,none⟩) kr kr Tryz.underlying110 kr) ?_
 refine zg rfl ?_
 refine Cg (Γ':=[(19,[],.bool false)]) ?_
 refine yb rfl (b:=false) kr rfl ?_
 refine Cfg.fin rfl (rs:=[]) rfl [] trivial (fun w1 hp=>?_)
 exact⟨rfl,hp.ext,hp.own (b,_) mH⟩
theorem bCheck (b:Nat) (p v:Value) (w:World) (hp:p=.pointer none∨p=.pointer (some ⟨b,0,none⟩)) (hB:w.heap[b]? = some (.cells #[p,v] 113 (0,0))) :
  Calls Tryz.prog 87 #[.pointer (some ⟨b,0,none⟩)] w fun e w'=>e=.returned (.tuple #[])∧Ext [b] w w'∧w'.heap[b]? = some (.cells #[.pointer (some ⟨b,0,none⟩),v] 113 (0,0)):=by
 rcases hp with rfl|rfl
 ·exact bCheck0 b v w hB
 exact bCheck1 b v w hB
theorem bWriteString (b:Nat) (l:List UInt8) (B:Bd) (s:ByteArray) (w:World) (hok:BdOk b l B) (hh:Has w (bl 113 5 b l B)) (hd:((bl 113 5 b l B).map (·.1)).Nodup) (hr:l.length+s.size≤140737488355328) :
  Calls Tryz.prog 147 #[.pointer (some ⟨b,0,none⟩),.string s] w fun e w'=>∃B':Bd,BdOk b (l++s.data.toList) B'∧e=.returned (.tuple #[.int .i64 (s.size:Int),.nilIface])∧∃R1,HP w ((bl 113 5 b l B).map (·.1)) R1 (bl 113 5 b (l++s.data.toList) B') w':=by
 refine enter ((bl 113 5 b l B).map (·.1)) [] ([cl b #[B.1,sO B.2 l.length] 113]++(Own.o 5 ((bv l).toList) B.2++[])) Tryz.func147 rfl kr (bl_start hh hd (R:=[]) (fun _ h=>by cases h) (fun _ h=>by cases h)) ?_
 refine Rq [0,1] ?_
 refine Bp 1 [] none n0 trivial ?_
 refine Lu (yX (.tuple #[]) 0 (b:=b) (ob:=.cells #[B.1,sO B.2 l.length] 113 (0,0)) (.cells #[pT b,sO B.2 l.length] 113 (0,0)) rfl Tryz.func87 rfl rfl kr kr (fun w1 h=>bCheck b B.1 (sO B.2 l.length) w1 hok.ptr (h.own (b,_) mH))) ?_
 refine zg rfl ?_
 refine Cg (Γ':=[(0,[],pT b),(1,[],.string s)]) ?_
 refine Bp 6 [dZ,dZ,dZ,dZ,(dS (sO B.2 l.length))] (some [1,8,12,13]) (fun S=>[(cE S b 1 (sO B.2 l.length))]) ⟨(oC 0 rfl rfl),trivial⟩ ?_
 refine Le (Eff.appendS rfl Tryz.underlying111 Tryz.underlying9 kr kr B.2 hok.own hok.pos kr (s:=s) kr [cl b #[pT b,sO B.2 l.length] 113] [] rfl hr) ?_
 rintro o ⟨ko,kp⟩
 refine Lq 2 [1,14,16] ?_
 refine Lu (zS (b:=b) (off:=1) (v:=sO o ((l.length+s.size))) rfl kr kr rfl kr 0 (cs:=#[pT b,sO B.2 l.length]) (e:=113) kr (Nat.lt_succ_self 1)) ?_
 refine zg rfl ?_
 refine Cg (Γ':=[(1,[],.string s)]) ?_
 refine Rq [4,5] ?_
 refine yD rfl (rs:=[.tmp 4,.tmp 5]) rfl [iN s.size,.nilIface] ⟨kr,by kernel_rfl,trivial⟩ (fun w1 hp=>?_)
 rw[bv_app]at hp ko
 have hlen:l.length+s.size=(l++s.data.toList).length:=by rw[zh,ba_len]
 rw[hlen]at ko hp
 exact⟨(pT b,o),⟨.inr rfl,ko,kp⟩,rfl,_,bl_end hp⟩
theorem bWrite (b:Nat) (l:List UInt8) (B:Bd) (d n c:Nat) (x:List UInt8) (te:TypeId) (w:World) (hok:BdOk b l B) (hh:Has w (bl 113 5 b l B)) (hd:((bl 113 5 b l B).map (·.1)).Nodup) (hr:l.length+n≤140737488355328) (hn:0<n) (hx:x.length=n) (hD:w.heap[d]? = some (.cells (bv x) te (0,0))) (hdn:d∉(bl 113 5 b l B).map (·.1)) :
  Calls Tryz.prog 45 #[.pointer (some ⟨b,0,none⟩),.slice (some ⟨d,0,none⟩) n c] w fun e w'=>∃B':Bd,BdOk b (l++x) B'∧e=.returned (.tuple #[.int .i64 (n:Int),.nilIface])∧∃R1,HP w ((bl 113 5 b l B).map (·.1)) R1 (bl 113 5 b (l++x) B') w':=by
 refine enter ((bl 113 5 b l B).map (·.1)) [(d,.cells (bv x) te (0,0))] ([(b,.cells #[B.1,.slice (Own.a B.2) l.length (Own.c B.2)] 113 (0,0))]++(Own.o 5 ((bv l).toList) B.2++[])) Tryz.func45 rfl kr (bl_start hh hd (R:=[(d,.cells (bv x) te (0,0))]) (fun e he=>by rw[zi.1 he];exact hD) (fun e he=>by rw[zi.1 he];exact hdn)) ?_
 refine Rq [0,1] ?_
 refine Bp 1 [] none n0 trivial ?_
 refine Lu (yX (.tuple #[]) 0 (b:=b) (ob:=.cells #[B.1,sO B.2 l.length] 113 (0,0)) (.cells #[pT b,sO B.2 l.length] 113 (0,0)) rfl Tryz.func87 rfl rfl kr kr (fun w1 h=>bCheck b B.1 (sO B.2 l.length) w1 hok.ptr (h.own (b,_) mH))) ?_
 refine zg rfl ?_
 refine Cg (Γ':=[(0,[],pT b),(1,[],sP d 0 n c)]) ?_
 refine Bp 6 [dZ,dZ,dZ,dZ,(dS (sO B.2 l.length))] (some [1,8,12,13]) (fun S=>[(cE S b 1 (sO B.2 l.length))]) ⟨(oC 0 rfl rfl),trivial⟩ ?_
 refine Le (Eff.appendP rfl Tryz.underlying111 kr (z:=.int .u8 0) kr rfl B.2 hok.own kr (b2:=d) (off2:=0) (m:=n) (c2:=c) kr (bv x).toList (by rw[bv_len,hx,jg]) (qF _) [(b,.cells #[pT b,.slice (Own.a B.2) l.length (Own.c B.2)] 113 (0,0))] [] rfl (fun w1 h j v hj=>by rw[zF];exact h.rcell 0 rfl (by rw[←qj];exact hj)) om om om) ?_
 rintro o ⟨ko,kp⟩
 refine Lq 2 [1,14,16] ?_
 refine Lu (zS (b:=b) (off:=1) (v:=sO o ((l.length+n))) rfl kr kr rfl kr 0 (cs:=#[pT b,sO B.2 l.length]) (e:=113) kr (Nat.lt_succ_self 1)) ?_
 refine zg rfl ?_
 refine Cg (Γ':=[(1,[],sP d 0 n c)]) ?_
 refine Rq [4,5] ?_
 refine yD rfl (rs:=[.tmp 4,.tmp 5]) rfl [iN n,.nilIface] ⟨kr,by kernel_rfl,trivial⟩ (fun w1 hp=>?_)
 rw[bv_app]at hp ko
 have hlen:l.length+n=(l++x).length:=by rw[zh,hx]
 rw[hlen]at ko hp
 exact⟨(pT b,o),⟨.inr rfl,ko,kp⟩,rfl,_,bl_end hp⟩
theorem bString (b:Nat) (l:List UInt8) (B:Bd) (w:World) (hok:BdOk b l B) (hh:Has w (bl 113 5 b l B)) (hd:((bl 113 5 b l B).map (·.1)).Nodup) (hr:l.length≤140737488355328) :
  Calls Tryz.prog 46 #[.pointer (some ⟨b,0,none⟩)] w fun e w'=>∃_:Unit,True∧e=.returned (.string ⟨l.toArray⟩)∧∃R1,HP w ((bl 113 5 b l B).map (·.1)) R1 [] w':=by
 refine enter ((bl 113 5 b l B).map (·.1)) [] ([cl b #[B.1,sO B.2 l.length] 113]++(Own.o 5 ((bv l).toList) B.2++[])) Tryz.func46 rfl kr (bl_start hh hd (R:=[]) (fun _ h=>by cases h) (fun _ h=>by cases h)) ?_
 refine Rq [0] ?_
 refine yo rfl kr [cl b #[B.1,sO B.2 l.length] 113] ?_
 refine Ap [0,1,2,3,5,6,7,8,9] [dZ,dZ,dZ,(dS (sO B.2 l.length)),dZ,dZ,dZ,(dS (sO B.2 l.length))] (some [6,12]) (bF 1007 12) (cO nL) 3 (fun S=>[(cE S b 1 (sO B.2 l.length)),(cE S b 1 (sO B.2 l.length))]) ⟨(oC 0 rfl rfl),(oC 0 rfl rfl),trivial⟩ ?_
 refine Au 4 rfl 2  (Eff.sliceData rfl B.2 hok.pos (n:=l.length) kr) (fun _ _=>(cO nL)) ?_
 refine Au 10 rfl 1  (Eff.unsafeStr rfl Tryz.underlying178 kr B.2 hok.own kr kr [cl b #[B.1,sO B.2 l.length] 113] [] rfl om) (fun _ _=>(cO .slnil)) ?_
 refine Ap [11] [] (some [2]) (tF 12 0) (cO .slnil) 0 n0 trivial ?_
 refine z6 kr ?_
 refine Rt [.string ⟨l.toArray⟩] (fun w1 hp=>?_)
 exact⟨(),trivial,rfl,_,hp.sub nL⟩
end
end Go.Proofs.YtfgdepggdiibdaaGreatDoor