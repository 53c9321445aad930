/- Texts on which the proof of this claim stands: Fl12, SpE, Fp1, Fp3, Fp2, Fl15, Fl13, Fl16, Fp4, Fr1. -/
import Derived.Test.YtfgdepggdiibdaaGreatDoorP7
import Derived.Test.YtfgdepggdiibdaaGreatDoorP6
import Derived.Test.YtfgdepggdiibdaaGreatDoorP2
import Derived.Test.YtfgdepggdiibdaaGreatDoorP4
import Derived.Test.YtfgdepggdiibdaaGreatDoorP5
import Derived.Lib.Bytealg
import Derived.Test.YtfgdepggdiibdaaGreatDoorP3
set_option linter.unusedVariables false
set_option maxRecDepth 100000
set_option maxHeartbeats 8000000
namespace Go.Proofs.YtfgdepggdiibdaaGreatDoor
open List (replicate)
section
open K
def acL (a:FA):List Value:=[.int .i64 a.k,.string a.nm,.string a.t2,.string a.da]
theorem acL_len (a:FA):(acL a).length=4:=rfl
theorem acL_all (a:FA):∀v∈(acC a).toList,K.one v=true:=by
 intro v h
 have h2:v∈acL a:=h
 simp only[acL,List.mem_cons,List.not_mem_nil,or_false]at h2
 rcases h2 with rfl|rfl|rfl|rfl <;> rfl
def faz:FA:=⟨0,ByteArray.empty,ByteArray.empty,ByteArray.empty⟩
def actsF:List FA→Tb→Dm→Int×Tb×Dm
 | [],T,dm=>(0,T,dm)
 | a::l,T,dm=>if(actF T dm a).1≠0 then actF T dm a else actsF l (actF T dm a).2.1 (actF T dm a).2.2
theorem acts_drop {l:List FA} {k:Nat} {a:FA} (hk:k<l.length) (ha:a=l.getD k faz):l.drop k=a::l.drop (k+1):=by
 rw[yn hk,ha,zc,zd hk];rfl
theorem acts_go {l:List FA} {k:Nat} {a:FA} {T:Tb} {dm:Dm} (hk:k<l.length) (ha:a=l.getD k faz) (h:¬(actF T dm a).1≠0):actsF (l.drop k) T dm=actsF (l.drop (k+1)) (actF T dm a).2.1 (actF T dm a).2.2:=by
 rw[acts_drop hk ha,actsF,if_neg h]
theorem acts_stop {l:List FA} {k:Nat} {a:FA} {T:Tb} {dm:Dm} (hk:k<l.length) (ha:a=l.getD k faz) (h:(actF T dm a).1≠0):actsF (l.drop k) T dm=actF T dm a:=by
 rw[acts_drop hk ha,actsF,if_pos h]
def unl (D:DK) (w:Wr):Bool:=(fltF D w.1 != (0:Int)) || (!(zR D w.1==w.2))
def ulF (D:DK) (l:List Wr):List Wr:=l.filter (unl D)
def ulK (D:DK) (l:List Wr) (k:Nat):List Wr:=(l.take k).filter (unl D)
theorem ul_split {D:DK} {l:List Wr} {k:Nat} (h:k<l.length):ulK D l (k+1)=ulK D l k++[l.getD k wz].filter (unl D):=by
 unfold ulK
 have e:l[k]=l.getD k wz:=by rw[zc,zd h];rfl
 rw[zV h,ja,e]
theorem ul_yes {D:DK} {l:List Wr} {k:Nat} {x:Wr} (h:k<l.length) (hx:x=l.getD k wz) (hp:unl D x=true):ulK D l (k+1)=ulK D l k++[x]:=by
 rw[ul_split h,←hx,qS,if_pos hp];rfl
theorem ul_no {D:DK} {l:List Wr} {k:Nat} {x:Wr} (h:k<l.length) (hx:x=l.getD k wz) (hp:unl D x=false):ulK D l (k+1)=ulK D l k:=by
 rw[ul_split h,←hx,qS,if_neg (by rw[hp];decide)];exact zm _
theorem ul_len (D:DK) (l:List Wr) (k:Nat):(ulK D l k).length≤k:=by
 have h1:=List.length_filter_le (unl D) (l.take k)
 have h2:=List.length_take_le k l
 unfold ulK;omega
theorem ul_all {D:DK} {l:List Wr} {k:Nat} (h:l.length≤k):ulK D l k=ulF D l:=by unfold ulK ulF;rw[yB h]
theorem ulF_w {D:DK} {l:List Wr} (h:WW l):WW (ulF D l):=fun x hx=>h x (qD.1 hx).1
structure Fz where
 num:Nat
 D:DK
 T:Tb
def comF (s:Fz) (T:Tb) (dm:Dm):Int×JS:=yZ ⟨0,s.num,s.D⟩ (ulF s.D (secF T dm))
def doF (s:Fz) (l:List FA):Int×Fz:=
 if l.length=0 then(0,s)else if(actsF l s.T []).1≠0 then((actsF l s.T []).1,s)
 else if(comF s (actsF l s.T []).2.1 (actsF l s.T []).2.2).1≠0 then((comF s (actsF l s.T []).2.1 (actsF l s.T []).2.2).1,⟨(comF s (actsF l s.T []).2.1 (actsF l s.T []).2.2).2.num,(comF s (actsF l s.T []).2.1 (actsF l s.T []).2.2).2.D,s.T⟩)
 else(0,⟨(comF s (actsF l s.T []).2.1 (actsF l s.T []).2.2).2.num,(comF s (actsF l s.T []).2.1 (actsF l s.T []).2.2).2.D,(actsF l s.T []).2.1⟩)
theorem do_none {s:Fz} {l:List FA} (h:l.length=0):doF s l=(0,s):=if_pos h
theorem do_act {s:Fz} {l:List FA} {e:Int} {T:Tb} {dm:Dm} (h:¬l.length=0) (ha:actsF l s.T []=(e,T,dm)) (he:e≠0):doF s l=(e,s):=by
 unfold doF;rw[if_neg h,ha];exact if_pos he
theorem do_com {s:Fz} {l:List FA} {T:Tb} {dm:Dm} {C:Int×JS} (h:¬l.length=0) (ha:actsF l s.T []=(0,T,dm)) (hc:C=comF s T dm) (he:C.1≠0):doF s l=(C.1,⟨C.2.num,C.2.D,s.T⟩):=by
 unfold doF;rw[if_neg h,ha,if_neg (by show ¬(0:Int)≠0;decide)];simp only;rw[←hc];exact if_pos he
theorem do_ok {s:Fz} {l:List FA} {T:Tb} {dm:Dm} {C:Int×JS} (h:¬l.length=0) (ha:actsF l s.T []=(0,T,dm)) (hc:C=comF s T dm) (he:C.1=0):doF s l=(0,⟨C.2.num,C.2.D,T⟩):=by
 unfold doF;rw[if_neg h,ha,if_neg (by show ¬(0:Int)≠0;decide)];simp only;rw[←hc];exact if_neg (fun e=>e he)
structure FOk (z:FM) (T:Tb):Prop where
 tb:TbOk T
 w:WOk T.W
 g:Good z.o T.fr
 sm:SMapOk z.x.1 z.x.2 T.W
theorem shWs_w {ps:List Pl} (hl:ps.length=144) (ho:∀p∈ps,PlOk p) {i:Nat} (hi:i≤24):WW (shWs ps i):=fun x hx=>by
 obtain⟨k,hk,rfl⟩:=zv.1 hx
 exact shd_w hl ho (by have:=qz.1 hk;omega)
theorem keyW_w (T:Tb) (dm:Dm) (k:Int):WW (keyW T dm k):=fun x hx=>by
 obtain⟨j,_,rfl⟩:=zv.1 hx
 exact chunkF_len _ _
theorem secF_w {T:Tb} (h:TbOk T) (dm:Dm):WW (secF T dm):=by
 refine WW.app (shWs_w h.l h.o (zD _)) fun x hx=>?_
 obtain⟨k,_,hk⟩:=List.mem_flatMap.1 hx
 exact keyW_w T dm k x hk
theorem secJ_le {v:BV} {T:Tb} (hb:BOk v T):∀j,j≤v.Dt.length→(secJ T (dmF v.Dt) j).length≤24+64*j
 | 0,_=>by rw[secJ_0,shWs_len];omega
 | j+1,h=>by
  obtain⟨k,d,hkk,hk,hgd,hdm⟩:=key_dt hb.d (j:=j) om
  have h1:=secJ_le hb j om
  have h2:=(hb.d.s d hdm).2
  rw[secJ_next om hkk hgd T,zh,fileW_len]
  have:secs d.2.size≤64:=by unfold secs;omega
  omega
theorem secF_le {v:BV} {T:Tb} (hb:BOk v T):(secF T (dmF v.Dt)).length≤9240:=by
 have h1:=secJ_le hb v.Dt.length (zD _)
 have h2:=hb.d.len
 have e:secJ T (dmF v.Dt) v.Dt.length=secF T (dmF v.Dt):=by unfold secJ secF;rw[yB (by rw[keysF_len];exact zD _)]
 rw[e]at h1;omega
theorem bat_new (bb db tb nr rm:Nat) (o:K.Own) (x:Array MapEntry×Nat) (T:Tb):batO ⟨bb,db,tb,nr,rm⟩ ⟨o,x,(#[],0),[],[]⟩ T=(bb,.cells #[.pointer (some ⟨tb,0,none⟩),.map (some db)] 96 (0,0))::(db,.map #[] 0)::tabO tb nr rm T o x:=by
 unfold batO dsO tabO;rw[zm]
theorem bat_make {bb db tb nr rm:Nat} {o:K.Own} {x:Array MapEntry×Nat} {T:Tb} {F D X:List (Nat×Obj)}:((bb,.cells #[.pointer (some ⟨tb,0,none⟩),.map (some db)] 96 (0,0))::(db,.map #[] 0)::(F++(D++(tabO tb nr rm T o x++X)))).Perm (F++(D++(batO ⟨bb,db,tb,nr,rm⟩ ⟨o,x,(#[],0),[],[]⟩ T++X))):=by
 rw[bat_new]
 have h:=yp [(bb,Obj.cells #[pT tb,.map (some db)] 96 (0,0)),(db,Obj.map #[] 0)] (F++D) (tabO tb nr rm T o x++X)
 simpa only[List.append_assoc,List.cons_append,List.nil_append] using h
theorem bat_tab (z:BM) (v:BV) (T:Tb):(tabO z.tb z.nr z.rm T v.o v.x).Sublist (batO z v T):=.cons _ (.cons _ (.cons_cons _ (.cons_cons _ (qv _ _))))
theorem go_perm (z:FM) (why:Int) (num:Nat) (m:DM) (T:Tb) (D:List (Nat×Obj)):(gO z why num m T++D).Perm ([(z.fb,Obj.cells #[.pointer (some ⟨z.jb,0,none⟩),.pointer (some ⟨z.tb,0,none⟩)] 91 (0,0)),(z.jb,Obj.cells #[.int .i64 why,.pointer (some ⟨m.d,0,none⟩),.int .u64 (num:Int)] 143 (0,0))]++(D++(tabO z.tb z.nr z.rm T z.o z.x++[]))):=by
 rw[zm]
 exact List.Perm.cons _ (List.Perm.cons _ List.perm_append_comm)
theorem com_side {w0 w:World} {M:List Nat} {R L A U T:List (Nat×Obj)} {tab:Nat×Obj} (h:HP w0 M R (L++(A++(U++T))) w) (ht:tab∈R):Has w (tab::U)∧∀e∈tab::U,e.1∉A.map (·.1):=by
 refine⟨fun e he=>?_,fun e he hm=>?_⟩
 ·rcases zq.1 he with rfl|he
  ·exact h.ro _ ht
  exact h.own _ (mR (mR (mL he)))
 obtain⟨e2,h2,h3⟩:=zv.1 hm
 rcases zq.1 he with rfl|he
 ·exact h.away (mR (mL h2)) ht h3
 have hd:=h.dist
 rw[yf,yf,yf]at hd
 exact(y6.1 (y6.1 hd).2.1).2.2 _ (zv.2 ⟨e2,h2,rfl⟩) _ (mL (zv.2 ⟨e,he,rfl⟩)) h3
theorem fDo {N:Nat} (z:FM) (m:DM) (y:MX) (s:Fz) (la:Option Addr) (cap:Nat) (l:List FA) (Rl:List (Nat×Obj)) (t0:TypeId) (fr0:Nat×Nat) (w:World) (hw:Wl N s.D) (hf:FOk z s.T) (hmo:MapOk y.1 y.2 (wv2 s.D.wait)) (hs:0≤s.D.steps∧s.D.steps≤4611686018425000000) (hA:Has w (gO z 0 s.num m s.T++dO s.D m y)) (hd:((gO z 0 s.num m s.T++dO s.D m y).map (·.1)).Nodup) (hI:InF acL 4 Rl la l) (ha:∀a∈l,a.nm.size≤maxLen∧a.t2.size≤maxLen) (hll:l.length≤1000000) (hR:Has w ((1,Obj.cells (wv Kc) t0 fr0)::Rl)) (hnr:∀e∈(1,Obj.cells (wv Kc) t0 fr0)::Rl,e.1∉((gO z 0 s.num m s.T++dO s.D m y).map (·.1))) :
  Calls Tryz.prog 9 #[.pointer (some ⟨z.fb,0,none⟩),.slice la l.length cap] w fun e w'=>∃q:FM×MX,(q.1.fb=z.fb∧FOk q.1 (doF s l).2.T∧MapOk q.2.1 q.2.2 (wv2 (doF s l).2.D.wait)∧Wl N (doF s l).2.D∧s.D.steps≤(doF s l).2.D.steps∧(doF s l).2.D.steps≤s.D.steps+20000)∧e=.returned (.int .i64 (doF s l).1)∧∃R1,HP w ((gO z 0 s.num m s.T++dO s.D m y).map (·.1)) R1 (gO q.1 0 (doF s l).2.num m (doF s l).2.T++dO (doF s l).2.D m q.2) w':=by
 refine enter ((gO z 0 s.num m s.T++dO s.D m y).map (·.1)) ((1,Obj.cells (wv Kc) t0 fr0)::Rl) ([cl z.fb #[pT z.jb,pT z.tb] 91,cl z.jb #[.int .i64 0,pT m.d,.int .u64 (s.num:Int)] 143]++(dO s.D m y++(tabO z.tb z.nr z.rm s.T z.o z.x++[]))) Tryz.func9 rfl kr ((HP.ofL hA hd hR hnr).perm (go_perm _ _ _ _ _ _)) ?_
 refine Rq [0,1] ?_
 refine Bp 1 [] none n0 trivial ?_
 refine Lu (zr (.int .i64 0) rfl Tryz.func24 rfl rfl kr (fun w1 h=>fErr z 0 s.num m y s.D s.T w1 (fun e he=>h.own e ((go_perm _ _ _ _ _ _).mem_iff.1 he)))) ?_
 refine Ld 1 [0,1,5] ?_
 refine Rq [0,1,5,19] ?_
 refine yb rfl (b:=false) kr rfl ?_
 refine Rq [0,1,23] ?_
 refine zX rfl (b:=((l.length:Int)==(0:Int))) kr (fun c2r=>?_) (fun c2r=>?_)
 ·have c2:=(beq_iff_eq.1 c2r)
  refine Rq [4] ?_
  refine Rt [.int .i64 0] (fun w1 hp=>?_)
  have h8:HP w ((gO z 0 s.num m s.T++dO s.D m y).map (·.1)) _ ([(z.fb,Obj.cells #[.pointer (some ⟨z.jb,0,none⟩),.pointer (some ⟨z.tb,0,none⟩)] 91 (0,0)),(z.jb,Obj.cells #[.int .i64 0,.pointer (some ⟨m.d,0,none⟩),.int .u64 (s.num:Int)] 143 (0,0))]++(dO s.D m y++(tabO z.tb z.nr z.rm s.T z.o z.x++[]))) w1:=hp.sub slr
  have h9:=h8.perm (go_perm z 0 s.num m s.T (dO s.D m y)).symm
  rw[do_none om]
  exact⟨(z,y),⟨rfl,hf,hmo,hw,by simp only;omega,by simp only;omega⟩,rfl,_,h9⟩
 have c2:=(beq_eq_false_iff_ne.1 c2r)
 refine Bp 4 [dZ,dZ,dZ,(dS (pT z.tb))] (some [0,1,27]) (fun S=>[(∀w1,S w1→w1.cell? ⟨z.fb,1,none⟩=some (pT z.tb))]) ⟨(oC 0 rfl rfl),trivial⟩ ?_
 refine Le (zY (fun q:Nat×Nat×Nat×K.Own=>pT q.1) [] (fun q=>tabO q.1 q.2.1 q.2.2.1 s.T q.2.2.2 z.x) (fun q=>Good q.2.2.2 s.T.fr) ([cl z.fb #[pT z.jb,pT z.tb] 91,cl z.jb #[.int .i64 0,pT m.d,.int .u64 (s.num:Int)] 143]++dO s.D m y) ((tabO z.tb z.nr z.rm s.T z.o z.x++[])) rfl rfl Tryz.func35 rfl rfl kr (fun w1 h _ _=>fCopied z 0 s.num m y s.D s.T w1 (fun e he=>h.own e ((go_perm _ _ _ _ _ _).mem_iff.1 he)) hf.tb hf.g hf.sm)) ?_
 rintro⟨tb2,nr2,rm2,o2⟩ hg2
 refine Le (Eff.mapNew rfl) ?_
 rintro db ⟨hdb,ndb⟩
 refine qL 1 [(dS (.agg #[pT tb2,.map (some db)]))] (some [0,1,30]) (Γ':=[(30,[],.agg #[pT tb2,.map (some db)]),(0,[],pT z.fb),(1,[],.slice la l.length cap)]) (nd:=(fun S=>[(∀w1,S w1→(Instr.build 96 #[(0,pT tb2),(1,.map (some db))]).run Tryz.prog w1=.ok (.agg #[pT tb2,.map (some db)]) w1)])) kr (fun _=>kr) ⟨(fun w1 _=>kr),trivial⟩ ?_
 refine Le (y7 (v:=.agg #[pT tb2,.map (some db)]) rfl kr) ?_
 rintro bb ⟨hbb,nbb⟩
 refine Ld 1 [0,1,6] ?_
 refine Cfg.permO (O':=([cl z.fb #[pT z.jb,pT z.tb] 91,cl z.jb #[.int .i64 0,pT m.d,.int .u64 (s.num:Int)] 143]++(dO s.D m y++(batO ⟨bb,db,tb2,nr2,rm2⟩ (⟨o2,z.x,(#[],0),[],[]⟩:BV) s.T++(tabO z.tb z.nr z.rm s.T z.o z.x++[]))))) (by exact bat_make (F:=[cl z.fb #[pT z.jb,pT z.tb] 91,cl z.jb #[.int .i64 0,pT m.d,.int .u64 (s.num:Int)] 143]) (D:=dO s.D m y) (X:=(tabO z.tb z.nr z.rm s.T z.o z.x++[]))) ?_
 have hb0:BOk (⟨o2,z.x,(#[],0),[],[]⟩:BV) s.T:=⟨hf.tb,hf.w,hg2,hf.sm,MapOk.empty 0,⟨(fun p hp=>by cases hp),(fun p hp=>by cases hp),(fun d hd=>by cases hd),qX⟩⟩
 refine Rq [0,6,32,33,34] ?_
 refine ye rfl (ι:=Nat×BV×Tb) (fun(k,v,T2)=>[(34,[],iN k),(33,[],iN l.length),(32,[],.slice la l.length cap),(6,[],pT bb),(0,[],pT z.fb)]) (fun(k,v,T2)=>([cl z.fb #[pT z.jb,pT z.tb] 91,cl z.jb #[.int .i64 0,pT m.d,.int .u64 (s.num:Int)] 143]++(dO s.D m y++(batO ⟨bb,db,tb2,nr2,rm2⟩ v T2++(tabO z.tb z.nr z.rm s.T z.o z.x++[]))))) (fun(k,v,T2)=>(k≤l.length)∧(BOk v T2)∧(actsF (l.drop k) T2 (dmF v.Dt)=actsF l s.T [])) (fun(k,v,T2)=>l.length-k) (0,(⟨o2,z.x,(#[],0),[],[]⟩:BV),s.T) ?_ (Conv.mk kr) slr ?_
 ·exact⟨zH _,hb0,rfl⟩
 rintro⟨k,v,T2⟩ ⟨hk,hb,hra⟩
 refine Rq [0,6,32,33,34,35] ?_
 refine eC rfl (p:=((k:Int)<(l.length:Int))) kr (fun c3=>?_) (fun c3=>?_)
 ·obtain⟨sb,off,cs,te,fre,hsb,hmem,hcs⟩:=hI om
  obtain⟨a,hae⟩:∃a,a=l.getD k faz:=⟨_,rfl⟩
  have hasz:=ha a (by rw[hae];exact K.getD_mem om)
  refine zN 32 (show .slice la l.length cap=.slice (some ⟨sb,off,none⟩) l.length cap from by rw[hsb]) ?_
  refine Bp 2 [dZ,(dS (.agg (acC a)))] (some [0,6,32,33,34,37]) (fun S=>[(0≤(k:Int)∧(k:Int)<(l.length:Int)),(∀w1,S w1→(loadVar 34 ⟨sb,(addO off (k*4)),none⟩).run Tryz.prog w1=.ok (.agg (acC a)) w1)]) ⟨om,(fun w1 h=>yw (vs:=acL a) Tryz.underlying34 rfl kr (acL_len _) (fun j v hj=>by rw[y4];exact(zI (h.ro _ (zf _ hmem))).trans (fl_cell faz (fun x _=>acL_len x) hcs om (by rw[←hae];exact hj)))),trivial⟩ ?_
  refine Le (zM (z:=(.agg (acC faz))) rfl kr) ?_
  rintro xb ⟨hxb,nxb⟩
  refine Lu (zC (b:=xb) (off:=0) (vs:=(acC a)) (n:=4) rfl kr kr kr rfl (acL_all _) 0 (cs:=(acC faz)) (e:=34) kr (zD 4)) ?_
  refine yF (congrArg (fun(xq:Array Value)=>(([cl xb xq 34,cl z.fb #[pT z.jb,pT z.tb] 91,cl z.jb #[.int .i64 0,pT m.d,.int .u64 (s.num:Int)] 143]++(dO s.D m y++(batO ⟨bb,db,tb2,nr2,rm2⟩ v T2++(tabO z.tb z.nr z.rm s.T z.o z.x++[])))):LO)) (show _=(acC a) from(show spl (acC faz) 0 (acC a).toList=acC a from yx rfl))) ?_
  refine zg rfl ?_
  refine Cg (Γ':=[(8,[],pT xb),(34,[],iN k),(33,[],iN l.length),(32,[],sP sb off l.length cap),(6,[],pT bb),(0,[],pT z.fb)]) ?_
  refine Bp 2 [dZ,(dS (.agg (acC a)))] (some [0,6,32,33,34,38,39]) (fun S=>[(lV S 34 xb 0 (.agg (acC a)))]) ⟨(fun w1 h=>h.oload 0 rfl Tryz.underlying34 rfl (n:=4) kr rfl),trivial⟩ ?_
  refine Le (zY (fun _:BV=>.int .i64 ((actF T2 (dmF v.Dt) a).1)) (batO ⟨bb,db,tb2,nr2,rm2⟩ v T2) (fun v2=>batO ⟨bb,db,tb2,nr2,rm2⟩ v2 (actF T2 (dmF v.Dt) a).2.1) (fun v2=>BOk v2 (actF T2 (dmF v.Dt) a).2.1∧dmF v2.Dt=(actF T2 (dmF v.Dt) a).2.2) ([cl xb (acC a) 34,cl z.fb #[pT z.jb,pT z.tb] 91,cl z.jb #[.int .i64 0,pT m.d,.int .u64 (s.num:Int)] 143]++(dO s.D m y)) (tabO z.tb z.nr z.rm s.T z.o z.x++[]) rfl rfl Tryz.func36 rfl rfl kr (fun w1 h hA1 hd1=>fAct ⟨bb,db,tb2,nr2,rm2⟩ v T2 a w1 hA1 hd1 hb hasz)) ?_
  rintro v2 ⟨hv2,hdm2⟩
  refine Ld 1 [0,6,9,32,33,34] ?_
  refine Rq [0,6,9,32,33,34,42] ?_
  refine zX rfl (b:=(((actF T2 (dmF v.Dt) a).1) != (0:Int))) kr (fun c4r=>?_) (fun c4r=>?_)
  ·have c4:=(bne_iff_ne.1 c4r)
   refine Rq [4] ?_
   refine Rt [.int .i64 ((actF T2 (dmF v.Dt) a).1)] (fun w1 hp=>?_)
   have h8:HP w ((gO z 0 s.num m s.T++dO s.D m y).map (·.1)) _ ([(z.fb,Obj.cells #[.pointer (some ⟨z.jb,0,none⟩),.pointer (some ⟨z.tb,0,none⟩)] 91 (0,0)),(z.jb,Obj.cells #[.int .i64 0,.pointer (some ⟨m.d,0,none⟩),.int .u64 (s.num:Int)] 143 (0,0))]++(dO s.D m y++(tabO z.tb z.nr z.rm s.T z.o z.x++[]))) w1:=hp.sub (.cons _ (.cons_cons _ (.cons_cons _ (show List.Sublist (dO s.D m y++(tabO z.tb z.nr z.rm s.T z.o z.x++[])) (dO s.D m y++(batO ⟨bb,db,tb2,nr2,rm2⟩ v2 ((actF T2 (dmF v.Dt) a).2.1)++(tabO z.tb z.nr z.rm s.T z.o z.x++[]))) from(List.Sublist.append (zQ (dO s.D m y)) (zE (List.Sublist.append (zQ (tabO z.tb z.nr z.rm s.T z.o z.x)) (zz _)) (zj (batO ⟨bb,db,tb2,nr2,rm2⟩ v2 ((actF T2 (dmF v.Dt) a).2.1)) _)))))))
   have h9:=h8.perm (go_perm z 0 s.num m s.T (dO s.D m y)).symm
   rw[do_act (s:=s) om (hra.symm.trans (acts_stop om hae c4)) c4]
   exact⟨(z,y),⟨rfl,hf,hmo,hw,by simp only;omega,by simp only;omega⟩,rfl,_,h9⟩
  have c4:=(bne_eq_false_iff_eq.1 c4r)
  refine Rg [0,6,32,33,34] [] (fun _=>[(i6 ((k:Int)+1))]) ⟨om,trivial⟩ ?_
  refine zN 32 (show .slice (some ⟨sb,off,none⟩) l.length cap=.slice la l.length cap from by rw[hsb]) ?_
  refine zG rfl (k+1,v2,(actF T2 (dmF v.Dt) a).2.1) ⟨by omega,hv2,by rw[hdm2];exact(acts_go om hae (fun e=>e c4)).symm.trans hra⟩ (by show l.length-(k+1)<l.length-k;omega) (Conv.mk kr) (.cons _ slr)
 refine Rq [0,6,10] ?_
 have hact:actsF l s.T []=(0,T2,dmF v.Dt):=by rw[←hra,qe om];rfl
 obtain⟨W,hW⟩:∃W,W=secF T2 (dmF v.Dt):=⟨_,rfl⟩
 have hWw:WW W:=by rw[hW];exact secF_w hb.tb _
 have hWl:W.length≤9240:=by rw[hW];exact secF_le hb
 refine Bp 1 [] none n0 trivial ?_
 refine Le (zY (vs:=[pT bb]) (fun o:K.Own=>sO o W.length) [] (fun o=>Own.o 101 (jv W) o) (fun o=>OwnOk o 513 W.length (jv W)) ([cl z.fb #[pT z.jb,pT z.tb] 91,cl z.jb #[.int .i64 0,pT m.d,.int .u64 (s.num:Int)] 143]++dO s.D m y) ((batO ⟨bb,db,tb2,nr2,rm2⟩ v T2++(tabO z.tb z.nr z.rm s.T z.o z.x++[]))) rfl rfl Tryz.func37 rfl rfl kr (fun w1 h _ _=>by have h9:=fSectors ⟨bb,db,tb2,nr2,rm2⟩ v T2 w1 (fun e he=>h.own e (show _∈(([cl z.fb #[pT z.jb,pT z.tb] 91,cl z.jb #[.int .i64 0,pT m.d,.int .u64 (s.num:Int)] 143]++(dO s.D m y++(batO ⟨bb,db,tb2,nr2,rm2⟩ v T2++(tabO z.tb z.nr z.rm s.T z.o z.x++[])))):LO) from(mR (mR (mL he))))) hb;rw[←hW]at h9;exact h9)) ?_
 rintro ws hws
 refine Ld 2 [0,6,10,46,47,48] ?_
 refine ye rfl (ι:=Nat×K.Own) (fun(q,un)=>[(48,[],iN q),(47,[],iN W.length),(46,[],sO ws W.length),(10,[],sO un ((ulK s.D W q).length)),(6,[],pT bb),(0,[],pT z.fb)]) (fun(q,un)=>([cl z.fb #[pT z.jb,pT z.tb] 91,cl z.jb #[.int .i64 0,pT m.d,.int .u64 (s.num:Int)] 143]++(dO s.D m y++(Own.o 101 (jv (ulK s.D W q)) un++(Own.o 101 (jv W) ws++(batO ⟨bb,db,tb2,nr2,rm2⟩ v T2++(tabO z.tb z.nr z.rm s.T z.o z.x++[]))))))) (fun(q,un)=>(q≤W.length)∧(OwnOk un 513 (ulK s.D W q).length (jv (ulK s.D W q)))) (fun(q,un)=>W.length-q) (0,none) ?_ (Conv.mk kr) slr ?_
 ·exact⟨zH _,OwnOk.none _⟩
 rintro⟨q,un⟩ ⟨hq,hun⟩
 refine Rq [0,6,10,46,47,48,49] ?_
 refine eC rfl (p:=((q:Int)<(W.length:Int))) kr (fun c5=>?_) (fun c5=>?_)
 ·obtain⟨sb,off,cs,te,fre,hsb,hmem,hcs⟩:=inW_own1 (e:=101) hws om
  obtain⟨wq,hwq⟩:∃x,x=W.getD q wz:=⟨_,rfl⟩
  have hql:wq.2.length=512:=by rw[hwq];exact hWw.at q
  have hule:=ul_len s.D W q
  refine zN 46 (show .slice (Own.a ws) W.length (Own.c ws)=.slice (some ⟨sb,off,none⟩) W.length (Own.c ws)from by rw[hsb]) ?_
  refine Bp 2 [dZ,(dS (.agg (jc wq).toArray))] (some [0,6,10,46,47,48,51]) (fun S=>[(0≤(q:Int)∧(q:Int)<(W.length:Int)),(∀w1,S w1→(loadVar 101 ⟨sb,(addO off (q*513)),none⟩).run Tryz.prog w1=.ok (.agg (jc wq).toArray) w1)]) ⟨om,(fun w1 h=>yw Tryz.underlying101 rfl kr (yl hql) (fun j v9 hj=>by rw[y4];exact(zI (h.own _ (show _∈(([(z.fb,Obj.cells #[.pointer (some ⟨z.jb,0,none⟩),.pointer (some ⟨z.tb,0,none⟩)] 91 (0,0)),(z.jb,Obj.cells #[.int .i64 0,.pointer (some ⟨m.d,0,none⟩),.int .u64 (s.num:Int)] 143 (0,0))]++(dO s.D m y++(Own.o 101 (jv (ulK s.D W q)) un++(Own.o 101 (jv W) ws++(batO ⟨bb,db,tb2,nr2,rm2⟩ v T2++(tabO z.tb z.nr z.rm s.T z.o z.x++[])))))):LO) from(mR (mR (mR (mL hmem))))))).trans (wr_cell hWw hcs om (by rw[←hwq];exact hj)))),trivial⟩ ?_
  refine Le (zM (z:=(.agg (jc wz).toArray)) rfl kr) ?_
  rintro wb ⟨hwb,nwb⟩
  refine Lu (zC (b:=wb) (off:=0) (vs:=(jc wq).toArray) (n:=513) rfl kr kr kr (by rw[zp,yl hql]) (jc_all _) 0 (cs:=(jc wz).toArray) (e:=101) kr (by show 0+513≤(jc wz).toArray.size;rw[zp,yl qA];decide)) ?_
  refine yF (congrArg (fun(xq:Array Value)=>(([cl wb xq 101,cl z.fb #[pT z.jb,pT z.tb] 91,cl z.jb #[.int .i64 0,pT m.d,.int .u64 (s.num:Int)] 143]++(dO s.D m y++(Own.o 101 (jv (ulK s.D W q)) un++(Own.o 101 (jv W) ws++(batO ⟨bb,db,tb2,nr2,rm2⟩ v T2++(tabO z.tb z.nr z.rm s.T z.o z.x++[])))))):LO)) (show _=((jc wq).toArray)from yx (by rw[zp,zp,yl hql];exact(yl qA).symm))) ?_
  refine zg rfl ?_
  refine Cg (Γ':=[(12,[],pT wb),(48,[],iN q),(47,[],iN W.length),(46,[],sP sb off W.length (Own.c ws)),(10,[],sO un ((ulK s.D W q).length)),(6,[],pT bb),(0,[],pT z.fb)]) ?_
  refine yo rfl kr ([cl wb ((jc wq).toArray) 101,cl z.fb #[pT z.jb,pT z.tb] 91,cl z.jb #[.int .i64 0,pT m.d,.int .u64 (s.num:Int)] 143]++(dO s.D m y++(Own.o 101 (jv (ulK s.D W q)) un++(Own.o 101 (jv W) ws++(batO ⟨bb,db,tb2,nr2,rm2⟩ v T2++(tabO z.tb z.nr z.rm s.T z.o z.x++[])))))) ?_
  refine CfgA.join (ι:=Nat) (fun(hb2:Nat)=>([cl hb2 (bv (zR s.D wq.1)) 37,cl wb ((jc wq).toArray) 101,cl z.fb #[pT z.jb,pT z.tb] 91,cl z.jb #[.int .i64 0,pT m.d,.int .u64 (s.num:Int)] 143]++(dO s.D m y++(Own.o 101 (jv (ulK s.D W q)) un++(Own.o 101 (jv W) ws++(batO ⟨bb,db,tb2,nr2,rm2⟩ v T2++(tabO z.tb z.nr z.rm s.T z.o z.x++[]))))))) (fun(hb2:Nat)=>[(14,[],.int .i64 (fltF s.D wq.1)),(13,[],pT hb2),(12,[],pT wb),(48,[],iN q),(47,[],iN W.length),(46,[],sP sb off W.length (Own.c ws)),(10,[],sO un ((ulK s.D W q).length)),(6,[],pT bb),(0,[],pT z.fb)]) ?_ ?_
  ·rintro hb2
   refine Rg [0,6,10,12,46,47,48,69] [dZ,dZ,dZ,(dS (.agg (bv (zR s.D wq.1)))),dZ,(dS (.agg (bv wq.2))),(dS (.bool ((zR s.D wq.1)==wq.2)))] (fun S=>[((.bool ((fltF s.D wq.1) != (0:Int)):Value)=.bool false→(∀w1,S w1→(loadVar 37 ⟨hb2,0,none⟩).run Tryz.prog w1=.ok (.agg (bv (zR s.D wq.1))) w1)),((.bool ((fltF s.D wq.1) != (0:Int)):Value)=.bool false→(∀w1,S w1→(loadVar 37 ⟨wb,1,none⟩).run Tryz.prog w1=.ok (.agg (bv wq.2)) w1)),((.bool ((fltF s.D wq.1) != (0:Int)):Value)=.bool false→(∀w1,S w1→(Op.equal 37 (.agg (bv (zR s.D wq.1))) (.agg (bv wq.2))).run Tryz.prog w1=.ok ((zR s.D wq.1)==wq.2) w1))]) ⟨(fun g0=>have q0:((fltF s.D wq.1)=(0:Int)):=(bne_eq_false_iff_eq.1 (boolV g0));(fun w1 h=>h.oload 0 rfl Tryz.underlying37 rfl (n:=512) kr ((zP _).trans (yO hw.g _)))),(fun g0=>have q0:((fltF s.D wq.1)=(0:Int)):=(bne_eq_false_iff_eq.1 (boolV g0));(fun w1 h=>load_bytes Tryz.underlying37 rfl kr hql (fun j hj=>by rw[zI (h.own (wb,Obj.cells (jc wq).toArray 101 (0,0)) (mL (mG 1 rfl))),zo];exact jc_byte hql hj))),(fun g0=>have q0:((fltF s.D wq.1)=(0:Int)):=(bne_eq_false_iff_eq.1 (boolV g0));(fun _ _=>equal_bv Tryz.underlying37 Tryz.underlying5 kr (yO hw.g _) hql)),trivial⟩ ?_
   refine zX rfl (b:=(((fltF s.D wq.1) != (0:Int)) || (!((zR s.D wq.1)==wq.2)))) kr (fun c6r=>?_) (fun c6r=>?_)
   ·have c6:(((fltF s.D wq.1)≠(0:Int))∨(((zR s.D wq.1)==wq.2)=false)):=((orT c6r).elim (fun h=>Or.inl (bne_iff_ne.1 h)) (fun h=>Or.inr (notT h)))
    refine Bp 2 [dZ,(dS (.agg (jc wq).toArray))] (some [0,6,10,46,47,48,70,71]) (fun S=>[(∀w1,S w1→(loadVar 101 ⟨wb,0,none⟩).run Tryz.prog w1=.ok (.agg (jc wq).toArray) w1)]) ⟨(fun w1 h=>yw Tryz.underlying101 rfl kr (yl hql) (fun k v hv=>by rw[zF];exact h.ocell 1 rfl (by rw[zo];exact hv))),trivial⟩ ?_
    refine Le (yR (vs:=(jc wq).toArray) (n:=513) rfl kr Tryz.underlying98 kr (z:=(.agg (jc wz).toArray)) kr (by rw[zp];exact yl hql) (by decide) (by decide)) ?_
    rintro sb2 ⟨hsb2,nsb2⟩
    refine Le (y8 rfl 513 520 Tryz.underlying98 kr (z:=(.agg (jc wz).toArray)) kr kr un (xs:=(jv (ulK s.D W q))) hun kr (b2:=sb2) (off2:=0) (m:=1) (c2:=1) kr (jc wq) (yl hql) (jc_all _) ([(sb2,.cells ((jc wq).toArray) 101 (0,0)),(hb2,.cells (bv (zR s.D wq.1)) 37 (0,0)),(wb,.cells ((jc wq).toArray) 101 (0,0)),(z.fb,.cells #[.pointer (some ⟨z.jb,0,none⟩),.pointer (some ⟨z.tb,0,none⟩)] 91 (0,0)),(z.jb,.cells #[.int .i64 0,.pointer (some ⟨m.d,0,none⟩),.int .u64 (s.num:Int)] 143 (0,0))]++dO s.D m y) ([]++(Own.o 101 (jv W) ws++(batO ⟨bb,db,tb2,nr2,rm2⟩ v T2++(tabO z.tb z.nr z.rm s.T z.o z.x++[])))) (by rfl) (fun w1 h j v hj=>by rw[zF];exact h.ocell 0 rfl (by rw[zo];exact hj)) om om) ?_
    rintro o5 ko5
    refine Ld 1 [0,6,10,46,47,48] ?_
    refine Rg [0,6,10,46,47,48] [] (fun _=>[(i6 ((q:Int)+1))]) ⟨om,trivial⟩ ?_
    have hul:=ul_yes om hwq c6r
    refine zU (congrArg (fun(xq:List Value)=>(([(sb2,.cells ((jc wq).toArray) 101 (0,0)),(hb2,.cells (bv (zR s.D wq.1)) 37 (0,0)),(wb,.cells ((jc wq).toArray) 101 (0,0)),(z.fb,.cells #[.pointer (some ⟨z.jb,0,none⟩),.pointer (some ⟨z.tb,0,none⟩)] 91 (0,0)),(z.jb,.cells #[.int .i64 0,.pointer (some ⟨m.d,0,none⟩),.int .u64 (s.num:Int)] 143 (0,0))]++(dO s.D m y++(Own.o 101 xq o5++(Own.o 101 (jv W) ws++(batO ⟨bb,db,tb2,nr2,rm2⟩ v T2++(tabO z.tb z.nr z.rm s.T z.o z.x++[])))))):LO)) (show _=(jv (ulK s.D W (q+1)))from by rw[hul,jv_app,jv_one])) ?_
    refine zN 46 (show .slice (some ⟨sb,off,none⟩) W.length (Own.c ws)=.slice (Own.a ws) W.length (Own.c ws)from by rw[hsb]) ?_
    refine zN 10 (congrArg (fun(xq:Nat)=>(.slice (Own.a o5) xq (Own.c o5):Value)) (show(((ulK s.D W q).length+1))=((ulK s.D W (q+1)).length)from by rw[hul,zh];rfl)) ?_
    refine zG rfl (q+1,o5) ⟨by omega,by rw[hul,zh,jv_app,jv_one];exact ko5⟩ (by show W.length-(q+1)<W.length-q;omega) (Conv.mk kr) (.cons _ (.cons _ (.cons _ slr)))
   have c6:(((fltF s.D wq.1)=(0:Int))∧(((zR s.D wq.1)==wq.2)=true)):=⟨(bne_eq_false_iff_eq.1 (orF1 c6r)),(notF (orF2 c6r))⟩
   refine Rg [0,6,10,46,47,48] [] (fun _=>[(i6 ((q:Int)+1))]) ⟨om,trivial⟩ ?_
   have hul:=ul_no om hwq c6r
   refine zU (congrArg (fun(xq:List Value)=>(([(hb2,.cells (bv (zR s.D wq.1)) 37 (0,0)),(wb,.cells ((jc wq).toArray) 101 (0,0)),(z.fb,.cells #[.pointer (some ⟨z.jb,0,none⟩),.pointer (some ⟨z.tb,0,none⟩)] 91 (0,0)),(z.jb,.cells #[.int .i64 0,.pointer (some ⟨m.d,0,none⟩),.int .u64 (s.num:Int)] 143 (0,0))]++(dO s.D m y++(Own.o 101 xq un++(Own.o 101 (jv W) ws++(batO ⟨bb,db,tb2,nr2,rm2⟩ v T2++(tabO z.tb z.nr z.rm s.T z.o z.x++[])))))):LO)) (show _=(jv (ulK s.D W (q+1)))from by rw[hul])) ?_
   refine zN 46 (show .slice (some ⟨sb,off,none⟩) W.length (Own.c ws)=.slice (Own.a ws) W.length (Own.c ws)from by rw[hsb]) ?_
   refine zN 10 (congrArg (fun(xq:Nat)=>(.slice (Own.a un) xq (Own.c un):Value)) (show((ulK s.D W q).length)=((ulK s.D W (q+1)).length)from by rw[hul])) ?_
   refine zG rfl (q+1,un) ⟨by omega,by rw[hul];exact hun⟩ (by show W.length-(q+1)<W.length-q;omega) (Conv.mk kr) (.cons _ (.cons _ slr))
  intro hj
  refine CfgA.pure [0,1,2,3,4,5] [dZ,dZ,dZ,(dS (pT z.jb)),dZ,(dS (.int .i64 wq.1))] (some [0,6,10,12,46,47,48,56,58]) (l':=tF 6 7) kr kr slr 7 rfl (Γ':=[(58,[],.int .i64 wq.1),(56,[],pT z.jb),(12,[],pT wb),(48,[],iN q),(47,[],iN W.length),(46,[],sP sb off W.length (Own.c ws)),(10,[],sO un ((ulK s.D W q).length)),(6,[],pT bb),(0,[],pT z.fb)]) (nd:=(fun S=>[(∀w1,S w1→w1.cell? ⟨z.fb,0,none⟩=some (pT z.jb)),(cE S wb 0 (.int .i64 wq.1))])) (fun _=>kr) ⟨(oC 1 rfl rfl),(oC 0 rfl rfl),trivial⟩ ?_
  refine CfgA.two 6 10 kr (fuel':=6) rfl ?_ ?_
  ·
   refine Iu rfl  (zr (vs:=[pT z.jb,.int .i64 wq.1]) (.tuple #[.agg (bv (zR s.D wq.1)),.int .i64 (fltF s.D wq.1)]) rfl Tryz.func33 rfl rfl kr (fun w1 h=>by have h9:=jRead z.jb 0 s.num m y s.D wq.1 w1 hw.g hmo (fun e he=>(zq.1 he).elim (fun h1=>h1▸(h.own (cl z.jb #[.int .i64 0,pT m.d,.int .u64 (s.num:Int)] 143) (show(cl z.jb #[.int .i64 0,pT m.d,.int .u64 (s.num:Int)] 143)∈([cl wb ((jc wq).toArray) 101,cl z.fb #[pT z.jb,pT z.tb] 91,cl z.jb #[.int .i64 0,pT m.d,.int .u64 (s.num:Int)] 143]++(dO s.D m y++(Own.o 101 (jv (ulK s.D W q)) un++(Own.o 101 (jv W) ws++(batO ⟨bb,db,tb2,nr2,rm2⟩ v T2++(tabO z.tb z.nr z.rm s.T z.o z.x++[])))))) from(mL (mG 2 rfl))))) (fun h1=>h.own e (show _∈(([cl wb ((jc wq).toArray) 101,cl z.fb #[pT z.jb,pT z.tb] 91,cl z.jb #[.int .i64 0,pT m.d,.int .u64 (s.num:Int)] 143]++(dO s.D m y++(Own.o 101 (jv (ulK s.D W q)) un++(Own.o 101 (jv W) ws++(batO ⟨bb,db,tb2,nr2,rm2⟩ v T2++(tabO z.tb z.nr z.rm s.T z.o z.x++[])))))):LO) from(mR (mL h1)))));rw[if_neg (by decide),if_neg (by decide)]at h9;exact h9)) (fun _ _=>slr) ?_
   refine Ap [7,8,9] [] (some [0,6,10,12,46,47,48,60,61]) (tF 10 3) slr 3 n0 trivial ?_
   refine Ae 10 rfl 2  (zM (z:=(.agg (bv (replicate 512 0)))) rfl kr) (fun _ _=>(.cons _ slr)) ?_
   rintro hb2 ⟨hhb2,nhb2⟩
   refine Au 11 rfl 1  (zC (b:=hb2) (off:=0) (vs:=(bv (zR s.D wq.1))) (n:=512) rfl kr kr kr ((zP _).trans (yO hw.g _)) (qF _) 0 (cs:=(bv (replicate 512 0))) (e:=37) kr (by rw[zsz512];omega)) (fun _ _=>(.cons _ slr)) ?_
   refine CfgA.setO (congrArg (fun(xq:Array Value)=>(([cl hb2 xq 37,cl wb ((jc wq).toArray) 101,cl z.fb #[pT z.jb,pT z.tb] 91,cl z.jb #[.int .i64 0,pT m.d,.int .u64 (s.num:Int)] 143]++(dO s.D m y++(Own.o 101 (jv (ulK s.D W q)) un++(Own.o 101 (jv W) ws++(batO ⟨bb,db,tb2,nr2,rm2⟩ v T2++(tabO z.tb z.nr z.rm s.T z.o z.x++[])))))):LO)) (show _=(bv (zR s.D wq.1))from yx (((zP _).trans (yO hw.g _)).trans zsz512.symm))) ?_
   refine Ap [12] [] (some [0,6,10,12,13,14,46,47,48]) (tF 13 0) (.cons _ slr) 0 n0 trivial ?_
   refine z6 kr ?_
   refine Cg (Γ':=[(14,[],.int .i64 (fltF s.D wq.1)),(13,[],pT hb2),(12,[],pT wb),(48,[],iN q),(47,[],iN W.length),(46,[],sP sb off W.length (Own.c ws)),(10,[],sO un ((ulK s.D W q).length)),(6,[],pT bb),(0,[],pT z.fb)]) ?_
   exact hj hb2
  
  refine Ie rfl  (zM (z:=(.agg (bv (replicate 512 0)))) rfl kr) (fun _ _=>(.cons _ slr)) ?_
  rintro hb2 ⟨hhb2,nhb2⟩
  refine Au 6 rfl 5  (zr (vs:=[pT z.jb,.int .i64 wq.1]) (.tuple #[.agg (bv (zR s.D wq.1)),.int .i64 (fltF s.D wq.1)]) rfl Tryz.func33 rfl rfl kr (fun w1 h=>by have h9:=jRead z.jb 0 s.num m y s.D wq.1 w1 hw.g hmo (fun e he=>(zq.1 he).elim (fun h1=>h1▸(h.own (cl z.jb #[.int .i64 0,pT m.d,.int .u64 (s.num:Int)] 143) (show(cl z.jb #[.int .i64 0,pT m.d,.int .u64 (s.num:Int)] 143)∈([cl hb2 (bv (replicate 512 0)) 37,cl wb ((jc wq).toArray) 101,cl z.fb #[pT z.jb,pT z.tb] 91,cl z.jb #[.int .i64 0,pT m.d,.int .u64 (s.num:Int)] 143]++(dO s.D m y++(Own.o 101 (jv (ulK s.D W q)) un++(Own.o 101 (jv W) ws++(batO ⟨bb,db,tb2,nr2,rm2⟩ v T2++(tabO z.tb z.nr z.rm s.T z.o z.x++[])))))) from(mL (mG 3 rfl))))) (fun h1=>h.own e (show _∈(([cl hb2 (bv (replicate 512 0)) 37,cl wb ((jc wq).toArray) 101,cl z.fb #[pT z.jb,pT z.tb] 91,cl z.jb #[.int .i64 0,pT m.d,.int .u64 (s.num:Int)] 143]++(dO s.D m y++(Own.o 101 (jv (ulK s.D W q)) un++(Own.o 101 (jv W) ws++(batO ⟨bb,db,tb2,nr2,rm2⟩ v T2++(tabO z.tb z.nr z.rm s.T z.o z.x++[])))))):LO) from(mR (mL h1)))));rw[if_neg (by decide),if_neg (by decide)]at h9;exact h9)) (fun _ _=>(.cons _ slr)) ?_
  refine Ap [7,8,9] [] (some [0,6,10,12,13,46,47,48,60,61]) (tF 11 2) (.cons _ slr) 2 n0 trivial ?_
  refine Au 11 rfl 1  (zC (b:=hb2) (off:=0) (vs:=(bv (zR s.D wq.1))) (n:=512) rfl kr kr kr ((zP _).trans (yO hw.g _)) (qF _) 0 (cs:=(bv (replicate 512 0))) (e:=37) kr (by rw[zsz512];omega)) (fun _ _=>(.cons _ slr)) ?_
  refine CfgA.setO (congrArg (fun(xq:Array Value)=>(([cl hb2 xq 37,cl wb ((jc wq).toArray) 101,cl z.fb #[pT z.jb,pT z.tb] 91,cl z.jb #[.int .i64 0,pT m.d,.int .u64 (s.num:Int)] 143]++(dO s.D m y++(Own.o 101 (jv (ulK s.D W q)) un++(Own.o 101 (jv W) ws++(batO ⟨bb,db,tb2,nr2,rm2⟩ v T2++(tabO z.tb z.nr z.rm s.T z.o z.x++[])))))):LO)) (show _=(bv (zR s.D wq.1))from yx (((zP _).trans (yO hw.g _)).trans zsz512.symm))) ?_
  refine Ap [12] [] (some [0,6,10,12,13,14,46,47,48]) (tF 13 0) (.cons _ slr) 0 n0 trivial ?_
  refine z6 kr ?_
  refine Cg (Γ':=[(14,[],.int .i64 (fltF s.D wq.1)),(13,[],pT hb2),(12,[],pT wb),(48,[],iN q),(47,[],iN W.length),(46,[],sP sb off W.length (Own.c ws)),(10,[],sO un ((ulK s.D W q).length)),(6,[],pT bb),(0,[],pT z.fb)]) ?_
  exact hj hb2
 obtain⟨U,hU⟩:∃U,U=ulF s.D W:=⟨_,rfl⟩
 have hUq:(ulK s.D W q)=U:=by rw[hU];exact ul_all om
 have hUw:WW U:=by rw[hU];exact ulF_w hWw
 rw[hUq]at hun
 have hUl:U.length≤100000:=by rw[←hUq];have:=ul_len s.D W q;omega
 obtain⟨C,hC⟩:∃C,C=yZ ⟨0,s.num,s.D⟩ U:=⟨_,rfl⟩
 have hCw:C.2.why=0:=by rw[hC];exact(hw.commit rfl hUw).1
 have hCd:Wl N C.2.D:=by rw[hC];exact(hw.commit rfl hUw).2
 have hCs:s.D.steps≤C.2.D.steps∧C.2.D.steps≤s.D.steps+20000:=by
  have h8:=commit_steps ⟨0,s.num,s.D⟩ U
  rw[←hC]at h8
  have h7:=ul_len s.D W q
  rw[hUq]at h7
  simp only at h8
  omega
 have hCc:C=comF s T2 (dmF v.Dt):=by rw[hC,hU,hW];rfl
 refine zN 10 (congrArg (fun(xq:Nat)=>(.slice (Own.a un) xq (Own.c un):Value)) (show((ulK s.D W q).length)=U.length from by rw[hUq])) ?_
 refine zU (congrArg (fun(xq:List Value)=>(([(z.fb,.cells #[.pointer (some ⟨z.jb,0,none⟩),.pointer (some ⟨z.tb,0,none⟩)] 91 (0,0)),(z.jb,.cells #[.int .i64 0,.pointer (some ⟨m.d,0,none⟩),.int .u64 (s.num:Int)] 143 (0,0))]++(dO s.D m y++(Own.o 101 xq un++(Own.o 101 (jv W) ws++(batO ⟨bb,db,tb2,nr2,rm2⟩ v T2++(tabO z.tb z.nr z.rm s.T z.o z.x++[])))))):LO)) (show _=(jv U)from by rw[hUq])) ?_
 refine Bp 5 [dZ,dZ,dZ,(dS (pT z.jb))] (some [0,6,78,79]) (fun S=>[(∀w1,S w1→w1.cell? ⟨z.fb,0,none⟩=some (pT z.jb))]) ⟨(oC 0 rfl rfl),trivial⟩ ?_
 refine Le (zY (vs:=[pT z.jb,sO un U.length]) (fun _:MX=>.int .i64 C.1) ((cl z.jb #[.int .i64 0,pT m.d,.int .u64 (s.num:Int)] 143)::dO s.D m y) (fun x2=>(cl z.jb #[.int .i64 0,pT m.d,.int .u64 (C.2.num:Int)] 143)::dO C.2.D m x2) (fun x2=>MapOk x2.1 x2.2 (wv2 C.2.D.wait)) [cl z.fb #[pT z.jb,pT z.tb] 91] ((Own.o 101 (jv U) un++(Own.o 101 (jv W) ws++(batO ⟨bb,db,tb2,nr2,rm2⟩ v T2++(tabO z.tb z.nr z.rm s.T z.o z.x++[]))))) rfl rfl Tryz.func38 rfl rfl kr (fun w1 h hA1 hd1=>by have h9:=jCommit z.jb 0 s.num m y s.D (Own.a un) (Own.c un) U (Own.o 101 (jv U) un) t0 fr0 w1 hw.g hmo hA1 hd1 (inW_own1 hun) hUw hUl hs (com_side (L:=[cl z.fb #[pT z.jb,pT z.tb] 91]) (A:=(cl z.jb #[.int .i64 0,pT m.d,.int .u64 (s.num:Int)] 143)::dO s.D m y) (U:=(Own.o 101 (jv U) un)) (T:=(Own.o 101 (jv W) ws++(batO ⟨bb,db,tb2,nr2,rm2⟩ v T2++(tabO z.tb z.nr z.rm s.T z.o z.x++[])))) h mH).1 (com_side (L:=[cl z.fb #[pT z.jb,pT z.tb] 91]) (A:=(cl z.jb #[.int .i64 0,pT m.d,.int .u64 (s.num:Int)] 143)::dO s.D m y) (U:=(Own.o 101 (jv U) un)) (T:=(Own.o 101 (jv W) ws++(batO ⟨bb,db,tb2,nr2,rm2⟩ v T2++(tabO z.tb z.nr z.rm s.T z.o z.x++[])))) h mH).2;rw[←hC,hCw]at h9;exact h9)) ?_
 rintro y2 hy2
 refine Ld 1 [0,6,15] ?_
 refine Rq [0,6,15,82] ?_
 refine zX rfl (b:=(C.1 != (0:Int))) kr (fun c7r=>?_) (fun c7r=>?_)
 ·have c7:=(bne_iff_ne.1 c7r)
  refine Rq [4] ?_
  refine Rt [.int .i64 C.1] (fun w1 hp=>?_)
  have h8:HP w ((gO z 0 s.num m s.T++dO s.D m y).map (·.1)) _ ([(z.fb,Obj.cells #[.pointer (some ⟨z.jb,0,none⟩),.pointer (some ⟨z.tb,0,none⟩)] 91 (0,0)),(z.jb,Obj.cells #[.int .i64 0,.pointer (some ⟨m.d,0,none⟩),.int .u64 (C.2.num:Int)] 143 (0,0))]++(dO C.2.D m y2++(tabO z.tb z.nr z.rm s.T z.o z.x++[]))) w1:=hp.sub (.cons_cons _ (.cons_cons _ (show List.Sublist (dO C.2.D m y2++(tabO z.tb z.nr z.rm s.T z.o z.x++[])) (dO C.2.D m y2++(Own.o 101 (jv U) un++(Own.o 101 (jv W) ws++(batO ⟨bb,db,tb2,nr2,rm2⟩ v T2++(tabO z.tb z.nr z.rm s.T z.o z.x++[]))))) from(List.Sublist.append (zQ (dO C.2.D m y2)) (zE (zE (zE (List.Sublist.append (zQ (tabO z.tb z.nr z.rm s.T z.o z.x)) (zz _)) (zj (batO ⟨bb,db,tb2,nr2,rm2⟩ v T2) _)) (zj (Own.o 101 (jv W) ws) _)) (zj (Own.o 101 (jv U) un) _))))))
  have h9:=h8.perm (go_perm z 0 C.2.num m s.T (dO C.2.D m y2)).symm
  rw[do_com (s:=s) om hact hCc c7]
  exact⟨(z,y2),⟨rfl,hf,hy2,hCd,hCs⟩,rfl,_,h9⟩
 have c7:=(bne_eq_false_iff_eq.1 c7r)
 refine Bp 7 [dZ,dZ,dZ,dZ,(dS (pT tb2))] (some [88,90]) (fun S=>[(cE S bb 0 (pT tb2))]) ⟨(fun w1 h=>(zI (h.own (cl bb #[pT tb2,.map (some db)] 96) (show _∈(([cl z.fb #[pT z.jb,pT z.tb] 91,cl z.jb #[.int .i64 0,pT m.d,.int .u64 (C.2.num:Int)] 143]++(dO C.2.D m y2++(Own.o 101 (jv U) un++(Own.o 101 (jv W) ws++(batO ⟨bb,db,tb2,nr2,rm2⟩ v T2++(tabO z.tb z.nr z.rm s.T z.o z.x++[])))))):LO) from(mR (mR (mR (mR (mL mH)))))))).trans rfl),trivial⟩ ?_
 refine Lu (zS (b:=z.fb) (off:=1) (v:=pT tb2) rfl kr kr rfl kr 0 (cs:=#[pT z.jb,pT z.tb]) (e:=91) kr (by show 1<2;decide)) ?_
 refine zg rfl ?_
 refine Cg (Γ':=[]) ?_
 refine Rq [4] ?_
 refine Rt [.int .i64 0] (fun w1 hp=>?_)
 have h8:HP w ((gO z 0 s.num m s.T++dO s.D m y).map (·.1)) _ ([(z.fb,Obj.cells #[.pointer (some ⟨z.jb,0,none⟩),pT tb2] 91 (0,0)),(z.jb,Obj.cells #[.int .i64 0,.pointer (some ⟨m.d,0,none⟩),.int .u64 (C.2.num:Int)] 143 (0,0))]++(dO C.2.D m y2++(tabO tb2 nr2 rm2 T2 v.o v.x++[]))) w1:=hp.sub (List.Sublist.cons_cons _ (List.Sublist.cons_cons _ (show List.Sublist (dO C.2.D m y2++(tabO tb2 nr2 rm2 T2 v.o v.x++[])) (dO C.2.D m y2++(Own.o 101 (jv U) un++(Own.o 101 (jv W) ws++(batO ⟨bb,db,tb2,nr2,rm2⟩ v T2++(tabO z.tb z.nr z.rm s.T z.o z.x++[]))))) from(List.Sublist.append (zQ (dO C.2.D m y2)) (zE (List.Sublist.append (bat_tab ⟨bb,db,tb2,nr2,rm2⟩ v T2) (zz (tabO z.tb z.nr z.rm s.T z.o z.x++[]))) (zE (zj (Own.o 101 (jv W) ws) _) (zj (Own.o 101 (jv U) un) _)))))))
 have h9:=h8.perm (go_perm ⟨z.fb,z.jb,tb2,nr2,rm2,v.o,v.x⟩ 0 C.2.num m T2 (dO C.2.D m y2)).symm
 rw[do_ok (s:=s) om hact hCc (by simpa using c7)]
 exact⟨(⟨z.fb,z.jb,tb2,nr2,rm2,v.o,v.x⟩,y2),⟨rfl,⟨hb.tb,hb.w,hb.g,hb.sm⟩,hy2,hCd,hCs⟩,rfl,_,h9⟩
end
section
open K
def fill (nx:List Bool) (i:Nat):Nat→Bool→List Bool
 | 0,_=>nx
 | c+1,b=>fill (nx.set i b) (i+1) c b
theorem fill_len (b:Bool):∀(c:Nat) (nx:List Bool) (i:Nat),(fill nx i c b).length=nx.length
 | 0,_,_=>rfl
 | c+1,nx,i=>by rw[fill,fill_len b c];simp
theorem getD_set9 (nx:List Bool) (i j:Nat) (b:Bool) (h:i<nx.length):(nx.set i b).getD j false=if j=i then b else nx.getD j false:=by
 rw[zc,q7,zc]
 by_cases hij:i=j
 ·subst hij;simp[h]
 rw[if_neg hij,if_neg (fun e=>hij e.symm)]
theorem fill_getD (b:Bool):∀(c:Nat) (nx:List Bool) (i j:Nat),i+c≤nx.length→(fill nx i c b).getD j false=if i≤j∧j<i+c then b else nx.getD j false
 | 0,nx,i,j,_=>by rw[fill,if_neg om]
 | c+1,nx,i,j,h=>by
  rw[fill,fill_getD b c _ _ _ (by rw[yc];omega),getD_set9 _ _ _ _ om]
  by_cases h1:i+1≤j∧j<i+1+c
  ·rw[if_pos h1,if_pos om]
  rw[if_neg h1]
  by_cases h2:j=i
  ·rw[if_pos h2,if_pos om]
  rw[if_neg h2,if_neg om]
theorem loopF_ok (tz:Bool) (k:Nat):∀(c n:Nat) (nx:List Bool),(∀j,n≤j→j<n+c→k+j<nx.length∧nx.getD (k+j) false = !tz)→loopF tz k c n nx=(0,fill nx (k+n) c tz)
 | 0,n,nx,_=>rfl
 | c+1,n,nx,h=>by
  obtain⟨h1,h2⟩:=h n (zD _) om
  rw[loopF,if_neg om,h2,if_neg (by cases tz <;> simp),loopF_ok tz k c (n+1) _ (fun j hj hj2=>?_),fill,Nat.add_assoc]
  obtain⟨h3,h4⟩:=h j om om
  refine⟨by rw[yc];exact h3,?_⟩
  rw[getD_set9 _ _ _ _ h1,if_neg om,h4]
theorem turn_one {f:Int} {fr:List Bool} {tz:Bool} {k n:Nat} (hn:0<n) (h:∀j,k≤j→j<k+n→j<fr.length∧fr.getD j false = !tz) (l:List (Int×Int)):ql f fr.length tz ((f+(k:Int),(n:Int))::l) fr=ql f fr.length tz l (fill fr k n tz):=by
 have hk:=(h k (zD _) om).1
 have hin:inP f fr.length (f+(k:Int))=true:=by unfold inP;simp;omega
 rw[ql,if_neg (by simp only;omega),if_pos hin]
 have e:(f+(k:Int)-f).toNat=k:=by omega
 simp only[e,Int.toNat_natCast]
 rw[loopF_ok tz k n 0 fr (fun j _ hj=>by have:=h (k+j) om om;exact this),if_pos rfl,Nat.add_zero]
theorem turn_single {f:Int} {fr:List Bool} {tz:Bool} {k n:Nat} (hn:0<n) (h:∀j,k≤j→j<k+n→j<fr.length∧fr.getD j false = !tz):ql f fr.length tz [(f+(k:Int),(n:Int))] fr=(0,fill fr k n tz):=by
 rw[turn_one hn h];rfl
theorem turnR_single {f:Int} {fr:List Bool} {tz:Bool} {k n:Nat} (hn:0<n) (h:∀j,k≤j→j<k+n→j<fr.length∧fr.getD j false = !tz):yS f tz [(f+(k:Int),(n:Int))] fr=fill fr k n tz:=by
 unfold yS;rw[turn_single hn h,if_pos rfl]
theorem split_at (fr:List Bool) (k:Nat):fr.drop k=(fr.drop k).takeWhile id++(fr.drop k).dropWhile id:=(List.takeWhile_append_dropWhile ..).symm
theorem drop_getD9 (fr:List Bool) (k j:Nat):(fr.drop k).getD j false=fr.getD (k+j) false:=by simp[List.getD_eq_getElem?_getD]
theorem tw_true (l:List Bool):∀b∈l.takeWhile id,b=true:=by
 induction l with
 | nil=>intro b hb;cases hb
 | cons a l ih=>
  intro b hb
  rw[List.takeWhile_cons]at hb
  cases a with
  | false=>simp at hb
  | true=>
   simp only[id,if_true]at hb
   rcases zq.1 hb with rfl|hb
   ·rfl
   ·exact ih b hb
theorem dw_false (l:List Bool):l.dropWhile id=[]∨∃t,l.dropWhile id=false::t:=by
 induction l with
 | nil=>exact .inl rfl
 | cons a l ih=>
  rw[List.dropWhile_cons]
  cases a with
  | false=>exact .inr ⟨l,rfl⟩
  | true=>exact ih
theorem rlen_true {fr:List Bool} {k j:Nat} (h:j<rlen fr k):fr.getD (k+j) false=true:=by
 rw[←drop_getD9,split_at fr k,zc,zJ h,zd h,qR]
 exact tw_true _ _ (qr _)
theorem rlen_end (fr:List Bool) (k:Nat):fr.getD (k+rlen fr k) false=false:=by
 rw[←drop_getD9,zc]
 have h:((fr.drop k).takeWhile id++(fr.drop k).dropWhile id)[rlen fr k]? = ((fr.drop k).dropWhile id)[0]?:=by
  unfold rlen
  rw[yd (zD _),qH]
 rw[←split_at]at h
 rw[h]
 rcases dw_false (fr.drop k)with h1|⟨t,h1⟩ <;> rw[h1] <;> rfl
theorem runs_spec0 {fr:List Bool}:∀ {i:Nat} {x:Nat×Nat},(i=0∨fr.getD (i-1) false=false)→x∈yW fr i→0<x.2∧(∀j,x.1≤j→j<x.1+x.2→fr.getD j false=true)∧(x.1=0∨fr.getD (x.1-1) false=false):=by
 intro k
 induction h:fr.length-k using Nat.strongRecOn generalizing k with
 | ind m ih=>
  subst h
  intro x h0 hx
  rw[yW]at hx
  split at hx
  ·rename_i hk
   rcases yG.1 hx with hx|hx
   ·split at hx
    ·rename_i hp
     rw[zi.1 hx]
     refine⟨hp,fun j h1 h2=>?_,h0⟩
     simp only at h1 h2
     have:=rlen_true (fr:=fr) (k:=k) (j:=j-k) om
     rw[show k+(j-k)=j by omega]at this;exact this
    ·cases hx
   ·exact ih (fr.length-(k+rlen fr k+1)) om rfl (.inr (by rw[Nat.add_sub_cancel];exact rlen_end fr k)) hx
  ·cases hx
theorem runs_spec {fr:List Bool} {x:Nat×Nat} (hx:x∈yW fr 0):0<x.2∧(∀j,x.1≤j→j<x.1+x.2→fr.getD j false=true)∧(x.1=0∨fr.getD (x.1-1) false=false):=runs_spec0 (.inl rfl) hx
theorem suml_count (fr:List Bool):∀k,suml (yW fr k)=(fr.drop k).count true:=by
 intro k
 induction h:fr.length-k using Nat.strongRecOn generalizing k with
 | ind m ih=>
  subst h
  rw[yW]
  split
  ·rename_i hk
   have h2:=ih (fr.length-(k+rlen fr k+1)) om (k+rlen fr k+1) rfl
   have h3:((fr.drop k).takeWhile id).count true=rlen fr k:=by
    rw[List.count_eq_length.2 (fun b hb=>(tw_true _ b hb).symm)];rfl
   have h4:((fr.drop k).dropWhile id).count true=(fr.drop (k+rlen fr k+1)).count true:=by
    have h5:(fr.drop k).drop (rlen fr k)=(fr.drop k).dropWhile id:=by
     have e:(fr.drop k).drop (rlen fr k)=((fr.drop k).takeWhile id++(fr.drop k).dropWhile id).drop (rlen fr k):=by rw[←split_at]
     rw[e,List.drop_append]
     unfold rlen
     rw[List.drop_length,qH,List.drop_zero];rfl
    have h7:fr.drop (k+rlen fr k+1)=((fr.drop k).drop (rlen fr k)).drop 1:=by rw[List.drop_drop,List.drop_drop,Nat.add_assoc]
    rw[h7,h5]
    rcases dw_false (fr.drop k)with h1|⟨t,h1⟩ <;> rw[h1]
    ·rfl
    ·simp
   have h6:(fr.drop k).count true=rlen fr k+(fr.drop (k+rlen fr k+1)).count true:=by
    conv=>lhs;rw[split_at fr k]
    rw[List.count_append,h3,h4]
   rw[suml_app,h2,h6]
   split
   ·simp[suml]
   ·have:rlen fr k=0:=by omega
    rw[this];simp[suml]
  ·rw[qe om];rfl
theorem take_ok {f:Int} {fr:List Bool} {n:Nat} {pre rest:List (Nat×Nat)} {k m:Nat} (hn:0<n) (hi:yW fr 0=pre++(k,m)::rest) (hp:∀y∈pre,tkP (n:Int) y=true) (ha:tkP (n:Int) (k,m)=false) :
  yr f fr (n:Int)=(f+(k:Int),0,fill fr k n false)∧n≤m∧k+m≤fr.length∧(∀j,k≤j→j<k+m→fr.getD j false=true)∧(k=0∨fr.getD (k-1) false=false):=by
 have hx:(k,m)∈yW fr 0:=by rw[hi];simp
 obtain⟨h1,h2,h3⟩:=runs_spec hx
 have h4:=runs_in hx
 have h5:n≤m:=by simpa [tkP] using ha
 simp only at h1 h2 h3 h4
 refine⟨?_,h5,h4,h2,h3⟩
 rw[takeF_some om hi hp ha]
 unfold tkG
 have hc:∀j,k≤j→j<k+n→j<fr.length∧fr.getD j false = !false:=fun j hj1 hj2=>⟨by omega,h2 j hj1 om⟩
 simp only
 rw[turn_single hn hc,turnR_single hn hc]
end
section
open K
structure RF where
 nm:ByteArray
 da:ByteArray
 at_:Nat
def rfz:RF:=⟨ByteArray.empty,ByteArray.empty,0⟩
def yh (f:RF):Pl:=⟨f.nm,f.at_,f.da.size⟩
theorem toPl_z:yh rfz=plz:=rfl
theorem secs_0:secs 0=0:=rfl
theorem secs_pos {n:Nat} (h:0<n):0<secs n:=by unfold secs;omega
def inPl (p:Pl) (x:Nat):Prop:=p.at_≤x∧x<p.at_+secs p.sz
theorem inPl_0 {p:Pl} (h:p.sz=0) (x:Nat):¬inPl p x:=by unfold inPl;rw[h,secs_0];omega
theorem inPl_z (x:Nat):¬inPl plz x:=inPl_0 rfl x
def covP (ps:List Pl) (x:Nat):Bool:=ps.any fun p=>decide (p.at_≤x)&&decide (x<p.at_+secs p.sz)
theorem getD_inN {α:Type} {l:List α} {i:Nat} {d:α} (h:i<l.length):l.getD i d∈l:=by
 rw[zc,zd h];exact qr h
theorem getD_out {α:Type} {l:List α} {i:Nat} {d:α} (h:l.length≤i):l.getD i d=d:=by
 rw[zc,qn h];rfl
theorem cov_iff {ps:List Pl} {x:Nat}:covP ps x=true↔∃i,inPl (ps.getD i plz) x:=by
 unfold covP
 rw[List.any_eq_true]
 constructor
 ·rintro⟨p,hp,h⟩
  obtain⟨i,hi,rfl⟩:=qO.1 hp
  refine⟨i,?_⟩
  rw[getD_of _ hi]
  unfold inPl
  simpa using h
 rintro⟨i,h⟩
 rcases qy i ps.length with hi|hi
 ·exact⟨_,getD_inN hi,by unfold inPl at h;simpa using h⟩
 rw[getD_out hi]at h;exact absurd h (inPl_z x)
def frC (N:Nat) (ps:List Pl):List Bool:=(List.range (N-121)).map fun i=>!covP ps (121+i)
theorem frC_len (N:Nat) (ps:List Pl):(frC N ps).length=N-121:=by unfold frC;rw[zA,qk]
theorem frC_at {N:Nat} {ps:List Pl} {i:Nat} (h:i<N-121):(frC N ps).getD i false = !covP ps (121+i):=by
 unfold frC
 rw[zc,qa,List.getElem?_range h];rfl
theorem frC_ext {N:Nat} {ps:List Pl} {fr:List Bool} (hl:fr.length=N-121) (h:∀i,i<N-121→fr.getD i false = !covP ps (121+i)):fr=frC N ps:=by
 refine List.ext_getElem (by rw[hl,frC_len]) fun i h1 h2=>?_
 have:=h i om
 rw[getD_of _ h1]at this
 have h3:=frC_at (N:=N) (ps:=ps) (i:=i) om
 rw[getD_of _ h2]at h3
 rw[this,h3]
theorem frC_same {N:Nat} {ps qs:List Pl} (h:∀x,(∃i,inPl (ps.getD i plz) x)↔∃i,inPl (qs.getD i plz) x):frC N ps=frC N qs:=
 frC_ext (frC_len _ _) fun i hi=>by
  rw[frC_at hi]
  congr 1
  rw[Bool.eq_iff_iff,cov_iff,cov_iff];exact h _
structure Lay (N:Nat) (ps:List Pl):Prop where
 r:∀i,(ps.getD i plz).sz=0∨(121≤(ps.getD i plz).at_∧(ps.getD i plz).at_+secs (ps.getD i plz).sz≤N)
 d:∀i j x,i≠j→inPl (ps.getD i plz) x→¬inPl (ps.getD j plz) x
theorem set_at {ps:List Pl} {k:Nat} (hk:k<ps.length) (p:Pl) (i:Nat):(ps.set k p).getD i plz=if i=k then p else ps.getD i plz:=by
 split
 ·rename_i e
  subst e
  rw[getD_of _ (by rw[yc];exact hk),List.getElem_set_self]
 rename_i e
 rw[zc,List.getElem?_set_ne (fun h=>e h.symm),←zc]
theorem cov_set {ps:List Pl} {k:Nat} (hk:k<ps.length) (p:Pl) (x:Nat):(∃i,inPl ((ps.set k p).getD i plz) x)↔inPl p x∨∃i,i≠k∧inPl (ps.getD i plz) x:=by
 constructor
 ·rintro⟨i,h⟩
  rw[set_at hk]at h
  split at h
  ·exact .inl h
  rename_i e;exact .inr ⟨i,e,h⟩
 rintro(h|⟨i,e,h⟩)
 ·exact⟨k,by rw[set_at hk,if_pos rfl];exact h⟩
 exact⟨i,by rw[set_at hk,if_neg e];exact h⟩
theorem frC_set0 {N:Nat} {ps:List Pl} {k:Nat} (hk:k<ps.length) (h0:(ps.getD k plz).sz=0) {p:Pl} (hp:p.sz=0):frC N (ps.set k p)=frC N ps:=
 frC_same fun x=>by
  rw[cov_set hk]
  constructor
  ·rintro(h|⟨i,_,h⟩)
   ·exact absurd h (inPl_0 hp x)
   exact⟨i,h⟩
  rintro⟨i,h⟩
  refine .inr ⟨i,fun e=>?_,h⟩
  rw[e]at h;exact inPl_0 h0 x h
theorem Lay.set0 {N:Nat} {ps:List Pl} (h:Lay N ps) {k:Nat} (hk:k<ps.length) {p:Pl} (hp:p.sz=0):Lay N (ps.set k p):=by
 refine⟨fun i=>?_,fun i j x hij h1 h2=>?_⟩
 ·rw[set_at hk]
  split
  ·exact .inl hp
  exact h.r i
 rw[set_at hk]at h1 h2
 split at h1
 ·exact inPl_0 hp x h1
 split at h2
 ·exact inPl_0 hp x h2
 exact h.d i j x hij h1 h2
theorem Lay.ren {N:Nat} {ps:List Pl} (h:Lay N ps) {k:Nat} (hk:k<ps.length) (nm:ByteArray):Lay N (ps.set k ⟨nm,(ps.getD k plz).at_,(ps.getD k plz).sz⟩)∧frC N (ps.set k ⟨nm,(ps.getD k plz).at_,(ps.getD k plz).sz⟩)=frC N ps:=by
 have e:∀i x,inPl ((ps.set k ⟨nm,(ps.getD k plz).at_,(ps.getD k plz).sz⟩).getD i plz) x↔inPl (ps.getD i plz) x:=fun i x=>by
  rw[set_at hk]
  split
  ·rename_i h1;rw[h1];exact Iff.rfl
  ·exact Iff.rfl
 refine⟨⟨fun i=>?_,fun i j x hij h1 h2=>h.d i j x hij ((e i x).1 h1) ((e j x).1 h2)⟩,frC_same fun x=>⟨fun⟨i,h1⟩=>⟨i,(e i x).1 h1⟩,fun⟨i,h1⟩=>⟨i,(e i x).2 h1⟩⟩⟩
 rw[set_at hk]
 split
 ·exact h.r k
 exact h.r i
theorem turnR_nil0 (f:Int) (tz:Bool) (fr:List Bool):yS f tz [] fr=fr:=by unfold yS;rw[ql];rfl
theorem runF_at {p:Pl} (h0:¬p.sz=0) (h1:121≤p.at_):yQ p=[((121:Int)+((p.at_-121:Nat):Int),(secs p.sz:Int))]:=by
 unfold yQ
 rw[if_neg h0,show(121:Int)+((p.at_-121:Nat):Int)=(p.at_:Int) by omega]
theorem frC_give {N:Nat} {ps:List Pl} (h:Lay N ps) {k:Nat} (hk:k<ps.length) {p2:Pl} (h2:p2.sz=0):yS 121 true (yQ (ps.getD k plz)) (frC N ps)=frC N (ps.set k p2):=by
 by_cases h0:(ps.getD k plz).sz=0
 ·rw[frC_set0 hk h0 h2,show yQ (ps.getD k plz)=[]from if_pos h0,turnR_nil0]
 have hr:=(h.r k).resolve_left h0
 have hs:=secs_pos (Nat.pos_of_ne_zero h0)
 rw[runF_at h0 hr.1,turnR_single hs (fun j h3 h4=>⟨by rw[frC_len];omega,?_⟩)]
 ·refine frC_ext (by rw[fill_len,frC_len]) fun i hi=>?_
  rw[fill_getD _ _ _ _ _ (by rw[frC_len];omega),frC_at hi]
  split
  ·rename_i h5
   symm
   rw[Bool.not_eq_true',qN,ne_eq,cov_iff,cov_set hk]
   rintro(h6|⟨j,h6,h7⟩)
   ·exact inPl_0 h2 _ h6
   exact h.d j k _ h6 h7 (by unfold inPl;omega)
  rename_i h5
  congr 1
  rw[Bool.eq_iff_iff,cov_iff,cov_iff,cov_set hk]
  constructor
  ·rintro⟨j,h6⟩
   refine .inr ⟨j,fun e=>?_,h6⟩
   rw[e]at h6;unfold inPl at h6;omega
  rintro(h6|⟨j,_,h6⟩)
  ·exact absurd h6 (inPl_0 h2 _)
  exact⟨j,h6⟩
 rw[frC_at om,Bool.not_true,Bool.not_eq_false',cov_iff]
 exact⟨k,by unfold inPl;omega⟩
theorem frC_fill {N:Nat} {ps:List Pl} (h:Lay N ps) {k:Nat} (hk:k<ps.length) (h0:(ps.getD k plz).sz=0) {a n:Nat} (hb:a+n≤N-121) (hf:∀j,a≤j→j<a+n→(frC N ps).getD j false=true) {p:Pl} (hp:p.at_=121+a) (hn:secs p.sz=n) (hn0:0<n):fill (frC N ps) a n false=frC N (ps.set k p)∧Lay N (ps.set k p):=by
 have hin:∀x,inPl p x↔121+a≤x∧x<121+a+n:=fun x=>by unfold inPl;rw[hp,hn]
 have hap:∀x i,inPl p x→¬inPl (ps.getD i plz) x:=fun x i h1 h2=>by
  have h3:=(hin x).1 h1
  have h4:=hf (x-121) om om
  rw[frC_at om,Bool.not_eq_true',qN,ne_eq,cov_iff,show 121+(x-121)=x by omega]at h4
  exact h4 ⟨i,h2⟩
 refine⟨frC_ext (by rw[fill_len,frC_len]) fun i hi=>?_,fun i=>?_,fun i j x hij h1 h2=>?_⟩
 ·rw[fill_getD _ _ _ _ _ (by rw[frC_len];omega),frC_at hi]
  split
  ·rename_i h5
   symm
   rw[Bool.not_eq_false',cov_iff,cov_set hk]
   exact .inl ((hin _).2 om)
  rename_i h5
  congr 1
  rw[Bool.eq_iff_iff,cov_iff,cov_iff,cov_set hk]
  constructor
  ·rintro⟨j,h6⟩
   refine .inr ⟨j,fun e=>?_,h6⟩
   rw[e]at h6;exact inPl_0 h0 _ h6
  rintro(h6|⟨j,_,h6⟩)
  ·have:=(hin _).1 h6;omega
  exact⟨j,h6⟩
 ·rw[set_at hk]
  split
  ·exact .inr (by rw[hp,hn];omega)
  exact h.r i
 rw[set_at hk]at h1 h2
 split at h1
 ·split at h2
  ·omega
  exact hap x j h1 h2
 split at h2
 ·exact hap x i h2 h1
 exact h.d i j x hij h1 h2
theorem find_split {α:Type} {p:α→Bool}:∀ {l:List α} {a:α},l.find? p=some a→∃pre rest,l=pre++a::rest∧(∀y∈pre,p y=false)∧p a=true
 | [],_,h=>by cases h
 | x::l,a,h=>by
  rw[List.find?_cons]at h
  split at h
  ·rename_i hx
   injection h with h
   exact⟨[],l,by rw[h];rfl,(fun y hy=>by cases hy),by rw[←h];exact hx⟩
  rename_i hx
  obtain⟨pre,rest,h1,h2,h3⟩:=find_split h
  refine⟨x::pre,rest,by rw[h1];rfl,fun y hy=>?_,h3⟩
  rcases zq.1 hy with rfl|hy
  ·exact qN.2 (by simpa using hx)
  exact h2 y hy
theorem takeF_two {fr:List Bool} {n:Nat} (hn:0<n):yr 121 fr (n:Int)=(0,14,fr)∨∃a:Nat,yr 121 fr (n:Int)=(121+(a:Int),0,fill fr a n false)∧a+n≤fr.length∧∀j,a≤j→j<a+n→fr.getD j false=true:=by
 cases hx:(yW fr 0).find? (fun r=>decide ((n:Int)≤(r.2:Int))) with
 | none=>
  left
  refine takeF_none om fun y hy=>?_
  rw[List.find?_eq_none]at hx
  have:=hx y hy
  unfold tkP
  simpa using this
 | some r=>
  right
  obtain⟨pre,rest,h1,h2,h3⟩:=find_split hx
  obtain⟨k,m⟩:=r
  obtain⟨t1,t2,t3,t4,_⟩:=take_ok (f:=121) hn h1 (fun y hy=>by unfold tkP;rw[h2 y hy];rfl) (by unfold tkP;rw[h3];rfl)
  exact⟨k,t1,by omega,fun j h5 h6=>t4 j h5 om⟩
theorem frC_take {N:Nat} {ps:List Pl} (h:Lay N ps) {k:Nat} (hk:k<ps.length) (h0:(ps.getD k plz).sz=0) {n:Nat} (hn:0<n):((yr 121 (frC N ps) (n:Int)).2.1=14)∨((yr 121 (frC N ps) (n:Int)).2.1=0∧∃a:Nat,(yr 121 (frC N ps) (n:Int)).1=(a:Int)∧121≤a∧a+n≤N∧∀p:Pl,p.at_=a→secs p.sz=n→(yr 121 (frC N ps) (n:Int)).2.2=frC N (ps.set k p)∧Lay N (ps.set k p)):=by
 rcases takeF_two (fr:=frC N ps) hn with e|⟨a,e,h1,h2⟩
 ·exact .inl (by rw[e])
 rw[frC_len]at h1
 refine .inr ⟨by rw[e],121+a,by rw[e];simp,by omega,by omega,fun p hp hs=>?_⟩
 rw[e]
 exact frC_fill h hk h0 h1 h2 hp hs hn
theorem lay_free {N:Nat} {ps:List Pl} {k:Nat} (hk:k<ps.length) (h0:(ps.getD k plz).sz=0) {p:Pl} (h:Lay N (ps.set k p)) {j:Nat} (h1:p.at_-121≤j) (h2:j<p.at_-121+secs p.sz) (hz:¬p.sz=0):(frC N ps).getD j false=true:=by
 have hr:=h.r k
 rw[set_at hk,if_pos rfl]at hr
 have hr:=hr.resolve_left hz
 rw[frC_at om,Bool.not_eq_true',qN,ne_eq,cov_iff]
 rintro⟨i,h3⟩
 by_cases e:i=k
 ·rw[e]at h3;exact inPl_0 h0 _ h3
 refine h.d i k (121+j) e (by rw[set_at hk,if_neg e];exact h3) ?_
 rw[set_at hk,if_pos rfl];unfold inPl;omega
theorem Lay.unset {N:Nat} {ps:List Pl} {k:Nat} (hk:k<ps.length) {p:Pl} (h0:(ps.getD k plz).sz=0) (h:Lay N (ps.set k p)):Lay N ps:=by
 refine⟨fun i=>?_,fun i j x hij h1 h2=>?_⟩
 ·by_cases e:i=k
  ·rw[e];exact .inl h0
  have:=h.r i
  rw[set_at hk,if_neg e]at this;exact this
 by_cases e:i=k
 ·rw[e]at h1;exact inPl_0 h0 x h1
 by_cases e2:j=k
 ·rw[e2]at h2;exact inPl_0 h0 x h2
 exact h.d i j x hij (by rw[set_at hk,if_neg e];exact h1) (by rw[set_at hk,if_neg e2];exact h2)
theorem frC_claim {N:Nat} {ps:List Pl} {k:Nat} (hk:k<ps.length) (h0:(ps.getD k plz).sz=0) {p:Pl} (h:Lay N (ps.set k p)):(ql 121 (frC N ps).length false (yQ p) (frC N ps)).1=0∧yS 121 false (yQ p) (frC N ps)=frC N (ps.set k p):=by
 by_cases hz:p.sz=0
 ·rw[show yQ p=[]from if_pos hz,turnR_nil0,frC_set0 hk h0 hz]
  exact⟨by rw[ql],rfl⟩
 have hr:=h.r k
 rw[set_at hk,if_pos rfl]at hr
 have hr:=hr.resolve_left hz
 have hs:=secs_pos (Nat.pos_of_ne_zero hz)
 have hc:∀j,p.at_-121≤j→j<p.at_-121+secs p.sz→j<(frC N ps).length∧(frC N ps).getD j false = !false:=fun j h1 h2=>⟨by rw[frC_len];omega,lay_free hk h0 h h1 h2 hz⟩
 rw[runF_at hz hr.1,turn_single hs hc,turnR_single hs hc]
 exact⟨rfl,(frC_fill (h.unset hk h0) hk h0 om (fun j h1 h2=>(hc j h1 h2).2) om rfl hs).1⟩
theorem lay_none (N:Nat) {ps:List Pl} (h:∀i,(ps.getD i plz).sz=0):Lay N ps∧frC N ps=replicate (N-121) true:=by
 refine⟨⟨fun i=>.inl (h i),fun i j x _ h1=>absurd h1 (inPl_0 (h i) x)⟩,(frC_ext zk fun i hi=>?_).symm⟩
 rw[zc,qh,if_pos hi,qR]
 symm
 rw[Bool.not_eq_true',qN,ne_eq,cov_iff]
 rintro⟨j,h1⟩
 exact inPl_0 (h j) _ h1
def upto (q:Nat) (ps:List Pl):List Pl:=ps.take q++replicate (ps.length-q) plz
theorem upto_len {q:Nat} {ps:List Pl} (h:q≤ps.length):(upto q ps).length=ps.length:=by unfold upto;rw[zh,z8,zk];omega
theorem upto_at {q:Nat} {ps:List Pl} (h:q≤ps.length) (i:Nat):(upto q ps).getD i plz=if i<q then ps.getD i plz else plz:=by
 unfold upto
 rw[zc]
 split
 ·rename_i hi
  rw[zJ (by rw[z8];omega),List.getElem?_take,if_pos hi,←zc]
 rename_i hi
 rw[yd (by rw[z8];omega),qh]
 split <;> rfl
theorem upto_next {q:Nat} {ps:List Pl} (h:q<ps.length):upto (q+1) ps=(upto q ps).set q (ps.getD q plz):=by
 have h1:=upto_len (q:=q) (ps:=ps) om
 have h2:=upto_len (q:=q+1) (ps:=ps) om
 refine List.ext_getElem (by rw[yc,h1,h2]) fun i h3 h4=>?_
 have e1:=upto_at (q:=q+1) (ps:=ps) om i
 have e2:=set_at (ps:=upto q ps) (k:=q) om (ps.getD q plz) i
 rw[getD_of _ h3]at e1
 rw[getD_of _ h4,upto_at om]at e2
 rw[e1,e2]
 by_cases e:i=q
 ·subst e;rw[if_pos om,if_pos rfl]
 rw[if_neg e]
 by_cases h5:i<q
 ·rw[if_pos om,if_pos h5]
 rw[if_neg om,if_neg h5]
theorem upto_all (ps:List Pl):upto ps.length ps=ps:=by unfold upto;rw[yV,qH];exact zm _
theorem upto_none (ps:List Pl):upto 0 ps=replicate ps.length plz:=by unfold upto;rw[qG];rfl
theorem Lay.upto {N q:Nat} {ps:List Pl} (h:Lay N ps) (hq:q≤ps.length):Lay N (upto q ps):=by
 refine⟨fun i=>?_,fun i j x hij h1 h2=>?_⟩
 ·rw[upto_at hq]
  split
  ·exact h.r i
  exact .inl rfl
 rw[upto_at hq]at h1 h2
 split at h1
 ·split at h2
  ·exact h.d i j x hij h1 h2
  exact inPl_z x h2
 exact inPl_z x h1
end
section
open K
def fnd (nm:ByteArray):List RF→Nat→Int
 | [],_=>-1
 | f::l,i=>if f.nm=nm then(i:Int)else fnd nm l (i+1)
theorem fnd_cases (nm:ByteArray):∀(L:List RF) (i:Nat),(fnd nm L i = -1∧∀f∈L,f.nm≠nm)∨∃k,fnd nm L i=((i+k:Nat):Int)∧k<L.length∧(L.getD k rfz).nm=nm∧∀j,j<k→(L.getD j rfz).nm≠nm
 | [],i=>.inl ⟨rfl,fun f hf=>by cases hf⟩
 | f::L,i=>by
  unfold fnd
  split
  ·rename_i h
   exact .inr ⟨0,rfl,Nat.succ_pos _,h,fun j hj=>absurd hj (qx j)⟩
  rename_i h
  rcases fnd_cases nm L (i+1)with ⟨h1,h2⟩|⟨k,h1,h2,h3,h4⟩
  ·refine .inl ⟨h1,fun g hg=>?_⟩
   rcases zq.1 hg with rfl|hg
   ·exact h
   exact h2 g hg
  refine .inr ⟨k+1,by rw[h1,show i+1+k=i+(k+1) by omega],by rw[zL];omega,h3,fun j hj=>?_⟩
  match j,hj with
  | 0,_=>exact h
  | j+1,hj=>exact h4 j om
theorem ba_empty {s:ByteArray}:s.size=0↔s=ByteArray.empty:=by
 constructor
 ·intro h
  have h2:=ba_len s
  rw[h]at h2
  have h3:s.data.toList=[]:=ya h2
  cases s with
  | mk d=>
   have h4:d = #[]:=by simpa using h3
   rw[h4];rfl
 intro h;rw[h];rfl
theorem pfx_fnd:∀(L:List RF) (i:Nat),pfx (L.map yh) i=fnd ByteArray.empty L i
 | [],i=>rfl
 | f::L,i=>by
  rw[yi]
  unfold pfx fnd
  have e:(yh f).nm.size=0↔f.nm=ByteArray.empty:=ba_empty
  by_cases h:f.nm=ByteArray.empty
  ·rw[if_pos h,if_pos (e.2 h)]
  rw[if_neg h,if_neg (fun x=>h (e.1 x)),pfx_fnd L (i+1)]
theorem map_at (L:List RF) (i:Nat):(L.map yh).getD i plz=yh (L.getD i rfz):=by
 rw[zc,qa,zc]
 cases L[i]? <;> rfl
theorem setR_at {L:List RF} {k:Nat} (hk:k<L.length) (f:RF) (i:Nat):(L.set k f).getD i rfz=if i=k then f else L.getD i rfz:=by
 split
 ·rename_i e
  subst e
  rw[zc,List.getElem?_set_self hk];rfl
 rename_i e
 rw[zc,List.getElem?_set_ne (fun h=>e h.symm),←zc]
theorem map_set (L:List RF) (k:Nat) (f:RF):(L.set k f).map yh=(L.map yh).set k (yh f):=List.map_set
def rPutK (N:Nat) (L:List RF) (k:Nat) (nm da:ByteArray):Int×List RF:=
 if da.size=0 then(0,L.set k ⟨nm,da,0⟩)else if(yr 121 (frC N ((L.set k rfz).map yh)) (secs da.size:Int)).2.1≠0 then(((yr 121 (frC N ((L.set k rfz).map yh)) (secs da.size:Int)).2.1:Int),L)
 else(0,L.set k ⟨nm,da,(yr 121 (frC N ((L.set k rfz).map yh)) (secs da.size:Int)).1.toNat⟩)
def rAct (N:Nat) (L:List RF) (a:FA):Int×List RF:=
 if chkF a≠0 then(chkF a,L)else if a.k=1 then(if fnd a.nm L 0<0 then(if fnd ByteArray.empty L 0<0 then(6,L)else rPutK N L (fnd ByteArray.empty L 0).toNat a.nm a.da)else rPutK N L (fnd a.nm L 0).toNat a.nm a.da)
 else if fnd a.nm L 0<0 then(16,L)else if a.k=2 then(0,L.set (fnd a.nm L 0).toNat rfz)
 else if 0≤fnd a.t2 L 0 then(17,L) else(0,L.set (fnd a.nm L 0).toNat ⟨a.t2,(L.getD (fnd a.nm L 0).toNat rfz).da,(L.getD (fnd a.nm L 0).toNat rfz).at_⟩)
def qu (N:Nat):List FA→List RF→Int×List RF
 | [],L=>(0,L)
 | a::l,L=>if(rAct N L a).1≠0 then rAct N L a else qu N l (rAct N L a).2
structure Rel (N:Nat) (T:Tb) (L:List RF):Prop where
 l:L.length=144
 ps:T.ps=L.map yh
 fr:T.fr=frC N T.ps
 lay:Lay N T.ps
 z:∀i,(L.getD i rfz).nm.size=0→L.getD i rfz=rfz
 n:∀i,0<(L.getD i rfz).nm.size→namB (L.getD i rfz).nm=true∧(L.getD i rfz).da.size≤32768∧((L.getD i rfz).da.size=0→(L.getD i rfz).at_=0)
 u:∀i j,(L.getD i rfz).nm=(L.getD j rfz).nm→0<(L.getD i rfz).nm.size→i=j
 wk:WOk T.W
 w:∀nm k,smget T.W nm=some (.int .i64 ((k:Nat):Int))↔0<nm.size∧(L.getD k rfz).nm=nm
section
variable {N:Nat} {T:Tb} {L:List RF}
theorem Rel.lt (h:Rel N T L) {k:Nat} (hk:0<(L.getD k rfz).nm.size):k<144:=by
 rcases qy k 144 with h1|h1
 ·exact h1
 rw[getD_out (by rw[h.l];exact h1)]at hk;exact absurd hk (by decide)
theorem Rel.at (h:Rel N T L) (i:Nat):T.ps.getD i plz=yh (L.getD i rfz):=by rw[h.ps];exact map_at L i
theorem Rel.pl (h:Rel N T L):T.ps.length=144:=by rw[h.ps,zA];exact h.l
theorem Rel.none (h:Rel N T L) {nm:ByteArray} (h0:0<nm.size) (hs:smget T.W nm=none):fnd nm L 0 = -1:=by
 rcases fnd_cases nm L 0 with ⟨h1,_⟩|⟨k,_,_,h3,_⟩
 ·exact h1
 rw[(h.w nm k).2 ⟨h0,h3⟩]at hs;cases hs
theorem Rel.some (h:Rel N T L) {nm:ByteArray} {k:Nat} (hs:smget T.W nm=some (.int .i64 (k:Int))):fnd nm L 0=(k:Int)∧k<144∧(L.getD k rfz).nm=nm:=by
 obtain⟨h0,h1⟩:=(h.w nm k).1 hs
 have hk:k<144:=h.lt (by rw[h1];exact h0)
 refine⟨?_,hk,h1⟩
 rcases fnd_cases nm L 0 with ⟨_,h2⟩|⟨j,h2,h3,h4,_⟩
 ·exact absurd h1 (h2 _ (getD_inN (by rw[h.l];exact hk)))
 rw[h2,zF,h.u k j (h1.trans h4.symm) (by rw[h1];exact h0)]
theorem Rel.set (h:Rel N T L) {k:Nat} (hk:k<144) {f:RF} {W2:List (ByteArray×Value)} {fr2:List Bool} (hfr:fr2=frC N (T.ps.set k (yh f))) (hlay:Lay N (T.ps.set k (yh f))) (hz:f.nm.size=0→f=rfz) (hn:0<f.nm.size→namB f.nm=true∧f.da.size≤32768∧(f.da.size=0→f.at_=0))
  (hu:∀j,j≠k→0<f.nm.size→(L.getD j rfz).nm≠f.nm) (hwk:WOk W2) (hw:∀nm j,smget W2 nm=.some (.int .i64 ((j:Nat):Int))↔0<nm.size∧(if j=k then f else L.getD j rfz).nm=nm):Rel N ⟨T.ps.set k (yh f),W2,fr2⟩ (L.set k f):=by
 have hl:k<L.length:=by rw[h.l];exact hk
 refine⟨by rw[yc];exact h.l,?_,hfr,hlay,fun i=>?_,fun i=>?_,fun i j=>?_,hwk,fun nm j=>?_⟩
 ·show T.ps.set k (yh f)=_
  rw[map_set,h.ps]
 ·rw[setR_at hl]
  split
  ·exact hz
  exact h.z i
 ·rw[setR_at hl]
  split
  ·exact hn
  exact h.n i
 ·rw[setR_at hl,setR_at hl]
  split
  ·split
   ·intro _ _;omega
   rename_i h1 h2
   intro e h3;exact absurd e.symm (hu j h2 h3)
  split
  ·rename_i h1 h2
   intro e h3;exact absurd e (hu i h1 (by rw[←e];exact h3))
  exact h.u i j
 rw[setR_at hl];exact hw nm j
end
theorem ggetS {α:Type} {W:List (Int×α)} {k j:Int} {v:α}:gget (gset W k v) j=if j=k then some v else gget W j:=by
 induction W with
 | nil=>unfold gset;unfold gget;split <;> rfl
 | cons p W ih=>
  unfold gset
  split
  ·rename_i hk
   show(if j=k then some v else gget W j)=if j=k then some v else if j=p.1 then some p.2 else gget W j
   split
   ·rfl
   ·rename_i hj;rw[if_neg (fun e=>hj (e.trans hk.symm))]
  ·rename_i hk
   show(if j=p.1 then some p.2 else gget (gset W k v) j)=if j=k then some v else if j=p.1 then some p.2 else gget W j
   rw[ih]
   by_cases hj:j=p.1
   ·rw[if_pos hj,if_neg (fun e=>hk (e.symm.trans hj)),if_pos hj]
   ·rw[if_neg hj,if_neg hj]
theorem gget_no {α:Type} {W:List (Int×α)} {k:Int} (h:k∉W.map (·.1)):gget W k=none:=by
 induction W with
 | nil=>rfl
 | cons p W ih=>
  rw[yi,zq,not_or]at h
  unfold gget
  rw[if_neg h.1,ih h.2]
theorem ggetD {α:Type} {W:List (Int×α)} {k j:Int} (hn:(W.map (·.1)).Nodup):gget (gdel W k) j=if j=k then none else gget W j:=by
 induction W with
 | nil=>unfold gdel;unfold gget;split <;> rfl
 | cons p W ih=>
  rw[yi,qd]at hn
  unfold gdel
  split
  ·rename_i hk
   show gget W j=if j=k then none else if j=p.1 then some p.2 else gget W j
   split
   ·rename_i hj;rw[hj,hk];exact gget_no hn.1
   ·rename_i hj;rw[if_neg (fun e=>hj (e.trans hk.symm))]
  ·rename_i hk
   show(if j=p.1 then some p.2 else gget (gdel W k) j)=if j=k then none else if j=p.1 then some p.2 else gget W j
   rw[ih hn.2]
   by_cases hj:j=p.1
   ·rw[if_pos hj,if_neg (fun e=>hk (e.symm.trans hj)),if_pos hj]
   ·rw[if_neg hj,if_neg hj]
def Onb (D:DK) (f:RF):Prop:=∀j,j<secs f.da.size→shown D ((f.at_+j:Nat):Int)=qt f.da j
structure DmR (D:DK) (dm:Dm) (L:List RF):Prop where
 g:∀k:Nat,k<144→gget dm (k:Int)=some (L.getD k rfz).da∨(gget dm (k:Int)=none∧Onb D (L.getD k rfz))
 k:∀p∈dm,0≤p.1∧p.1<144
 nd:(dm.map (·.1)).Nodup
theorem Onb.z (D:DK):Onb D rfz:=fun j h=>absurd h (qx j)
theorem DmR.put {D:DK} {dm:Dm} {L:List RF} (h:DmR D dm L) (hl:L.length=144) {k:Nat} (hk:k<144) (f:RF):DmR D (gset dm (k:Int) f.da) (L.set k f):=by
 refine⟨fun j hj=>?_,fun p hp=>?_,gset_nodup h.nd⟩
 ·rw[setR_at (by rw[hl];exact hk),ggetS]
  by_cases e:j=k
  ·rw[if_pos (by rw[e]),if_pos e];exact .inl rfl
  rw[if_neg om,if_neg e];exact h.g j hj
 rcases gset_mem p hp with rfl|hp
 ·exact⟨zT k,by show(k:Int)<144;omega⟩
 exact h.k p hp
theorem DmR.del {D:DK} {dm:Dm} {L:List RF} (h:DmR D dm L) (hl:L.length=144) {k:Nat} (hk:k<144):DmR D (gdel dm (k:Int)) (L.set k rfz):=by
 refine⟨fun j hj=>?_,fun p hp=>h.k p (gdel_mem p hp),gdel_nodup h.nd⟩
 rw[setR_at (by rw[hl];exact hk),ggetD h.nd]
 by_cases e:j=k
 ·rw[if_pos (by rw[e]),if_pos e];exact .inr ⟨rfl,Onb.z D⟩
 rw[if_neg om,if_neg e];exact h.g j hj
theorem DmR.ren {D:DK} {dm:Dm} {L:List RF} (h:DmR D dm L) (hl:L.length=144) {k:Nat} (hk:k<144) (nm:ByteArray):DmR D dm (L.set k ⟨nm,(L.getD k rfz).da,(L.getD k rfz).at_⟩):=by
 refine⟨fun j hj=>?_,h.k,h.nd⟩
 rw[setR_at (by rw[hl];exact hk)]
 by_cases e:j=k
 ·rw[if_pos e]
  have:=h.g k hk
  rw[e];exact this
 rw[if_neg e];exact h.g j hj
theorem namB_pos {s:ByteArray} (h:namB s=true):0<s.size:=by
 unfold namB at h
 rw[q4,decide_eq_true_eq]at h
 exact h.1.1
theorem put_rel {N:Nat} {T:Tb} {L:List RF} {dm:Dm} {D:DK} (h:Rel N T L) (hd:DmR D dm L) {nm da:ByteArray} (hn:namB nm=true) (hs:da.size≤32768) {k:Nat} (hk:k<144) {fr1:List Bool} (hfr:fr1=frC N (T.ps.set k plz)) (hw:∀j,(L.getD j rfz).nm=nm→j=k) (hk0:(L.getD k rfz).nm=nm∨(L.getD k rfz).nm.size=0) :
  (rPutK N L k nm da).1=(putG T dm nm da k fr1).1∧((putG T dm nm da k fr1).1=0→Rel N (putG T dm nm da k fr1).2.1 (rPutK N L k nm da).2∧DmR D (putG T dm nm da k fr1).2.2 (rPutK N L k nm da).2):=by
 have hp0:=namB_pos hn
 have hkl:k<T.ps.length:=by rw[h.pl];exact hk
 have hW:∀b j,smget (smset T.W nm (.int .i64 (k:Int))) b=some (.int .i64 ((j:Nat):Int))↔0<b.size∧(if j=k then nm else(L.getD j rfz).nm)=b:=fun b j=>by
  rw[smget_set]
  by_cases hb:b=nm
  ·rw[if_pos hb]
   constructor
   ·intro e
    injection e with e;injection e with _ e
    have e:k=j:=by omega
    rw[if_pos e.symm,hb];exact⟨hp0,rfl⟩
   ·rintro⟨_,e⟩
    by_cases hj:j=k
    ·rw[hj]
    ·rw[if_neg hj]at e
     exact absurd (hw j (e.trans hb)) hj
  ·rw[if_neg hb,h.w b j]
   by_cases hj:j=k
   ·rw[if_pos hj,hj]
    constructor
    ·rintro⟨h1,h2⟩
     rcases hk0 with h3|h3
     ·exact absurd (h2.symm.trans h3) hb
     ·rw[h2]at h3;omega
    ·rintro⟨_,h2⟩;exact absurd h2.symm hb
   ·rw[if_neg hj]
 have done:∀(a:Nat) (fr2:List Bool),fr2=frC N (T.ps.set k ⟨nm,a,da.size⟩)→Lay N (T.ps.set k ⟨nm,a,da.size⟩)→(da.size=0→a=0)→Rel N ⟨T.ps.set k ⟨nm,a,da.size⟩,smset T.W nm (.int .i64 (k:Int)),fr2⟩ (L.set k ⟨nm,da,a⟩)∧DmR D (gset dm (k:Int) da) (L.set k ⟨nm,da,a⟩):=fun a fr2 h1 h2 h3=>by
  refine⟨h.set (f:=⟨nm,da,a⟩) hk h1 h2 (fun e=>by have e:nm.size=0:=e;omega) (fun _=>⟨hn,hs,h3⟩) (fun j hj _ e=>hj (hw j e)) (h.wk.set nm hk) (fun b j=>?_),hd.put h.l hk ⟨nm,da,a⟩⟩
  rw[hW b j]
  by_cases hj:j=k
  ·rw[if_pos hj,if_pos hj]
  ·rw[if_neg hj,if_neg hj]
 have hm:(L.set k rfz).map yh=T.ps.set k plz:=by rw[map_set,h.ps];rfl
 unfold rPutK putG
 by_cases h0:da.size=0
 ·have hs0:secs da.size=0:=by rw[h0];rfl
  rw[if_pos h0,if_pos hs0]
  refine⟨rfl,fun _=>done 0 fr1 ?_ (h.lay.set0 hkl h0) (fun _=>rfl)⟩
  have e:(T.ps.set k plz).set k (⟨nm,0,da.size⟩:Pl)=T.ps.set k ⟨nm,0,da.size⟩:=List.set_set ..
  rw[hfr,←e]
  exact(frC_set0 (by rw[yc];exact hkl) (by rw[set_at hkl,if_pos rfl];rfl) h0).symm
 have hs0:=secs_pos (Nat.pos_of_ne_zero h0)
 rw[if_neg h0,if_neg (show ¬secs da.size=0 by omega),hm,←hfr]
 rcases frC_take (h.lay.set0 hkl (p:=plz) rfl) (k:=k) (by rw[yc];exact hkl) (by rw[set_at hkl,if_pos rfl];rfl) hs0 with t|⟨t,a,t1,t2,t3,t4⟩
 ·rw[←hfr]at t
  have t2:(yr 121 fr1 (secs da.size:Int)).2.1≠0:=by rw[t];decide
  rw[if_pos t2,if_pos t2]
  exact⟨rfl,fun e=>by rw[t]at e;cases e⟩
 rw[←hfr]at t t1 t4
 have t2:¬(yr 121 fr1 (secs da.size:Int)).2.1≠0:=fun e=>e t
 rw[if_neg t2,if_neg t2,t1,yk]
 obtain⟨q1,q2⟩:=t4 ⟨nm,a,da.size⟩ rfl rfl
 rw[List.set_set]at q1 q2
 exact⟨rfl,fun _=>done a _ q1 q2 (fun e=>absurd e h0)⟩
theorem w_none {T:Tb} (h:WOk T.W) {nm:ByteArray}:smget T.W nm=none∨∃k:Nat,smget T.W nm=some (.int .i64 (k:Int)):=by
 cases hs:smget T.W nm with
 | none=>exact .inl rfl
 | some v=>
  obtain⟨k,_,h2⟩:=h.at (s:=nm) (by rw[hs];rfl)
  rw[hs]at h2;exact .inr ⟨k,h2⟩
theorem act_rel {N:Nat} {T:Tb} {L:List RF} {dm:Dm} {D:DK} (h:Rel N T L) (hd:DmR D dm L) (a:FA):(rAct N L a).1=(actF T dm a).1∧((actF T dm a).1=0→Rel N (actF T dm a).2.1 (rAct N L a).2∧DmR D (actF T dm a).2.2 (rAct N L a).2):=by
 by_cases hc:chkF a≠0
 ·rw[act_chk hc]
  unfold rAct
  rw[if_pos hc]
  exact⟨rfl,fun e=>absurd e hc⟩
 have hc:chkF a=0:=Decidable.of_not_not hc
 obtain⟨c1,c2,c3,c4⟩:=chk_all hc
 have hp0:=namB_pos c2
 by_cases h1:a.k=1
 ·rw[act_put hc h1]
  unfold rAct
  rw[if_neg (fun e=>e hc),if_pos h1]
  rcases w_none h.wk (nm:=a.nm)with hs|⟨k,hs⟩
  ·rw[if_pos (by rw[h.none hp0 hs];decide)]
   have hp:=pfx_fnd L 0
   rw[←h.ps]at hp
   rcases fnd_cases ByteArray.empty L 0 with ⟨e,_⟩|⟨k,e,hk,e2,_⟩
   ·rw[if_pos (by rw[e];decide),putF_many hs (by rw[hp,e];decide)]
    exact⟨rfl,fun x=>absurd (show(6:Int)=0 from x) (by decide)⟩
   rw[zF]at e
   have hk:k<144:=by rw[←h.l];exact hk
   have hz:L.getD k rfz=rfz:=h.z k (by rw[e2];rfl)
   rw[if_neg om,e,yk,putF_new hs (hp.trans e)]
   refine put_rel h hd c2 (c4 h1) hk ?_ (fun j hj=>?_) (.inr (by rw[e2];rfl))
   ·rw[h.fr,frC_set0 (by rw[h.pl];exact hk) (by rw[h.at,hz];rfl) rfl]
   rw[(h.w a.nm j).2 ⟨hp0,hj⟩]at hs;cases hs
  obtain⟨e,hk,e2⟩:=h.some hs
  rw[if_neg om,e,yk,putF_there hs]
  refine put_rel h hd c2 (c4 h1) hk ?_ (fun j hj=>h.u j k (hj.trans e2.symm) (by rw[hj];exact hp0)) (.inl e2)
  rw[h.fr]
  exact frC_give h.lay (by rw[h.pl];exact hk) rfl
 rcases w_none h.wk (nm:=a.nm)with hs|⟨k,hs⟩
 ·rw[act_none hc h1 hs]
  unfold rAct
  rw[if_neg (fun e=>e hc),if_neg h1,if_pos (by rw[h.none hp0 hs];decide)]
  exact⟨rfl,fun x=>absurd (show(16:Int)=0 from x) (by decide)⟩
 obtain⟨e,hk,e2⟩:=h.some hs
 have hkl:k<T.ps.length:=by rw[h.pl];exact hk
 by_cases h2:a.k=2
 ·rw[act_del hc h2 hs]
  unfold rAct
  rw[if_neg (fun e=>e hc),if_neg h1,if_neg om,if_pos h2,e,yk]
  refine⟨rfl,fun _=>⟨?_,hd.del h.l hk⟩⟩
  refine h.set (f:=rfz) hk (by rw[h.fr];exact frC_give h.lay hkl rfl) (h.lay.set0 hkl rfl) (fun _=>rfl) (fun x=>absurd x (by decide)) (fun j _ x=>absurd x (by decide)) (h.wk.del _) (fun b j=>?_)
  rw[smget_del h.wk.nd]
  by_cases hb:b=a.nm
  ·rw[if_pos hb]
   refine⟨(fun x=>by cases x),fun⟨x1,x2⟩=>?_⟩
   by_cases hj:j=k
   ·rw[if_pos hj]at x2
    rw[←x2]at x1;exact absurd x1 (by decide)
   rw[if_neg hj]at x2
   exact absurd (h.u j k (x2.trans (hb.trans e2.symm)) (by rw[x2];exact x1)) hj
  rw[if_neg hb,h.w b j]
  by_cases hj:j=k
  ·rw[if_pos hj,hj,e2]
   exact⟨fun⟨_,x⟩=>absurd x.symm hb,fun⟨x1,x2⟩=>by rw[←x2]at x1;exact absurd x1 (by decide)⟩
  rw[if_neg hj]
 have h3:a.k=3:=by omega
 rcases w_none h.wk (nm:=a.t2)with ht|⟨k2,ht⟩
 ·have htp:=namB_pos (c3 h3)
  rw[act_ren hc h3 hs (by rw[ht];rfl)]
  unfold rAct
  rw[if_neg (fun e=>e hc),if_neg h1,if_neg om,if_neg h2,if_neg (by rw[h.none htp ht];decide),e,yk]
  obtain⟨r1,r2⟩:=h.lay.ren hkl a.t2
  have hto:(⟨a.t2,(T.ps.getD k plz).at_,(T.ps.getD k plz).sz⟩:Pl)=yh ⟨a.t2,(L.getD k rfz).da,(L.getD k rfz).at_⟩:=by rw[h.at k];rfl
  refine⟨rfl,fun _=>⟨?_,hd.ren h.l hk a.t2⟩⟩
  have hne:a.t2≠a.nm:=fun x=>by rw[x,hs]at ht;cases ht
  have hkn:=h.n k (by rw[e2];exact hp0)
  rw[hto]at r1 r2 ⊢
  refine h.set hk (by rw[r2];exact h.fr) r1 (fun x=>by have x:a.t2.size=0:=x;omega) (fun _=>⟨c3 h3,hkn.2⟩) (fun j _ _ x=>?_) ((h.wk.set _ hk).del _) (fun b j=>?_)
  ·have x:(L.getD j rfz).nm=a.t2:=x
   rw[(h.w a.t2 j).2 ⟨htp,x⟩]at ht;cases ht
  rw[smget_del (h.wk.set _ hk).nd,smget_set]
  show _↔0<b.size∧(if j=k then(⟨a.t2,(L.getD k rfz).da,(L.getD k rfz).at_⟩:RF)else L.getD j rfz).nm=b
  by_cases hb:b=a.nm
  ·rw[if_pos hb]
   refine⟨(fun x=>by cases x),fun⟨x1,x2⟩=>?_⟩
   by_cases hj:j=k
   ·rw[if_pos hj]at x2
    exact absurd (x2.trans hb) hne
   rw[if_neg hj]at x2
   exact absurd (h.u j k (x2.trans (hb.trans e2.symm)) (by rw[x2];exact x1)) hj
  rw[if_neg hb]
  by_cases hb2:b=a.t2
  ·rw[if_pos hb2]
   constructor
   ·intro x
    injection x with x;injection x with _ x
    have x:k=j:=by omega
    rw[if_pos x.symm,hb2];exact⟨htp,rfl⟩
   rintro⟨x1,x2⟩
   by_cases hj:j=k
   ·rw[hj]
   rw[if_neg hj,hb2]at x2
   rw[(h.w a.t2 j).2 ⟨htp,x2⟩]at ht;cases ht
  rw[if_neg hb2,h.w b j]
  by_cases hj:j=k
  ·rw[if_pos hj,hj,e2]
   exact⟨fun⟨_,x⟩=>absurd x.symm hb,fun⟨_,x⟩=>absurd x.symm hb2⟩
  rw[if_neg hj]
 rw[act_there hc h3 hs (by rw[ht];rfl)]
 unfold rAct
 rw[if_neg (fun e=>e hc),if_neg h1,if_neg om,if_neg h2,if_pos (by rw[(h.some ht).1];omega)]
 exact⟨rfl,fun x=>absurd (show(17:Int)=0 from x) (by decide)⟩
theorem acts_rel {N:Nat} {D:DK}:∀(l:List FA) {T:Tb} {L:List RF} {dm:Dm},Rel N T L→DmR D dm L→(qu N l L).1=(actsF l T dm).1∧((actsF l T dm).1=0→Rel N (actsF l T dm).2.1 (qu N l L).2∧DmR D (actsF l T dm).2.2 (qu N l L).2)
 | [],T,L,dm,h,hd=>⟨rfl,fun _=>⟨h,hd⟩⟩
 | a::l,T,L,dm,h,hd=>by
  obtain⟨h1,h2⟩:=act_rel h hd a
  unfold qu actsF
  by_cases h0:(actF T dm a).1≠0
  ·rw[if_pos h0,if_pos (by rw[h1];exact h0)]
   exact⟨h1,fun e=>absurd e h0⟩
  rw[if_neg h0,if_neg (by rw[h1];exact h0)]
  obtain⟨h3,h4⟩:=h2 (Decidable.of_not_not h0)
  exact acts_rel l h3 h4
end
section
open K
theorem pow256 (k:Nat):256^(k+1)=256^k*256:=Nat.pow_succ ..
theorem val_be (n:Nat):∀(k m:Nat),(m+1)*256^k≤18446744073709551616→(be n k).foldl vf m=m*256^k+n%256^k
 | 0,m,_=>by simp[be,Nat.mod_one]
 | k+1,m,h=>by
  have hk:0<256^k:=Nat.pow_pos (by decide)
  have hb:(UInt8.ofNat (n / 256^k)).toNat=n / 256^k%256:=by simp
  have hlt:n / 256^k%256<256:=qT _ (by decide)
  rw[pow256,←Nat.mul_assoc,Nat.mul_right_comm]at h
  have hm:m*256+256≤18446744073709551616:=yU (by have:=Nat.mul_le_mul_left ((m+1)*256) hk;omega) h
  have hv:vf m (UInt8.ofNat (n / 256^k))=m*256+n / 256^k%256:=by unfold vf;rw[hb];omega
  rw[be,q8,hv,val_be n k _ (yU (Nat.mul_le_mul_right _ om) h),pow256]
  have e1:n%(256^k*256)=n%256^k+256^k*(n / 256^k%256):=Nat.mod_mul ..
  rw[e1,Nat.add_mul,je (n / 256^k%256) (256^k),Nat.mul_assoc,je 256 (256^k)]
  omega
theorem valF_be (n k:Nat) (hk:256^k≤18446744073709551616) (hn:n<256^k):valF (be n k)=n:=by
 unfold valF
 rw[val_be n k 0 om,Nat.mod_eq_of_lt hn];omega
theorem nextF_app (a r:List UInt8) {n:Int} (h:n=(a.length:Int)):nextF ⟨0,a++r⟩ n=(a,⟨0,r⟩):=by
 subst h
 unfold nextF
 rw[if_neg (by simp),if_neg (by simp only[List.length_append];omega)]
 simp
theorem fourF_app (n:Nat) (r:List UInt8) (h:n<4294967296):ym ⟨0,four n++r⟩=(n,⟨0,r⟩):=by
 unfold ym
 rw[nextF_app (four n) r (by rw[show(four n).length=4 from be_len _ _];rfl),show valF (four n)=n from valF_be n 4 (by decide) h,Nat.mod_eq_of_lt h]
theorem headF_split (n:Nat) {l:List Wr} (h:l.length≤96):∃R,qi n l=mkL++(eight n++(four l.length++(flat twoW l++R))):=by
 refine⟨shaD (hdS n l++flat blkW l)++replicate (512-(hdL n l).length) 0,?_⟩
 unfold qi
 rw[yB h]
 unfold hdL hdS
 simp only[List.append_assoc]
theorem take_pre {α:Type} {a b:List α} {n:Nat} (h:a.length=n):(a++b).take n=a:=by rw[←h];exact List.take_left
theorem drop_pre {α:Type} {a b:List α} {n:Nat} (h:a.length=n):(a++b).drop n=b:=by rw[←h];exact List.drop_left
theorem eight_len (n:Nat):(eight n).length=8:=be_len n 8
theorem four_len2 (n:Nat):(four n).length=4:=be_len n 4
theorem two_val {a:Int} (h:0≤a∧a<65536):((two a).getD 0 0).toNat*256+((two a).getD 1 0).toNat=a.toNat:=by
 unfold two
 show(UInt8.ofNat ((a / 256)%256).toNat).toNat*256+(UInt8.ofNat (a%256).toNat).toNat=a.toNat
 rw[UInt8.toNat_ofNat',UInt8.toNat_ofNat']
 omega
theorem two_flat:∀ {l:List Wr} {i:Nat} (R:List UInt8),i<l.length→(flat twoW l++R).getD (2*i) 0=(two (l.getD i wz).1).getD 0 0∧(flat twoW l++R).getD (2*i+1) 0=(two (l.getD i wz).1).getD 1 0
 | [],i,R,h=>absurd h (qx i)
 | w::l,0,R,_=>by
  show((two w.1++flat twoW l)++R).getD 0 0=_∧((two w.1++flat twoW l)++R).getD 1 0=_
  exact⟨rfl,rfl⟩
 | w::l,i+1,R,h=>by
  have h2:=two_flat (l:=l) (i:=i) R (by rw[zL]at h;omega)
  show((two w.1++flat twoW l)++R).getD (2*(i+1)) 0=_∧((two w.1++flat twoW l)++R).getD (2*(i+1)+1) 0=_
  exact h2
theorem par_head {n:Nat} {l:List Wr} {bs:List (List UInt8)} (hn:n<18446744073709551616) (hl:l.length≤96) (ha:∀a∈l,0≤a.1∧a.1<65536) (hb:bs.length=96) (hc:∀i,i<l.length→bs.getD i zb=(l.getD i wz).2):parG (qi n l) bs=true∧parL (qi n l) bs=l∧parN (qi n l) bs=n:=by
 obtain⟨R,hR⟩:=headF_split n hl
 have d4:(qi n l).drop 4=eight n++(four l.length++(flat twoW l++R)):=by rw[hR];exact drop_pre rfl
 have d12:(qi n l).drop 12=four l.length++(flat twoW l++R):=by
  rw[show 12=4+8 from rfl,←List.drop_drop,d4];exact drop_pre (eight_len n)
 have d16:(qi n l).drop 16=flat twoW l++R:=by
  rw[show 16=12+4 from rfl,←List.drop_drop,d12];exact drop_pre (four_len2 _)
 have e0:(qi n l).take 4=mkL:=by rw[hR];exact take_pre rfl
 have e1:numP (qi n l)=n:=by
  unfold numP
  rw[d4,take_pre (eight_len n)]
  exact valF_be n 8 (by decide) (by exact hn)
 have e2:cntP (qi n l)=l.length:=by
  unfold cntP
  rw[d12,take_pre (four_len2 _)]
  exact valF_be l.length 4 (by decide) (by show l.length<4294967296;omega)
 have gbd:∀j,gb (qi n l) (16+j)=(flat twoW l++R).getD j 0:=fun j=>by
  rw[←d16]
  unfold gb
  rw[zc,zc,List.getElem?_drop]
 have e3:rowP (qi n l) bs l.length=l:=by
  unfold rowP
  refine List.ext_getElem (by rw[zA,qk]) fun i h1 h2=>?_
  rw[List.getElem_map,List.getElem_range]
  have hg:l.getD i wz=l[i]:=by rw[zc,zd h2];rfl
  have h3:=ha l[i] (qr h2)
  obtain⟨t1,t2⟩:=two_flat (l:=l) (i:=i) R h2
  have h4:atP (qi n l) i=l[i].1.toNat:=by
   unfold atP
   rw[gbd (2*i),show 17+2*i=16+(2*i+1) by omega,gbd (2*i+1),t1,t2,hg,two_val h3]
  rw[h4,hc i h2,hg]
  exact Prod.ext (by show((l[i].1.toNat:Nat):Int)=l[i].1;omega) rfl
 have hG:parG (qi n l) bs=true:=par_ok e0 (by rw[e2,hb];omega) (by rw[e1,e2,e3])
 obtain⟨y1,y2⟩:=par_yes hG
 exact⟨hG,by rw[y2,e2,e3],by rw[y1,e1]⟩
structure JH (N:Nat) (D:DK) (n:Nat) (l:List Wr):Prop where
 hn:n<18446744073709551616
 hl:l.length≤96
 hr:∀a∈l,(97≤a.1∧a.1<(N:Int))∧a.2.length=512
 hs:Rise l
 h0:shown D 0=qi n l
 hc:∀i,i<l.length→shown D ((i+1:Nat):Int)=(l.getD i wz).2
 hm:∀a∈l,shown D a.1=a.2
def JHd (N:Nat) (D:DK):Prop:=shown D 0=zb∨∃n l,JH N D n l
theorem open_JH {N:Nat} {D:DK} (h:Wl N D) (hj:JHd N D):∃(num:Nat) (D2:DK),openF D=(0,num,D2)∧Wl N D2∧JHd N D2∧(∀r:Int,97≤r→shown D2 r=shown D r)∧D.steps≤D2.steps∧D2.steps≤D.steps+97:=by
 rcases hj with h0|⟨n,l,hj⟩
 ·exact⟨0,D,h.open0 h0,h,.inl h0,fun r _=>rfl,Int.le_refl _,by omega⟩
 have hb:=h.b
 have hjr:jrows D=jblk D 96:=by unfold jrows;rw[h.n,qC om]
 have e0:zR D 0=qi n l:=by rw[h.read ⟨by decide,by omega⟩];exact hj.h0
 obtain⟨p1,p2,p3⟩:=par_head (n:=n) (l:=l) (bs:=jrows D) hj.hn hj.hl (fun a ha=>by have:=(hj.hr a ha).1;omega) (by rw[hjr,jblk_len]) (fun i hi=>by
  have:=hj.hl
  rw[hjr,←hj.hc i hi,←h.read ⟨by omega,by omega⟩]
  unfold jblk
  rw[zc,qa,List.getElem?_range om];rfl)
 have hG:openG D=true:=by unfold openG;rw[e0];exact p1
 have hL:openL D=l:=by
  unfold openL
  rw[e0,p2]
  unfold inD
  rw[List.filter_eq_self]
  intro a ha
  have:=(hj.hr a ha).1
  rw[h.n]
  simp only[ge_iff_le,Bool.not_eq_true',decide_eq_false_iff_not];omega
 obtain⟨g1,g2,g3⟩:=h.lay (l:=l) (fun a ha=>⟨by have:=(hj.hr a ha).1;omega,(hj.hr a ha).2⟩)
 have hO:=op_ok (D:=D) (h.flt ⟨by decide,by omega⟩) hG (by rw[hL];exact g1)
 rw[hL]at hO
 have low:∀r:Int,0≤r→r<97→shown (layF D l).2 r=shown D r:=fun r h1 h2=>(g3 r h1).1 fun a ha=>by have:=(hj.hr a ha).1;omega
 have hi:∀r:Int,97≤r→shown (layF D l).2 r=shown D r:=fun r hr=>by
  by_cases hx:∃a∈l,a.1=r
  ·obtain⟨a,ha,rfl⟩:=hx
   rw[(g3 a.1 om).2 a.2 ha hj.hs,hj.hm a ha]
  ·exact(g3 r om).1 fun a ha e=>hx ⟨a,ha,e⟩
 refine⟨_,_,hO,g2,.inr ⟨n,l,hj.hn,hj.hl,hj.hr,hj.hs,?_,fun i hi=>?_,fun a ha=>?_⟩,hi,(layF_steps l D).1,by have h8:=(layF_steps l D).2;have h9:=hj.hl;show(layF D l).2.steps≤_;omega⟩
 ·rw[low 0 (by decide) (by decide)];exact hj.h0
 ·have:=hj.hl
  rw[low _ om om];exact hj.hc i hi
 rw[hi a.1 (hj.hr a ha).1.1];exact hj.hm a ha
def Dist (l:List Wr):Prop:=l.Pairwise fun a b=>a.1≠b.1
theorem lw_iff {a:Int} {x:Wr}:∀ {l:List Wr} {r:Int→Option Wr},Dist l→(lwF l r a=some x↔(x∈l∧x.1=a)∨(r a=some x∧∀w∈l,w.1≠a))
 | [],r,_=>by
  unfold lwF
  exact⟨fun h=>.inr ⟨h,fun w hw=>by cases hw⟩,fun h=>h.elim (fun h=>by cases h.1) (·.1)⟩
 | w::l,r,h=>by
  obtain⟨h1,h2⟩:=List.pairwise_cons.1 h
  unfold lwF
  rw[lw_iff h2]
  constructor
  ·rintro(⟨h3,h4⟩|⟨h3,h4⟩)
   ·exact .inl ⟨zf _ h3,h4⟩
   ·split at h3
    ·rename_i e
     injection h3 with h3
     rw[←h3]
     exact .inl ⟨mH,e⟩
    ·rename_i e
     exact .inr ⟨h3,fun y hy=>(zq.1 hy).elim (fun e2=>by rw[e2];exact e) (h4 y)⟩
  ·rintro(⟨h3,h4⟩|⟨h3,h4⟩)
   ·rcases zq.1 h3 with e|h3
    ·refine .inr ⟨by rw[if_pos (by rw[←e];exact h4),e],fun y hy e2=>?_⟩
     have:=h1 y hy
     rw[←e]at this;exact this (h4.trans e2.symm)
    ·exact .inl ⟨h3,h4⟩
   ·exact .inr ⟨by rw[if_neg (h4 w mH)];exact h3,fun y hy=>h4 y (zf _ hy)⟩
theorem ris_iff {l:List Wr} (h:Dist l) (x:Wr):x∈risF l↔x∈l:=by
 rw[risF_mem,lw_iff h]
 exact⟨fun h=>h.elim (·.1) (fun h=>by cases h.1),fun h=>.inl ⟨h,rfl⟩⟩
theorem ris_count {l:List Wr} (h:Dist l):(risF l).length=l.length:=by
 have n1:(risF l).Nodup:=(risF_rise l).imp fun hab e=>by rw[e]at hab;exact absurd hab (Int.lt_irrefl _)
 have n2:l.Nodup:=h.imp fun hab e=>hab (by rw[e])
 exact((List.perm_ext_iff_of_nodup n1 n2).2 (ris_iff h)).length_eq
theorem commit_full {N:Nat} {J:JS} (h:Wl N J.D) (hw:J.why=0) (hj:JHd N J.D) {l:List Wr} (hl:WW l) (hr:∀a∈l,97≤a.1∧a.1<(N:Int)) (hd:Dist l) :
  (96<l.length→yZ J l=(15,J))∧(l.length≤96→(yZ J l).1=0∧Wl N (yZ J l).2.D∧JHd N (yZ J l).2.D∧∀r:Int,97≤r→((∀a∈l,a.1≠r)→shown (yZ J l).2.D r=shown J.D r)∧∀b,(r,b)∈l→shown (yZ J l).2.D r=b):=by
 have hb:¬l.any (badW J.D)=true:=qN.1 (List.any_eq_false.2 fun a ha=>by
  have:=hr a ha
  unfold badW
  rw[h.n];simp;omega)
 have hc:=ris_count hd
 constructor
 ·intro h9
  unfold yZ
  rw[if_neg (by rw[hw];decide),if_neg hb,if_pos om]
 intro h9
 unfold yZ
 rw[if_neg (by rw[hw];decide),if_neg hb,if_neg om]
 obtain⟨t1,t2,t3,t4,t5⟩:=h.transJ ((J.num+1)%18446744073709551616) (l:=risF l) (fun a ha=>⟨hr a ((ris_iff hd a).1 ha),hl a ((ris_iff hd a).1 ha)⟩) om (risF_rise l)
 split
 ·rename_i h0
  have e:l=[]:=ya om
  subst e
  exact⟨rfl,h,hj,fun r _=>⟨fun _=>rfl,fun b hb=>by cases hb⟩⟩
 rw[if_neg (by rw[t1];decide)]
 refine⟨rfl,t2,.inr ⟨(J.num+1)%18446744073709551616,risF l,qT _ (by decide),by omega,fun a ha=>⟨hr a ((ris_iff hd a).1 ha),hl a ((ris_iff hd a).1 ha)⟩,risF_rise l,t4,t5,fun a ha=>(t3 a.1 (hr a ((ris_iff hd a).1 ha)).1).2 a.2 ha⟩,fun r h97=>⟨fun hx=>(t3 r h97).1 fun a ha=>hx a ((ris_iff hd a).1 ha),fun b hb=>(t3 r h97).2 b ((ris_iff hd _).2 hb)⟩⟩
end
section
open K
def lOk (n:Nat) (a:FA):Bool:=decide (n≤12)&&(decide (a.nm.size≤200)&&(decide (a.t2.size≤200)&&decide (a.da.size≤6000)))
def lightF (l:List FA):Bool:=l.all (lOk l.length)
theorem light_no {l:List FA} {i:Nat} {a:FA} (hi:i<l.length) (ha:a=l.getD i faz) (h:lOk l.length a=false):lightF l=false:=by
 unfold lightF
 rw[List.all_eq_false]
 refine⟨a,by rw[ha];exact K.getD_mem hi,by rw[h];decide⟩
theorem light_yes {l:List FA} (h:∀j,j<l.length→lOk l.length (l.getD j faz)=true):lightF l=true:=by
 unfold lightF
 rw[q3]
 intro x hx
 obtain⟨i,hi,rfl⟩:=qO.1 hx
 have:=h i hi
 rwa [zc,zd hi]at this
theorem light_at {l:List FA} (h:lightF l=true):∀a∈l,l.length≤12∧FaOk a:=fun a ha=>by
 unfold lightF at h
 have h2:=q3.1 h a ha
 unfold lOk at h2
 simp only[Bool.and_eq_true,decide_eq_true_eq]at h2
 exact⟨h2.1,h2.2.1,h2.2.2.1,h2.2.2.2⟩
theorem light_len {l:List FA} (h:lightF l=true):l.length≤12:=by
 cases l with
 | nil=>exact zH _
 | cons a l=>exact(light_at h a mH).1
theorem fLight (la:Option Addr) (cap:Nat) (l:List FA) (Rl:List (Nat×Obj)) (w:World) (hI:InF acL 4 Rl la l) (hll:l.length≤maxLen) (hR:Has w Rl) :
  Calls Tryz.prog 6 #[.slice la l.length cap] w fun e w'=>e=.returned (.bool (lightF l))∧Ext [] w w':=by
 have hl2:l.length≤9223372036854775807:=hll
 refine enter [] Rl [] Tryz.func6 rfl kr (yj hR) ?_
 refine Rq [0] ?_
 refine Rq [0,5,6,7] ?_
 refine ye rfl (ι:=Nat) (fun(i:Nat)=>[(7,[],iN i),(6,[],iN l.length),(5,[],.slice la l.length cap),(0,[],.slice la l.length cap)]) (fun(i:Nat)=>[]) (fun(i:Nat)=>(i≤l.length)∧(∀j,j<i→lOk l.length (l.getD j faz)=true)) (fun(i:Nat)=>l.length-i) 0 ?_ (Conv.mk kr) .slnil ?_
 ·exact⟨zH _,fun j h=>absurd h (qx j)⟩
 rintro i ⟨hi,hal⟩
 refine Rq [0,5,6,7,8] ?_
 refine eC rfl (p:=((i:Int)<(l.length:Int))) kr (fun c1=>?_) (fun c1=>?_)
 ·obtain⟨sb,off,cs,te,fre,hsb,hmem,hcs⟩:=hI om
  obtain⟨a,hae⟩:∃a,a=l.getD i faz:=⟨_,rfl⟩
  refine zN 5 (show .slice la l.length cap=.slice (some ⟨sb,off,none⟩) l.length cap from by rw[hsb]) ?_
  refine Bp 2 [dZ,(dS (.agg (acC a)))] (some [0,5,6,7,10]) (fun S=>[(0≤(i:Int)∧(i:Int)<(l.length:Int)),(∀w1,S w1→(loadVar 34 ⟨sb,(addO off (i*4)),none⟩).run Tryz.prog w1=.ok (.agg (acC a)) w1)]) ⟨om,(fun w1 h=>yw (vs:=acL a) Tryz.underlying34 rfl kr (acL_len _) (fun j v hj=>by rw[y4];exact(zI (h.ro _ hmem)).trans (fl_cell faz (fun x _=>acL_len x) hcs om (by rw[←hae];exact hj)))),trivial⟩ ?_
  refine Le (zM (z:=(.agg (acC faz))) rfl kr) ?_
  rintro xb ⟨hxb,nxb⟩
  refine Lu (zC (b:=xb) (off:=0) (vs:=(acC a)) (n:=4) rfl kr kr kr rfl (acL_all _) 0 (cs:=(acC faz)) (e:=34) kr (zD 4)) ?_
  refine oL 0 rfl (show _=(acC a) from(show spl (acC faz) 0 (acC a).toList=acC a from yx rfl)) ?_
  refine zg rfl ?_
  refine Cg (Γ':=[(4,[],pT xb),(7,[],iN i),(6,[],iN l.length),(5,[],sP sb off l.length cap),(0,[],.slice la l.length cap)]) ?_
  refine Bq 4 [0,4,5,6,7,14] ?_
  by_cases c2:(decide ((l.length:Int)>(12:Int)))=true
  ·have c2k:(decide ((l.length:Int)>(12:Int)))=true:=c2
   have c2q:=(dT c2k)
   refine qw 14 (b:=(decide ((l.length:Int)>(12:Int)))) kr true c2k ?_
   refine Lp 15 [(2,false,none),(2,false,none),(2,false,none),(2,false,none),(2,false,none),(2,false,none),(2,false,none),(2,false,none),dZ,dZ,(2,false,none),(2,false,none),(2,false,none),(2,false,none)] (some [0,5,6,7,29]) (fun _=>[((.bool true:Value)≠.bool false),((.bool true:Value)≠.bool false),((.bool true:Value)≠.bool false),((.bool true:Value)≠.bool false),((.bool true:Value)≠.bool false),((.bool true:Value)≠.bool false),((.bool true:Value)≠.bool false),((.bool true:Value)≠.bool false),((.bool true:Value)≠.bool false),((.bool true:Value)≠.bool false),((.bool true:Value)≠.bool false),((.bool true:Value)≠.bool false)]) ⟨(by simp),(by simp),(by simp),(by simp),(by simp),(by simp),(by simp),(by simp),(by simp),(by simp),(by simp),(by simp),trivial⟩ ?_
   refine zg rfl ?_
   refine Cfg.condT rfl (b:=true) kr rfl ?_
   refine Rq [2] ?_
   refine Rt [.bool false] (fun w1 hp=>?_)
   have h1:=c2q
   have hno:lOk l.length a=false:=by
    unfold lOk
    rw[qN]
    simp only[ne_eq,Bool.and_eq_true,decide_eq_true_eq]
    intro h9
    omega
   exact⟨by rw[light_no om hae hno];rfl,hp.ext⟩
  have c2k:(decide ((l.length:Int)>(12:Int)))=false:=(by simpa using c2)
  have c2q:=(dF c2k)
  refine qw 14 (b:=(decide ((l.length:Int)>(12:Int)))) kr false c2k ?_
  refine Lp 6 [(1,false,none),(1,false,some (.string a.nm)),(1,false,none),(1,false,none),(1,false,some (.string a.t2)),(1,false,none)] (some [0,4,5,6,7,14,17,20]) (fun S=>[((.bool false:Value)=.bool false),((.bool false:Value)=.bool false),(cE S xb 1 (.string a.nm)),((.bool false:Value)=.bool false),((.bool false:Value)=.bool false),((.bool false:Value)=.bool false),(cE S xb 2 (.string a.t2)),((.bool false:Value)=.bool false)]) ⟨rfl,rfl,(oC 0 rfl rfl),rfl,rfl,rfl,(oC 0 rfl rfl),rfl,trivial⟩ ?_
  refine Lu (Eff.maxI (k:=.i64) (a:=(a.nm.size:Int)) (b:=(a.t2.size:Int)) rfl kr kr) ?_
  refine Lp 8 [(1,false,none),dZ,dZ,dZ,(dS (.string a.da))] (some [0,5,6,7,29]) (fun S=>[((.bool false:Value)=.bool false),((.bool (decide ((if(a.t2.size:Int)>(a.nm.size:Int) then(a.t2.size:Int) else(a.nm.size:Int))>(200:Int))):Value)=.bool false→(cE S xb 3 (.string a.da)))]) ⟨rfl,(fun g0=>have q0:(¬((if(a.t2.size:Int)>(a.nm.size:Int) then(a.t2.size:Int) else(a.nm.size:Int))>(200:Int))):=(dF (boolV g0));(oC 0 rfl rfl)),trivial⟩ ?_
  refine zg rfl ?_
  refine zX rfl (b:=((decide ((if(a.t2.size:Int)>(a.nm.size:Int) then(a.t2.size:Int) else(a.nm.size:Int))>(200:Int))) || (decide ((a.da.size:Int)>(6000:Int))))) kr (fun c4r=>?_) (fun c4r=>?_)
  ·have c4:(((if(a.t2.size:Int)>(a.nm.size:Int) then(a.t2.size:Int) else(a.nm.size:Int))>(200:Int))∨((a.da.size:Int)>(6000:Int))):=((orT c4r).elim (fun h=>Or.inl (dT h)) (fun h=>Or.inr (dT h)))
   refine Rq [2] ?_
   refine Rt [.bool false] (fun w1 hp=>?_)
   have h1:=c2q
   have h2:=c4
   have hno:lOk l.length a=false:=by
    unfold lOk
    rw[qN]
    simp only[ne_eq,Bool.and_eq_true,decide_eq_true_eq]
    intro h9
    split at h2 <;> omega
   exact⟨by rw[light_no om hae hno];rfl,hp.ext⟩
  have c4:((¬((if(a.t2.size:Int)>(a.nm.size:Int) then(a.t2.size:Int) else(a.nm.size:Int))>(200:Int)))∧(¬((a.da.size:Int)>(6000:Int)))):=⟨(dF (orF1 c4r)),(dF (orF2 c4r))⟩
  refine Rg [0,5,6,7] [] (fun _=>[(i6 ((i:Int)+1))]) ⟨om,trivial⟩ ?_
  have hok:lOk l.length a=true:=by
   unfold lOk
   simp only[Bool.and_eq_true,decide_eq_true_eq]
   have h1:=c2q
   have h2:=c4
   split at h2 <;> omega
  refine zN 5 (show .slice (some ⟨sb,off,none⟩) l.length cap=.slice la l.length cap from by rw[hsb]) ?_
  refine zG rfl (i+1) ⟨by omega,fun j hj=>by rcases qy j i with h|h;exact hal j h;rw[show j=i by omega,←hae];exact hok⟩ (by show l.length-(i+1)<l.length-i;omega) (Conv.mk kr) (.cons _ .slnil)
 refine Rq [2] ?_
 refine Rt [.bool true] (fun w1 hp=>?_)
 have hle:i=l.length:=by omega
 subst hle
 exact⟨by rw[light_yes hal];rfl,hp.ext⟩
theorem fMkPut (s t:ByteArray) (w:World) :
  Calls Tryz.prog 28 #[.string s,.string t] w fun e w'=>e=.returned (.agg (acC ⟨1,s,ByteArray.empty,t⟩))∧Ext [] w w':=by
 refine enter [] [] [] Tryz.func28 rfl kr (yy w) ?_
 refine Be rfl rfl (zM (z:=(.agg (acC faz))) rfl kr) ?_
 rintro ab ⟨hab,nab⟩
 refine zg rfl ?_
 refine Bp 3 [dZ,dZ,(dS (.agg (acC ⟨1,s,ByteArray.empty,t⟩)))] (some [4,7]) (fun S=>[(∀w1,S w1→(Instr.build 34 #[(0,.int .i64 1),(1,.string s),(3,.string t)]).run Tryz.prog w1=.ok (.agg (acC ⟨1,s,ByteArray.empty,t⟩)) w1)]) ⟨(fun _ _=>kr),trivial⟩ ?_
 refine Lu (zC (b:=ab) (off:=0) (vs:=(acC ⟨1,s,ByteArray.empty,t⟩)) (n:=4) rfl kr kr kr rfl (acL_all _) 0 (cs:=(acC faz)) (e:=34) kr (zD 4)) ?_
 refine oL 0 rfl (show _=(acC ⟨1,s,ByteArray.empty,t⟩) from(show spl (acC faz) 0 (acC ⟨1,s,ByteArray.empty,t⟩).toList=acC ⟨1,s,ByteArray.empty,t⟩from yx rfl)) ?_
 refine zg rfl ?_
 refine Cg (Γ':=[(4,[],pT ab)]) ?_
 refine yD rfl (rs:=[.cell 4 34]) rfl [.agg (acC ⟨1,s,ByteArray.empty,t⟩)] ⟨⟨_,by kernel_rfl,(fun w1 h=>h.oload 0 rfl Tryz.underlying34 rfl (n:=4) kr rfl)⟩,trivial⟩ (fun w1 hp=>?_)
 exact⟨rfl,hp.ext⟩
theorem fMkRen (s t:ByteArray) (w:World) :
  Calls Tryz.prog 29 #[.string s,.string t] w fun e w'=>e=.returned (.agg (acC ⟨3,s,t,ByteArray.empty⟩))∧Ext [] w w':=by
 refine enter [] [] [] Tryz.func29 rfl kr (yy w) ?_
 refine Be rfl rfl (zM (z:=(.agg (acC faz))) rfl kr) ?_
 rintro ab ⟨hab,nab⟩
 refine zg rfl ?_
 refine Bp 3 [dZ,dZ,(dS (.agg (acC ⟨3,s,t,ByteArray.empty⟩)))] (some [4,7]) (fun S=>[(∀w1,S w1→(Instr.build 34 #[(0,.int .i64 3),(1,.string s),(2,.string t)]).run Tryz.prog w1=.ok (.agg (acC ⟨3,s,t,ByteArray.empty⟩)) w1)]) ⟨(fun _ _=>kr),trivial⟩ ?_
 refine Lu (zC (b:=ab) (off:=0) (vs:=(acC ⟨3,s,t,ByteArray.empty⟩)) (n:=4) rfl kr kr kr rfl (acL_all _) 0 (cs:=(acC faz)) (e:=34) kr (zD 4)) ?_
 refine oL 0 rfl (show _=(acC ⟨3,s,t,ByteArray.empty⟩) from(show spl (acC faz) 0 (acC ⟨3,s,t,ByteArray.empty⟩).toList=acC ⟨3,s,t,ByteArray.empty⟩from yx rfl)) ?_
 refine zg rfl ?_
 refine Cg (Γ':=[(4,[],pT ab)]) ?_
 refine yD rfl (rs:=[.cell 4 34]) rfl [.agg (acC ⟨3,s,t,ByteArray.empty⟩)] ⟨⟨_,by kernel_rfl,(fun w1 h=>h.oload 0 rfl Tryz.underlying34 rfl (n:=4) kr rfl)⟩,trivial⟩ (fun w1 hp=>?_)
 exact⟨rfl,hp.ext⟩
end
section
open K
theorem bv_take (y:List UInt8) (n j:Nat) {v:Value} (h:(bv (y.take n)).toList[j]? = some v):(bv y)[j]? = some v:=by
 have e:∀l:List UInt8,(bv l).toList=l.map fun x=>Value.int .u8 (x.toNat:Int):=fun l=>rfl
 rw[←qj]
 rw[e,qa]at h ⊢
 rw[List.getElem?_take]at h
 split at h
 ·exact h
 cases h
def plIn (N:Nat) (p:Pl):Prop:=p.sz=0∨(121≤p.at_∧p.at_+secs p.sz≤N)
def fdat (D:DK) (p:Pl) (i:Nat):List UInt8:=(List.range i).flatMap fun(n:Nat)=>(zR D ((p.at_:Int)+(n:Int))).take (mC p.sz n)
theorem fdat_next (D:DK) (p:Pl) (i:Nat):fdat D p (i+1)=fdat D p i++(zR D ((p.at_:Int)+(i:Int))).take (mC p.sz i):=by
 unfold fdat
 rw[qc,yY,yv,qY,zm]
theorem fdat_len {D:DK} (h:DG D) (p:Pl):∀i,(fdat D p i).length=min (512*i) p.sz
 | 0=>by show 0=min (512*0) p.sz;omega
 | i+1=>by
  have h1:=yO h ((p.at_:Int)+(i:Int))
  rw[fdat_next,zh,fdat_len h p i,z8,h1]
  unfold mC;omega
def rdK (D:DK) (p:Pl) (j:Nat):List UInt8:=if j=0 then[]else fdat D p (secs p.sz)
theorem rdK_end (D:DK) (p:Pl):rdK D p (yQ p).length=fdat D p (secs p.sz):=by
 unfold rdK
 by_cases h0:p.sz=0
 ·have e:yQ p=[]:=if_pos h0
  rw[e,h0];rfl
 have e:yQ p=[((p.at_:Int),(secs p.sz:Int))]:=if_neg h0
 rw[e];exact if_neg (show ¬1=0 by decide)
theorem run_pos {p:Pl} {j:Nat} (h:j<(yQ p).length):p.sz≠0∧j=0∧(yQ p).length=1:=by
 unfold yQ at h ⊢
 split at h
 ·cases h
 rename_i h0
 have h1:j<1:=h
 exact⟨h0,by omega,by rw[if_neg h0];rfl⟩
theorem bWriteT (b:Nat) (l:List UInt8) (B:Bd) (d n c:Nat) (y:List UInt8) (te:TypeId) (w:World) (hok:BdOk b l B) (hh:Has w (bl 113 5 b l B)) (hd:((bl 113 5 b l B).map (·.1)).Nodup) (hr:l.length+n≤140737488355328) (hn:0<n) (hx:n≤y.length) (hD:w.heap[d]? = some (.cells (bv y) te (0,0))) (hdn:d∉(bl 113 5 b l B).map (·.1)) :
  Calls Tryz.prog 45 #[.pointer (some ⟨b,0,none⟩),.slice (some ⟨d,0,none⟩) n c] w fun e w'=>∃B':Bd,BdOk b (l++y.take n) B'∧e=.returned (.tuple #[.int .i64 (n:Int),.nilIface])∧∃R1,HP w ((bl 113 5 b l B).map (·.1)) R1 (bl 113 5 b (l++y.take n) B') w':=by
 have hxt:(y.take n).length=n:=by rw[z8];omega
 refine enter ((bl 113 5 b l B).map (·.1)) [(d,.cells (bv y) te (0,0))] ([(b,.cells #[B.1,.slice (Own.a B.2) l.length (Own.c B.2)] 113 (0,0))]++(Own.o 5 ((bv l).toList) B.2++[])) Tryz.func45 rfl kr (bl_start hh hd (R:=[(d,.cells (bv y) te (0,0))]) (fun e he=>by rw[zi.1 he];exact hD) (fun e he=>by rw[zi.1 he];exact hdn)) ?_
 refine Rq [0,1] ?_
 refine Bp 1 [] none n0 trivial ?_
 refine Lu (yX (.tuple #[]) 0 (b:=b) (ob:=.cells #[B.1,sO B.2 l.length] 113 (0,0)) (.cells #[pT b,sO B.2 l.length] 113 (0,0)) rfl Tryz.func87 rfl rfl kr kr (fun w1 h=>bCheck b B.1 (sO B.2 l.length) w1 hok.ptr (h.own (b,_) mH))) ?_
 refine zg rfl ?_
 refine Cg (Γ':=[(0,[],pT b),(1,[],sP d 0 n c)]) ?_
 refine Bp 6 [dZ,dZ,dZ,dZ,(dS (sO B.2 l.length))] (some [1,8,12,13]) (fun S=>[(cE S b 1 (sO B.2 l.length))]) ⟨(oC 0 rfl rfl),trivial⟩ ?_
 refine Le (Eff.appendP rfl Tryz.underlying111 kr (z:=.int .u8 0) kr rfl B.2 hok.own kr (b2:=d) (off2:=0) (m:=n) (c2:=c) kr (bv (y.take n)).toList (by rw[bv_len,hxt,jg]) (qF _) [(b,.cells #[pT b,.slice (Own.a B.2) l.length (Own.c B.2)] 113 (0,0))] [] rfl (fun w1 h j v hj=>by rw[zF];exact h.rcell 0 rfl (bv_take y n j hj)) om om om) ?_
 rintro o ⟨ko,kp⟩
 refine Lq 2 [1,14,16] ?_
 refine Lu (zS (b:=b) (off:=1) (v:=sO o ((l.length+n))) rfl kr kr rfl kr 0 (cs:=#[pT b,sO B.2 l.length]) (e:=113) kr (Nat.lt_succ_self 1)) ?_
 refine zg rfl ?_
 refine Cg (Γ':=[(1,[],sP d 0 n c)]) ?_
 refine Rq [4,5] ?_
 refine yD rfl (rs:=[.tmp 4,.tmp 5]) rfl [iN n,.nilIface] ⟨kr,by kernel_rfl,trivial⟩ (fun w1 hp=>?_)
 rw[bv_app]at hp ko
 have hlen:l.length+n=(l++y.take n).length:=by rw[zh,hxt]
 rw[hlen]at ko hp
 exact⟨(pT b,o),⟨.inr rfl,ko,kp⟩,rfl,_,bl_end hp⟩
theorem fRead {N:Nat} (z:FM) (num:Nat) (m:DM) (y:MX) (D:DK) (T:Tb) (s:ByteArray) (k:Nat) (w:World) (hR:Has w (gO z 0 num m T++dO D m y)) (hw:Wl N D) (hmo:MapOk y.1 y.2 (wv2 D.wait)) (hf:FOk z T) (hk:k<144) (hsk:smget T.W s=some (.int .i64 (k:Int))) (hin:plIn N (T.ps.getD k plz)) :
  Calls Tryz.prog 13 #[.pointer (some ⟨z.fb,0,none⟩),.string s] w fun e w'=>e=.returned (.tuple #[.string (tx (fdat D (T.ps.getD k plz) (secs (T.ps.getD k plz).sz))),.int .i64 0])∧Ext [] w w':=by
 obtain⟨P,hP⟩:∃P,P=T.ps.getD k plz:=⟨_,rfl⟩
 rw[←hP]at hin
 have hPo:PlOk P:=by rw[hP];exact hf.tb.o _ (K.getD_mem (by rw[hf.tb.l];exact hk))
 have hPz:=hPo.sz
 have hPa:=hPo.at_
 have hs64:secs P.sz≤64:=by unfold secs;omega
 rw[←hP]
 refine enter [] (gO z 0 num m T++dO D m y) [] Tryz.func13 rfl kr (yj hR) ?_
 refine Rq [0,1] ?_
 refine Bp 1 [] none n0 trivial ?_
 refine Lu (zr (.int .i64 0) rfl Tryz.func24 rfl rfl kr (fun w1 h=>fErr z 0 num m y D T w1 (h.hasR (fun e he=>he)))) ?_
 refine Ld 1 [0,1,6] ?_
 refine Rq [0,1,6,19] ?_
 refine yb rfl (b:=false) kr rfl ?_
 refine Bp 8 [dZ,dZ,dZ,(dS (pT z.tb)),dZ,dZ,(dS (.map (some z.nr)))] (some [0,28,29]) (fun S=>[(∀w1,S w1→w1.cell? ⟨z.fb,1,none⟩=some (pT z.tb)),(∀w1,S w1→w1.cell? ⟨z.tb,432,none⟩=some (.map (some z.nr)))]) ⟨(rC 0 rfl rfl),(fun w1 h=>h.rcell 2 rfl (tb_names hf.tb.l)),trivial⟩ ?_
 refine Lu (Eff.sGet (z:=.int .i64 0) (r:=z.nr) (k:=s) (es:=z.x.1) (ck:=z.x.2) (W:=T.W) rfl Tryz.underlying81 Tryz.underlying9 kr kr kr hf.sm (fun w1 h=>(h.ro _ (mG 3 rfl)))) ?_
 refine Ld 5 [0,7,8] ?_
 refine zN 7 (show(smget T.W s).getD (.int .i64 0)=iN k from by rw[hsk];rfl) ?_
 refine zN 8 (congrArg (fun(xq:Bool)=>(.bool xq:Value)) (show(smget T.W s).isSome=true from by rw[hsk];rfl)) ?_
 refine Rq [0,7,34] ?_
 refine yb rfl (b:=false) kr rfl ?_
 refine Bp 9 [dZ,dZ,dZ,(dS (pT z.tb)),dZ,dZ,dZ,dZ,(dS (.agg (plc P).toArray))] (some [0,43]) (fun S=>[(∀w1,S w1→w1.cell? ⟨z.fb,1,none⟩=some (pT z.tb)),(iL (k:Int) 144),(lV S 85 z.tb (k*3) (.agg (plc P).toArray))]) ⟨(rC 0 rfl rfl),om,(fun w1 h=>yw (vs:=plc P) Tryz.underlying85 rfl kr (plc_len _) (fun q9 v hq9=>h.rcell 2 rfl (tb_cell (by rw[hf.tb.l];exact hk) (by rw[←hP];exact hq9)))),trivial⟩ ?_
 refine Le (zM (z:=(.agg (plc plz).toArray)) rfl kr) ?_
 rintro pb ⟨hpb,npb⟩
 refine Lu (zC (b:=pb) (off:=0) (vs:=(plc P).toArray) (n:=3) rfl kr kr kr rfl (all_plc _) 0 (cs:=(plc plz).toArray) (e:=85) kr (zD 3)) ?_
 refine oL 0 rfl (show _=((plc P).toArray) from(show spl (plc plz).toArray 0 (plc P).toArray.toList=_ from yx rfl)) ?_
 refine zg rfl ?_
 refine Cg (Γ':=[(9,[],pT pb),(0,[],pT z.fb)]) ?_
 refine Be rfl rfl (Eff.allocB 5 [cl pb ((plc P).toArray) 85] [] rfl rfl kr) ?_
 rintro b ⟨hb,nb⟩
 refine zg rfl ?_
 refine Bp 1 [(dS (.agg (plc P).toArray))] none (fun S=>[(lV S 85 pb 0 (.agg (plc P).toArray))]) ⟨(fun w1 h=>yw (vs:=plc P) Tryz.underlying85 rfl kr (plc_len _) (fun q9 v hq9=>h.ocell 0 rfl (by rw[zo,zF];exact hq9))),trivial⟩ ?_
 refine Le (zY (fun rb:Nat=>.slice (rA P rb) ((yQ P).length) ((yQ P).length)) [] (fun rb=>rnO P rb) (fun _=>True) ([cl pb ((plc P).toArray) 85]++(bl 113 5 b ([]) bd0)) [] rfl rfl Tryz.func44 rfl rfl kr (fun w1 h _ _=>fRunU P w1 hPo)) ?_
 rintro rb -
 refine Ld 2 [0,9,10,45,46,47] ?_
 refine zU (congrArg (fun(xq:List UInt8)=>(([cl pb ((plc P).toArray) 85]++(bl 113 5 b xq bd0++(rnO P rb++[]))):LO)) (show _=(rdK D P 0)from rfl)) ?_
 refine ye rfl (ι:=Nat×Bd) (fun(j,B)=>[(47,[],iN j),(46,[],.int .i64 ((yQ P).length:Int)),(45,[],.slice (rA P rb) ((yQ P).length) ((yQ P).length)),(10,[],pT b),(9,[],pT pb),(0,[],pT z.fb)]) (fun(j,B)=>([cl pb ((plc P).toArray) 85]++(bl 113 5 b (rdK D P j) B++(rnO P rb++[])))) (fun(j,B)=>(j≤(yQ P).length)∧(BdOk b (rdK D P j) B)) (fun(j,B)=>(yQ P).length-j) (0,bd0) ?_ (Conv.mk kr) slr ?_
 ·exact⟨zH _,bd0_ok b⟩
 rintro⟨j,B⟩ ⟨hj,hB⟩
 refine Rq [0,9,10,45,46,47,48] ?_
 refine eC rfl (p:=((j:Int)<((yQ P).length:Int))) kr (fun c3=>?_) (fun c3=>?_)
 ·obtain⟨hj1,hj2,hj3⟩:=run_pos (p:=P) (j:=j) om
  refine zN 45 (show .slice (rA P rb) ((yQ P).length) ((yQ P).length)=sP rb 0 (yQ P).length (yQ P).length from by unfold rA;rw[if_neg hj1]) ?_
  refine Bp 2 [dZ,(dS (.agg #[iN P.at_,.int .i64 (secs P.sz:Int)]))] (some [0,9,10,45,46,47,50]) (fun S=>[(0≤(j:Int)∧(j:Int)<((yQ P).length:Int)),(∀w1,S w1→(loadVar 117 ⟨rb,(j*2),none⟩).run Tryz.prog w1=.ok (.agg #[iN P.at_,.int .i64 (secs P.sz:Int)]) w1)]) ⟨om,(fun w1 h=>yw (vs:=[iN P.at_,.int .i64 (secs P.sz:Int)]) Tryz.underlying117 rfl kr rfl (fun q9 v hq9=>by rw[zI (h.own (rb,Obj.cells #[iN P.at_,.int .i64 (secs P.sz:Int)] 117 (0,0)) (mR (mR (mL (by unfold rnO;rw[if_neg hj1];exact mH))))),hj2,Nat.zero_mul,zF,zo];exact hq9)),trivial⟩ ?_
  refine Le (zM (z:=(.agg #[.int .i64 0,.int .i64 0])) rfl kr) ?_
  rintro ub ⟨hub,nub⟩
  refine Lu (zC (b:=ub) (off:=0) (vs:=#[iN P.at_,.int .i64 (secs P.sz:Int)]) (n:=2) rfl kr kr kr rfl (two_one rfl rfl) 0 (cs:=#[.int .i64 0,.int .i64 0]) (e:=117) kr (zD 2)) ?_
  refine yF (congrArg (fun(xq:Array Value)=>(([cl ub xq 117,cl pb ((plc P).toArray) 85]++(bl 113 5 b (rdK D P j) B++(rnO P rb++[]))):LO)) (show _ = #[iN P.at_,iN (secs P.sz)]from rfl)) ?_
  refine zg rfl ?_
  refine Cg (Γ':=[(12,[],pT ub),(47,[],iN j),(46,[],.int .i64 ((yQ P).length:Int)),(45,[],sP rb 0 (yQ P).length (yQ P).length),(10,[],pT b),(9,[],pT pb),(0,[],pT z.fb)]) ?_
  refine Rg [0,9,10,12,45,46,47,52,53] [dZ,(dS (iN (secs P.sz)))] (fun S=>[(cE S ub 1 (iN (secs P.sz)))]) ⟨(oC 0 rfl rfl),trivial⟩ ?_
  refine zU (congrArg (fun(xq:List UInt8)=>(([(ub,.cells #[iN P.at_,iN (secs P.sz)] 117 (0,0)),(pb,.cells ((plc P).toArray) 85 (0,0))]++(bl 113 5 b xq B++(rnO P rb++[]))):LO)) (show _=(fdat D P 0)from by rw[hj2];rfl)) ?_
  refine ye rfl (ι:=Nat×Bd) (fun(i,B2)=>[(53,[],iN i),(52,[],iN (secs P.sz)),(12,[],pT ub),(47,[],iN j),(46,[],.int .i64 ((yQ P).length:Int)),(45,[],sP rb 0 (yQ P).length (yQ P).length),(10,[],pT b),(9,[],pT pb),(0,[],pT z.fb)]) (fun(i,B2)=>([cl ub #[iN P.at_,iN (secs P.sz)] 117,cl pb ((plc P).toArray) 85]++(bl 113 5 b (fdat D P i) B2++(rnO P rb++[])))) (fun(i,B2)=>(i≤secs P.sz)∧(BdOk b (fdat D P i) B2)) (fun(i,B2)=>secs P.sz-i) (0,B) ?_ (Conv.mk kr) slr ?_
  ·exact⟨zH _,by have h9:=hB;rw[hj2]at h9;exact h9⟩
  rintro⟨i,B2⟩ ⟨hi,hB2⟩
  refine Rq [0,9,10,12,45,46,47,52,53,54] ?_
  refine eC rfl (p:=((i:Int)<((secs P.sz):Int))) kr (fun c4=>?_) (fun c4=>?_)
  ·refine Rq [0,9,10,12,13,45,46,47,52,53] ?_
   refine yo rfl kr ([cl ub #[iN P.at_,iN (secs P.sz)] 117,cl pb ((plc P).toArray) 85]++(bl 113 5 b (fdat D P i) B2++(rnO P rb++[]))) ?_
   refine CfgA.join (ι:=Nat) (fun(hb2:Nat)=>([cl hb2 (bv (zR D ((P.at_:Int)+(i:Int)))) 37,cl ub #[iN P.at_,iN (secs P.sz)] 117,cl pb ((plc P).toArray) 85]++(bl 113 5 b (fdat D P i) B2++(rnO P rb++[])))) (fun(hb2:Nat)=>[(15,[],.int .i64 0),(14,[],pT hb2),(13,[],iN i),(53,[],iN i),(52,[],iN (secs P.sz)),(12,[],pT ub),(47,[],iN j),(46,[],.int .i64 ((yQ P).length:Int)),(45,[],sP rb 0 (yQ P).length (yQ P).length),(10,[],pT b),(9,[],pT pb),(0,[],pT z.fb)]) ?_ ?_
   ·rintro hb2
    refine Rq [0,9,10,12,13,14,15,45,46,47,52,53,69] ?_
    refine yb rfl (b:=false) kr rfl ?_
    have hsd:secs P.sz=(P.sz+511) / 512:=rfl
    have hmC:0<mC P.sz i∧mC P.sz i≤512:=by unfold mC;omega
    refine Bp 5 [dZ,(dS (iN P.sz))] (some [0,9,10,12,14,45,46,47,52,53,75]) (fun S=>[(cE S pb 2 (iN P.sz)),(i6 ((i:Int)*512)),(i6 ((P.sz:Int)-((i:Int)*512)))]) ⟨(oC 2 rfl rfl),om,om,trivial⟩ ?_
    refine Lu (Eff.minI2 (k:=.i64) (a:=(512:Int)) (b:=((P.sz:Int)-((i:Int)*512))) ((mC P.sz i:Nat):Int) (by unfold mC;split <;> omega) rfl kr kr) ?_
    refine Lp 1 [] (some [0,9,10,12,45,46,47,52,53,77]) (fun _=>[(0≤((mC P.sz i):Int)),(((mC P.sz i))≤512)]) ⟨om,om,trivial⟩ ?_
    refine Le (zY (fun _=>(.tuple #[iN (mC P.sz i),.nilIface]:Value)) (bl 113 5 b (fdat D P i) B2) (fun B1=>bl 113 5 b ((fdat D P i)++((zR D ((P.at_:Int)+(i:Int)))).take (mC P.sz i)) B1) (fun B1=>BdOk b ((fdat D P i)++((zR D ((P.at_:Int)+(i:Int)))).take (mC P.sz i)) B1) [cl hb2 (bv (zR D ((P.at_:Int)+(i:Int)))) 37,cl ub #[iN P.at_,iN (secs P.sz)] 117,cl pb ((plc P).toArray) 85] (rnO P rb++[]) (by rfl) rfl Tryz.func45 rfl rfl kr (fun w1 h hh hd=>bWriteT b (fdat D P i) B2 hb2 (mC P.sz i) 512 (zR D ((P.at_:Int)+(i:Int))) 37 w1 hB2 hh hd (by have:=fdat_len hw.g P i;omega) hmC.1 (by rw[yO hw.g];exact hmC.2) (h.own (hb2,_) (mL (mG 0 rfl))) (HP.sep (Fl:=[cl hb2 (bv (zR D ((P.at_:Int)+(i:Int)))) 37,cl ub #[iN P.at_,iN (secs P.sz)] 117,cl pb ((plc P).toArray) 85]) (Al:=bl 113 5 b (fdat D P i) B2) (T:=(rnO P rb++[])) h (mG 0 rfl)))) ?_
    rintro B4 kB4
    refine zg rfl ?_
    refine Cg (Γ':=[(53,[],iN i),(52,[],iN (secs P.sz)),(12,[],pT ub),(47,[],iN j),(46,[],.int .i64 ((yQ P).length:Int)),(45,[],sP rb 0 (yQ P).length (yQ P).length),(10,[],pT b),(9,[],pT pb),(0,[],pT z.fb)]) ?_
    refine Rg [0,9,10,12,45,46,47,52,53] [] (fun _=>[(i6 ((i:Int)+1))]) ⟨om,trivial⟩ ?_
    have hfn:=fdat_next D P i
    refine zU (congrArg (fun(xq:List UInt8)=>(([cl hb2 (bv (zR D ((P.at_:Int)+(i:Int)))) 37,cl ub #[iN P.at_,iN (secs P.sz)] 117,cl pb ((plc P).toArray) 85]++(bl 113 5 b xq B4++(rnO P rb++[]))):LO)) (show _=(fdat D P (i+1))from hfn.symm)) ?_
    refine zG rfl (i+1,B4) ⟨by omega,hfn▸kB4⟩ (by show secs P.sz-(i+1)<secs P.sz-i;omega) (Conv.mk kr) (.cons _ slr)
   intro hj
   refine CfgA.pure (List.range 8) [dZ,dZ,dZ,(dS (pT z.jb)),dZ,(dS (iN P.at_))] (some [0,9,10,12,13,45,46,47,52,53,60,64]) (l':=tF 8 7) kr kr slr 7 rfl (Γ':=[(64,[],.int .i64 ((P.at_:Int)+(i:Int))),(60,[],pT z.jb),(13,[],iN i),(53,[],iN i),(52,[],iN (secs P.sz)),(12,[],pT ub),(47,[],iN j),(46,[],.int .i64 ((yQ P).length:Int)),(45,[],sP rb 0 (yQ P).length (yQ P).length),(10,[],pT b),(9,[],pT pb),(0,[],pT z.fb)]) (nd:=(fun S=>[(∀w1,S w1→w1.cell? ⟨z.fb,0,none⟩=some (pT z.jb)),(cE S ub 0 (iN P.at_)),(i6 ((P.at_:Int)+(i:Int)))])) (fun _=>kr) ⟨(rC 0 rfl rfl),(oC 0 rfl rfl),om,trivial⟩ ?_
   refine CfgA.two 8 12 kr (fuel':=6) rfl ?_ ?_
   ·
    refine Iu rfl  (zr (vs:=[pT z.jb,.int .i64 ((P.at_:Int)+(i:Int))]) (.tuple #[.agg (bv (zR D ((P.at_:Int)+(i:Int)))),.int .i64 0]) rfl Tryz.func33 rfl rfl kr (fun w1 h=>by have h9:=jRead z.jb 0 num m y D ((P.at_:Int)+(i:Int)) w1 hw.g hmo (fun e he=>(zq.1 he).elim (fun h1=>h1▸h.ro _ (mG 1 rfl)) (fun h1=>h.ro e (mR h1)));rw[if_neg (by decide),if_neg (by decide),hw.flt (by unfold plIn at hin;omega)]at h9;exact h9)) (fun _ _=>slr) ?_
    refine Ap [9,10,11] [] (some [0,9,10,12,13,45,46,47,52,53,66,67]) (tF 12 3) slr 3 n0 trivial ?_
    refine Ae 12 rfl 2  (zM (z:=(.agg (bv (replicate 512 0)))) rfl kr) (fun _ _=>(.cons _ slr)) ?_
    rintro hb2 ⟨hhb2,nhb2⟩
    refine Au 13 rfl 1  (zC (b:=hb2) (off:=0) (vs:=(bv (zR D ((P.at_:Int)+(i:Int))))) (n:=512) rfl kr kr kr ((zP _).trans (yO hw.g _)) (qF _) 0 (cs:=(bv (replicate 512 0))) (e:=37) kr (by rw[zsz512];omega)) (fun _ _=>(.cons _ slr)) ?_
    refine CfgA.setO (congrArg (fun(xq:Array Value)=>(([cl hb2 xq 37,cl ub #[iN P.at_,iN (secs P.sz)] 117,cl pb ((plc P).toArray) 85]++(bl 113 5 b (fdat D P i) B2++(rnO P rb++[]))):LO)) (show _=(bv (zR D ((P.at_:Int)+(i:Int))))from yx (((zP _).trans (yO hw.g _)).trans zsz512.symm))) ?_
    refine Ap [14] [] (some [0,9,10,12,13,14,15,45,46,47,52,53]) (tF 15 0) (.cons _ slr) 0 n0 trivial ?_
    refine z6 kr ?_
    refine Cg (Γ':=[(15,[],.int .i64 0),(14,[],pT hb2),(13,[],iN i),(53,[],iN i),(52,[],iN (secs P.sz)),(12,[],pT ub),(47,[],iN j),(46,[],.int .i64 ((yQ P).length:Int)),(45,[],sP rb 0 (yQ P).length (yQ P).length),(10,[],pT b),(9,[],pT pb),(0,[],pT z.fb)]) ?_
    exact hj hb2
   
   refine Ie rfl  (zM (z:=(.agg (bv (replicate 512 0)))) rfl kr) (fun _ _=>(.cons _ slr)) ?_
   rintro hb2 ⟨hhb2,nhb2⟩
   refine Au 8 rfl 5  (zr (vs:=[pT z.jb,.int .i64 ((P.at_:Int)+(i:Int))]) (.tuple #[.agg (bv (zR D ((P.at_:Int)+(i:Int)))),.int .i64 0]) rfl Tryz.func33 rfl rfl kr (fun w1 h=>by have h9:=jRead z.jb 0 num m y D ((P.at_:Int)+(i:Int)) w1 hw.g hmo (fun e he=>(zq.1 he).elim (fun h1=>h1▸h.ro _ (mG 1 rfl)) (fun h1=>h.ro e (mR h1)));rw[if_neg (by decide),if_neg (by decide),hw.flt (by unfold plIn at hin;omega)]at h9;exact h9)) (fun _ _=>(.cons _ slr)) ?_
   refine Ap [9,10,11] [] (some [0,9,10,12,13,14,45,46,47,52,53,66,67]) (tF 13 2) (.cons _ slr) 2 n0 trivial ?_
   refine Au 13 rfl 1  (zC (b:=hb2) (off:=0) (vs:=(bv (zR D ((P.at_:Int)+(i:Int))))) (n:=512) rfl kr kr kr ((zP _).trans (yO hw.g _)) (qF _) 0 (cs:=(bv (replicate 512 0))) (e:=37) kr (by rw[zsz512];omega)) (fun _ _=>(.cons _ slr)) ?_
   refine CfgA.setO (congrArg (fun(xq:Array Value)=>(([cl hb2 xq 37,cl ub #[iN P.at_,iN (secs P.sz)] 117,cl pb ((plc P).toArray) 85]++(bl 113 5 b (fdat D P i) B2++(rnO P rb++[]))):LO)) (show _=(bv (zR D ((P.at_:Int)+(i:Int))))from yx (((zP _).trans (yO hw.g _)).trans zsz512.symm))) ?_
   refine Ap [14] [] (some [0,9,10,12,13,14,15,45,46,47,52,53]) (tF 15 0) (.cons _ slr) 0 n0 trivial ?_
   refine z6 kr ?_
   refine Cg (Γ':=[(15,[],.int .i64 0),(14,[],pT hb2),(13,[],iN i),(53,[],iN i),(52,[],iN (secs P.sz)),(12,[],pT ub),(47,[],iN j),(46,[],.int .i64 ((yQ P).length:Int)),(45,[],sP rb 0 (yQ P).length (yQ P).length),(10,[],pT b),(9,[],pT pb),(0,[],pT z.fb)]) ?_
   exact hj hb2
  refine Rg [0,9,10,45,46,47] [] (fun _=>[(i6 ((j:Int)+1))]) ⟨om,trivial⟩ ?_
  have hie:i=secs P.sz:=by omega
  have hrk:fdat D P i=rdK D P (j+1):=by rw[hie];unfold rdK;rw[if_neg om]
  refine zU (congrArg (fun(xq:List UInt8)=>(([cl ub #[iN P.at_,iN (secs P.sz)] 117,cl pb ((plc P).toArray) 85]++(bl 113 5 b xq B2++(rnO P rb++[]))):LO)) (show _=(rdK D P (j+1))from hrk)) ?_
  refine zN 45 (show sP rb 0 (yQ P).length (yQ P).length=.slice (rA P rb) ((yQ P).length) ((yQ P).length)from by unfold rA;rw[if_neg hj1]) ?_
  refine zG rfl (j+1,B2) ⟨by omega,hrk▸hB2⟩ (by show(yQ P).length-(j+1)<(yQ P).length-j;omega) (Conv.mk kr) (.cons _ slr)
 refine Cfg.begL rfl ?_
 refine Lu (zY (fun _:Unit=>(.string (tx (rdK D P j)):Value)) (bl 113 5 b (rdK D P j) B) (fun _=>[]) (fun _=>True) [cl pb ((plc P).toArray) 85] (rnO P rb++[]) (by rfl) rfl Tryz.func46 rfl rfl kr (fun w1 h hh hd=>bString b (rdK D P j) B w1 hB hh hd (by have:=fdat_len hw.g P (secs P.sz);rw[show j=(yQ P).length by omega,rdK_end];omega))) ?_
 refine Ld 2 [4,5] ?_
 refine yD rfl (rs:=[.tmp 4,.tmp 5]) rfl [.string (tx (rdK D P j)),.int .i64 0] ⟨kr,by kernel_rfl,trivial⟩ (fun w1 hp=>?_)
 have hje:j=(yQ P).length:=by omega
 exact⟨by rw[←rdK_end,←hje];rfl,hp.ext⟩
theorem fReadNo (z:FM) (num:Nat) (m:DM) (y:MX) (D:DK) (T:Tb) (s:ByteArray) (w:World) (hR:Has w (gO z 0 num m T++dO D m y)) (hf:FOk z T) (hsk:smget T.W s=none) :
  Calls Tryz.prog 13 #[.pointer (some ⟨z.fb,0,none⟩),.string s] w fun e w'=>e=.returned (.tuple #[.string ByteArray.empty,.int .i64 16])∧Ext [] w w':=by
 refine enter [] (gO z 0 num m T++dO D m y) [] Tryz.func13 rfl kr (yj hR) ?_
 refine Rq [0,1] ?_
 refine Bp 1 [] none n0 trivial ?_
 refine Lu (zr (.int .i64 0) rfl Tryz.func24 rfl rfl kr (fun w1 h=>fErr z 0 num m y D T w1 (h.hasR (fun e he=>he)))) ?_
 refine Ld 1 [0,1,6] ?_
 refine Rq [0,1,6,19] ?_
 refine yb rfl (b:=false) kr rfl ?_
 refine Bp 8 [dZ,dZ,dZ,(dS (pT z.tb)),dZ,dZ,(dS (.map (some z.nr)))] (some [0,28,29]) (fun S=>[(∀w1,S w1→w1.cell? ⟨z.fb,1,none⟩=some (pT z.tb)),(∀w1,S w1→w1.cell? ⟨z.tb,432,none⟩=some (.map (some z.nr)))]) ⟨(rC 0 rfl rfl),(fun w1 h=>h.rcell 2 rfl (tb_names hf.tb.l)),trivial⟩ ?_
 refine Lu (Eff.sGet (z:=.int .i64 0) (r:=z.nr) (k:=s) (es:=z.x.1) (ck:=z.x.2) (W:=T.W) rfl Tryz.underlying81 Tryz.underlying9 kr kr kr hf.sm (fun w1 h=>(h.ro _ (mG 3 rfl)))) ?_
 refine Ld 5 [0,7,8] ?_
 refine Rq [0,7,34] ?_
 refine Cfg.condT rfl (b:=(!(smget T.W s).isSome)) kr (by rw[hsk];rfl) ?_
 refine Cfg.reg rfl [4,5] [] (Γ':=[(5,[],.int .i64 16),(4,[],.string ⟨#[]⟩)]) (nd:=(fun _=>[])) (fun _=>kr) trivial ?_
 refine yD rfl (rs:=[.tmp 4,.tmp 5]) rfl [.string ⟨#[]⟩,.int .i64 16] ⟨kr,by kernel_rfl,trivial⟩ (fun w1 hp=>?_)
 exact⟨rfl,hp.ext⟩
end
section
open K
theorem getD_setE {ps:List Pl} {q:Nat} {p:Pl} (h:q<ps.length):(ps.set q p).getD q plz=p:=by
 rw[zc,List.getElem?_set_self h];rfl
theorem six_rep {k:Nat} (hk:k<24):six (replicate 144 plz) k=replicate 6 plz:=by
 unfold six
 rw[List.drop_replicate,List.take_replicate,qC om]
theorem sheet_rep {k:Nat} (hk:k<24):yN (replicate 144 plz) k=zb:=by
 unfold yN shL
 rw[six_rep hk];kernel_rfl
theorem raw_zb {k:Nat} (hk:k<6):zu zb k=replicate 81 0:=by
 unfold zu zb
 rw[List.drop_replicate,List.take_replicate,qC om]
theorem cnt_rep:cnt0 (tx (replicate 81 0))=81:=by kernel_rfl
theorem ent_zb {N k n:Nat} (hn:n<24):∀j,j≤6→entL zb n j (T0 N)=(true,T0 N)
 | 0,_=>by unfold entL;rw[decide_eq_true (show yN (T0 N).ps n=zb from sheet_rep hn)]
 | j+1,h=>by
  have e:entP (6*n+(5-j)) (zu zb (5-j)) (T0 N)=some (T0 N):=ent_skip (by rw[raw_zb om];exact cnt_rep)
  unfold entL
  rw[e]
  exact ent_zb (k:=k) hn j om
theorem new_shown {n:Nat} (q:Int):shown (newD n) q=zb:=by
 show(replicate n zb).getD q.toNat zb=zb
 rw[zc,qh]
 split <;> rfl
theorem Wl.new {N:Nat} (h:121<N∧N≤400):Wl N (newD N):=⟨DG.new (by omega),rfl,rfl,newD_len N,h⟩
theorem Wl.n2:Wl 200 (newD 200):=Wl.new (by decide)
theorem op_new {N:Nat} (hN:121<N∧N≤400):∀j,j≤24→opL (newD N) j (T0 N)=(true,T0 N)
 | 0,_=>rfl
 | j+1,h=>by
  have e:zR (newD N) (97+((23-j:Nat):Int))=zb:=by rw[(Wl.new hN).read om];exact new_shown _
  unfold opL
  rw[e,ent_zb (k:=0) om 6 (zD 6)]
  exact op_new hN j om
def sA:ByteArray:=⟨#[97]⟩
def sB:ByteArray:=⟨#[98]⟩
def sHi:ByteArray:=⟨#[104,105]⟩
def ex1:FA:=⟨1,sA,ByteArray.empty,sHi⟩
def ex2:FA:=⟨3,sA,sB,ByteArray.empty⟩
def s00:Fz:=⟨0,newD 200,(T0 200)⟩
theorem fr00:newF 121 200=replicate 79 true:=rfl
theorem runs79:yW (replicate 79 true) 0=[(0,79)]:=by
 rw[runsAt_some (n:=79) (by decide) kr (by decide),runsAt_end (by decide)]
theorem take79:yr 121 (newF 121 200) 1=(121,0,fill (replicate 79 true) 0 1 false):=by
 have h:=take_ok (f:=121) (fr:=replicate 79 true) (n:=1) (pre:=[]) (rest:=[]) (k:=0) (m:=79) (by decide) runs79 (fun y hy=>by cases hy) (by decide)
 rw[fr00]
 exact h.1
def exT1:Tb:=⟨(T0 200).ps.set 0 ⟨sA,121,2⟩,[(sA,.int .i64 0)],fill (replicate 79 true) 0 1 false⟩
def exT2:Tb:=⟨exT1.ps.set 0 ⟨sB,121,2⟩,[(sB,.int .i64 0)],exT1.fr⟩
def exDm:Dm:=[(0,sHi)]
theorem ex_put:actF (T0 200) [] ex1=(0,exT1,exDm):=by
 rw[act_put (show chkF ex1=0 by kernel_rfl) rfl]
 have hk:pfx (T0 200).ps 0=((0:Nat):Int):=rfl
 show putF (T0 200) [] sA sHi=_
 rw[putF_new (show smget (T0 200).W sA=none from rfl) hk]
 unfold putG
 rw[if_neg (show ¬secs sHi.size=0 by decide)]
 have e:yr 121 (T0 200).fr (secs sHi.size:Int)=(121,0,fill (replicate 79 true) 0 1 false):=take79
 rw[e];rfl
theorem ex_ren:actF exT1 exDm ex2=(0,exT2,exDm):=by
 rw[act_ren (k:=0) (show chkF ex2=0 by kernel_rfl) rfl (show smget exT1.W ex2.nm=some (.int .i64 ((0:Nat):Int))from rfl) (show(smget exT1.W ex2.t2).isSome=false by kernel_rfl)]
 rfl
theorem ex_acts:actsF [ex1,ex2] s00.T []=(0,exT2,exDm):=by
 show actsF [ex1,ex2] (T0 200) []=_
 rw[actsF,ex_put,if_neg (show ¬(0:Int)≠0 by decide)]
 show actsF [ex2] exT1 exDm=_
 rw[actsF,ex_ren,if_neg (show ¬(0:Int)≠0 by decide)];rfl
theorem exT1_len:exT1.ps.length=144:=by
 show((T0 200).ps.set 0 ⟨sA,121,2⟩).length=144
 rw[yc];exact zk
theorem exT2_at:exT2.ps.getD 0 plz=⟨sB,121,2⟩:=by
 show(exT1.ps.set 0 ⟨sB,121,2⟩).getD 0 plz=_
 exact getD_setE (by rw[exT1_len];decide)
theorem ex_sec:secF exT2 exDm=shWs exT2.ps 24++[((121:Int),qt sHi 0)]:=by
 unfold secF
 have e:keysF exDm=[0]:=by unfold keysF srt;simp[exDm]
 have e3:=exT2_at
 have e4:keyW exT2 exDm 0=[((121:Int),qt sHi 0)]:=by
  show fileW (exT2.ps.getD 0 plz) sHi (secs sHi.size)=_
  rw[e3];rfl
 rw[e,yv,qY,zm,e4]
theorem ex_tb:TbOk exT2:=tb_in (T:=exT1) (tb_in (T:=(T0 200)) (T0_ok 200) (p:=⟨sA,121,2⟩) ⟨by decide,by decide,by decide⟩ (by decide) (W:=[(sA,.int .i64 0)]) (fr:=fill (replicate 79 true) 0 1 false) (by kernel_rfl)) (p:=⟨sB,121,2⟩) ⟨by decide,by decide,by decide⟩ (by decide) (W:=[(sB,.int .i64 0)]) (fr:=exT1.fr) rfl
theorem ex_ul:ulF (newD 200) (secF exT2 exDm)=ulF (newD 200) (shWs exT2.ps 24)++[((121:Int),qt sHi 0)]:=by
 have h:zR (newD 200) 121=zb:=by rw[Wl.n2.read om];exact new_shown _
 have h1:(zb==qt sHi 0)=false:=by kernel_rfl
 have h3:unl (newD 200) ((121:Int),qt sHi 0)=true:=by
  show((fltF (newD 200) 121 != 0) || !(zR (newD 200) 121==qt sHi 0))=true
  rw[h,h1];simp
 have h2:[((121:Int),qt sHi 0)].filter (unl (newD 200))=[((121:Int),qt sHi 0)]:=by rw[qS,if_pos h3,List.filter_nil]
 rw[ex_sec]
 unfold ulF
 rw[ja,h2]
theorem ex_do:∃(n:Nat) (D:DK),doF s00 [ex1,ex2]=(0,⟨n,D,exT2⟩)∧Wl 200 D∧shown D 121=qt sHi 0:=by
 have hw:WW (ulF (newD 200) (secF exT2 exDm)):=ulF_w (secF_w ex_tb _)
 obtain⟨c1,c2⟩:=Wl.n2.commit (J:=⟨0,0,newD 200⟩) rfl hw
 have hr:∀a∈ulF (newD 200) (secF exT2 exDm),97≤a.1∧a.1<200:=fun a ha=>by
  rw[ex_ul]at ha
  rcases yG.1 ha with ha|ha
  ·obtain⟨k,hk,rfl⟩:=zv.1 (qD.1 ha).1
   have:=qz.1 hk
   simp only
   omega
  ·rw[zi.1 ha];decide
 have hl:(ulF (newD 200) (secF exT2 exDm)).length≤96:=by
  rw[ex_ul,zh]
  have h1:=List.length_filter_le (unl (newD 200)) (shWs exT2.ps 24)
  rw[shWs_len]at h1
  rw[q6]
  unfold ulF
  omega
 obtain⟨d1,d2⟩:=Wl.n2.commit_ok (J:=⟨0,0,newD 200⟩) rfl hw hr hl
 have d3:=d2 121 (qt sHi 0) (by decide) (by rw[ex_ul,lwF_app];simp[lwF])
 obtain⟨C,hC⟩:∃C,C=yZ ⟨0,0,newD 200⟩ (ulF (newD 200) (secF exT2 exDm)):=⟨_,rfl⟩
 rw[←hC]at c2 d1 d3
 have hc:C=comF s00 exT2 exDm:=by unfold comF;exact hC
 exact⟨C.2.num,C.2.D,do_ok (s:=s00) (l:=[ex1,ex2]) (show ¬2=0 by decide) ex_acts hc d1,c2,d3⟩
theorem ex_read {D:DK} (h:Wl 200 D) (hs:shown D 121=qt sHi 0):tx (fdat D (exT2.ps.getD 0 plz) (secs (exT2.ps.getD 0 plz).sz))=sHi:=by
 have e:=exT2_at
 rw[e]
 show tx (fdat D ⟨sB,121,2⟩ 1)=sHi
 have e2:zR D (((121:Nat):Int)+((0:Nat):Int))=qt sHi 0:=by
  have:=h.read (q:=121) om
  rw[hs]at this;exact this
 rw[fdat_next]
 show tx (fdat D ⟨sB,121,2⟩ 0++(zR D (((121:Nat):Int)+((0:Nat):Int))).take (mC 2 0))=sHi
 rw[e2];kernel_rfl
end
section
open K
theorem byteF_app (n:Nat) (r:List UInt8) (h:n<256):byteF ⟨0,be n 1++r⟩=(n,⟨0,r⟩):=by
 unfold byteF
 rw[nextF_app (be n 1) r (by rw[be_len];rfl),valF_be n 1 (by decide) (by simpa using h),Nat.mod_eq_of_lt h]
theorem tx_self (s:ByteArray):tx s.data.toList=s:=by cases s;rfl
theorem set_self {ps:List Pl} {k:Nat} (hk:k<ps.length) {p:Pl} (h:ps.getD k plz=p):ps.set k p=ps:=by
 refine List.ext_getElem (by rw[yc]) fun i h1 h2=>?_
 have e:=set_at hk p i
 rw[getD_of _ h1]at e
 rw[e]
 split
 ·rename_i h3;subst h3;rw[←h,getD_of _ h2]
 rw[getD_of _ h2]
theorem pl_z:plL plz=replicate 81 0:=by kernel_rfl
theorem pl_read {p:Pl} (h:PlOk p):yt (plL p)=p∧eL (plL p)=p.nm.size∧(eN (plL p)).length=72:=by
 have h1:=h.nm
 have h2:=h.at_
 have h3:=h.sz
 have hb:(p.nm.data.toList++replicate (72-p.nm.size) 0).length=72:=by rw[zh,zk,ba_len];omega
 have e0:byteF ⟨0,plL p⟩=(p.nm.size,⟨0,(p.nm.data.toList++replicate (72-p.nm.size) 0)++flat four [p.at_,p.sz]⟩):=byteF_app _ _ om
 have eZ_:eZ (plL p)=⟨0,(p.nm.data.toList++replicate (72-p.nm.size) 0)++flat four [p.at_,p.sz]⟩:=congrArg Prod.snd e0
 have eL_:eL (plL p)=p.nm.size:=congrArg Prod.fst e0
 have e1:nextF (eZ (plL p)) 72=(p.nm.data.toList++replicate (72-p.nm.size) 0,⟨0,flat four [p.at_,p.sz]⟩):=by rw[eZ_];exact nextF_app _ _ (by rw[hb];rfl)
 have eN_:eN (plL p)=p.nm.data.toList++replicate (72-p.nm.size) 0:=congrArg Prod.fst e1
 have eW_:eW (plL p)=⟨0,four p.at_++(four p.sz++[])⟩:=by
  have:eW (plL p)=⟨0,flat four [p.at_,p.sz]⟩:=congrArg Prod.snd e1
  rw[this];simp[flat]
 have f1:=fourF_app p.at_ (four p.sz++[]) h2
 have f2:=fourF_app p.sz [] om
 have hn:nmOf (plL p)=p.nm:=by
  unfold nmOf
  rw[eN_,eL_,←ba_len p.nm,List.take_left,tx_self]
 refine⟨?_,eL_,by rw[eN_,hb]⟩
 unfold yt
 rw[hn,eW_,f1]
 show(⟨p.nm,p.at_,(ym ⟨0,four p.sz++[]⟩).1⟩:Pl)=p
 rw[f2]
theorem cnt_le:∀(l:List UInt8) (n:Int),l.foldl (fun n x=>if x==(0:Int).toNat.toUInt8 then n+1 else n) n≤n+l.length
 | [],n=>by show n≤n+((0:Nat):Int);omega
 | x::l,n=>by
  rw[q8,zL]
  by_cases h:(x==(0:Int).toNat.toUInt8)=true
  ·rw[if_pos h];have:=cnt_le l (n+1);omega
  rw[if_neg h];have:=cnt_le l n;omega
theorem cnt_named {p:Pl} (h:PlOk p) (h0:0<p.nm.size):¬cnt0 (tx (plL p))=81:=by
 have h1:=h.nm
 have hl:=plL_len h
 have e:plL p=UInt8.ofNat p.nm.size::((p.nm.data.toList++replicate (72-p.nm.size) 0)++flat four [p.at_,p.sz]):=by unfold plL;rw[be_one];rfl
 have hx:(UInt8.ofNat p.nm.size==(0:Int).toNat.toUInt8)=false:=by
  rw[beq_eq_false_iff_ne]
  intro e2
  have:=congrArg UInt8.toNat e2
  rw[UInt8.toNat_ofNat']at this
  have h3:((0:Int).toNat.toUInt8).toNat=0:=rfl
  omega
 unfold cnt0
 rw[Go.Lib.foldl_data,tx_list,e,q8,hx]
 rw[e,zL]at hl
 have:=cnt_le ((p.nm.data.toList++replicate (72-p.nm.size) 0)++flat four [p.at_,p.sz]) (((0:Nat):Int))
 simp only[Bool.false_eq_true,if_false]
 omega
theorem raw_flat {l:List Pl} (h:∀p∈l,PlOk p) (R:List UInt8) {k:Nat} (hk:k<l.length):zu (flat plL l++R) k=plL (l.getD k plz):=by
 have e:l=l.take k++(l.getD k plz::l.drop (k+1)):=by rw[getD_of _ hk,←yn hk,yz]
 have h1:(flat plL (l.take k)).length=81*k:=by rw[flat81 (fun p hp=>h p (qV hp)),z8,qC om]
 have h2:(plL (l.getD k plz)).length=81:=plL_len (h _ (getD_inN hk))
 have e2:flat plL l=flat plL (l.take k)++(plL (l.getD k plz)++flat plL (l.drop (k+1))):=by
  conv=>lhs;rw[e,flat_app]
  rfl
 unfold zu
 rw[e2,zO,drop_pre h1,zO,take_pre h2]
theorem raw_sheet {ps:List Pl} (hl:ps.length=144) (h:∀p∈ps,PlOk p) {n k:Nat} (hn:n<24) (hk:k<6):zu (yN ps n) k=plL (ps.getD (6*n+k) plz):=by
 unfold yN shL
 rw[raw_flat (fun p hp=>h p (six_in hp)) _ (by rw[six_len hl hn];exact hk),six_at hk]
theorem sheet_upto {ps:List Pl} (hl:ps.length=144) {n:Nat} (hn:n<24):yN (upto (6*n+6) ps) n=yN ps n:=by
 have hu:=upto_len (q:=6*n+6) (ps:=ps) om
 have e:six (upto (6*n+6) ps) n=six ps n:=by
  have h1:=six_len (ps:=upto (6*n+6) ps) om hn
  have h2:=six_len hl hn
  refine List.ext_getElem (by rw[h1,h2]) fun i h3 h4=>?_
  have e1:=six_at (ps:=upto (6*n+6) ps) (n:=n) (i:=i) om
  have e2:=six_at (ps:=ps) (n:=n) (i:=i) om
  rw[getD_of _ h3,upto_at om,if_pos om]at e1
  rw[getD_of _ h4]at e2
  rw[e1,e2]
 unfold yN shL
 rw[e]
structure Part (N q:Nat) (L:List RF) (T:Tb):Prop where
 p:T.ps=upto q (L.map yh)
 f:T.fr=frC N (upto q (L.map yh))
 k:WOk T.W
 w:∀nm k,smget T.W nm=some (.int .i64 ((k:Nat):Int))↔k<q∧0<nm.size∧(L.getD k rfz).nm=nm
theorem part_step {N q:Nat} {L:List RF} {T0 T:Tb} (h:Rel N T0 L) (hok:∀p∈T0.ps,PlOk p) (hp:Part N q L T) (hq:q<144):∃T2,entP q (plL ((L.map yh).getD q plz)) T=some T2∧Part N (q+1) L T2:=by
 have hl:(L.map yh).length=144:=by rw[zA];exact h.l
 have hu:=upto_len (q:=q) (ps:=L.map yh) om
 have hnx:=upto_next (q:=q) (ps:=L.map yh) om
 have hat:=map_at L q
 have hz:(upto q (L.map yh)).getD q plz=plz:=by rw[upto_at om,if_neg (Nat.lt_irrefl q)]
 have hpo:PlOk ((L.map yh).getD q plz):=hok _ (by rw[h.ps];exact getD_inN om)
 by_cases h0:(L.getD q rfz).nm.size=0
 ·have e:=h.z q h0
  rw[hat,e,toPl_z,pl_z]
  have hs:upto (q+1) (L.map yh)=upto q (L.map yh):=by rw[hnx,hat,e,toPl_z];exact set_self om hz
  refine⟨T,ent_skip cnt_rep,by rw[hs];exact hp.p,by rw[hs];exact hp.f,hp.k,fun nm k=>?_⟩
  rw[hp.w nm k]
  constructor
  ·rintro⟨x1,x2,x3⟩;exact⟨by omega,x2,x3⟩
  rintro⟨x1,x2,x3⟩
  refine⟨?_,x2,x3⟩
  rcases qy k q with x4|x4
  ·exact x4
  have:k=q:=by omega
  rw[this]at x3
  rw[←x3]at x2;omega
 have h1:0<(L.getD q rfz).nm.size:=Nat.pos_of_ne_zero h0
 obtain⟨n1,n2,n3⟩:=h.n q h1
 obtain⟨p,hpe⟩:∃p,p=(L.map yh).getD q plz:=⟨_,rfl⟩
 have hpn:p.nm=(L.getD q rfz).nm:=by rw[hpe,hat];rfl
 have hps:p.sz=(L.getD q rfz).da.size:=by rw[hpe,hat];rfl
 have hpa:p.at_=(L.getD q rfz).at_:=by rw[hpe,hat];rfl
 rw[←hpe]at hpo hnx ⊢
 obtain⟨r1,r2,r3⟩:=pl_read hpo
 have hnone:smget T.W p.nm=none:=by
  rcases w_none hp.k (nm:=p.nm)with e|⟨k,e⟩
  ·exact e
  ·obtain⟨k1,k2,k3⟩:=(hp.w _ k).1 e
   have:=h.u k q (k3.trans hpn) (by rw[k3];exact k2)
   omega
 have hnm:nmOf (plL p)=p.nm:=congrArg Pl.nm r1
 have hbn:badN (plL p)=false:=by
  unfold badN
  rw[hnm,hpn,n1,r2,r3,decide_eq_false (by have:=hpo.nm;omega)];rfl
 have hbp:badP T.W (yt (plL p))=false:=by
  unfold badP
  rw[r1,hnone,decide_eq_false om]
  by_cases hs:p.sz=0
  ·rw[decide_eq_true hs,decide_eq_false (fun x=>x (by rw[hpa];exact n3 (by rw[←hps];exact hs)))];rfl
  ·rw[decide_eq_false hs];rfl
 have hlay:Lay N ((upto q (L.map yh)).set q p):=by
  rw[←hnx,←h.ps]
  exact h.lay.upto (by rw[h.ps];omega)
 obtain⟨c1,c2⟩:=frC_claim (ps:=upto q (L.map yh)) (k:=q) om (by rw[hz];rfl) hlay
 refine⟨_,ent_ok (cnt_named hpo (by rw[hpn];exact h1)) hbn hbp (by rw[r1,hp.f];exact fun e=>e c1),?_⟩
 rw[r1]
 refine⟨by rw[hnx,←hp.p],by rw[hnx,←c2,←hp.f],hp.k.set _ hq,fun nm k=>?_⟩
 show smget (smset T.W p.nm (.int .i64 (q:Int))) nm=_↔_
 rw[smget_set]
 by_cases hb:nm=p.nm
 ·rw[if_pos hb]
  constructor
  ·intro x
   injection x with x;injection x with _ x
   have x:q=k:=by omega
   exact⟨by omega,by rw[hb,hpn];exact h1,by rw[←x,hb,hpn]⟩
  rintro⟨_,x2,x3⟩
  have:=h.u k q (x3.trans (hb.trans hpn)) (by rw[x3];exact x2)
  rw[this]
 rw[if_neg hb,hp.w nm k]
 constructor
 ·rintro⟨x1,x2,x3⟩;exact⟨by omega,x2,x3⟩
 rintro⟨x1,x2,x3⟩
 refine⟨?_,x2,x3⟩
 rcases qy k q with x4|x4
 ·exact x4
 have e4:k=q:=by omega
 rw[e4]at x3
 exact absurd (x3.symm.trans hpn.symm) hb
theorem part_ent {N:Nat} {L:List RF} {T0:Tb} (h:Rel N T0 L) (hok:∀p∈T0.ps,PlOk p) {n:Nat} (hn:n<24):∀(j:Nat) (T:Tb),j≤6→Part N (6*n+(6-j)) L T→∃T2,entL (yN T0.ps n) n j T=(true,T2)∧Part N (6*n+6) L T2
 | 0,T,_,hp=>by
  refine⟨T,?_,hp⟩
  unfold entL
  have hl:T0.ps.length=144:=h.pl
  rw[hp.p,←h.ps,show 6*n+(6-0)=6*n+6 from rfl,sheet_upto hl hn,decide_eq_true rfl]
 | j+1,T,hj,hp=>by
  rw[show 6*n+(6-(j+1))=6*n+(5-j) by omega]at hp
  obtain⟨T1,e1,p1⟩:=part_step h hok hp om
  rw[←h.ps,←raw_sheet h.pl hok hn (show 5-j<6 by omega)]at e1
  rw[show 6*n+(5-j)+1=6*n+(6-j) by omega]at p1
  obtain⟨T2,e2,p2⟩:=part_ent h hok hn j T1 om p1
  refine⟨T2,?_,p2⟩
  unfold entL
  rw[e1]
  exact e2
theorem part_op {N:Nat} {L:List RF} {T0:Tb} {D:DK} (h:Rel N T0 L) (hok:∀p∈T0.ps,PlOk p) (hd:∀n:Nat,n<24→zR D (97+(n:Int))=yN T0.ps n):∀(j:Nat) (T:Tb),j≤24→Part N (6*(24-j)) L T→∃T2,opL D j T=(true,T2)∧Part N 144 L T2
 | 0,T,_,hp=>⟨T,rfl,hp⟩
 | j+1,T,hj,hp=>by
  rw[show 6*(24-(j+1))=6*(23-j)+(6-6) by omega]at hp
  obtain⟨T1,e1,p1⟩:=part_ent h hok (n:=23-j) om 6 T (zD 6) hp
  rw[show 6*(23-j)+6=6*(24-j) by omega]at p1
  obtain⟨T2,e2,p2⟩:=part_op h hok hd j T1 om p1
  refine⟨T2,?_,p2⟩
  unfold opL
  rw[hd (23-j) om,e1,if_pos rfl]
  exact e2
theorem part_0 {N:Nat} {L:List RF} (hN:121<N∧N≤400) (hl:L.length=144):Part N 0 L (T0 N):=by
 have e:upto 0 (L.map yh)=replicate 144 plz:=by rw[upto_none,zA,hl]
 refine⟨by rw[e];rfl,?_,WOk.nil,fun nm k=>⟨(fun x=>by cases x),fun x=>absurd x.1 (qx k)⟩⟩
 have h1:=(lay_none N (ps:=upto 0 (L.map yh)) (fun i=>by rw[upto_at (zH _),if_neg (qx i)];rfl)).2
 rw[h1]
 show newF 121 (N:Int)=_
 unfold newF
 rw[if_neg om,show((N:Int)-121).toNat=N-121 by omega,qC om]
theorem part_all {N:Nat} {L:List RF} {T0 T:Tb} (h:Rel N T0 L) (hp:Part N 144 L T):Rel N T L:=by
 have e:upto 144 (L.map yh)=L.map yh:=by
  have h1:=upto_all (L.map yh)
  rw[zA,h.l]at h1;exact h1
 have hps:=hp.p
 have hfr:=hp.f
 rw[e]at hps hfr
 refine⟨h.l,hps,by rw[hps];exact hfr,by rw[hps,←h.ps];exact h.lay,h.z,h.n,h.u,hp.k,fun nm k=>?_⟩
 rw[hp.w nm k]
 exact⟨fun x=>x.2,fun x=>⟨h.lt (by rw[x.2];exact x.1),x⟩⟩
theorem open_rel {N:Nat} {L:List RF} {T0_:Tb} {D:DK} (h:Rel N T0_ L) (hN:121<N∧N≤400) (hok:∀p∈T0_.ps,PlOk p) (hd:∀n:Nat,n<24→zR D (97+(n:Int))=yN T0_.ps n):∃T2,opL D 24 (T0 N)=(true,T2)∧Rel N T2 L:=by
 obtain⟨T2,e,hp⟩:=part_op h hok hd 24 (T0 N) (zD _) (part_0 hN h.l)
 exact⟨T2,e,part_all h hp⟩
theorem rel_new {N:Nat} (hN:121<N∧N≤400):Rel N (T0 N) (replicate 144 rfz):=by
 have hz:∀i,(replicate 144 rfz).getD i rfz=rfz:=fun i=>by
  rw[zc,qh]
  split <;> rfl
 have hm:(replicate 144 rfz).map yh=replicate 144 plz:=by rw[List.map_replicate];rfl
 have hp:∀i,((T0 N).ps.getD i plz).sz=0:=fun i=>by
  show((replicate 144 plz).getD i plz).sz=0
  rw[zc,qh]
  split <;> rfl
 obtain⟨h1,h2⟩:=lay_none N hp
 refine⟨zk,hm.symm,?_,h1,fun i _=>hz i,fun i x=>?_,fun i j _ x=>?_,WOk.nil,fun nm k=>?_⟩
 ·rw[h2]
  show newF 121 (N:Int)=_
  unfold newF
  rw[if_neg om,show((N:Int)-121).toNat=N-121 by omega,qC om]
 ·rw[hz]at x;exact absurd x (by decide)
 ·rw[hz]at x;exact absurd x (by decide)
 rw[hz]
 exact⟨(fun x=>by cases x),fun⟨x1,x2⟩=>by rw[←x2]at x1;exact absurd x1 (by decide)⟩
end
section
open K
def nv (l:List Nat):List Value:=l.map fun(x:Nat)=>Value.int .i64 (x:Int)
theorem nv_len (l:List Nat):(nv l).length=l.length:=by unfold nv;rw[zA]
theorem nv_snoc (l:List Nat) (x:Nat):nv l++[Value.int .i64 (x:Int)]=nv (l++[x]):=by unfold nv;rw[yf];rfl
theorem nv_get {l:List Nat} {i:Nat} (h:i<l.length):(nv l)[i]? = some (.int .i64 ((l.getD i 0:Nat):Int)):=by
 unfold nv
 rw[qa,zc,zd h];rfl
def up (k:Nat):List Nat:=(List.range k).map fun i=>121+i
theorem up_len (k:Nat):(up k).length=k:=by unfold up;rw[zA,qk]
theorem up_next (k:Nat):up (k+1)=up k++[121+k]:=by unfold up;rw[qc,yf];rfl
theorem up_nv (k:Nat):nv (up k)++[Value.int .i64 ((121+k:Nat):Int)]=nv (up (k+1)):=by rw[nv_snoc,←up_next]
def frL (fr:List Bool):List Nat:=((List.range fr.length).filter fun i=>fr.getD i false).map fun i=>121+i
theorem frL_mem {fr:List Bool} {x:Nat}:x∈frL fr↔121≤x∧fr.getD (x-121) false=true:=by
 unfold frL
 rw[zv]
 constructor
 ·rintro⟨i,hi,rfl⟩
  rw[qD]at hi
  exact⟨by omega,by rw[Nat.add_sub_cancel_left];exact hi.2⟩
 rintro⟨h1,h2⟩
 refine⟨x-121,qD.2 ⟨qz.2 ?_,h2⟩,by omega⟩
 rcases qy (x-121) fr.length with h3|h3
 ·exact h3
 rw[zc,qn h3]at h2;cases h2
theorem frL_len (fr:List Bool):(frL fr).length≤fr.length:=by
 unfold frL
 rw[zA]
 exact yU (List.length_filter_le _ _) (by rw[qk];exact zD _)
theorem frL_all (n:Nat):frL (replicate n true)=up n:=by
 unfold frL up
 rw[zk,List.filter_eq_self.2]
 intro i hi
 rw[zc,qh,if_pos (qz.1 hi)];rfl
theorem frL_snoc (l:List Bool) (b:Bool):frL (l++[b])=frL l++if b then[121+l.length] else[]:=by
 unfold frL
 rw[zh,q6,qc,ja,yf]
 congr 1
 ·congr 1
  refine List.filter_congr fun i hi=>?_
  rw[zc,zJ (qz.1 hi),←zc]
 have e:(l++[b]).getD l.length false=b:=by rw[zc,yd (zD _),qH];rfl
 cases b with
 | false=>rw[qS,if_neg (by rw[e];decide)];rfl
 | true=>rw[qS,if_pos (by rw[e])];rfl
theorem frL_cnt (fr:List Bool):(frL fr).length=fr.count true:=by
 induction h:fr.length generalizing fr with
 | zero=>rw[ya h];rfl
 | succ n ih=>
  obtain⟨l,b,rfl⟩:∃l b,fr=l++[b]:=⟨fr.dropLast,fr.getLast (fun e=>by rw[e]at h;cases h),(List.dropLast_concat_getLast _).symm⟩
  rw[zh,q6]at h
  rw[frL_snoc,zh,ih l om,List.count_append]
  cases b <;> rfl
def spD (sb n:Nat) (o:K.Own) (l:List Nat):List (Nat×Obj):=(sb,.cells #[.int .i64 121,.int .i64 (n:Int),.slice (Own.a o) l.length (Own.c o)] 63 (0,0))::Own.o 3 (nv l) o
theorem own_at {o:K.Own} {l:List Nat} (h:OwnOk o 1 l.length (nv l)) {i:Nat} (hi:i<l.length):∃b c j,o=some (b,c,j)∧Own.o 3 (nv l) o=[(b,.cells (nv l++j).toArray 3 (0,0))]:=by
 obtain⟨⟨b,c,j⟩,rfl⟩:=own_some h om
 exact⟨b,c,j,rfl,rfl⟩
theorem nv_cell {w:World} {b i:Nat} {l:List Nat} {j:List Value} {t:TypeId} {fr:Nat×Nat} (h:w.heap[b]? = some (.cells (nv l++j).toArray t fr)) (hi:i<l.length):w.cell? ⟨b,i,none⟩=some (.int .i64 ((l.getD i 0:Nat):Int)):=by
 rw[zI h,zo,zJ (by rw[nv_len];exact hi),nv_get hi]
theorem anyHit5 {l:List Nat} {i x:Nat} (hi:i<l.length) (h:l.getD i 0=x):decide (x∈l)=true:=decide_eq_true (by rw[←h,zc,zd hi];exact qr hi)
theorem anyNo5 {l:List Nat} {x:Nat} (h:∀j,j<l.length→l.getD j 0≠x):decide (x∈l)=false:=decide_eq_false fun hm=>by
 obtain⟨i,hi,e⟩:=qO.1 hm
 refine h i hi ?_
 rw[zc,zd hi];exact e
theorem r5New (N:Nat) (w:World) (hN:121<N∧N≤400) :
  Calls Tryz.prog 55 #[.int .i64 121,.int .i64 (N:Int)] w fun e w'=>∃z:Nat×K.Own,OwnOk z.2 1 (up (N-121)).length (nv (up (N-121)))∧e=.returned (.pointer (some ⟨z.1,0,none⟩))∧∃R1,HP w [] R1 (spD z.1 (N-121) z.2 (up (N-121))) w':=by
 refine enter [] [] [] Tryz.func55 rfl kr (yy w) ?_
 refine Rq [0,1] ?_
 refine Bp 2 [dZ,(dS (.agg #[.int .i64 121,.int .i64 0,.slice none 0 0]))] (some [0,1,7]) (fun S=>[(∀w1,S w1→(Instr.build 63 #[(0,.int .i64 121)]).run Tryz.prog w1=.ok (.agg #[.int .i64 121,.int .i64 0,.slice none 0 0]) w1)]) ⟨(fun _ _=>kr),trivial⟩ ?_
 refine Le (y7 (v:=.agg #[.int .i64 121,.int .i64 0,.slice none 0 0]) rfl kr) ?_
 rintro sb ⟨hsb,nsb⟩
 refine Ld 1 [0,1,5] ?_
 refine oB 0 rfl (show _ = #[.int .i64 121,.int .i64 (0:Int),sO none 0]from rfl) ?_
 refine ye rfl (ι:=Nat×K.Own) (fun(k,o)=>[(5,[],pT sb),(0,[],.int .i64 121),(1,[],iN N)]) (fun(k,o)=>([cl sb #[.int .i64 121,iN k,sO o k] 63]++(Own.o 3 (nv (up k)) o++[]))) (fun(k,o)=>(k≤N-121)∧(OwnOk o 1 k (nv (up k)))) (fun(k,o)=>N-121-k) (0,none) ?_ (Conv.mk kr) slr ?_
 ·exact⟨zH _,OwnOk.none _⟩
 rintro⟨k,o⟩ ⟨hk,ho⟩
 refine Rg [0,1,5,28] [dZ,dZ,dZ,dZ,dZ,dZ,dZ,(dS (iN k)),dZ,dZ,dZ,dZ,dZ,dZ,dZ,(dS (iN k))] (fun S=>[((.bool (decide ((N:Int)>(121:Int))):Value)=.bool true→(cE S sb 1 (iN k))),((.bool ((decide ((N:Int)>(121:Int)))&&(decide ((k:Int)<(4096:Int)))):Value)=.bool true→(cE S sb 1 (iN k))),((.bool ((decide ((N:Int)>(121:Int)))&&(decide ((k:Int)<(4096:Int)))):Value)=.bool true→(i6 (121+(k:Int))))]) ⟨(fun g0=>have q0:((N:Int)>(121:Int)):=(dT (boolV g0));(oC 0 rfl rfl)),(fun g0=>have q0:(((N:Int)>(121:Int))∧((k:Int)<(4096:Int))):=⟨(dT (andT1 (boolV g0))),(dT (andT2 (boolV g0)))⟩;(oC 0 rfl rfl)),(fun g0=>have q0:(((N:Int)>(121:Int))∧((k:Int)<(4096:Int))):=⟨(dT (andT1 (boolV g0))),(dT (andT2 (boolV g0)))⟩;om),trivial⟩ ?_
 refine zX rfl (b:=(((decide ((N:Int)>(121:Int)))&&(decide ((k:Int)<(4096:Int))))&&(decide ((121+(k:Int))<(N:Int))))) kr (fun c1r=>?_) (fun c1r=>?_)
 ·have c1:((((N:Int)>(121:Int))∧((k:Int)<(4096:Int)))∧((121+(k:Int))<(N:Int))):=⟨⟨(dT (andT1 (andT1 c1r))),(dT (andT2 (andT1 c1r)))⟩,(dT (andT2 c1r))⟩
  refine yo rfl kr [] ?_
  refine Ap [0,1,2,3,5,6,7,8] [] (some [0,1,5,29,32,34,37]) (bF 495 16) (.cons _ nL) 8 n0 trivial ?_
  refine CfgA.two 4 9 kr (fuel':=7) rfl ?_ ?_
  ·
   refine Iu rfl  (qm (raw:=false) (orc:=some (sO o k)) (v:=sO o k) (nd:=(fun S=>[(cE S sb 2 (sO o k))])) (fun _=>kr) ⟨(oC 0 rfl rfl),trivial⟩ kr) (fun _ _=>zz _) ?_
   refine Au 9 rfl 6  (qm (raw:=false) (orc:=some (iN k)) (v:=iN k) (nd:=(fun S=>[(cE S sb 1 (iN k))])) (fun _=>kr) ⟨(oC 0 rfl rfl),trivial⟩ kr) (fun _ _=>zz _) ?_
   refine Ap [10] [] (some [0,1,5,29,33,39]) (tF 11 5) (.cons _ nL) 5 (fun _=>[(i6 (121+(k:Int)))]) ⟨om,trivial⟩ ?_
   refine Ae 11 rfl 4  (yP (e:=3) (cells:=#[.int .i64 (121+(k:Int))]) (parts:=#[(0,.int .i64 (121+(k:Int)))]) rfl kr (fun _=>kr)) (fun _ _=>zz _) ?_
   rintro tb ⟨htb,ntb⟩
   refine Ae 12 rfl 3  (y8 rfl 1 8 Tryz.underlying61 kr (z:=(.int .i64 0)) kr kr o (xs:=(nv (up k))) ho kr (b2:=tb) (off2:=0) (m:=1) (c2:=1) kr ([.int .i64 (121+(k:Int))]) rfl (by intro q hq;rw[zi.1 hq];rfl) [(tb,.cells #[.int .i64 (121+(k:Int))] 3 (0,0)),(sb,.cells #[.int .i64 121,iN k,.slice (Own.a o) k (Own.c o)] 63 (0,0))] [] (by rfl) (fun w1 h j v hj=>by rw[zF];exact h.ocell 0 rfl (by rw[zo];exact hj)) om om) (fun _ _=>zz _) ?_
   rintro o1 ko1
   refine Ap [13,14] [] (some [0,1,5,41,43]) (tF 15 1) (.cons _ (.cons _ nL)) 1 n0 trivial ?_
   refine Au 15 rfl 0  (zS (b:=sb) (off:=2) (v:=sO o1 ((k+1))) rfl kr kr rfl kr 1 (cs:=#[.int .i64 121,iN k,sO o k]) (e:=63) kr (by simp)) (fun _ _=>zz _) ?_
   refine z6 kr ?_
   refine Cg (Γ':=[(5,[],pT sb),(0,[],.int .i64 121),(1,[],iN N)]) ?_
   refine Bp 7 [dZ,dZ,dZ,(dS (iN k))] (some [0,1,5,48,50]) (fun S=>[(cE S sb 1 (iN k)),(i6 ((k:Int)+1))]) ⟨(oC 1 rfl rfl),om,trivial⟩ ?_
   refine Lu (zS (b:=sb) (off:=1) (v:=.int .i64 ((k:Int)+1)) rfl kr kr rfl kr 1 (cs:=(#[.int .i64 121,iN k,sO o k].setIfInBounds 2 (sO o1 ((k+1))))) (e:=63) kr (by simp)) ?_
   refine zg rfl ?_
   refine Cg (Γ':=[(5,[],pT sb),(0,[],.int .i64 121),(1,[],iN N)]) ?_
   have hrv:=up_nv k
   refine zU (congrArg (fun(xq:Array Value)=>(([cl tb #[.int .i64 (121+(k:Int))] 3,cl sb xq 63]++(Own.o 3 ((nv (up k))++[.int .i64 (121+(k:Int))]) o1++[])):LO)) (show _ = #[.int .i64 121,iN ((k+1)),sO o1 ((k+1))]from rfl)) ?_
   refine zU (congrArg (fun(xq:List Value)=>(([cl tb #[.int .i64 (121+(k:Int))] 3,cl sb #[.int .i64 121,iN ((k+1)),sO o1 ((k+1))] 63]++(Own.o 3 xq o1++[])):LO)) (show _=(nv (up (k+1)))from hrv)) ?_
   refine zG rfl (k+1,o1) ⟨by omega,hrv▸ko1⟩ (by show N-121-(k+1)<N-121-k;omega) (Conv.mk kr) (.cons _ slr)
  
  refine Iu rfl  (qm (raw:=false) (orc:=some (iN k)) (v:=iN k) (nd:=(fun S=>[(cE S sb 1 (iN k))])) (fun _=>kr) ⟨(oC 0 rfl rfl),trivial⟩ kr) (fun _ _=>zz _) ?_
  refine Ap [10] [] (some [0,1,5,29,32,39]) (bF 2031 16) (.cons _ nL) 6 (fun _=>[(i6 (121+(k:Int)))]) ⟨om,trivial⟩ ?_
  refine CfgA.two 4 11 kr (fuel':=5) rfl ?_ ?_
  ·
   refine Iu rfl  (qm (raw:=false) (orc:=some (sO o k)) (v:=sO o k) (nd:=(fun S=>[(cE S sb 2 (sO o k))])) (fun _=>kr) ⟨(oC 0 rfl rfl),trivial⟩ kr) (fun _ _=>zz _) ?_
   refine Ae 11 rfl 4  (yP (e:=3) (cells:=#[.int .i64 (121+(k:Int))]) (parts:=#[(0,.int .i64 (121+(k:Int)))]) rfl kr (fun _=>kr)) (fun _ _=>zz _) ?_
   rintro tb ⟨htb,ntb⟩
   refine Ae 12 rfl 3  (y8 rfl 1 8 Tryz.underlying61 kr (z:=(.int .i64 0)) kr kr o (xs:=(nv (up k))) ho kr (b2:=tb) (off2:=0) (m:=1) (c2:=1) kr ([.int .i64 (121+(k:Int))]) rfl (by intro q hq;rw[zi.1 hq];rfl) [(tb,.cells #[.int .i64 (121+(k:Int))] 3 (0,0)),(sb,.cells #[.int .i64 121,iN k,.slice (Own.a o) k (Own.c o)] 63 (0,0))] [] (by rfl) (fun w1 h j v hj=>by rw[zF];exact h.ocell 0 rfl (by rw[zo];exact hj)) om om) (fun _ _=>zz _) ?_
   rintro o2 ko2
   refine Ap [13,14] [] (some [0,1,5,41,43]) (tF 15 1) (.cons _ (.cons _ nL)) 1 n0 trivial ?_
   refine Au 15 rfl 0  (zS (b:=sb) (off:=2) (v:=sO o2 ((k+1))) rfl kr kr rfl kr 1 (cs:=#[.int .i64 121,iN k,sO o k]) (e:=63) kr (by simp)) (fun _ _=>zz _) ?_
   refine z6 kr ?_
   refine Cg (Γ':=[(5,[],pT sb),(0,[],.int .i64 121),(1,[],iN N)]) ?_
   refine Bp 7 [dZ,dZ,dZ,(dS (iN k))] (some [0,1,5,48,50]) (fun S=>[(cE S sb 1 (iN k)),(i6 ((k:Int)+1))]) ⟨(oC 1 rfl rfl),om,trivial⟩ ?_
   refine Lu (zS (b:=sb) (off:=1) (v:=.int .i64 ((k:Int)+1)) rfl kr kr rfl kr 1 (cs:=(#[.int .i64 121,iN k,sO o k].setIfInBounds 2 (sO o2 ((k+1))))) (e:=63) kr (by simp)) ?_
   refine zg rfl ?_
   refine Cg (Γ':=[(5,[],pT sb),(0,[],.int .i64 121),(1,[],iN N)]) ?_
   have hrv:=up_nv k
   refine zU (congrArg (fun(xq:Array Value)=>(([cl tb #[.int .i64 (121+(k:Int))] 3,cl sb xq 63]++(Own.o 3 ((nv (up k))++[.int .i64 (121+(k:Int))]) o2++[])):LO)) (show _ = #[.int .i64 121,iN ((k+1)),sO o2 ((k+1))]from rfl)) ?_
   refine zU (congrArg (fun(xq:List Value)=>(([cl tb #[.int .i64 (121+(k:Int))] 3,cl sb #[.int .i64 121,iN ((k+1)),sO o2 ((k+1))] 63]++(Own.o 3 xq o2++[])):LO)) (show _=(nv (up (k+1)))from hrv)) ?_
   refine zG rfl (k+1,o2) ⟨by omega,hrv▸ko2⟩ (by show N-121-(k+1)<N-121-k;omega) (Conv.mk kr) (.cons _ slr)
  
  refine Ie rfl  (yP (e:=3) (cells:=#[.int .i64 (121+(k:Int))]) (parts:=#[(0,.int .i64 (121+(k:Int)))]) rfl kr (fun _=>kr)) (fun _ _=>zz _) ?_
  rintro tb ⟨htb,ntb⟩
  refine Au 4 rfl 4  (qm (raw:=false) (orc:=some (sO o k)) (v:=sO o k) (nd:=(fun S=>[(cE S sb 2 (sO o k))])) (fun _=>kr) ⟨(oC 1 rfl rfl),trivial⟩ kr) (fun _ _=>zz _) ?_
  refine Ae 12 rfl 3  (y8 rfl 1 8 Tryz.underlying61 kr (z:=(.int .i64 0)) kr kr o (xs:=(nv (up k))) ho kr (b2:=tb) (off2:=0) (m:=1) (c2:=1) kr ([.int .i64 (121+(k:Int))]) rfl (by intro q hq;rw[zi.1 hq];rfl) [(tb,.cells #[.int .i64 (121+(k:Int))] 3 (0,0)),(sb,.cells #[.int .i64 121,iN k,.slice (Own.a o) k (Own.c o)] 63 (0,0))] [] (by rfl) (fun w1 h j v hj=>by rw[zF];exact h.ocell 0 rfl (by rw[zo];exact hj)) om om) (fun _ _=>zz _) ?_
  rintro o3 ko3
  refine Ap [13,14] [] (some [0,1,5,41,43]) (tF 15 1) (.cons _ (.cons _ nL)) 1 n0 trivial ?_
  refine Au 15 rfl 0  (zS (b:=sb) (off:=2) (v:=sO o3 ((k+1))) rfl kr kr rfl kr 1 (cs:=#[.int .i64 121,iN k,sO o k]) (e:=63) kr (by simp)) (fun _ _=>zz _) ?_
  refine z6 kr ?_
  refine Cg (Γ':=[(5,[],pT sb),(0,[],.int .i64 121),(1,[],iN N)]) ?_
  refine Bp 7 [dZ,dZ,dZ,(dS (iN k))] (some [0,1,5,48,50]) (fun S=>[(cE S sb 1 (iN k)),(i6 ((k:Int)+1))]) ⟨(oC 1 rfl rfl),om,trivial⟩ ?_
  refine Lu (zS (b:=sb) (off:=1) (v:=.int .i64 ((k:Int)+1)) rfl kr kr rfl kr 1 (cs:=(#[.int .i64 121,iN k,sO o k].setIfInBounds 2 (sO o3 ((k+1))))) (e:=63) kr (by simp)) ?_
  refine zg rfl ?_
  refine Cg (Γ':=[(5,[],pT sb),(0,[],.int .i64 121),(1,[],iN N)]) ?_
  have hrv:=up_nv k
  refine zU (congrArg (fun(xq:Array Value)=>(([cl tb #[.int .i64 (121+(k:Int))] 3,cl sb xq 63]++(Own.o 3 ((nv (up k))++[.int .i64 (121+(k:Int))]) o3++[])):LO)) (show _ = #[.int .i64 121,iN ((k+1)),sO o3 ((k+1))]from rfl)) ?_
  refine zU (congrArg (fun(xq:List Value)=>(([cl tb #[.int .i64 (121+(k:Int))] 3,cl sb #[.int .i64 121,iN ((k+1)),sO o3 ((k+1))] 63]++(Own.o 3 xq o3++[])):LO)) (show _=(nv (up (k+1)))from hrv)) ?_
  refine zG rfl (k+1,o3) ⟨by omega,hrv▸ko3⟩ (by show N-121-(k+1)<N-121-k;omega) (Conv.mk kr) (.cons _ slr)
 have c1:(((¬((N:Int)>(121:Int)))∨(¬((k:Int)<(4096:Int))))∨(¬((121+(k:Int))<(N:Int)))):=((andF c1r).elim (fun h=>Or.inl ((andF h).elim (fun h=>Or.inl (dF h)) (fun h=>Or.inr (dF h)))) (fun h=>Or.inr (dF h)))
 refine Rq [4] ?_
 refine Rt [pT sb] (fun w1 hp=>?_)
 have hke:k=N-121:=by omega
 subst hke
 have h9:HP w [] [] (spD sb (N-121) o (up (N-121))) w1:=by
  unfold spD
  rw[up_len]
  have h8:=hp
  simp only[List.append_nil,List.cons_append,List.nil_append]at h8
  exact h8
 exact⟨(sb,o),by rw[up_len];exact ho,rfl,_,h9⟩
theorem r5Has (sb n:Nat) (o:K.Own) (l:List Nat) (x:Nat) (w:World) (hR:Has w (spD sb n o l)) (ho:OwnOk o 1 l.length (nv l)) (hl:l.length≤400) :
  Calls Tryz.prog 92 #[.pointer (some ⟨sb,0,none⟩),.int .i64 (x:Int)] w fun e w'=>e=.returned (.bool (decide (x∈l)))∧Ext [] w w':=by
 refine enter [] (spD sb n o l) [] Tryz.func92 rfl kr (yj hR) ?_
 refine Rq [0,1] ?_
 refine Rg [1,10,11,12] [dZ,dZ,dZ,(dS (sO o l.length))] (fun S=>[(cE S sb 2 (sO o l.length))]) ⟨(rC 0 rfl rfl),trivial⟩ ?_
 refine ye rfl (ι:=Nat) (fun(i:Nat)=>[(12,[],iN i),(11,[],iN l.length),(10,[],sO o l.length),(1,[],iN x)]) (fun(i:Nat)=>[]) (fun(i:Nat)=>(i≤l.length)∧(∀j,j<i→l.getD j 0≠x)) (fun(i:Nat)=>l.length-i) 0 ?_ (Conv.mk kr) .slnil ?_
 ·exact⟨zH _,fun j h=>absurd h (qx j)⟩
 rintro i ⟨hi,hal⟩
 refine Rq [1,10,11,12,13] ?_
 refine eC rfl (p:=((i:Int)<(l.length:Int))) kr (fun c1=>?_) (fun c1=>?_)
 ·obtain⟨fb,fc,fj,hof,hoo⟩:=own_at ho (i:=i) om
  refine zN 10 (show .slice (Own.a o) l.length (Own.c o)=.slice (some ⟨fb,0,none⟩) l.length fc from by rw[hof];rfl) ?_
  refine Rg [1,6,10,11,12] [dZ,(dS (iN (l.getD i 0)))] (fun S=>[(iL (i:Int) (l.length:Int)),(cE S fb i (iN (l.getD i 0)))]) ⟨om,(fun w1 h=>nv_cell (h.ro _ (zf _ (by rw[hoo];exact mH))) om),trivial⟩ ?_
  refine Rq [1,10,11,12,18] ?_
  refine zX rfl (b:=(((l.getD i 0):Int)==(x:Int))) kr (fun c2r=>?_) (fun c2r=>?_)
  ·have c2:=(beq_iff_eq.1 c2r)
   refine Rq [4] ?_
   refine Rt [.bool true] (fun w1 hp=>?_)
   rw[anyHit5 (l:=l) (x:=x) (i:=i) om om]
   exact⟨rfl,hp.ext⟩
  have c2:=(beq_eq_false_iff_ne.1 c2r)
  refine Rg [1,10,11,12] [] (fun _=>[(i6 ((i:Int)+1))]) ⟨om,trivial⟩ ?_
  refine zN 10 (show .slice (some ⟨fb,0,none⟩) l.length fc=.slice (Own.a o) l.length (Own.c o)from by rw[hof];rfl) ?_
  refine zG rfl (i+1) ⟨by omega,fun j hj=>by rcases qy j i with h|h;exact hal j h;rw[show j=i by omega];intro e;apply c2;omega⟩ (by show l.length-(i+1)<l.length-i;omega) (Conv.mk kr) .slnil
 refine Rq [4] ?_
 refine Rt [.bool false] (fun w1 hp=>?_)
 rw[anyNo5 (l:=l) (x:=x) (fun j hj=>hal j om)]
 exact⟨rfl,hp.ext⟩
end
end Go.Proofs.YtfgdepggdiibdaaGreatDoor