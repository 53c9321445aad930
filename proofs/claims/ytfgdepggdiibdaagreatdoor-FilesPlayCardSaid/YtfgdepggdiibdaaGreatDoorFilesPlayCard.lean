/- The card of the law FilesPlay: in every world in which the table sha.rounds lies as the program lays it, for every input, the law returns true and every argument reads as it did. Out of the walk filesPlayWalk. -/
import Derived.Test.YtfgdepggdiibdaaGreatDoorP11
import Derived.Test.YtfgdepggdiibdaaGreatDoorCards
import Derived.Test.YtfgdepggdiibdaaGreatDoorTie
import Derived.Test.YtfgdepggdiibdaaGreatDoorP1
import Derived.WalkKit
import Derived.ProofKit
import Derived.OpenShut
import Derived.ShutString
import Derived.ChangeOld
import Derived.Below
import Derived.Deep.DeepHandedRow
import Derived.Lib.LaidTab
set_option linter.unusedVariables false
set_option maxRecDepth 100000
set_option maxHeartbeats 8000000
namespace Go.Proofs.YtfgdepggdiibdaaGreatDoor.filesPlay
open Go.ChangeShapes Go.WideShapes Go.ChangeAt Go.RowKit K
open Go.ChangeMaps (open_string shut_string)
theorem own:ownKnob Tryz.prog.godebug=none:=by kernel_rfl
theorem laidOut:laidOutB Tryz.prog=true:=by kernel_rfl
theorem gTab : Tryz.prog.globalNamed "parterre/sha.rounds" = some 1 := by kernel_rfl
theorem gTabType:(Tryz.prog.globals[1]?).map (·.type)=some 283:=by kernel_rfl
theorem cellsT:Tryz.prog.cellsOf 283=64:=by kernel_rfl
theorem cellsE:Tryz.prog.cellsOf 157=1:=by kernel_rfl
def roundsL:List Int:=[1116352408,1899447441,3049323471,3921009573,961987163,1508970993,2453635748,2870763221,3624381080,310598401,607225278,1426881987,1925078388,2162078206,2614888103,3248222580,3835390401,4022224774,264347078,604807628,770255983,1249150122,1555081692,1996064986,2554220882,2821834349,2952996808,3210313671,3336571891,3584528711,113926993,338241895,666307205,773529912,1294757372,1396182291,1695183700,1986661051,2177026350,2456956037,2730485921,2820302411,3259730800,3345764771,3516065817,3600352804,4094571909,275423344,430227734,506948616,659060556,883997877,958139571,1322822218,1537002063,1747873779,1955562222,2024104815,2227730452,2361852424,2428436474,2756734187,3204031479,3329325298]
theorem table {W : World} (h : laidMetH Tryz.prog Rows.filesPlayRow.laid W) : Lib.TabIs Tryz.prog W "parterre/sha.rounds" .u32 roundsL :=
 Lib.tabIs_of_head (rest:=[]) gTab gTabType Tryz.underlying283 Tryz.underlying157 cellsE cellsT h
theorem block {W : World} (h : Lib.TabIs Tryz.prog W "parterre/sha.rounds" .u32 roundsL) : ∃ t fr,Has W [(1,.cells (wv Kc) t fr)] := by
 unfold Lib.TabIs World.var? at h
 rw[gTab]at h
 simp only[Option.bind_some]at h
 split at h
 ·rename_i cs t fr hb
  simp only[Option.some.injEq]at h
  refine⟨t,fr,fun e he=>?_⟩
  rw[List.mem_singleton.1 he]
  rw[show wv Kc=cs from(by kernel_rfl:wv Kc=(roundsL.map fun z=>Value.int .u32 z).toArray).trans h.symm]
  exact hb
 cases h
theorem contract (H:Type) (enc:TypeId×Value→H) (W:World) (base:Nat) (args:Array Value) (ds gs:List (DataW H)) (before:List MemPlace)
  (hval:∀(j:Nat) t v,Tryz.f4.params[j]? = some t→args[j]? = some v→Value.okWide Tryz.prog W .any base t v)
  (hW:DataW.Whole enc Tryz.prog Tryz.f4.params.toList Rows.filesPlaySpec.vars false W args.toList ds gs before) (hL:laidMetH Tryz.prog Rows.filesPlayRow.laid W) :
  Calls Tryz.prog 4 args W fun e W'=>∃v,e=.returned v∧Rows.filesPlaySpec.post enc Tryz.prog Tryz.f4 false true false false W args v W':=by
 have hW':=hW
 obtain⟨p,q,hA0,hV,rfl,hfz,hnd⟩:=hW
 have hA:DataW.TrodAll enc Tryz.prog W 0 (fun _=>true) true Tryz.f4.params.toList args.toList ds p:=hA0
 rw[Tryz.params4]at hA hval
 obtain⟨v0,vs0,d0,ds0,p0,q0,hargs,rfl,rfl,h0,r0⟩:=trodAll_cons hA
 obtain⟨v1,vs1,d1,ds1,p1,q1,rfl,rfl,rfl,h1,r1⟩:=trodAll_cons r0
 obtain⟨rfl,rfl,rfl⟩:=trodAll_nil r1
 obtain rfl:args = #[v0,v1]:=by cases args;simp_all
 obtain⟨rfl,rfl⟩:=trodVars_none hV
 have k0:=h0
 have lt0:∀x∈p0,x.block<W.heap.size:=by obtain⟨m,hm⟩:=k0;exact DataW.trod_lt m _ _ _ hm
 have k1:=h1
 have lt1:∀x∈p1,x.block<W.heap.size:=by obtain⟨m,hm⟩:=k1;exact DataW.trod_lt m _ _ _ hm
 obtain⟨a0,rfl,rfl,rfl,w0⟩:=open_int Tryz.underlying5 (hval 0 5 v0 rfl rfl) h0
 obtain⟨c0,rfl,hc0⟩:∃c:Nat,a0=(c:Int)∧c<256:=by
  have h9:=w0
  simp[Lit.wf,IntKind.min,IntKind.max,IntKind.signed,IntKind.bits]at h9
  exact⟨a0.toNat,by omega,by omega⟩
 obtain⟨la,cap,xs,R0,rfl,hcl,hcm,_,hxs,hR0,hI0⟩:=open_flat (sz:=1) (fun x:SE×LO=>seC x.1) (fun a=>Has W a.2∧SEok a.2 a.1) Tryz.underlying48 kr (by decide) (fun cs fuel y _ g2=>se_open cs fuel y g2) (hval 1 48 v1 rfl rfl) h1
 obtain⟨R1,hR1,hI1,hP1⟩:=ses_open hxs hR0 hI0
 have hxl:xs.length=(xs.map (·.1)).length:=(List.length_map ..).symm
 clear hA0
 obtain⟨t0,fr0,hT⟩:=block (table hL)
 refine(show Calls Tryz.prog 4 #[.int .u8 (c0:Int),.slice la xs.length cap] W (fun e w'=>e=.returned (.bool true)∧Ext [] W w')from by have q:=filesPlayWalk c0 la cap (xs.map (·.1)) R1 W hc0 hI1 hP1 (by rw[←hxl];exact Nat.le_trans hcl hcm) (has_app (A:=[_]) hT hR1);rw[←hxl]at q;exact q).mono fun e W' ⟨he,hx⟩=>?_
 subst he
 have bel:=hx.below
 exact⟨_,rfl,_,_,_,[],_,[],hW',trodAll_mk1 (shut_bool Tryz.underlying4 _),(trodAll_cons_mk (Below.trod laidOut kr (dT kr) k0 bel lt0) (trodAll_cons_mk (Below.trod laidOut kr (dT kr) k1 bel lt1) trodAll_mk0)),rfl,bel.frame _,(fun h=>by cases h)⟩
noncomputable def laidWorld (os:Os):World:=
 {World.holding Tryz.prog os ⟨#[],#[],[]⟩with heap:=(World.holding Tryz.prog os ⟨#[],#[],[]⟩).heap.modify 1 fun
   | .cells _ t frozen=>.cells #[.int .u32 1116352408,.int .u32 1899447441,.int .u32 3049323471,.int .u32 3921009573,.int .u32 961987163,.int .u32 1508970993,.int .u32 2453635748,.int .u32 2870763221,.int .u32 3624381080,.int .u32 310598401,.int .u32 607225278,.int .u32 1426881987,.int .u32 1925078388,.int .u32 2162078206,.int .u32 2614888103,.int .u32 3248222580,.int .u32 3835390401,.int .u32 4022224774,.int .u32 264347078,.int .u32 604807628,.int .u32 770255983,.int .u32 1249150122,.int .u32 1555081692,.int .u32 1996064986,.int .u32 2554220882,.int .u32 2821834349,.int .u32 2952996808,.int .u32 3210313671,.int .u32 3336571891,.int .u32 3584528711,.int .u32 113926993,.int .u32 338241895,.int .u32 666307205,.int .u32 773529912,.int .u32 1294757372,.int .u32 1396182291,.int .u32 1695183700,.int .u32 1986661051,.int .u32 2177026350,.int .u32 2456956037,.int .u32 2730485921,.int .u32 2820302411,.int .u32 3259730800,.int .u32 3345764771,.int .u32 3516065817,.int .u32 3600352804,.int .u32 4094571909,.int .u32 275423344,.int .u32 430227734,.int .u32 506948616,.int .u32 659060556,.int .u32 883997877,.int .u32 958139571,.int .u32 1322822218,.int .u32 1537002063,.int .u32 1747873779,.int .u32 1955562222,.int .u32 2024104815,.int .u32 2227730452,.int .u32 2361852424,.int .u32 2428436474,.int .u32 2756734187,.int .u32 3204031479,.int .u32 3329325298] t frozen
   | o=>o}
def AR:Array Value:=#[.int .u8 0,.slice none 0 0]
theorem laid_met (os:Os):laidMet Tryz.prog Rows.filesPlayRow.laid ((laidWorld os).forCall (fun _ _=>0) ⟨#[],AR,[]⟩).memory:=
 laidMet_of_run' 8 kr kr
theorem reads (os:Os) {H:Type} (enc:TypeId×Value→H):∃places,DataW.whole enc Tryz.prog ((laidWorld os).forCall (fun _ _=>0) ⟨#[],AR,[]⟩).memory Tryz.f4.params.toList Rows.filesPlaySpec.vars false AR.toList 8=some ([.lit (.int .u8 0),.nil],[],places):=
 ⟨[],by kernel_rfl⟩
theorem g1 (os:Os):((laidWorld os).forCall (fun _ _=>0) ⟨#[],AR,[]⟩).variablesB Tryz.checked.prog=true:=by kernel_rfl
theorem g2 (os:Os):(((laidWorld os).forCall (fun _ _=>0) ⟨#[],AR,[]⟩).heap.toList.drop Tryz.checked.prog.globals.size).take ((begin Tryz.checked.prog (fun _ _=>0) default).world.heap.size-Tryz.checked.prog.globals.size) =
   (begin Tryz.checked.prog (fun _ _=>0) default).world.heap.toList.drop Tryz.checked.prog.globals.size:=by kernel_rfl
theorem g3 (os:Os):Input.okWideB Tryz.checked.prog ((laidWorld os).forCall (fun _ _=>0) ⟨#[],AR,[]⟩) 4 ⟨#[],AR,[]⟩=true:=by kernel_rfl
theorem g4 (os:Os) {H:Type} (enc:TypeId×Value→H):(OpenSpec.ofChange Rows.filesPlaySpec).preRow enc Tryz.checked.prog Tryz.f4 Rows.filesPlayRow.domain false Rows.filesPlayRow.laid ((laidWorld os).forCall (fun _ _=>0) ⟨#[],AR,[]⟩).memory AR:=by
 obtain⟨places,hx⟩:=reads os enc
 exact OpenSpec.preRow_of_cond 8 hx kr (fun k hk=>by cases hk) kr (laid_met os)
theorem lifted (os:Os) (started:os.Started) (H:Type) (enc:TypeId×Value→H) (F:Stop.Interp) :
  ReturnsInHanded {} Tryz.checked os 4 .any ((OpenSpec.ofChange Rows.filesPlaySpec).preRow enc Tryz.checked.prog Tryz.f4 Rows.filesPlayRow.domain false Rows.filesPlayRow.laid) (((OpenSpec.ofChange Rows.filesPlaySpec).at F).post enc Tryz.checked.prog Tryz.f4 false true false false):=by
 have g5:=witness_row_at (C:=Tryz.checked) (s:=OpenSpec.ofChange Rows.filesPlaySpec) (enc:=enc) (f:=4) (fn:=Tryz.f4) false (laidWorld os) AR rfl (g1 os) (g2 os) (g3 os) (g4 os enc)
 refine returnsInHanded_of_row (C:=Tryz.checked) (s:=OpenSpec.ofChange Rows.filesPlaySpec) own started kr Tryz.func4 g5 ?_
 intro W base args ds gs before hval hW _ _ _ hL _ _
 exact contract H enc W base args ds gs before hval hW hL
theorem said:Rows.FilesPlaySaid:=
 OpenClaim.holds_of_cond 4 Tryz.f4 rfl rfl rfl rfl rfl rfl rfl ⟨rfl,rfl,rfl,rfl,rfl⟩ rfl rfl rfl rfl rfl kr Tryz.func4 kr
  (dT kr) (by unfold Func.isWrapper;first|(rw[if_pos (by decide +kernel)];kernel_rfl)|(rw[if_neg (by decide +kernel)];exact⟨rfl,rfl⟩))
  (fun os started H enc _ F=>by rw[OpenClaim.pre_eq_preRow];exact lifted os started H enc F)
theorem plain (f : FuncId) (fn : Func) (hf : Tryz.pinned.checked.prog.funcNamed "parterre/parterrelaw06.FilesPlay" = some f) (hfn : Tryz.pinned.checked.prog.funcs[f]? = some fn) :
  true=Tryz.pinned.checked.prog.looks []∧∀(j:Nat) t,fn.params[j]? = some t→Tryz.pinned.checked.prog.wantsStandIn t=false:=by
 obtain rfl : f = 4 := Option.some.inj ((show Tryz.prog.funcNamed "parterre/parterrelaw06.FilesPlay" = some 4 by kernel_rfl).symm.trans hf) |>.symm
 obtain rfl:fn=Tryz.f4:=(Option.some.inj (Tryz.func4.symm.trans hfn)).symm
 refine⟨kr,fun j t ht=>?_⟩
 rw[Tryz.params4]at ht
 have hm:=Array.mem_of_getElem? ht
 simp only[List.mem_toArray,List.mem_cons,List.not_mem_nil,or_false]at hm
 rcases hm with rfl|rfl
 ·exact(show Tryz.prog.wantsStandIn 5=false by kernel_rfl)
 exact(show Tryz.prog.wantsStandIn 48=false by kernel_rfl)
theorem card:Rows.FilesPlayCardSaid:=
 Claim7.holds_tied_plain_at .later [] _ _ _ _ said (fun _ h=>by cases h) kr (fun _ h=>by cases h) filesPlay_row_tie rfl ⟨rfl,rfl⟩ kr rfl plain kr
#print axioms card
end Go.Proofs.YtfgdepggdiibdaaGreatDoor.filesPlay
