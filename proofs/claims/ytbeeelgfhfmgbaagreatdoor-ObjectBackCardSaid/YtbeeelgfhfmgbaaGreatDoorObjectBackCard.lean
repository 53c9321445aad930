/- The card of the law ObjectBack: in every world in which the table sha.rounds lies as the program lays it, for every input, the law returns true and every argument reads as it did. Out of the walk backWalk. -/
import Derived.Test.YtbeeelgfhfmgbaaGreatDoorP10
import Derived.Test.YtbeeelgfhfmgbaaGreatDoorCards
import Derived.Test.YtbeeelgfhfmgbaaGreatDoorTie
import Derived.Test.YtbeeelgfhfmgbaaGreatDoorP2
import Derived.WalkKit
import Derived.ProofKit
import Derived.OpenShut
import Derived.ShutString
import Derived.ChangeOld
import Derived.Below
import Derived.Deep.DeepHandedRow
import Derived.Lib.LaidTab
namespace Go.Proofs.YtbeeelgfhfmgbaaGreatDoor.objectBack
open Go.ChangeShapes Go.WideShapes Go.ChangeAt Go.RowKit K
open Go.ChangeMaps (open_string shut_string)
set_option linter.unusedVariables false
theorem own : ownKnob Tryz.prog.godebug = none := by kernel_rfl
theorem laidOut : laidOutB Tryz.prog = true := by kernel_rfl
theorem gTab : Tryz.prog.globalNamed "parterre/sha.rounds" = some 0 := by kernel_rfl
theorem gTabType : (Tryz.prog.globals[0]?).map (·.type) = some 157 := by kernel_rfl
theorem cellsT : Tryz.prog.cellsOf 157 = 64 := by kernel_rfl
theorem cellsE : Tryz.prog.cellsOf 73 = 1 := by kernel_rfl
def roundsL : List Int := [1116352408,1899447441,3049323471,3921009573,961987163,1508970993,2453635748,2870763221,3624381080,310598401,607225278,1426881987,1925078388,2162078206,2614888103,3248222580,3835390401,4022224774,264347078,604807628,770255983,1249150122,1555081692,1996064986,2554220882,2821834349,2952996808,3210313671,3336571891,3584528711,113926993,338241895,666307205,773529912,1294757372,1396182291,1695183700,1986661051,2177026350,2456956037,2730485921,2820302411,3259730800,3345764771,3516065817,3600352804,4094571909,275423344,430227734,506948616,659060556,883997877,958139571,1322822218,1537002063,1747873779,1955562222,2024104815,2227730452,2361852424,2428436474,2756734187,3204031479,3329325298]
theorem table {W : World} (h : laidMetH Tryz.prog Rows.objectBackRow.laid W) : Lib.TabIs Tryz.prog W "parterre/sha.rounds" .u32 roundsL :=
 Lib.tabIs_of_head (rest := []) gTab gTabType Tryz.underlying157 Tryz.underlying73 cellsE cellsT h
theorem block {W : World} (h : Lib.TabIs Tryz.prog W "parterre/sha.rounds" .u32 roundsL) : ∃ t fr,Has W [(0,.cells (wv Kc) t fr)] := by
 unfold Lib.TabIs World.var? at h
 rw [gTab] at h
 simp only [Option.bind_some] at h
 split at h
 ·rename_i cs t fr hb
  simp only [Option.some.injEq] at h
  refine ⟨t,fr,fun e he => ?_⟩
  rw [List.mem_singleton.1 he]
  rw [show wv Kc = cs from (by kernel_rfl : wv Kc = (roundsL.map fun z => Value.int .u32 z).toArray).trans h.symm]
  exact hb
 ·cases h
set_option maxRecDepth 100000 in
theorem contract (H : Type) (enc : TypeId × Value → H) (W : World) (base : Nat) (args : Array Value) (ds gs : List (DataW H)) (before : List MemPlace)
  (hval : ∀ (j : Nat) t v,Tryz.f3.params[j]? = some t → args[j]? = some v → Value.okWide Tryz.prog W .any base t v)
  (hW : DataW.Whole enc Tryz.prog Tryz.f3.params.toList Rows.objectBackSpec.vars false W args.toList ds gs before) (hz : (DataW.weightsEach Tryz.prog (Tryz.f3.params.toList ++ (OpenSpec.ofChange Rows.objectBackSpec).bare.plain.varTypes Tryz.prog) (ds ++ gs)).all (· ≤ reachBytes) = true) (hL : laidMetH Tryz.prog Rows.objectBackRow.laid W) :
  Calls Tryz.prog 3 args W fun e W' => ∃ v,e = .returned v ∧ Rows.objectBackSpec.post enc Tryz.prog Tryz.f3 false true false false W args v W' := by
 have hW' := hW
 obtain ⟨p,q,hA0,hV,rfl,hfz,hnd⟩ := hW
 have hA : DataW.TrodAll enc Tryz.prog W 0 (fun _ => true) true Tryz.f3.params.toList args.toList ds p := hA0
 rw [Tryz.params3] at hA hval
 obtain ⟨v0,vs0,d0,ds0,p0,q0,hargs,rfl,rfl,h0,r0⟩ := trodAll_cons hA
 obtain ⟨v1,vs1,d1,ds1,p1,q1,rfl,rfl,rfl,h1,r1⟩ := trodAll_cons r0
 obtain ⟨rfl,rfl,rfl⟩ := trodAll_nil r1
 obtain rfl : args = #[v0,v1] := by cases args; simp_all
 obtain ⟨rfl,rfl⟩ := trodVars_none hV
 have k0 := h0
 have lt0 : ∀ x ∈ p0,x.block < W.heap.size := by obtain ⟨m,hm⟩ := k0; exact DataW.trod_lt m _ _ _ hm
 have k1 := h1
 have lt1 : ∀ x ∈ p1,x.block < W.heap.size := by obtain ⟨m,hm⟩ := k1; exact DataW.trod_lt m _ _ _ hm
 have hz9 : (DataW.weightsEach Tryz.prog [38,9] [d0,d1]).all (· ≤ reachBytes) = true := hz
 obtain ⟨z0,hz9⟩ := weights_cons hz9
 obtain ⟨z1,hz9⟩ := weights_cons hz9
 obtain ⟨cs0,fu0,rfl,hf0⟩ := open_struct Tryz.underlying38 (hval 0 38 v0 rfl rfl) h0
 obtain ⟨o0,R0,hO0,hc0⟩ := obj_open cs0.toList fu0 _ hf0 z0
 obtain rfl : cs0 = (oc o0).toArray := by rw [← hc0]
 obtain ⟨a1,rfl,rfl,rfl,w1⟩ := open_string Tryz.underlying9 (hval 1 9 v1 rfl rfl) h1
 clear hA0
 obtain ⟨t0,fr0,hT⟩ := block (table hL)
 refine ((by have h9 := backWalk o0 a1.data.toList R0 t0 fr0 W hO0.i hO0.u hO0.n hO0.t1 hO0.t2 (by rw [ba_len]; exact w1) (has_app (A := [_]) hT hO0.h); rwa [tx_back] at h9 : Calls Tryz.prog 3 #[.agg (oc o0).toArray,.string a1] W fun e w' => e = .returned (.bool true) ∧ Ext [] W w')).mono fun e W' ⟨he,hx⟩ => ?_
 subst he
 have bel := hx.below
 exact ⟨_,rfl,_,_,_,[],_,[],hW',trodAll_mk1 (shut_bool Tryz.underlying4 _),(trodAll_cons_mk (Below.trod laidOut kr (dT kr) k0 bel lt0) (trodAll_cons_mk (Below.trod laidOut kr (dT kr) k1 bel lt1) trodAll_mk0)),rfl,bel.frame _,(fun h => by cases h)⟩
noncomputable def laidWorld (os : Os) : World :=
 { World.holding Tryz.prog os ⟨#[],#[],[]⟩ with heap := (World.holding Tryz.prog os ⟨#[],#[],[]⟩).heap.modify 0 fun
   | .cells _ t frozen => .cells #[.int .u32 1116352408,.int .u32 1899447441,.int .u32 3049323471,.int .u32 3921009573,.int .u32 961987163,.int .u32 1508970993,.int .u32 2453635748,.int .u32 2870763221,.int .u32 3624381080,.int .u32 310598401,.int .u32 607225278,.int .u32 1426881987,.int .u32 1925078388,.int .u32 2162078206,.int .u32 2614888103,.int .u32 3248222580,.int .u32 3835390401,.int .u32 4022224774,.int .u32 264347078,.int .u32 604807628,.int .u32 770255983,.int .u32 1249150122,.int .u32 1555081692,.int .u32 1996064986,.int .u32 2554220882,.int .u32 2821834349,.int .u32 2952996808,.int .u32 3210313671,.int .u32 3336571891,.int .u32 3584528711,.int .u32 113926993,.int .u32 338241895,.int .u32 666307205,.int .u32 773529912,.int .u32 1294757372,.int .u32 1396182291,.int .u32 1695183700,.int .u32 1986661051,.int .u32 2177026350,.int .u32 2456956037,.int .u32 2730485921,.int .u32 2820302411,.int .u32 3259730800,.int .u32 3345764771,.int .u32 3516065817,.int .u32 3600352804,.int .u32 4094571909,.int .u32 275423344,.int .u32 430227734,.int .u32 506948616,.int .u32 659060556,.int .u32 883997877,.int .u32 958139571,.int .u32 1322822218,.int .u32 1537002063,.int .u32 1747873779,.int .u32 1955562222,.int .u32 2024104815,.int .u32 2227730452,.int .u32 2361852424,.int .u32 2428436474,.int .u32 2756734187,.int .u32 3204031479,.int .u32 3329325298] t frozen
   | o => o }
def AR : Array Value := #[.agg #[.int .u8 0,.slice none 0 0,.slice none 0 0,.slice none 0 0,.int .u8 0,.int .u8 0,.int .u8 0,.int .u8 0,.int .u8 0,.int .u8 0,.int .u8 0,.int .u8 0,.int .u8 0,.int .u8 0,.int .u8 0,.int .u8 0,.int .u8 0,.int .u8 0,.int .u8 0,.int .u8 0,.int .u8 0,.int .u8 0,.int .u8 0,.int .u8 0,.int .u8 0,.int .u8 0,.int .u8 0,.int .u8 0,.int .u8 0,.int .u8 0,.int .u8 0,.int .u8 0,.int .u8 0,.int .u8 0,.int .u8 0,.int .u8 0,.slice none 0 0,.int .u64 0,.string ByteArray.empty,.int .u8 0,.int .u8 0,.int .u8 0,.int .u8 0,.int .u8 0,.int .u8 0,.int .u8 0,.int .u8 0,.int .u8 0,.int .u8 0,.int .u8 0,.int .u8 0,.int .u8 0,.int .u8 0,.int .u8 0,.int .u8 0,.int .u8 0,.int .u8 0,.int .u8 0,.int .u8 0,.int .u8 0,.int .u8 0,.int .u8 0,.int .u8 0,.int .u8 0,.int .u8 0,.int .u8 0,.int .u8 0,.int .u8 0,.int .u8 0,.int .u8 0,.int .u8 0,.string ByteArray.empty],.string ByteArray.empty]
theorem laid_met (os : Os) : laidMet Tryz.prog Rows.objectBackRow.laid ((laidWorld os).forCall (fun _ _ => 0) ⟨#[],AR,[]⟩).memory :=
 laidMet_of_run' 8 kr kr
theorem reads (os : Os) {H : Type} (enc : TypeId × Value → H) : ∃ places,DataW.whole enc Tryz.prog ((laidWorld os).forCall (fun _ _ => 0) ⟨#[],AR,[]⟩).memory Tryz.f3.params.toList Rows.objectBackSpec.vars false AR.toList 8 = some ([.agg [.lit (.int .u8 0),.agg [.agg [.nil,.nil],.nil],.agg [.agg (List.replicate 32 (.lit (.int .u8 0))),.nil,.lit (.int .u64 0),.lit (.string [])],.agg [.agg (List.replicate 32 (.lit (.int .u8 0))),.lit (.string [])]],.lit (.string [])],[],places) :=
 ⟨[],by kernel_rfl⟩
theorem g1 (os : Os) : ((laidWorld os).forCall (fun _ _ => 0) ⟨#[],AR,[]⟩).variablesB Tryz.checked.prog = true := by kernel_rfl
theorem g2 (os : Os) : (((laidWorld os).forCall (fun _ _ => 0) ⟨#[],AR,[]⟩).heap.toList.drop Tryz.checked.prog.globals.size).take ((begin Tryz.checked.prog (fun _ _ => 0) default).world.heap.size - Tryz.checked.prog.globals.size) =
   (begin Tryz.checked.prog (fun _ _ => 0) default).world.heap.toList.drop Tryz.checked.prog.globals.size := by kernel_rfl
theorem g3 (os : Os) : Input.okWideB Tryz.checked.prog ((laidWorld os).forCall (fun _ _ => 0) ⟨#[],AR,[]⟩) 3 ⟨#[],AR,[]⟩ = true := by kernel_rfl
theorem g4 (os : Os) {H : Type} (enc : TypeId × Value → H) : (OpenSpec.ofChange Rows.objectBackSpec).preRow enc Tryz.checked.prog Tryz.f3 Rows.objectBackRow.domain false Rows.objectBackRow.laid ((laidWorld os).forCall (fun _ _ => 0) ⟨#[],AR,[]⟩).memory AR := by
 obtain ⟨places,hx⟩ := reads os enc
 exact OpenSpec.preRow_of_cond 8 hx kr (fun k hk => by cases hk) kr (laid_met os)
set_option maxRecDepth 100000 in
theorem lifted (os : Os) (started : os.Started) (H : Type) (enc : TypeId × Value → H) (F : Stop.Interp) :
  ReturnsInHanded {} Tryz.checked os 3 .any ((OpenSpec.ofChange Rows.objectBackSpec).preRow enc Tryz.checked.prog Tryz.f3 Rows.objectBackRow.domain false Rows.objectBackRow.laid) (((OpenSpec.ofChange Rows.objectBackSpec).at F).post enc Tryz.checked.prog Tryz.f3 false true false false) := by
 have g5 := witness_row_at (C := Tryz.checked) (s := OpenSpec.ofChange Rows.objectBackSpec) (enc := enc) (f := 3) (fn := Tryz.f3) false (laidWorld os) AR rfl (g1 os) (g2 os) (g3 os) (g4 os enc)
 refine returnsInHanded_of_row (C := Tryz.checked) (s := OpenSpec.ofChange Rows.objectBackSpec) own started kr Tryz.func3 g5 ?_
 intro W base args ds gs before hval hW _ _ hz hL _ _
 exact contract H enc W base args ds gs before hval hW hz hL
theorem said : Rows.ObjectBackSaid :=
 OpenClaim.holds_of_cond 3 Tryz.f3 rfl rfl rfl rfl rfl rfl rfl ⟨rfl,rfl,rfl,rfl,rfl⟩ rfl rfl rfl rfl rfl kr Tryz.func3 kr
  (dT kr) (by unfold Func.isWrapper; first | (rw [if_pos (by decide +kernel)]; kernel_rfl) | (rw [if_neg (by decide +kernel)]; exact ⟨rfl,rfl⟩))
  (fun os started H enc _ F => by rw [OpenClaim.pre_eq_preRow]; exact lifted os started H enc F)
theorem plain (f : FuncId) (fn : Func) (hf : Tryz.pinned.checked.prog.funcNamed "parterre/parterrelaw12.ObjectBack" = some f) (hfn : Tryz.pinned.checked.prog.funcs[f]? = some fn) :
  false = Tryz.pinned.checked.prog.looks [] ∧ ∀ (j : Nat) t,fn.params[j]? = some t → Tryz.pinned.checked.prog.wantsStandIn t = false := by
 obtain rfl : f = 3 := Option.some.inj ((show Tryz.prog.funcNamed "parterre/parterrelaw12.ObjectBack" = some 3 by kernel_rfl).symm.trans hf) |>.symm
 obtain rfl : fn = Tryz.f3 := (Option.some.inj (Tryz.func3.symm.trans hfn)).symm
 refine ⟨kr,fun j t ht => ?_⟩
 rw [Tryz.params3] at ht
 have hm := Array.mem_of_getElem? ht
 simp only [List.mem_toArray,List.mem_cons,List.not_mem_nil,or_false] at hm
 rcases hm with rfl | rfl
 ·exact (show Tryz.prog.wantsStandIn 38 = false by kernel_rfl)
 ·exact (show Tryz.prog.wantsStandIn 9 = false by kernel_rfl)
theorem card : Rows.ObjectBackCardSaid :=
 Claim7.holds_tied_plain_at .later [] _ _ _ _ said (fun _ h => by cases h) kr (fun _ h => by cases h) objectBack_row_tie rfl ⟨rfl,rfl⟩ kr rfl plain kr
#print axioms card
end Go.Proofs.YtbeeelgfhfmgbaaGreatDoor.objectBack
