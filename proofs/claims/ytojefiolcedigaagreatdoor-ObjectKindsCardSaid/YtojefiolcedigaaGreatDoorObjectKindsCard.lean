/- The card of the law ObjectKinds: in every world in which the table sha.rounds lies as the program lays it, for every input, the law returns true and every argument reads as it did. Out of the walk kindsWalk. -/
import Derived.Test.YtojefiolcedigaaGreatDoorP7
import Derived.Test.YtojefiolcedigaaGreatDoorP8
import Derived.Test.YtojefiolcedigaaGreatDoorCards
import Derived.Test.YtojefiolcedigaaGreatDoorTie
import Derived.Test.YtojefiolcedigaaGreatDoorP1
import Derived.WalkKit
import Derived.ProofKit
import Derived.OpenShut
import Derived.ShutString
import Derived.ChangeOld
import Derived.Below
import Derived.Deep.DeepHandedRow
import Derived.Lib.LaidTab
namespace Go.Proofs.YtojefiolcedigaaGreatDoor.objectKinds
open Go.ChangeShapes Go.WideShapes Go.ChangeAt Go.RowKit K
open Go.ChangeMaps (open_string shut_string)
set_option linter.unusedVariables false
theorem own : ownKnob Tryz.prog.godebug = none := by kernel_rfl
theorem laidOut : laidOutB Tryz.prog = true := by kernel_rfl
theorem gTab : Tryz.prog.globalNamed "parterre/sha.rounds" = some 0 := by kernel_rfl
theorem gTabType : (Tryz.prog.globals[0]?).map (·.type) = some 171 := by kernel_rfl
theorem cellsT : Tryz.prog.cellsOf 171 = 64 := by kernel_rfl
theorem cellsE : Tryz.prog.cellsOf 79 = 1 := by kernel_rfl
def roundsL : List Int := [1116352408,1899447441,3049323471,3921009573,961987163,1508970993,2453635748,2870763221,3624381080,310598401,607225278,1426881987,1925078388,2162078206,2614888103,3248222580,3835390401,4022224774,264347078,604807628,770255983,1249150122,1555081692,1996064986,2554220882,2821834349,2952996808,3210313671,3336571891,3584528711,113926993,338241895,666307205,773529912,1294757372,1396182291,1695183700,1986661051,2177026350,2456956037,2730485921,2820302411,3259730800,3345764771,3516065817,3600352804,4094571909,275423344,430227734,506948616,659060556,883997877,958139571,1322822218,1537002063,1747873779,1955562222,2024104815,2227730452,2361852424,2428436474,2756734187,3204031479,3329325298]
theorem table {W : World} (h : laidMetH Tryz.prog Rows.objectKindsRow.laid W) : Lib.TabIs Tryz.prog W "parterre/sha.rounds" .u32 roundsL :=
 Lib.tabIs_of_head (rest := []) gTab gTabType Tryz.underlying171 Tryz.underlying79 cellsE cellsT h
theorem block {W : World} (h : Lib.TabIs Tryz.prog W "parterre/sha.rounds" .u32 roundsL) : ∃ t fr,Has W [(0,.cells (wv Kc) t fr)] := by
 unfold Lib.TabIs World.var? at h
 rw [gTab] at h
 simp only [Option.bind_some] at h
 split at h
 ·rename_i cs t fr hb
  simp only [Option.some.injEq] at h
  refine ⟨t,fr,fun e he => ?_⟩
  rw [List.mem_singleton.1 he]
  rw [show wv Kc = cs from (by kernel_rfl : wv Kc = (roundsL.map fun z => Value.int .u32 z).toArray).trans h.symm]
  exact hb
 ·cases h
set_option maxRecDepth 100000 in
theorem contract (H : Type) (enc : TypeId × Value → H) (W : World) (base : Nat) (args : Array Value) (ds gs : List (DataW H)) (before : List MemPlace)
  (hval : ∀ (j : Nat) t v,Tryz.f4.params[j]? = some t → args[j]? = some v → Value.okWide Tryz.prog W .any base t v)
  (hW : DataW.Whole enc Tryz.prog Tryz.f4.params.toList Rows.objectKindsSpec.vars false W args.toList ds gs before) (hz : (DataW.weightsEach Tryz.prog (Tryz.f4.params.toList ++ (OpenSpec.ofChange Rows.objectKindsSpec).bare.plain.varTypes Tryz.prog) (ds ++ gs)).all (· ≤ reachBytes) = true) (hL : laidMetH Tryz.prog Rows.objectKindsRow.laid W) :
  Calls Tryz.prog 4 args W fun e W' => ∃ v,e = .returned v ∧ Rows.objectKindsSpec.post enc Tryz.prog Tryz.f4 false true false false W args v W' := by
 have hW' := hW
 obtain ⟨p,q,hA0,hV,rfl,hfz,hnd⟩ := hW
 have hA : DataW.TrodAll enc Tryz.prog W 0 (fun _ => true) true Tryz.f4.params.toList args.toList ds p := hA0
 rw [Tryz.params4] at hA hval
 obtain ⟨v0,vs0,d0,ds0,p0,q0,hargs,rfl,rfl,h0,r0⟩ := trodAll_cons hA
 obtain ⟨v1,vs1,d1,ds1,p1,q1,rfl,rfl,rfl,h1,r1⟩ := trodAll_cons r0
 obtain ⟨v2,vs2,d2,ds2,p2,q2,rfl,rfl,rfl,h2,r2⟩ := trodAll_cons r1
 obtain ⟨v3,vs3,d3,ds3,p3,q3,rfl,rfl,rfl,h3,r3⟩ := trodAll_cons r2
 obtain ⟨rfl,rfl,rfl⟩ := trodAll_nil r3
 obtain rfl : args = #[v0,v1,v2,v3] := by cases args; simp_all
 obtain ⟨rfl,rfl⟩ := trodVars_none hV
 have k0 := h0
 have lt0 : ∀ x ∈ p0,x.block < W.heap.size := by obtain ⟨m,hm⟩ := k0; exact DataW.trod_lt m _ _ _ hm
 have k1 := h1
 have lt1 : ∀ x ∈ p1,x.block < W.heap.size := by obtain ⟨m,hm⟩ := k1; exact DataW.trod_lt m _ _ _ hm
 have k2 := h2
 have lt2 : ∀ x ∈ p2,x.block < W.heap.size := by obtain ⟨m,hm⟩ := k2; exact DataW.trod_lt m _ _ _ hm
 have k3 := h3
 have lt3 : ∀ x ∈ p3,x.block < W.heap.size := by obtain ⟨m,hm⟩ := k3; exact DataW.trod_lt m _ _ _ hm
 have hz9 : (DataW.weightsEach Tryz.prog [28,28,34,36] [d0,d1,d2,d3]).all (· ≤ reachBytes) = true := hz
 obtain ⟨z0,hz9⟩ := weights_cons hz9
 obtain ⟨z1,hz9⟩ := weights_cons hz9
 obtain ⟨z2,hz9⟩ := weights_cons hz9
 obtain ⟨cs0,fu0,rfl,hf0⟩ := open_struct Tryz.underlying28 (hval 0 28 v0 rfl rfl) h0
 obtain ⟨m0,R0,hR0,hM0,hc0⟩ := map_open cs0.toList fu0 _ hf0 z0
 obtain rfl : cs0 = (mc m0).toArray := by rw [← hc0]
 obtain ⟨cs1,fu1,rfl,hf1⟩ := open_struct Tryz.underlying28 (hval 1 28 v1 rfl rfl) h1
 obtain ⟨m1,R1,hR1,hM1,hc1⟩ := map_open cs1.toList fu1 _ hf1 z1
 obtain rfl : cs1 = (mc m1).toArray := by rw [← hc1]
 obtain ⟨cs2,fu2,rfl,hf2⟩ := open_struct Tryz.underlying34 (hval 2 34 v2 rfl rfl) h2
 obtain ⟨c2,R2,hR2,hC2,hc2⟩ := com_open cs2.toList fu2 _ hf2 z2
 obtain rfl : cs2 = (cc c2).toArray := by rw [← hc2]
 obtain ⟨cs3,fu3,rfl,hf3⟩ := open_struct Tryz.underlying36 (hval 3 36 v3 rfl rfl) h3
 obtain ⟨t3,hd3,hc3⟩ := tag_open cs3.toList fu3 _ hf3
 obtain rfl : cs3 = (tc t3).toArray := by rw [← hc3]
 clear hA0
 obtain ⟨t0,fr0,hT⟩ := block (table hL)
 refine (kindsWalk m0 m1 c2 t3 (R0 ++ (R1 ++ R2)) t0 fr0 W (hM0.mono (fun e he => List.mem_append_left _ he)) (hM1.mono (fun e he => List.mem_append_right _ (List.mem_append_left _ he))) (hC2.mono (fun e he => List.mem_append_right _ (List.mem_append_right _ he))) hd3 (has_app (A := [_]) hT (Has.app hR0 (Has.app hR1 hR2)))).mono fun e W' ⟨he,hx⟩ => ?_
 subst he
 have bel := hx.below
 exact ⟨_,rfl,_,_,_,[],_,[],hW',trodAll_mk1 (shut_bool Tryz.underlying4 _),(trodAll_cons_mk (Below.trod laidOut (by kernel_rfl) (of_decide_eq_true (by kernel_rfl)) k0 bel lt0) (trodAll_cons_mk (Below.trod laidOut (by kernel_rfl) (of_decide_eq_true (by kernel_rfl)) k1 bel lt1) (trodAll_cons_mk (Below.trod laidOut (by kernel_rfl) (of_decide_eq_true (by kernel_rfl)) k2 bel lt2) (trodAll_cons_mk (Below.trod laidOut (by kernel_rfl) (of_decide_eq_true (by kernel_rfl)) k3 bel lt3) trodAll_mk0)))),rfl,bel.frame _,(fun h => by cases h)⟩
noncomputable def laidWorld (os : Os) : World :=
 { World.holding Tryz.prog os ⟨#[],#[],[]⟩ with heap := (World.holding Tryz.prog os ⟨#[],#[],[]⟩).heap.modify 0 fun
   | .cells _ t frozen => .cells #[.int .u32 1116352408,.int .u32 1899447441,.int .u32 3049323471,.int .u32 3921009573,.int .u32 961987163,.int .u32 1508970993,.int .u32 2453635748,.int .u32 2870763221,.int .u32 3624381080,.int .u32 310598401,.int .u32 607225278,.int .u32 1426881987,.int .u32 1925078388,.int .u32 2162078206,.int .u32 2614888103,.int .u32 3248222580,.int .u32 3835390401,.int .u32 4022224774,.int .u32 264347078,.int .u32 604807628,.int .u32 770255983,.int .u32 1249150122,.int .u32 1555081692,.int .u32 1996064986,.int .u32 2554220882,.int .u32 2821834349,.int .u32 2952996808,.int .u32 3210313671,.int .u32 3336571891,.int .u32 3584528711,.int .u32 113926993,.int .u32 338241895,.int .u32 666307205,.int .u32 773529912,.int .u32 1294757372,.int .u32 1396182291,.int .u32 1695183700,.int .u32 1986661051,.int .u32 2177026350,.int .u32 2456956037,.int .u32 2730485921,.int .u32 2820302411,.int .u32 3259730800,.int .u32 3345764771,.int .u32 3516065817,.int .u32 3600352804,.int .u32 4094571909,.int .u32 275423344,.int .u32 430227734,.int .u32 506948616,.int .u32 659060556,.int .u32 883997877,.int .u32 958139571,.int .u32 1322822218,.int .u32 1537002063,.int .u32 1747873779,.int .u32 1955562222,.int .u32 2024104815,.int .u32 2227730452,.int .u32 2361852424,.int .u32 2428436474,.int .u32 2756734187,.int .u32 3204031479,.int .u32 3329325298] t frozen
   | o => o }
def AR : Array Value := #[.agg #[.slice none 0 0,.slice none 0 0,.slice none 0 0],.agg #[.slice none 0 0,.slice none 0 0,.slice none 0 0],.agg #[.int .u8 0,.int .u8 0,.int .u8 0,.int .u8 0,.int .u8 0,.int .u8 0,.int .u8 0,.int .u8 0,.int .u8 0,.int .u8 0,.int .u8 0,.int .u8 0,.int .u8 0,.int .u8 0,.int .u8 0,.int .u8 0,.int .u8 0,.int .u8 0,.int .u8 0,.int .u8 0,.int .u8 0,.int .u8 0,.int .u8 0,.int .u8 0,.int .u8 0,.int .u8 0,.int .u8 0,.int .u8 0,.int .u8 0,.int .u8 0,.int .u8 0,.int .u8 0,.slice none 0 0,.int .u64 0,.string ByteArray.empty],.agg #[.int .u8 0,.int .u8 0,.int .u8 0,.int .u8 0,.int .u8 0,.int .u8 0,.int .u8 0,.int .u8 0,.int .u8 0,.int .u8 0,.int .u8 0,.int .u8 0,.int .u8 0,.int .u8 0,.int .u8 0,.int .u8 0,.int .u8 0,.int .u8 0,.int .u8 0,.int .u8 0,.int .u8 0,.int .u8 0,.int .u8 0,.int .u8 0,.int .u8 0,.int .u8 0,.int .u8 0,.int .u8 0,.int .u8 0,.int .u8 0,.int .u8 0,.int .u8 0,.string ByteArray.empty]]
theorem laid_met (os : Os) : laidMet Tryz.prog Rows.objectKindsRow.laid ((laidWorld os).forCall (fun _ _ => 0) ⟨#[],AR,[]⟩).memory :=
 laidMet_of_run' 8 (by kernel_rfl) (by kernel_rfl)
theorem reads (os : Os) {H : Type} (enc : TypeId × Value → H) : ∃ places,DataW.whole enc Tryz.prog ((laidWorld os).forCall (fun _ _ => 0) ⟨#[],AR,[]⟩).memory Tryz.f4.params.toList Rows.objectKindsSpec.vars false AR.toList 8 = some ([.agg [.agg [.nil,.nil],.nil],.agg [.agg [.nil,.nil],.nil],.agg [.agg (List.replicate 32 (.lit (.int .u8 0))),.nil,.lit (.int .u64 0),.lit (.string [])],.agg [.agg (List.replicate 32 (.lit (.int .u8 0))),.lit (.string [])]],[],places) :=
 ⟨[],by kernel_rfl⟩
theorem g1 (os : Os) : ((laidWorld os).forCall (fun _ _ => 0) ⟨#[],AR,[]⟩).variablesB Tryz.checked.prog = true := by kernel_rfl
theorem g2 (os : Os) : (((laidWorld os).forCall (fun _ _ => 0) ⟨#[],AR,[]⟩).heap.toList.drop Tryz.checked.prog.globals.size).take ((begin Tryz.checked.prog (fun _ _ => 0) default).world.heap.size - Tryz.checked.prog.globals.size) =
   (begin Tryz.checked.prog (fun _ _ => 0) default).world.heap.toList.drop Tryz.checked.prog.globals.size := by kernel_rfl
theorem g3 (os : Os) : Input.okWideB Tryz.checked.prog ((laidWorld os).forCall (fun _ _ => 0) ⟨#[],AR,[]⟩) 4 ⟨#[],AR,[]⟩ = true := by kernel_rfl
theorem g4 (os : Os) {H : Type} (enc : TypeId × Value → H) : (OpenSpec.ofChange Rows.objectKindsSpec).preRow enc Tryz.checked.prog Tryz.f4 Rows.objectKindsRow.domain false Rows.objectKindsRow.laid ((laidWorld os).forCall (fun _ _ => 0) ⟨#[],AR,[]⟩).memory AR := by
 obtain ⟨places,hx⟩ := reads os enc
 exact OpenSpec.preRow_of_cond 8 hx (by kernel_rfl) (fun k hk => by cases hk) (by kernel_rfl) (laid_met os)
set_option maxRecDepth 100000 in
theorem lifted (os : Os) (started : os.Started) (H : Type) (enc : TypeId × Value → H) (F : Stop.Interp) :
  ReturnsInHanded {} Tryz.checked os 4 .any ((OpenSpec.ofChange Rows.objectKindsSpec).preRow enc Tryz.checked.prog Tryz.f4 Rows.objectKindsRow.domain false Rows.objectKindsRow.laid) (((OpenSpec.ofChange Rows.objectKindsSpec).at F).post enc Tryz.checked.prog Tryz.f4 false true false false) := by
 have g5 := witness_row_at (C := Tryz.checked) (s := OpenSpec.ofChange Rows.objectKindsSpec) (enc := enc) (f := 4) (fn := Tryz.f4) false (laidWorld os) AR rfl (g1 os) (g2 os) (g3 os) (g4 os enc)
 refine returnsInHanded_of_row (C := Tryz.checked) (s := OpenSpec.ofChange Rows.objectKindsSpec) own started (by kernel_rfl) Tryz.func4 g5 ?_
 intro W base args ds gs before hval hW _ _ hz hL _ _
 exact contract H enc W base args ds gs before hval hW hz hL
theorem said : Rows.ObjectKindsSaid :=
 OpenClaim.holds_of_cond 4 Tryz.f4 rfl rfl rfl rfl rfl rfl rfl ⟨rfl,rfl,rfl,rfl,rfl⟩ rfl rfl rfl rfl rfl (by kernel_rfl) Tryz.func4 (by kernel_rfl)
  (of_decide_eq_true (by kernel_rfl)) (by unfold Func.isWrapper; first | (rw [if_pos (by decide +kernel)]; kernel_rfl) | (rw [if_neg (by decide +kernel)]; exact ⟨rfl,rfl⟩))
  (fun os started H enc _ F => by rw [OpenClaim.pre_eq_preRow]; exact lifted os started H enc F)
theorem plain (f : FuncId) (fn : Func) (hf : Tryz.pinned.checked.prog.funcNamed "parterre/parterrelaw12.ObjectKinds" = some f) (hfn : Tryz.pinned.checked.prog.funcs[f]? = some fn) :
  false = Tryz.pinned.checked.prog.looks [] ∧ ∀ (j : Nat) t,fn.params[j]? = some t → Tryz.pinned.checked.prog.wantsStandIn t = false := by
 obtain rfl : f = 4 := Option.some.inj ((show Tryz.prog.funcNamed "parterre/parterrelaw12.ObjectKinds" = some 4 by kernel_rfl).symm.trans hf) |>.symm
 obtain rfl : fn = Tryz.f4 := (Option.some.inj (Tryz.func4.symm.trans hfn)).symm
 refine ⟨by kernel_rfl,fun j t ht => ?_⟩
 rw [Tryz.params4] at ht
 have hm := Array.mem_of_getElem? ht
 simp only [List.mem_toArray,List.mem_cons,List.not_mem_nil,or_false] at hm
 rcases hm with rfl | rfl | rfl | rfl
 ·exact (show Tryz.prog.wantsStandIn 28 = false by kernel_rfl)
 ·exact (show Tryz.prog.wantsStandIn 28 = false by kernel_rfl)
 ·exact (show Tryz.prog.wantsStandIn 34 = false by kernel_rfl)
 ·exact (show Tryz.prog.wantsStandIn 36 = false by kernel_rfl)
theorem card : Rows.ObjectKindsCardSaid :=
 Claim7.holds_tied_plain_at .later [] _ _ _ _ said (fun _ h => by cases h) (by kernel_rfl) (fun _ h => by cases h) objectKinds_row_tie rfl ⟨rfl,rfl⟩ (by kernel_rfl) rfl plain (by kernel_rfl)
#print axioms card
end Go.Proofs.YtojefiolcedigaaGreatDoor.objectKinds
