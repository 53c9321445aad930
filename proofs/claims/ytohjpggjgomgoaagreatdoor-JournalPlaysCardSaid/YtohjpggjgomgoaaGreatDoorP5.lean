/- Texts on which the proof of this claim stands: Dk2, Dk4, Lay, Dk3, Dk5, Dk6, Jp1, Dk7, Dk8, Dk9, DkA, DkB. -/
import Derived.Test.YtohjpggjgomgoaaGreatDoorP2
import Derived.Test.YtohjpggjgomgoaaGreatDoorP1
import Derived.Test.YtohjpggjgomgoaaGreatDoorP4
namespace Go.Proofs.YtohjpggjgomgoaaGreatDoor
open K
set_option linter.unusedVariables false
set_option maxRecDepth 100000 in
theorem dThere (m : DM) (x : MX) (D : DK) (q : Int) (w : World) (hR : Has w (dO D m x)) :
  Calls Tryz.prog 74 #[.pointer (some ⟨m.d,3,none⟩),.int .i64 q] w fun e w' => e = .returned (.bool (decide (0 ≤ q ∧ q < (D.last.length : Int)))) ∧ Ext [] w w' := by
 refine enter (vs := [.pointer (some ⟨m.d,3,none⟩),.int .i64 q]) [] [(m.d,.cells #[.int .i64 D.fuse,.int .i64 D.steps,.bool D.down,.slice (some ⟨m.lb,0,none⟩) D.last.length D.last.length,.map (some m.mb)] 117 (0,0)),(m.lb,.cells ((rows D.last).toArray) 25 (0,0)),(m.mb,.map x.1 x.2)] [] Tryz.func74 rfl kr (HP.ofHas hR) ?_
 refine Rg [0,1] [] n0 trivial ?_
 refine Rg [4] [dZ,dZ,dZ,dZ,dZ,dZ,dZ,(0,false,some (.slice (some ⟨m.lb,0,none⟩) D.last.length D.last.length))] (fun S => [((.bool (decide (q ≥ (0 : Int))) : Value) = .bool true → (∀ w1,S w1 → w1.cell? ⟨m.d,3,none⟩ = some (.slice (some ⟨m.lb,0,none⟩) D.last.length D.last.length)))]) ⟨(fun g0 => have q0 : (q ≥ (0 : Int)) := (of_decide_eq_true (boolV g0)); (fun w1 h => h.rcell 0 rfl rfl)),trivial⟩ ?_
 refine Cfg.ret rfl (rs := [.tmp 4]) rfl [.bool ((decide (q ≥ (0 : Int))) && (decide (q < (D.last.length : Int))))] ⟨kr,trivial⟩ (fun w1 hp => ?_)
 exact ⟨by simp [resOf],hp.ext⟩
set_option maxRecDepth 100000 in
theorem dFault (m : DM) (x : MX) (D : DK) (q : Int) (w : World) (hR : Has w (dO D m x)) :
  Calls Tryz.prog 88 #[.pointer (some ⟨m.d,0,none⟩),.int .i64 q] w fun e w' => e = .returned (.int .i64 (fltF D q)) ∧ Ext [] w w' := by
 refine enter (vs := [.pointer (some ⟨m.d,0,none⟩),.int .i64 q]) [] [(m.d,.cells #[.int .i64 D.fuse,.int .i64 D.steps,.bool D.down,.slice (some ⟨m.lb,0,none⟩) D.last.length D.last.length,.map (some m.mb)] 117 (0,0)),(m.lb,.cells ((rows D.last).toArray) 25 (0,0)),(m.mb,.map x.1 x.2)] [] Tryz.func88 rfl kr (HP.ofHas hR) ?_
 refine Rg [0,1] [] n0 trivial ?_
 refine Rg [0,1,5] [] n0 trivial ?_
 refine Cfg.condF rfl (b := false) kr rfl ?_
 refine Rg [0,1,8] [dZ,dZ,dZ,dZ,(0,false,some (.bool D.down))] (fun S => [(∀ w1,S w1 → w1.cell? ⟨m.d,2,none⟩ = some (.bool D.down))]) ⟨(fun w1 h => h.rcell 0 rfl rfl),trivial⟩ ?_
 refine Cfg.cond rfl (b := D.down) kr (fun c2r => ?_) (fun c2r => ?_)
 ·have c2 : (D.down = true) := c2r
  refine Rg [4] [] n0 trivial ?_
  refine Cfg.ret rfl (rs := [.tmp 4]) rfl [.int .i64 13] ⟨kr,trivial⟩ (fun w1 hp => ?_)
  have hx : fltF D q = 13 := if_pos c2
  exact ⟨by rw [hx]; rfl,hp.ext⟩
 ·have c2 : (D.down = false) := c2r
  refine Cfg.begL rfl ?_
  refine Lp 4 [] (some [17,18]) n0 trivial ?_
  refine Le (Eff.callA (vs := [.pointer (some ⟨m.d,3,none⟩),.int .i64 q]) (.bool (decide (0 ≤ q ∧ q < (D.last.length : Int)))) rfl Tryz.func74 rfl rfl kr (fun w1 h => dThere m x D q w1 (h.hasR (fun e he => he)))) ?_
  rintro ⟨⟩ -
  refine Lp 2 [] (some [14]) n0 trivial ?_
  refine CfgL.done rfl ?_
  refine Cfg.cond rfl (b := (!(decide (0 ≤ q ∧ q < (D.last.length : Int))))) kr (fun c3r => ?_) (fun c3r => ?_)
  ·have c3 := (of_decide_eq_false (notT c3r))
   refine Rg [4] [] n0 trivial ?_
   refine Cfg.ret rfl (rs := [.tmp 4]) rfl [.int .i64 2] ⟨kr,trivial⟩ (fun w1 hp => ?_)
   have hx : fltF D q = 2 := by unfold fltF; rw [if_neg (by simp [c2]),if_neg c3]
   exact ⟨by rw [hx]; rfl,hp.ext⟩
  ·have c3 := (of_decide_eq_true (notF c3r))
   refine Cfg.reg rfl [4] [] (Γ' := [(4,[],.int .i64 0)]) (nd := (fun _ => [])) (fun _ => kr) trivial ?_
   refine Cfg.ret rfl (rs := [.tmp 4]) rfl [.int .i64 0] ⟨kr,trivial⟩ (fun w1 hp => ?_)
   have hx : fltF D q = 0 := by unfold fltF; rw [if_neg (by simp [c2]),if_pos c3]
   exact ⟨by rw [hx]; rfl,hp.ext⟩
set_option maxRecDepth 100000 in
theorem dBlock (m : DM) (x : MX) (D : DK) (q : Int) (w : World) (hg : DG D) (hmo : MapOk x.1 x.2 (wv2 D.wait)) (hq : 0 ≤ q ∧ q < (D.last.length : Int)) (hR : Has w (dO D m x)) :
  Calls Tryz.prog 89 #[.pointer (some ⟨m.d,3,none⟩),.int .i64 q] w fun e w' => e = .returned (.agg (bv (shown D q))) ∧ Ext [] w w' := by
 have hn := hg.n
 refine enter (vs := [.pointer (some ⟨m.d,3,none⟩),.int .i64 q]) [] [(m.d,.cells #[.int .i64 D.fuse,.int .i64 D.steps,.bool D.down,.slice (some ⟨m.lb,0,none⟩) D.last.length D.last.length,.map (some m.mb)] 117 (0,0)),(m.lb,.cells ((rows D.last).toArray) 25 (0,0)),(m.mb,.map x.1 x.2)] [] Tryz.func89 rfl kr (HP.ofHas hR) ?_
 refine Cfg.begL rfl ?_
 refine Le (Eff.alloc (z := (.agg (bv (List.replicate 512 0)))) rfl kr) ?_
 rintro b1 ⟨hb1,nb1⟩
 refine CfgL.done rfl ?_
 refine Cfg.begL rfl ?_
 refine Lp 5 [dZ,dZ,dZ,(0,false,some (.map (some m.mb)))] (some [0,1,4,11,12]) (fun S => [(∀ w1,S w1 → w1.cell? ⟨m.d,4,none⟩ = some (.map (some m.mb)))]) ⟨(fun w1 h => h.rcell 0 rfl rfl),trivial⟩ ?_
 refine Le (Eff.waitGet (r := m.mb) (k := q) rfl rfl kr kr hmo (fun w1 h => h.ro (m.mb,_) (List.mem_of_getElem? (i := 2) rfl))) ?_
 rintro ⟨⟩ -
 refine Lp 3 [] (some [0,1,4,14,15]) n0 trivial ?_
 refine Le (Eff.alloc (z := (.agg (bv (List.replicate 512 0)))) rfl kr) ?_
 rintro b2 ⟨hb2,nb2⟩
 refine Le (Eff.storeN (b := b2) (off := 0) (vs := (bv ((wget D.wait q).getD zb))) (n := 512) rfl kr kr kr ((bv_size _).trans (getO_len hg _)) (all_bv _) 0 (cs := (bv (List.replicate 512 0))) (e := 25) kr (by rw [zsz512]; omega)) ?_
 rintro ⟨⟩ -
 refine CfgL.setO (congrArg (fun (xq : Array Value) => ([(b2,.cells xq 25 (0,0)),(b1,.cells (bv (List.replicate 512 0)) 25 (0,0))] : List (Nat × Obj))) (show _ = (bv ((wget D.wait q).getD zb)) from spl_all (((bv_size _).trans (getO_len hg _)).trans zsz512.symm))) ?_
 refine Lp 1 [] (some [0,1,4,5,6]) n0 trivial ?_
 refine CfgL.done rfl ?_
 refine Rg [0,1,4,5,16] [] n0 trivial ?_
 refine Cfg.cond rfl (b := (wget D.wait q).isSome) kr (fun c1r => ?_) (fun c1r => ?_)
 ·have c1 : ((wget D.wait q).isSome = true) := c1r
  refine Cfg.begL rfl ?_
  refine Lp 1 [(0,false,some (.agg (bv ((wget D.wait q).getD zb))))] (some [4,17]) (fun S => [(∀ w1,S w1 → (loadVar 25 ⟨b2,0,none⟩).run Tryz.prog w1 = .ok (.agg (bv ((wget D.wait q).getD zb))) w1)]) ⟨(fun w1 h => h.oload 0 rfl Tryz.underlying25 rfl (n := 512) kr ((bv_size _).trans (getO_len hg _))),trivial⟩ ?_
  refine Le (Eff.storeN (b := b1) (off := 0) (vs := (bv ((wget D.wait q).getD zb))) (n := 512) rfl kr kr kr ((bv_size _).trans (getO_len hg _)) (all_bv _) 1 (cs := (bv (List.replicate 512 0))) (e := 25) kr (by rw [zsz512]; omega)) ?_
  rintro ⟨⟩ -
  refine CfgL.setO (congrArg (fun (xq : Array Value) => ([(b2,.cells (bv ((wget D.wait q).getD zb)) 25 (0,0)),(b1,.cells xq 25 (0,0))] : List (Nat × Obj))) (show _ = (bv ((wget D.wait q).getD zb)) from spl_all (((bv_size _).trans (getO_len hg _)).trans zsz512.symm))) ?_
  refine CfgL.done rfl ?_
  refine Cg (Γ' := [(4,[],.pointer (some ⟨b1,0,none⟩))]) ?_
  refine Cfg.ret rfl (rs := [.cell 4 25]) rfl [.agg (bv ((wget D.wait q).getD zb))] ⟨⟨_,by kernel_rfl,(fun w1 h => h.oload 1 rfl Tryz.underlying25 rfl (n := 512) kr ((bv_size _).trans (getO_len hg _)))⟩,trivial⟩ (fun w1 hp => ?_)
  have hx : (wget D.wait q).getD zb = shown D q := by unfold shown; revert c1; cases wget D.wait q <;> simp
  exact ⟨by rw [hx]; rfl,hp.ext⟩
 ·have c1 : ((wget D.wait q).isSome = false) := c1r
  refine Cfg.begL rfl ?_
  refine Lp 7 [dZ,dZ,dZ,(0,false,some (.slice (some ⟨m.lb,0,none⟩) D.last.length D.last.length)),dZ,dZ,(0,false,some (.agg (bv (D.last.getD ((q).toNat) zb))))] (some [4,24]) (fun S => [(∀ w1,S w1 → w1.cell? ⟨m.d,3,none⟩ = some (.slice (some ⟨m.lb,0,none⟩) D.last.length D.last.length)),(0 ≤ q ∧ q < (D.last.length : Int)),(∀ w1,S w1 → (loadVar 25 ⟨m.lb,((q).toNat * 512),none⟩).run Tryz.prog w1 = .ok (.agg (bv (D.last.getD ((q).toNat) zb))) w1)]) ⟨(fun w1 h => h.rcell 0 rfl rfl),om,(fun w1 h => load_bytes Tryz.underlying25 rfl kr (hg.w.at' _) (fun j hj => sect_cell (n := 0) hg.w (h.ro _ (List.mem_of_getElem? (i := 1) rfl)) rfl om j hj)),trivial⟩ ?_
  refine Le (Eff.storeN (b := b1) (off := 0) (vs := (bv (D.last.getD ((q).toNat) zb))) (n := 512) rfl kr kr kr ((bv_size _).trans (hg.w.at' _)) (all_bv _) 1 (cs := (bv (List.replicate 512 0))) (e := 25) kr (by rw [zsz512]; omega)) ?_
  rintro ⟨⟩ -
  refine CfgL.setO (congrArg (fun (xq : Array Value) => ([(b2,.cells (bv ((wget D.wait q).getD zb)) 25 (0,0)),(b1,.cells xq 25 (0,0))] : List (Nat × Obj))) (show _ = (bv (D.last.getD ((q).toNat) zb)) from spl_all (((bv_size _).trans (hg.w.at' _)).trans zsz512.symm))) ?_
  refine CfgL.done rfl ?_
  refine Cg (Γ' := [(4,[],.pointer (some ⟨b1,0,none⟩))]) ?_
  refine Cfg.ret rfl (rs := [.cell 4 25]) rfl [.agg (bv (D.last.getD ((q).toNat) zb))] ⟨⟨_,by kernel_rfl,(fun w1 h => h.oload 1 rfl Tryz.underlying25 rfl (n := 512) kr ((bv_size _).trans (hg.w.at' _)))⟩,trivial⟩ (fun w1 hp => ?_)
  have hx : D.last.getD q.toNat zb = shown D q := by unfold shown; revert c1; cases wget D.wait q <;> simp
  exact ⟨by rw [hx]; rfl,hp.ext⟩
set_option maxRecDepth 100000 in
theorem dRead (m : DM) (x : MX) (D : DK) (q : Int) (w : World) (hg : DG D) (hmo : MapOk x.1 x.2 (wv2 D.wait)) (hR : Has w (dO D m x)) :
  Calls Tryz.prog 50 #[.pointer (some ⟨m.d,0,none⟩),.int .i64 q] w fun e w' => e = .returned (.tuple #[.agg (bv (readF D q)),.int .i64 (fltF D q)]) ∧ Ext [] w w' := by
 have hn := hg.n
 refine enter (vs := [.pointer (some ⟨m.d,0,none⟩),.int .i64 q]) [] [(m.d,.cells #[.int .i64 D.fuse,.int .i64 D.steps,.bool D.down,.slice (some ⟨m.lb,0,none⟩) D.last.length D.last.length,.map (some m.mb)] 117 (0,0)),(m.lb,.cells ((rows D.last).toArray) 25 (0,0)),(m.mb,.map x.1 x.2)] [] Tryz.func50 rfl kr (HP.ofHas hR) ?_
 refine Cfg.begL rfl ?_
 refine Le (Eff.alloc (z := (.agg (bv (List.replicate 512 0)))) rfl kr) ?_
 rintro b1 ⟨hb1,nb1⟩
 refine Lp 1 [] (some [0,1,4]) n0 trivial ?_
 refine CfgL.done rfl ?_
 refine Cfg.begL rfl ?_
 refine Lp 2 [] none n0 trivial ?_
 refine Le (Eff.callA (vs := [.pointer (some ⟨m.d,0,none⟩),.int .i64 q]) (.int .i64 (fltF D q)) rfl Tryz.func88 rfl rfl kr (fun w1 h => dFault m x D q w1 (h.hasR (fun e he => he)))) ?_
 rintro ⟨⟩ -
 refine Lp 1 [] (some [0,1,4,6]) n0 trivial ?_
 refine CfgL.done rfl ?_
 refine Rg [0,1,4,6,11] [] n0 trivial ?_
 refine Cfg.cond rfl (b := ((fltF D q) != (0 : Int))) kr (fun c1r => ?_) (fun c1r => ?_)
 ·have c1 := (bne_iff_ne.1 c1r)
  refine Cfg.begL rfl ?_
  refine Lp 2 [(0,false,some (.agg (bv (List.replicate 512 0))))] (some [4,12,13]) (fun S => [(∀ w1,S w1 → (Instr.build 25 #[]).run Tryz.prog w1 = .ok (.agg (bv (List.replicate 512 0))) w1)]) ⟨(fun _ _ => kr),trivial⟩ ?_
  refine Le (Eff.storeN (b := b1) (off := 0) (vs := (bv (List.replicate 512 0))) (n := 512) rfl kr kr kr ((bv_size _).trans (List.length_replicate)) (all_bv _) 0 (cs := (bv (List.replicate 512 0))) (e := 25) kr (by rw [zsz512]; omega)) ?_
  rintro ⟨⟩ -
  refine CfgL.setO (congrArg (fun (xq : Array Value) => ([(b1,.cells xq 25 (0,0))] : List (Nat × Obj))) (show _ = (bv (List.replicate 512 0)) from spl_all (((bv_size _).trans (List.length_replicate)).trans zsz512.symm))) ?_
  refine Lp 1 [] (some [4,5]) n0 trivial ?_
  refine CfgL.done rfl ?_
  refine Cfg.ret rfl (rs := [.cell 4 25,.tmp 5]) rfl [.agg (bv (List.replicate 512 0)),.int .i64 (fltF D q)] ⟨⟨_,by kernel_rfl,(fun w1 h => h.oload 0 rfl Tryz.underlying25 rfl (n := 512) kr ((bv_size _).trans (List.length_replicate)))⟩,by kernel_rfl,trivial⟩ (fun w1 hp => ?_)
  have hx : readF D q = List.replicate 512 0 := if_neg c1
  exact ⟨by rw [hx]; rfl,hp.ext⟩
 ·have c1 := (bne_eq_false_iff_eq.1 c1r)
  refine Cfg.begL rfl ?_
  refine Lp 4 [] (some [4,16,17]) n0 trivial ?_
  refine Le (Eff.callA (vs := [.pointer (some ⟨m.d,3,none⟩),.int .i64 q]) (.agg (bv (shown D q))) rfl Tryz.func89 rfl rfl kr (fun w1 h => dBlock m x D q w1 hg hmo (fltF_in c1) (h.hasR (fun e he => he)))) ?_
  rintro ⟨⟩ -
  refine Le (Eff.storeN (b := b1) (off := 0) (vs := (bv (shown D q))) (n := 512) rfl kr kr kr ((bv_size _).trans (shown_len hg _)) (all_bv _) 0 (cs := (bv (List.replicate 512 0))) (e := 25) kr (by rw [zsz512]; omega)) ?_
  rintro ⟨⟩ -
  refine CfgL.setO (congrArg (fun (xq : Array Value) => ([(b1,.cells xq 25 (0,0))] : List (Nat × Obj))) (show _ = (bv (shown D q)) from spl_all (((bv_size _).trans (shown_len hg _)).trans zsz512.symm))) ?_
  refine CfgL.pure 1 [] (some [4,5]) (Γ' := [(5,[],.int .i64 0),(4,[],.pointer (some ⟨b1,0,none⟩))]) (nd := (fun _ => [])) kr (fun _ => kr) trivial ?_
  refine CfgL.done rfl ?_
  refine Cfg.ret rfl (rs := [.cell 4 25,.tmp 5]) rfl [.agg (bv (shown D q)),.int .i64 0] ⟨⟨_,by kernel_rfl,(fun w1 h => h.oload 0 rfl Tryz.underlying25 rfl (n := 512) kr ((bv_size _).trans (shown_len hg _)))⟩,by kernel_rfl,trivial⟩ (fun w1 hp => ?_)
  have c1x : fltF D q = 0 := by omega
  have hx : readF D q = shown D q := if_pos c1x
  exact ⟨by rw [hx,c1x]; rfl,hp.ext⟩
set_option maxRecDepth 100000 in
theorem dLasts (m : DM) (x : MX) (D : DK) (q : Int) (w : World) (hg : DG D) (hmo : MapOk x.1 x.2 (wv2 D.wait)) (hR : Has w (dO D m x)) :
  Calls Tryz.prog 29 #[.pointer (some ⟨m.d,0,none⟩),.int .i64 q] w fun e w' => e = .returned (.agg (bv (lastsF D q))) ∧ Ext [] w w' := by
 have hn := hg.n
 refine enter (vs := [.pointer (some ⟨m.d,0,none⟩),.int .i64 q]) [] [(m.d,.cells #[.int .i64 D.fuse,.int .i64 D.steps,.bool D.down,.slice (some ⟨m.lb,0,none⟩) D.last.length D.last.length,.map (some m.mb)] 117 (0,0)),(m.lb,.cells ((rows D.last).toArray) 25 (0,0)),(m.mb,.map x.1 x.2)] [] Tryz.func29 rfl kr (HP.ofHas hR) ?_
 refine Cfg.begL rfl ?_
 refine Le (Eff.alloc (z := (.agg (bv (List.replicate 512 0)))) rfl kr) ?_
 rintro b1 ⟨hb1,nb1⟩
 refine CfgL.done rfl ?_
 refine Cfg.begL rfl ?_
 refine Lp 7 [dZ,dZ,dZ,(1,false,none),(1,false,none),(1,false,none),(1,false,none)] (some [0,1,4,7,10,11]) (fun _ => [((.bool false : Value) = .bool false),((.bool false : Value) = .bool false),((.bool false : Value) = .bool false),((.bool false : Value) = .bool false)]) ⟨rfl,rfl,rfl,rfl,trivial⟩ ?_
 refine Le (Eff.callA (vs := [.pointer (some ⟨m.d,3,none⟩),.int .i64 q]) (.bool (decide (0 ≤ q ∧ q < (D.last.length : Int)))) rfl Tryz.func74 rfl rfl kr (fun w1 h => dThere m x D q w1 (h.hasR (fun e he => he)))) ?_
 rintro ⟨⟩ -
 refine Lp 2 [(1,false,none)] (some [0,1,4,14]) (fun _ => [((.bool false : Value) = .bool false)]) ⟨rfl,trivial⟩ ?_
 refine CfgL.done rfl ?_
 refine Cfg.cond rfl (b := (!(decide (0 ≤ q ∧ q < (D.last.length : Int))))) kr (fun c1r => ?_) (fun c1r => ?_)
 ·have c1 := (of_decide_eq_false (notT c1r))
  refine Cfg.begL rfl ?_
  refine Lp 1 [(0,false,some (.agg (bv (List.replicate 512 0))))] (some [4,15]) (fun S => [(∀ w1,S w1 → (Instr.build 25 #[]).run Tryz.prog w1 = .ok (.agg (bv (List.replicate 512 0))) w1)]) ⟨(fun _ _ => kr),trivial⟩ ?_
  refine Le (Eff.storeN (b := b1) (off := 0) (vs := (bv (List.replicate 512 0))) (n := 512) rfl kr kr kr ((bv_size _).trans (List.length_replicate)) (all_bv _) 0 (cs := (bv (List.replicate 512 0))) (e := 25) kr (by rw [zsz512]; omega)) ?_
  rintro ⟨⟩ -
  refine CfgL.setO (congrArg (fun (xq : Array Value) => ([(b1,.cells xq 25 (0,0))] : List (Nat × Obj))) (show _ = (bv (List.replicate 512 0)) from spl_all (((bv_size _).trans (List.length_replicate)).trans zsz512.symm))) ?_
  refine CfgL.done rfl ?_
  refine Cg (Γ' := [(4,[],.pointer (some ⟨b1,0,none⟩))]) ?_
  refine Cfg.ret rfl (rs := [.cell 4 25]) rfl [.agg (bv (List.replicate 512 0))] ⟨⟨_,by kernel_rfl,(fun w1 h => h.oload 0 rfl Tryz.underlying25 rfl (n := 512) kr ((bv_size _).trans (List.length_replicate)))⟩,trivial⟩ (fun w1 hp => ?_)
  have hx : lastsF D q = List.replicate 512 0 := if_neg (by first | exact c2 | omega)
  exact ⟨by rw [hx]; rfl,hp.ext⟩
 ·have c1 := (of_decide_eq_true (notF c1r))
  refine Cfg.begL rfl ?_
  refine Lp 8 [dZ,dZ,dZ,dZ,(0,false,some (.slice (some ⟨m.lb,0,none⟩) D.last.length D.last.length)),dZ,dZ,(0,false,some (.agg (bv (D.last.getD ((q).toNat) zb))))] (some [4,23]) (fun S => [(∀ w1,S w1 → w1.cell? ⟨m.d,3,none⟩ = some (.slice (some ⟨m.lb,0,none⟩) D.last.length D.last.length)),(0 ≤ q ∧ q < (D.last.length : Int)),(∀ w1,S w1 → (loadVar 25 ⟨m.lb,((q).toNat * 512),none⟩).run Tryz.prog w1 = .ok (.agg (bv (D.last.getD ((q).toNat) zb))) w1)]) ⟨(fun w1 h => h.rcell 0 rfl rfl),om,(fun w1 h => load_bytes Tryz.underlying25 rfl kr (hg.w.at' _) (fun j hj => sect_cell (n := 0) hg.w (h.ro _ (List.mem_of_getElem? (i := 1) rfl)) rfl om j hj)),trivial⟩ ?_
  refine Le (Eff.storeN (b := b1) (off := 0) (vs := (bv (D.last.getD ((q).toNat) zb))) (n := 512) rfl kr kr kr ((bv_size _).trans (hg.w.at' _)) (all_bv _) 0 (cs := (bv (List.replicate 512 0))) (e := 25) kr (by rw [zsz512]; omega)) ?_
  rintro ⟨⟩ -
  refine CfgL.setO (congrArg (fun (xq : Array Value) => ([(b1,.cells xq 25 (0,0))] : List (Nat × Obj))) (show _ = (bv (D.last.getD ((q).toNat) zb)) from spl_all (((bv_size _).trans (hg.w.at' _)).trans zsz512.symm))) ?_
  refine CfgL.done rfl ?_
  refine Cg (Γ' := [(4,[],.pointer (some ⟨b1,0,none⟩))]) ?_
  refine Cfg.ret rfl (rs := [.cell 4 25]) rfl [.agg (bv (D.last.getD ((q).toNat) zb))] ⟨⟨_,by kernel_rfl,(fun w1 h => h.oload 0 rfl Tryz.underlying25 rfl (n := 512) kr ((bv_size _).trans (hg.w.at' _)))⟩,trivial⟩ (fun w1 hp => ?_)
  have hx : lastsF D q = D.last.getD q.toNat zb := if_pos (by first | exact c2 | omega)
  exact ⟨by rw [hx]; rfl,hp.ext⟩
set_option maxRecDepth 100000 in
theorem mKeys (r : Nat) (w : World) :
  Calls Tryz.prog 110 #[.map (some r)] w fun e w' => ∃ b : Nat,True ∧ e = .returned (.func (.func 125) #[] #[.pointer (some ⟨b,0,none⟩)]) ∧ w.heap.size ≤ b ∧ w'.heap[b]? = some (.cells #[.map (some r)] 113 (0,0)) ∧ Ext [] w w' := by
 refine enter (vs := [.map (some r)]) [] [] [] Tryz.func110 rfl kr (HP.start w) ?_
 refine Cfg.begL rfl ?_
 refine Le (Eff.box (v := .map (some r)) rfl kr) ?_
 rintro b1 ⟨hb1,nb1⟩
 refine Lp 1 [] (some [1]) n0 trivial ?_
 refine CfgL.done rfl ?_
 refine Rg [2] [] n0 trivial ?_
 refine Cfg.ret rfl (rs := [.tmp 2]) rfl [.func (.func 125) #[] #[.pointer (some ⟨b1,0,none⟩)]] ⟨kr,trivial⟩ (fun w1 hp => ?_)
 exact ⟨b1,trivial,rfl,hb1,hp.own (b1,_) (List.mem_cons_self ..),hp.ext⟩
end Go.Proofs.YtohjpggjgomgoaaGreatDoor
namespace Go.Proofs.YtohjpggjgomgoaaGreatDoor
open K
set_option linter.unusedVariables false
def spF (D : DK) : Bool × DK :=
 if D.down = true then (false,D) else if D.fuse = 0 then (false,{ D with down := true })
 else (true,{ D with fuse := if D.fuse > 0 then D.fuse - 1 else D.fuse,steps := D.steps + 1 })
theorem spF_wait (D : DK) : (spF D).2.wait = D.wait := by unfold spF; split; rfl; split <;> rfl
theorem spF_last (D : DK) : (spF D).2.last = D.last := by unfold spF; split; rfl; split <;> rfl
theorem DG.sp {D : DK} (h : DG D) : DG (spF D).2 := by
 have h1 := h.f
 unfold spF
 split
 ·exact h
 ·split
  ·exact ⟨h.w,h.ww,h.k,h.n,h.nd,h.f⟩
  ·refine ⟨h.w,h.ww,h.k,h.n,h.nd,?_⟩
   show -1 ≤ (if D.fuse > 0 then D.fuse - 1 else D.fuse) ∧ (if D.fuse > 0 then D.fuse - 1 else D.fuse) ≤ _
   split <;> omega
theorem spF_steps (D : DK) : D.steps ≤ (spF D).2.steps ∧ (spF D).2.steps ≤ D.steps + 1 := by
 unfold spF; split
 ·exact ⟨by simp only; omega,by simp only; omega⟩
 ·split
  ·exact ⟨by simp only; omega,by simp only; omega⟩
  ·exact ⟨by simp only; omega,by simp only; omega⟩
def writeF (D : DK) (q : Int) (b : List UInt8) : Int × DK :=
 if fltF D q ≠ 0 then (fltF D q,D) else if (spF D).1 = true then (0,{ (spF D).2 with wait := wset (spF D).2.wait q b }) else (13,(spF D).2)
theorem writeF_steps (D : DK) (q : Int) (b : List UInt8) : D.steps ≤ (writeF D q b).2.steps ∧ (writeF D q b).2.steps ≤ D.steps + 1 := by
 have := spF_steps D
 unfold writeF; split
 ·exact ⟨by simp only; omega,by simp only; omega⟩
 ·split
  ·exact this
  ·exact this
theorem wset_keys (k : Int) (v : List UInt8) : ∀ W : Wt,(wset W k v).map (·.1) = if k ∈ W.map (·.1) then W.map (·.1) else W.map (·.1) ++ [k]
 | [] => rfl
 | p :: W => by
  unfold wset
  by_cases h : k = p.1
  ·rw [if_pos h,if_pos (by rw [h]; exact List.mem_cons_self ..)]
   simp [h]
  ·rw [if_neg h,List.map_cons,wset_keys k v W]
   by_cases h2 : k ∈ W.map (·.1)
   ·rw [if_pos h2,if_pos (by rw [List.map_cons]; exact List.mem_cons_of_mem _ h2)]; rfl
   ·rw [if_neg h2,if_neg (by rw [List.map_cons,List.mem_cons]; exact fun e => e.elim h h2)]; rfl
theorem DG.wr {D : DK} (h : DG D) {q : Int} {b : List UInt8} (hq : 0 ≤ q ∧ q < (D.last.length : Int)) (hb : b.length = 512) : DG { D with wait := wset D.wait q b } :=
 ⟨h.w,fun p hp => by
  rcases wset_mem p hp with rfl | hp
  ·exact hb
  ·exact h.ww p hp,fun p hp => by
  rcases wset_mem p hp with rfl | hp
  ·exact hq
  ·exact h.k p hp,h.n,by
  show ((wset D.wait q b).map (·.1)).Nodup
  rw [wset_keys]
  split
  ·exact h.nd
  ·rename_i h1
   refine List.nodup_append.2 ⟨h.nd,by simp,fun x hx y hy => ?_⟩
   rw [List.mem_singleton.1 hy]; exact fun e => h1 (e ▸ hx),h.f⟩
theorem DG.write {D : DK} (h : DG D) (q : Int) {b : List UInt8} (hb : b.length = 512) : DG (writeF D q b).2 := by
 unfold writeF
 split
 ·exact h
 ·rename_i h0
  have h0 : fltF D q = 0 := Decidable.not_not.1 h0
  split
  ·exact h.sp.wr (by rw [spF_last]; exact fltF_in h0) hb
  ·exact h.sp
theorem fltF_cases (D : DK) (q : Int) : fltF D q = 0 ∨ fltF D q = 2 ∨ fltF D q = 13 := by
 unfold fltF; split
 ·exact .inr (.inr rfl)
 ·split
  ·exact .inl rfl
  ·exact .inr (.inl rfl)
set_option maxRecDepth 100000 in
theorem dSpend (m : DM) (D : DK) (w : World) (hf : -1 ≤ D.fuse ∧ D.fuse ≤ 9223372036854775807) (hs : 0 ≤ D.steps ∧ D.steps ≤ 4611686018427387904) (hb : w.heap[m.d]? = some (.cells (dC D m) 117 (0,0))) :
  Calls Tryz.prog 91 #[.pointer (some ⟨m.d,0,none⟩)] w fun e w' => e = .returned (.bool (spF D).1) ∧ Ext [m.d] w w' ∧ w'.heap[m.d]? = some (.cells (dC (spF D).2 m) 117 (0,0)) := by
 refine enter (vs := [.pointer (some ⟨m.d,0,none⟩)]) [m.d] [] [(m.d,.cells #[.int .i64 D.fuse,.int .i64 D.steps,.bool D.down,.slice (some ⟨m.lb,0,none⟩) D.last.length D.last.length,.map (some m.mb)] 117 (0,0))] Tryz.func91 rfl kr (HP.startM (fun e he => by cases he) hb (by simp)) ?_
 refine Rg [0] [] n0 trivial ?_
 refine Rg [0,6] [dZ,dZ,dZ,(0,false,some (.bool D.down))] (fun S => [(∀ w1,S w1 → w1.cell? ⟨m.d,2,none⟩ = some (.bool D.down))]) ⟨(fun w1 h => h.ocell 0 rfl rfl),trivial⟩ ?_
 refine Cfg.cond rfl (b := D.down) kr (fun c1r => ?_) (fun c1r => ?_)
 ·have c1 : (D.down = true) := c1r
  refine Rg [2] [] n0 trivial ?_
  refine Cfg.ret rfl (rs := [.tmp 2]) rfl [.bool false] ⟨kr,trivial⟩ (fun w1 hp => ?_)
  have hx : spF D = (false,D) := if_pos c1
  rw [hx]
  exact ⟨rfl,hp.ext,hp.own (m.d,_) (List.mem_cons_self ..)⟩
 ·have c1 : (D.down = false) := c1r
  refine Rg [0,11] [dZ,dZ,dZ,(0,false,some (.int .i64 D.fuse))] (fun S => [(∀ w1,S w1 → w1.cell? ⟨m.d,0,none⟩ = some (.int .i64 D.fuse))]) ⟨(fun w1 h => h.ocell 0 rfl rfl),trivial⟩ ?_
  refine Cfg.cond rfl (b := (D.fuse == (0 : Int))) kr (fun c2r => ?_) (fun c2r => ?_)
  ·have c2 := (beq_iff_eq.1 c2r)
   refine Cfg.begL rfl ?_
   refine Lp 3 [] (some [14]) n0 trivial ?_
   refine Le (Eff.store1 (b := m.d) (off := 2) (v := .bool true) rfl kr kr rfl kr 0 (cs := #[.int .i64 D.fuse,.int .i64 D.steps,.bool D.down,.slice (some ⟨m.lb,0,none⟩) D.last.length D.last.length,.map (some m.mb)]) (e := 117) kr (by simp)) ?_
   rintro ⟨⟩ -
   refine CfgL.done rfl ?_
   refine Cg (Γ' := []) ?_
   refine Rg [2] [] n0 trivial ?_
   refine Cfg.ret rfl (rs := [.tmp 2]) rfl [.bool false] ⟨kr,trivial⟩ (fun w1 hp => ?_)
   have hx : spF D = (false,{ D with down := true }) := by unfold spF; rw [if_neg (by simp [c1]),if_pos c2]
   rw [hx]
   exact ⟨rfl,hp.ext,hp.own (m.d,_) (List.mem_cons_self ..)⟩
  ·have c2 := (beq_eq_false_iff_ne.1 c2r)
   refine Rg [0,19] [dZ,dZ,dZ,(0,false,some (.int .i64 D.fuse))] (fun S => [(∀ w1,S w1 → w1.cell? ⟨m.d,0,none⟩ = some (.int .i64 D.fuse))]) ⟨(fun w1 h => h.ocell 0 rfl rfl),trivial⟩ ?_
   refine Cfg.cond rfl (b := (decide (D.fuse > (0 : Int)))) kr (fun c3r => ?_) (fun c3r => ?_)
   ·have c3 := (of_decide_eq_true c3r)
    refine Cfg.begL rfl ?_
    refine Lp 7 [dZ,dZ,dZ,(0,false,some (.int .i64 D.fuse))] (some [0,24,26]) (fun S => [(∀ w1,S w1 → w1.cell? ⟨m.d,0,none⟩ = some (.int .i64 D.fuse)),((-9223372036854775808 : Int) ≤ (D.fuse - 1) ∧ (D.fuse - 1) ≤ 9223372036854775807)]) ⟨(fun w1 h => h.ocell 0 rfl rfl),om,trivial⟩ ?_
    refine Le (Eff.store1 (b := m.d) (off := 0) (v := .int .i64 (D.fuse - 1)) rfl kr kr rfl kr 0 (cs := #[.int .i64 D.fuse,.int .i64 D.steps,.bool D.down,.slice (some ⟨m.lb,0,none⟩) D.last.length D.last.length,.map (some m.mb)]) (e := 117) kr (by simp)) ?_
    rintro ⟨⟩ -
    refine CfgL.done rfl ?_
    refine Cg (Γ' := [(0,[],.pointer (some ⟨m.d,0,none⟩))]) ?_
    refine Cfg.begL rfl ?_
    refine Lp 7 [dZ,dZ,dZ,(0,false,some (.int .i64 D.steps))] (some [31,33]) (fun S => [(∀ w1,S w1 → w1.cell? ⟨m.d,1,none⟩ = some (.int .i64 D.steps)),((-9223372036854775808 : Int) ≤ (D.steps + 1) ∧ (D.steps + 1) ≤ 9223372036854775807)]) ⟨(fun w1 h => h.ocell 0 rfl rfl),om,trivial⟩ ?_
    refine Le (Eff.store1 (b := m.d) (off := 1) (v := .int .i64 (D.steps + 1)) rfl kr kr rfl kr 0 (cs := (#[.int .i64 D.fuse,.int .i64 D.steps,.bool D.down,.slice (some ⟨m.lb,0,none⟩) D.last.length D.last.length,.map (some m.mb)].setIfInBounds 0 (.int .i64 (D.fuse - 1)))) (e := 117) kr (by simp)) ?_
    rintro ⟨⟩ -
    refine CfgL.done rfl ?_
    refine Cg (Γ' := []) ?_
    refine Rg [2] [] n0 trivial ?_
    refine Cfg.ret rfl (rs := [.tmp 2]) rfl [.bool true] ⟨kr,trivial⟩ (fun w1 hp => ?_)
    have hx : spF D = (true,{ D with fuse := D.fuse - 1,steps := D.steps + 1 }) := by unfold spF; rw [if_neg (by simp [c1]),if_neg c2,if_pos c3]
    rw [hx]
    exact ⟨rfl,hp.ext,hp.own (m.d,_) (List.mem_cons_self ..)⟩
   ·have c3 := (of_decide_eq_false c3r)
    refine Cfg.begL rfl ?_
    refine Lp 7 [dZ,dZ,dZ,(0,false,some (.int .i64 D.steps))] (some [31,33]) (fun S => [(∀ w1,S w1 → w1.cell? ⟨m.d,1,none⟩ = some (.int .i64 D.steps)),((-9223372036854775808 : Int) ≤ (D.steps + 1) ∧ (D.steps + 1) ≤ 9223372036854775807)]) ⟨(fun w1 h => h.ocell 0 rfl rfl),om,trivial⟩ ?_
    refine Le (Eff.store1 (b := m.d) (off := 1) (v := .int .i64 (D.steps + 1)) rfl kr kr rfl kr 0 (cs := #[.int .i64 D.fuse,.int .i64 D.steps,.bool D.down,.slice (some ⟨m.lb,0,none⟩) D.last.length D.last.length,.map (some m.mb)]) (e := 117) kr (by simp)) ?_
    rintro ⟨⟩ -
    refine CfgL.done rfl ?_
    refine Cg (Γ' := []) ?_
    refine Rg [2] [] n0 trivial ?_
    refine Cfg.ret rfl (rs := [.tmp 2]) rfl [.bool true] ⟨kr,trivial⟩ (fun w1 hp => ?_)
    have hx : spF D = (true,{ D with fuse := D.fuse,steps := D.steps + 1 }) := by unfold spF; rw [if_neg (by simp [c1]),if_neg c2,if_neg c3]
    rw [hx]
    exact ⟨rfl,hp.ext,hp.own (m.d,_) (List.mem_cons_self ..)⟩
set_option maxRecDepth 100000 in
theorem dFuse (m : DM) (D : DK) (q : Int) (w : World) (hb : w.heap[m.d]? = some (.cells (dC D m) 117 (0,0))) :
  Calls Tryz.prog 58 #[.pointer (some ⟨m.d,0,none⟩),.int .i64 q] w fun e w' => e = .returned (.tuple #[]) ∧ Ext [m.d] w w' ∧ w'.heap[m.d]? = some (.cells (dC { D with fuse := if -1 > q then -1 else q } m) 117 (0,0)) := by
 refine enter (vs := [.pointer (some ⟨m.d,0,none⟩),.int .i64 q]) [m.d] [] [(m.d,.cells #[.int .i64 D.fuse,.int .i64 D.steps,.bool D.down,.slice (some ⟨m.lb,0,none⟩) D.last.length D.last.length,.map (some m.mb)] 117 (0,0))] Tryz.func58 rfl kr (HP.startM (fun e he => by cases he) hb (by simp)) ?_
 refine Rg [0,1,5] [] n0 trivial ?_
 refine Cfg.condT rfl (b := true) kr rfl ?_
 refine Cfg.begL rfl ?_
 refine Lp 2 [] (some [6,7]) n0 trivial ?_
 refine Le (Eff.maxI (k := .i64) (a := q) (b := -1) rfl kr kr) ?_
 rintro ⟨⟩ -
 refine Lp 3 [] (some [8,11]) n0 trivial ?_
 refine Le (Eff.store1 (b := m.d) (off := 0) (v := .int .i64 (if -1 > q then -1 else q)) rfl kr kr rfl kr 0 (cs := #[.int .i64 D.fuse,.int .i64 D.steps,.bool D.down,.slice (some ⟨m.lb,0,none⟩) D.last.length D.last.length,.map (some m.mb)]) (e := 117) kr (by simp)) ?_
 rintro ⟨⟩ -
 refine CfgL.done rfl ?_
 refine Cg (Γ' := []) ?_
 refine Cfg.fin rfl (rs := []) rfl [] trivial (fun w1 hp => ?_)
 exact ⟨rfl,hp.ext,hp.own (m.d,_) (List.mem_cons_self ..)⟩
set_option maxRecDepth 100000 in
theorem dSectors (m : DM) (x : MX) (D : DK) (w : World) (hR : Has w (dO D m x)) :
  Calls Tryz.prog 51 #[.pointer (some ⟨m.d,0,none⟩)] w fun e w' => e = .returned (.int .i64 (D.last.length : Int)) ∧ Ext [] w w' := by
 refine enter (vs := [.pointer (some ⟨m.d,0,none⟩)]) [] [(m.d,.cells #[.int .i64 D.fuse,.int .i64 D.steps,.bool D.down,.slice (some ⟨m.lb,0,none⟩) D.last.length D.last.length,.map (some m.mb)] 117 (0,0)),(m.lb,.cells ((rows D.last).toArray) 25 (0,0)),(m.mb,.map x.1 x.2)] [] Tryz.func51 rfl kr (HP.ofHas hR) ?_
 refine Rg [0] [] n0 trivial ?_
 refine Rg [0,4] [] n0 trivial ?_
 refine Cfg.condF rfl (b := false) kr rfl ?_
 refine Rg [2] [dZ,dZ,dZ,dZ,(0,false,some (.slice (some ⟨m.lb,0,none⟩) D.last.length D.last.length))] (fun S => [(∀ w1,S w1 → w1.cell? ⟨m.d,3,none⟩ = some (.slice (some ⟨m.lb,0,none⟩) D.last.length D.last.length))]) ⟨(fun w1 h => h.rcell 0 rfl rfl),trivial⟩ ?_
 refine Cfg.ret rfl (rs := [.tmp 2]) rfl [.int .i64 (D.last.length : Int)] ⟨kr,trivial⟩ (fun w1 hp => ?_)
 exact ⟨by simp [resOf],hp.ext⟩
set_option maxRecDepth 100000 in
theorem dDown (m : DM) (x : MX) (D : DK) (w : World) (hR : Has w (dO D m x)) :
  Calls Tryz.prog 68 #[.pointer (some ⟨m.d,0,none⟩)] w fun e w' => e = .returned (.bool D.down) ∧ Ext [] w w' := by
 refine enter (vs := [.pointer (some ⟨m.d,0,none⟩)]) [] [(m.d,.cells #[.int .i64 D.fuse,.int .i64 D.steps,.bool D.down,.slice (some ⟨m.lb,0,none⟩) D.last.length D.last.length,.map (some m.mb)] 117 (0,0)),(m.lb,.cells ((rows D.last).toArray) 25 (0,0)),(m.mb,.map x.1 x.2)] [] Tryz.func68 rfl kr (HP.ofHas hR) ?_
 refine Rg [0] [] n0 trivial ?_
 refine Rg [2] [dZ,dZ,dZ,(1,false,none),(1,false,none),(1,false,none),(1,false,none),(1,false,some (.bool D.down))] (fun S => [((.bool true : Value) = .bool true),((.bool true : Value) = .bool true),((.bool true : Value) = .bool true),((.bool true : Value) = .bool true),((.bool true : Value) = .bool true),(∀ w1,S w1 → w1.cell? ⟨m.d,2,none⟩ = some (.bool D.down))]) ⟨rfl,rfl,rfl,rfl,rfl,(fun w1 h => h.rcell 0 rfl rfl),trivial⟩ ?_
 refine Cfg.ret rfl (rs := [.tmp 2]) rfl [.bool D.down] ⟨kr,trivial⟩ (fun w1 hp => ?_)
 exact ⟨by simp [resOf],hp.ext⟩
set_option maxRecDepth 100000 in
theorem dSteps (m : DM) (x : MX) (D : DK) (w : World) (hR : Has w (dO D m x)) :
  Calls Tryz.prog 28 #[.pointer (some ⟨m.d,0,none⟩)] w fun e w' => e = .returned (.int .i64 D.steps) ∧ Ext [] w w' := by
 refine enter (vs := [.pointer (some ⟨m.d,0,none⟩)]) [] [(m.d,.cells #[.int .i64 D.fuse,.int .i64 D.steps,.bool D.down,.slice (some ⟨m.lb,0,none⟩) D.last.length D.last.length,.map (some m.mb)] 117 (0,0)),(m.lb,.cells ((rows D.last).toArray) 25 (0,0)),(m.mb,.map x.1 x.2)] [] Tryz.func28 rfl kr (HP.ofHas hR) ?_
 refine Rg [0] [] n0 trivial ?_
 refine Rg [0,4] [] n0 trivial ?_
 refine Cfg.condF rfl (b := false) kr rfl ?_
 refine Rg [2] [dZ,dZ,dZ,dZ,(0,false,some (.int .i64 D.steps))] (fun S => [(∀ w1,S w1 → w1.cell? ⟨m.d,1,none⟩ = some (.int .i64 D.steps))]) ⟨(fun w1 h => h.rcell 0 rfl rfl),trivial⟩ ?_
 refine Cfg.ret rfl (rs := [.tmp 2]) rfl [.int .i64 D.steps] ⟨kr,trivial⟩ (fun w1 hp => ?_)
 exact ⟨by simp [resOf],hp.ext⟩
set_option maxRecDepth 100000 in
theorem dWrite (m : DM) (x : MX) (D : DK) (q : Int) (b : List UInt8) (w : World) (hg : DG D) (hmo : MapOk x.1 x.2 (wv2 D.wait)) (hA : Has w (dO D m x)) (hd : ((dO D m x).map (·.1)).Nodup) (hbl : b.length = 512) (hs : 0 ≤ D.steps ∧ D.steps ≤ 4611686018427387904) :
  Calls Tryz.prog 61 #[.pointer (some ⟨m.d,0,none⟩),.int .i64 q,.agg (bv b)] w fun e w' => ∃ x2 : MX,MapOk x2.1 x2.2 (wv2 (writeF D q b).2.wait) ∧ e = .returned (.int .i64 (writeF D q b).1) ∧ ∃ R1,HP w [m.d,m.lb,m.mb] R1 (dO (writeF D q b).2 m x2) w' := by
 have hn := hg.n
 have hf := hg.f
 have hfc := fltF_cases D q
 refine enter (vs := [.pointer (some ⟨m.d,0,none⟩),.int .i64 q,.agg (bv b)]) [m.d,m.lb,m.mb] [] [(m.d,.cells #[.int .i64 D.fuse,.int .i64 D.steps,.bool D.down,.slice (some ⟨m.lb,0,none⟩) D.last.length D.last.length,.map (some m.mb)] 117 (0,0)),(m.lb,.cells ((rows D.last).toArray) 25 (0,0)),(m.mb,.map x.1 x.2)] Tryz.func61 rfl kr (HP.ofL hA hd (fun e he => by cases he) (fun e he => by cases he)) ?_
 refine Cfg.begL rfl ?_
 refine Le (Eff.box (v := .agg (bv b)) rfl kr) ?_
 rintro bx ⟨hbx,nbx⟩
 refine Lp 1 [] (some [0,1,5]) n0 trivial ?_
 refine CfgL.done rfl ?_
 refine Cfg.begL rfl ?_
 refine Lp 2 [] none n0 trivial ?_
 refine Le (Eff.callA (vs := [.pointer (some ⟨m.d,0,none⟩),.int .i64 q]) (.int .i64 (fltF D q)) rfl Tryz.func88 rfl rfl kr (fun w1 h => dFault m x D q w1 (h.has (fun e he => List.mem_cons_of_mem _ he)))) ?_
 rintro ⟨⟩ -
 refine Lp 1 [] (some [0,1,5,7]) n0 trivial ?_
 refine CfgL.done rfl ?_
 refine Rg [0,1,5,7,12] [] n0 trivial ?_
 refine Cfg.cond rfl (b := ((fltF D q) != (0 : Int))) kr (fun c1r => ?_) (fun c1r => ?_)
 ·have c1 := (bne_iff_ne.1 c1r)
  refine Rg [6] [] n0 trivial ?_
  refine Cfg.ret rfl (rs := [.tmp 6]) rfl [.int .i64 (fltF D q)] ⟨kr,trivial⟩ (fun w1 hp => ?_)
  have hx : writeF D q b = (fltF D q,D) := if_pos c1
  rw [hx]
  have h9 := hp.sub (List.sublist_cons_self _ _)
  exact ⟨x,hmo,rfl,_,h9⟩
 ·have c1 := (bne_eq_false_iff_eq.1 c1r)
  refine Cfg.begL rfl ?_
  refine Lp 3 [] (some [0,1,5,16]) n0 trivial ?_
  refine Le (Eff.callM (vs := [.pointer (some ⟨m.d,0,none⟩)]) (.bool (spF D).1) 1 (.cells (dC (spF D).2 m) 117 (0,0)) rfl Tryz.func91 rfl rfl kr rfl (fun w1 h => dSpend m D w1 hf hs (h.own (m.d,_) (List.mem_of_getElem? (i := 1) rfl)))) ?_
  rintro ⟨⟩ -
  refine Lp 1 [] (some [0,1,5,18]) n0 trivial ?_
  refine CfgL.done rfl ?_
  refine Cfg.cond rfl (b := (!(spF D).1)) kr (fun c2r => ?_) (fun c2r => ?_)
  ·have c2 : ((spF D).1 = false) := (notT c2r)
   refine Cfg.reg rfl [6] [] (Γ' := [(6,[],.int .i64 13)]) (nd := (fun _ => [])) (fun _ => kr) trivial ?_
   refine Cfg.ret rfl (rs := [.tmp 6]) rfl [.int .i64 13] ⟨kr,trivial⟩ (fun w1 hp => ?_)
   have hx : writeF D q b = (13,(spF D).2) := by unfold writeF; rw [if_neg (by simp [c1]),if_neg (by simp [c2])]
   rw [hx]
   refine ⟨x,by rw [spF_wait]; exact hmo,rfl,[],?_⟩
   have h9 := hp.sub (List.sublist_cons_self _ _)
   rw [show dO (spF D).2 m x = [(m.d,.cells (dC (spF D).2 m) 117 (0,0)),(m.lb,.cells (rows (spF D).2.last).toArray 25 (0,0)),(m.mb,.map x.1 x.2)] from rfl,spF_last]
   exact h9
  ·have c2 : ((spF D).1 = true) := (notF c2r)
   refine Cfg.begA rfl kr [(bx,.cells (bv b) 25 (0,0)),(m.d,.cells #[.int .i64 ((spF D).2.fuse),.int .i64 ((spF D).2.steps),.bool (spF D).2.down,.slice (some ⟨m.lb,0,none⟩) (spF D).2.last.length (spF D).2.last.length,.map (some m.mb)] 117 (0,0)),(m.lb,.cells ((rows D.last).toArray) 25 (0,0))] ?_
   refine Ap [0,1,2,3,4,5,6] [dZ,dZ,dZ,dZ,(0,false,some (.map (some m.mb))),dZ,(0,false,some (.agg (bv b)))] (some [23,24,25]) #[true,true,true,true,true,true,true,false] (.cons_cons _ (.cons_cons _ (.cons_cons _ (.cons _ .slnil)))) 1 (fun S => [(∀ w1,S w1 → w1.cell? ⟨m.d,4,none⟩ = some (.map (some m.mb))),(∀ w1,S w1 → (loadVar 25 ⟨bx,0,none⟩).run Tryz.prog w1 = .ok (.agg (bv b)) w1)]) ⟨(fun w1 h => h.ocell 1 rfl rfl),(fun w1 h => load_row (h.own (bx,_) (List.mem_of_getElem? (i := 0) rfl)) Tryz.underlying25 rfl kr ((bv_size _).trans hbl)),trivial⟩ ?_
   refine Ae 7 rfl 0  (Eff.mapSet (r := m.mb) (k := q) (u := .agg (bv b)) (es := x.1) (ck := x.2) rfl Tryz.underlying113 Tryz.underlying3 kr kr kr hmo 3 kr) (fun _ _ => (.cons_cons _ (.cons_cons _ (.cons_cons _ (.cons _ .slnil))))) ?_
   rintro xq hxq
   refine CfgA.done kr ?_
   refine Cg (Γ' := []) ?_
   refine Rg [6] [] n0 trivial ?_
   refine Cfg.ret rfl (rs := [.tmp 6]) rfl [.int .i64 0] ⟨kr,trivial⟩ (fun w1 hp => ?_)
   have hx : writeF D q b = (0,{ (spF D).2 with wait := wset (spF D).2.wait q b }) := by unfold writeF; rw [if_neg (by simp [c1]),if_pos (by simpa using c2)]
   rw [hx]
   refine ⟨xq,by show MapOk _ _ (wv2 (wset (spF D).2.wait q b)); rw [spF_wait,← mset_wv]; exact hxq,rfl,[],?_⟩
   have h9 := hp.sub (List.sublist_cons_self _ _)
   show HP w _ _ [(m.d,.cells (dC (spF D).2 m) 117 (0,0)),(m.lb,.cells (rows (spF D).2.last).toArray 25 (0,0)),(m.mb,.map xq.1 xq.2)] w1
   rw [spF_last]
   exact h9
end Go.Proofs.YtohjpggjgomgoaaGreatDoor
namespace Go.Proofs.YtohjpggjgomgoaaGreatDoor
open Go.Shelf Go.Proofs
theorem L.ksorted65 : K.KSortedKeys Tryz.prog 64 98 3 := K.kSortedKeys_of L.keys65 L.sorted64 L.sorts64 (enters_of Tryz.func97 (by kernel_rfl) rfl)
theorem L.ksorted110 : K.KSortedKeys Tryz.prog 64 125 3 := K.kSortedKeys_of L.keys110 L.sorted64 L.sorts64 (enters_of Tryz.func97 (by kernel_rfl) rfl)
end Go.Proofs.YtohjpggjgomgoaaGreatDoor
namespace Go.Proofs.YtohjpggjgomgoaaGreatDoor
open K
set_option linter.unusedVariables false
set_option maxRecDepth 100000 in
theorem dOrder (m : DM) (x : MX) (D : DK) (w : World) (hg : DG D) (hmo : MapOk x.1 x.2 (wv2 D.wait)) (hR : Has w (dO D m x)) :
  Calls Tryz.prog 99 #[.pointer (some ⟨m.d,3,none⟩)] w fun e w' => ∃ o : K.Own,OwnOk o 1 D.wait.length ((keysW D.wait).map Go.encZ) ∧ e = .returned (.slice o.a D.wait.length o.c) ∧ Has w' (o.o 3 ((keysW D.wait).map Go.encZ)) ∧ (∀ x ∈ o.o 3 ((keysW D.wait).map Go.encZ),w.heap.size ≤ x.1) ∧ Ext [] w w' := by
 have hn := hg.n
 refine enter (vs := [.pointer (some ⟨m.d,3,none⟩)]) [] [(m.d,.cells #[.int .i64 D.fuse,.int .i64 D.steps,.bool D.down,.slice (some ⟨m.lb,0,none⟩) D.last.length D.last.length,.map (some m.mb)] 117 (0,0)),(m.lb,.cells ((rows D.last).toArray) 25 (0,0)),(m.mb,.map x.1 x.2)] [] Tryz.func99 rfl kr (HP.ofHas hR) ?_
 refine Rg [0] [] n0 trivial ?_
 refine Cfg.begL rfl ?_
 refine Lp 4 [dZ,dZ,dZ,(0,false,some (.map (some m.mb)))] (some [6]) (fun S => [(∀ w1,S w1 → w1.cell? ⟨m.d,4,none⟩ = some (.map (some m.mb)))]) ⟨(fun w1 h => h.rcell 0 rfl rfl),trivial⟩ ?_
 refine Le (Eff.callN (vs := [.map (some m.mb)]) (fun tb => .func (.func 125) #[] #[.pointer (some ⟨tb,0,none⟩)]) (fun tb => tb) (fun _ => .cells #[.map (some m.mb)] 113 (0,0)) (fun _ => True) rfl Tryz.func110 rfl rfl kr (fun w1 h => mKeys m.mb w1)) ?_
 rintro tb -
 refine Le (Eff.callOF (vs := [.func (.func 125) #[] #[.pointer (some ⟨tb,0,none⟩)]]) 3 1 D.wait.length ((keysW D.wait).map Go.encZ) [(tb,.cells #[.map (some m.mb)] 113 (0,0))] [] rfl rfl Tryz.func64 rfl rfl kr (fun w1 h => by have h9 := sorted_gives L.ksorted110 tb m.mb x.1 x.2 (wv2 D.wait) w1 hmo (h.ro (m.mb,_) (List.mem_of_getElem? (i := 2) rfl)) (fun p hp => by obtain ⟨x,hx,rfl⟩ := List.mem_map.1 hp; have := hg.k x hx; simp only; omega) (by unfold wv2; rw [List.length_map]; exact hg.wl) (h.ocell 0 rfl rfl); rw [show (wv2 D.wait).length = D.wait.length by unfold wv2; rw [List.length_map]] at h9; exact h9)) ?_
 rintro o ko
 refine Lp 1 [] (some [2]) n0 trivial ?_
 refine CfgL.done rfl ?_
 refine Cfg.ret rfl (rs := [.tmp 2]) rfl [.slice (Own.a o) D.wait.length (Own.c o)] ⟨kr,trivial⟩ (fun w1 hp => ?_)
 exact ⟨o,ko,rfl,fun x hx => hp.own x (by simp [hx]),fun x hx => (hp.mine x (by simp [hx])).resolve_right (fun h => by cases h),hp.ext⟩
set_option maxRecDepth 100000 in
theorem dWaits (m : DM) (x : MX) (D : DK) (w : World) (hg : DG D) (hmo : MapOk x.1 x.2 (wv2 D.wait)) (hR : Has w (dO D m x)) :
  Calls Tryz.prog 70 #[.pointer (some ⟨m.d,0,none⟩)] w fun e w' => ∃ o : K.Own,OwnOk o 1 D.wait.length ((keysW D.wait).map Go.encZ) ∧ e = .returned (.slice o.a D.wait.length o.c) ∧ Has w' (o.o 3 ((keysW D.wait).map Go.encZ)) ∧ (∀ x ∈ o.o 3 ((keysW D.wait).map Go.encZ),w.heap.size ≤ x.1) ∧ Ext [] w w' := by
 have hn := hg.n
 refine enter (vs := [.pointer (some ⟨m.d,0,none⟩)]) [] [(m.d,.cells #[.int .i64 D.fuse,.int .i64 D.steps,.bool D.down,.slice (some ⟨m.lb,0,none⟩) D.last.length D.last.length,.map (some m.mb)] 117 (0,0)),(m.lb,.cells ((rows D.last).toArray) 25 (0,0)),(m.mb,.map x.1 x.2)] [] Tryz.func70 rfl kr (HP.ofHas hR) ?_
 refine Rg [0] [] n0 trivial ?_
 refine Rg [0,4] [] n0 trivial ?_
 refine Cfg.condF rfl (b := false) kr rfl ?_
 refine Cfg.begL rfl ?_
 refine Lp 3 [] (some [7]) n0 trivial ?_
 refine Le (Eff.callOF (vs := [.pointer (some ⟨m.d,3,none⟩)]) 3 1 D.wait.length ((keysW D.wait).map Go.encZ) [] [] rfl rfl Tryz.func99 rfl rfl kr (fun w1 h => dOrder m x D w1 hg hmo (h.hasR (fun e he => he)))) ?_
 rintro o ko
 refine Lp 1 [] (some [2]) n0 trivial ?_
 refine CfgL.done rfl ?_
 refine Cfg.ret rfl (rs := [.tmp 2]) rfl [.slice (Own.a o) D.wait.length (Own.c o)] ⟨kr,trivial⟩ (fun w1 hp => ?_)
 exact ⟨o,ko,rfl,fun x hx => hp.own x (by simp [hx]),fun x hx => (hp.mine x (by simp [hx])).resolve_right (fun h => by cases h),hp.ext⟩
end Go.Proofs.YtohjpggjgomgoaaGreatDoor
namespace Go.Proofs.YtohjpggjgomgoaaGreatDoor
open K
set_option linter.unusedVariables false
def setl (p : Nat → Bool) (W : Wt) : Nat → List Int → List (List UInt8) → List (List UInt8)
 | _,[],L => L
 | i,q :: ks,L => setl p W (i + 1) ks (if p i = true then L.set q.toNat ((wget W q).getD zb) else L)
def settleF (p : Nat → Bool) (D : DK) : DK := { D with last := setl p D.wait 0 (keysW D.wait) D.last,wait := [] }
theorem setl_len (p : Nat → Bool) (W : Wt) : ∀ (ks : List Int) (i : Nat) (L : List (List UInt8)),(setl p W i ks L).length = L.length
 | [],_,_ => rfl
 | q :: ks,i,L => by rw [setl,setl_len p W ks]; split <;> simp
theorem wgetD_len {W : Wt} (h : ∀ p ∈ W,p.2.length = 512) (q : Int) : ((wget W q).getD zb).length = 512 := by
 cases hg : wget W q with
 | none => exact zb_len
 | some b => exact h _ (wget_mem hg)
theorem W5.set {L : List (List UInt8)} {b : List UInt8} (h : W5 L) (hb : b.length = 512) (i : Nat) : W5 (L.set i b) := fun x hx => by
 rcases List.mem_or_eq_of_mem_set hx with hx | rfl
 ·exact h x hx
 ·exact hb
theorem setl_w5 {W : Wt} (hw : ∀ p ∈ W,p.2.length = 512) (p : Nat → Bool) : ∀ (ks : List Int) (i : Nat) {L : List (List UInt8)},W5 L → W5 (setl p W i ks L)
 | [],_,_,h => h
 | q :: ks,i,L,h => by
  rw [setl]
  refine setl_w5 hw p ks _ ?_
  split
  ·exact h.set (wgetD_len hw q) _
  ·exact h
theorem DG.settle {D : DK} (h : DG D) (p : Nat → Bool) : DG (settleF p D) :=
 ⟨setl_w5 h.ww p _ _ h.w,(fun _ hp => by cases hp),(fun _ hp => by cases hp),by show (setl _ _ _ _ _).length ≤ _; rw [setl_len]; exact h.n,List.nodup_nil,h.f⟩
theorem keys_mem (W : Wt) (x : Int) : x ∈ keysW W ↔ x ∈ W.map (·.1) := by
 unfold keysW
 rw [(srt_perm _).mem_iff]
 unfold wv2
 rw [List.map_map]; rfl
theorem keys_in {D : DK} (h : DG D) {k : Nat} (hk : k < D.wait.length) : 0 ≤ (keysW D.wait).getD k 0 ∧ (keysW D.wait).getD k 0 < (D.last.length : Int) := by
 have h1 : k < (keysW D.wait).length := by rw [keysW_len]; exact hk
 have h2 : (keysW D.wait).getD k 0 ∈ keysW D.wait := by rw [List.getD_eq_getElem?_getD,List.getElem?_eq_getElem h1]; exact List.getElem_mem h1
 obtain ⟨p,hp,e⟩ := List.mem_map.1 ((keys_mem _ _).1 h2)
 rw [← e]; exact h.k p hp
theorem key_cell {w : World} {ob k : Nat} {ks : List Int} {oj : List Value} {t : TypeId} {fr : Nat × Nat} (h : w.heap[ob]? = some (.cells (ks.map Go.encZ ++ oj).toArray t fr)) (hk : k < ks.length) : w.cell? ⟨ob,k,none⟩ = some (.int .i64 (ks.getD k 0)) := by
 rw [cell_cells h,List.getElem?_toArray,List.getElem?_append_left (by rw [List.length_map]; exact hk),List.getElem?_map,List.getD_eq_getElem?_getD,List.getElem?_eq_getElem hk]
 rfl
theorem setl_step {p : Nat → Bool} {W : Wt} {k : Nat} {ks : List Int} (h : k < ks.length) (L : List (List UInt8)) : setl p W k (ks.drop k) L = setl p W (k + 1) (ks.drop (k + 1)) (if p k = true then L.set (ks.getD k 0).toNat ((wget W (ks.getD k 0)).getD zb) else L) := by
 rw [List.drop_eq_getElem_cons h,setl,List.getD_eq_getElem?_getD,List.getElem?_eq_getElem h]; rfl
def barF (D : DK) : Int × DK := if (spF D).1 = true then (0,settleF (fun _ => true) (spF D).2) else (13,(spF D).2)
def crashF (kept : List Bool) (D : DK) : DK := { settleF (fun i => kept.getD i false) D with fuse := -1,down := false }
theorem DG.bar {D : DK} (h : DG D) : DG (barF D).2 := by
 unfold barF; split
 ·exact h.sp.settle _
 ·exact h.sp
theorem DG.crash {D : DK} (h : DG D) (kept : List Bool) : DG (crashF kept D) := by
 have h1 := h.settle (fun i => kept.getD i false)
 exact ⟨h1.w,h1.ww,h1.k,h1.n,h1.nd,⟨by show (-1 : Int) ≤ -1; decide,by show (-1 : Int) ≤ 9223372036854775807; decide⟩⟩
theorem barF_steps (D : DK) : D.steps ≤ (barF D).2.steps ∧ (barF D).2.steps ≤ D.steps + 1 := by
 have := spF_steps D
 unfold barF; split
 ·exact this
 ·exact this
theorem crashF_len (kept : List Bool) (D : DK) : (crashF kept D).last.length = D.last.length := setl_len _ _ _ _ _
set_option maxRecDepth 100000 in
theorem dSettle (m : DM) (x : MX) (D : DK) (f : Nat) (fnF : Func) (cF : Code) (caps : List Value) (p : Nat → Bool) (Rk : List (Nat × Obj)) (w : World) (hg : DG D) (hmo : MapOk x.1 x.2 (wv2 D.wait)) (hA : Has w (dO D m x)) (hd : ((dO D m x).map (·.1)).Nodup) (hfn : Tryz.prog.funcs[f]? = some fnF) (hnm : (fnF.name == "runtime.NumGoroutine") = false) (hcF : fnF.body = some cF) (hso : ∀ (i : Nat) (w : World),i ≤ 4096 → Has w Rk → Calls Tryz.prog f ([Value.int .i64 (i : Int)] ++ caps).toArray w fun e w' => e = .returned (.bool (p i)) ∧ Ext [] w w') (hRk : Has w Rk) (hnk : ∀ e ∈ Rk,e.1 ∉ (dO D m x).map (·.1)) :
  Calls Tryz.prog 92 #[.pointer (some ⟨m.d,3,none⟩),.func (.func f) #[] caps.toArray] w fun e w' => ∃ x2 : MX,MapOk x2.1 x2.2 (wv2 (settleF p D).wait) ∧ e = .returned (.tuple #[]) ∧ ∃ R1,HP w [m.d,m.lb,m.mb] R1 (dO (settleF p D) m x2) w' := by
 have hn := hg.n
 have hwn := hg.wn
 refine enter (vs := [.pointer (some ⟨m.d,3,none⟩),.func (.func f) #[] caps.toArray]) [m.d,m.lb,m.mb] Rk [(m.d,.cells #[.int .i64 D.fuse,.int .i64 D.steps,.bool D.down,.slice (some ⟨m.lb,0,none⟩) D.last.length D.last.length,.map (some m.mb)] 117 (0,0)),(m.lb,.cells ((rows D.last).toArray) 25 (0,0)),(m.mb,.map x.1 x.2)] Tryz.func92 rfl kr (HP.ofL hA hd hRk hnk) ?_
 refine Cfg.begL rfl ?_
 refine Lp 1 [] none n0 trivial ?_
 refine Le (Eff.callOF (vs := [.pointer (some ⟨m.d,3,none⟩)]) 3 1 D.wait.length ((keysW D.wait).map Go.encZ) [(m.d,.cells #[.int .i64 D.fuse,.int .i64 D.steps,.bool D.down,.slice (some ⟨m.lb,0,none⟩) D.last.length D.last.length,.map (some m.mb)] 117 (0,0)),(m.lb,.cells ((rows D.last).toArray) 25 (0,0)),(m.mb,.map x.1 x.2)] [] rfl rfl Tryz.func99 rfl rfl kr (fun w1 h => dOrder m x D w1 hg hmo (h.has (fun e he => he)))) ?_
 rintro o ko
 refine Lp 2 [] (some [0,1,7,8,9]) n0 trivial ?_
 refine CfgL.done rfl ?_
 refine Cfg.loop rfl (ι := Nat × List (List UInt8)) (fun (xz : Nat × List (List UInt8)) => match xz with | (k,L) => [(9,[],.int .i64 (k : Int)),(8,[],.int .i64 (D.wait.length : Int)),(7,[],.slice (Own.a o) D.wait.length (Own.c o)),(0,[],.pointer (some ⟨m.d,3,none⟩)),(1,[],.func (.func f) #[] caps.toArray)]) (fun (xz : Nat × List (List UInt8)) => match xz with | (k,L) => ([(m.d,.cells #[.int .i64 D.fuse,.int .i64 D.steps,.bool D.down,.slice (some ⟨m.lb,0,none⟩) D.last.length D.last.length,.map (some m.mb)] 117 (0,0)),(m.lb,.cells ((rows L).toArray) 25 (0,0)),(m.mb,.map x.1 x.2)] ++ (Own.o 3 ((keysW D.wait).map Go.encZ) o ++ []))) (fun (xz : Nat × List (List UInt8)) => match xz with | (k,L) => (k ≤ D.wait.length) ∧ (W5 L) ∧ (L.length = D.last.length) ∧ (setl p D.wait k ((keysW D.wait).drop k) L = setl p D.wait 0 (keysW D.wait) D.last)) (fun (xz : Nat × List (List UInt8)) => match xz with | (k,L) => D.wait.length - k) (0,D.last) ?_ (Conv.mk kr) (.cons_cons _ (.cons_cons _ (.cons_cons _ (List.Sublist.refl _)))) ?_
 ·exact ⟨Nat.zero_le _,hg.w,rfl,rfl⟩
 ·rintro ⟨k,L⟩ ⟨hk,hW,hl,hs⟩
  refine Rg [0,1,7,8,9,10] [] n0 trivial ?_
  refine Cfg.cond rfl (b := (decide ((k : Int) < (D.wait.length : Int)))) kr (fun c1r => ?_) (fun c1r => ?_)
  ·have c1 := (of_decide_eq_true c1r)
   obtain ⟨⟨ob,oc,oj⟩,rfl⟩ := own_some ko om
   refine Cfg.setO (O' := [(m.d,.cells #[.int .i64 D.fuse,.int .i64 D.steps,.bool D.down,.slice (some ⟨m.lb,0,none⟩) D.last.length D.last.length,.map (some m.mb)] 117 (0,0)),(m.lb,.cells ((rows L).toArray) 25 (0,0)),(m.mb,.map x.1 x.2),(ob,.cells ((((keysW D.wait).map Go.encZ) ++ oj).toArray) 3 (0,0))]) rfl ?_
   refine Conv.cfg (Γ' := [(10,[],.bool (decide ((k : Int) < (D.wait.length : Int)))),(9,[],.int .i64 (k : Int)),(8,[],.int .i64 (D.wait.length : Int)),(7,[],.slice (some ⟨ob,0,none⟩) D.wait.length oc),(0,[],.pointer (some ⟨m.d,3,none⟩)),(1,[],.func (.func f) #[] caps.toArray)]) (Conv.mk kr) ?_
   have hki := keys_in hg (k := k) om
   refine Rg [0,1,4,5,7,8,9] [dZ,dZ,(0,false,some (.int .i64 ((keysW D.wait).getD k 0)))] (fun S => [(0 ≤ (k : Int) ∧ (k : Int) < (D.wait.length : Int)),(∀ w1,S w1 → w1.cell? ⟨ob,k,none⟩ = some (.int .i64 ((keysW D.wait).getD k 0)))]) ⟨om,(fun w1 h => key_cell (h.own (ob,_) (List.mem_of_getElem? (i := 3) rfl)) (by rw [keysW_len]; omega)),trivial⟩ ?_
   refine Cfg.begL rfl ?_
   refine Lp 2 [] (some [0,1,5,7,8,9,14,15]) n0 trivial ?_
   refine Le (Eff.callAVC (vs := [.int .i64 (k : Int)]) (.bool (p k)) caps rfl kr hfn hnm hcF kr (fun w1 h => hso k w1 om (h.hasR (fun e he => he)))) ?_
   rintro ⟨⟩ -
   refine CfgL.done rfl ?_
   refine Cg (Γ' := [(16,[],.bool (p k)),(5,[],.int .i64 ((keysW D.wait).getD k 0)),(9,[],.int .i64 (k : Int)),(8,[],.int .i64 (D.wait.length : Int)),(7,[],.slice (some ⟨ob,0,none⟩) D.wait.length oc),(0,[],.pointer (some ⟨m.d,3,none⟩)),(1,[],.func (.func f) #[] caps.toArray)]) ?_
   refine Cfg.cond rfl (b := (p k)) kr (fun c2r => ?_) (fun c2r => ?_)
   ·have c2 : ((p k) = true) := c2r
    refine Cfg.begA rfl kr [(m.d,.cells #[.int .i64 D.fuse,.int .i64 D.steps,.bool D.down,.slice (some ⟨m.lb,0,none⟩) D.last.length D.last.length,.map (some m.mb)] 117 (0,0)),(m.mb,.map x.1 x.2),(ob,.cells ((((keysW D.wait).map Go.encZ) ++ oj).toArray) 3 (0,0))] ?_
    refine Ap [0,1,2,3,4,5,6,7,8,9] [dZ,dZ,dZ,(0,false,some (.slice (some ⟨m.lb,0,none⟩) D.last.length D.last.length)),dZ,dZ,dZ,dZ,(0,false,some (.map (some m.mb)))] (some [0,1,7,8,9,20,21,25,26]) #[true,true,true,true,true,true,true,true,true,true,false,false,false] (.cons_cons _ (.cons _ (.cons_cons _ (.cons_cons _ .slnil)))) 3 (fun S => [(∀ w1,S w1 → w1.cell? ⟨m.d,3,none⟩ = some (.slice (some ⟨m.lb,0,none⟩) D.last.length D.last.length)),(∀ w1,S w1 → w1.cell? ⟨m.d,4,none⟩ = some (.map (some m.mb)))]) ⟨(fun w1 h => h.ocell 0 rfl rfl),(fun w1 h => h.ocell 0 rfl rfl),trivial⟩ ?_
    refine Ae 10 rfl 2  (Eff.waitGet (r := m.mb) (k := ((keysW D.wait).getD k 0)) rfl rfl kr kr hmo (fun w1 h => h.own (m.mb,_) (List.mem_of_getElem? (i := 2) rfl))) (fun _ _ => (.cons_cons _ (.cons _ (.cons_cons _ (.cons_cons _ .slnil))))) ?_
    rintro ⟨⟩ -
    refine Ap [11] [] (some [0,1,7,8,9,27,28]) #[true,true,true,true,true,true,true,true,true,true,true,true,false] (.cons_cons _ (.cons _ (.cons_cons _ (.cons_cons _ .slnil)))) 1 (fun _ => [(0 ≤ ((keysW D.wait).getD k 0) ∧ ((keysW D.wait).getD k 0) < (D.last.length : Int))]) ⟨om,trivial⟩ ?_
    refine Ae 12 rfl 0  (Eff.storeN (b := m.lb) (off := ((((keysW D.wait).getD k 0)).toNat * 512)) (vs := (bv ((wget D.wait (((keysW D.wait).getD k 0))).getD zb))) (n := 512) rfl kr kr kr ((bv_size _).trans (wgetD_len hg.ww _)) (all_bv _) 1 (cs := (rows L).toArray) (e := 25) kr (by rw [List.size_toArray,rows_len hW]; omega)) (fun _ _ => (.cons_cons _ (.cons _ (.cons_cons _ (.cons_cons _ .slnil))))) ?_
    rintro ⟨⟩ -
    refine CfgA.setO (congrArg (fun (xq : Array Value) => ([(m.d,.cells #[.int .i64 D.fuse,.int .i64 D.steps,.bool D.down,.slice (some ⟨m.lb,0,none⟩) D.last.length D.last.length,.map (some m.mb)] 117 (0,0)),(m.lb,.cells xq 25 (0,0)),(m.mb,.map x.1 x.2),(ob,.cells ((((keysW D.wait).map Go.encZ) ++ oj).toArray) 3 (0,0))] : List (Nat × Obj))) (show _ = ((rows (L.set ((keysW D.wait).getD k 0).toNat ((wget D.wait (((keysW D.wait).getD k 0))).getD zb))).toArray) from rows_set hW (wgetD_len hg.ww _) om rfl)) ?_
    refine CfgA.done kr ?_
    refine Cg (Γ' := [(9,[],.int .i64 (k : Int)),(8,[],.int .i64 (D.wait.length : Int)),(7,[],.slice (some ⟨ob,0,none⟩) D.wait.length oc),(0,[],.pointer (some ⟨m.d,3,none⟩)),(1,[],.func (.func f) #[] caps.toArray)]) ?_
    refine Rg [0,1,7,8,9] [] (fun _ => [((-9223372036854775808 : Int) ≤ ((k : Int) + 1) ∧ ((k : Int) + 1) ≤ 9223372036854775807)]) ⟨om,trivial⟩ ?_
    have hst := setl_step (p := p) (W := D.wait) (k := k) (ks := keysW D.wait) (by rw [keysW_len]; omega) L
    rw [hs,if_pos c2] at hst
    refine Cfg.again rfl (k + 1,(L.set ((keysW D.wait).getD k 0).toNat ((wget D.wait ((keysW D.wait).getD k 0)).getD zb))) ⟨by omega,hW.set (wgetD_len hg.ww _) _,by rw [List.length_set]; exact hl,hst.symm⟩ (by show D.wait.length - (k + 1) < D.wait.length - k; omega) (Conv.mk kr) (List.Sublist.refl _)
   ·have c2 : ((p k) = false) := c2r
    refine Rg [0,1,7,8,9] [] (fun _ => [((-9223372036854775808 : Int) ≤ ((k : Int) + 1) ∧ ((k : Int) + 1) ≤ 9223372036854775807)]) ⟨om,trivial⟩ ?_
    have hst := setl_step (p := p) (W := D.wait) (k := k) (ks := keysW D.wait) (by rw [keysW_len]; omega) L
    rw [hs,if_neg (by simp [c2])] at hst
    refine Cfg.again rfl (k + 1,L) ⟨by omega,hW,hl,hst.symm⟩ (by show D.wait.length - (k + 1) < D.wait.length - k; omega) (Conv.mk kr) (List.Sublist.refl _)
  ·have c1 := (of_decide_eq_false c1r)
   refine Cfg.begL rfl ?_
   refine Lp 4 [dZ,dZ,dZ,(0,false,some (.map (some m.mb)))] (some [33]) (fun S => [(∀ w1,S w1 → w1.cell? ⟨m.d,4,none⟩ = some (.map (some m.mb)))]) ⟨(fun w1 h => h.ocell 0 rfl rfl),trivial⟩ ?_
   refine Le (Eff.mapClear (r := m.mb) (es := x.1) (ck := x.2) rfl Tryz.underlying113 kr 2 rfl) ?_
   rintro ⟨⟩ -
   refine CfgL.done rfl ?_
   refine Cg (Γ' := []) ?_
   refine Cfg.fin rfl (rs := []) rfl [] trivial (fun w1 hp => ?_)
   have hk2 : k = D.wait.length := by omega
   rw [List.drop_eq_nil_of_le (by rw [keysW_len]; omega),setl] at hs
   have h8 : HP w [m.d,m.lb,m.mb] Rk ([(m.d,.cells #[.int .i64 D.fuse,.int .i64 D.steps,.bool D.down,.slice (some ⟨m.lb,0,none⟩) D.last.length D.last.length,.map (some m.mb)] 117 (0,0)),(m.lb,.cells ((rows L).toArray) 25 (0,0)),(m.mb,.map #[] x.2)] ++ (Own.o 3 ((keysW D.wait).map Go.encZ) o ++ [])) w1 := hp
   have h9 := h8.sub (List.sublist_append_left _ _)
   rw [← hl] at h9
   subst hs
   exact ⟨(#[],x.2),MapOk.empty _,rfl,Rk,h9⟩
set_option maxRecDepth 100000 in
theorem dBar1 (i : Nat) (w : World) :
  Calls Tryz.prog 93 #[.int .i64 (i : Int)] w fun e w' => e = .returned (.bool true) ∧ Ext [] w w' := by
 refine enter (vs := [.int .i64 (i : Int)]) [] [] [] Tryz.func93 rfl kr (HP.start w) ?_
 refine Rg [] [] n0 trivial ?_
 refine Rg [2] [] n0 trivial ?_
 refine Cfg.ret rfl (rs := [.tmp 2]) rfl [.bool true] ⟨kr,trivial⟩ (fun w1 hp => ?_)
 exact ⟨rfl,hp.ext⟩
end Go.Proofs.YtohjpggjgomgoaaGreatDoor
namespace Go.Proofs.YtohjpggjgomgoaaGreatDoor
open K
set_option linter.unusedVariables false
set_option maxRecDepth 100000 in
theorem dCrash1 (i kb : Nat) (la : Option Addr) (cap : Nat) (kept : List Bool) (Rl : List (Nat × Obj)) (w : World) (hi : i ≤ 4096) (hI : InS Rl la kept.length (fun j => .bool (kept.getD j false))) (hl : kept.length ≤ maxLen) (hR : Has w ((kb,.cells #[.slice la kept.length cap] 58 (0,0)) :: Rl)) :
  Calls Tryz.prog 95 #[.int .i64 (i : Int),.pointer (some ⟨kb,0,none⟩)] w fun e w' => e = .returned (.bool (kept.getD i false)) ∧ Ext [] w w' := by
 unfold maxLen at hl
 refine enter (vs := [.int .i64 (i : Int),.pointer (some ⟨kb,0,none⟩)]) [] ((kb,.cells #[.slice la kept.length cap] 58 (0,0)) :: Rl) [] Tryz.func95 rfl kr (HP.ofHas hR) ?_
 refine Rg [0,1] [] n0 trivial ?_
 refine Cfg.begL rfl ?_
 refine Lp 5 [dZ,(0,false,some (.slice la kept.length cap))] (some [0,1,8]) (fun S => [(∀ w1,S w1 → w1.cell? ⟨kb,0,none⟩ = some (.slice la kept.length cap))]) ⟨(fun w1 h => h.rcell 0 rfl rfl),trivial⟩ ?_
 by_cases c1 : (decide ((i : Int) < (kept.length : Int))) = true
 ·have c1k : (decide ((i : Int) < (kept.length : Int))) = true := c1
  have c1q := (of_decide_eq_true c1k)
  refine CfgL.known 8 (b := (decide ((i : Int) < (kept.length : Int)))) kr true c1k ?_
  have hik : i < kept.length := by omega
  obtain ⟨ib,off,cs,ti,fri,rfl,hmem,hcs⟩ := hI om
  refine Lp 6 [(1,false,some (.slice (some ⟨ib,off,none⟩) kept.length cap)),(1,false,none),(1,false,none),(1,false,some (.bool (kept.getD i false)))] (some [3]) (fun S => [((.bool true : Value) = .bool true),(∀ w1,S w1 → w1.cell? ⟨kb,0,none⟩ = some (.slice (some ⟨ib,off,none⟩) kept.length cap)),((.bool true : Value) = .bool true),((.bool true : Value) = .bool true),(0 ≤ (i : Int) ∧ (i : Int) < (kept.length : Int)),((.bool true : Value) = .bool true),(∀ w1,S w1 → w1.cell? ⟨ib,(addO off i),none⟩ = some (.bool (kept.getD i false)))]) ⟨rfl,(fun w1 h => h.rcell 0 rfl rfl),rfl,rfl,om,rfl,(fun w1 h => by rw [addO_eq,cell_cells (h.ro _ (List.mem_cons_of_mem _ hmem))]; exact hcs i hik),trivial⟩ ?_
  refine CfgL.done rfl ?_
  refine Cfg.ret rfl (rs := [.tmp 3]) rfl [.bool (kept.getD i false)] ⟨kr,trivial⟩ (fun w1 hp => ?_)
  exact ⟨rfl,hp.ext⟩
 ·have c1k : (decide ((i : Int) < (kept.length : Int))) = false := (by simpa using c1)
  have c1q := (of_decide_eq_false c1k)
  refine CfgL.known 8 (b := (decide ((i : Int) < (kept.length : Int)))) kr false c1k ?_
  refine Lp 6 [(2,false,none),(2,false,none),(2,false,none),(2,false,none)] (some [3]) (fun _ => [((.bool false : Value) ≠ .bool true),((.bool false : Value) ≠ .bool true),((.bool false : Value) ≠ .bool true),((.bool false : Value) ≠ .bool true)]) ⟨(by simp),(by simp),(by simp),(by simp),trivial⟩ ?_
  refine CfgL.done rfl ?_
  refine Cfg.ret rfl (rs := [.tmp 3]) rfl [.bool false] ⟨kr,trivial⟩ (fun w1 hp => ?_)
  have hx : kept.getD i false = false := by rw [List.getD_eq_getElem?_getD,List.getElem?_eq_none om]; rfl
  exact ⟨by rw [hx]; rfl,hp.ext⟩
set_option maxRecDepth 100000 in
theorem dBarrier (m : DM) (x : MX) (D : DK) (w : World) (hg : DG D) (hmo : MapOk x.1 x.2 (wv2 D.wait)) (hA : Has w (dO D m x)) (hd : ((dO D m x).map (·.1)).Nodup) (hs : 0 ≤ D.steps ∧ D.steps ≤ 4611686018427387904) :
  Calls Tryz.prog 56 #[.pointer (some ⟨m.d,0,none⟩)] w fun e w' => ∃ x2 : MX,MapOk x2.1 x2.2 (wv2 (barF D).2.wait) ∧ e = .returned (.int .i64 (barF D).1) ∧ ∃ R1,HP w [m.d,m.lb,m.mb] R1 (dO (barF D).2 m x2) w' := by
 have hf := hg.f
 refine enter (vs := [.pointer (some ⟨m.d,0,none⟩)]) [m.d,m.lb,m.mb] [] [(m.d,.cells #[.int .i64 D.fuse,.int .i64 D.steps,.bool D.down,.slice (some ⟨m.lb,0,none⟩) D.last.length D.last.length,.map (some m.mb)] 117 (0,0)),(m.lb,.cells ((rows D.last).toArray) 25 (0,0)),(m.mb,.map x.1 x.2)] Tryz.func56 rfl kr (HP.ofL hA hd (fun e he => by cases he) (fun e he => by cases he)) ?_
 refine Rg [0] [] n0 trivial ?_
 refine Rg [0,4] [] n0 trivial ?_
 refine Cfg.condF rfl (b := false) kr rfl ?_
 refine Cfg.begL rfl ?_
 refine Lp 3 [] (some [0,7]) n0 trivial ?_
 refine Le (Eff.callM (vs := [.pointer (some ⟨m.d,0,none⟩)]) (.bool (spF D).1) 0 (.cells (dC (spF D).2 m) 117 (0,0)) rfl Tryz.func91 rfl rfl kr rfl (fun w1 h => dSpend m D w1 hf hs (h.own (m.d,_) (List.mem_of_getElem? (i := 0) rfl)))) ?_
 rintro ⟨⟩ -
 refine CfgL.setO (O' := dO (spF D).2 m x) (by show _ = [(m.d,Obj.cells (dC (spF D).2 m) 117 (0,0)),(m.lb,Obj.cells (rows (spF D).2.last).toArray 25 (0,0)),(m.mb,Obj.map x.1 x.2)]; rw [spF_last D]; rfl) ?_
 have hm2 : MapOk x.1 x.2 (wv2 (spF D).2.wait) := by rw [spF_wait]; exact hmo
 refine Lp 1 [] (some [0,9]) n0 trivial ?_
 refine CfgL.done rfl ?_
 refine Cfg.cond rfl (b := (!(spF D).1)) kr (fun c2r => ?_) (fun c2r => ?_)
 ·have c2 : ((spF D).1 = false) := (notT c2r)
  refine Rg [2] [] n0 trivial ?_
  refine Cfg.ret rfl (rs := [.tmp 2]) rfl [.int .i64 13] ⟨kr,trivial⟩ (fun w1 hp => ?_)
  have hx : barF D = (13,(spF D).2) := by unfold barF; rw [if_neg (by simp [c2])]
  rw [hx]
  exact ⟨x,hm2,rfl,_,hp⟩
 ·have c2 : ((spF D).1 = true) := (notF c2r)
  refine Cfg.begL rfl ?_
  refine Lp 3 [] (some [12]) n0 trivial ?_
  refine Le (Eff.callH (vs := [.pointer (some ⟨m.d,3,none⟩),.func (.func 93) #[] #[]]) (fun _ : MX => .tuple #[]) (dO (spF D).2 m x) (fun xq => dO (settleF (fun _ => true) (spF D).2) m xq) (fun xq => MapOk xq.1 xq.2 []) [] [] (List.append_nil _).symm rfl Tryz.func92 rfl rfl kr (fun w1 h hA1 hd1 => dSettle m x (spF D).2 93 _ _ [] (fun _ => true) [] w1 hg.sp hm2 hA1 hd1 Tryz.func93 rfl rfl (fun i w2 _ _ => dBar1 i w2) (fun e he => by cases he) (fun e he => by cases he))) ?_
  rintro xq hxq
  refine CfgL.done rfl ?_
  refine Cg (Γ' := []) ?_
  refine Rg [2] [] n0 trivial ?_
  refine Cfg.ret rfl (rs := [.tmp 2]) rfl [.int .i64 0] ⟨kr,trivial⟩ (fun w1 hp => ?_)
  have hx : barF D = (0,settleF (fun _ => true) (spF D).2) := by unfold barF; rw [if_pos (by simpa using c2)]
  rw [hx]
  have h8 : HP w [m.d,m.lb,m.mb] [] (dO (settleF (fun _ => true) (spF D).2) m xq ++ []) w1 := hp
  rw [List.append_nil] at h8
  exact ⟨xq,hxq,rfl,[],h8⟩
set_option maxRecDepth 100000 in
theorem dCrash (m : DM) (x : MX) (D : DK) (la : Option Addr) (cap : Nat) (kept : List Bool) (Rl : List (Nat × Obj)) (w : World) (hg : DG D) (hmo : MapOk x.1 x.2 (wv2 D.wait)) (hA : Has w (dO D m x)) (hd : ((dO D m x).map (·.1)).Nodup) (hI : InS Rl la kept.length (fun j => .bool (kept.getD j false))) (hl : kept.length ≤ maxLen) (hRl : Has w Rl) (hnr : ∀ e ∈ Rl,e.1 ∉ (dO D m x).map (·.1)) :
  Calls Tryz.prog 59 #[.pointer (some ⟨m.d,0,none⟩),.slice la kept.length cap] w fun e w' => ∃ x2 : MX,MapOk x2.1 x2.2 (wv2 (crashF kept D).wait) ∧ e = .returned (.tuple #[]) ∧ ∃ R1,HP w [m.d,m.lb,m.mb] R1 (dO (crashF kept D) m x2) w' := by
 refine enter (vs := [.pointer (some ⟨m.d,0,none⟩),.slice la kept.length cap]) [m.d,m.lb,m.mb] Rl [(m.d,.cells #[.int .i64 D.fuse,.int .i64 D.steps,.bool D.down,.slice (some ⟨m.lb,0,none⟩) D.last.length D.last.length,.map (some m.mb)] 117 (0,0)),(m.lb,.cells ((rows D.last).toArray) 25 (0,0)),(m.mb,.map x.1 x.2)] Tryz.func59 rfl kr (HP.ofL hA hd hRl hnr) ?_
 refine Cfg.begL rfl ?_
 refine Le (Eff.box (v := .slice la kept.length cap) rfl kr) ?_
 rintro kb ⟨hkb,nkb⟩
 refine CfgL.done rfl ?_
 refine Cg (Γ' := [(3,[],.pointer (some ⟨kb,0,none⟩)),(0,[],.pointer (some ⟨m.d,0,none⟩))]) ?_
 refine Rg [0,3,5] [] n0 trivial ?_
 refine Cfg.condF rfl (b := false) kr rfl ?_
 refine Cfg.begL rfl ?_
 refine Lp 4 [] (some [0,8,9]) n0 trivial ?_
 refine Le (Eff.callH (vs := [.pointer (some ⟨m.d,3,none⟩),.func (.func 95) #[] #[.pointer (some ⟨kb,0,none⟩)]]) (fun _ : MX => .tuple #[]) (dO D m x) (fun xq => dO (settleF (fun i => kept.getD i false) D) m xq) (fun xq => MapOk xq.1 xq.2 []) [(kb,Obj.cells #[.slice la kept.length cap] 58 (0,0))] [] rfl rfl Tryz.func92 rfl rfl kr (fun w1 h hA1 hd1 => (dSettle m x D 95 _ _ [.pointer (some ⟨kb,0,none⟩)] (fun i => kept.getD i false) ((kb,Obj.cells #[.slice la kept.length cap] 58 (0,0)) :: Rl) w1 hg hmo hA1 hd1 Tryz.func95 rfl rfl (fun i w2 hi hh => dCrash1 i kb la cap kept Rl w2 hi hI hl hh) (fun e he => by rcases List.mem_cons.1 he with rfl | he; exact h.own (kb,_) (List.mem_cons_self ..); exact h.ro e he) (fun e he => by rcases List.mem_cons.1 he with rfl | he; exact (List.nodup_cons.1 h.dist).1; intro hm; obtain ⟨e2,h2,h3⟩ := List.mem_map.1 hm; exact h.away (List.mem_cons_of_mem _ h2) he h3)))) ?_
 rintro xq hxq
 refine CfgL.done rfl ?_
 refine Cg (Γ' := [(0,[],.pointer (some ⟨m.d,0,none⟩))]) ?_
 refine Cfg.begL rfl ?_
 refine Lp 4 [] (some [0,14]) n0 trivial ?_
 refine Le (Eff.store1 (b := m.d) (off := 0) (v := .int .i64 (-1)) rfl kr kr rfl kr 1 (cs := #[.int .i64 ((settleF (fun i => kept.getD i false) D).fuse),.int .i64 ((settleF (fun i => kept.getD i false) D).steps),.bool (settleF (fun i => kept.getD i false) D).down,.slice (some ⟨m.lb,0,none⟩) (settleF (fun i => kept.getD i false) D).last.length (settleF (fun i => kept.getD i false) D).last.length,.map (some m.mb)]) (e := 117) kr (by simp)) ?_
 rintro ⟨⟩ -
 refine CfgL.done rfl ?_
 refine Cg (Γ' := [(0,[],.pointer (some ⟨m.d,0,none⟩))]) ?_
 refine Cfg.begL rfl ?_
 refine Lp 4 [] (some [18]) n0 trivial ?_
 refine Le (Eff.store1 (b := m.d) (off := 2) (v := .bool false) rfl kr kr rfl kr 1 (cs := (#[.int .i64 ((settleF (fun i => kept.getD i false) D).fuse),.int .i64 ((settleF (fun i => kept.getD i false) D).steps),.bool (settleF (fun i => kept.getD i false) D).down,.slice (some ⟨m.lb,0,none⟩) (settleF (fun i => kept.getD i false) D).last.length (settleF (fun i => kept.getD i false) D).last.length,.map (some m.mb)].setIfInBounds 0 (.int .i64 (-1)))) (e := 117) kr (by simp)) ?_
 rintro ⟨⟩ -
 refine CfgL.done rfl ?_
 refine Cg (Γ' := []) ?_
 refine Cfg.fin rfl (rs := []) rfl [] trivial (fun w1 hp => ?_)
 refine ⟨xq,hxq,rfl,Rl,?_⟩
 have h9 := hp.sub (List.sublist_cons_self _ _)
 exact h9
end Go.Proofs.YtohjpggjgomgoaaGreatDoor
namespace Go.Proofs.YtohjpggjgomgoaaGreatDoor
open K
set_option linter.unusedVariables false
def layF (D : DK) : List Wr → Int × DK
 | [] => barF D
 | a :: l => if (writeF D a.1 a.2).1 ≠ 0 then writeF D a.1 a.2 else layF (writeF D a.1 a.2).2 l
def laysF (D : DK) : List (List Wr) → Int × DK
 | [] => (0,D)
 | l :: ls => if (layF D l).1 ≠ 0 then layF D l else laysF (layF D l).2 ls
theorem DG.lay : ∀ {l : List Wr} {D : DK},DG D → WW l → DG (layF D l).2
 | [],D,h,_ => h.bar
 | a :: l,D,h,hw => by
  have h1 := h.write a.1 (hw a (List.mem_cons_self ..))
  unfold layF
  split
  ·exact h1
  ·exact DG.lay h1 (fun x hx => hw x (List.mem_cons_of_mem _ hx))
theorem layF_steps : ∀ (l : List Wr) (D : DK),D.steps ≤ (layF D l).2.steps ∧ (layF D l).2.steps ≤ D.steps + l.length + 1
 | [],D => by have := barF_steps D; unfold layF; rw [List.length_nil]; omega
 | a :: l,D => by
  have h1 := writeF_steps D a.1 a.2
  have h2 := layF_steps l (writeF D a.1 a.2).2
  unfold layF
  rw [List.length_cons]
  split
  ·omega
  ·omega
theorem DG.lays : ∀ {ls : List (List Wr)} {D : DK},DG D → (∀ l ∈ ls,WW l) → DG (laysF D ls).2
 | [],D,h,_ => h
 | l :: ls,D,h,hw => by
  have h1 := h.lay (hw l (List.mem_cons_self ..))
  unfold laysF
  split
  ·exact h1
  ·exact DG.lays h1 (fun x hx => hw x (List.mem_cons_of_mem _ hx))
def tot : List (List Wr) → Nat
 | [] => 0
 | l :: ls => l.length + 1 + tot ls
theorem laysF_steps : ∀ (ls : List (List Wr)) (D : DK),D.steps ≤ (laysF D ls).2.steps ∧ (laysF D ls).2.steps ≤ D.steps + (tot ls : Int)
 | [],D => by unfold laysF tot; simp
 | l :: ls,D => by
  have h1 := layF_steps l D
  have h2 := laysF_steps ls (layF D l).2
  unfold laysF tot
  split
  ·omega
  ·omega
def cpy (l : List Wr) (i : Nat) : List Wr := (List.range i).map fun (k : Nat) => (((k + 1 : Nat) : Int),(l.getD k wz).2)
theorem cpy_len (l : List Wr) (i : Nat) : (cpy l i).length = i := by unfold cpy; rw [List.length_map,List.length_range]
theorem cpy_next (l : List Wr) (i : Nat) : cpy l (i + 1) = cpy l i ++ [(((i + 1 : Nat) : Int),(l.getD i wz).2)] := by
 unfold cpy; rw [List.range_succ,List.map_append]; rfl
theorem cpy_w {l : List Wr} (h : WW l) (i : Nat) : WW (cpy l i) := fun x hx => by
 obtain ⟨k,_,rfl⟩ := List.mem_map.1 hx
 exact h.at k
def stagesF (n : Nat) (l : List Wr) : List (List Wr) := [[((0 : Int),zb)],cpy l l.length,[((0 : Int),headF n l)],l]
theorem stages_w {l : List Wr} (h : WW l) (n : Nat) : ∀ s ∈ stagesF n l,WW s := by
 intro s hs
 unfold stagesF at hs
 simp only [List.mem_cons,List.not_mem_nil,or_false] at hs
 rcases hs with rfl | rfl | rfl | rfl
 ·exact fun x hx => by rw [List.mem_singleton.1 hx]; exact zb_len
 ·exact cpy_w h _
 ·exact fun x hx => by rw [List.mem_singleton.1 hx]; exact headF_len _ _
 ·exact h
theorem stages_tot (n : Nat) (l : List Wr) : tot (stagesF n l) = 2 * l.length + 6 := by
 unfold stagesF tot tot tot tot tot
 simp only [cpy_len,List.length_cons,List.length_nil]; omega
abbrev Nt := List (Int × Nat)
def nset (W : Nt) (k : Int) (v : Nat) : Nt := match W with
 | [] => [(k,v)]
 | p :: W => if k = p.1 then (k,v) :: W else p :: nset W k v
def nget (W : Nt) (k : Int) : Option Nat := match W with
 | [] => none
 | p :: W => if k = p.1 then some p.2 else nget W k
theorem nget_set (W : Nt) (k : Int) (v : Nat) (j : Int) : nget (nset W k v) j = if j = k then some v else nget W j := by
 induction W with
 | nil => simp [nset,nget]
 | cons p W ih =>
  unfold nset
  by_cases h : k = p.1
  ·rw [if_pos h]
   unfold nget
   by_cases hj : j = k
   ·rw [if_pos hj,if_pos hj]
   ·simp only [if_neg hj]
    rw [if_neg (show ¬ j = p.1 from fun e => hj (by rw [e,h]))]
  ·rw [if_neg h]
   unfold nget
   by_cases hj : j = p.1
   ·rw [if_pos hj,if_neg (fun e => h (by rw [← e,hj])),if_pos hj]
   ·rw [if_neg hj,if_neg hj,ih]
theorem nset_len (W : Nt) (k : Int) (v : Nat) : (nset W k v).length ≤ W.length + 1 := by
 induction W with
 | nil => exact Nat.le_refl _
 | cons p W ih =>
  unfold nset
  split
  ·rw [List.length_cons,List.length_cons]; omega
  ·rw [List.length_cons,List.length_cons]; omega
theorem nget_mem (W : Nt) (k : Int) : (nget W k).isSome = true ↔ k ∈ W.map (·.1) := by
 induction W with
 | nil => simp [nget]
 | cons p W ih =>
  unfold nget
  by_cases h : k = p.1
  ·rw [if_pos h]; simp [h]
  ·rw [if_neg h,ih]; simp [h]
theorem nset_keys (k : Int) (v : Nat) : ∀ W : Nt,(nset W k v).map (·.1) = if k ∈ W.map (·.1) then W.map (·.1) else W.map (·.1) ++ [k]
 | [] => rfl
 | p :: W => by
  unfold nset
  by_cases h : k = p.1
  ·rw [if_pos h,if_pos (by rw [h]; exact List.mem_cons_self ..)]
   simp [h]
  ·rw [if_neg h,List.map_cons,nset_keys k v W]
   by_cases h2 : k ∈ W.map (·.1)
   ·rw [if_pos h2,if_pos (by rw [List.map_cons]; exact List.mem_cons_of_mem _ h2)]; rfl
   ·rw [if_neg h2,if_neg (by rw [List.map_cons,List.mem_cons]; exact fun e => e.elim h h2)]; rfl
theorem nset_nd {W : Nt} (h : (W.map (·.1)).Nodup) (k : Int) (v : Nat) : ((nset W k v).map (·.1)).Nodup := by
 rw [nset_keys]
 split
 ·exact h
 ·rename_i h1
  refine List.nodup_append.2 ⟨h,by simp,fun x hx y hy => ?_⟩
  rw [List.mem_singleton.1 hy]; exact fun e => h1 (e ▸ hx)
def lastM (l : List Wr) : Nat → Nt
 | 0 => []
 | i + 1 => nset (lastM l i) (l.getD i wz).1 i
theorem lastM_len (l : List Wr) : ∀ i,(lastM l i).length ≤ i
 | 0 => Nat.le_refl _
 | i + 1 => by have h1 := lastM_len l i; have h2 := nset_len (lastM l i) (l.getD i wz).1 i; unfold lastM; omega
theorem lastM_nd (l : List Wr) : ∀ i,((lastM l i).map (·.1)).Nodup
 | 0 => List.nodup_nil
 | i + 1 => nset_nd (lastM_nd l i) _ _
theorem lastM_lt (l : List Wr) : ∀ i a k,nget (lastM l i) a = some k → k < i ∧ (l.getD k wz).1 = a
 | 0,a,k,h => by cases h
 | i + 1,a,k,h => by
  unfold lastM at h
  rw [nget_set] at h
  by_cases ha : a = (l.getD i wz).1
  ·rw [if_pos ha] at h
   injection h with h
   exact ⟨by omega,by rw [← h,ha]⟩
  ·rw [if_neg ha] at h
   have := lastM_lt l i a k h
   exact ⟨by omega,this.2⟩
def keysN (W : Nt) : List Int := srt (W.map (·.1))
theorem keysN_len (W : Nt) : (keysN W).length = W.length := by unfold keysN; rw [srt_len,List.length_map]
theorem keysN_mem (W : Nt) (x : Int) : x ∈ keysN W ↔ x ∈ W.map (·.1) := by unfold keysN; exact (srt_perm _).mem_iff
theorem keysN_lt {W : Nt} (h : (W.map (·.1)).Nodup) : (keysN W).Pairwise (· < ·) := by
 have h1 := srt_sorted (W.map (·.1))
 have h2 : (srt (W.map (·.1))).Nodup := (srt_perm _).nodup_iff.2 h
 unfold keysN
 exact (h1.and h2).imp (fun hx => by obtain ⟨a,b⟩ := hx; omega)
def atN (l : List Wr) (W : Nt) (a : Int) : Wr := l.getD ((nget W a).getD 0) wz
def risF (l : List Wr) : List Wr := (keysN (lastM l l.length)).map (atN l (lastM l l.length))
theorem risF_len (l : List Wr) : (risF l).length = (lastM l l.length).length := by unfold risF; rw [List.length_map,keysN_len]
theorem atN_key {l : List Wr} {i : Nat} {a : Int} (h : a ∈ keysN (lastM l i)) : (atN l (lastM l i) a).1 = a := by
 have h1 := (nget_mem _ _).2 ((keysN_mem _ _).1 h)
 unfold atN
 cases hg : nget (lastM l i) a with
 | none => rw [hg] at h1; cases h1
 | some k => exact (lastM_lt l i a k hg).2
theorem risF_w {l : List Wr} (h : WW l) : WW (risF l) := fun x hx => by
 obtain ⟨a,_,rfl⟩ := List.mem_map.1 hx
 exact h.at _
def lwF (l : List Wr) (r : Int → Option Wr) : Int → Option Wr := match l with
 | [] => r
 | w :: l => lwF l (fun a => if w.1 = a then some w else r a)
theorem lwF_app : ∀ (l m : List Wr) (r : Int → Option Wr),lwF (l ++ m) r = lwF m (lwF l r)
 | [],_,_ => rfl
 | w :: l,m,r => by show lwF (l ++ m) _ = lwF m (lwF l _); exact lwF_app l m _
theorem lastM_lw (l : List Wr) : ∀ i,i ≤ l.length → ∀ a,(nget (lastM l i) a).map (fun k => l.getD k wz) = lwF (l.take i) (fun _ => none) a
 | 0,_,a => by rw [List.take_zero]; rfl
 | i + 1,h,a => by
  have ih := lastM_lw l i om a
  rw [List.take_succ_eq_append_getElem om,lwF_app]
  unfold lastM
  rw [nget_set]
  have e : l[i] = l.getD i wz := by rw [List.getD_eq_getElem?_getD,List.getElem?_eq_getElem om]; rfl
  rw [e]
  show _ = if (l.getD i wz).1 = a then some (l.getD i wz) else lwF (l.take i) (fun _ => none) a
  by_cases ha : a = (l.getD i wz).1
  ·rw [if_pos ha,if_pos ha.symm]; rfl
  ·rw [if_neg ha,if_neg (fun e => ha e.symm),ih]
theorem risF_mem (l : List Wr) (x : Wr) : x ∈ risF l ↔ lwF l (fun _ => none) x.1 = some x := by
 have hl := lastM_lw l l.length (Nat.le_refl _)
 rw [List.take_length] at hl
 unfold risF
 rw [List.mem_map]
 constructor
 ·rintro ⟨a,ha,rfl⟩
  rw [atN_key ha,← hl a]
  have h1 := (nget_mem _ _).2 ((keysN_mem _ _).1 ha)
  unfold atN
  cases hg : nget (lastM l l.length) a with
  | none => rw [hg] at h1; cases h1
  | some k => rfl
 ·intro h
  refine ⟨x.1,?_,?_⟩
  ·rw [keysN_mem,← nget_mem]
   rw [← hl] at h
   cases hg : nget (lastM l l.length) x.1 with
   | none => rw [hg] at h; cases h
   | some k => rfl
  ·rw [← hl] at h
   unfold atN
   cases hg : nget (lastM l l.length) x.1 with
   | none => rw [hg] at h; cases h
   | some k => rw [hg] at h; exact Option.some.inj h
def Rise (l : List Wr) : Prop := l.Pairwise fun a b => a.1 < b.1
theorem risF_rise (l : List Wr) : Rise (risF l) := by
 unfold Rise risF
 rw [List.pairwise_map]
 have h := keysN_lt (lastM_nd l l.length)
 refine List.Pairwise.imp_of_mem ?_ h
 intro a b ha hb hab
 rw [atN_key ha,atN_key hb]; exact hab
theorem rise_ext : ∀ {l m : List Wr},Rise l → Rise m → (∀ x,x ∈ l ↔ x ∈ m) → l = m
 | [],[],_,_,_ => rfl
 | [],b :: m,_,_,h => absurd ((h b).2 (List.mem_cons_self ..)) (by simp)
 | a :: l,[],_,_,h => absurd ((h a).1 (List.mem_cons_self ..)) (by simp)
 | a :: l,b :: m,h1,h2,h => by
  obtain ⟨h1a,h1b⟩ := List.pairwise_cons.1 h1
  obtain ⟨h2a,h2b⟩ := List.pairwise_cons.1 h2
  have hab : a = b := by
   rcases List.mem_cons.1 ((h a).1 (List.mem_cons_self ..)) with e | e
   ·exact e
   ·rcases List.mem_cons.1 ((h b).2 (List.mem_cons_self ..)) with e2 | e2
    ·exact e2.symm
    ·have := h1a b e2
     have := h2a a e
     omega
  subst hab
  rw [rise_ext h1b h2b (fun x => ⟨fun hx => by
   rcases List.mem_cons.1 ((h x).1 (List.mem_cons_of_mem _ hx)) with e | e
   ·have := h1a x hx; rw [e] at this; omega
   ·exact e,fun hx => by
   rcases List.mem_cons.1 ((h x).2 (List.mem_cons_of_mem _ hx)) with e | e
   ·have := h2a x hx; rw [e] at this; omega
   ·exact e⟩)]
def insR (w : Wr) (done : Bool) : List Wr → List Wr
 | [] => if done then [] else [w]
 | x :: xs => (if !done && decide (w.1 ≤ x.1) then [w] else []) ++ ((if x.1 ≠ w.1 then [x] else []) ++ insR w (done || decide (w.1 ≤ x.1)) xs)
def plainF (l : List Wr) : List Wr := l.foldl (fun out w => insR w false out) []
theorem insR_done (w : Wr) : ∀ xs,insR w true xs = xs.filter (fun x => decide (x.1 ≠ w.1))
 | [] => rfl
 | x :: xs => by
  show (if (!true && decide (w.1 ≤ x.1)) = true then [w] else []) ++ ((if x.1 ≠ w.1 then [x] else []) ++ insR w (true || decide (w.1 ≤ x.1)) xs) = _
  rw [Bool.not_true,Bool.false_and,if_neg (by decide),List.nil_append,Bool.true_or,insR_done w xs,List.filter_cons]
  by_cases h : x.1 = w.1
  ·rw [if_neg (fun e => e h),if_neg (by simp [h])]; rfl
  ·rw [if_pos h,if_pos (by simp [h])]; rfl
theorem insR_mem (w : Wr) : ∀ {xs : List Wr},Rise xs → ∀ y,y ∈ insR w false xs ↔ y = w ∨ (y ∈ xs ∧ y.1 ≠ w.1)
 | [],_,y => by
  show y ∈ [w] ↔ _
  simp
 | x :: xs,h,y => by
  obtain ⟨ha,hb⟩ := List.pairwise_cons.1 h
  show y ∈ (if (!false && decide (w.1 ≤ x.1)) = true then [w] else []) ++ ((if x.1 ≠ w.1 then [x] else []) ++ insR w (false || decide (w.1 ≤ x.1)) xs) ↔ _
  rw [Bool.not_false,Bool.true_and,Bool.false_or]
  by_cases h1 : w.1 ≤ x.1
  ·rw [decide_eq_true h1,if_pos rfl,insR_done]
   simp only [List.mem_append,List.mem_filter,List.mem_cons,List.not_mem_nil,or_false,decide_eq_true_eq]
   by_cases h2 : x.1 ≠ w.1
   ·rw [if_pos h2]
    simp only [List.mem_cons,List.not_mem_nil,or_false]
    constructor
    ·rintro (e | e | ⟨e1,e2⟩)
     ·exact .inl e
     ·exact .inr ⟨.inl e,by rw [e]; exact h2⟩
     ·exact .inr ⟨.inr e1,e2⟩
    ·rintro (e | ⟨e | e,e2⟩)
     ·exact .inl e
     ·exact .inr (.inl e)
     ·exact .inr (.inr ⟨e,e2⟩)
   ·rw [if_neg h2]
    simp only [List.not_mem_nil,false_or]
    constructor
    ·rintro (e | ⟨e1,e2⟩)
     ·exact .inl e
     ·exact .inr ⟨.inr e1,e2⟩
    ·rintro (e | ⟨e | e,e2⟩)
     ·exact .inl e
     ·rw [e] at e2; exact absurd e2 h2
     ·exact .inr ⟨e,e2⟩
  ·rw [decide_eq_false h1,if_neg (by decide),if_pos om]
   simp only [List.nil_append,List.mem_append,List.mem_cons,List.not_mem_nil,or_false,insR_mem w hb y]
   constructor
   ·rintro (e | e | ⟨e1,e2⟩)
    ·exact .inr ⟨.inl e,by rw [e]; omega⟩
    ·exact .inl e
    ·exact .inr ⟨.inr e1,e2⟩
   ·rintro (e | ⟨e | e,e2⟩)
    ·exact .inr (.inl e)
    ·exact .inl e
    ·exact .inr (.inr ⟨e,e2⟩)
theorem insR_rise (w : Wr) : ∀ {xs : List Wr},Rise xs → Rise (insR w false xs)
 | [],_ => by
  show Rise [w]
  exact List.pairwise_singleton _ _
 | x :: xs,h => by
  obtain ⟨ha,hb⟩ := List.pairwise_cons.1 h
  show Rise ((if (!false && decide (w.1 ≤ x.1)) = true then [w] else []) ++ ((if x.1 ≠ w.1 then [x] else []) ++ insR w (false || decide (w.1 ≤ x.1)) xs))
  rw [Bool.not_false,Bool.true_and,Bool.false_or]
  by_cases h1 : w.1 ≤ x.1
  ·rw [decide_eq_true h1,if_pos rfl,insR_done]
   have hf : Rise (xs.filter fun x => decide (x.1 ≠ w.1)) := List.Pairwise.filter _ hb
   have hm : ∀ y ∈ xs.filter (fun x => decide (x.1 ≠ w.1)),x.1 < y.1 := fun y hy => ha y (List.mem_filter.1 hy).1
   by_cases h2 : x.1 ≠ w.1
   ·rw [if_pos h2]
    refine List.pairwise_cons.2 ⟨fun y hy => ?_,List.pairwise_cons.2 ⟨hm,hf⟩⟩
    rcases List.mem_cons.1 hy with rfl | hy
    ·omega
    ·have := hm y hy; omega
   ·rw [if_neg h2]
    exact List.pairwise_cons.2 ⟨fun y hy => by have := hm y hy; omega,hf⟩
  ·rw [decide_eq_false h1,if_neg (by decide),if_pos om]
   refine List.pairwise_cons.2 ⟨fun y hy => ?_,insR_rise w hb⟩
   rcases (insR_mem w hb y).1 hy with rfl | ⟨hy,_⟩
   ·omega
   ·exact ha y hy
theorem plain_go : ∀ (l out : List Wr) (r : Int → Option Wr),Rise out → (∀ x,x ∈ out ↔ r x.1 = some x) → (∀ a x,r a = some x → x.1 = a) → Rise (l.foldl (fun out w => insR w false out) out) ∧ ∀ x,x ∈ l.foldl (fun out w => insR w false out) out ↔ lwF l r x.1 = some x
 | [],out,r,h1,h2,_ => ⟨h1,h2⟩
 | w :: l,out,r,h1,h2,h3 => by
  refine plain_go l (insR w false out) (fun a => if w.1 = a then some w else r a) (insR_rise w h1) (fun x => ?_) (fun a x hx => ?_)
  ·rw [insR_mem w h1 x,h2 x]
   by_cases hx : w.1 = x.1
   ·rw [if_pos hx]
    constructor
    ·rintro (e | ⟨_,e⟩)
     ·rw [e]
     ·exact absurd hx.symm e
    ·intro e; exact .inl (Option.some.inj e).symm
   ·rw [if_neg hx]
    constructor
    ·rintro (e | ⟨e,_⟩)
     ·exact absurd (by rw [e]) hx
     ·exact e
    ·intro e; exact .inr ⟨e,fun e2 => hx e2.symm⟩
  ·have hx : (if w.1 = a then some w else r a) = some x := hx
   by_cases ha : w.1 = a
   ·rw [if_pos ha] at hx; rw [← Option.some.inj hx,ha]
   ·rw [if_neg ha] at hx; exact h3 a x hx
theorem plain_ris (l : List Wr) : plainF l = risF l := by
 obtain ⟨h1,h2⟩ := plain_go l [] (fun _ => none) List.Pairwise.nil (fun x => by simp) (fun a x h => by cases h)
 exact rise_ext h1 (risF_rise l) (fun x => by rw [risF_mem]; exact h2 x)
structure JS where
 why : Int
 num : Nat
 D : DK
def badW (D : DK) (w : Wr) : Bool := decide (w.1 < 97) || decide ((D.last.length : Int) ≤ w.1)
def transF (D : DK) (n : Nat) (l : List Wr) : Int × DK := laysF D (stagesF n l)
def commitF (J : JS) (l : List Wr) : Int × JS :=
 if J.why ≠ 0 then (J.why,J) else if l.any (badW J.D) = true then (2,J)
 else if 96 < (risF l).length then (15,J) else if (risF l).length = 0 then (0,J)
 else if (transF J.D ((J.num + 1) % 18446744073709551616) (risF l)).1 ≠ 0 then ((transF J.D ((J.num + 1) % 18446744073709551616) (risF l)).1,⟨(transF J.D ((J.num + 1) % 18446744073709551616) (risF l)).1,J.num,(transF J.D ((J.num + 1) % 18446744073709551616) (risF l)).2⟩)
 else (0,⟨0,(J.num + 1) % 18446744073709551616,(transF J.D ((J.num + 1) % 18446744073709551616) (risF l)).2⟩)
def jblk (D : DK) (i : Nat) : List (List UInt8) := (List.range i).map fun (k : Nat) => readF D ((k + 1 : Nat) : Int)
theorem jblk_len (D : DK) (i : Nat) : (jblk D i).length = i := by unfold jblk; rw [List.length_map,List.length_range]
theorem jblk_next (D : DK) (i : Nat) : jblk D (i + 1) = jblk D i ++ [readF D ((i + 1 : Nat) : Int)] := by unfold jblk; rw [List.range_succ,List.map_append]; rfl
def jrows (D : DK) : List (List UInt8) := jblk D (min 97 D.last.length - 1)
def inD (D : DK) (l : List Wr) : List Wr := l.filter fun w => !decide (w.1 ≥ (D.last.length : Int))
def openG (D : DK) : Bool := parG (readF D 0) (jrows D)
def openL (D : DK) : List Wr := inD D (parL (readF D 0) (jrows D))
def openF (D : DK) : Int × Nat × DK :=
 if fltF D 0 ≠ 0 then (fltF D 0,0,D) else if openG D = false then (0,0,D)
 else if (layF D (openL D)).1 ≠ 0 then ((layF D (openL D)).1,0,(layF D (openL D)).2) else (0,parN (readF D 0) (jrows D),(layF D (openL D)).2)
theorem flt_all {D : DK} (h : fltF D 0 = 0) {q : Int} (hq : 0 ≤ q ∧ q < (D.last.length : Int)) : fltF D q = 0 := by
 unfold fltF at h ⊢
 split at h
 ·rename_i h1; rw [if_pos h1]; exact h
 ·rename_i h1; rw [if_neg h1,if_pos hq]
end Go.Proofs.YtohjpggjgomgoaaGreatDoor
namespace Go.Proofs.YtohjpggjgomgoaaGreatDoor
open K
set_option linter.unusedVariables false
def newD (n : Nat) : DK := { fuse := -1,steps := 0,down := false,last := List.replicate n zb,wait := [] }
theorem w5_rep (n : Nat) : W5 (List.replicate n zb) := fun b hb => by rw [List.eq_of_mem_replicate hb]; exact zb_len
theorem DG.new {n : Nat} (hn : n ≤ 4096) : DG (newD n) :=
 ⟨w5_rep n,(fun _ hp => by cases hp),(fun _ hp => by cases hp),by show (List.replicate n zb).length ≤ _; rw [List.length_replicate]; exact hn,List.nodup_nil,⟨by show (-1 : Int) ≤ -1; decide,by show (-1 : Int) ≤ 9223372036854775807; decide⟩⟩
theorem rep_rows_len (n : Nat) : (rows (List.replicate n zb)).length = n * 512 := by rw [rows_len (w5_rep n),List.length_replicate]
theorem rep_rows_get {n i : Nat} (h : i < n * 512) : (rows (List.replicate n zb))[i]? = some (.int .u8 0) := by
 have h1 := rows_get (w5_rep n) (i := i / 512) (j := i % 512) (by rw [List.length_replicate]; omega) om
 rw [show i / 512 * 512 + i % 512 = i by omega] at h1
 rw [h1]
 have e1 : (List.replicate n zb).getD (i / 512) zb = zb := by
  rw [List.getD_eq_getElem?_getD,List.getElem?_replicate]; split <;> rfl
 have e2 : ∀ j : Nat,zb.getD j 0 = 0 := fun j => by
  unfold zb; rw [List.getD_eq_getElem?_getD,List.getElem?_replicate]; split <;> rfl
 rw [e1,e2]; rfl
theorem bvz_get : ∀ j : Nat,j < 512 → (Value.agg (bv (List.replicate 512 0))).cells[j]! = .int .u8 0 := fun j hj => by
 show (bv (List.replicate 512 0))[j]! = _
 have h1 := bv_get (l := List.replicate 512 0) (n := 512) (by exact List.length_replicate) hj
 rw [getElem!_def,h1]
 have e2 : (List.replicate 512 (0 : UInt8)).getD j 0 = 0 := by
  rw [List.getD_eq_getElem?_getD,List.getElem?_replicate]; split <;> rfl
 rw [e2]; rfl
theorem run_mkRows {w : World} {n : Nat} (h0 : 0 < n) (hn : n ≤ 4096) : (Instr.makeSlice 34 (.int .i64 (n : Int)) (.int .i64 (n : Int))).run Tryz.prog w = .ok (.slice (some ⟨w.heap.size,0,none⟩) n n) (w.alloc (.cells (rows (List.replicate n zb)).toArray 25 (0,0))) := by
 have hi : (Tryz.prog.info? 25).map (fun i => (i.size,i.zero)) = some (512,some (.agg (bv (List.replicate 512 0)))) := by kernel_rfl
 have hby : (Tryz.prog.info? 25).map (fun i => i.bytes) = some 512 := by kernel_rfl
 obtain ⟨inf,hinf,he⟩ := Option.map_eq_some_iff.1 hi
 rw [hinf] at hby
 simp only [Prod.mk.injEq] at he
 have hb : inf.bytes = 512 := Option.some.inj hby
 refine run_mkZ (L := rows (List.replicate n zb)) (z := .agg (bv (List.replicate 512 0))) Tryz.underlying34 hinf he.2 (by rw [he.1]; exact (bv_size _).trans List.length_replicate) (by rw [he.1]; omega) om om (by rw [he.1]; exact rep_rows_len n) (fun i hi => ?_)
 rw [he.1] at hi ⊢
 rw [rep_rows_get hi,bvz_get _ om]
def rb (fr : List Bool) : List Value := fr.map Value.bool
theorem rb_len (fr : List Bool) : (rb fr).length = fr.length := by simp [rb]
theorem run_mkBs {w : World} {n : Nat} (h0 : 0 < n) (hn : n ≤ 4096) : (Instr.makeSlice 58 (.int .i64 (n : Int)) (.int .i64 (n : Int))).run Tryz.prog w = .ok (.slice (some ⟨w.heap.size,0,none⟩) n n) (w.alloc (.cells (rb (List.replicate n false)).toArray 4 (0,0))) := by
 have hi : (Tryz.prog.info? 4).map (fun i => (i.size,i.zero)) = some (1,some (.bool false)) := by kernel_rfl
 have hby : (Tryz.prog.info? 4).map (fun i => i.bytes) = some 1 := by kernel_rfl
 obtain ⟨inf,hinf,he⟩ := Option.map_eq_some_iff.1 hi
 rw [hinf] at hby
 simp only [Prod.mk.injEq] at he
 have hb : inf.bytes = 1 := Option.some.inj hby
 refine run_mkZ (L := rb (List.replicate n false)) (z := .bool false) Tryz.underlying58 hinf he.2 (by rw [he.1]; rfl) (by rw [he.1]; omega) om om (by rw [he.1,rb_len,List.length_replicate]; omega) (fun i hi => ?_)
 rw [he.1,Nat.mul_one] at hi
 rw [he.1,Nat.mod_one]
 simp [rb,hi,Value.cells]
structure RK where
 shown : List (List UInt8)
 last : List (List UInt8)
 waits : List Bool
 done : Int
 fuse : Int
 down : Bool
structure RM where
 r : Nat
 sb : Nat
 lb : Nat
 wb : Nat
def rC (Q : RK) (m : RM) : Array Value := #[.slice (some ⟨m.sb,0,none⟩) Q.shown.length Q.shown.length,.slice (some ⟨m.lb,0,none⟩) Q.last.length Q.last.length,.slice (some ⟨m.wb,0,none⟩) Q.waits.length Q.waits.length,.int .i64 Q.done,.int .i64 Q.fuse,.bool Q.down]
def rO (Q : RK) (m : RM) : List (Nat × Obj) := [(m.r,.cells (rC Q m) 72 (0,0)),(m.sb,.cells (rows Q.shown).toArray 25 (0,0)),(m.lb,.cells (rows Q.last).toArray 25 (0,0)),(m.wb,.cells (rb Q.waits).toArray 4 (0,0))]
structure RG (Q : RK) : Prop where
 ws : W5 Q.shown
 wl : W5 Q.last
 n : Q.last.length ≤ 4096
 sl : Q.shown.length = Q.last.length
 tl : Q.waits.length = Q.last.length
 f : -1 ≤ Q.fuse ∧ Q.fuse ≤ 9223372036854775807
def rReadE (Q : RK) (q : Int) : Int := if Q.down = true then 13 else if q < 0 ∨ q ≥ (Q.last.length : Int) then 2 else 0
def rReadB (Q : RK) (q : Int) : List UInt8 := if rReadE Q q = 0 then Q.shown.getD q.toNat zb else zb
theorem rReadB_len {Q : RK} (h : RG Q) (q : Int) : (rReadB Q q).length = 512 := by unfold rReadB; split; exact h.ws.at' _; exact zb_len
theorem rReadE_cases (Q : RK) (q : Int) : (rReadE Q q = 0 ∧ 0 ≤ q ∧ q < (Q.last.length : Int)) ∨ rReadE Q q = 2 ∨ rReadE Q q = 13 := by
 unfold rReadE
 split
 ·exact .inr (.inr rfl)
 ·split
  ·exact .inr (.inl rfl)
  ·exact .inl ⟨rfl,by omega⟩
def stF (Q : RK) : Bool × RK := if Q.fuse = 0 then (false,{ Q with down := true }) else (true,{ Q with fuse := if Q.fuse > 0 then Q.fuse - 1 else Q.fuse,done := Q.done + 1 })
theorem stF_same (Q : RK) : (stF Q).2.shown = Q.shown ∧ (stF Q).2.last = Q.last ∧ (stF Q).2.waits = Q.waits := by unfold stF; split <;> exact ⟨rfl,rfl,rfl⟩
def rWriteF (Q : RK) (q : Int) (b : List UInt8) : Int × RK :=
 if rReadE Q q ≠ 0 then (rReadE Q q,Q) else if (stF Q).1 = true then (0,{ (stF Q).2 with shown := Q.shown.set q.toNat b,waits := Q.waits.set q.toNat true }) else (13,(stF Q).2)
def rBarF (Q : RK) : Int × RK :=
 if Q.down = true then (13,Q) else if (stF Q).1 = true then (0,{ (stF Q).2 with last := Q.shown,waits := List.replicate Q.waits.length false }) else (13,(stF Q).2)
def lisF (ws : List Bool) (k : Nat) : List Int := ((List.range k).filter fun i => ws.getD i false).map fun i : Nat => (i : Int)
theorem lisF_yes {ws : List Bool} {k : Nat} (h : ws.getD k false = true) : lisF ws (k + 1) = lisF ws k ++ [(k : Int)] := by
 unfold lisF; rw [List.range_succ,List.filter_append,List.filter_cons_of_pos (by simpa using h)]; simp
theorem lisF_no {ws : List Bool} {k : Nat} (h : ws.getD k false = false) : lisF ws (k + 1) = lisF ws k := by
 unfold lisF; rw [List.range_succ,List.filter_append,List.filter_cons_of_neg (by simp only [h]; decide)]; simp
theorem lisF_len (ws : List Bool) (k : Nat) : (lisF ws k).length ≤ k := by
 unfold lisF; rw [List.length_map]
 exact Nat.le_trans (List.length_filter_le _ _) (by simp)
theorem rb_cell {w : World} {b k : Nat} {fr : List Bool} {t : TypeId} {f : Nat × Nat} (h : w.heap[b]? = some (.cells (rb fr).toArray t f)) (hk : k < fr.length) : w.cell? ⟨b,k,none⟩ = some (.bool (fr.getD k false)) := by
 rw [cell_cells h,List.getElem?_toArray]; unfold rb
 rw [List.getElem?_map,List.getD_eq_getElem?_getD,List.getElem?_eq_getElem hk]; rfl
theorem rb_set (fr : List Bool) (k : Nat) (b : Bool) : (rb fr).toArray.setIfInBounds k (.bool b) = (rb (fr.set k b)).toArray := by
 apply Array.ext'; simp [rb,List.map_set]
def crl (kept : List Bool) : Nat → List Int → List (List UInt8) → List (List UInt8) → List Bool → List (List UInt8) × List (List UInt8) × List Bool
 | _,[],s,l,ws => (s,l,ws)
 | k,i :: is,s,l,ws => crl kept (k + 1) is (s.set i.toNat ((if kept.getD k false = true then l.set i.toNat (s.getD i.toNat zb) else l).getD i.toNat zb)) (if kept.getD k false = true then l.set i.toNat (s.getD i.toNat zb) else l) (ws.set i.toNat false)
def rCrashF (kept : List Bool) (Q : RK) : RK :=
 { Q with shown := (crl kept 0 (lisF Q.waits Q.waits.length) Q.shown Q.last Q.waits).1,last := (crl kept 0 (lisF Q.waits Q.waits.length) Q.shown Q.last Q.waits).2.1,waits := (crl kept 0 (lisF Q.waits Q.waits.length) Q.shown Q.last Q.waits).2.2,fuse := -1,down := false }
theorem lis_in {ws : List Bool} {n k : Nat} (hk : k < (lisF ws n).length) : 0 ≤ (lisF ws n).getD k 0 ∧ (lisF ws n).getD k 0 < (n : Int) := by
 have h2 : (lisF ws n).getD k 0 ∈ lisF ws n := by rw [List.getD_eq_getElem?_getD,List.getElem?_eq_getElem hk]; exact List.getElem_mem hk
 unfold lisF at h2
 obtain ⟨x,hx,e⟩ := List.mem_map.1 h2
 have := List.mem_range.1 (List.mem_filter.1 hx).1
 unfold lisF
 omega
theorem crl_step {kept : List Bool} {k : Nat} {is : List Int} (h : k < is.length) (s l : List (List UInt8)) (ws : List Bool) : crl kept k (is.drop k) s l ws = crl kept (k + 1) (is.drop (k + 1)) (s.set (is.getD k 0).toNat ((if kept.getD k false = true then l.set (is.getD k 0).toNat (s.getD (is.getD k 0).toNat zb) else l).getD (is.getD k 0).toNat zb)) (if kept.getD k false = true then l.set (is.getD k 0).toNat (s.getD (is.getD k 0).toNat zb) else l) (ws.set (is.getD k 0).toNat false) := by
 have e : is.getD k 0 = is[k] := by rw [List.getD_eq_getElem?_getD,List.getElem?_eq_getElem h]; rfl
 rw [List.drop_eq_getElem_cons h,crl,e]
set_option maxRecDepth 100000 in
theorem dNew (n : Nat) (w : World) (hn : 64 ≤ n ∧ n ≤ 4096) :
  Calls Tryz.prog 13 #[.int .i64 (n : Int)] w fun e w' => ∃ y : DM × MX,MapOk y.2.1 y.2.2 [] ∧ e = .returned (.tuple #[.pointer (some ⟨y.1.d,0,none⟩),.int .i64 0]) ∧ ∃ R1,HP w [] R1 (dO (newD n) y.1 y.2) w' := by
 refine enter (vs := [.int .i64 (n : Int)]) [] [] [] Tryz.func13 rfl kr (HP.start w) ?_
 refine Rg [0] [] n0 trivial ?_
 refine Rg [0,9] [] n0 trivial ?_
 refine Cfg.condF rfl (b := ((decide ((n : Int) < (64 : Int))) || (decide ((n : Int) > (4096 : Int))))) kr (Bool.or_eq_false_iff.2 ⟨decide_eq_false om,decide_eq_false om⟩) ?_
 refine Cfg.begL rfl ?_
 refine Lp 2 [(0,false,some (.agg #[.int .i64 (-1),.int .i64 0,.bool false]))] (some [10,11]) (fun S => [(∀ w1,S w1 → (Instr.build 112 #[(0,.int .i64 (-1))]).run Tryz.prog w1 = .ok (.agg #[.int .i64 (-1),.int .i64 0,.bool false]) w1)]) ⟨(fun _ _ => kr),trivial⟩ ?_
 refine Le (Eff.makeRow (e := 25) (n := n) (cells := (rows (List.replicate n zb)).toArray) (v1 := .int .i64 (n : Int)) (v2 := .int .i64 (n : Int)) rfl kr kr (fun w1 => run_mkRows om om)) ?_
 rintro lb ⟨hlb,nlb⟩
 refine Le (Eff.mapNew rfl) ?_
 rintro mb ⟨hmb,nmb⟩
 refine Lp 2 [(0,false,some (.agg #[.slice (some ⟨lb,0,none⟩) n n,.map (some mb)])),(0,false,some (.agg #[.int .i64 (-1),.int .i64 0,.bool false,.slice (some ⟨lb,0,none⟩) n n,.map (some mb)]))] (some [15]) (fun S => [(∀ w1,S w1 → (Instr.build 115 #[(0,.slice (some ⟨lb,0,none⟩) n n),(1,.map (some mb))]).run Tryz.prog w1 = .ok (.agg #[.slice (some ⟨lb,0,none⟩) n n,.map (some mb)]) w1),(∀ w1,S w1 → (Instr.build 117 #[(0,.agg #[.int .i64 (-1),.int .i64 0,.bool false]),(1,.agg #[.slice (some ⟨lb,0,none⟩) n n,.map (some mb)])]).run Tryz.prog w1 = .ok (.agg #[.int .i64 (-1),.int .i64 0,.bool false,.slice (some ⟨lb,0,none⟩) n n,.map (some mb)]) w1)]) ⟨(fun _ _ => kr),(fun _ _ => kr),trivial⟩ ?_
 refine Le (Eff.box (v := .agg #[.int .i64 (-1),.int .i64 0,.bool false,.slice (some ⟨lb,0,none⟩) n n,.map (some mb)]) rfl kr) ?_
 rintro d ⟨hd,nd⟩
 refine Lp 2 [] (some [2,3]) n0 trivial ?_
 refine CfgL.done rfl ?_
 refine Cfg.ret rfl (rs := [.tmp 2,.tmp 3]) rfl [.pointer (some ⟨d,0,none⟩),.int .i64 0] ⟨kr,by kernel_rfl,trivial⟩ (fun w1 hp => ?_)
 refine ⟨(⟨d,lb,mb⟩,(#[],0)),MapOk.empty _,rfl,[],?_⟩
 have h9 := hp.perm (List.Perm.cons _ (List.Perm.swap _ _ _))
 show HP w [] [] [(d,Obj.cells #[.int .i64 (-1),.int .i64 0,.bool false,.slice (some ⟨lb,0,none⟩) (List.replicate n zb).length (List.replicate n zb).length,.map (some mb)] 117 (0,0)),(lb,Obj.cells (rows (List.replicate n zb)).toArray 25 (0,0)),(mb,Obj.map #[] 0)] w1
 rw [show (List.replicate n zb).length = n from List.length_replicate]
 exact h9
set_option maxRecDepth 100000 in
theorem rNew (n : Nat) (w : World) (hn : 64 ≤ n ∧ n ≤ 4096) :
  Calls Tryz.prog 14 #[.int .i64 (n : Int)] w fun e w' => ∃ y : RM,e = .returned (.pointer (some ⟨y.r,0,none⟩)) ∧ ∃ R1,HP w [] R1 (rO { shown := List.replicate n zb,last := List.replicate n zb,waits := List.replicate n false,done := 0,fuse := -1,down := false } y) w' := by
 refine enter (vs := [.int .i64 (n : Int)]) [] [] [] Tryz.func14 rfl kr (HP.start w) ?_
 refine Rg [0] [] n0 trivial ?_
 refine Rg [0,8] [] n0 trivial ?_
 refine Cfg.condF rfl (b := ((decide ((n : Int) < (64 : Int))) || (decide ((n : Int) > (4096 : Int))))) kr (Bool.or_eq_false_iff.2 ⟨decide_eq_false om,decide_eq_false om⟩) ?_
 refine Cfg.begA rfl kr [] ?_
 refine Ap [0,2,4] [] (some [9,11,13]) #[true,false,true,false,true,false,false,false,false] .slnil 6 n0 trivial ?_
 refine CfgA.three 1 3 5 kr (fuel' := 5) rfl ?_ ?_ ?_
 ·
  refine Ie rfl  (Eff.makeRow (e := 25) (n := n) (cells := (rows (List.replicate n zb)).toArray) (v1 := .int .i64 (n : Int)) (v2 := .int .i64 (n : Int)) rfl kr kr (fun w1 => run_mkRows om om)) (fun _ _ => List.nil_sublist _) ?_
  rintro sb ⟨hsb,nsb⟩
  refine CfgA.two 3 5 kr (fuel' := 4) rfl ?_ ?_
  ·
   refine Ie rfl  (Eff.makeRow (e := 25) (n := n) (cells := (rows (List.replicate n zb)).toArray) (v1 := .int .i64 (n : Int)) (v2 := .int .i64 (n : Int)) rfl kr kr (fun w1 => run_mkRows om om)) (fun _ _ => List.nil_sublist _) ?_
   rintro lb ⟨hlb,nlb⟩
   refine Ae 5 rfl 3  (Eff.makeRow (e := 4) (n := n) (cells := (rb (List.replicate n false)).toArray) (v1 := .int .i64 (n : Int)) (v2 := .int .i64 (n : Int)) rfl kr kr (fun w1 => run_mkBs om om)) (fun _ _ => List.nil_sublist _) ?_
   rintro wb ⟨hwb,nwb⟩
   refine Ap [6] [(0,false,some (.agg #[.slice (some ⟨sb,0,none⟩) n n,.slice (some ⟨lb,0,none⟩) n n,.slice (some ⟨wb,0,none⟩) n n,.int .i64 0,.int .i64 (-1),.bool false]))] (some [15]) #[true,true,true,true,true,true,true,false,false] (.cons _ (.cons _ (.cons _ .slnil))) 2 (fun S => [(∀ w1,S w1 → (Instr.build 72 #[(0,.slice (some ⟨sb,0,none⟩) n n),(1,.slice (some ⟨lb,0,none⟩) n n),(2,.slice (some ⟨wb,0,none⟩) n n),(3,.int .i64 0),(4,.int .i64 (-1)),(5,.bool false)]).run Tryz.prog w1 = .ok (.agg #[.slice (some ⟨sb,0,none⟩) n n,.slice (some ⟨lb,0,none⟩) n n,.slice (some ⟨wb,0,none⟩) n n,.int .i64 0,.int .i64 (-1),.bool false]) w1)]) ⟨(fun _ _ => kr),trivial⟩ ?_
   refine Ae 7 rfl 1  (Eff.box (v := .agg #[.slice (some ⟨sb,0,none⟩) n n,.slice (some ⟨lb,0,none⟩) n n,.slice (some ⟨wb,0,none⟩) n n,.int .i64 0,.int .i64 (-1),.bool false]) rfl kr) (fun _ _ => List.nil_sublist _) ?_
   rintro r ⟨hr,nr⟩
   refine Ap [8] [] (some [2]) #[true,true,true,true,true,true,true,true,true] (.cons _ (.cons _ (.cons _ (.cons _ .slnil)))) 0 n0 trivial ?_
   refine CfgA.done kr ?_
   refine Cfg.ret rfl (rs := [.tmp 2]) rfl [.pointer (some ⟨r,0,none⟩)] ⟨kr,trivial⟩ (fun w1 hp => ?_)
   refine ⟨⟨r,sb,lb,wb⟩,rfl,[],?_⟩
   show HP w [] [] [(r,Obj.cells #[.slice (some ⟨sb,0,none⟩) (List.replicate n zb).length (List.replicate n zb).length,.slice (some ⟨lb,0,none⟩) (List.replicate n zb).length (List.replicate n zb).length,.slice (some ⟨wb,0,none⟩) (List.replicate n false).length (List.replicate n false).length,.int .i64 0,.int .i64 (-1),.bool false] 72 (0,0)),(sb,Obj.cells (rows (List.replicate n zb)).toArray 25 (0,0)),(lb,Obj.cells (rows (List.replicate n zb)).toArray 25 (0,0)),(wb,Obj.cells (rb (List.replicate n false)).toArray 4 (0,0))] w1
   rw [show (List.replicate n zb).length = n from List.length_replicate,show (List.replicate n false).length = n from List.length_replicate]
   exact hp.perm (List.Perm.trans (List.Perm.cons _ (List.Perm.cons _ (List.Perm.swap _ _ _))) (List.Perm.trans (List.Perm.cons _ (List.Perm.swap _ _ _)) (List.Perm.trans (List.Perm.cons _ (List.Perm.cons _ (List.Perm.swap _ _ _))) (List.Perm.refl _))))
  ·
   refine Ie rfl  (Eff.makeRow (e := 4) (n := n) (cells := (rb (List.replicate n false)).toArray) (v1 := .int .i64 (n : Int)) (v2 := .int .i64 (n : Int)) rfl kr kr (fun w1 => run_mkBs om om)) (fun _ _ => List.nil_sublist _) ?_
   rintro wb ⟨hwb,nwb⟩
   refine Ae 3 rfl 3  (Eff.makeRow (e := 25) (n := n) (cells := (rows (List.replicate n zb)).toArray) (v1 := .int .i64 (n : Int)) (v2 := .int .i64 (n : Int)) rfl kr kr (fun w1 => run_mkRows om om)) (fun _ _ => List.nil_sublist _) ?_
   rintro lb ⟨hlb,nlb⟩
   refine Ap [6] [(0,false,some (.agg #[.slice (some ⟨sb,0,none⟩) n n,.slice (some ⟨lb,0,none⟩) n n,.slice (some ⟨wb,0,none⟩) n n,.int .i64 0,.int .i64 (-1),.bool false]))] (some [15]) #[true,true,true,true,true,true,true,false,false] (.cons _ (.cons _ (.cons _ .slnil))) 2 (fun S => [(∀ w1,S w1 → (Instr.build 72 #[(0,.slice (some ⟨sb,0,none⟩) n n),(1,.slice (some ⟨lb,0,none⟩) n n),(2,.slice (some ⟨wb,0,none⟩) n n),(3,.int .i64 0),(4,.int .i64 (-1)),(5,.bool false)]).run Tryz.prog w1 = .ok (.agg #[.slice (some ⟨sb,0,none⟩) n n,.slice (some ⟨lb,0,none⟩) n n,.slice (some ⟨wb,0,none⟩) n n,.int .i64 0,.int .i64 (-1),.bool false]) w1)]) ⟨(fun _ _ => kr),trivial⟩ ?_
   refine Ae 7 rfl 1  (Eff.box (v := .agg #[.slice (some ⟨sb,0,none⟩) n n,.slice (some ⟨lb,0,none⟩) n n,.slice (some ⟨wb,0,none⟩) n n,.int .i64 0,.int .i64 (-1),.bool false]) rfl kr) (fun _ _ => List.nil_sublist _) ?_
   rintro r ⟨hr,nr⟩
   refine Ap [8] [] (some [2]) #[true,true,true,true,true,true,true,true,true] (.cons _ (.cons _ (.cons _ (.cons _ .slnil)))) 0 n0 trivial ?_
   refine CfgA.done kr ?_
   refine Cfg.ret rfl (rs := [.tmp 2]) rfl [.pointer (some ⟨r,0,none⟩)] ⟨kr,trivial⟩ (fun w1 hp => ?_)
   refine ⟨⟨r,sb,lb,wb⟩,rfl,[],?_⟩
   show HP w [] [] [(r,Obj.cells #[.slice (some ⟨sb,0,none⟩) (List.replicate n zb).length (List.replicate n zb).length,.slice (some ⟨lb,0,none⟩) (List.replicate n zb).length (List.replicate n zb).length,.slice (some ⟨wb,0,none⟩) (List.replicate n false).length (List.replicate n false).length,.int .i64 0,.int .i64 (-1),.bool false] 72 (0,0)),(sb,Obj.cells (rows (List.replicate n zb)).toArray 25 (0,0)),(lb,Obj.cells (rows (List.replicate n zb)).toArray 25 (0,0)),(wb,Obj.cells (rb (List.replicate n false)).toArray 4 (0,0))] w1
   rw [show (List.replicate n zb).length = n from List.length_replicate,show (List.replicate n false).length = n from List.length_replicate]
   exact hp.perm (List.Perm.trans (List.Perm.cons _ (List.Perm.cons _ (List.Perm.swap _ _ _))) (List.Perm.trans (List.Perm.cons _ (List.Perm.swap _ _ _)) (List.Perm.refl _)))
 ·
  refine Ie rfl  (Eff.makeRow (e := 25) (n := n) (cells := (rows (List.replicate n zb)).toArray) (v1 := .int .i64 (n : Int)) (v2 := .int .i64 (n : Int)) rfl kr kr (fun w1 => run_mkRows om om)) (fun _ _ => List.nil_sublist _) ?_
  rintro lb ⟨hlb,nlb⟩
  refine CfgA.two 1 5 kr (fuel' := 4) rfl ?_ ?_
  ·
   refine Ie rfl  (Eff.makeRow (e := 25) (n := n) (cells := (rows (List.replicate n zb)).toArray) (v1 := .int .i64 (n : Int)) (v2 := .int .i64 (n : Int)) rfl kr kr (fun w1 => run_mkRows om om)) (fun _ _ => List.nil_sublist _) ?_
   rintro sb ⟨hsb,nsb⟩
   refine Ae 5 rfl 3  (Eff.makeRow (e := 4) (n := n) (cells := (rb (List.replicate n false)).toArray) (v1 := .int .i64 (n : Int)) (v2 := .int .i64 (n : Int)) rfl kr kr (fun w1 => run_mkBs om om)) (fun _ _ => List.nil_sublist _) ?_
   rintro wb ⟨hwb,nwb⟩
   refine CfgA.pure [6] [(0,false,some (.agg #[.slice (some ⟨sb,0,none⟩) n n,.slice (some ⟨lb,0,none⟩) n n,.slice (some ⟨wb,0,none⟩) n n,.int .i64 0,.int .i64 (-1),.bool false]))] (some [15]) (l' := tF 7 2) kr kr (.cons _ (.cons _ (.cons _ .slnil))) 2 rfl (Γ' := [(15,[],.agg #[.slice (some ⟨sb,0,none⟩) n n,.slice (some ⟨lb,0,none⟩) n n,.slice (some ⟨wb,0,none⟩) n n,.int .i64 0,.int .i64 (-1),.bool false])]) (nd := (fun S => [(∀ w1,S w1 → (Instr.build 72 #[(0,.slice (some ⟨sb,0,none⟩) n n),(1,.slice (some ⟨lb,0,none⟩) n n),(2,.slice (some ⟨wb,0,none⟩) n n),(3,.int .i64 0),(4,.int .i64 (-1)),(5,.bool false)]).run Tryz.prog w1 = .ok (.agg #[.slice (some ⟨sb,0,none⟩) n n,.slice (some ⟨lb,0,none⟩) n n,.slice (some ⟨wb,0,none⟩) n n,.int .i64 0,.int .i64 (-1),.bool false]) w1)])) (fun _ => kr) ⟨(fun _ _ => kr),trivial⟩ ?_
   refine Ae 7 rfl 1  (Eff.box (v := .agg #[.slice (some ⟨sb,0,none⟩) n n,.slice (some ⟨lb,0,none⟩) n n,.slice (some ⟨wb,0,none⟩) n n,.int .i64 0,.int .i64 (-1),.bool false]) rfl kr) (fun _ _ => List.nil_sublist _) ?_
   rintro r ⟨hr,nr⟩
   refine Ap [8] [] (some [2]) #[true,true,true,true,true,true,true,true,true] (.cons _ (.cons _ (.cons _ (.cons _ .slnil)))) 0 n0 trivial ?_
   refine CfgA.done kr ?_
   refine Cfg.ret rfl (rs := [.tmp 2]) rfl [.pointer (some ⟨r,0,none⟩)] ⟨kr,trivial⟩ (fun w1 hp => ?_)
   refine ⟨⟨r,sb,lb,wb⟩,rfl,[],?_⟩
   show HP w [] [] [(r,Obj.cells #[.slice (some ⟨sb,0,none⟩) (List.replicate n zb).length (List.replicate n zb).length,.slice (some ⟨lb,0,none⟩) (List.replicate n zb).length (List.replicate n zb).length,.slice (some ⟨wb,0,none⟩) (List.replicate n false).length (List.replicate n false).length,.int .i64 0,.int .i64 (-1),.bool false] 72 (0,0)),(sb,Obj.cells (rows (List.replicate n zb)).toArray 25 (0,0)),(lb,Obj.cells (rows (List.replicate n zb)).toArray 25 (0,0)),(wb,Obj.cells (rb (List.replicate n false)).toArray 4 (0,0))] w1
   rw [show (List.replicate n zb).length = n from List.length_replicate,show (List.replicate n false).length = n from List.length_replicate]
   exact hp.perm (List.Perm.trans (List.Perm.cons _ (List.Perm.swap _ _ _)) (List.Perm.trans (List.Perm.cons _ (List.Perm.cons _ (List.Perm.swap _ _ _))) (List.Perm.refl _)))
  ·
   refine Ie rfl  (Eff.makeRow (e := 4) (n := n) (cells := (rb (List.replicate n false)).toArray) (v1 := .int .i64 (n : Int)) (v2 := .int .i64 (n : Int)) rfl kr kr (fun w1 => run_mkBs om om)) (fun _ _ => List.nil_sublist _) ?_
   rintro wb ⟨hwb,nwb⟩
   refine Ae 1 rfl 3  (Eff.makeRow (e := 25) (n := n) (cells := (rows (List.replicate n zb)).toArray) (v1 := .int .i64 (n : Int)) (v2 := .int .i64 (n : Int)) rfl kr kr (fun w1 => run_mkRows om om)) (fun _ _ => List.nil_sublist _) ?_
   rintro sb ⟨hsb,nsb⟩
   refine Ap [6] [(0,false,some (.agg #[.slice (some ⟨sb,0,none⟩) n n,.slice (some ⟨lb,0,none⟩) n n,.slice (some ⟨wb,0,none⟩) n n,.int .i64 0,.int .i64 (-1),.bool false]))] (some [15]) #[true,true,true,true,true,true,true,false,false] (.cons _ (.cons _ (.cons _ .slnil))) 2 (fun S => [(∀ w1,S w1 → (Instr.build 72 #[(0,.slice (some ⟨sb,0,none⟩) n n),(1,.slice (some ⟨lb,0,none⟩) n n),(2,.slice (some ⟨wb,0,none⟩) n n),(3,.int .i64 0),(4,.int .i64 (-1)),(5,.bool false)]).run Tryz.prog w1 = .ok (.agg #[.slice (some ⟨sb,0,none⟩) n n,.slice (some ⟨lb,0,none⟩) n n,.slice (some ⟨wb,0,none⟩) n n,.int .i64 0,.int .i64 (-1),.bool false]) w1)]) ⟨(fun _ _ => kr),trivial⟩ ?_
   refine Ae 7 rfl 1  (Eff.box (v := .agg #[.slice (some ⟨sb,0,none⟩) n n,.slice (some ⟨lb,0,none⟩) n n,.slice (some ⟨wb,0,none⟩) n n,.int .i64 0,.int .i64 (-1),.bool false]) rfl kr) (fun _ _ => List.nil_sublist _) ?_
   rintro r ⟨hr,nr⟩
   refine Ap [8] [] (some [2]) #[true,true,true,true,true,true,true,true,true] (.cons _ (.cons _ (.cons _ (.cons _ .slnil)))) 0 n0 trivial ?_
   refine CfgA.done kr ?_
   refine Cfg.ret rfl (rs := [.tmp 2]) rfl [.pointer (some ⟨r,0,none⟩)] ⟨kr,trivial⟩ (fun w1 hp => ?_)
   refine ⟨⟨r,sb,lb,wb⟩,rfl,[],?_⟩
   show HP w [] [] [(r,Obj.cells #[.slice (some ⟨sb,0,none⟩) (List.replicate n zb).length (List.replicate n zb).length,.slice (some ⟨lb,0,none⟩) (List.replicate n zb).length (List.replicate n zb).length,.slice (some ⟨wb,0,none⟩) (List.replicate n false).length (List.replicate n false).length,.int .i64 0,.int .i64 (-1),.bool false] 72 (0,0)),(sb,Obj.cells (rows (List.replicate n zb)).toArray 25 (0,0)),(lb,Obj.cells (rows (List.replicate n zb)).toArray 25 (0,0)),(wb,Obj.cells (rb (List.replicate n false)).toArray 4 (0,0))] w1
   rw [show (List.replicate n zb).length = n from List.length_replicate,show (List.replicate n false).length = n from List.length_replicate]
   exact hp.perm (List.Perm.trans (List.Perm.cons _ (List.Perm.cons _ (List.Perm.swap _ _ _))) (List.Perm.refl _))
 ·
  refine Ie rfl  (Eff.makeRow (e := 4) (n := n) (cells := (rb (List.replicate n false)).toArray) (v1 := .int .i64 (n : Int)) (v2 := .int .i64 (n : Int)) rfl kr kr (fun w1 => run_mkBs om om)) (fun _ _ => List.nil_sublist _) ?_
  rintro wb ⟨hwb,nwb⟩
  refine CfgA.two 1 3 kr (fuel' := 4) rfl ?_ ?_
  ·
   refine Ie rfl  (Eff.makeRow (e := 25) (n := n) (cells := (rows (List.replicate n zb)).toArray) (v1 := .int .i64 (n : Int)) (v2 := .int .i64 (n : Int)) rfl kr kr (fun w1 => run_mkRows om om)) (fun _ _ => List.nil_sublist _) ?_
   rintro sb ⟨hsb,nsb⟩
   refine Ae 3 rfl 3  (Eff.makeRow (e := 25) (n := n) (cells := (rows (List.replicate n zb)).toArray) (v1 := .int .i64 (n : Int)) (v2 := .int .i64 (n : Int)) rfl kr kr (fun w1 => run_mkRows om om)) (fun _ _ => List.nil_sublist _) ?_
   rintro lb ⟨hlb,nlb⟩
   refine Ap [6] [(0,false,some (.agg #[.slice (some ⟨sb,0,none⟩) n n,.slice (some ⟨lb,0,none⟩) n n,.slice (some ⟨wb,0,none⟩) n n,.int .i64 0,.int .i64 (-1),.bool false]))] (some [15]) #[true,true,true,true,true,true,true,false,false] (.cons _ (.cons _ (.cons _ .slnil))) 2 (fun S => [(∀ w1,S w1 → (Instr.build 72 #[(0,.slice (some ⟨sb,0,none⟩) n n),(1,.slice (some ⟨lb,0,none⟩) n n),(2,.slice (some ⟨wb,0,none⟩) n n),(3,.int .i64 0),(4,.int .i64 (-1)),(5,.bool false)]).run Tryz.prog w1 = .ok (.agg #[.slice (some ⟨sb,0,none⟩) n n,.slice (some ⟨lb,0,none⟩) n n,.slice (some ⟨wb,0,none⟩) n n,.int .i64 0,.int .i64 (-1),.bool false]) w1)]) ⟨(fun _ _ => kr),trivial⟩ ?_
   refine Ae 7 rfl 1  (Eff.box (v := .agg #[.slice (some ⟨sb,0,none⟩) n n,.slice (some ⟨lb,0,none⟩) n n,.slice (some ⟨wb,0,none⟩) n n,.int .i64 0,.int .i64 (-1),.bool false]) rfl kr) (fun _ _ => List.nil_sublist _) ?_
   rintro r ⟨hr,nr⟩
   refine Ap [8] [] (some [2]) #[true,true,true,true,true,true,true,true,true] (.cons _ (.cons _ (.cons _ (.cons _ .slnil)))) 0 n0 trivial ?_
   refine CfgA.done kr ?_
   refine Cfg.ret rfl (rs := [.tmp 2]) rfl [.pointer (some ⟨r,0,none⟩)] ⟨kr,trivial⟩ (fun w1 hp => ?_)
   refine ⟨⟨r,sb,lb,wb⟩,rfl,[],?_⟩
   show HP w [] [] [(r,Obj.cells #[.slice (some ⟨sb,0,none⟩) (List.replicate n zb).length (List.replicate n zb).length,.slice (some ⟨lb,0,none⟩) (List.replicate n zb).length (List.replicate n zb).length,.slice (some ⟨wb,0,none⟩) (List.replicate n false).length (List.replicate n false).length,.int .i64 0,.int .i64 (-1),.bool false] 72 (0,0)),(sb,Obj.cells (rows (List.replicate n zb)).toArray 25 (0,0)),(lb,Obj.cells (rows (List.replicate n zb)).toArray 25 (0,0)),(wb,Obj.cells (rb (List.replicate n false)).toArray 4 (0,0))] w1
   rw [show (List.replicate n zb).length = n from List.length_replicate,show (List.replicate n false).length = n from List.length_replicate]
   exact hp.perm (List.Perm.trans (List.Perm.cons _ (List.Perm.swap _ _ _)) (List.Perm.refl _))
  ·
   refine Ie rfl  (Eff.makeRow (e := 25) (n := n) (cells := (rows (List.replicate n zb)).toArray) (v1 := .int .i64 (n : Int)) (v2 := .int .i64 (n : Int)) rfl kr kr (fun w1 => run_mkRows om om)) (fun _ _ => List.nil_sublist _) ?_
   rintro lb ⟨hlb,nlb⟩
   refine Ae 1 rfl 3  (Eff.makeRow (e := 25) (n := n) (cells := (rows (List.replicate n zb)).toArray) (v1 := .int .i64 (n : Int)) (v2 := .int .i64 (n : Int)) rfl kr kr (fun w1 => run_mkRows om om)) (fun _ _ => List.nil_sublist _) ?_
   rintro sb ⟨hsb,nsb⟩
   refine Ap [6] [(0,false,some (.agg #[.slice (some ⟨sb,0,none⟩) n n,.slice (some ⟨lb,0,none⟩) n n,.slice (some ⟨wb,0,none⟩) n n,.int .i64 0,.int .i64 (-1),.bool false]))] (some [15]) #[true,true,true,true,true,true,true,false,false] (.cons _ (.cons _ (.cons _ .slnil))) 2 (fun S => [(∀ w1,S w1 → (Instr.build 72 #[(0,.slice (some ⟨sb,0,none⟩) n n),(1,.slice (some ⟨lb,0,none⟩) n n),(2,.slice (some ⟨wb,0,none⟩) n n),(3,.int .i64 0),(4,.int .i64 (-1)),(5,.bool false)]).run Tryz.prog w1 = .ok (.agg #[.slice (some ⟨sb,0,none⟩) n n,.slice (some ⟨lb,0,none⟩) n n,.slice (some ⟨wb,0,none⟩) n n,.int .i64 0,.int .i64 (-1),.bool false]) w1)]) ⟨(fun _ _ => kr),trivial⟩ ?_
   refine Ae 7 rfl 1  (Eff.box (v := .agg #[.slice (some ⟨sb,0,none⟩) n n,.slice (some ⟨lb,0,none⟩) n n,.slice (some ⟨wb,0,none⟩) n n,.int .i64 0,.int .i64 (-1),.bool false]) rfl kr) (fun _ _ => List.nil_sublist _) ?_
   rintro r ⟨hr,nr⟩
   refine Ap [8] [] (some [2]) #[true,true,true,true,true,true,true,true,true] (.cons _ (.cons _ (.cons _ (.cons _ .slnil)))) 0 n0 trivial ?_
   refine CfgA.done kr ?_
   refine Cfg.ret rfl (rs := [.tmp 2]) rfl [.pointer (some ⟨r,0,none⟩)] ⟨kr,trivial⟩ (fun w1 hp => ?_)
   refine ⟨⟨r,sb,lb,wb⟩,rfl,[],?_⟩
   show HP w [] [] [(r,Obj.cells #[.slice (some ⟨sb,0,none⟩) (List.replicate n zb).length (List.replicate n zb).length,.slice (some ⟨lb,0,none⟩) (List.replicate n zb).length (List.replicate n zb).length,.slice (some ⟨wb,0,none⟩) (List.replicate n false).length (List.replicate n false).length,.int .i64 0,.int .i64 (-1),.bool false] 72 (0,0)),(sb,Obj.cells (rows (List.replicate n zb)).toArray 25 (0,0)),(lb,Obj.cells (rows (List.replicate n zb)).toArray 25 (0,0)),(wb,Obj.cells (rb (List.replicate n false)).toArray 4 (0,0))] w1
   rw [show (List.replicate n zb).length = n from List.length_replicate,show (List.replicate n false).length = n from List.length_replicate]
   exact hp.perm (List.Perm.refl _)
end Go.Proofs.YtohjpggjgomgoaaGreatDoor
namespace Go.Proofs.YtohjpggjgomgoaaGreatDoor
open K
set_option linter.unusedVariables false
set_option maxRecDepth 100000 in
theorem rRead (m : RM) (Q : RK) (q : Int) (w : World) (hg : RG Q) (hR : Has w (rO Q m)) :
  Calls Tryz.prog 24 #[.pointer (some ⟨m.r,0,none⟩),.int .i64 q] w fun e w' => e = .returned (.tuple #[.agg (bv (rReadB Q q)),.int .i64 (rReadE Q q)]) ∧ Ext [] w w' := by
 have hn := hg.n
 have hsl := hg.sl
 have htl := hg.tl
 refine enter (vs := [.pointer (some ⟨m.r,0,none⟩),.int .i64 q]) [] [(m.r,.cells #[.slice (some ⟨m.sb,0,none⟩) Q.shown.length Q.shown.length,.slice (some ⟨m.lb,0,none⟩) Q.last.length Q.last.length,.slice (some ⟨m.wb,0,none⟩) Q.waits.length Q.waits.length,.int .i64 Q.done,.int .i64 Q.fuse,.bool Q.down] 72 (0,0)),(m.sb,.cells ((rows Q.shown).toArray) 25 (0,0)),(m.lb,.cells ((rows Q.last).toArray) 25 (0,0)),(m.wb,.cells ((rb Q.waits).toArray) 4 (0,0))] [] Tryz.func24 rfl kr (HP.ofHas hR) ?_
 refine Cfg.begL rfl ?_
 refine Le (Eff.alloc (z := (.agg (bv (List.replicate 512 0)))) rfl kr) ?_
 rintro b1 ⟨hb1,nb1⟩
 refine Lp 1 [] (some [0,1,4]) n0 trivial ?_
 refine CfgL.done rfl ?_
 refine Rg [0,1,4,9] [dZ,dZ,dZ,(0,false,some (.bool Q.down))] (fun S => [(∀ w1,S w1 → w1.cell? ⟨m.r,5,none⟩ = some (.bool Q.down))]) ⟨(fun w1 h => h.rcell 0 rfl rfl),trivial⟩ ?_
 refine Cfg.cond rfl (b := Q.down) kr (fun c1r => ?_) (fun c1r => ?_)
 ·have c1 : (Q.down = true) := c1r
  refine Cfg.begL rfl ?_
  refine Lp 1 [(0,false,some (.agg (bv (List.replicate 512 0))))] (some [4,10]) (fun S => [(∀ w1,S w1 → (Instr.build 25 #[]).run Tryz.prog w1 = .ok (.agg (bv (List.replicate 512 0))) w1)]) ⟨(fun _ _ => kr),trivial⟩ ?_
  refine Le (Eff.storeN (b := b1) (off := 0) (vs := (bv (List.replicate 512 0))) (n := 512) rfl kr kr kr ((bv_size _).trans (List.length_replicate)) (all_bv _) 0 (cs := (bv (List.replicate 512 0))) (e := 25) kr (by rw [zsz512]; omega)) ?_
  rintro ⟨⟩ -
  refine CfgL.setO (congrArg (fun (xq : Array Value) => ([(b1,.cells xq 25 (0,0))] : List (Nat × Obj))) (show _ = (bv (List.replicate 512 0)) from spl_all (((bv_size _).trans (List.length_replicate)).trans zsz512.symm))) ?_
  refine Lp 1 [] (some [4,5]) n0 trivial ?_
  refine CfgL.done rfl ?_
  refine Cfg.ret rfl (rs := [.cell 4 25,.tmp 5]) rfl [.agg (bv (List.replicate 512 0)),.int .i64 13] ⟨⟨_,by kernel_rfl,(fun w1 h => h.oload 0 rfl Tryz.underlying25 rfl (n := 512) kr ((bv_size _).trans (List.length_replicate)))⟩,by kernel_rfl,trivial⟩ (fun w1 hp => ?_)
  have hx : rReadE Q q = 13 := if_pos c1
  have hy : rReadB Q q = List.replicate 512 0 := by unfold rReadB; rw [hx,if_neg (by decide)]; rfl
  rw [hx,hy]
  exact ⟨rfl,hp.ext⟩
 ·have c1 : (Q.down = false) := c1r
  refine Rg [0,1,4,21] [dZ,dZ,dZ,dZ,dZ,dZ,dZ,(0,false,some (.slice (some ⟨m.lb,0,none⟩) Q.last.length Q.last.length))] (fun S => [((.bool (decide (q < (0 : Int))) : Value) = .bool false → (∀ w1,S w1 → w1.cell? ⟨m.r,1,none⟩ = some (.slice (some ⟨m.lb,0,none⟩) Q.last.length Q.last.length)))]) ⟨(fun g0 => have q0 : (¬ (q < (0 : Int))) := (of_decide_eq_false (boolV g0)); (fun w1 h => h.rcell 0 rfl rfl)),trivial⟩ ?_
  refine Cfg.cond rfl (b := ((decide (q < (0 : Int))) || (decide (q ≥ (Q.last.length : Int))))) kr (fun c2r => ?_) (fun c2r => ?_)
  ·have c2 : ((q < (0 : Int)) ∨ (q ≥ (Q.last.length : Int))) := ((orT c2r).elim (fun h => Or.inl (of_decide_eq_true h)) (fun h => Or.inr (of_decide_eq_true h)))
   refine Cfg.begL rfl ?_
   refine Lp 1 [(0,false,some (.agg (bv (List.replicate 512 0))))] (some [4,22]) (fun S => [(∀ w1,S w1 → (Instr.build 25 #[]).run Tryz.prog w1 = .ok (.agg (bv (List.replicate 512 0))) w1)]) ⟨(fun _ _ => kr),trivial⟩ ?_
   refine Le (Eff.storeN (b := b1) (off := 0) (vs := (bv (List.replicate 512 0))) (n := 512) rfl kr kr kr ((bv_size _).trans (List.length_replicate)) (all_bv _) 0 (cs := (bv (List.replicate 512 0))) (e := 25) kr (by rw [zsz512]; omega)) ?_
   rintro ⟨⟩ -
   refine CfgL.setO (congrArg (fun (xq : Array Value) => ([(b1,.cells xq 25 (0,0))] : List (Nat × Obj))) (show _ = (bv (List.replicate 512 0)) from spl_all (((bv_size _).trans (List.length_replicate)).trans zsz512.symm))) ?_
   refine Lp 1 [] (some [4,5]) n0 trivial ?_
   refine CfgL.done rfl ?_
   refine Cfg.ret rfl (rs := [.cell 4 25,.tmp 5]) rfl [.agg (bv (List.replicate 512 0)),.int .i64 2] ⟨⟨_,by kernel_rfl,(fun w1 h => h.oload 0 rfl Tryz.underlying25 rfl (n := 512) kr ((bv_size _).trans (List.length_replicate)))⟩,by kernel_rfl,trivial⟩ (fun w1 hp => ?_)
   have hx : rReadE Q q = 2 := by unfold rReadE; rw [if_neg (by simp [c1]),if_pos c2]
   have hy : rReadB Q q = List.replicate 512 0 := by unfold rReadB; rw [hx,if_neg (by decide)]; rfl
   rw [hx,hy]
   exact ⟨rfl,hp.ext⟩
  ·have c2 : ((¬ (q < (0 : Int))) ∧ (¬ (q ≥ (Q.last.length : Int)))) := ⟨(of_decide_eq_false (orF1 c2r)),(of_decide_eq_false (orF2 c2r))⟩
   refine Cfg.begL rfl ?_
   refine CfgL.pure 7 [dZ,dZ,dZ,(0,false,some (.slice (some ⟨m.sb,0,none⟩) Q.shown.length Q.shown.length)),dZ,dZ,(0,false,some (.agg (bv (Q.shown.getD ((q).toNat) zb))))] (some [4,29]) (Γ' := [(29,[],.agg (bv (Q.shown.getD ((q).toNat) zb))),(4,[],.pointer (some ⟨b1,0,none⟩))]) (nd := (fun S => [(∀ w1,S w1 → w1.cell? ⟨m.r,0,none⟩ = some (.slice (some ⟨m.sb,0,none⟩) Q.shown.length Q.shown.length)),(0 ≤ q ∧ q < (Q.shown.length : Int)),(∀ w1,S w1 → (loadVar 25 ⟨m.sb,((q).toNat * 512),none⟩).run Tryz.prog w1 = .ok (.agg (bv (Q.shown.getD ((q).toNat) zb))) w1)])) kr (fun _ => kr) ⟨(fun w1 h => h.rcell 0 rfl rfl),om,(fun w1 h => load_bytes Tryz.underlying25 rfl kr (hg.ws.at' _) (fun j hj => sect_cell (n := 0) hg.ws (h.ro _ (List.mem_of_getElem? (i := 1) rfl)) rfl (by first | omega | (rw [List.length_set]; omega)) j hj)),trivial⟩ ?_
   refine Le (Eff.storeN (b := b1) (off := 0) (vs := (bv (Q.shown.getD ((q).toNat) zb))) (n := 512) rfl kr kr kr ((bv_size _).trans (hg.ws.at' _)) (all_bv _) 0 (cs := (bv (List.replicate 512 0))) (e := 25) kr (by rw [zsz512]; omega)) ?_
   rintro ⟨⟩ -
   refine CfgL.setO (congrArg (fun (xq : Array Value) => ([(b1,.cells xq 25 (0,0))] : List (Nat × Obj))) (show _ = (bv (Q.shown.getD ((q).toNat) zb)) from spl_all (((bv_size _).trans (hg.ws.at' _)).trans zsz512.symm))) ?_
   refine Lp 1 [] (some [4,5]) n0 trivial ?_
   refine CfgL.done rfl ?_
   refine Cfg.ret rfl (rs := [.cell 4 25,.tmp 5]) rfl [.agg (bv (Q.shown.getD ((q).toNat) zb)),.int .i64 0] ⟨⟨_,by kernel_rfl,(fun w1 h => h.oload 0 rfl Tryz.underlying25 rfl (n := 512) kr ((bv_size _).trans (hg.ws.at' _)))⟩,by kernel_rfl,trivial⟩ (fun w1 hp => ?_)
   have hx : rReadE Q q = 0 := by unfold rReadE; rw [if_neg (by simp [c1]),if_neg om]
   have hy : rReadB Q q = Q.shown.getD q.toNat zb := by unfold rReadB; rw [hx,if_pos rfl]
   rw [hx,hy]
   exact ⟨rfl,hp.ext⟩
set_option maxRecDepth 100000 in
theorem rStep (m : RM) (Q : RK) (w : World) (hf : -1 ≤ Q.fuse ∧ Q.fuse ≤ 9223372036854775807) (hs : 0 ≤ Q.done ∧ Q.done ≤ 4611686018427387904) (hb : w.heap[m.r]? = some (.cells (rC Q m) 72 (0,0))) :
  Calls Tryz.prog 94 #[.pointer (some ⟨m.r,0,none⟩)] w fun e w' => e = .returned (.bool (stF Q).1) ∧ Ext [m.r] w w' ∧ w'.heap[m.r]? = some (.cells (rC (stF Q).2 m) 72 (0,0)) := by
 refine enter (vs := [.pointer (some ⟨m.r,0,none⟩)]) [m.r] [] [(m.r,.cells #[.slice (some ⟨m.sb,0,none⟩) Q.shown.length Q.shown.length,.slice (some ⟨m.lb,0,none⟩) Q.last.length Q.last.length,.slice (some ⟨m.wb,0,none⟩) Q.waits.length Q.waits.length,.int .i64 Q.done,.int .i64 Q.fuse,.bool Q.down] 72 (0,0))] Tryz.func94 rfl kr (HP.startM (fun e he => by cases he) hb (by simp)) ?_
 refine Rg [0] [] n0 trivial ?_
 refine Rg [0,7] [dZ,dZ,dZ,(0,false,some (.int .i64 Q.fuse))] (fun S => [(∀ w1,S w1 → w1.cell? ⟨m.r,4,none⟩ = some (.int .i64 Q.fuse))]) ⟨(fun w1 h => h.ocell 0 rfl rfl),trivial⟩ ?_
 refine Cfg.cond rfl (b := (Q.fuse == (0 : Int))) kr (fun c1r => ?_) (fun c1r => ?_)
 ·have c1 := (beq_iff_eq.1 c1r)
  refine Cfg.begL rfl ?_
  refine Lp 3 [] (some [10]) n0 trivial ?_
  refine Le (Eff.store1 (b := m.r) (off := 5) (v := .bool true) rfl kr kr rfl kr 0 (cs := #[.slice (some ⟨m.sb,0,none⟩) Q.shown.length Q.shown.length,.slice (some ⟨m.lb,0,none⟩) Q.last.length Q.last.length,.slice (some ⟨m.wb,0,none⟩) Q.waits.length Q.waits.length,.int .i64 Q.done,.int .i64 Q.fuse,.bool Q.down]) (e := 72) kr (by simp)) ?_
  rintro ⟨⟩ -
  refine CfgL.done rfl ?_
  refine Cg (Γ' := []) ?_
  refine Rg [2] [] n0 trivial ?_
  refine Cfg.ret rfl (rs := [.tmp 2]) rfl [.bool false] ⟨kr,trivial⟩ (fun w1 hp => ?_)
  have hx : stF Q = (false,{ Q with down := true }) := if_pos c1
  rw [hx]
  exact ⟨rfl,hp.ext,hp.own (m.r,_) (List.mem_cons_self ..)⟩
 ·have c1 := (beq_eq_false_iff_ne.1 c1r)
  refine Rg [0,15] [dZ,dZ,dZ,(0,false,some (.int .i64 Q.fuse))] (fun S => [(∀ w1,S w1 → w1.cell? ⟨m.r,4,none⟩ = some (.int .i64 Q.fuse))]) ⟨(fun w1 h => h.ocell 0 rfl rfl),trivial⟩ ?_
  refine Cfg.cond rfl (b := (decide (Q.fuse > (0 : Int)))) kr (fun c2r => ?_) (fun c2r => ?_)
  ·have c2 := (of_decide_eq_true c2r)
   refine Cfg.begL rfl ?_
   refine Lp 7 [dZ,dZ,dZ,(0,false,some (.int .i64 Q.fuse))] (some [0,20,22]) (fun S => [(∀ w1,S w1 → w1.cell? ⟨m.r,4,none⟩ = some (.int .i64 Q.fuse)),((-9223372036854775808 : Int) ≤ (Q.fuse - 1) ∧ (Q.fuse - 1) ≤ 9223372036854775807)]) ⟨(fun w1 h => h.ocell 0 rfl rfl),om,trivial⟩ ?_
   refine Le (Eff.store1 (b := m.r) (off := 4) (v := .int .i64 (Q.fuse - 1)) rfl kr kr rfl kr 0 (cs := #[.slice (some ⟨m.sb,0,none⟩) Q.shown.length Q.shown.length,.slice (some ⟨m.lb,0,none⟩) Q.last.length Q.last.length,.slice (some ⟨m.wb,0,none⟩) Q.waits.length Q.waits.length,.int .i64 Q.done,.int .i64 Q.fuse,.bool Q.down]) (e := 72) kr (by simp)) ?_
   rintro ⟨⟩ -
   refine CfgL.done rfl ?_
   refine Cg (Γ' := [(0,[],.pointer (some ⟨m.r,0,none⟩))]) ?_
   refine Cfg.begL rfl ?_
   refine Lp 7 [dZ,dZ,dZ,(0,false,some (.int .i64 Q.done))] (some [27,29]) (fun S => [(∀ w1,S w1 → w1.cell? ⟨m.r,3,none⟩ = some (.int .i64 Q.done)),((-9223372036854775808 : Int) ≤ (Q.done + 1) ∧ (Q.done + 1) ≤ 9223372036854775807)]) ⟨(fun w1 h => h.ocell 0 rfl rfl),om,trivial⟩ ?_
   refine Le (Eff.store1 (b := m.r) (off := 3) (v := .int .i64 (Q.done + 1)) rfl kr kr rfl kr 0 (cs := (#[.slice (some ⟨m.sb,0,none⟩) Q.shown.length Q.shown.length,.slice (some ⟨m.lb,0,none⟩) Q.last.length Q.last.length,.slice (some ⟨m.wb,0,none⟩) Q.waits.length Q.waits.length,.int .i64 Q.done,.int .i64 Q.fuse,.bool Q.down].setIfInBounds 4 (.int .i64 (Q.fuse - 1)))) (e := 72) kr (by simp)) ?_
   rintro ⟨⟩ -
   refine CfgL.done rfl ?_
   refine Cg (Γ' := []) ?_
   refine Rg [2] [] n0 trivial ?_
   refine Cfg.ret rfl (rs := [.tmp 2]) rfl [.bool true] ⟨kr,trivial⟩ (fun w1 hp => ?_)
   have hx : stF Q = (true,{ Q with fuse := Q.fuse - 1,done := Q.done + 1 }) := by unfold stF; rw [if_neg c1,if_pos c2]
   rw [hx]
   exact ⟨rfl,hp.ext,hp.own (m.r,_) (List.mem_cons_self ..)⟩
  ·have c2 := (of_decide_eq_false c2r)
   refine Cfg.begL rfl ?_
   refine Lp 7 [dZ,dZ,dZ,(0,false,some (.int .i64 Q.done))] (some [27,29]) (fun S => [(∀ w1,S w1 → w1.cell? ⟨m.r,3,none⟩ = some (.int .i64 Q.done)),((-9223372036854775808 : Int) ≤ (Q.done + 1) ∧ (Q.done + 1) ≤ 9223372036854775807)]) ⟨(fun w1 h => h.ocell 0 rfl rfl),om,trivial⟩ ?_
   refine Le (Eff.store1 (b := m.r) (off := 3) (v := .int .i64 (Q.done + 1)) rfl kr kr rfl kr 0 (cs := #[.slice (some ⟨m.sb,0,none⟩) Q.shown.length Q.shown.length,.slice (some ⟨m.lb,0,none⟩) Q.last.length Q.last.length,.slice (some ⟨m.wb,0,none⟩) Q.waits.length Q.waits.length,.int .i64 Q.done,.int .i64 Q.fuse,.bool Q.down]) (e := 72) kr (by simp)) ?_
   rintro ⟨⟩ -
   refine CfgL.done rfl ?_
   refine Cg (Γ' := []) ?_
   refine Rg [2] [] n0 trivial ?_
   refine Cfg.ret rfl (rs := [.tmp 2]) rfl [.bool true] ⟨kr,trivial⟩ (fun w1 hp => ?_)
   have hx : stF Q = (true,{ Q with fuse := Q.fuse,done := Q.done + 1 }) := by unfold stF; rw [if_neg c1,if_neg c2]
   rw [hx]
   exact ⟨rfl,hp.ext,hp.own (m.r,_) (List.mem_cons_self ..)⟩
set_option maxRecDepth 100000 in
theorem rList (m : RM) (Q : RK) (w : World) (hg : RG Q) (hR : Has w (rO Q m)) :
  Calls Tryz.prog 71 #[.pointer (some ⟨m.r,0,none⟩)] w fun e w' => ∃ o : K.Own,OwnOk o 1 (lisF Q.waits Q.waits.length).length ((lisF Q.waits Q.waits.length).map Go.encZ) ∧ e = .returned (.slice o.a (lisF Q.waits Q.waits.length).length o.c) ∧ Has w' (o.o 3 ((lisF Q.waits Q.waits.length).map Go.encZ)) ∧ (∀ x ∈ o.o 3 ((lisF Q.waits Q.waits.length).map Go.encZ),w.heap.size ≤ x.1) ∧ Ext [] w w' := by
 have hn := hg.n
 have hsl := hg.sl
 have htl := hg.tl
 refine enter (vs := [.pointer (some ⟨m.r,0,none⟩)]) [] [(m.r,.cells #[.slice (some ⟨m.sb,0,none⟩) Q.shown.length Q.shown.length,.slice (some ⟨m.lb,0,none⟩) Q.last.length Q.last.length,.slice (some ⟨m.wb,0,none⟩) Q.waits.length Q.waits.length,.int .i64 Q.done,.int .i64 Q.fuse,.bool Q.down] 72 (0,0)),(m.sb,.cells ((rows Q.shown).toArray) 25 (0,0)),(m.lb,.cells ((rows Q.last).toArray) 25 (0,0)),(m.wb,.cells ((rb Q.waits).toArray) 4 (0,0))] [] Tryz.func71 rfl kr (HP.ofHas hR) ?_
 refine Rg [0] [] n0 trivial ?_
 refine Rg [0,3] [] n0 trivial ?_
 refine Rg [3,9,10,11] [dZ,dZ,dZ,(0,false,some (.slice (some ⟨m.wb,0,none⟩) Q.waits.length Q.waits.length))] (fun S => [(∀ w1,S w1 → w1.cell? ⟨m.r,2,none⟩ = some (.slice (some ⟨m.wb,0,none⟩) Q.waits.length Q.waits.length))]) ⟨(fun w1 h => h.rcell 0 rfl rfl),trivial⟩ ?_
 refine Cfg.loop rfl (ι := Nat × K.Own) (fun (xz : Nat × K.Own) => match xz with | (k,own) => [(11,[],.int .i64 (k : Int)),(10,[],.int .i64 (Q.waits.length : Int)),(9,[],.slice (some ⟨m.wb,0,none⟩) Q.waits.length Q.waits.length),(3,[],.slice (Own.a own) ((lisF Q.waits k).length) (Own.c own))]) (fun (xz : Nat × K.Own) => match xz with | (k,own) => ([] ++ (Own.o 3 ((lisF Q.waits k).map Go.encZ) own ++ []))) (fun (xz : Nat × K.Own) => match xz with | (k,own) => (k ≤ Q.waits.length) ∧ (OwnOk own 1 (lisF Q.waits k).length ((lisF Q.waits k).map Go.encZ))) (fun (xz : Nat × K.Own) => match xz with | (k,own) => Q.waits.length - k) (0,none) ?_ (Conv.mk kr) (List.Sublist.refl _) ?_
 ·exact ⟨Nat.zero_le _,OwnOk.none _⟩
 ·rintro ⟨k,own⟩ ⟨hk,hok⟩
  refine Rg [3,9,10,11,12] [] n0 trivial ?_
  refine Cfg.cond rfl (b := (decide ((k : Int) < (Q.waits.length : Int)))) kr (fun c1r => ?_) (fun c1r => ?_)
  ·have c1 := (of_decide_eq_true c1r)
   refine Rg [3,4,5,9,10,11] [dZ,dZ,(0,false,some (.bool (Q.waits.getD k false)))] (fun S => [(0 ≤ (k : Int) ∧ (k : Int) < (Q.waits.length : Int)),(∀ w1,S w1 → w1.cell? ⟨m.wb,k,none⟩ = some (.bool (Q.waits.getD k false)))]) ⟨om,(fun w1 h => rb_cell (h.ro _ (List.mem_of_getElem? (i := 3) rfl)) om),trivial⟩ ?_
   refine Rg [3,4,9,10,11,16] [] n0 trivial ?_
   refine Cfg.cond rfl (b := (Q.waits.getD k false)) kr (fun c2r => ?_) (fun c2r => ?_)
   ·have c2 : ((Q.waits.getD k false) = true) := c2r
    refine Cfg.begL rfl ?_
    refine Lp 2 [] (some [3,9,10,11,17,18]) n0 trivial ?_
    refine Le (Eff.buildSlice (e := 3) (cells := #[.int .i64 (k : Int)]) (parts := #[(0,.int .i64 (k : Int))]) rfl kr (fun _ => kr)) ?_
    rintro b1 ⟨hb1,nb1⟩
    refine Le (Eff.appendF rfl 1 8 Tryz.underlying132 kr (z := (.int .i64 0)) kr kr own (xs := ((lisF Q.waits k).map Go.encZ)) hok kr (b2 := b1) (off2 := 0) (m := 1) (c2 := 1) kr ([Value.int .i64 (k : Int)]) rfl (fun v hv => by rw [List.mem_singleton.1 hv]; rfl) [(b1,.cells #[.int .i64 (k : Int)] 3 (0,0))] [] (by rfl) (fun w1 h j v hj => by rw [Nat.zero_add]; exact h.ocell 0 rfl (by rw [← Array.getElem?_toList]; exact hj)) (by have := lisF_len Q.waits k; omega) (by have := lisF_len Q.waits k; omega)) ?_
    rintro o1 ko1
    refine CfgL.pure 1 [] (some [3,9,10,11]) (Γ' := [(3,[],.slice (Own.a o1) (((lisF Q.waits k).length + 1)) (Own.c o1)),(11,[],.int .i64 (k : Int)),(10,[],.int .i64 (Q.waits.length : Int)),(9,[],.slice (some ⟨m.wb,0,none⟩) Q.waits.length Q.waits.length)]) (nd := (fun _ => [])) kr (fun _ => kr) trivial ?_
    refine CfgL.done rfl ?_
    refine Rg [3,9,10,11] [] (fun _ => [((-9223372036854775808 : Int) ≤ ((k : Int) + 1) ∧ ((k : Int) + 1) ≤ 9223372036854775807)]) ⟨om,trivial⟩ ?_
    have hpk := lisF_yes (ws := Q.waits) (k := k) c2
    refine Cfg.setO (congrArg (fun (xq : List Value) => (([(b1,.cells #[.int .i64 (k : Int)] 3 (0,0))] ++ (Own.o 3 xq o1 ++ [])) : List (Nat × Obj))) (show _ = ((lisF Q.waits (k + 1)).map Go.encZ) from by rw [hpk,List.map_append]; rfl)) ?_
    refine Cg (Γ' := [(11,[],.int .i64 ((k : Int) + 1)),(3,[],.slice (Own.a o1) (((lisF Q.waits k).length + 1)) (Own.c o1)),(10,[],.int .i64 (Q.waits.length : Int)),(9,[],.slice (some ⟨m.wb,0,none⟩) Q.waits.length Q.waits.length)]) ?_
    refine Cfg.setG (congrArg (fun (xq : Nat) => ([(11,[],.int .i64 ((k : Int) + 1)),(3,[],.slice (Own.a o1) xq (Own.c o1)),(10,[],.int .i64 (Q.waits.length : Int)),(9,[],.slice (some ⟨m.wb,0,none⟩) Q.waits.length Q.waits.length)] : Env)) (show _ = ((lisF Q.waits (k + 1)).length) from by rw [hpk,List.length_append]; rfl)) ?_
    refine Cfg.again rfl (k + 1,o1) ⟨by omega,by rw [hpk,List.length_append,List.map_append]; exact ko1⟩ (by show Q.waits.length - (k + 1) < Q.waits.length - k; omega) (Conv.mk kr) (.cons _ (List.Sublist.refl _))
   ·have c2 : ((Q.waits.getD k false) = false) := c2r
    refine Rg [3,9,10,11] [] (fun _ => [((-9223372036854775808 : Int) ≤ ((k : Int) + 1) ∧ ((k : Int) + 1) ≤ 9223372036854775807)]) ⟨om,trivial⟩ ?_
    have hpk := lisF_no (ws := Q.waits) (k := k) c2
    refine Cfg.setO (congrArg (fun (xq : List Value) => (([] ++ (Own.o 3 xq own ++ [])) : List (Nat × Obj))) (show _ = ((lisF Q.waits (k + 1)).map Go.encZ) from by rw [hpk])) ?_
    refine Cg (Γ' := [(11,[],.int .i64 ((k : Int) + 1)),(10,[],.int .i64 (Q.waits.length : Int)),(9,[],.slice (some ⟨m.wb,0,none⟩) Q.waits.length Q.waits.length),(3,[],.slice (Own.a own) ((lisF Q.waits k).length) (Own.c own))]) ?_
    refine Cfg.setG (congrArg (fun (xq : Nat) => ([(11,[],.int .i64 ((k : Int) + 1)),(10,[],.int .i64 (Q.waits.length : Int)),(9,[],.slice (some ⟨m.wb,0,none⟩) Q.waits.length Q.waits.length),(3,[],.slice (Own.a own) xq (Own.c own))] : Env)) (show _ = ((lisF Q.waits (k + 1)).length) from by rw [hpk])) ?_
    refine Cfg.again rfl (k + 1,own) ⟨by omega,by rw [hpk]; exact hok⟩ (by show Q.waits.length - (k + 1) < Q.waits.length - k; omega) (Conv.mk kr) (List.Sublist.refl _)
  ·have c1 := (of_decide_eq_false c1r)
   refine Rg [2] [] n0 trivial ?_
   refine Cfg.ret rfl (rs := [.tmp 2]) rfl [.slice (Own.a own) ((lisF Q.waits k).length) (Own.c own)] ⟨kr,trivial⟩ (fun w1 hp => ?_)
   have hk2 : k = Q.waits.length := by omega
   subst hk2
   refine ⟨own,hok,rfl,fun x hx => hp.own x (List.mem_append_right _ (List.mem_append_left _ hx)),fun x hx => ?_,hp.ext⟩
   rcases hp.mine x (List.mem_append_right _ (List.mem_append_left _ hx)) with h1 | h1
   ·exact h1
   ·cases h1
end Go.Proofs.YtohjpggjgomgoaaGreatDoor
namespace Go.Proofs.YtohjpggjgomgoaaGreatDoor
open K
set_option linter.unusedVariables false
theorem RG.st {Q : RK} (h : RG Q) : RG (stF Q).2 := by
 have h1 := h.f
 obtain ⟨a,b,c⟩ := stF_same Q
 refine ⟨by rw [a]; exact h.ws,by rw [b]; exact h.wl,by rw [b]; exact h.n,by rw [a,b]; exact h.sl,by rw [c,b]; exact h.tl,?_⟩
 unfold stF
 split
 ·exact h.f
 ·show -1 ≤ (if Q.fuse > 0 then Q.fuse - 1 else Q.fuse) ∧ (if Q.fuse > 0 then Q.fuse - 1 else Q.fuse) ≤ _
  split <;> omega
theorem crl_ok (kept : List Bool) : ∀ (is : List Int) (k : Nat) {s l : List (List UInt8)} {ws : List Bool},W5 s → W5 l → W5 (crl kept k is s l ws).1 ∧ W5 (crl kept k is s l ws).2.1 ∧ (crl kept k is s l ws).1.length = s.length ∧ (crl kept k is s l ws).2.1.length = l.length ∧ (crl kept k is s l ws).2.2.length = ws.length
 | [],_,_,_,_,h1,h2 => ⟨h1,h2,rfl,rfl,rfl⟩
 | i :: is,k,s,l,ws,h1,h2 => by
  have h3 : W5 (if kept.getD k false = true then l.set i.toNat (s.getD i.toNat zb) else l) := by
   split
   ·exact h2.set (h1.at' _) _
   ·exact h2
  have h4 : (if kept.getD k false = true then l.set i.toNat (s.getD i.toNat zb) else l).length = l.length := by split <;> simp
  obtain ⟨a,b,c,d,e⟩ := crl_ok kept is (k + 1) (ws := ws.set i.toNat false) (h1.set (h3.at' i.toNat) i.toNat) h3
  rw [crl]
  exact ⟨a,b,by rw [c,List.length_set],by rw [d,h4],by rw [e,List.length_set]⟩
def barW (n k : Nat) (ws : List Bool) : List Bool := List.replicate k false ++ ws.drop k
theorem barW_len {n k : Nat} {ws : List Bool} (h : k ≤ ws.length) : (barW n k ws).length = ws.length := by simp [barW]; omega
theorem barW_set {n k : Nat} {ws : List Bool} (h : k < ws.length) : (barW n k ws).set k false = barW n (k + 1) ws := by
 unfold barW
 rw [List.set_append_right _ _ (by simp),List.length_replicate,Nat.sub_self,List.drop_eq_getElem_cons h,List.set_cons_zero,List.replicate_succ',List.append_assoc]; rfl
def barL (k : Nat) (s l : List (List UInt8)) : List (List UInt8) := s.take k ++ l.drop k
theorem barL_w5 {k : Nat} {s l : List (List UInt8)} (h1 : W5 s) (h2 : W5 l) : W5 (barL k s l) := fun x hx => by
 rcases List.mem_append.1 hx with hx | hx
 ·exact h1 x (List.mem_of_mem_take hx)
 ·exact h2 x (List.mem_of_mem_drop hx)
theorem barL_len {k : Nat} {s l : List (List UInt8)} (h1 : s.length = l.length) (h : k ≤ l.length) : (barL k s l).length = l.length := by simp [barL]; omega
theorem barL_set {k : Nat} {s l : List (List UInt8)} (h1 : s.length = l.length) (h : k < l.length) : (barL k s l).set k (s.getD k zb) = barL (k + 1) s l := by
 unfold barL
 have hk : (s.take k).length = k := by rw [List.length_take]; omega
 rw [List.set_append_right _ _ om,hk,Nat.sub_self,List.drop_eq_getElem_cons h,List.set_cons_zero,List.take_add_one,List.getD_eq_getElem?_getD,List.getElem?_eq_getElem om,List.append_assoc]; rfl
set_option maxRecDepth 100000 in
theorem rWrite (m : RM) (Q : RK) (q : Int) (b : List UInt8) (w : World) (hg : RG Q) (hA : Has w (rO Q m)) (hd : ((rO Q m).map (·.1)).Nodup) (hbl : b.length = 512) (hs : 0 ≤ Q.done ∧ Q.done ≤ 4611686018427387904) :
  Calls Tryz.prog 62 #[.pointer (some ⟨m.r,0,none⟩),.int .i64 q,.agg (bv b)] w fun e w' => e = .returned (.int .i64 (rWriteF Q q b).1) ∧ ∃ R1,HP w [m.r,m.sb,m.lb,m.wb] R1 (rO (rWriteF Q q b).2 m) w' := by
 have hn := hg.n
 have hsl := hg.sl
 have htl := hg.tl
 have hf := hg.f
 obtain ⟨e1,e2,e3⟩ := stF_same Q
 have hgs := hg.st
 have hrc := rReadE_cases Q q
 refine enter (vs := [.pointer (some ⟨m.r,0,none⟩),.int .i64 q,.agg (bv b)]) [m.r,m.sb,m.lb,m.wb] [] [(m.r,.cells #[.slice (some ⟨m.sb,0,none⟩) Q.shown.length Q.shown.length,.slice (some ⟨m.lb,0,none⟩) Q.last.length Q.last.length,.slice (some ⟨m.wb,0,none⟩) Q.waits.length Q.waits.length,.int .i64 Q.done,.int .i64 Q.fuse,.bool Q.down] 72 (0,0)),(m.sb,.cells ((rows Q.shown).toArray) 25 (0,0)),(m.lb,.cells ((rows Q.last).toArray) 25 (0,0)),(m.wb,.cells ((rb Q.waits).toArray) 4 (0,0))] Tryz.func62 rfl kr (HP.ofL hA hd (fun e he => by cases he) (fun e he => by cases he)) ?_
 refine Cfg.begL rfl ?_
 refine Le (Eff.box (v := .agg (bv b)) rfl kr) ?_
 rintro bx ⟨hbx,nbx⟩
 refine Lp 1 [] (some [0,1,5]) n0 trivial ?_
 refine CfgL.done rfl ?_
 refine Cfg.begL rfl ?_
 refine Lp 2 [] none n0 trivial ?_
 refine Le (Eff.callA (vs := [.pointer (some ⟨m.r,0,none⟩),.int .i64 q]) (.tuple #[.agg (bv (rReadB Q q)),.int .i64 (rReadE Q q)]) rfl Tryz.func24 rfl rfl kr (fun w1 h => rRead m Q q w1 hg (h.has (fun e he => List.mem_cons_of_mem _ he)))) ?_
 rintro ⟨⟩ -
 refine Lp 3 [] (some [0,1,5,13,14]) n0 trivial ?_
 refine Le (Eff.alloc (z := (.agg (bv (List.replicate 512 0)))) rfl kr) ?_
 rintro bt ⟨hbt,nbt⟩
 refine Le (Eff.storeN (b := bt) (off := 0) (vs := (bv (rReadB Q q))) (n := 512) rfl kr kr kr ((bv_size _).trans (rReadB_len hg _)) (all_bv _) 0 (cs := (bv (List.replicate 512 0))) (e := 25) kr (by rw [zsz512]; omega)) ?_
 rintro ⟨⟩ -
 refine CfgL.setO (congrArg (fun (xq : Array Value) => ([(bt,.cells xq 25 (0,0)),(bx,.cells (bv b) 25 (0,0)),(m.r,.cells #[.slice (some ⟨m.sb,0,none⟩) Q.shown.length Q.shown.length,.slice (some ⟨m.lb,0,none⟩) Q.last.length Q.last.length,.slice (some ⟨m.wb,0,none⟩) Q.waits.length Q.waits.length,.int .i64 Q.done,.int .i64 Q.fuse,.bool Q.down] 72 (0,0)),(m.sb,.cells ((rows Q.shown).toArray) 25 (0,0)),(m.lb,.cells ((rows Q.last).toArray) 25 (0,0)),(m.wb,.cells ((rb Q.waits).toArray) 4 (0,0))] : List (Nat × Obj))) (show _ = (bv (rReadB Q q)) from spl_all (((bv_size _).trans (rReadB_len hg _)).trans zsz512.symm))) ?_
 refine Lp 1 [] (some [0,1,5,8]) n0 trivial ?_
 refine CfgL.done rfl ?_
 refine Rg [0,1,5,8,16] [] n0 trivial ?_
 refine Cfg.cond rfl (b := ((rReadE Q q) != (0 : Int))) kr (fun c1r => ?_) (fun c1r => ?_)
 ·have c1 := (bne_iff_ne.1 c1r)
  refine Rg [6] [] n0 trivial ?_
  refine Cfg.ret rfl (rs := [.tmp 6]) rfl [.int .i64 (rReadE Q q)] ⟨kr,trivial⟩ (fun w1 hp => ?_)
  have hx : rWriteF Q q b = (rReadE Q q,Q) := if_pos c1
  rw [hx]
  have h9 := hp.sub (List.sublist_append_right [(bt,Obj.cells (bv (rReadB Q q)) 25 (0,0)),(bx,Obj.cells (bv b) 25 (0,0))] _)
  exact ⟨rfl,_,h9⟩
 ·have c1 := (bne_eq_false_iff_eq.1 c1r)
  refine Cfg.begL rfl ?_
  refine Lp 1 [] (some [0,1,5,18]) n0 trivial ?_
  refine Le (Eff.callM (vs := [.pointer (some ⟨m.r,0,none⟩)]) (.bool (stF Q).1) 2 (.cells (rC (stF Q).2 m) 72 (0,0)) rfl Tryz.func94 rfl rfl kr rfl (fun w1 h => rStep m Q w1 hf hs (h.own (m.r,_) (List.mem_of_getElem? (i := 2) rfl)))) ?_
  rintro ⟨⟩ -
  refine CfgL.setO (O' := [(bt,.cells (bv (rReadB Q q)) 25 (0,0)),(bx,.cells (bv b) 25 (0,0)),(m.r,.cells #[.slice (some ⟨m.sb,0,none⟩) Q.shown.length Q.shown.length,.slice (some ⟨m.lb,0,none⟩) Q.last.length Q.last.length,.slice (some ⟨m.wb,0,none⟩) Q.waits.length Q.waits.length,.int .i64 ((stF Q).2.done),.int .i64 ((stF Q).2.fuse),.bool (stF Q).2.down] 72 (0,0)),(m.sb,.cells ((rows Q.shown).toArray) 25 (0,0)),(m.lb,.cells ((rows Q.last).toArray) 25 (0,0)),(m.wb,.cells ((rb Q.waits).toArray) 4 (0,0))]) (by show List.set _ 2 (m.r,Obj.cells #[.slice (some ⟨m.sb,0,none⟩) (stF Q).2.shown.length (stF Q).2.shown.length,.slice (some ⟨m.lb,0,none⟩) (stF Q).2.last.length (stF Q).2.last.length,.slice (some ⟨m.wb,0,none⟩) (stF Q).2.waits.length (stF Q).2.waits.length,.int .i64 (stF Q).2.done,.int .i64 (stF Q).2.fuse,.bool (stF Q).2.down] 72 (0,0)) = _; rw [e1,e2,e3]; rfl) ?_
  refine CfgL.pure 1 [] (some [0,1,5,20]) (Γ' := [(20,[],.bool (!(stF Q).1)),(5,[],.pointer (some ⟨bx,0,none⟩)),(0,[],.pointer (some ⟨m.r,0,none⟩)),(1,[],.int .i64 q)]) (nd := (fun _ => [])) kr (fun _ => kr) trivial ?_
  refine CfgL.done rfl ?_
  refine Cfg.cond rfl (b := (!(stF Q).1)) kr (fun c2r => ?_) (fun c2r => ?_)
  ·have c2 : ((stF Q).1 = false) := (notT c2r)
   refine Rg [6] [] n0 trivial ?_
   refine Cfg.ret rfl (rs := [.tmp 6]) rfl [.int .i64 13] ⟨kr,trivial⟩ (fun w1 hp => ?_)
   have hx : rWriteF Q q b = (13,(stF Q).2) := by unfold rWriteF; rw [if_neg (by simp [c1]),if_neg (by simp [c2])]
   rw [hx]
   have h9 := hp.sub (List.sublist_append_right [(bt,Obj.cells (bv (rReadB Q q)) 25 (0,0)),(bx,Obj.cells (bv b) 25 (0,0))] _)
   refine ⟨rfl,[],?_⟩
   unfold rO rC
   rw [e1,e2,e3]
   exact h9
  ·have c2 : ((stF Q).1 = true) := (notF c2r)
   refine Cfg.begA rfl kr [(bt,.cells (bv (rReadB Q q)) 25 (0,0)),(bx,.cells (bv b) 25 (0,0)),(m.r,.cells #[.slice (some ⟨m.sb,0,none⟩) Q.shown.length Q.shown.length,.slice (some ⟨m.lb,0,none⟩) Q.last.length Q.last.length,.slice (some ⟨m.wb,0,none⟩) Q.waits.length Q.waits.length,.int .i64 ((stF Q).2.done),.int .i64 ((stF Q).2.fuse),.bool (stF Q).2.down] 72 (0,0)),(m.lb,.cells ((rows Q.last).toArray) 25 (0,0)),(m.wb,.cells ((rb Q.waits).toArray) 4 (0,0))] ?_
   refine Ap [0,1,2,3,4,5,6] [dZ,dZ,dZ,(0,false,some (.slice (some ⟨m.sb,0,none⟩) Q.shown.length Q.shown.length)),dZ,(0,false,some (.agg (bv b)))] (some [0,1,26,27]) #[true,true,true,true,true,true,true,false] (.cons_cons _ (.cons_cons _ (.cons_cons _ (.cons _ (.cons_cons _ (.cons_cons _ .slnil)))))) 1 (fun S => [(∀ w1,S w1 → w1.cell? ⟨m.r,0,none⟩ = some (.slice (some ⟨m.sb,0,none⟩) Q.shown.length Q.shown.length)),(∀ w1,S w1 → (loadVar 25 ⟨bx,0,none⟩).run Tryz.prog w1 = .ok (.agg (bv b)) w1),(0 ≤ q ∧ q < (Q.shown.length : Int))]) ⟨(fun w1 h => h.ocell 2 rfl rfl),(fun w1 h => load_row (h.own (bx,_) (List.mem_of_getElem? (i := 1) rfl)) Tryz.underlying25 rfl kr ((bv_size _).trans hbl)),om,trivial⟩ ?_
   refine Ae 7 rfl 0  (Eff.storeN (b := m.sb) (off := ((q).toNat * 512)) (vs := (bv b)) (n := 512) rfl kr kr kr ((bv_size _).trans hbl) (all_bv _) 3 (cs := (rows Q.shown).toArray) (e := 25) kr (by rw [List.size_toArray,rows_len hg.ws]; omega)) (fun _ _ => (.cons_cons _ (.cons_cons _ (.cons_cons _ (.cons _ (.cons_cons _ (.cons_cons _ .slnil))))))) ?_
   rintro ⟨⟩ -
   refine CfgA.setO (congrArg (fun (xq : Array Value) => ([(bt,.cells (bv (rReadB Q q)) 25 (0,0)),(bx,.cells (bv b) 25 (0,0)),(m.r,.cells #[.slice (some ⟨m.sb,0,none⟩) Q.shown.length Q.shown.length,.slice (some ⟨m.lb,0,none⟩) Q.last.length Q.last.length,.slice (some ⟨m.wb,0,none⟩) Q.waits.length Q.waits.length,.int .i64 ((stF Q).2.done),.int .i64 ((stF Q).2.fuse),.bool (stF Q).2.down] 72 (0,0)),(m.sb,.cells xq 25 (0,0)),(m.lb,.cells ((rows Q.last).toArray) 25 (0,0)),(m.wb,.cells ((rb Q.waits).toArray) 4 (0,0))] : List (Nat × Obj))) (show _ = ((rows (Q.shown.set q.toNat b)).toArray) from rows_set hg.ws hbl om rfl)) ?_
   refine CfgA.done kr ?_
   refine Cg (Γ' := [(0,[],.pointer (some ⟨m.r,0,none⟩)),(1,[],.int .i64 q)]) ?_
   refine Cfg.begL rfl ?_
   refine Lp 6 [dZ,dZ,dZ,(0,false,some (.slice (some ⟨m.wb,0,none⟩) Q.waits.length Q.waits.length))] (some [33]) (fun S => [(∀ w1,S w1 → w1.cell? ⟨m.r,2,none⟩ = some (.slice (some ⟨m.wb,0,none⟩) Q.waits.length Q.waits.length)),(0 ≤ q ∧ q < (Q.waits.length : Int))]) ⟨(fun w1 h => h.ocell 2 rfl rfl),om,trivial⟩ ?_
   refine Le (Eff.store1 (b := m.wb) (off := (q).toNat) (v := .bool true) rfl kr kr rfl kr 5 (cs := (rb Q.waits).toArray) (e := 4) kr (by rw [List.size_toArray,rb_len]; omega)) ?_
   rintro ⟨⟩ -
   refine CfgL.done rfl ?_
   refine Cg (Γ' := []) ?_
   refine Rg [6] [] n0 trivial ?_
   refine Cfg.ret rfl (rs := [.tmp 6]) rfl [.int .i64 0] ⟨kr,trivial⟩ (fun w1 hp => ?_)
   have hx : rWriteF Q q b = (0,{ (stF Q).2 with shown := Q.shown.set q.toNat b,waits := Q.waits.set q.toNat true }) := by unfold rWriteF; rw [if_neg (by simp [c1]),if_pos (by simpa using c2)]
   rw [hx]
   have h9 := hp.sub (List.sublist_append_right [(bt,Obj.cells (bv (rReadB Q q)) 25 (0,0)),(bx,Obj.cells (bv b) 25 (0,0))] _)
   rw [rb_set] at h9
   refine ⟨rfl,[],?_⟩
   unfold rO rC
   simp only [List.length_set]
   rw [e2]
   exact h9
set_option maxRecDepth 100000 in
theorem rBarrier (m : RM) (Q : RK) (w : World) (hg : RG Q) (hA : Has w (rO Q m)) (hd : ((rO Q m).map (·.1)).Nodup) (hs : 0 ≤ Q.done ∧ Q.done ≤ 4611686018427387904) :
  Calls Tryz.prog 57 #[.pointer (some ⟨m.r,0,none⟩)] w fun e w' => e = .returned (.int .i64 (rBarF Q).1) ∧ ∃ R1,HP w [m.r,m.sb,m.lb,m.wb] R1 (rO (rBarF Q).2 m) w' := by
 have hn := hg.n
 have hsl := hg.sl
 have htl := hg.tl
 have hf := hg.f
 obtain ⟨e1,e2,e3⟩ := stF_same Q
 have hgs := hg.st
 refine enter (vs := [.pointer (some ⟨m.r,0,none⟩)]) [m.r,m.sb,m.lb,m.wb] [] [(m.r,.cells #[.slice (some ⟨m.sb,0,none⟩) Q.shown.length Q.shown.length,.slice (some ⟨m.lb,0,none⟩) Q.last.length Q.last.length,.slice (some ⟨m.wb,0,none⟩) Q.waits.length Q.waits.length,.int .i64 Q.done,.int .i64 Q.fuse,.bool Q.down] 72 (0,0)),(m.sb,.cells ((rows Q.shown).toArray) 25 (0,0)),(m.lb,.cells ((rows Q.last).toArray) 25 (0,0)),(m.wb,.cells ((rb Q.waits).toArray) 4 (0,0))] Tryz.func57 rfl kr (HP.ofL hA hd (fun e he => by cases he) (fun e he => by cases he)) ?_
 refine Rg [0] [] n0 trivial ?_
 refine Cfg.begL rfl ?_
 refine Lp 5 [dZ,dZ,dZ,(0,false,some (.bool Q.down))] (some [0,8]) (fun S => [(∀ w1,S w1 → w1.cell? ⟨m.r,5,none⟩ = some (.bool Q.down))]) ⟨(fun w1 h => h.ocell 0 rfl rfl),trivial⟩ ?_
 by_cases c1 : Q.down = true
 ·have c1k : Q.down = true := c1
  have c1q : (Q.down = true) := c1k
  refine CfgL.known 8 (b := Q.down) kr true c1k ?_
  refine Lp 4 [(2,false,none),(2,false,none),(2,false,none)] (some [0,12]) (fun _ => [((.bool true : Value) ≠ .bool false),((.bool true : Value) ≠ .bool false),((.bool true : Value) ≠ .bool false)]) ⟨(by simp),(by simp),(by simp),trivial⟩ ?_
  refine CfgL.done rfl ?_
  refine Cfg.condT rfl (b := true) kr rfl ?_
  refine Rg [2] [] n0 trivial ?_
  refine Cfg.ret rfl (rs := [.tmp 2]) rfl [.int .i64 13] ⟨kr,trivial⟩ (fun w1 hp => ?_)
  have hx : rBarF Q = (13,Q) := if_pos (by first | exact c1k | exact c1)
  rw [hx]
  exact ⟨rfl,_,hp⟩
 ·have c1k : Q.down = false := (by simpa using c1)
  have c1q : (Q.down = false) := c1k
  refine CfgL.known 8 (b := Q.down) kr false c1k ?_
  refine Lp 1 [(1,false,none)] none (fun _ => [((.bool false : Value) = .bool false)]) ⟨rfl,trivial⟩ ?_
  refine Le (Eff.callM (vs := [.pointer (some ⟨m.r,0,none⟩)]) (.bool (stF Q).1) 0 (.cells (rC (stF Q).2 m) 72 (0,0)) rfl Tryz.func94 rfl rfl kr rfl (fun w1 h => rStep m Q w1 hf hs (h.own (m.r,_) (List.mem_of_getElem? (i := 0) rfl)))) ?_
  rintro ⟨⟩ -
  refine CfgL.setO (O' := [(m.r,.cells #[.slice (some ⟨m.sb,0,none⟩) Q.shown.length Q.shown.length,.slice (some ⟨m.lb,0,none⟩) Q.last.length Q.last.length,.slice (some ⟨m.wb,0,none⟩) Q.waits.length Q.waits.length,.int .i64 ((stF Q).2.done),.int .i64 ((stF Q).2.fuse),.bool (stF Q).2.down] 72 (0,0)),(m.sb,.cells ((rows Q.shown).toArray) 25 (0,0)),(m.lb,.cells ((rows Q.last).toArray) 25 (0,0)),(m.wb,.cells ((rb Q.waits).toArray) 4 (0,0))]) (by show List.set _ 0 (m.r,Obj.cells #[.slice (some ⟨m.sb,0,none⟩) (stF Q).2.shown.length (stF Q).2.shown.length,.slice (some ⟨m.lb,0,none⟩) (stF Q).2.last.length (stF Q).2.last.length,.slice (some ⟨m.wb,0,none⟩) (stF Q).2.waits.length (stF Q).2.waits.length,.int .i64 (stF Q).2.done,.int .i64 (stF Q).2.fuse,.bool (stF Q).2.down] 72 (0,0)) = _; rw [e1,e2,e3]; rfl) ?_
  refine Lp 2 [(1,false,none)] (some [0,12]) (fun _ => [((.bool false : Value) = .bool false)]) ⟨rfl,trivial⟩ ?_
  refine CfgL.done rfl ?_
  refine Cfg.cond rfl (b := (!(stF Q).1)) kr (fun c3r => ?_) (fun c3r => ?_)
  ·have c3 : ((stF Q).1 = false) := (notT c3r)
   refine Rg [2] [] n0 trivial ?_
   refine Cfg.ret rfl (rs := [.tmp 2]) rfl [.int .i64 13] ⟨kr,trivial⟩ (fun w1 hp => ?_)
   have hx : rBarF Q = (13,(stF Q).2) := by unfold rBarF; rw [if_neg (by simp [c1k]),if_neg (by simp [c3])]
   rw [hx]
   refine ⟨rfl,[],?_⟩
   unfold rO rC
   rw [e1,e2,e3]
   exact hp
  ·have c3 : ((stF Q).1 = true) := (notF c3r)
   refine Cfg.reg rfl [0,17,18] [dZ,dZ,dZ,(0,false,some (.slice (some ⟨m.lb,0,none⟩) Q.last.length Q.last.length))] (Γ' := [(18,[],.int .i64 0),(17,[],.int .i64 (Q.last.length : Int)),(0,[],.pointer (some ⟨m.r,0,none⟩))]) (nd := (fun S => [(∀ w1,S w1 → w1.cell? ⟨m.r,1,none⟩ = some (.slice (some ⟨m.lb,0,none⟩) Q.last.length Q.last.length))])) (fun _ => kr) ⟨(fun w1 h => h.ocell 0 rfl rfl),trivial⟩ ?_
   refine Cfg.loop rfl (ι := Nat) (fun (k : Nat) => [(18,[],.int .i64 (k : Int)),(17,[],.int .i64 (Q.last.length : Int)),(0,[],.pointer (some ⟨m.r,0,none⟩))]) (fun (k : Nat) => [(m.r,.cells #[.slice (some ⟨m.sb,0,none⟩) Q.shown.length Q.shown.length,.slice (some ⟨m.lb,0,none⟩) Q.last.length Q.last.length,.slice (some ⟨m.wb,0,none⟩) Q.waits.length Q.waits.length,.int .i64 ((stF Q).2.done),.int .i64 ((stF Q).2.fuse),.bool (stF Q).2.down] 72 (0,0)),(m.sb,.cells ((rows Q.shown).toArray) 25 (0,0)),(m.lb,.cells ((rows (barL k Q.shown Q.last)).toArray) 25 (0,0)),(m.wb,.cells ((rb (barW 0 k Q.waits)).toArray) 4 (0,0))]) (fun (k : Nat) => (k ≤ Q.last.length)) (fun (k : Nat) => Q.last.length - k) 0 ?_ (Conv.mk kr) (.cons_cons _ (.cons_cons _ (.cons_cons _ (.cons_cons _ .slnil)))) ?_
   ·exact Nat.zero_le _
   ·rintro k hk
    refine Rg [0,17,18,19] [] n0 trivial ?_
    refine Cfg.cond rfl (b := (decide ((k : Int) < (Q.last.length : Int)))) kr (fun c4r => ?_) (fun c4r => ?_)
    ·have c4 := (of_decide_eq_true c4r)
     refine Rg [0,3,17,18] [] n0 trivial ?_
     refine Cfg.begA rfl kr [(m.r,.cells #[.slice (some ⟨m.sb,0,none⟩) Q.shown.length Q.shown.length,.slice (some ⟨m.lb,0,none⟩) Q.last.length Q.last.length,.slice (some ⟨m.wb,0,none⟩) Q.waits.length Q.waits.length,.int .i64 ((stF Q).2.done),.int .i64 ((stF Q).2.fuse),.bool (stF Q).2.down] 72 (0,0)),(m.sb,.cells ((rows Q.shown).toArray) 25 (0,0)),(m.wb,.cells ((rb (barW 0 k Q.waits)).toArray) 4 (0,0))] ?_
     refine Ap [0,1,2,3,4,5,6,7,8,9,10,11,12] [dZ,dZ,dZ,(0,false,some (.slice (some ⟨m.lb,0,none⟩) Q.last.length Q.last.length)),dZ,dZ,dZ,dZ,(0,false,some (.slice (some ⟨m.sb,0,none⟩) Q.shown.length Q.shown.length)),dZ,dZ,(0,false,some (.agg (bv (Q.shown.getD k zb))))] (some [0,3,17,18,32,33]) #[true,true,true,true,true,true,true,true,true,true,true,true,true,false] (.cons_cons _ (.cons_cons _ (.cons _ (.cons_cons _ .slnil)))) 1 (fun S => [(∀ w1,S w1 → w1.cell? ⟨m.r,1,none⟩ = some (.slice (some ⟨m.lb,0,none⟩) Q.last.length Q.last.length)),(∀ w1,S w1 → w1.cell? ⟨m.r,0,none⟩ = some (.slice (some ⟨m.sb,0,none⟩) Q.shown.length Q.shown.length)),(0 ≤ (k : Int) ∧ (k : Int) < (Q.shown.length : Int)),(∀ w1,S w1 → (loadVar 25 ⟨m.sb,(k * 512),none⟩).run Tryz.prog w1 = .ok (.agg (bv (Q.shown.getD k zb))) w1),(0 ≤ (k : Int) ∧ (k : Int) < (Q.last.length : Int))]) ⟨(fun w1 h => h.ocell 0 rfl rfl),(fun w1 h => h.ocell 0 rfl rfl),om,(fun w1 h => load_bytes Tryz.underlying25 rfl kr (hg.ws.at' _) (fun j hj => sect_cell (n := 0) hg.ws (h.own _ (List.mem_of_getElem? (i := 1) rfl)) rfl (by first | omega | (rw [List.length_set]; omega)) j hj)),om,trivial⟩ ?_
     refine Ae 13 rfl 0  (Eff.storeN (b := m.lb) (off := (k * 512)) (vs := (bv (Q.shown.getD k zb))) (n := 512) rfl kr kr kr ((bv_size _).trans (hg.ws.at' _)) (all_bv _) 2 (cs := (rows (barL k Q.shown Q.last)).toArray) (e := 25) kr (by rw [List.size_toArray,rows_len (barL_w5 hg.ws hg.wl),barL_len hsl om]; omega)) (fun _ _ => (.cons_cons _ (.cons_cons _ (.cons _ (.cons_cons _ .slnil))))) ?_
     rintro ⟨⟩ -
     refine CfgA.setO (congrArg (fun (xq : Array Value) => ([(m.r,.cells #[.slice (some ⟨m.sb,0,none⟩) Q.shown.length Q.shown.length,.slice (some ⟨m.lb,0,none⟩) Q.last.length Q.last.length,.slice (some ⟨m.wb,0,none⟩) Q.waits.length Q.waits.length,.int .i64 ((stF Q).2.done),.int .i64 ((stF Q).2.fuse),.bool (stF Q).2.down] 72 (0,0)),(m.sb,.cells ((rows Q.shown).toArray) 25 (0,0)),(m.lb,.cells xq 25 (0,0)),(m.wb,.cells ((rb (barW 0 k Q.waits)).toArray) 4 (0,0))] : List (Nat × Obj))) (show _ = ((rows (barL (k + 1) Q.shown Q.last)).toArray) from (rows_set (barL_w5 hg.ws hg.wl) (hg.ws.at' _) (by rw [barL_len hsl om]; omega) rfl).trans (by rw [barL_set hsl om]))) ?_
     refine CfgA.done kr ?_
     refine Cg (Γ' := [(3,[],.int .i64 (k : Int)),(18,[],.int .i64 (k : Int)),(17,[],.int .i64 (Q.last.length : Int)),(0,[],.pointer (some ⟨m.r,0,none⟩))]) ?_
     refine Cfg.begL rfl ?_
     refine Lp 6 [dZ,dZ,dZ,(0,false,some (.slice (some ⟨m.wb,0,none⟩) Q.waits.length Q.waits.length))] (some [0,17,18,39]) (fun S => [(∀ w1,S w1 → w1.cell? ⟨m.r,2,none⟩ = some (.slice (some ⟨m.wb,0,none⟩) Q.waits.length Q.waits.length)),(0 ≤ (k : Int) ∧ (k : Int) < (Q.waits.length : Int))]) ⟨(fun w1 h => h.ocell 0 rfl rfl),om,trivial⟩ ?_
     refine Le (Eff.store1 (b := m.wb) (off := k) (v := .bool false) rfl kr kr rfl kr 3 (cs := (rb (barW 0 k Q.waits)).toArray) (e := 4) kr (by rw [List.size_toArray,rb_len,barW_len om]; omega)) ?_
     rintro ⟨⟩ -
     refine CfgL.done rfl ?_
     refine Cg (Γ' := [(18,[],.int .i64 (k : Int)),(17,[],.int .i64 (Q.last.length : Int)),(0,[],.pointer (some ⟨m.r,0,none⟩))]) ?_
     refine Rg [0,17,18] [] (fun _ => [((-9223372036854775808 : Int) ≤ ((k : Int) + 1) ∧ ((k : Int) + 1) ≤ 9223372036854775807)]) ⟨om,trivial⟩ ?_
     refine Cfg.setO (congrArg (fun (xq : Array Value) => ([(m.r,.cells #[.slice (some ⟨m.sb,0,none⟩) Q.shown.length Q.shown.length,.slice (some ⟨m.lb,0,none⟩) Q.last.length Q.last.length,.slice (some ⟨m.wb,0,none⟩) Q.waits.length Q.waits.length,.int .i64 ((stF Q).2.done),.int .i64 ((stF Q).2.fuse),.bool (stF Q).2.down] 72 (0,0)),(m.sb,.cells ((rows Q.shown).toArray) 25 (0,0)),(m.lb,.cells ((rows (barL (k + 1) Q.shown Q.last)).toArray) 25 (0,0)),(m.wb,.cells xq 4 (0,0))] : List (Nat × Obj))) (show _ = ((rb (barW 0 (k + 1) Q.waits)).toArray) from by rw [rb_set,barW_set om])) ?_
     refine Cfg.again rfl (k + 1) (by show k + 1 ≤ Q.last.length; omega) (by show Q.last.length - (k + 1) < Q.last.length - k; omega) (Conv.mk kr) (.cons_cons _ (.cons_cons _ (.cons_cons _ (.cons_cons _ .slnil))))
    ·have c4 := (of_decide_eq_false c4r)
     refine Rg [2] [] n0 trivial ?_
     refine Cfg.ret rfl (rs := [.tmp 2]) rfl [.int .i64 0] ⟨kr,trivial⟩ (fun w1 hp => ?_)
     have hk2 : k = Q.last.length := by omega
     subst hk2
     have hx : rBarF Q = (0,{ (stF Q).2 with last := Q.shown,waits := List.replicate Q.waits.length false }) := by unfold rBarF; rw [if_neg (by simp [c1k]),if_pos (by simpa using c3)]
     rw [hx]
     have h1 : barL Q.last.length Q.shown Q.last = Q.shown := by unfold barL; rw [← hsl,List.take_length,List.drop_eq_nil_of_le om,List.append_nil]
     have h2 : barW 0 Q.last.length Q.waits = List.replicate Q.waits.length false := by unfold barW; rw [← htl,List.drop_length,List.append_nil]
     have h9 := hp.sub (List.Sublist.refl _)
     rw [h1,h2,← hsl] at h9
     refine ⟨rfl,[],?_⟩
     unfold rO rC
     simp only [List.length_replicate]
     rw [e1]
     exact h9
end Go.Proofs.YtohjpggjgomgoaaGreatDoor
namespace Go.Proofs.YtohjpggjgomgoaaGreatDoor
open K
set_option linter.unusedVariables false
set_option maxRecDepth 100000 in
theorem rCrash (m : RM) (Q : RK) (la : Option Addr) (cap : Nat) (kept : List Bool) (Rl : List (Nat × Obj)) (w : World) (hg : RG Q) (hA : Has w (rO Q m)) (hd : ((rO Q m).map (·.1)).Nodup) (hI : InS Rl la kept.length (fun j => .bool (kept.getD j false))) (hl : kept.length ≤ maxLen) (hRl : Has w Rl) (hnr : ∀ e ∈ Rl,e.1 ∉ (rO Q m).map (·.1)) :
  Calls Tryz.prog 60 #[.pointer (some ⟨m.r,0,none⟩),.slice la kept.length cap] w fun e w' => e = .returned (.tuple #[]) ∧ ∃ R1,HP w [m.r,m.sb,m.lb,m.wb] R1 (rO (rCrashF kept Q) m) w' := by
 have hn := hg.n
 have hsl := hg.sl
 have htl := hg.tl
 have hf := hg.f
 obtain ⟨e1,e2,e3⟩ := stF_same Q
 have hgs := hg.st
 unfold maxLen at hl
 refine enter (vs := [.pointer (some ⟨m.r,0,none⟩),.slice la kept.length cap]) [m.r,m.sb,m.lb,m.wb] Rl [(m.r,.cells #[.slice (some ⟨m.sb,0,none⟩) Q.shown.length Q.shown.length,.slice (some ⟨m.lb,0,none⟩) Q.last.length Q.last.length,.slice (some ⟨m.wb,0,none⟩) Q.waits.length Q.waits.length,.int .i64 Q.done,.int .i64 Q.fuse,.bool Q.down] 72 (0,0)),(m.sb,.cells ((rows Q.shown).toArray) 25 (0,0)),(m.lb,.cells ((rows Q.last).toArray) 25 (0,0)),(m.wb,.cells ((rb Q.waits).toArray) 4 (0,0))] Tryz.func60 rfl kr (HP.ofL hA hd hRl hnr) ?_
 refine Cfg.begL rfl ?_
 refine Lp 1 [] none n0 trivial ?_
 refine Le (Eff.callOF (vs := [.pointer (some ⟨m.r,0,none⟩)]) 3 1 (lisF Q.waits Q.waits.length).length ((lisF Q.waits Q.waits.length).map Go.encZ) [(m.r,.cells #[.slice (some ⟨m.sb,0,none⟩) Q.shown.length Q.shown.length,.slice (some ⟨m.lb,0,none⟩) Q.last.length Q.last.length,.slice (some ⟨m.wb,0,none⟩) Q.waits.length Q.waits.length,.int .i64 Q.done,.int .i64 Q.fuse,.bool Q.down] 72 (0,0)),(m.sb,.cells ((rows Q.shown).toArray) 25 (0,0)),(m.lb,.cells ((rows Q.last).toArray) 25 (0,0)),(m.wb,.cells ((rb Q.waits).toArray) 4 (0,0))] [] rfl rfl Tryz.func71 rfl rfl kr (fun w1 h => rList m Q w1 hg (h.has (fun e he => he)))) ?_
 rintro o ko
 refine Lp 2 [] (some [0,1,7,8,9]) n0 trivial ?_
 refine CfgL.done rfl ?_
 refine Cfg.loop rfl (ι := Nat × List (List UInt8) × List (List UInt8) × List Bool) (fun (xz : Nat × List (List UInt8) × List (List UInt8) × List Bool) => match xz with | (k,s,l,ws) => [(9,[],.int .i64 (k : Int)),(8,[],.int .i64 ((lisF Q.waits Q.waits.length).length : Int)),(7,[],.slice (Own.a o) ((lisF Q.waits Q.waits.length).length) (Own.c o)),(0,[],.pointer (some ⟨m.r,0,none⟩)),(1,[],.slice la kept.length cap)]) (fun (xz : Nat × List (List UInt8) × List (List UInt8) × List Bool) => match xz with | (k,s,l,ws) => ([(m.r,.cells #[.slice (some ⟨m.sb,0,none⟩) Q.shown.length Q.shown.length,.slice (some ⟨m.lb,0,none⟩) Q.last.length Q.last.length,.slice (some ⟨m.wb,0,none⟩) Q.waits.length Q.waits.length,.int .i64 Q.done,.int .i64 Q.fuse,.bool Q.down] 72 (0,0)),(m.sb,.cells ((rows s).toArray) 25 (0,0)),(m.lb,.cells ((rows l).toArray) 25 (0,0)),(m.wb,.cells ((rb ws).toArray) 4 (0,0))] ++ (Own.o 3 ((lisF Q.waits Q.waits.length).map Go.encZ) o ++ []))) (fun (xz : Nat × List (List UInt8) × List (List UInt8) × List Bool) => match xz with | (k,s,l,ws) => (k ≤ (lisF Q.waits Q.waits.length).length) ∧ (W5 s) ∧ (W5 l) ∧ (s.length = Q.shown.length) ∧ (l.length = Q.last.length) ∧ (ws.length = Q.waits.length) ∧ (crl kept k ((lisF Q.waits Q.waits.length).drop k) s l ws = (crl kept 0 (lisF Q.waits Q.waits.length) Q.shown Q.last Q.waits))) (fun (xz : Nat × List (List UInt8) × List (List UInt8) × List Bool) => match xz with | (k,s,l,ws) => (lisF Q.waits Q.waits.length).length - k) (0,Q.shown,Q.last,Q.waits) ?_ (Conv.mk kr) (.cons_cons _ (.cons_cons _ (.cons_cons _ (.cons_cons _ (List.Sublist.refl _))))) ?_
 ·exact ⟨Nat.zero_le _,hg.ws,hg.wl,rfl,rfl,rfl,rfl⟩
 ·rintro ⟨k,s,l,ws⟩ ⟨hk,h5s,h5l,hls,hll,hlw,htot⟩
  have hlm := lisF_len Q.waits Q.waits.length
  refine Rg [0,1,7,8,9,10] [] n0 trivial ?_
  refine Cfg.cond rfl (b := (decide ((k : Int) < ((lisF Q.waits Q.waits.length).length : Int)))) kr (fun c1r => ?_) (fun c1r => ?_)
  ·have c1 := (of_decide_eq_true c1r)
   obtain ⟨⟨ob,oc,oj⟩,rfl⟩ := own_some ko om
   refine Cfg.setO (O' := [(m.r,.cells #[.slice (some ⟨m.sb,0,none⟩) Q.shown.length Q.shown.length,.slice (some ⟨m.lb,0,none⟩) Q.last.length Q.last.length,.slice (some ⟨m.wb,0,none⟩) Q.waits.length Q.waits.length,.int .i64 Q.done,.int .i64 Q.fuse,.bool Q.down] 72 (0,0)),(m.sb,.cells ((rows s).toArray) 25 (0,0)),(m.lb,.cells ((rows l).toArray) 25 (0,0)),(m.wb,.cells ((rb ws).toArray) 4 (0,0)),(ob,.cells ((((lisF Q.waits Q.waits.length).map Go.encZ) ++ oj).toArray) 3 (0,0))]) rfl ?_
   refine Conv.cfg (Γ' := [(10,[],.bool (decide ((k : Int) < ((lisF Q.waits Q.waits.length).length : Int)))),(9,[],.int .i64 (k : Int)),(8,[],.int .i64 ((lisF Q.waits Q.waits.length).length : Int)),(7,[],.slice (some ⟨ob,0,none⟩) (lisF Q.waits Q.waits.length).length oc),(0,[],.pointer (some ⟨m.r,0,none⟩)),(1,[],.slice la kept.length cap)]) (Conv.mk kr) ?_
   have hki := lis_in (ws := Q.waits) (n := Q.waits.length) (k := k) om
   refine Rg [0,1,4,5,7,8,9] [dZ,dZ,(0,false,some (.int .i64 ((lisF Q.waits Q.waits.length).getD k 0)))] (fun S => [(0 ≤ (k : Int) ∧ (k : Int) < ((lisF Q.waits Q.waits.length).length : Int)),(∀ w1,S w1 → w1.cell? ⟨ob,k,none⟩ = some (.int .i64 ((lisF Q.waits Q.waits.length).getD k 0)))]) ⟨om,(fun w1 h => key_cell (h.own (ob,_) (List.mem_of_getElem? (i := 4) rfl)) om),trivial⟩ ?_
   refine Cfg.begL rfl ?_
   refine Lp 5 [] (some [0,1,4,5,7,8,9,18]) n0 trivial ?_
   by_cases c2 : (decide ((k : Int) < (kept.length : Int))) = true
   ·have c2k : (decide ((k : Int) < (kept.length : Int))) = true := c2
    have c2q := (of_decide_eq_true c2k)
    refine CfgL.known 18 (b := (decide ((k : Int) < (kept.length : Int)))) kr true c2k ?_
    have hik : k < kept.length := by omega
    obtain ⟨ib,off,cs,ti,fri,rfl,hmem,hcs⟩ := hI om
    refine Lp 5 [(1,false,none),(1,false,none),(1,false,none),(1,false,some (.bool (kept.getD k false)))] (some [0,1,5,7,8,9,23]) (fun S => [((.bool true : Value) = .bool true),((.bool true : Value) = .bool true),((.bool true : Value) = .bool true),(0 ≤ (k : Int) ∧ (k : Int) < (kept.length : Int)),((.bool true : Value) = .bool true),(∀ w1,S w1 → w1.cell? ⟨ib,(addO off k),none⟩ = some (.bool (kept.getD k false)))]) ⟨rfl,rfl,rfl,om,rfl,(fun w1 h => by rw [addO_eq,cell_cells (h.ro _ hmem)]; exact hcs k hik),trivial⟩ ?_
    refine CfgL.done rfl ?_
    refine Cfg.cond rfl (b := (kept.getD k false)) kr (fun c3r => ?_) (fun c3r => ?_)
    ·have c3 : ((kept.getD k false) = true) := c3r
     have h5l2 : W5 (l.set ((lisF Q.waits Q.waits.length).getD k 0).toNat (s.getD ((lisF Q.waits Q.waits.length).getD k 0).toNat zb)) := h5l.set (h5s.at' _) _
     refine Cfg.begA rfl kr [(m.r,.cells #[.slice (some ⟨m.sb,0,none⟩) Q.shown.length Q.shown.length,.slice (some ⟨m.lb,0,none⟩) Q.last.length Q.last.length,.slice (some ⟨m.wb,0,none⟩) Q.waits.length Q.waits.length,.int .i64 Q.done,.int .i64 Q.fuse,.bool Q.down] 72 (0,0)),(m.sb,.cells ((rows s).toArray) 25 (0,0)),(m.wb,.cells ((rb ws).toArray) 4 (0,0)),(ob,.cells ((((lisF Q.waits Q.waits.length).map Go.encZ) ++ oj).toArray) 3 (0,0))] ?_
     refine Ap [0,1,2,3,4,5,6,7,8,9,10,11,12] [dZ,dZ,dZ,(0,false,some (.slice (some ⟨m.lb,0,none⟩) Q.last.length Q.last.length)),dZ,dZ,dZ,dZ,(0,false,some (.slice (some ⟨m.sb,0,none⟩) Q.shown.length Q.shown.length)),dZ,dZ,(0,false,some (.agg (bv (s.getD ((((lisF Q.waits Q.waits.length).getD k 0)).toNat) zb))))] (some [0,1,5,7,8,9,35,36]) #[true,true,true,true,true,true,true,true,true,true,true,true,true,false] (.cons_cons _ (.cons_cons _ (.cons _ (.cons_cons _ (.cons_cons _ .slnil))))) 1 (fun S => [(∀ w1,S w1 → w1.cell? ⟨m.r,1,none⟩ = some (.slice (some ⟨m.lb,0,none⟩) Q.last.length Q.last.length)),(∀ w1,S w1 → w1.cell? ⟨m.r,0,none⟩ = some (.slice (some ⟨m.sb,0,none⟩) Q.shown.length Q.shown.length)),(0 ≤ ((lisF Q.waits Q.waits.length).getD k 0) ∧ ((lisF Q.waits Q.waits.length).getD k 0) < (Q.shown.length : Int)),(∀ w1,S w1 → (loadVar 25 ⟨m.sb,((((lisF Q.waits Q.waits.length).getD k 0)).toNat * 512),none⟩).run Tryz.prog w1 = .ok (.agg (bv (s.getD ((((lisF Q.waits Q.waits.length).getD k 0)).toNat) zb))) w1),(0 ≤ ((lisF Q.waits Q.waits.length).getD k 0) ∧ ((lisF Q.waits Q.waits.length).getD k 0) < (Q.last.length : Int))]) ⟨(fun w1 h => h.ocell 0 rfl rfl),(fun w1 h => h.ocell 0 rfl rfl),om,(fun w1 h => load_bytes Tryz.underlying25 rfl kr (h5s.at' _) (fun j hj => sect_cell (n := 0) h5s (h.own _ (List.mem_of_getElem? (i := 1) rfl)) rfl (by first | omega | (rw [List.length_set]; omega)) j hj)),om,trivial⟩ ?_
     refine Ae 13 rfl 0  (Eff.storeN (b := m.lb) (off := ((((lisF Q.waits Q.waits.length).getD k 0)).toNat * 512)) (vs := (bv (s.getD ((((lisF Q.waits Q.waits.length).getD k 0)).toNat) zb))) (n := 512) rfl kr kr kr ((bv_size _).trans (h5s.at' _)) (all_bv _) 2 (cs := (rows l).toArray) (e := 25) kr (by rw [List.size_toArray,rows_len h5l]; omega)) (fun _ _ => (.cons_cons _ (.cons_cons _ (.cons _ (.cons_cons _ (.cons_cons _ .slnil)))))) ?_
     rintro ⟨⟩ -
     refine CfgA.setO (congrArg (fun (xq : Array Value) => ([(m.r,.cells #[.slice (some ⟨m.sb,0,none⟩) Q.shown.length Q.shown.length,.slice (some ⟨m.lb,0,none⟩) Q.last.length Q.last.length,.slice (some ⟨m.wb,0,none⟩) Q.waits.length Q.waits.length,.int .i64 Q.done,.int .i64 Q.fuse,.bool Q.down] 72 (0,0)),(m.sb,.cells ((rows s).toArray) 25 (0,0)),(m.lb,.cells xq 25 (0,0)),(m.wb,.cells ((rb ws).toArray) 4 (0,0)),(ob,.cells ((((lisF Q.waits Q.waits.length).map Go.encZ) ++ oj).toArray) 3 (0,0))] : List (Nat × Obj))) (show _ = ((rows (l.set ((lisF Q.waits Q.waits.length).getD k 0).toNat (s.getD ((((lisF Q.waits Q.waits.length).getD k 0)).toNat) zb))).toArray) from rows_set h5l (h5s.at' _) (by first | omega | (rw [List.length_set]; omega)) rfl)) ?_
     refine CfgA.done kr ?_
     refine Cg (Γ' := [(5,[],.int .i64 ((lisF Q.waits Q.waits.length).getD k 0)),(9,[],.int .i64 (k : Int)),(8,[],.int .i64 ((lisF Q.waits Q.waits.length).length : Int)),(7,[],.slice (some ⟨ob,0,none⟩) (lisF Q.waits Q.waits.length).length oc),(0,[],.pointer (some ⟨m.r,0,none⟩)),(1,[],.slice (some ⟨ib,off,none⟩) kept.length cap)]) ?_
     refine Cfg.begA rfl kr [(m.r,.cells #[.slice (some ⟨m.sb,0,none⟩) Q.shown.length Q.shown.length,.slice (some ⟨m.lb,0,none⟩) Q.last.length Q.last.length,.slice (some ⟨m.wb,0,none⟩) Q.waits.length Q.waits.length,.int .i64 Q.done,.int .i64 Q.fuse,.bool Q.down] 72 (0,0)),(m.lb,.cells ((rows (l.set ((lisF Q.waits Q.waits.length).getD k 0).toNat (s.getD ((((lisF Q.waits Q.waits.length).getD k 0)).toNat) zb))).toArray) 25 (0,0)),(m.wb,.cells ((rb ws).toArray) 4 (0,0)),(ob,.cells ((((lisF Q.waits Q.waits.length).map Go.encZ) ++ oj).toArray) 3 (0,0))] ?_
     refine Ap [0,1,2,3,4,5,6,7,8,9,10,11,12] [dZ,dZ,dZ,(0,false,some (.slice (some ⟨m.sb,0,none⟩) Q.shown.length Q.shown.length)),dZ,dZ,dZ,dZ,(0,false,some (.slice (some ⟨m.lb,0,none⟩) Q.last.length Q.last.length)),dZ,dZ,(0,false,some (.agg (bv ((l.set ((lisF Q.waits Q.waits.length).getD k 0).toNat (s.getD ((((lisF Q.waits Q.waits.length).getD k 0)).toNat) zb)).getD ((((lisF Q.waits Q.waits.length).getD k 0)).toNat) zb))))] (some [0,1,5,7,8,9,48,49]) #[true,true,true,true,true,true,true,true,true,true,true,true,true,false] (.cons_cons _ (.cons _ (.cons_cons _ (.cons_cons _ (.cons_cons _ .slnil))))) 1 (fun S => [(∀ w1,S w1 → w1.cell? ⟨m.r,0,none⟩ = some (.slice (some ⟨m.sb,0,none⟩) Q.shown.length Q.shown.length)),(∀ w1,S w1 → w1.cell? ⟨m.r,1,none⟩ = some (.slice (some ⟨m.lb,0,none⟩) Q.last.length Q.last.length)),(0 ≤ ((lisF Q.waits Q.waits.length).getD k 0) ∧ ((lisF Q.waits Q.waits.length).getD k 0) < (Q.last.length : Int)),(∀ w1,S w1 → (loadVar 25 ⟨m.lb,((((lisF Q.waits Q.waits.length).getD k 0)).toNat * 512),none⟩).run Tryz.prog w1 = .ok (.agg (bv ((l.set ((lisF Q.waits Q.waits.length).getD k 0).toNat (s.getD ((((lisF Q.waits Q.waits.length).getD k 0)).toNat) zb)).getD ((((lisF Q.waits Q.waits.length).getD k 0)).toNat) zb))) w1),(0 ≤ ((lisF Q.waits Q.waits.length).getD k 0) ∧ ((lisF Q.waits Q.waits.length).getD k 0) < (Q.shown.length : Int))]) ⟨(fun w1 h => h.ocell 0 rfl rfl),(fun w1 h => h.ocell 0 rfl rfl),om,(fun w1 h => load_bytes Tryz.underlying25 rfl kr (h5l2.at' _) (fun j hj => sect_cell (n := 0) h5l2 (h.own _ (List.mem_of_getElem? (i := 1) rfl)) rfl (by first | omega | (rw [List.length_set]; omega)) j hj)),om,trivial⟩ ?_
     refine Ae 13 rfl 0  (Eff.storeN (b := m.sb) (off := ((((lisF Q.waits Q.waits.length).getD k 0)).toNat * 512)) (vs := (bv ((l.set ((lisF Q.waits Q.waits.length).getD k 0).toNat (s.getD ((((lisF Q.waits Q.waits.length).getD k 0)).toNat) zb)).getD ((((lisF Q.waits Q.waits.length).getD k 0)).toNat) zb))) (n := 512) rfl kr kr kr ((bv_size _).trans (h5l2.at' _)) (all_bv _) 1 (cs := (rows s).toArray) (e := 25) kr (by rw [List.size_toArray,rows_len h5s]; omega)) (fun _ _ => (.cons_cons _ (.cons _ (.cons_cons _ (.cons_cons _ (.cons_cons _ .slnil)))))) ?_
     rintro ⟨⟩ -
     refine CfgA.setO (congrArg (fun (xq : Array Value) => ([(m.r,.cells #[.slice (some ⟨m.sb,0,none⟩) Q.shown.length Q.shown.length,.slice (some ⟨m.lb,0,none⟩) Q.last.length Q.last.length,.slice (some ⟨m.wb,0,none⟩) Q.waits.length Q.waits.length,.int .i64 Q.done,.int .i64 Q.fuse,.bool Q.down] 72 (0,0)),(m.sb,.cells xq 25 (0,0)),(m.lb,.cells ((rows (l.set ((lisF Q.waits Q.waits.length).getD k 0).toNat (s.getD ((((lisF Q.waits Q.waits.length).getD k 0)).toNat) zb))).toArray) 25 (0,0)),(m.wb,.cells ((rb ws).toArray) 4 (0,0)),(ob,.cells ((((lisF Q.waits Q.waits.length).map Go.encZ) ++ oj).toArray) 3 (0,0))] : List (Nat × Obj))) (show _ = ((rows (s.set ((lisF Q.waits Q.waits.length).getD k 0).toNat ((l.set ((lisF Q.waits Q.waits.length).getD k 0).toNat (s.getD ((((lisF Q.waits Q.waits.length).getD k 0)).toNat) zb)).getD ((((lisF Q.waits Q.waits.length).getD k 0)).toNat) zb))).toArray) from rows_set h5s (h5l2.at' _) (by first | omega | (rw [List.length_set]; omega)) rfl)) ?_
     refine CfgA.done kr ?_
     refine Cg (Γ' := [(5,[],.int .i64 ((lisF Q.waits Q.waits.length).getD k 0)),(9,[],.int .i64 (k : Int)),(8,[],.int .i64 ((lisF Q.waits Q.waits.length).length : Int)),(7,[],.slice (some ⟨ob,0,none⟩) (lisF Q.waits Q.waits.length).length oc),(0,[],.pointer (some ⟨m.r,0,none⟩)),(1,[],.slice (some ⟨ib,off,none⟩) kept.length cap)]) ?_
     refine Cfg.begL rfl ?_
     refine Lp 6 [dZ,dZ,dZ,(0,false,some (.slice (some ⟨m.wb,0,none⟩) Q.waits.length Q.waits.length))] (some [0,1,7,8,9,55]) (fun S => [(∀ w1,S w1 → w1.cell? ⟨m.r,2,none⟩ = some (.slice (some ⟨m.wb,0,none⟩) Q.waits.length Q.waits.length)),(0 ≤ ((lisF Q.waits Q.waits.length).getD k 0) ∧ ((lisF Q.waits Q.waits.length).getD k 0) < (Q.waits.length : Int))]) ⟨(fun w1 h => h.ocell 0 rfl rfl),om,trivial⟩ ?_
     refine Le (Eff.store1 (b := m.wb) (off := (((lisF Q.waits Q.waits.length).getD k 0)).toNat) (v := .bool false) rfl kr kr rfl kr 3 (cs := (rb ws).toArray) (e := 4) kr (by rw [List.size_toArray,rb_len]; omega)) ?_
     rintro ⟨⟩ -
     refine CfgL.done rfl ?_
     refine Cg (Γ' := [(9,[],.int .i64 (k : Int)),(8,[],.int .i64 ((lisF Q.waits Q.waits.length).length : Int)),(7,[],.slice (some ⟨ob,0,none⟩) (lisF Q.waits Q.waits.length).length oc),(0,[],.pointer (some ⟨m.r,0,none⟩)),(1,[],.slice (some ⟨ib,off,none⟩) kept.length cap)]) ?_
     refine Rg [0,1,7,8,9] [] (fun _ => [((-9223372036854775808 : Int) ≤ ((k : Int) + 1) ∧ ((k : Int) + 1) ≤ 9223372036854775807)]) ⟨om,trivial⟩ ?_
     have hkt : kept.getD k false = true := by first | assumption | (rw [List.getD_eq_getElem?_getD,List.getElem?_eq_none om]; rfl)
     have hst := crl_step (kept := kept) (k := k) (is := (lisF Q.waits Q.waits.length)) om s l ws
     rw [htot,if_pos hkt] at hst
     refine Cfg.setO (congrArg (fun (xq : Array Value) => ([(m.r,.cells #[.slice (some ⟨m.sb,0,none⟩) Q.shown.length Q.shown.length,.slice (some ⟨m.lb,0,none⟩) Q.last.length Q.last.length,.slice (some ⟨m.wb,0,none⟩) Q.waits.length Q.waits.length,.int .i64 Q.done,.int .i64 Q.fuse,.bool Q.down] 72 (0,0)),(m.sb,.cells ((rows (s.set ((lisF Q.waits Q.waits.length).getD k 0).toNat ((l.set ((lisF Q.waits Q.waits.length).getD k 0).toNat (s.getD ((((lisF Q.waits Q.waits.length).getD k 0)).toNat) zb)).getD ((((lisF Q.waits Q.waits.length).getD k 0)).toNat) zb))).toArray) 25 (0,0)),(m.lb,.cells ((rows (l.set ((lisF Q.waits Q.waits.length).getD k 0).toNat (s.getD ((((lisF Q.waits Q.waits.length).getD k 0)).toNat) zb))).toArray) 25 (0,0)),(m.wb,.cells xq 4 (0,0)),(ob,.cells ((((lisF Q.waits Q.waits.length).map Go.encZ) ++ oj).toArray) 3 (0,0))] : List (Nat × Obj))) (show _ = ((rb (ws.set ((lisF Q.waits Q.waits.length).getD k 0).toNat false)).toArray) from by rw [rb_set])) ?_
     refine Cfg.again rfl (k + 1,(s.set ((lisF Q.waits Q.waits.length).getD k 0).toNat ((l.set ((lisF Q.waits Q.waits.length).getD k 0).toNat (s.getD ((((lisF Q.waits Q.waits.length).getD k 0)).toNat) zb)).getD ((((lisF Q.waits Q.waits.length).getD k 0)).toNat) zb)),(l.set ((lisF Q.waits Q.waits.length).getD k 0).toNat (s.getD ((((lisF Q.waits Q.waits.length).getD k 0)).toNat) zb)),(ws.set ((lisF Q.waits Q.waits.length).getD k 0).toNat false)) ⟨by omega,h5s.set (h5l2.at' _) _,h5l2,by rw [List.length_set]; exact hls,by rw [List.length_set]; exact hll,by rw [List.length_set]; exact hlw,hst.symm⟩ (by show (lisF Q.waits Q.waits.length).length - (k + 1) < (lisF Q.waits Q.waits.length).length - k; omega) (Conv.mk kr) (List.Sublist.refl _)
    ·have c3 : ((kept.getD k false) = false) := c3r
     refine Cfg.begA rfl kr [(m.r,.cells #[.slice (some ⟨m.sb,0,none⟩) Q.shown.length Q.shown.length,.slice (some ⟨m.lb,0,none⟩) Q.last.length Q.last.length,.slice (some ⟨m.wb,0,none⟩) Q.waits.length Q.waits.length,.int .i64 Q.done,.int .i64 Q.fuse,.bool Q.down] 72 (0,0)),(m.lb,.cells ((rows l).toArray) 25 (0,0)),(m.wb,.cells ((rb ws).toArray) 4 (0,0)),(ob,.cells ((((lisF Q.waits Q.waits.length).map Go.encZ) ++ oj).toArray) 3 (0,0))] ?_
     refine Ap [0,1,2,3,4,5,6,7,8,9,10,11,12] [dZ,dZ,dZ,(0,false,some (.slice (some ⟨m.sb,0,none⟩) Q.shown.length Q.shown.length)),dZ,dZ,dZ,dZ,(0,false,some (.slice (some ⟨m.lb,0,none⟩) Q.last.length Q.last.length)),dZ,dZ,(0,false,some (.agg (bv (l.getD ((((lisF Q.waits Q.waits.length).getD k 0)).toNat) zb))))] (some [0,1,5,7,8,9,48,49]) #[true,true,true,true,true,true,true,true,true,true,true,true,true,false] (.cons_cons _ (.cons _ (.cons_cons _ (.cons_cons _ (.cons_cons _ .slnil))))) 1 (fun S => [(∀ w1,S w1 → w1.cell? ⟨m.r,0,none⟩ = some (.slice (some ⟨m.sb,0,none⟩) Q.shown.length Q.shown.length)),(∀ w1,S w1 → w1.cell? ⟨m.r,1,none⟩ = some (.slice (some ⟨m.lb,0,none⟩) Q.last.length Q.last.length)),(0 ≤ ((lisF Q.waits Q.waits.length).getD k 0) ∧ ((lisF Q.waits Q.waits.length).getD k 0) < (Q.last.length : Int)),(∀ w1,S w1 → (loadVar 25 ⟨m.lb,((((lisF Q.waits Q.waits.length).getD k 0)).toNat * 512),none⟩).run Tryz.prog w1 = .ok (.agg (bv (l.getD ((((lisF Q.waits Q.waits.length).getD k 0)).toNat) zb))) w1),(0 ≤ ((lisF Q.waits Q.waits.length).getD k 0) ∧ ((lisF Q.waits Q.waits.length).getD k 0) < (Q.shown.length : Int))]) ⟨(fun w1 h => h.ocell 0 rfl rfl),(fun w1 h => h.ocell 0 rfl rfl),om,(fun w1 h => load_bytes Tryz.underlying25 rfl kr (h5l.at' _) (fun j hj => sect_cell (n := 0) h5l (h.own _ (List.mem_of_getElem? (i := 1) rfl)) rfl (by first | omega | (rw [List.length_set]; omega)) j hj)),om,trivial⟩ ?_
     refine Ae 13 rfl 0  (Eff.storeN (b := m.sb) (off := ((((lisF Q.waits Q.waits.length).getD k 0)).toNat * 512)) (vs := (bv (l.getD ((((lisF Q.waits Q.waits.length).getD k 0)).toNat) zb))) (n := 512) rfl kr kr kr ((bv_size _).trans (h5l.at' _)) (all_bv _) 1 (cs := (rows s).toArray) (e := 25) kr (by rw [List.size_toArray,rows_len h5s]; omega)) (fun _ _ => (.cons_cons _ (.cons _ (.cons_cons _ (.cons_cons _ (.cons_cons _ .slnil)))))) ?_
     rintro ⟨⟩ -
     refine CfgA.setO (congrArg (fun (xq : Array Value) => ([(m.r,.cells #[.slice (some ⟨m.sb,0,none⟩) Q.shown.length Q.shown.length,.slice (some ⟨m.lb,0,none⟩) Q.last.length Q.last.length,.slice (some ⟨m.wb,0,none⟩) Q.waits.length Q.waits.length,.int .i64 Q.done,.int .i64 Q.fuse,.bool Q.down] 72 (0,0)),(m.sb,.cells xq 25 (0,0)),(m.lb,.cells ((rows l).toArray) 25 (0,0)),(m.wb,.cells ((rb ws).toArray) 4 (0,0)),(ob,.cells ((((lisF Q.waits Q.waits.length).map Go.encZ) ++ oj).toArray) 3 (0,0))] : List (Nat × Obj))) (show _ = ((rows (s.set ((lisF Q.waits Q.waits.length).getD k 0).toNat (l.getD ((((lisF Q.waits Q.waits.length).getD k 0)).toNat) zb))).toArray) from rows_set h5s (h5l.at' _) (by first | omega | (rw [List.length_set]; omega)) rfl)) ?_
     refine CfgA.done kr ?_
     refine Cg (Γ' := [(5,[],.int .i64 ((lisF Q.waits Q.waits.length).getD k 0)),(9,[],.int .i64 (k : Int)),(8,[],.int .i64 ((lisF Q.waits Q.waits.length).length : Int)),(7,[],.slice (some ⟨ob,0,none⟩) (lisF Q.waits Q.waits.length).length oc),(0,[],.pointer (some ⟨m.r,0,none⟩)),(1,[],.slice (some ⟨ib,off,none⟩) kept.length cap)]) ?_
     refine Cfg.begL rfl ?_
     refine Lp 6 [dZ,dZ,dZ,(0,false,some (.slice (some ⟨m.wb,0,none⟩) Q.waits.length Q.waits.length))] (some [0,1,7,8,9,55]) (fun S => [(∀ w1,S w1 → w1.cell? ⟨m.r,2,none⟩ = some (.slice (some ⟨m.wb,0,none⟩) Q.waits.length Q.waits.length)),(0 ≤ ((lisF Q.waits Q.waits.length).getD k 0) ∧ ((lisF Q.waits Q.waits.length).getD k 0) < (Q.waits.length : Int))]) ⟨(fun w1 h => h.ocell 0 rfl rfl),om,trivial⟩ ?_
     refine Le (Eff.store1 (b := m.wb) (off := (((lisF Q.waits Q.waits.length).getD k 0)).toNat) (v := .bool false) rfl kr kr rfl kr 3 (cs := (rb ws).toArray) (e := 4) kr (by rw [List.size_toArray,rb_len]; omega)) ?_
     rintro ⟨⟩ -
     refine CfgL.done rfl ?_
     refine Cg (Γ' := [(9,[],.int .i64 (k : Int)),(8,[],.int .i64 ((lisF Q.waits Q.waits.length).length : Int)),(7,[],.slice (some ⟨ob,0,none⟩) (lisF Q.waits Q.waits.length).length oc),(0,[],.pointer (some ⟨m.r,0,none⟩)),(1,[],.slice (some ⟨ib,off,none⟩) kept.length cap)]) ?_
     refine Rg [0,1,7,8,9] [] (fun _ => [((-9223372036854775808 : Int) ≤ ((k : Int) + 1) ∧ ((k : Int) + 1) ≤ 9223372036854775807)]) ⟨om,trivial⟩ ?_
     have hkt : kept.getD k false = false := by first | assumption | (rw [List.getD_eq_getElem?_getD,List.getElem?_eq_none om]; rfl)
     have hst := crl_step (kept := kept) (k := k) (is := (lisF Q.waits Q.waits.length)) om s l ws
     rw [htot,if_neg (by rw [hkt]; decide)] at hst
     refine Cfg.setO (congrArg (fun (xq : Array Value) => ([(m.r,.cells #[.slice (some ⟨m.sb,0,none⟩) Q.shown.length Q.shown.length,.slice (some ⟨m.lb,0,none⟩) Q.last.length Q.last.length,.slice (some ⟨m.wb,0,none⟩) Q.waits.length Q.waits.length,.int .i64 Q.done,.int .i64 Q.fuse,.bool Q.down] 72 (0,0)),(m.sb,.cells ((rows (s.set ((lisF Q.waits Q.waits.length).getD k 0).toNat (l.getD ((((lisF Q.waits Q.waits.length).getD k 0)).toNat) zb))).toArray) 25 (0,0)),(m.lb,.cells ((rows l).toArray) 25 (0,0)),(m.wb,.cells xq 4 (0,0)),(ob,.cells ((((lisF Q.waits Q.waits.length).map Go.encZ) ++ oj).toArray) 3 (0,0))] : List (Nat × Obj))) (show _ = ((rb (ws.set ((lisF Q.waits Q.waits.length).getD k 0).toNat false)).toArray) from by rw [rb_set])) ?_
     refine Cfg.again rfl (k + 1,(s.set ((lisF Q.waits Q.waits.length).getD k 0).toNat (l.getD ((((lisF Q.waits Q.waits.length).getD k 0)).toNat) zb)),l,(ws.set ((lisF Q.waits Q.waits.length).getD k 0).toNat false)) ⟨by omega,h5s.set (h5l.at' _) _,h5l,by rw [List.length_set]; exact hls,hll,by rw [List.length_set]; exact hlw,hst.symm⟩ (by show (lisF Q.waits Q.waits.length).length - (k + 1) < (lisF Q.waits Q.waits.length).length - k; omega) (Conv.mk kr) (List.Sublist.refl _)
   ·have c2k : (decide ((k : Int) < (kept.length : Int))) = false := (by simpa using c2)
    have c2q := (of_decide_eq_false c2k)
    refine CfgL.known 18 (b := (decide ((k : Int) < (kept.length : Int)))) kr false c2k ?_
    refine Lp 5 [(2,false,none),(2,false,none),(2,false,none),(2,false,none)] (some [0,1,5,7,8,9,23]) (fun _ => [((.bool false : Value) ≠ .bool true),((.bool false : Value) ≠ .bool true),((.bool false : Value) ≠ .bool true),((.bool false : Value) ≠ .bool true)]) ⟨(by simp),(by simp),(by simp),(by simp),trivial⟩ ?_
    refine CfgL.done rfl ?_
    refine Cfg.condF rfl (b := false) kr rfl ?_
    refine Cfg.begA rfl kr [(m.r,.cells #[.slice (some ⟨m.sb,0,none⟩) Q.shown.length Q.shown.length,.slice (some ⟨m.lb,0,none⟩) Q.last.length Q.last.length,.slice (some ⟨m.wb,0,none⟩) Q.waits.length Q.waits.length,.int .i64 Q.done,.int .i64 Q.fuse,.bool Q.down] 72 (0,0)),(m.lb,.cells ((rows l).toArray) 25 (0,0)),(m.wb,.cells ((rb ws).toArray) 4 (0,0)),(ob,.cells ((((lisF Q.waits Q.waits.length).map Go.encZ) ++ oj).toArray) 3 (0,0))] ?_
    refine Ap [0,1,2,3,4,5,6,7,8,9,10,11,12] [dZ,dZ,dZ,(0,false,some (.slice (some ⟨m.sb,0,none⟩) Q.shown.length Q.shown.length)),dZ,dZ,dZ,dZ,(0,false,some (.slice (some ⟨m.lb,0,none⟩) Q.last.length Q.last.length)),dZ,dZ,(0,false,some (.agg (bv (l.getD ((((lisF Q.waits Q.waits.length).getD k 0)).toNat) zb))))] (some [0,1,5,7,8,9,48,49]) #[true,true,true,true,true,true,true,true,true,true,true,true,true,false] (.cons_cons _ (.cons _ (.cons_cons _ (.cons_cons _ (.cons_cons _ .slnil))))) 1 (fun S => [(∀ w1,S w1 → w1.cell? ⟨m.r,0,none⟩ = some (.slice (some ⟨m.sb,0,none⟩) Q.shown.length Q.shown.length)),(∀ w1,S w1 → w1.cell? ⟨m.r,1,none⟩ = some (.slice (some ⟨m.lb,0,none⟩) Q.last.length Q.last.length)),(0 ≤ ((lisF Q.waits Q.waits.length).getD k 0) ∧ ((lisF Q.waits Q.waits.length).getD k 0) < (Q.last.length : Int)),(∀ w1,S w1 → (loadVar 25 ⟨m.lb,((((lisF Q.waits Q.waits.length).getD k 0)).toNat * 512),none⟩).run Tryz.prog w1 = .ok (.agg (bv (l.getD ((((lisF Q.waits Q.waits.length).getD k 0)).toNat) zb))) w1),(0 ≤ ((lisF Q.waits Q.waits.length).getD k 0) ∧ ((lisF Q.waits Q.waits.length).getD k 0) < (Q.shown.length : Int))]) ⟨(fun w1 h => h.ocell 0 rfl rfl),(fun w1 h => h.ocell 0 rfl rfl),om,(fun w1 h => load_bytes Tryz.underlying25 rfl kr (h5l.at' _) (fun j hj => sect_cell (n := 0) h5l (h.own _ (List.mem_of_getElem? (i := 1) rfl)) rfl (by first | omega | (rw [List.length_set]; omega)) j hj)),om,trivial⟩ ?_
    refine Ae 13 rfl 0  (Eff.storeN (b := m.sb) (off := ((((lisF Q.waits Q.waits.length).getD k 0)).toNat * 512)) (vs := (bv (l.getD ((((lisF Q.waits Q.waits.length).getD k 0)).toNat) zb))) (n := 512) rfl kr kr kr ((bv_size _).trans (h5l.at' _)) (all_bv _) 1 (cs := (rows s).toArray) (e := 25) kr (by rw [List.size_toArray,rows_len h5s]; omega)) (fun _ _ => (.cons_cons _ (.cons _ (.cons_cons _ (.cons_cons _ (.cons_cons _ .slnil)))))) ?_
    rintro ⟨⟩ -
    refine CfgA.setO (congrArg (fun (xq : Array Value) => ([(m.r,.cells #[.slice (some ⟨m.sb,0,none⟩) Q.shown.length Q.shown.length,.slice (some ⟨m.lb,0,none⟩) Q.last.length Q.last.length,.slice (some ⟨m.wb,0,none⟩) Q.waits.length Q.waits.length,.int .i64 Q.done,.int .i64 Q.fuse,.bool Q.down] 72 (0,0)),(m.sb,.cells xq 25 (0,0)),(m.lb,.cells ((rows l).toArray) 25 (0,0)),(m.wb,.cells ((rb ws).toArray) 4 (0,0)),(ob,.cells ((((lisF Q.waits Q.waits.length).map Go.encZ) ++ oj).toArray) 3 (0,0))] : List (Nat × Obj))) (show _ = ((rows (s.set ((lisF Q.waits Q.waits.length).getD k 0).toNat (l.getD ((((lisF Q.waits Q.waits.length).getD k 0)).toNat) zb))).toArray) from rows_set h5s (h5l.at' _) (by first | omega | (rw [List.length_set]; omega)) rfl)) ?_
    refine CfgA.done kr ?_
    refine Cg (Γ' := [(5,[],.int .i64 ((lisF Q.waits Q.waits.length).getD k 0)),(9,[],.int .i64 (k : Int)),(8,[],.int .i64 ((lisF Q.waits Q.waits.length).length : Int)),(7,[],.slice (some ⟨ob,0,none⟩) (lisF Q.waits Q.waits.length).length oc),(0,[],.pointer (some ⟨m.r,0,none⟩)),(1,[],.slice la kept.length cap)]) ?_
    refine Cfg.begL rfl ?_
    refine Lp 6 [dZ,dZ,dZ,(0,false,some (.slice (some ⟨m.wb,0,none⟩) Q.waits.length Q.waits.length))] (some [0,1,7,8,9,55]) (fun S => [(∀ w1,S w1 → w1.cell? ⟨m.r,2,none⟩ = some (.slice (some ⟨m.wb,0,none⟩) Q.waits.length Q.waits.length)),(0 ≤ ((lisF Q.waits Q.waits.length).getD k 0) ∧ ((lisF Q.waits Q.waits.length).getD k 0) < (Q.waits.length : Int))]) ⟨(fun w1 h => h.ocell 0 rfl rfl),om,trivial⟩ ?_
    refine Le (Eff.store1 (b := m.wb) (off := (((lisF Q.waits Q.waits.length).getD k 0)).toNat) (v := .bool false) rfl kr kr rfl kr 3 (cs := (rb ws).toArray) (e := 4) kr (by rw [List.size_toArray,rb_len]; omega)) ?_
    rintro ⟨⟩ -
    refine CfgL.done rfl ?_
    refine Cg (Γ' := [(9,[],.int .i64 (k : Int)),(8,[],.int .i64 ((lisF Q.waits Q.waits.length).length : Int)),(7,[],.slice (some ⟨ob,0,none⟩) (lisF Q.waits Q.waits.length).length oc),(0,[],.pointer (some ⟨m.r,0,none⟩)),(1,[],.slice la kept.length cap)]) ?_
    refine Rg [0,1,7,8,9] [] (fun _ => [((-9223372036854775808 : Int) ≤ ((k : Int) + 1) ∧ ((k : Int) + 1) ≤ 9223372036854775807)]) ⟨om,trivial⟩ ?_
    have hkt : kept.getD k false = false := by first | assumption | (rw [List.getD_eq_getElem?_getD,List.getElem?_eq_none om]; rfl)
    have hst := crl_step (kept := kept) (k := k) (is := (lisF Q.waits Q.waits.length)) om s l ws
    rw [htot,if_neg (by rw [hkt]; decide)] at hst
    refine Cfg.setO (congrArg (fun (xq : Array Value) => ([(m.r,.cells #[.slice (some ⟨m.sb,0,none⟩) Q.shown.length Q.shown.length,.slice (some ⟨m.lb,0,none⟩) Q.last.length Q.last.length,.slice (some ⟨m.wb,0,none⟩) Q.waits.length Q.waits.length,.int .i64 Q.done,.int .i64 Q.fuse,.bool Q.down] 72 (0,0)),(m.sb,.cells ((rows (s.set ((lisF Q.waits Q.waits.length).getD k 0).toNat (l.getD ((((lisF Q.waits Q.waits.length).getD k 0)).toNat) zb))).toArray) 25 (0,0)),(m.lb,.cells ((rows l).toArray) 25 (0,0)),(m.wb,.cells xq 4 (0,0)),(ob,.cells ((((lisF Q.waits Q.waits.length).map Go.encZ) ++ oj).toArray) 3 (0,0))] : List (Nat × Obj))) (show _ = ((rb (ws.set ((lisF Q.waits Q.waits.length).getD k 0).toNat false)).toArray) from by rw [rb_set])) ?_
    refine Cfg.again rfl (k + 1,(s.set ((lisF Q.waits Q.waits.length).getD k 0).toNat (l.getD ((((lisF Q.waits Q.waits.length).getD k 0)).toNat) zb)),l,(ws.set ((lisF Q.waits Q.waits.length).getD k 0).toNat false)) ⟨by omega,h5s.set (h5l.at' _) _,h5l,by rw [List.length_set]; exact hls,hll,by rw [List.length_set]; exact hlw,hst.symm⟩ (by show (lisF Q.waits Q.waits.length).length - (k + 1) < (lisF Q.waits Q.waits.length).length - k; omega) (Conv.mk kr) (List.Sublist.refl _)
  ·have c1 := (of_decide_eq_false c1r)
   refine Cfg.begL rfl ?_
   refine Lp 3 [] (some [0,59]) n0 trivial ?_
   refine Le (Eff.store1 (b := m.r) (off := 5) (v := .bool false) rfl kr kr rfl kr 0 (cs := #[.slice (some ⟨m.sb,0,none⟩) Q.shown.length Q.shown.length,.slice (some ⟨m.lb,0,none⟩) Q.last.length Q.last.length,.slice (some ⟨m.wb,0,none⟩) Q.waits.length Q.waits.length,.int .i64 Q.done,.int .i64 Q.fuse,.bool Q.down]) (e := 72) kr (by simp)) ?_
   rintro ⟨⟩ -
   refine CfgL.done rfl ?_
   refine Cg (Γ' := [(0,[],.pointer (some ⟨m.r,0,none⟩))]) ?_
   refine Cfg.begL rfl ?_
   refine Lp 3 [] (some [62]) n0 trivial ?_
   refine Le (Eff.store1 (b := m.r) (off := 4) (v := .int .i64 (-1)) rfl kr kr rfl kr 0 (cs := (#[.slice (some ⟨m.sb,0,none⟩) Q.shown.length Q.shown.length,.slice (some ⟨m.lb,0,none⟩) Q.last.length Q.last.length,.slice (some ⟨m.wb,0,none⟩) Q.waits.length Q.waits.length,.int .i64 Q.done,.int .i64 Q.fuse,.bool Q.down].setIfInBounds 5 (.bool false))) (e := 72) kr (by simp)) ?_
   rintro ⟨⟩ -
   refine CfgL.done rfl ?_
   refine Cg (Γ' := []) ?_
   refine Cfg.fin rfl (rs := []) rfl [] trivial (fun w1 hp => ?_)
   have hk2 : k = (lisF Q.waits Q.waits.length).length := by omega
   rw [List.drop_eq_nil_of_le om,crl] at htot
   have h8 : HP w [m.r,m.sb,m.lb,m.wb] Rl ([(m.r,.cells ((#[.slice (some ⟨m.sb,0,none⟩) Q.shown.length Q.shown.length,.slice (some ⟨m.lb,0,none⟩) Q.last.length Q.last.length,.slice (some ⟨m.wb,0,none⟩) Q.waits.length Q.waits.length,.int .i64 Q.done,.int .i64 Q.fuse,.bool Q.down].setIfInBounds 5 (.bool false)).setIfInBounds 4 (.int .i64 (-1))) 72 (0,0)),(m.sb,.cells ((rows s).toArray) 25 (0,0)),(m.lb,.cells ((rows l).toArray) 25 (0,0)),(m.wb,.cells ((rb ws).toArray) 4 (0,0))] ++ (Own.o 3 ((lisF Q.waits Q.waits.length).map Go.encZ) o ++ [])) w1 := hp
   have h9 := h8.sub (List.sublist_append_left _ _)
   rw [← hls,← hll,← hlw] at h9
   have e4 : s = (crl kept 0 (lisF Q.waits Q.waits.length) Q.shown Q.last Q.waits).1 := congrArg (·.1) htot
   have e5 : l = (crl kept 0 (lisF Q.waits Q.waits.length) Q.shown Q.last Q.waits).2.1 := congrArg (·.2.1) htot
   have e6 : ws = (crl kept 0 (lisF Q.waits Q.waits.length) Q.shown Q.last Q.waits).2.2 := congrArg (·.2.2) htot
   rw [e4,e5,e6] at h9
   exact ⟨rfl,Rl,h9⟩
end Go.Proofs.YtohjpggjgomgoaaGreatDoor
namespace Go.Proofs.YtohjpggjgomgoaaGreatDoor
open K
set_option linter.unusedVariables false
theorem ext_getD {α : Type} {d : α} {l1 l2 : List α} (h : l1.length = l2.length) (hg : ∀ i,i < l1.length → l1.getD i d = l2.getD i d) : l1 = l2 := by
 apply List.ext_getElem h
 intro i h1 h2
 have := hg i h1
 rw [List.getD_eq_getElem?_getD,List.getD_eq_getElem?_getD,List.getElem?_eq_getElem h1,List.getElem?_eq_getElem h2] at this
 exact this
theorem getD_set {α : Type} {d : α} (l : List α) (i j : Nat) (v : α) (h : i < l.length) : (l.set i v).getD j d = if j = i then v else l.getD j d := by
 rw [List.getD_eq_getElem?_getD,List.getElem?_set,List.getD_eq_getElem?_getD]
 by_cases hij : i = j
 ·subst hij; simp [h]
 ·rw [if_neg hij,if_neg (fun e => hij e.symm)]
theorem getD_mapr {α : Type} {d : α} (n i : Nat) (f : Nat → α) (h : i < n) : ((List.range n).map f).getD i d = f i := by
 rw [List.getD_eq_getElem?_getD,List.getElem?_map,List.getElem?_range h]; rfl
def toR (D : DK) : RK := { shown := (List.range D.last.length).map fun i : Nat => shown D (i : Int),last := D.last,waits := (List.range D.last.length).map fun i : Nat => (wget D.wait (i : Int)).isSome,done := D.steps,fuse := D.fuse,down := D.down }
theorem toR_sl (D : DK) : (toR D).shown.length = D.last.length := by simp [toR]
theorem toR_tl (D : DK) : (toR D).waits.length = D.last.length := by simp [toR]
theorem toR_s {D : DK} {i : Nat} (h : i < D.last.length) : (toR D).shown.getD i zb = shown D (i : Int) := getD_mapr _ _ _ h
theorem toR_w {D : DK} {i : Nat} (h : i < D.last.length) : (toR D).waits.getD i false = (wget D.wait (i : Int)).isSome := getD_mapr _ _ _ h
theorem toR_ok {D : DK} (h : DG D) : RG (toR D) :=
 ⟨fun b hb => by
  obtain ⟨i,_,rfl⟩ := List.mem_map.1 hb
  exact shown_len h _,h.w,h.n,toR_sl D,toR_tl D,h.f⟩
theorem toR_ext {Q : RK} {D : DK} (h1 : Q.shown.length = D.last.length) (h2 : Q.waits.length = D.last.length) (hs : ∀ i,i < D.last.length → Q.shown.getD i zb = shown D (i : Int)) (hw : ∀ i,i < D.last.length → Q.waits.getD i false = (wget D.wait (i : Int)).isSome) (hl : Q.last = D.last) (hd : Q.done = D.steps) (hf : Q.fuse = D.fuse) (hn : Q.down = D.down) : Q = toR D := by
 have e1 : Q.shown = (toR D).shown := ext_getD (d := zb) (by rw [h1,toR_sl]) (fun i hi => by rw [toR_s om]; exact hs i om)
 have e2 : Q.waits = (toR D).waits := ext_getD (d := false) (by rw [h2,toR_tl]) (fun i hi => by rw [toR_w om]; exact hw i om)
 cases Q
 simp only at e1 e2 hl hd hf hn
 subst e1 e2 hl hd hf hn
 rfl
theorem rep_getD {α : Type} {d v : α} {n i : Nat} (h : i < n) : (List.replicate n v).getD i d = v := by
 rw [List.getD_eq_getElem?_getD,List.getElem?_replicate,if_pos h]; rfl
theorem toR_new (n : Nat) : ({ shown := List.replicate n zb,last := List.replicate n zb,waits := List.replicate n false,done := 0,fuse := -1,down := false } : RK) = toR (newD n) := by
 have hn : (newD n).last.length = n := List.length_replicate
 refine toR_ext ?_ ?_ (fun i hi => ?_) (fun i hi => ?_) rfl rfl rfl rfl
 ·rw [hn]; exact List.length_replicate
 ·rw [hn]; exact List.length_replicate
 ·rw [hn] at hi
  show (List.replicate n zb).getD i zb = (List.replicate n zb).getD ((i : Int)).toNat zb
  rw [Int.toNat_natCast]
 ·rw [hn] at hi
  show (List.replicate n false).getD i false = false
  exact rep_getD hi
theorem toR_readE (D : DK) (q : Int) : rReadE (toR D) q = fltF D q := by
 unfold rReadE fltF
 show (if D.down = true then (13 : Int) else if q < 0 ∨ q ≥ (D.last.length : Int) then 2 else 0) = _
 split
 ·rfl
 ·by_cases h : 0 ≤ q ∧ q < (D.last.length : Int)
  ·rw [if_neg om,if_pos h]
  ·rw [if_pos om,if_neg h]
theorem toR_readB (D : DK) (q : Int) : rReadB (toR D) q = readF D q := by
 unfold rReadB readF
 rw [toR_readE]
 split
 ·rename_i h
  have h1 := fltF_in h
  rw [toR_s om,Int.toNat_of_nonneg h1.1]
 ·rfl
theorem toR_step {D : DK} (h : D.down = false) : stF (toR D) = ((spF D).1,toR (spF D).2) := by
 have e : spF D = if D.fuse = 0 then (false,{ D with down := true }) else (true,{ D with fuse := if D.fuse > 0 then D.fuse - 1 else D.fuse,steps := D.steps + 1 }) := by
  unfold spF; rw [if_neg (by rw [h]; decide)]
 rw [e]
 unfold stF
 by_cases h0 : D.fuse = 0
 ·rw [if_pos (show (toR D).fuse = 0 from h0),if_pos h0]; rfl
 ·rw [if_neg (show ¬ (toR D).fuse = 0 from h0),if_neg h0]; rfl
theorem wget_wset_some (W : Wt) (q i : Int) (b : List UInt8) : (wget (wset W q b) i).isSome = if i = q then true else (wget W i).isSome := by
 rw [wget_set]; split <;> rfl
theorem toR_write {D : DK} (h : DG D) (q : Int) (b : List UInt8) : rWriteF (toR D) q b = ((writeF D q b).1,toR (writeF D q b).2) := by
 unfold rWriteF writeF
 rw [toR_readE]
 by_cases h0 : fltF D q ≠ 0
 ·rw [if_pos h0,if_pos h0]
 ·rw [if_neg h0,if_neg h0]
  have h0 : fltF D q = 0 := Decidable.not_not.1 h0
  have hq := fltF_in h0
  have hdn : D.down = false := by
   cases hd : D.down with
   | false => rfl
   | true => unfold fltF at h0; rw [if_pos hd] at h0; cases h0
  rw [toR_step hdn]
  show (if (spF D).1 = true then _ else _) = _
  by_cases h1 : (spF D).1 = true
  ·rw [if_pos h1,if_pos h1]
   refine congrArg (Prod.mk (0 : Int)) (toR_ext ?_ ?_ (fun i hi => ?_) (fun i hi => ?_) rfl rfl rfl rfl)
   ·show ((toR D).shown.set _ _).length = (spF D).2.last.length
    rw [List.length_set,toR_sl,spF_last]
   ·show ((toR D).waits.set _ _).length = (spF D).2.last.length
    rw [List.length_set,toR_tl,spF_last]
   ·have hi' : i < D.last.length := by rw [← spF_last D]; exact hi
    show ((toR D).shown.set q.toNat b).getD i zb = (wget (wset (spF D).2.wait q b) (i : Int)).getD ((spF D).2.last.getD ((i : Int)).toNat zb)
    rw [getD_set _ _ _ _ (by rw [toR_sl]; omega),wget_set,spF_wait,spF_last]
    by_cases hx : i = q.toNat
    ·rw [if_pos hx,if_pos om]; rfl
    ·rw [if_neg hx,if_neg om,toR_s hi']; rfl
   ·have hi' : i < D.last.length := by rw [← spF_last D]; exact hi
    show ((toR D).waits.set q.toNat true).getD i false = (wget (wset (spF D).2.wait q b) (i : Int)).isSome
    rw [getD_set _ _ _ _ (by rw [toR_tl]; omega),wget_wset_some,spF_wait]
    by_cases hx : i = q.toNat
    ·rw [if_pos hx,if_pos om]
    ·rw [if_neg hx,if_neg om,toR_w hi']
  ·rw [if_neg h1,if_neg h1]
theorem wget_mem_iff (W : Wt) (k : Int) : (wget W k).isSome = true ↔ k ∈ W.map (·.1) := by
 induction W with
 | nil => simp [wget]
 | cons p W ih =>
  unfold wget
  rw [List.map_cons,List.mem_cons]
  split
  ·rename_i h; simp [h]
  ·rename_i h; rw [ih]; simp [h]
theorem setl_notin (p : Nat → Bool) (W : Wt) : ∀ (ks : List Int) (k : Nat) (L : List (List UInt8)) (i : Nat),(∀ q ∈ ks,0 ≤ q) → ¬ (i : Int) ∈ ks → (setl p W k ks L).getD i zb = L.getD i zb
 | [],_,_,_,_,_ => rfl
 | q :: ks,k,L,i,h0,hn => by
  have hq := h0 q (List.mem_cons_self ..)
  have hne : i ≠ q.toNat := fun e => hn (by rw [e,Int.toNat_of_nonneg hq]; exact List.mem_cons_self ..)
  rw [setl,setl_notin p W ks (k + 1) _ i (fun x hx => h0 x (List.mem_cons_of_mem _ hx)) (fun h => hn (List.mem_cons_of_mem _ h))]
  split
  ·rw [List.getD_eq_getElem?_getD,List.getElem?_set,if_neg (fun e => hne e.symm),List.getD_eq_getElem?_getD]
  ·rfl
theorem setl_true (W : Wt) : ∀ (ks : List Int) (k : Nat) (L : List (List UInt8)) (i : Nat),(∀ q ∈ ks,0 ≤ q ∧ q < (L.length : Int)) → (setl (fun _ => true) W k ks L).getD i zb = if (i : Int) ∈ ks then (wget W (i : Int)).getD zb else L.getD i zb
 | [],_,_,_,_ => by simp [setl]
 | q :: ks,k,L,i,h0 => by
  have hq := h0 q (List.mem_cons_self ..)
  rw [setl,if_pos rfl,setl_true W ks (k + 1) _ i (fun x hx => by rw [List.length_set]; exact h0 x (List.mem_cons_of_mem _ hx))]
  by_cases h1 : (i : Int) ∈ ks
  ·rw [if_pos h1,if_pos (List.mem_cons_of_mem _ h1)]
  ·rw [if_neg h1,getD_set _ _ _ _ om]
   by_cases h2 : i = q.toNat
   ·rw [if_pos h2,if_pos (by rw [h2,Int.toNat_of_nonneg hq.1]; exact List.mem_cons_self ..),h2,Int.toNat_of_nonneg hq.1]
   ·rw [if_neg h2,if_neg (fun h => by rcases List.mem_cons.1 h with h | h; omega; exact h1 h)]
theorem keys_rng {D : DK} (h : DG D) : ∀ q ∈ keysW D.wait,0 ≤ q ∧ q < (D.last.length : Int) := fun q hq => by
 obtain ⟨p,hp,rfl⟩ := List.mem_map.1 ((keys_mem _ _).1 hq)
 exact h.k p hp
theorem shown_none {D : DK} {q : Int} (h : ¬ q ∈ keysW D.wait) : wget D.wait q = none := by
 cases hg : wget D.wait q with
 | none => rfl
 | some b => exact absurd ((keys_mem _ _).2 ((wget_mem_iff _ _).1 (by rw [hg]; rfl))) h
theorem settle_shown {D : DK} (p : Nat → Bool) (i : Nat) : shown (settleF p D) (i : Int) = (settleF p D).last.getD i zb := by
 show (wget [] (i : Int)).getD ((settleF p D).last.getD ((i : Int)).toNat zb) = _
 rw [Int.toNat_natCast]; rfl
theorem bar_shown {D : DK} (h : DG D) : (settleF (fun _ => true) D).last = (toR D).shown := by
 refine ext_getD (d := zb) ?_ (fun i hi => ?_)
 ·rw [toR_sl]; exact setl_len _ _ _ _ _
 ·have hi : i < D.last.length := by have := setl_len (fun _ => true) D.wait (keysW D.wait) 0 D.last; exact this ▸ hi
  rw [toR_s hi]
  show (setl (fun _ => true) D.wait 0 (keysW D.wait) D.last).getD i zb = _
  rw [setl_true _ _ _ _ _ (keys_rng h)]
  unfold shown
  split
  ·rename_i hm
   have := (wget_mem_iff D.wait (i : Int)).2 ((keys_mem _ _).1 hm)
   cases hg : wget D.wait (i : Int) with
   | none => rw [hg] at this; cases this
   | some b => rfl
  ·rename_i hm
   rw [shown_none hm,Int.toNat_natCast]; rfl
theorem toR_bar {D : DK} (h : DG D) : rBarF (toR D) = ((barF D).1,toR (barF D).2) := by
 unfold rBarF barF
 by_cases hd : D.down = true
 ·rw [if_pos (show (toR D).down = true from hd),if_neg (by unfold spF; rw [if_pos hd]; exact Bool.false_ne_true)]
  unfold spF; rw [if_pos hd]
 ·have hd' : D.down = false := by simpa using hd
  rw [if_neg (show ¬ (toR D).down = true from hd),toR_step hd']
  show (if (spF D).1 = true then _ else _) = _
  by_cases h1 : (spF D).1 = true
  ·rw [if_pos h1,if_pos h1]
   have hl : (settleF (fun _ => true) (spF D).2).last.length = D.last.length := by show (setl _ _ _ _ _).length = _; rw [setl_len,spF_last]
   have hb := bar_shown h.sp
   have hsame : (toR (spF D).2).shown = (toR D).shown := by
    unfold toR shown; simp only [spF_wait,spF_last]
   rw [hsame] at hb
   refine congrArg (Prod.mk (0 : Int)) (toR_ext ?_ ?_ (fun i hi => ?_) (fun i hi => ?_) hb.symm rfl rfl rfl)
   ·show (toR (spF D).2).shown.length = _
    rw [hsame,toR_sl,hl]
   ·show (List.replicate _ _).length = _
    rw [List.length_replicate,toR_tl,hl]
   ·rw [settle_shown]
    show (toR (spF D).2).shown.getD i zb = _
    rw [hsame,hb]
   ·show (List.replicate _ false).getD i false = false
    exact rep_getD (by rw [toR_tl]; exact hl ▸ hi)
  ·rw [if_neg h1,if_neg h1]
theorem crl_setl (kept : List Bool) (W : Wt) : ∀ (ks : List Int) (k : Nat) (s l : List (List UInt8)) (ws : List Bool),ks.Nodup → s.length = l.length → ws.length = l.length → (∀ q ∈ ks,0 ≤ q ∧ q < (l.length : Int) ∧ s.getD q.toNat zb = (wget W q).getD zb) →
  (crl kept k ks s l ws).2.1 = setl (fun i => kept.getD i false) W k ks l ∧ (∀ i,(crl kept k ks s l ws).1.getD i zb = if (i : Int) ∈ ks then (setl (fun i => kept.getD i false) W k ks l).getD i zb else s.getD i zb) ∧ (∀ i,(crl kept k ks s l ws).2.2.getD i false = if (i : Int) ∈ ks then false else ws.getD i false)
 | [],_,_,_,_,_,_,_,_ => ⟨rfl,fun i => by simp [crl],fun i => by simp [crl]⟩
 | q :: ks,k,s,l,ws,hd,hs,hw,h => by
  obtain ⟨hd1,hd2⟩ := List.nodup_cons.1 hd
  obtain ⟨hq0,hq1,hq2⟩ := h q (List.mem_cons_self ..)
  have hl' : (if kept.getD k false = true then l.set q.toNat ((wget W q).getD zb) else l).length = l.length := by split <;> simp
  have ih := crl_setl kept W ks (k + 1) (s.set q.toNat ((if kept.getD k false = true then l.set q.toNat ((wget W q).getD zb) else l).getD q.toNat zb)) (if kept.getD k false = true then l.set q.toNat ((wget W q).getD zb) else l) (ws.set q.toNat false) hd2 (by rw [List.length_set,hl',hs]) (by rw [List.length_set,hl',hw]) (fun x hx => by
   obtain ⟨a,b,c⟩ := h x (List.mem_cons_of_mem _ hx)
   refine ⟨a,by rw [hl']; exact b,?_⟩
   rw [getD_set _ _ _ _ om,if_neg (fun e => hd1 (by rw [show q = x by omega]; exact hx)),c])
  obtain ⟨i1,i2,i3⟩ := ih
  rw [crl,hq2,setl]
  refine ⟨i1,fun i => ?_,fun i => ?_⟩
  ·rw [i2 i]
   by_cases h1 : (i : Int) ∈ ks
   ·rw [if_pos h1,if_pos (List.mem_cons_of_mem _ h1)]
   ·rw [if_neg h1,getD_set _ _ _ _ om]
    by_cases h2 : i = q.toNat
    ·have h3 : (i : Int) ∈ q :: ks := by rw [h2,Int.toNat_of_nonneg hq0]; exact List.mem_cons_self ..
     rw [if_pos h2,if_pos h3,setl_notin _ _ _ _ _ _ (fun x hx => (h x (List.mem_cons_of_mem _ hx)).1) h1,h2]
    ·rw [if_neg h2,if_neg (fun h3 => by rcases List.mem_cons.1 h3 with h3 | h3; omega; exact h1 h3)]
  ·rw [i3 i]
   by_cases h1 : (i : Int) ∈ ks
   ·rw [if_pos h1,if_pos (List.mem_cons_of_mem _ h1)]
   ·rw [if_neg h1,getD_set _ _ _ _ om]
    by_cases h2 : i = q.toNat
    ·have h3 : (i : Int) ∈ q :: ks := by rw [h2,Int.toNat_of_nonneg hq0]; exact List.mem_cons_self ..
     rw [if_pos h2,if_pos h3]
    ·rw [if_neg h2,if_neg (fun h3 => by rcases List.mem_cons.1 h3 with h3 | h3; omega; exact h1 h3)]
theorem sorted_ext : ∀ {l1 l2 : List Int},l1.Pairwise (· < ·) → l2.Pairwise (· < ·) → (∀ x,x ∈ l1 ↔ x ∈ l2) → l1 = l2
 | [],[],_,_,_ => rfl
 | [],b :: l2,_,_,h => absurd ((h b).2 (List.mem_cons_self ..)) (by simp)
 | a :: l1,[],_,_,h => absurd ((h a).1 (List.mem_cons_self ..)) (by simp)
 | a :: l1,b :: l2,h1,h2,h => by
  obtain ⟨h1a,h1b⟩ := List.pairwise_cons.1 h1
  obtain ⟨h2a,h2b⟩ := List.pairwise_cons.1 h2
  have hab : a = b := by
   rcases List.mem_cons.1 ((h a).1 (List.mem_cons_self ..)) with e | e
   ·exact e
   ·rcases List.mem_cons.1 ((h b).2 (List.mem_cons_self ..)) with e2 | e2
    ·exact e2.symm
    ·have := h1a b e2
     have := h2a a e
     omega
  subst hab
  rw [sorted_ext h1b h2b (fun x => ⟨fun hx => by
   rcases List.mem_cons.1 ((h x).1 (List.mem_cons_of_mem _ hx)) with e | e
   ·have := h1a x hx; omega
   ·exact e,fun hx => by
   rcases List.mem_cons.1 ((h x).2 (List.mem_cons_of_mem _ hx)) with e | e
   ·have := h2a x hx; omega
   ·exact e⟩)]
theorem keys_nd {D : DK} (h : DG D) : (keysW D.wait).Nodup := by
 unfold keysW
 refine (srt_perm _).nodup_iff.2 ?_
 unfold wv2
 rw [List.map_map]; exact h.nd
theorem keys_lt {D : DK} (h : DG D) : (keysW D.wait).Pairwise (· < ·) := by
 have h1 := srt_sorted ((wv2 D.wait).map (·.1))
 have h2 := keys_nd h
 unfold keysW at h2 ⊢
 have h3 := h1.and h2
 exact h3.imp (fun hx => by obtain ⟨a,b⟩ := hx; omega)
theorem toR_list {D : DK} (h : DG D) : lisF (toR D).waits (toR D).waits.length = keysW D.wait := by
 refine sorted_ext ?_ (keys_lt h) (fun x => ?_)
 ·unfold lisF
  rw [List.pairwise_map]
  exact (List.pairwise_lt_range.filter _).imp (fun hx => Int.ofNat_lt.2 hx)
 ·rw [keys_mem,← wget_mem_iff]
  unfold lisF
  rw [List.mem_map]
  constructor
  ·rintro ⟨i,hi,rfl⟩
   obtain ⟨h1,h2⟩ := List.mem_filter.1 hi
   rw [toR_w (by rw [← toR_tl]; exact List.mem_range.1 h1)] at h2
   exact h2
  ·intro hx
   obtain ⟨p,hp,rfl⟩ := List.mem_map.1 ((wget_mem_iff _ _).1 hx)
   have hk := h.k p hp
   refine ⟨p.1.toNat,List.mem_filter.2 ⟨List.mem_range.2 (by rw [toR_tl]; omega),?_⟩,Int.toNat_of_nonneg hk.1⟩
   rw [toR_w om,Int.toNat_of_nonneg hk.1]; exact hx
theorem toR_crash {D : DK} (h : DG D) (kept : List Bool) : rCrashF kept (toR D) = toR (crashF kept D) := by
 have hc := crl_setl kept D.wait (keysW D.wait) 0 (toR D).shown (toR D).last (toR D).waits (keys_nd h) (toR_sl D) (toR_tl D) (fun q hq => by
  obtain ⟨a,b⟩ := keys_rng h q hq
  refine ⟨a,b,?_⟩
  rw [toR_s om,Int.toNat_of_nonneg a]
  have := (wget_mem_iff D.wait q).2 ((keys_mem _ _).1 hq)
  unfold shown
  cases hg : wget D.wait q with
  | none => rw [hg] at this; cases this
  | some b => rfl)
 obtain ⟨c1,c2,c3⟩ := hc
 obtain ⟨d1,d2,d3,d4,d5⟩ := crl_ok kept (keysW D.wait) 0 (ws := (toR D).waits) (toR_ok h).ws (toR_ok h).wl
 have hl := toR_list h
 have hln := crashF_len kept D
 unfold rCrashF
 rw [hl]
 refine toR_ext ?_ ?_ (fun i hi => ?_) (fun i hi => ?_) c1 rfl rfl rfl
 ·show (crl _ _ _ _ _ _).1.length = _
  rw [d3,toR_sl,hln]
 ·show (crl _ _ _ _ _ _).2.2.length = _
  rw [d5,toR_tl,hln]
 ·show (crl _ _ _ _ _ _).1.getD i zb = (wget [] (i : Int)).getD ((setl (fun i => kept.getD i false) D.wait 0 (keysW D.wait) D.last).getD ((i : Int)).toNat zb)
  rw [c2 i,Int.toNat_natCast]
  show _ = (setl (fun i => kept.getD i false) D.wait 0 (keysW D.wait) D.last).getD i zb
  split
  ·rfl
  ·rename_i hm
   rw [setl_notin _ _ _ _ _ _ (fun x hx => (keys_rng h x hx).1) hm,toR_s om]
   unfold shown
   rw [shown_none hm,Int.toNat_natCast]; rfl
 ·show (crl _ _ _ _ _ _).2.2.getD i false = false
  rw [c3 i]
  split
  ·rfl
  ·rename_i hm
   rw [toR_w om,shown_none hm]; rfl
end Go.Proofs.YtohjpggjgomgoaaGreatDoor
