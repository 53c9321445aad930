/- Texts on which the proof of this claim stands: Dk2, Dk4, I1, I2, I3, I4, I5, I6, I7, I8, IM, I9, I10, I11, I12, I13, I14, I15, I16, I17, I18, I19, I20, I21, I22, IS, IT, Lay1, Lay, Dk3, Dk5, Dk6, Jp1, Dk7, Jp2, Jp3, Jp4, Jp5. -/
import Derived.Test.YtfgdepggdiibdaaGreatDoorP2
import Derived.WalkKit
import Derived.MapKept
import Derived.Test.YtfgdepggdiibdaaGreatDoorP1
import Derived.Stop.BytesEq
import Derived.Laws.StructEq
import Derived.Lib.Builder
import Derived.Lib.UnsafeStr
import Derived.Lib.Bytealg
import Derived.RangeFuncLeaves
import Derived.OrdersIn
import Derived.Sort.LoopGhostIn
import Derived.TacticsIn
import Derived.Lib.SlKeysI
import Derived.Below
import Derived.Shelf.SlIterI.Nil
import Derived.Test.YtfgdepggdiibdaaGreatDoorChecked
import Derived.Shelf.SortM.Plain
import Derived.Shelf.SortM.SortNone
import Derived.Test.YtfgdepggdiibdaaGreatDoorP4
namespace Go.Proofs.YtfgdepggdiibdaaGreatDoor
open K
set_option linter.unusedVariables false
set_option maxRecDepth 100000 in
theorem dThere (m : DM) (x : MX) (D : DK) (q : Int) (w : World) (hR : Has w (dO D m x)) :
  Calls Tryz.prog 83 #[.pointer (some ⟨m.d,3,none⟩),.int .i64 q] w fun e w' => e = .returned (.bool (decide (0 ≤ q ∧ q < (D.last.length : Int)))) ∧ Ext [] w w' := by
 refine enter (vs := [.pointer (some ⟨m.d,3,none⟩),.int .i64 q]) [] [(m.d,.cells #[.int .i64 D.fuse,.int .i64 D.steps,.bool D.down,.slice (some ⟨m.lb,0,none⟩) D.last.length D.last.length,.map (some m.mb)] 76 (0,0)),(m.lb,.cells ((rows D.last).toArray) 37 (0,0)),(m.mb,.map x.1 x.2)] [] Tryz.func83 rfl kr (HP.ofHas hR) ?_
 refine Rg [0,1] [] n0 trivial ?_
 refine Rg [4] [dZ,dZ,dZ,dZ,dZ,dZ,dZ,(dS (.slice (some ⟨m.lb,0,none⟩) D.last.length D.last.length))] (fun S => [((.bool (decide (q ≥ (0 : Int))) : Value) = .bool true → (∀ w1,S w1 → w1.cell? ⟨m.d,3,none⟩ = some (.slice (some ⟨m.lb,0,none⟩) D.last.length D.last.length)))]) ⟨(fun g0 => have q0 : (q ≥ (0 : Int)) := (dT (boolV g0)); (rC 0 rfl rfl)),trivial⟩ ?_
 refine Cfg.ret rfl (rs := [.tmp 4]) rfl [.bool ((decide (q ≥ (0 : Int))) && (decide (q < (D.last.length : Int))))] ⟨kr,trivial⟩ (fun w1 hp => ?_)
 exact ⟨by simp [resOf],hp.ext⟩
set_option maxRecDepth 100000 in
theorem dFault (m : DM) (x : MX) (D : DK) (q : Int) (w : World) (hR : Has w (dO D m x)) :
  Calls Tryz.prog 39 #[.pointer (some ⟨m.d,0,none⟩),.int .i64 q] w fun e w' => e = .returned (.int .i64 (fltF D q)) ∧ Ext [] w w' := by
 refine enter (vs := [.pointer (some ⟨m.d,0,none⟩),.int .i64 q]) [] [(m.d,.cells #[.int .i64 D.fuse,.int .i64 D.steps,.bool D.down,.slice (some ⟨m.lb,0,none⟩) D.last.length D.last.length,.map (some m.mb)] 76 (0,0)),(m.lb,.cells ((rows D.last).toArray) 37 (0,0)),(m.mb,.map x.1 x.2)] [] Tryz.func39 rfl kr (HP.ofHas hR) ?_
 refine Rg [0,1] [] n0 trivial ?_
 refine Rg [0,1,5] [] n0 trivial ?_
 refine Cfg.condF rfl (b := false) kr rfl ?_
 refine Rg [0,1,8] [dZ,dZ,dZ,dZ,(dS (.bool D.down))] (fun S => [(∀ w1,S w1 → w1.cell? ⟨m.d,2,none⟩ = some (.bool D.down))]) ⟨(rC 0 rfl rfl),trivial⟩ ?_
 refine Cfg.cond rfl (b := D.down) kr (fun c2r => ?_) (fun c2r => ?_)
 ·have c2 : (D.down = true) := c2r
  refine Rg [4] [] n0 trivial ?_
  refine Cfg.ret rfl (rs := [.tmp 4]) rfl [.int .i64 13] ⟨kr,trivial⟩ (fun w1 hp => ?_)
  have hx : fltF D q = 13 := if_pos c2
  exact ⟨by rw [hx]; rfl,hp.ext⟩
 ·have c2 : (D.down = false) := c2r
  refine Cfg.begL rfl ?_
  refine Lp 4 [] (some [17,18]) n0 trivial ?_
  refine Le (Eff.callA (vs := [.pointer (some ⟨m.d,3,none⟩),.int .i64 q]) (.bool (decide (0 ≤ q ∧ q < (D.last.length : Int)))) rfl Tryz.func83 rfl rfl kr (fun w1 h => dThere m x D q w1 (h.hasR (fun e he => he)))) ?_
  rintro ⟨⟩ -
  refine Lp 2 [] (some [14]) n0 trivial ?_
  refine CfgL.done rfl ?_
  refine Cfg.cond rfl (b := (!(decide (0 ≤ q ∧ q < (D.last.length : Int))))) kr (fun c3r => ?_) (fun c3r => ?_)
  ·have c3 := (dF (notT c3r))
   refine Rg [4] [] n0 trivial ?_
   refine Cfg.ret rfl (rs := [.tmp 4]) rfl [.int .i64 2] ⟨kr,trivial⟩ (fun w1 hp => ?_)
   have hx : fltF D q = 2 := by unfold fltF; rw [if_neg (by simp [c2]),if_neg c3]
   exact ⟨by rw [hx]; rfl,hp.ext⟩
  ·have c3 := (dT (notF c3r))
   refine Cfg.reg rfl [4] [] (Γ' := [(4,[],.int .i64 0)]) (nd := (fun _ => [])) (fun _ => kr) trivial ?_
   refine Cfg.ret rfl (rs := [.tmp 4]) rfl [.int .i64 0] ⟨kr,trivial⟩ (fun w1 hp => ?_)
   have hx : fltF D q = 0 := by unfold fltF; rw [if_neg (by simp [c2]),if_pos c3]
   exact ⟨by rw [hx]; rfl,hp.ext⟩
set_option maxRecDepth 100000 in
theorem dBlock (m : DM) (x : MX) (D : DK) (q : Int) (w : World) (hg : DG D) (hmo : MapOk x.1 x.2 (wv2 D.wait)) (hq : 0 ≤ q ∧ q < (D.last.length : Int)) (hR : Has w (dO D m x)) :
  Calls Tryz.prog 40 #[.pointer (some ⟨m.d,3,none⟩),.int .i64 q] w fun e w' => e = .returned (.agg (bv (shown D q))) ∧ Ext [] w w' := by
 have hn := hg.n
 refine enter (vs := [.pointer (some ⟨m.d,3,none⟩),.int .i64 q]) [] [(m.d,.cells #[.int .i64 D.fuse,.int .i64 D.steps,.bool D.down,.slice (some ⟨m.lb,0,none⟩) D.last.length D.last.length,.map (some m.mb)] 76 (0,0)),(m.lb,.cells ((rows D.last).toArray) 37 (0,0)),(m.mb,.map x.1 x.2)] [] Tryz.func40 rfl kr (HP.ofHas hR) ?_
 refine Cfg.begL rfl ?_
 refine Le (Eff.alloc (z := (.agg (bv (List.replicate 512 0)))) rfl kr) ?_
 rintro b1 ⟨hb1,nb1⟩
 refine CfgL.done rfl ?_
 refine Cfg.begL rfl ?_
 refine Lp 5 [dZ,dZ,dZ,(dS (.map (some m.mb)))] (some [0,1,4,11,12]) (fun S => [(∀ w1,S w1 → w1.cell? ⟨m.d,4,none⟩ = some (.map (some m.mb)))]) ⟨(rC 0 rfl rfl),trivial⟩ ?_
 refine Le (Eff.waitGet (r := m.mb) (k := q) rfl rfl kr kr hmo (fun w1 h => h.ro (m.mb,_) (mG 2 rfl))) ?_
 rintro ⟨⟩ -
 refine Lp 3 [] (some [0,1,4,14,15]) n0 trivial ?_
 refine Le (Eff.alloc (z := (.agg (bv (List.replicate 512 0)))) rfl kr) ?_
 rintro b2 ⟨hb2,nb2⟩
 refine Le (Eff.storeN (b := b2) (off := 0) (vs := (bv ((wget D.wait q).getD zb))) (n := 512) rfl kr kr kr ((bv_size _).trans (getO_len hg _)) (all_bv _) 0 (cs := (bv (List.replicate 512 0))) (e := 37) kr (by rw [zsz512]; omega)) ?_
 rintro ⟨⟩ -
 refine CfgL.setO (congrArg (fun (xq : Array Value) => ([(b2,.cells xq 37 (0,0)),(b1,.cells (bv (List.replicate 512 0)) 37 (0,0))] : LO)) (show _ = (bv ((wget D.wait q).getD zb)) from spl_all (((bv_size _).trans (getO_len hg _)).trans zsz512.symm))) ?_
 refine Lp 1 [] (some [0,1,4,5,6]) n0 trivial ?_
 refine CfgL.done rfl ?_
 refine Rg [0,1,4,5,16] [] n0 trivial ?_
 refine Cfg.cond rfl (b := (wget D.wait q).isSome) kr (fun c1r => ?_) (fun c1r => ?_)
 ·have c1 : ((wget D.wait q).isSome = true) := c1r
  refine Cfg.begL rfl ?_
  refine Lp 1 [(dS (.agg (bv ((wget D.wait q).getD zb))))] (some [4,17]) (fun S => [(∀ w1,S w1 → (loadVar 37 ⟨b2,0,none⟩).run Tryz.prog w1 = .ok (.agg (bv ((wget D.wait q).getD zb))) w1)]) ⟨(fun w1 h => h.oload 0 rfl Tryz.underlying37 rfl (n := 512) kr ((bv_size _).trans (getO_len hg _))),trivial⟩ ?_
  refine Le (Eff.storeN (b := b1) (off := 0) (vs := (bv ((wget D.wait q).getD zb))) (n := 512) rfl kr kr kr ((bv_size _).trans (getO_len hg _)) (all_bv _) 1 (cs := (bv (List.replicate 512 0))) (e := 37) kr (by rw [zsz512]; omega)) ?_
  rintro ⟨⟩ -
  refine CfgL.setO (congrArg (fun (xq : Array Value) => ([(b2,.cells (bv ((wget D.wait q).getD zb)) 37 (0,0)),(b1,.cells xq 37 (0,0))] : LO)) (show _ = (bv ((wget D.wait q).getD zb)) from spl_all (((bv_size _).trans (getO_len hg _)).trans zsz512.symm))) ?_
  refine CfgL.done rfl ?_
  refine Cg (Γ' := [(4,[],pT b1)]) ?_
  refine Cfg.ret rfl (rs := [.cell 4 37]) rfl [.agg (bv ((wget D.wait q).getD zb))] ⟨⟨_,by kernel_rfl,(fun w1 h => h.oload 1 rfl Tryz.underlying37 rfl (n := 512) kr ((bv_size _).trans (getO_len hg _)))⟩,trivial⟩ (fun w1 hp => ?_)
  have hx : (wget D.wait q).getD zb = shown D q := by unfold shown; revert c1; cases wget D.wait q <;> simp
  exact ⟨by rw [hx]; rfl,hp.ext⟩
 ·have c1 : ((wget D.wait q).isSome = false) := c1r
  refine Cfg.begL rfl ?_
  refine Lp 7 [dZ,dZ,dZ,(dS (.slice (some ⟨m.lb,0,none⟩) D.last.length D.last.length)),dZ,dZ,(dS (.agg (bv (D.last.getD ((q).toNat) zb))))] (some [4,24]) (fun S => [(∀ w1,S w1 → w1.cell? ⟨m.d,3,none⟩ = some (.slice (some ⟨m.lb,0,none⟩) D.last.length D.last.length)),(0 ≤ q ∧ q < (D.last.length : Int)),(∀ w1,S w1 → (loadVar 37 ⟨m.lb,((q).toNat * 512),none⟩).run Tryz.prog w1 = .ok (.agg (bv (D.last.getD ((q).toNat) zb))) w1)]) ⟨(rC 0 rfl rfl),om,(fun w1 h => load_bytes Tryz.underlying37 rfl kr (hg.w.at' _) (fun j hj => sect_cell (n := 0) hg.w (h.ro _ (mG 1 rfl)) rfl om j hj)),trivial⟩ ?_
  refine Le (Eff.storeN (b := b1) (off := 0) (vs := (bv (D.last.getD ((q).toNat) zb))) (n := 512) rfl kr kr kr ((bv_size _).trans (hg.w.at' _)) (all_bv _) 1 (cs := (bv (List.replicate 512 0))) (e := 37) kr (by rw [zsz512]; omega)) ?_
  rintro ⟨⟩ -
  refine CfgL.setO (congrArg (fun (xq : Array Value) => ([(b2,.cells (bv ((wget D.wait q).getD zb)) 37 (0,0)),(b1,.cells xq 37 (0,0))] : LO)) (show _ = (bv (D.last.getD ((q).toNat) zb)) from spl_all (((bv_size _).trans (hg.w.at' _)).trans zsz512.symm))) ?_
  refine CfgL.done rfl ?_
  refine Cg (Γ' := [(4,[],pT b1)]) ?_
  refine Cfg.ret rfl (rs := [.cell 4 37]) rfl [.agg (bv (D.last.getD ((q).toNat) zb))] ⟨⟨_,by kernel_rfl,(fun w1 h => h.oload 1 rfl Tryz.underlying37 rfl (n := 512) kr ((bv_size _).trans (hg.w.at' _)))⟩,trivial⟩ (fun w1 hp => ?_)
  have hx : D.last.getD q.toNat zb = shown D q := by unfold shown; revert c1; cases wget D.wait q <;> simp
  exact ⟨by rw [hx]; rfl,hp.ext⟩
set_option maxRecDepth 100000 in
theorem dRead (m : DM) (x : MX) (D : DK) (q : Int) (w : World) (hg : DG D) (hmo : MapOk x.1 x.2 (wv2 D.wait)) (hR : Has w (dO D m x)) :
  Calls Tryz.prog 10 #[.pointer (some ⟨m.d,0,none⟩),.int .i64 q] w fun e w' => e = .returned (.tuple #[.agg (bv (readF D q)),.int .i64 (fltF D q)]) ∧ Ext [] w w' := by
 have hn := hg.n
 refine enter (vs := [.pointer (some ⟨m.d,0,none⟩),.int .i64 q]) [] [(m.d,.cells #[.int .i64 D.fuse,.int .i64 D.steps,.bool D.down,.slice (some ⟨m.lb,0,none⟩) D.last.length D.last.length,.map (some m.mb)] 76 (0,0)),(m.lb,.cells ((rows D.last).toArray) 37 (0,0)),(m.mb,.map x.1 x.2)] [] Tryz.func10 rfl kr (HP.ofHas hR) ?_
 refine Cfg.begL rfl ?_
 refine Le (Eff.alloc (z := (.agg (bv (List.replicate 512 0)))) rfl kr) ?_
 rintro b1 ⟨hb1,nb1⟩
 refine Lp 1 [] (some [0,1,4]) n0 trivial ?_
 refine CfgL.done rfl ?_
 refine Cfg.begL rfl ?_
 refine Lp 2 [] none n0 trivial ?_
 refine Le (Eff.callA (vs := [.pointer (some ⟨m.d,0,none⟩),.int .i64 q]) (.int .i64 (fltF D q)) rfl Tryz.func39 rfl rfl kr (fun w1 h => dFault m x D q w1 (h.hasR (fun e he => he)))) ?_
 rintro ⟨⟩ -
 refine Lp 1 [] (some [0,1,4,6]) n0 trivial ?_
 refine CfgL.done rfl ?_
 refine Rg [0,1,4,6,11] [] n0 trivial ?_
 refine Cfg.cond rfl (b := ((fltF D q) != (0 : Int))) kr (fun c1r => ?_) (fun c1r => ?_)
 ·have c1 := (bne_iff_ne.1 c1r)
  refine Cfg.begL rfl ?_
  refine Lp 2 [(dS (.agg (bv (List.replicate 512 0))))] (some [4,12,13]) (fun S => [(∀ w1,S w1 → (Instr.build 37 #[]).run Tryz.prog w1 = .ok (.agg (bv (List.replicate 512 0))) w1)]) ⟨(fun _ _ => kr),trivial⟩ ?_
  refine Le (Eff.storeN (b := b1) (off := 0) (vs := (bv (List.replicate 512 0))) (n := 512) rfl kr kr kr ((bv_size _).trans (List.length_replicate)) (all_bv _) 0 (cs := (bv (List.replicate 512 0))) (e := 37) kr (by rw [zsz512]; omega)) ?_
  rintro ⟨⟩ -
  refine CfgL.setO (congrArg (fun (xq : Array Value) => ([(b1,.cells xq 37 (0,0))] : LO)) (show _ = (bv (List.replicate 512 0)) from spl_all (((bv_size _).trans (List.length_replicate)).trans zsz512.symm))) ?_
  refine Lp 1 [] (some [4,5]) n0 trivial ?_
  refine CfgL.done rfl ?_
  refine Cfg.ret rfl (rs := [.cell 4 37,.tmp 5]) rfl [.agg (bv (List.replicate 512 0)),.int .i64 (fltF D q)] ⟨⟨_,by kernel_rfl,(fun w1 h => h.oload 0 rfl Tryz.underlying37 rfl (n := 512) kr ((bv_size _).trans (List.length_replicate)))⟩,by kernel_rfl,trivial⟩ (fun w1 hp => ?_)
  have hx : readF D q = List.replicate 512 0 := if_neg c1
  exact ⟨by rw [hx]; rfl,hp.ext⟩
 ·have c1 := (bne_eq_false_iff_eq.1 c1r)
  refine Cfg.begL rfl ?_
  refine Lp 4 [] (some [4,16,17]) n0 trivial ?_
  refine Le (Eff.callA (vs := [.pointer (some ⟨m.d,3,none⟩),.int .i64 q]) (.agg (bv (shown D q))) rfl Tryz.func40 rfl rfl kr (fun w1 h => dBlock m x D q w1 hg hmo (fltF_in c1) (h.hasR (fun e he => he)))) ?_
  rintro ⟨⟩ -
  refine Le (Eff.storeN (b := b1) (off := 0) (vs := (bv (shown D q))) (n := 512) rfl kr kr kr ((bv_size _).trans (shown_len hg _)) (all_bv _) 0 (cs := (bv (List.replicate 512 0))) (e := 37) kr (by rw [zsz512]; omega)) ?_
  rintro ⟨⟩ -
  refine CfgL.setO (congrArg (fun (xq : Array Value) => ([(b1,.cells xq 37 (0,0))] : LO)) (show _ = (bv (shown D q)) from spl_all (((bv_size _).trans (shown_len hg _)).trans zsz512.symm))) ?_
  refine CfgL.pure 1 [] (some [4,5]) (Γ' := [(5,[],.int .i64 0),(4,[],pT b1)]) (nd := (fun _ => [])) kr (fun _ => kr) trivial ?_
  refine CfgL.done rfl ?_
  refine Cfg.ret rfl (rs := [.cell 4 37,.tmp 5]) rfl [.agg (bv (shown D q)),.int .i64 0] ⟨⟨_,by kernel_rfl,(fun w1 h => h.oload 0 rfl Tryz.underlying37 rfl (n := 512) kr ((bv_size _).trans (shown_len hg _)))⟩,by kernel_rfl,trivial⟩ (fun w1 hp => ?_)
  have c1x : fltF D q = 0 := by omega
  have hx : readF D q = shown D q := if_pos c1x
  exact ⟨by rw [hx,c1x]; rfl,hp.ext⟩
set_option maxRecDepth 100000 in
theorem dLasts (m : DM) (x : MX) (D : DK) (q : Int) (w : World) (hg : DG D) (hmo : MapOk x.1 x.2 (wv2 D.wait)) (hR : Has w (dO D m x)) :
  Calls Tryz.prog 95 #[.pointer (some ⟨m.d,0,none⟩),.int .i64 q] w fun e w' => e = .returned (.agg (bv (lastsF D q))) ∧ Ext [] w w' := by
 have hn := hg.n
 refine enter (vs := [.pointer (some ⟨m.d,0,none⟩),.int .i64 q]) [] [(m.d,.cells #[.int .i64 D.fuse,.int .i64 D.steps,.bool D.down,.slice (some ⟨m.lb,0,none⟩) D.last.length D.last.length,.map (some m.mb)] 76 (0,0)),(m.lb,.cells ((rows D.last).toArray) 37 (0,0)),(m.mb,.map x.1 x.2)] [] Tryz.func95 rfl kr (HP.ofHas hR) ?_
 refine Cfg.begL rfl ?_
 refine Le (Eff.alloc (z := (.agg (bv (List.replicate 512 0)))) rfl kr) ?_
 rintro b1 ⟨hb1,nb1⟩
 refine CfgL.done rfl ?_
 refine Cfg.begL rfl ?_
 refine Lp 7 [dZ,dZ,dZ,(1,false,none),(1,false,none),(1,false,none),(1,false,none)] (some [0,1,4,7,10,11]) (fun _ => [((.bool false : Value) = .bool false),((.bool false : Value) = .bool false),((.bool false : Value) = .bool false),((.bool false : Value) = .bool false)]) ⟨rfl,rfl,rfl,rfl,trivial⟩ ?_
 refine Le (Eff.callA (vs := [.pointer (some ⟨m.d,3,none⟩),.int .i64 q]) (.bool (decide (0 ≤ q ∧ q < (D.last.length : Int)))) rfl Tryz.func83 rfl rfl kr (fun w1 h => dThere m x D q w1 (h.hasR (fun e he => he)))) ?_
 rintro ⟨⟩ -
 refine Lp 2 [(1,false,none)] (some [0,1,4,14]) (fun _ => [((.bool false : Value) = .bool false)]) ⟨rfl,trivial⟩ ?_
 refine CfgL.done rfl ?_
 refine Cfg.cond rfl (b := (!(decide (0 ≤ q ∧ q < (D.last.length : Int))))) kr (fun c1r => ?_) (fun c1r => ?_)
 ·have c1 := (dF (notT c1r))
  refine Cfg.begL rfl ?_
  refine Lp 1 [(dS (.agg (bv (List.replicate 512 0))))] (some [4,15]) (fun S => [(∀ w1,S w1 → (Instr.build 37 #[]).run Tryz.prog w1 = .ok (.agg (bv (List.replicate 512 0))) w1)]) ⟨(fun _ _ => kr),trivial⟩ ?_
  refine Le (Eff.storeN (b := b1) (off := 0) (vs := (bv (List.replicate 512 0))) (n := 512) rfl kr kr kr ((bv_size _).trans (List.length_replicate)) (all_bv _) 0 (cs := (bv (List.replicate 512 0))) (e := 37) kr (by rw [zsz512]; omega)) ?_
  rintro ⟨⟩ -
  refine CfgL.setO (congrArg (fun (xq : Array Value) => ([(b1,.cells xq 37 (0,0))] : LO)) (show _ = (bv (List.replicate 512 0)) from spl_all (((bv_size _).trans (List.length_replicate)).trans zsz512.symm))) ?_
  refine CfgL.done rfl ?_
  refine Cg (Γ' := [(4,[],pT b1)]) ?_
  refine Cfg.ret rfl (rs := [.cell 4 37]) rfl [.agg (bv (List.replicate 512 0))] ⟨⟨_,by kernel_rfl,(fun w1 h => h.oload 0 rfl Tryz.underlying37 rfl (n := 512) kr ((bv_size _).trans (List.length_replicate)))⟩,trivial⟩ (fun w1 hp => ?_)
  have hx : lastsF D q = List.replicate 512 0 := if_neg (by first | exact c2 | omega)
  exact ⟨by rw [hx]; rfl,hp.ext⟩
 ·have c1 := (dT (notF c1r))
  refine Cfg.begL rfl ?_
  refine Lp 8 [dZ,dZ,dZ,dZ,(dS (.slice (some ⟨m.lb,0,none⟩) D.last.length D.last.length)),dZ,dZ,(dS (.agg (bv (D.last.getD ((q).toNat) zb))))] (some [4,23]) (fun S => [(∀ w1,S w1 → w1.cell? ⟨m.d,3,none⟩ = some (.slice (some ⟨m.lb,0,none⟩) D.last.length D.last.length)),(0 ≤ q ∧ q < (D.last.length : Int)),(∀ w1,S w1 → (loadVar 37 ⟨m.lb,((q).toNat * 512),none⟩).run Tryz.prog w1 = .ok (.agg (bv (D.last.getD ((q).toNat) zb))) w1)]) ⟨(rC 0 rfl rfl),om,(fun w1 h => load_bytes Tryz.underlying37 rfl kr (hg.w.at' _) (fun j hj => sect_cell (n := 0) hg.w (h.ro _ (mG 1 rfl)) rfl om j hj)),trivial⟩ ?_
  refine Le (Eff.storeN (b := b1) (off := 0) (vs := (bv (D.last.getD ((q).toNat) zb))) (n := 512) rfl kr kr kr ((bv_size _).trans (hg.w.at' _)) (all_bv _) 0 (cs := (bv (List.replicate 512 0))) (e := 37) kr (by rw [zsz512]; omega)) ?_
  rintro ⟨⟩ -
  refine CfgL.setO (congrArg (fun (xq : Array Value) => ([(b1,.cells xq 37 (0,0))] : LO)) (show _ = (bv (D.last.getD ((q).toNat) zb)) from spl_all (((bv_size _).trans (hg.w.at' _)).trans zsz512.symm))) ?_
  refine CfgL.done rfl ?_
  refine Cg (Γ' := [(4,[],pT b1)]) ?_
  refine Cfg.ret rfl (rs := [.cell 4 37]) rfl [.agg (bv (D.last.getD ((q).toNat) zb))] ⟨⟨_,by kernel_rfl,(fun w1 h => h.oload 0 rfl Tryz.underlying37 rfl (n := 512) kr ((bv_size _).trans (hg.w.at' _)))⟩,trivial⟩ (fun w1 hp => ?_)
  have hx : lastsF D q = D.last.getD q.toNat zb := if_pos (by first | exact c2 | omega)
  exact ⟨by rw [hx]; rfl,hp.ext⟩
set_option maxRecDepth 100000 in
theorem mKeys (r : Nat) (w : World) :
  Calls Tryz.prog 194 #[.map (some r)] w fun e w' => ∃ b : Nat,True ∧ e = .returned (.func (.func 205) #[] #[.pointer (some ⟨b,0,none⟩)]) ∧ w.heap.size ≤ b ∧ w'.heap[b]? = some (.cells #[.map (some r)] 72 (0,0)) ∧ Ext [] w w' := by
 refine enter (vs := [.map (some r)]) [] [] [] Tryz.func194 rfl kr (HP.start w) ?_
 refine Cfg.begL rfl ?_
 refine Le (Eff.box (v := .map (some r)) rfl kr) ?_
 rintro b1 ⟨hb1,nb1⟩
 refine Lp 1 [] (some [1]) n0 trivial ?_
 refine CfgL.done rfl ?_
 refine Rg [2] [] n0 trivial ?_
 refine Cfg.ret rfl (rs := [.tmp 2]) rfl [.func (.func 205) #[] #[pT b1]] ⟨kr,trivial⟩ (fun w1 hp => ?_)
 exact ⟨b1,trivial,rfl,hb1,hp.own (b1,_) mH,hp.ext⟩
end Go.Proofs.YtfgdepggdiibdaaGreatDoor
namespace Go.Proofs.YtfgdepggdiibdaaGreatDoor
open K
set_option linter.unusedVariables false
def spF (D : DK) : Bool × DK :=
 if D.down = true then (false,D) else if D.fuse = 0 then (false,{ D with down := true })
 else (true,{ D with fuse := if D.fuse > 0 then D.fuse - 1 else D.fuse,steps := D.steps + 1 })
theorem spF_wait (D : DK) : (spF D).2.wait = D.wait := by unfold spF; split; rfl; split <;> rfl
theorem spF_last (D : DK) : (spF D).2.last = D.last := by unfold spF; split; rfl; split <;> rfl
theorem DG.sp {D : DK} (h : DG D) : DG (spF D).2 := by
 have h1 := h.f
 unfold spF
 split
 ·exact h
 ·split
  ·exact ⟨h.w,h.ww,h.k,h.n,h.nd,h.f⟩
  ·refine ⟨h.w,h.ww,h.k,h.n,h.nd,?_⟩
   show -1 ≤ (if D.fuse > 0 then D.fuse - 1 else D.fuse) ∧ (if D.fuse > 0 then D.fuse - 1 else D.fuse) ≤ _
   split <;> omega
theorem spF_steps (D : DK) : D.steps ≤ (spF D).2.steps ∧ (spF D).2.steps ≤ D.steps + 1 := by
 unfold spF; split
 ·exact ⟨by simp only; omega,by simp only; omega⟩
 ·split
  ·exact ⟨by simp only; omega,by simp only; omega⟩
  ·exact ⟨by simp only; omega,by simp only; omega⟩
def writeF (D : DK) (q : Int) (b : List UInt8) : Int × DK :=
 if fltF D q ≠ 0 then (fltF D q,D) else if (spF D).1 = true then (0,{ (spF D).2 with wait := wset (spF D).2.wait q b }) else (13,(spF D).2)
theorem writeF_steps (D : DK) (q : Int) (b : List UInt8) : D.steps ≤ (writeF D q b).2.steps ∧ (writeF D q b).2.steps ≤ D.steps + 1 := by
 have := spF_steps D
 unfold writeF; split
 ·exact ⟨by simp only; omega,by simp only; omega⟩
 ·split
  ·exact this
  ·exact this
theorem wset_keys (k : Int) (v : List UInt8) : ∀ W : Wt,(wset W k v).map (·.1) = if k ∈ W.map (·.1) then W.map (·.1) else W.map (·.1) ++ [k]
 | [] => rfl
 | p :: W => by
  unfold wset
  by_cases h : k = p.1
  ·rw [if_pos h,if_pos (by rw [h]; exact mH)]
   simp [h]
  ·rw [if_neg h,List.map_cons,wset_keys k v W]
   by_cases h2 : k ∈ W.map (·.1)
   ·rw [if_pos h2,if_pos (by rw [List.map_cons]; exact List.mem_cons_of_mem _ h2)]; rfl
   ·rw [if_neg h2,if_neg (by rw [List.map_cons,List.mem_cons]; exact fun e => e.elim h h2)]; rfl
theorem DG.wr {D : DK} (h : DG D) {q : Int} {b : List UInt8} (hq : 0 ≤ q ∧ q < (D.last.length : Int)) (hb : b.length = 512) : DG { D with wait := wset D.wait q b } :=
 ⟨h.w,fun p hp => by
  rcases wset_mem p hp with rfl | hp
  ·exact hb
  ·exact h.ww p hp,fun p hp => by
  rcases wset_mem p hp with rfl | hp
  ·exact hq
  ·exact h.k p hp,h.n,by
  show ((wset D.wait q b).map (·.1)).Nodup
  rw [wset_keys]
  split
  ·exact h.nd
  ·rename_i h1
   refine List.nodup_append.2 ⟨h.nd,by simp,fun x hx y hy => ?_⟩
   rw [List.mem_singleton.1 hy]; exact fun e => h1 (e ▸ hx),h.f⟩
theorem DG.write {D : DK} (h : DG D) (q : Int) {b : List UInt8} (hb : b.length = 512) : DG (writeF D q b).2 := by
 unfold writeF
 split
 ·exact h
 ·rename_i h0
  have h0 : fltF D q = 0 := Decidable.not_not.1 h0
  split
  ·exact h.sp.wr (by rw [spF_last]; exact fltF_in h0) hb
  ·exact h.sp
theorem fltF_cases (D : DK) (q : Int) : fltF D q = 0 ∨ fltF D q = 2 ∨ fltF D q = 13 := by
 unfold fltF; split
 ·exact .inr (.inr rfl)
 ·split
  ·exact .inl rfl
  ·exact .inr (.inl rfl)
set_option maxRecDepth 100000 in
theorem dSpend (m : DM) (D : DK) (w : World) (hf : -1 ≤ D.fuse ∧ D.fuse ≤ 9223372036854775807) (hs : 0 ≤ D.steps ∧ D.steps ≤ 4611686018427387904) (hb : w.heap[m.d]? = some (.cells (dC D m) 76 (0,0))) :
  Calls Tryz.prog 41 #[.pointer (some ⟨m.d,0,none⟩)] w fun e w' => e = .returned (.bool (spF D).1) ∧ Ext [m.d] w w' ∧ w'.heap[m.d]? = some (.cells (dC (spF D).2 m) 76 (0,0)) := by
 refine enter (vs := [.pointer (some ⟨m.d,0,none⟩)]) [m.d] [] [(m.d,.cells #[.int .i64 D.fuse,.int .i64 D.steps,.bool D.down,.slice (some ⟨m.lb,0,none⟩) D.last.length D.last.length,.map (some m.mb)] 76 (0,0))] Tryz.func41 rfl kr (HP.startM (fun e he => by cases he) hb (by simp)) ?_
 refine Rg [0] [] n0 trivial ?_
 refine Rg [0,6] [dZ,dZ,dZ,(dS (.bool D.down))] (fun S => [(∀ w1,S w1 → w1.cell? ⟨m.d,2,none⟩ = some (.bool D.down))]) ⟨(oC 0 rfl rfl),trivial⟩ ?_
 refine Cfg.cond rfl (b := D.down) kr (fun c1r => ?_) (fun c1r => ?_)
 ·have c1 : (D.down = true) := c1r
  refine Rg [2] [] n0 trivial ?_
  refine Cfg.ret rfl (rs := [.tmp 2]) rfl [.bool false] ⟨kr,trivial⟩ (fun w1 hp => ?_)
  have hx : spF D = (false,D) := if_pos c1
  rw [hx]
  exact ⟨rfl,hp.ext,hp.own (m.d,_) mH⟩
 ·have c1 : (D.down = false) := c1r
  refine Rg [0,11] [dZ,dZ,dZ,(dS (.int .i64 D.fuse))] (fun S => [(∀ w1,S w1 → w1.cell? ⟨m.d,0,none⟩ = some (.int .i64 D.fuse))]) ⟨(oC 0 rfl rfl),trivial⟩ ?_
  refine Cfg.cond rfl (b := (D.fuse == (0 : Int))) kr (fun c2r => ?_) (fun c2r => ?_)
  ·have c2 := (beq_iff_eq.1 c2r)
   refine Cfg.begL rfl ?_
   refine Lp 3 [] (some [14]) n0 trivial ?_
   refine Le (Eff.store1 (b := m.d) (off := 2) (v := .bool true) rfl kr kr rfl kr 0 (cs := #[.int .i64 D.fuse,.int .i64 D.steps,.bool D.down,.slice (some ⟨m.lb,0,none⟩) D.last.length D.last.length,.map (some m.mb)]) (e := 76) kr (by simp)) ?_
   rintro ⟨⟩ -
   refine CfgL.done rfl ?_
   refine Cg (Γ' := []) ?_
   refine Rg [2] [] n0 trivial ?_
   refine Cfg.ret rfl (rs := [.tmp 2]) rfl [.bool false] ⟨kr,trivial⟩ (fun w1 hp => ?_)
   have hx : spF D = (false,{ D with down := true }) := by unfold spF; rw [if_neg (by simp [c1]),if_pos c2]
   rw [hx]
   exact ⟨rfl,hp.ext,hp.own (m.d,_) mH⟩
  ·have c2 := (beq_eq_false_iff_ne.1 c2r)
   refine Rg [0,19] [dZ,dZ,dZ,(dS (.int .i64 D.fuse))] (fun S => [(∀ w1,S w1 → w1.cell? ⟨m.d,0,none⟩ = some (.int .i64 D.fuse))]) ⟨(oC 0 rfl rfl),trivial⟩ ?_
   refine Cfg.cond rfl (b := (decide (D.fuse > (0 : Int)))) kr (fun c3r => ?_) (fun c3r => ?_)
   ·have c3 := (dT c3r)
    refine Cfg.begL rfl ?_
    refine Lp 7 [dZ,dZ,dZ,(dS (.int .i64 D.fuse))] (some [0,24,26]) (fun S => [(∀ w1,S w1 → w1.cell? ⟨m.d,0,none⟩ = some (.int .i64 D.fuse)),(i6 (D.fuse - 1))]) ⟨(oC 0 rfl rfl),om,trivial⟩ ?_
    refine Le (Eff.store1 (b := m.d) (off := 0) (v := .int .i64 (D.fuse - 1)) rfl kr kr rfl kr 0 (cs := #[.int .i64 D.fuse,.int .i64 D.steps,.bool D.down,.slice (some ⟨m.lb,0,none⟩) D.last.length D.last.length,.map (some m.mb)]) (e := 76) kr (by simp)) ?_
    rintro ⟨⟩ -
    refine CfgL.done rfl ?_
    refine Cg (Γ' := [(0,[],.pointer (some ⟨m.d,0,none⟩))]) ?_
    refine Cfg.begL rfl ?_
    refine Lp 7 [dZ,dZ,dZ,(dS (.int .i64 D.steps))] (some [31,33]) (fun S => [(∀ w1,S w1 → w1.cell? ⟨m.d,1,none⟩ = some (.int .i64 D.steps)),(i6 (D.steps + 1))]) ⟨(oC 0 rfl rfl),om,trivial⟩ ?_
    refine Le (Eff.store1 (b := m.d) (off := 1) (v := .int .i64 (D.steps + 1)) rfl kr kr rfl kr 0 (cs := (#[.int .i64 D.fuse,.int .i64 D.steps,.bool D.down,.slice (some ⟨m.lb,0,none⟩) D.last.length D.last.length,.map (some m.mb)].setIfInBounds 0 (.int .i64 (D.fuse - 1)))) (e := 76) kr (by simp)) ?_
    rintro ⟨⟩ -
    refine CfgL.done rfl ?_
    refine Cg (Γ' := []) ?_
    refine Rg [2] [] n0 trivial ?_
    refine Cfg.ret rfl (rs := [.tmp 2]) rfl [.bool true] ⟨kr,trivial⟩ (fun w1 hp => ?_)
    have hx : spF D = (true,{ D with fuse := D.fuse - 1,steps := D.steps + 1 }) := by unfold spF; rw [if_neg (by simp [c1]),if_neg c2,if_pos c3]
    rw [hx]
    exact ⟨rfl,hp.ext,hp.own (m.d,_) mH⟩
   ·have c3 := (dF c3r)
    refine Cfg.begL rfl ?_
    refine Lp 7 [dZ,dZ,dZ,(dS (.int .i64 D.steps))] (some [31,33]) (fun S => [(∀ w1,S w1 → w1.cell? ⟨m.d,1,none⟩ = some (.int .i64 D.steps)),(i6 (D.steps + 1))]) ⟨(oC 0 rfl rfl),om,trivial⟩ ?_
    refine Le (Eff.store1 (b := m.d) (off := 1) (v := .int .i64 (D.steps + 1)) rfl kr kr rfl kr 0 (cs := #[.int .i64 D.fuse,.int .i64 D.steps,.bool D.down,.slice (some ⟨m.lb,0,none⟩) D.last.length D.last.length,.map (some m.mb)]) (e := 76) kr (by simp)) ?_
    rintro ⟨⟩ -
    refine CfgL.done rfl ?_
    refine Cg (Γ' := []) ?_
    refine Rg [2] [] n0 trivial ?_
    refine Cfg.ret rfl (rs := [.tmp 2]) rfl [.bool true] ⟨kr,trivial⟩ (fun w1 hp => ?_)
    have hx : spF D = (true,{ D with fuse := D.fuse,steps := D.steps + 1 }) := by unfold spF; rw [if_neg (by simp [c1]),if_neg c2,if_neg c3]
    rw [hx]
    exact ⟨rfl,hp.ext,hp.own (m.d,_) mH⟩
set_option maxRecDepth 100000 in
theorem dSectors (m : DM) (x : MX) (D : DK) (w : World) (hR : Has w (dO D m x)) :
  Calls Tryz.prog 60 #[.pointer (some ⟨m.d,0,none⟩)] w fun e w' => e = .returned (.int .i64 (D.last.length : Int)) ∧ Ext [] w w' := by
 refine enter (vs := [.pointer (some ⟨m.d,0,none⟩)]) [] [(m.d,.cells #[.int .i64 D.fuse,.int .i64 D.steps,.bool D.down,.slice (some ⟨m.lb,0,none⟩) D.last.length D.last.length,.map (some m.mb)] 76 (0,0)),(m.lb,.cells ((rows D.last).toArray) 37 (0,0)),(m.mb,.map x.1 x.2)] [] Tryz.func60 rfl kr (HP.ofHas hR) ?_
 refine Rg [0] [] n0 trivial ?_
 refine Rg [0,4] [] n0 trivial ?_
 refine Cfg.condF rfl (b := false) kr rfl ?_
 refine Rg [2] [dZ,dZ,dZ,dZ,(dS (.slice (some ⟨m.lb,0,none⟩) D.last.length D.last.length))] (fun S => [(∀ w1,S w1 → w1.cell? ⟨m.d,3,none⟩ = some (.slice (some ⟨m.lb,0,none⟩) D.last.length D.last.length))]) ⟨(rC 0 rfl rfl),trivial⟩ ?_
 refine Cfg.ret rfl (rs := [.tmp 2]) rfl [.int .i64 (D.last.length : Int)] ⟨kr,trivial⟩ (fun w1 hp => ?_)
 exact ⟨by simp [resOf],hp.ext⟩
set_option maxRecDepth 100000 in
theorem dSteps (m : DM) (x : MX) (D : DK) (w : World) (hR : Has w (dO D m x)) :
  Calls Tryz.prog 17 #[.pointer (some ⟨m.d,0,none⟩)] w fun e w' => e = .returned (.int .i64 D.steps) ∧ Ext [] w w' := by
 refine enter (vs := [.pointer (some ⟨m.d,0,none⟩)]) [] [(m.d,.cells #[.int .i64 D.fuse,.int .i64 D.steps,.bool D.down,.slice (some ⟨m.lb,0,none⟩) D.last.length D.last.length,.map (some m.mb)] 76 (0,0)),(m.lb,.cells ((rows D.last).toArray) 37 (0,0)),(m.mb,.map x.1 x.2)] [] Tryz.func17 rfl kr (HP.ofHas hR) ?_
 refine Rg [0] [] n0 trivial ?_
 refine Rg [0,4] [] n0 trivial ?_
 refine Cfg.condF rfl (b := false) kr rfl ?_
 refine Rg [2] [dZ,dZ,dZ,dZ,(dS (.int .i64 D.steps))] (fun S => [(∀ w1,S w1 → w1.cell? ⟨m.d,1,none⟩ = some (.int .i64 D.steps))]) ⟨(rC 0 rfl rfl),trivial⟩ ?_
 refine Cfg.ret rfl (rs := [.tmp 2]) rfl [.int .i64 D.steps] ⟨kr,trivial⟩ (fun w1 hp => ?_)
 exact ⟨by simp [resOf],hp.ext⟩
set_option maxRecDepth 100000 in
theorem dWrite (m : DM) (x : MX) (D : DK) (q : Int) (b : List UInt8) (w : World) (hg : DG D) (hmo : MapOk x.1 x.2 (wv2 D.wait)) (hA : Has w (dO D m x)) (hd : ((dO D m x).map (·.1)).Nodup) (hbl : b.length = 512) (hs : 0 ≤ D.steps ∧ D.steps ≤ 4611686018427387904) :
  Calls Tryz.prog 11 #[.pointer (some ⟨m.d,0,none⟩),.int .i64 q,.agg (bv b)] w fun e w' => ∃ x2 : MX,MapOk x2.1 x2.2 (wv2 (writeF D q b).2.wait) ∧ e = .returned (.int .i64 (writeF D q b).1) ∧ ∃ R1,HP w [m.d,m.lb,m.mb] R1 (dO (writeF D q b).2 m x2) w' := by
 have hn := hg.n
 have hf := hg.f
 have hfc := fltF_cases D q
 refine enter (vs := [.pointer (some ⟨m.d,0,none⟩),.int .i64 q,.agg (bv b)]) [m.d,m.lb,m.mb] [] [(m.d,.cells #[.int .i64 D.fuse,.int .i64 D.steps,.bool D.down,.slice (some ⟨m.lb,0,none⟩) D.last.length D.last.length,.map (some m.mb)] 76 (0,0)),(m.lb,.cells ((rows D.last).toArray) 37 (0,0)),(m.mb,.map x.1 x.2)] Tryz.func11 rfl kr (HP.ofL hA hd (fun e he => by cases he) (fun e he => by cases he)) ?_
 refine Cfg.begL rfl ?_
 refine Le (Eff.box (v := .agg (bv b)) rfl kr) ?_
 rintro bx ⟨hbx,nbx⟩
 refine Lp 1 [] (some [0,1,5]) n0 trivial ?_
 refine CfgL.done rfl ?_
 refine Cfg.begL rfl ?_
 refine Lp 2 [] none n0 trivial ?_
 refine Le (Eff.callA (vs := [.pointer (some ⟨m.d,0,none⟩),.int .i64 q]) (.int .i64 (fltF D q)) rfl Tryz.func39 rfl rfl kr (fun w1 h => dFault m x D q w1 (h.has (fun e he => List.mem_cons_of_mem _ he)))) ?_
 rintro ⟨⟩ -
 refine Lp 1 [] (some [0,1,5,7]) n0 trivial ?_
 refine CfgL.done rfl ?_
 refine Rg [0,1,5,7,12] [] n0 trivial ?_
 refine Cfg.cond rfl (b := ((fltF D q) != (0 : Int))) kr (fun c1r => ?_) (fun c1r => ?_)
 ·have c1 := (bne_iff_ne.1 c1r)
  refine Rg [6] [] n0 trivial ?_
  refine Cfg.ret rfl (rs := [.tmp 6]) rfl [.int .i64 (fltF D q)] ⟨kr,trivial⟩ (fun w1 hp => ?_)
  have hx : writeF D q b = (fltF D q,D) := if_pos c1
  rw [hx]
  have h9 := hp.sub (List.sublist_cons_self _ _)
  exact ⟨x,hmo,rfl,_,h9⟩
 ·have c1 := (bne_eq_false_iff_eq.1 c1r)
  refine Cfg.begL rfl ?_
  refine Lp 3 [] (some [0,1,5,16]) n0 trivial ?_
  refine Le (Eff.callM (vs := [.pointer (some ⟨m.d,0,none⟩)]) (.bool (spF D).1) 1 (.cells (dC (spF D).2 m) 76 (0,0)) rfl Tryz.func41 rfl rfl kr rfl (fun w1 h => dSpend m D w1 hf hs (h.own (m.d,_) (mG 1 rfl)))) ?_
  rintro ⟨⟩ -
  refine Lp 1 [] (some [0,1,5,18]) n0 trivial ?_
  refine CfgL.done rfl ?_
  refine Cfg.cond rfl (b := (!(spF D).1)) kr (fun c2r => ?_) (fun c2r => ?_)
  ·have c2 : ((spF D).1 = false) := (notT c2r)
   refine Cfg.reg rfl [6] [] (Γ' := [(6,[],.int .i64 13)]) (nd := (fun _ => [])) (fun _ => kr) trivial ?_
   refine Cfg.ret rfl (rs := [.tmp 6]) rfl [.int .i64 13] ⟨kr,trivial⟩ (fun w1 hp => ?_)
   have hx : writeF D q b = (13,(spF D).2) := by unfold writeF; rw [if_neg (by simp [c1]),if_neg (by simp [c2])]
   rw [hx]
   refine ⟨x,by rw [spF_wait]; exact hmo,rfl,[],?_⟩
   have h9 := hp.sub (List.sublist_cons_self _ _)
   rw [show dO (spF D).2 m x = [(m.d,.cells (dC (spF D).2 m) 76 (0,0)),(m.lb,.cells (rows (spF D).2.last).toArray 37 (0,0)),(m.mb,.map x.1 x.2)] from rfl,spF_last]
   exact h9
  ·have c2 : ((spF D).1 = true) := (notF c2r)
   refine Cfg.begA rfl kr [(bx,.cells (bv b) 37 (0,0)),(m.d,.cells #[.int .i64 ((spF D).2.fuse),.int .i64 ((spF D).2.steps),.bool (spF D).2.down,.slice (some ⟨m.lb,0,none⟩) (spF D).2.last.length (spF D).2.last.length,.map (some m.mb)] 76 (0,0)),(m.lb,.cells ((rows D.last).toArray) 37 (0,0))] ?_
   refine Ap [0,1,2,3,4,5,6] [dZ,dZ,dZ,dZ,(dS (.map (some m.mb))),dZ,(dS (.agg (bv b)))] (some [23,24,25]) (tF 7 1) (.cons_cons _ (.cons_cons _ (.cons_cons _ (.cons _ .slnil)))) 1 (fun S => [(∀ w1,S w1 → w1.cell? ⟨m.d,4,none⟩ = some (.map (some m.mb))),(∀ w1,S w1 → (loadVar 37 ⟨bx,0,none⟩).run Tryz.prog w1 = .ok (.agg (bv b)) w1)]) ⟨(oC 1 rfl rfl),(fun w1 h => load_row (h.own (bx,_) (mG 0 rfl)) Tryz.underlying37 rfl kr ((bv_size _).trans hbl)),trivial⟩ ?_
   refine Ae 7 rfl 0  (Eff.mapSet (r := m.mb) (k := q) (u := .agg (bv b)) (es := x.1) (ck := x.2) rfl Tryz.underlying72 Tryz.underlying3 kr kr kr hmo 3 kr) (fun _ _ => (.cons_cons _ (.cons_cons _ (.cons_cons _ (.cons _ .slnil))))) ?_
   rintro xq hxq
   refine CfgA.done kr ?_
   refine Cg (Γ' := []) ?_
   refine Rg [6] [] n0 trivial ?_
   refine Cfg.ret rfl (rs := [.tmp 6]) rfl [.int .i64 0] ⟨kr,trivial⟩ (fun w1 hp => ?_)
   have hx : writeF D q b = (0,{ (spF D).2 with wait := wset (spF D).2.wait q b }) := by unfold writeF; rw [if_neg (by simp [c1]),if_pos (by simpa using c2)]
   rw [hx]
   refine ⟨xq,by show MapOk _ _ (wv2 (wset (spF D).2.wait q b)); rw [spF_wait,← mset_wv]; exact hxq,rfl,[],?_⟩
   have h9 := hp.sub (List.sublist_cons_self _ _)
   show HP w _ _ [(m.d,.cells (dC (spF D).2 m) 76 (0,0)),(m.lb,.cells (rows (spF D).2.last).toArray 37 (0,0)),(m.mb,.map xq.1 xq.2)] w1
   rw [spF_last]
   exact h9
end Go.Proofs.YtfgdepggdiibdaaGreatDoor
namespace Go.Proofs.YtfgdepggdiibdaaGreatDoor
open Go.Shelf Go.Proofs
def L.keys79_ren : Go.Shelf.Ren := ⟨fun | 7 => 79 | 10 => 122 | n => n,fun | 23 => 94 | 26 => 3 | 3 => 111 | 28 => 165 | 0 => 0 | 27 => 164 | 33 => 173 | 4 => 4 | n => n,fun | n => n⟩
theorem L.keys79 : Go.Proofs.SlLaysZI.n7 Tryz.prog L.keys79_ren := {
 mixed := by kernel_rfl,
 f7 := ⟨Tryz.f79.name,by decide,Tryz.func79.trans (congrArg some kr)⟩,
 f10 := ⟨Tryz.f122.name,by decide,Tryz.func122.trans (congrArg some kr)⟩,
 t0 := Tryz.underlying0,
 a0 := Tryz.isAgg0,
 z0 := Tryz.sizeOf0,
 v0 := Tryz.zeroValue0,
 t4 := Tryz.underlying4,
 a4 := Tryz.isAgg4,
 z4 := Tryz.sizeOf4,
 v4 := Tryz.zeroValue4,
 t23 := Tryz.underlying94,
 a23 := Tryz.isAgg94,
 z23 := Tryz.sizeOf94,
 v23 := Tryz.zeroValue94,
 t26 := Tryz.underlying3,
 a26 := Tryz.isAgg3,
 z26 := Tryz.sizeOf3,
 v26 := Tryz.zeroValue3,
 t27 := Tryz.underlying164,
 a27 := Tryz.isAgg164,
 z27 := Tryz.sizeOf164,
 v27 := Tryz.zeroValue164,
 t28 := Tryz.underlying165,
 a28 := Tryz.isAgg165,
 z28 := Tryz.sizeOf165,
 v28 := Tryz.zeroValue165,
 t33 := Tryz.underlying173,
 a33 := Tryz.isAgg173,
 z33 := Tryz.sizeOf173,
 v33 := Tryz.zeroValue173 }
def L.sorted78_ren : Go.Shelf.Ren := ⟨fun | 6 => 78 | 8 => 120 | 9 => 121 | 11 => 149 | 13 => 127 | 12 => 150 | 23 => 160 | 24 => 161 | 14 => 177 | 15 => 178 | 16 => 179 | 17 => 180 | 18 => 181 | 19 => 182 | 20 => 183 | 21 => 184 | 22 => 185 | 25 => 198 | 26 => 187 | 27 => 188 | 28 => 199 | 29 => 200 | 30 => 201 | 31 => 206 | n => n,fun | 26 => 3 | 28 => 165 | 24 => 61 | 0 => 0 | 3 => 3 | 37 => 189 | 48 => 157 | 50 => 141 | 4 => 4 | 40 => 239 | 39 => 238 | 45 => 109 | 5 => 5 | 9 => 9 | 51 => 267 | 55 => 270 | 57 => 281 | 58 => 127 | 33 => 173 | n => n,fun | n => n⟩
theorem L.sorted78 : Go.Proofs.SlLaysZI.n6 Tryz.prog L.sorted78_ren := {
 mixed := by kernel_rfl,
 f6 := ⟨Tryz.f78.name,by decide,Tryz.func78.trans (congrArg some kr)⟩,
 f8 := ⟨Tryz.f120.name,by decide,Tryz.func120.trans (congrArg some kr)⟩,
 f11 := ⟨Tryz.f149.name,by decide,Tryz.func149.trans (congrArg some kr)⟩,
 t0 := Tryz.underlying0,
 a0 := Tryz.isAgg0,
 z0 := Tryz.sizeOf0,
 v0 := Tryz.zeroValue0,
 t24 := Tryz.underlying61,
 a24 := Tryz.isAgg61,
 z24 := Tryz.sizeOf61,
 v24 := Tryz.zeroValue61,
 t26 := Tryz.underlying3,
 a26 := Tryz.isAgg3,
 z26 := Tryz.sizeOf3,
 v26 := Tryz.zeroValue3,
 t28 := Tryz.underlying165,
 a28 := Tryz.isAgg165,
 z28 := Tryz.sizeOf165,
 v28 := Tryz.zeroValue165,
 i26 := by kernel_rfl }
def L.sort121_ren : Go.Shelf.Ren := ⟨fun | 5 => 121 | 8 => 127 | 7 => 150 | 19 => 160 | 20 => 161 | 10 => 177 | 11 => 178 | 12 => 179 | 13 => 180 | 14 => 181 | 15 => 182 | 16 => 183 | 17 => 184 | 18 => 185 | 30 => 198 | 31 => 187 | 32 => 188 | 33 => 199 | 34 => 200 | 35 => 201 | 40 => 206 | n => n,fun | 23 => 61 | 25 => 3 | 3 => 3 | 32 => 189 | 22 => 61 | 0 => 0 | 44 => 157 | 46 => 141 | 4 => 4 | 36 => 239 | 35 => 238 | 41 => 109 | 5 => 5 | 9 => 9 | 53 => 267 | 57 => 270 | 63 => 281 | 64 => 127 | n => n,fun | n => n⟩
theorem L.sort121 : Go.Proofs.SlLaysM.n5 Tryz.prog L.sort121_ren := {
 mixed := by kernel_rfl,
 f5 := ⟨Tryz.f121.name,by decide,Tryz.func121.trans (congrArg some kr)⟩,
 f7 := ⟨Tryz.f150.name,by decide,Tryz.func150.trans (congrArg some kr)⟩,
 f8 := Tryz.func127.trans (congrArg some kr),
 f10 := ⟨Tryz.f177.name,by decide,Tryz.func177.trans (congrArg some kr)⟩,
 f11 := ⟨Tryz.f178.name,by decide,Tryz.func178.trans (congrArg some kr)⟩,
 f12 := ⟨Tryz.f179.name,by decide,Tryz.func179.trans (congrArg some kr)⟩,
 f13 := ⟨Tryz.f180.name,by decide,Tryz.func180.trans (congrArg some kr)⟩,
 f14 := ⟨Tryz.f181.name,by decide,Tryz.func181.trans (congrArg some kr)⟩,
 f15 := ⟨Tryz.f182.name,by decide,Tryz.func182.trans (congrArg some kr)⟩,
 f16 := ⟨Tryz.f183.name,by decide,Tryz.func183.trans (congrArg some kr)⟩,
 f17 := ⟨Tryz.f184.name,by decide,Tryz.func184.trans (congrArg some kr)⟩,
 f18 := ⟨Tryz.f185.name,by decide,Tryz.func185.trans (congrArg some kr)⟩,
 f19 := Tryz.func160.trans (congrArg some kr),
 f20 := Tryz.func161.trans (congrArg some kr),
 f30 := ⟨Tryz.f198.name,by decide,Tryz.func198.trans (congrArg some kr)⟩,
 f31 := Tryz.func187.trans (congrArg some kr),
 f32 := Tryz.func188.trans (congrArg some kr),
 f33 := ⟨Tryz.f199.name,by decide,Tryz.func199.trans (congrArg some kr)⟩,
 f34 := ⟨Tryz.f200.name,by decide,Tryz.func200.trans (congrArg some kr)⟩,
 f35 := ⟨Tryz.f201.name,by decide,Tryz.func201.trans (congrArg some kr)⟩,
 f40 := ⟨Tryz.f206.name,by decide,Tryz.func206.trans (congrArg some kr)⟩,
 t0 := Tryz.underlying0,
 a0 := Tryz.isAgg0,
 z0 := Tryz.sizeOf0,
 v0 := Tryz.zeroValue0,
 t3 := Tryz.underlying3,
 a3 := Tryz.isAgg3,
 z3 := Tryz.sizeOf3,
 v3 := Tryz.zeroValue3,
 t4 := Tryz.underlying4,
 a4 := Tryz.isAgg4,
 z4 := Tryz.sizeOf4,
 v4 := Tryz.zeroValue4,
 t5 := Tryz.underlying5,
 a5 := Tryz.isAgg5,
 z5 := Tryz.sizeOf5,
 v5 := Tryz.zeroValue5,
 t9 := Tryz.underlying9,
 a9 := Tryz.isAgg9,
 z9 := Tryz.sizeOf9,
 v9 := Tryz.zeroValue9,
 t22 := Tryz.underlying61,
 a22 := Tryz.isAgg61,
 z22 := Tryz.sizeOf61,
 v22 := Tryz.zeroValue61,
 t23 := Tryz.underlying61,
 a23 := Tryz.isAgg61,
 z23 := Tryz.sizeOf61,
 v23 := Tryz.zeroValue61,
 t25 := Tryz.underlying3,
 a25 := Tryz.isAgg3,
 z25 := Tryz.sizeOf3,
 v25 := Tryz.zeroValue3,
 t32 := Tryz.underlying189,
 a32 := Tryz.isAgg189,
 z32 := Tryz.sizeOf189,
 v32 := Tryz.zeroValue189,
 t35 := Tryz.underlying238,
 a35 := Tryz.isAgg238,
 z35 := Tryz.sizeOf238,
 v35 := Tryz.zeroValue238,
 t36 := Tryz.underlying239,
 a36 := Tryz.isAgg239,
 z36 := Tryz.sizeOf239,
 v36 := Tryz.zeroValue239,
 t41 := Tryz.underlying109,
 a41 := Tryz.isAgg109,
 z41 := Tryz.sizeOf109,
 v41 := Tryz.zeroValue109,
 t44 := Tryz.underlying157,
 a44 := Tryz.isAgg157,
 z44 := Tryz.sizeOf157,
 v44 := Tryz.zeroValue157,
 t46 := Tryz.underlying141,
 a46 := Tryz.isAgg141,
 z46 := Tryz.sizeOf141,
 v46 := Tryz.zeroValue141,
 t53 := Tryz.underlying267,
 a53 := Tryz.isAgg267,
 z53 := Tryz.sizeOf267,
 v53 := Tryz.zeroValue267,
 t57 := Tryz.underlying270,
 a57 := Tryz.isAgg270,
 z57 := Tryz.sizeOf270,
 v57 := Tryz.zeroValue270,
 t63 := Tryz.underlying281,
 a63 := Tryz.isAgg281,
 z63 := Tryz.sizeOf281,
 v63 := Tryz.zeroValue281,
 t64 := Tryz.underlying127,
 a64 := Tryz.isAgg127,
 z64 := Tryz.sizeOf127,
 v64 := Tryz.zeroValue127 }
def L.keys81_ren : Go.Shelf.Ren := ⟨fun | 7 => 81 | 10 => 124 | n => n,fun | 23 => 170 | 26 => 3 | 3 => 3 | 28 => 165 | 0 => 0 | 27 => 164 | 33 => 173 | 4 => 4 | n => n,fun | n => n⟩
theorem L.keys81 : Go.Proofs.SlLaysZI.n7 Tryz.prog L.keys81_ren := {
 mixed := by kernel_rfl,
 f7 := ⟨Tryz.f81.name,by decide,Tryz.func81.trans (congrArg some kr)⟩,
 f10 := ⟨Tryz.f124.name,by decide,Tryz.func124.trans (congrArg some kr)⟩,
 t0 := Tryz.underlying0,
 a0 := Tryz.isAgg0,
 z0 := Tryz.sizeOf0,
 v0 := Tryz.zeroValue0,
 t4 := Tryz.underlying4,
 a4 := Tryz.isAgg4,
 z4 := Tryz.sizeOf4,
 v4 := Tryz.zeroValue4,
 t23 := Tryz.underlying170,
 a23 := Tryz.isAgg170,
 z23 := Tryz.sizeOf170,
 v23 := Tryz.zeroValue170,
 t26 := Tryz.underlying3,
 a26 := Tryz.isAgg3,
 z26 := Tryz.sizeOf3,
 v26 := Tryz.zeroValue3,
 t27 := Tryz.underlying164,
 a27 := Tryz.isAgg164,
 z27 := Tryz.sizeOf164,
 v27 := Tryz.zeroValue164,
 t28 := Tryz.underlying165,
 a28 := Tryz.isAgg165,
 z28 := Tryz.sizeOf165,
 v28 := Tryz.zeroValue165,
 t33 := Tryz.underlying173,
 a33 := Tryz.isAgg173,
 z33 := Tryz.sizeOf173,
 v33 := Tryz.zeroValue173 }
def L.keys194_ren : Go.Shelf.Ren := ⟨fun | 7 => 194 | 10 => 205 | n => n,fun | 23 => 72 | 26 => 3 | 3 => 37 | 28 => 165 | 0 => 0 | 27 => 164 | 33 => 173 | 4 => 4 | n => n,fun | n => n⟩
theorem L.keys194 : Go.Proofs.SlLaysZI.n7 Tryz.prog L.keys194_ren := {
 mixed := by kernel_rfl,
 f7 := ⟨Tryz.f194.name,by decide,Tryz.func194.trans (congrArg some kr)⟩,
 f10 := ⟨Tryz.f205.name,by decide,Tryz.func205.trans (congrArg some kr)⟩,
 t0 := Tryz.underlying0,
 a0 := Tryz.isAgg0,
 z0 := Tryz.sizeOf0,
 v0 := Tryz.zeroValue0,
 t4 := Tryz.underlying4,
 a4 := Tryz.isAgg4,
 z4 := Tryz.sizeOf4,
 v4 := Tryz.zeroValue4,
 t23 := Tryz.underlying72,
 a23 := Tryz.isAgg72,
 z23 := Tryz.sizeOf72,
 v23 := Tryz.zeroValue72,
 t26 := Tryz.underlying3,
 a26 := Tryz.isAgg3,
 z26 := Tryz.sizeOf3,
 v26 := Tryz.zeroValue3,
 t27 := Tryz.underlying164,
 a27 := Tryz.isAgg164,
 z27 := Tryz.sizeOf164,
 v27 := Tryz.zeroValue164,
 t28 := Tryz.underlying165,
 a28 := Tryz.isAgg165,
 z28 := Tryz.sizeOf165,
 v28 := Tryz.zeroValue165,
 t33 := Tryz.underlying173,
 a33 := Tryz.isAgg173,
 z33 := Tryz.sizeOf173,
 v33 := Tryz.zeroValue173 }
theorem L.sorts78 (m : Nat) : AnyZI.SortsIn Tryz.prog L.sorted78_ren Fence.wide m :=
  ⟨fun blk off cap ss W hH hblk hsz => callsIn_wide.2 (AnyM.slices_Sort_int L.sort121 blk off cap ss W hH hblk hsz),
   fun p cap W => callsIn_wide.2 (AnyM.slices_Sort_int_none L.sort121 p cap W)⟩
end Go.Proofs.YtfgdepggdiibdaaGreatDoor
namespace Go.Proofs.YtfgdepggdiibdaaGreatDoor
open Go.Shelf Go.Proofs
theorem L.ksorted79 : K.KSortedKeys Tryz.prog 78 122 3 := K.kSortedKeys_of L.keys79 L.sorted78 L.sorts78 (enters_of Tryz.func121 (by kernel_rfl) rfl)
theorem L.ksorted81 : K.KSortedKeys Tryz.prog 78 124 3 := K.kSortedKeys_of L.keys81 L.sorted78 L.sorts78 (enters_of Tryz.func121 (by kernel_rfl) rfl)
theorem L.ksorted194 : K.KSortedKeys Tryz.prog 78 205 3 := K.kSortedKeys_of L.keys194 L.sorted78 L.sorts78 (enters_of Tryz.func121 (by kernel_rfl) rfl)
end Go.Proofs.YtfgdepggdiibdaaGreatDoor
namespace Go.Proofs.YtfgdepggdiibdaaGreatDoor
open K
set_option linter.unusedVariables false
set_option maxRecDepth 100000 in
theorem dOrder (m : DM) (x : MX) (D : DK) (w : World) (hg : DG D) (hmo : MapOk x.1 x.2 (wv2 D.wait)) (hR : Has w (dO D m x)) :
  Calls Tryz.prog 168 #[.pointer (some ⟨m.d,3,none⟩)] w fun e w' => ∃ o : K.Own,OwnOk o 1 D.wait.length ((keysW D.wait).map Go.encZ) ∧ e = .returned (.slice o.a D.wait.length o.c) ∧ Has w' (o.o 3 ((keysW D.wait).map Go.encZ)) ∧ (∀ x ∈ o.o 3 ((keysW D.wait).map Go.encZ),w.heap.size ≤ x.1) ∧ Ext [] w w' := by
 have hn := hg.n
 refine enter (vs := [.pointer (some ⟨m.d,3,none⟩)]) [] [(m.d,.cells #[.int .i64 D.fuse,.int .i64 D.steps,.bool D.down,.slice (some ⟨m.lb,0,none⟩) D.last.length D.last.length,.map (some m.mb)] 76 (0,0)),(m.lb,.cells ((rows D.last).toArray) 37 (0,0)),(m.mb,.map x.1 x.2)] [] Tryz.func168 rfl kr (HP.ofHas hR) ?_
 refine Rg [0] [] n0 trivial ?_
 refine Cfg.begL rfl ?_
 refine Lp 4 [dZ,dZ,dZ,(dS (.map (some m.mb)))] (some [6]) (fun S => [(∀ w1,S w1 → w1.cell? ⟨m.d,4,none⟩ = some (.map (some m.mb)))]) ⟨(rC 0 rfl rfl),trivial⟩ ?_
 refine Le (Eff.callN (vs := [.map (some m.mb)]) (fun tb => .func (.func 205) #[] #[pT tb]) (fun tb => tb) (fun _ => .cells #[.map (some m.mb)] 72 (0,0)) (fun _ => True) rfl Tryz.func194 rfl rfl kr (fun w1 h => mKeys m.mb w1)) ?_
 rintro tb -
 refine Le (Eff.callOF (vs := [.func (.func 205) #[] #[pT tb]]) 3 1 D.wait.length ((keysW D.wait).map Go.encZ) [(tb,.cells #[.map (some m.mb)] 72 (0,0))] [] rfl rfl Tryz.func78 rfl rfl kr (fun w1 h => by have h9 := sorted_gives L.ksorted194 tb m.mb x.1 x.2 (wv2 D.wait) w1 hmo (h.ro (m.mb,_) (mG 2 rfl)) (fun p hp => by obtain ⟨x,hx,rfl⟩ := List.mem_map.1 hp; have := hg.k x hx; simp only; omega) (by unfold wv2; rw [List.length_map]; exact hg.wl) (h.ocell 0 rfl rfl); rw [show (wv2 D.wait).length = D.wait.length by unfold wv2; rw [List.length_map]] at h9; exact h9)) ?_
 rintro o ko
 refine Lp 1 [] (some [2]) n0 trivial ?_
 refine CfgL.done rfl ?_
 refine Cfg.ret rfl (rs := [.tmp 2]) rfl [.slice (Own.a o) D.wait.length (Own.c o)] ⟨kr,trivial⟩ (fun w1 hp => ?_)
 exact ⟨o,ko,rfl,fun x hx => hp.own x (by simp [hx]),fun x hx => (hp.mine x (by simp [hx])).resolve_right (fun h => by cases h),hp.ext⟩
end Go.Proofs.YtfgdepggdiibdaaGreatDoor
namespace Go.Proofs.YtfgdepggdiibdaaGreatDoor
open K
set_option linter.unusedVariables false
def setl (p : Nat → Bool) (W : Wt) : Nat → List Int → List (List UInt8) → List (List UInt8)
 | _,[],L => L
 | i,q :: ks,L => setl p W (i + 1) ks (if p i = true then L.set q.toNat ((wget W q).getD zb) else L)
def settleF (p : Nat → Bool) (D : DK) : DK := { D with last := setl p D.wait 0 (keysW D.wait) D.last,wait := [] }
theorem setl_len (p : Nat → Bool) (W : Wt) : ∀ (ks : List Int) (i : Nat) (L : List (List UInt8)),(setl p W i ks L).length = L.length
 | [],_,_ => rfl
 | q :: ks,i,L => by rw [setl,setl_len p W ks]; split <;> simp
theorem wgetD_len {W : Wt} (h : ∀ p ∈ W,p.2.length = 512) (q : Int) : ((wget W q).getD zb).length = 512 := by
 cases hg : wget W q with
 | none => exact zb_len
 | some b => exact h _ (wget_mem hg)
theorem W5.set {L : List (List UInt8)} {b : List UInt8} (h : W5 L) (hb : b.length = 512) (i : Nat) : W5 (L.set i b) := fun x hx => by
 rcases List.mem_or_eq_of_mem_set hx with hx | rfl
 ·exact h x hx
 ·exact hb
theorem setl_w5 {W : Wt} (hw : ∀ p ∈ W,p.2.length = 512) (p : Nat → Bool) : ∀ (ks : List Int) (i : Nat) {L : List (List UInt8)},W5 L → W5 (setl p W i ks L)
 | [],_,_,h => h
 | q :: ks,i,L,h => by
  rw [setl]
  refine setl_w5 hw p ks _ ?_
  split
  ·exact h.set (wgetD_len hw q) _
  ·exact h
theorem DG.settle {D : DK} (h : DG D) (p : Nat → Bool) : DG (settleF p D) :=
 ⟨setl_w5 h.ww p _ _ h.w,(fun _ hp => by cases hp),(fun _ hp => by cases hp),by show (setl _ _ _ _ _).length ≤ _; rw [setl_len]; exact h.n,List.nodup_nil,h.f⟩
theorem keys_mem (W : Wt) (x : Int) : x ∈ keysW W ↔ x ∈ W.map (·.1) := by
 unfold keysW
 rw [(srt_perm _).mem_iff]
 unfold wv2
 rw [List.map_map]; rfl
theorem keys_in {D : DK} (h : DG D) {k : Nat} (hk : k < D.wait.length) : 0 ≤ (keysW D.wait).getD k 0 ∧ (keysW D.wait).getD k 0 < (D.last.length : Int) := by
 have h1 : k < (keysW D.wait).length := by rw [keysW_len]; exact hk
 have h2 : (keysW D.wait).getD k 0 ∈ keysW D.wait := by rw [List.getD_eq_getElem?_getD,List.getElem?_eq_getElem h1]; exact List.getElem_mem h1
 obtain ⟨p,hp,e⟩ := List.mem_map.1 ((keys_mem _ _).1 h2)
 rw [← e]; exact h.k p hp
theorem key_cell {w : World} {ob k : Nat} {ks : List Int} {oj : List Value} {t : TypeId} {fr : Nat × Nat} (h : w.heap[ob]? = some (.cells (ks.map Go.encZ ++ oj).toArray t fr)) (hk : k < ks.length) : w.cell? ⟨ob,k,none⟩ = some (.int .i64 (ks.getD k 0)) := by
 rw [cell_cells h,List.getElem?_toArray,List.getElem?_append_left (by rw [List.length_map]; exact hk),List.getElem?_map,List.getD_eq_getElem?_getD,List.getElem?_eq_getElem hk]
 rfl
theorem setl_step {p : Nat → Bool} {W : Wt} {k : Nat} {ks : List Int} (h : k < ks.length) (L : List (List UInt8)) : setl p W k (ks.drop k) L = setl p W (k + 1) (ks.drop (k + 1)) (if p k = true then L.set (ks.getD k 0).toNat ((wget W (ks.getD k 0)).getD zb) else L) := by
 rw [List.drop_eq_getElem_cons h,setl,List.getD_eq_getElem?_getD,List.getElem?_eq_getElem h]; rfl
def barF (D : DK) : Int × DK := if (spF D).1 = true then (0,settleF (fun _ => true) (spF D).2) else (13,(spF D).2)
def crashF (kept : List Bool) (D : DK) : DK := { settleF (fun i => kept.getD i false) D with fuse := -1,down := false }
theorem DG.bar {D : DK} (h : DG D) : DG (barF D).2 := by
 unfold barF; split
 ·exact h.sp.settle _
 ·exact h.sp
theorem DG.crash {D : DK} (h : DG D) (kept : List Bool) : DG (crashF kept D) := by
 have h1 := h.settle (fun i => kept.getD i false)
 exact ⟨h1.w,h1.ww,h1.k,h1.n,h1.nd,⟨by show (-1 : Int) ≤ -1; decide,by show (-1 : Int) ≤ 9223372036854775807; decide⟩⟩
theorem barF_len (D : DK) : (barF D).2.last.length = D.last.length := by
 unfold barF; split
 ·show (setl _ _ _ _ _).length = _; rw [setl_len,spF_last]
 ·rw [spF_last]
theorem barF_steps (D : DK) : D.steps ≤ (barF D).2.steps ∧ (barF D).2.steps ≤ D.steps + 1 := by
 have := spF_steps D
 unfold barF; split
 ·exact this
 ·exact this
set_option maxRecDepth 100000 in
theorem dSettle (m : DM) (x : MX) (D : DK) (f : Nat) (fnF : Func) (cF : Code) (caps : List Value) (p : Nat → Bool) (Rk : List (Nat × Obj)) (w : World) (hg : DG D) (hmo : MapOk x.1 x.2 (wv2 D.wait)) (hA : Has w (dO D m x)) (hd : ((dO D m x).map (·.1)).Nodup) (hfn : Tryz.prog.funcs[f]? = some fnF) (hnm : (fnF.name == "runtime.NumGoroutine") = false) (hcF : fnF.body = some cF) (hso : ∀ (i : Nat) (w : World),i ≤ 4096 → Has w Rk → Calls Tryz.prog f ([Value.int .i64 (i : Int)] ++ caps).toArray w fun e w' => e = .returned (.bool (p i)) ∧ Ext [] w w') (hRk : Has w Rk) (hnk : ∀ e ∈ Rk,e.1 ∉ (dO D m x).map (·.1)) :
  Calls Tryz.prog 137 #[.pointer (some ⟨m.d,3,none⟩),.func (.func f) #[] caps.toArray] w fun e w' => ∃ x2 : MX,MapOk x2.1 x2.2 (wv2 (settleF p D).wait) ∧ e = .returned (.tuple #[]) ∧ ∃ R1,HP w [m.d,m.lb,m.mb] R1 (dO (settleF p D) m x2) w' := by
 have hn := hg.n
 have hwn := hg.wn
 refine enter (vs := [.pointer (some ⟨m.d,3,none⟩),.func (.func f) #[] caps.toArray]) [m.d,m.lb,m.mb] Rk [(m.d,.cells #[.int .i64 D.fuse,.int .i64 D.steps,.bool D.down,.slice (some ⟨m.lb,0,none⟩) D.last.length D.last.length,.map (some m.mb)] 76 (0,0)),(m.lb,.cells ((rows D.last).toArray) 37 (0,0)),(m.mb,.map x.1 x.2)] Tryz.func137 rfl kr (HP.ofL hA hd hRk hnk) ?_
 refine Cfg.begL rfl ?_
 refine Lp 1 [] none n0 trivial ?_
 refine Le (Eff.callOF (vs := [.pointer (some ⟨m.d,3,none⟩)]) 3 1 D.wait.length ((keysW D.wait).map Go.encZ) [(m.d,.cells #[.int .i64 D.fuse,.int .i64 D.steps,.bool D.down,.slice (some ⟨m.lb,0,none⟩) D.last.length D.last.length,.map (some m.mb)] 76 (0,0)),(m.lb,.cells ((rows D.last).toArray) 37 (0,0)),(m.mb,.map x.1 x.2)] [] rfl rfl Tryz.func168 rfl rfl kr (fun w1 h => dOrder m x D w1 hg hmo (h.has (fun e he => he)))) ?_
 rintro o ko
 refine Lp 2 [] (some [0,1,7,8,9]) n0 trivial ?_
 refine CfgL.done rfl ?_
 refine Cfg.loop rfl (ι := Nat × List (List UInt8)) (fun (xz : Nat × List (List UInt8)) => match xz with | (k,L) => [(9,[],.int .i64 (k : Int)),(8,[],.int .i64 (D.wait.length : Int)),(7,[],.slice (Own.a o) D.wait.length (Own.c o)),(0,[],.pointer (some ⟨m.d,3,none⟩)),(1,[],.func (.func f) #[] caps.toArray)]) (fun (xz : Nat × List (List UInt8)) => match xz with | (k,L) => ([(m.d,.cells #[.int .i64 D.fuse,.int .i64 D.steps,.bool D.down,.slice (some ⟨m.lb,0,none⟩) D.last.length D.last.length,.map (some m.mb)] 76 (0,0)),(m.lb,.cells ((rows L).toArray) 37 (0,0)),(m.mb,.map x.1 x.2)] ++ (Own.o 3 ((keysW D.wait).map Go.encZ) o ++ []))) (fun (xz : Nat × List (List UInt8)) => match xz with | (k,L) => (k ≤ D.wait.length) ∧ (W5 L) ∧ (L.length = D.last.length) ∧ (setl p D.wait k ((keysW D.wait).drop k) L = setl p D.wait 0 (keysW D.wait) D.last)) (fun (xz : Nat × List (List UInt8)) => match xz with | (k,L) => D.wait.length - k) (0,D.last) ?_ (Conv.mk kr) slr ?_
 ·exact ⟨Nat.zero_le _,hg.w,rfl,rfl⟩
 ·rintro ⟨k,L⟩ ⟨hk,hW,hl,hs⟩
  refine Rg [0,1,7,8,9,10] [] n0 trivial ?_
  refine Cfg.cond rfl (b := (decide ((k : Int) < (D.wait.length : Int)))) kr (fun c1r => ?_) (fun c1r => ?_)
  ·have c1 := (dT c1r)
   obtain ⟨⟨ob,oc,oj⟩,rfl⟩ := own_some ko om
   refine Cfg.setO (O' := [(m.d,.cells #[.int .i64 D.fuse,.int .i64 D.steps,.bool D.down,.slice (some ⟨m.lb,0,none⟩) D.last.length D.last.length,.map (some m.mb)] 76 (0,0)),(m.lb,.cells ((rows L).toArray) 37 (0,0)),(m.mb,.map x.1 x.2),(ob,.cells ((((keysW D.wait).map Go.encZ) ++ oj).toArray) 3 (0,0))]) rfl ?_
   refine Conv.cfg (Γ' := [(10,[],.bool (decide ((k : Int) < (D.wait.length : Int)))),(9,[],.int .i64 (k : Int)),(8,[],.int .i64 (D.wait.length : Int)),(7,[],.slice (some ⟨ob,0,none⟩) D.wait.length oc),(0,[],.pointer (some ⟨m.d,3,none⟩)),(1,[],.func (.func f) #[] caps.toArray)]) (Conv.mk kr) ?_
   have hki := keys_in hg (k := k) om
   refine Rg [0,1,4,5,7,8,9] [dZ,dZ,(dS (.int .i64 ((keysW D.wait).getD k 0)))] (fun S => [(0 ≤ (k : Int) ∧ (k : Int) < (D.wait.length : Int)),(cE S ob k (.int .i64 ((keysW D.wait).getD k 0)))]) ⟨om,(fun w1 h => key_cell (h.own (ob,_) (mG 3 rfl)) (by rw [keysW_len]; omega)),trivial⟩ ?_
   refine Cfg.begL rfl ?_
   refine Lp 2 [] (some [0,1,5,7,8,9,14,15]) n0 trivial ?_
   refine Le (Eff.callAVC (vs := [.int .i64 (k : Int)]) (.bool (p k)) caps rfl kr hfn hnm hcF kr (fun w1 h => hso k w1 om (h.hasR (fun e he => he)))) ?_
   rintro ⟨⟩ -
   refine CfgL.done rfl ?_
   refine Cg (Γ' := [(16,[],.bool (p k)),(5,[],.int .i64 ((keysW D.wait).getD k 0)),(9,[],.int .i64 (k : Int)),(8,[],.int .i64 (D.wait.length : Int)),(7,[],.slice (some ⟨ob,0,none⟩) D.wait.length oc),(0,[],.pointer (some ⟨m.d,3,none⟩)),(1,[],.func (.func f) #[] caps.toArray)]) ?_
   refine Cfg.cond rfl (b := (p k)) kr (fun c2r => ?_) (fun c2r => ?_)
   ·have c2 : ((p k) = true) := c2r
    refine Cfg.begA rfl kr [(m.d,.cells #[.int .i64 D.fuse,.int .i64 D.steps,.bool D.down,.slice (some ⟨m.lb,0,none⟩) D.last.length D.last.length,.map (some m.mb)] 76 (0,0)),(m.mb,.map x.1 x.2),(ob,.cells ((((keysW D.wait).map Go.encZ) ++ oj).toArray) 3 (0,0))] ?_
    refine Ap (List.range 10) [dZ,dZ,dZ,(dS (.slice (some ⟨m.lb,0,none⟩) D.last.length D.last.length)),dZ,dZ,dZ,dZ,(dS (.map (some m.mb)))] (some [0,1,7,8,9,20,21,25,26]) (tF 10 3) (.cons_cons _ (.cons _ (.cons_cons _ (.cons_cons _ .slnil)))) 3 (fun S => [(∀ w1,S w1 → w1.cell? ⟨m.d,3,none⟩ = some (.slice (some ⟨m.lb,0,none⟩) D.last.length D.last.length)),(∀ w1,S w1 → w1.cell? ⟨m.d,4,none⟩ = some (.map (some m.mb)))]) ⟨(oC 0 rfl rfl),(oC 0 rfl rfl),trivial⟩ ?_
    refine Ae 10 rfl 2  (Eff.waitGet (r := m.mb) (k := ((keysW D.wait).getD k 0)) rfl rfl kr kr hmo (fun w1 h => h.own (m.mb,_) (mG 2 rfl))) (fun _ _ => (.cons_cons _ (.cons _ (.cons_cons _ (.cons_cons _ .slnil))))) ?_
    rintro ⟨⟩ -
    refine Ap [11] [] (some [0,1,7,8,9,27,28]) (tF 12 1) (.cons_cons _ (.cons _ (.cons_cons _ (.cons_cons _ .slnil)))) 1 (fun _ => [(0 ≤ ((keysW D.wait).getD k 0) ∧ ((keysW D.wait).getD k 0) < (D.last.length : Int))]) ⟨om,trivial⟩ ?_
    refine Ae 12 rfl 0  (Eff.storeN (b := m.lb) (off := ((((keysW D.wait).getD k 0)).toNat * 512)) (vs := (bv ((wget D.wait (((keysW D.wait).getD k 0))).getD zb))) (n := 512) rfl kr kr kr ((bv_size _).trans (wgetD_len hg.ww _)) (all_bv _) 1 (cs := (rows L).toArray) (e := 37) kr (by rw [List.size_toArray,rows_len hW]; omega)) (fun _ _ => (.cons_cons _ (.cons _ (.cons_cons _ (.cons_cons _ .slnil))))) ?_
    rintro ⟨⟩ -
    refine CfgA.setO (congrArg (fun (xq : Array Value) => ([(m.d,.cells #[.int .i64 D.fuse,.int .i64 D.steps,.bool D.down,.slice (some ⟨m.lb,0,none⟩) D.last.length D.last.length,.map (some m.mb)] 76 (0,0)),(m.lb,.cells xq 37 (0,0)),(m.mb,.map x.1 x.2),(ob,.cells ((((keysW D.wait).map Go.encZ) ++ oj).toArray) 3 (0,0))] : LO)) (show _ = ((rows (L.set ((keysW D.wait).getD k 0).toNat ((wget D.wait (((keysW D.wait).getD k 0))).getD zb))).toArray) from rows_set hW (wgetD_len hg.ww _) om rfl)) ?_
    refine CfgA.done kr ?_
    refine Cg (Γ' := [(9,[],.int .i64 (k : Int)),(8,[],.int .i64 (D.wait.length : Int)),(7,[],.slice (some ⟨ob,0,none⟩) D.wait.length oc),(0,[],.pointer (some ⟨m.d,3,none⟩)),(1,[],.func (.func f) #[] caps.toArray)]) ?_
    refine Rg [0,1,7,8,9] [] (fun _ => [(i6 ((k : Int) + 1))]) ⟨om,trivial⟩ ?_
    have hst := setl_step (p := p) (W := D.wait) (k := k) (ks := keysW D.wait) (by rw [keysW_len]; omega) L
    rw [hs,if_pos c2] at hst
    refine Cfg.again rfl (k + 1,(L.set ((keysW D.wait).getD k 0).toNat ((wget D.wait ((keysW D.wait).getD k 0)).getD zb))) ⟨by omega,hW.set (wgetD_len hg.ww _) _,by rw [List.length_set]; exact hl,hst.symm⟩ (by show D.wait.length - (k + 1) < D.wait.length - k; omega) (Conv.mk kr) slr
   ·have c2 : ((p k) = false) := c2r
    refine Rg [0,1,7,8,9] [] (fun _ => [(i6 ((k : Int) + 1))]) ⟨om,trivial⟩ ?_
    have hst := setl_step (p := p) (W := D.wait) (k := k) (ks := keysW D.wait) (by rw [keysW_len]; omega) L
    rw [hs,if_neg (by simp [c2])] at hst
    refine Cfg.again rfl (k + 1,L) ⟨by omega,hW,hl,hst.symm⟩ (by show D.wait.length - (k + 1) < D.wait.length - k; omega) (Conv.mk kr) slr
  ·have c1 := (dF c1r)
   refine Cfg.begL rfl ?_
   refine Lp 4 [dZ,dZ,dZ,(dS (.map (some m.mb)))] (some [33]) (fun S => [(∀ w1,S w1 → w1.cell? ⟨m.d,4,none⟩ = some (.map (some m.mb)))]) ⟨(oC 0 rfl rfl),trivial⟩ ?_
   refine Le (Eff.mapClear (r := m.mb) (es := x.1) (ck := x.2) rfl Tryz.underlying72 kr 2 rfl) ?_
   rintro ⟨⟩ -
   refine CfgL.done rfl ?_
   refine Cg (Γ' := []) ?_
   refine Cfg.fin rfl (rs := []) rfl [] trivial (fun w1 hp => ?_)
   have hk2 : k = D.wait.length := by omega
   rw [List.drop_eq_nil_of_le (by rw [keysW_len]; omega),setl] at hs
   have h8 : HP w [m.d,m.lb,m.mb] Rk ([(m.d,.cells #[.int .i64 D.fuse,.int .i64 D.steps,.bool D.down,.slice (some ⟨m.lb,0,none⟩) D.last.length D.last.length,.map (some m.mb)] 76 (0,0)),(m.lb,.cells ((rows L).toArray) 37 (0,0)),(m.mb,.map #[] x.2)] ++ (Own.o 3 ((keysW D.wait).map Go.encZ) o ++ [])) w1 := hp
   have h9 := h8.sub (List.sublist_append_left _ _)
   rw [← hl] at h9
   subst hs
   exact ⟨(#[],x.2),MapOk.empty _,rfl,Rk,h9⟩
set_option maxRecDepth 100000 in
theorem dBar1 (i : Nat) (w : World) :
  Calls Tryz.prog 138 #[.int .i64 (i : Int)] w fun e w' => e = .returned (.bool true) ∧ Ext [] w w' := by
 refine enter (vs := [.int .i64 (i : Int)]) [] [] [] Tryz.func138 rfl kr (HP.start w) ?_
 refine Rg [] [] n0 trivial ?_
 refine Rg [2] [] n0 trivial ?_
 refine Cfg.ret rfl (rs := [.tmp 2]) rfl [.bool true] ⟨kr,trivial⟩ (fun w1 hp => ?_)
 exact ⟨rfl,hp.ext⟩
end Go.Proofs.YtfgdepggdiibdaaGreatDoor
namespace Go.Proofs.YtfgdepggdiibdaaGreatDoor
open K
set_option linter.unusedVariables false
set_option maxRecDepth 100000 in
theorem dCrash1 (i kb : Nat) (la : Option Addr) (cap : Nat) (kept : List Bool) (Rl : List (Nat × Obj)) (w : World) (hi : i ≤ 4096) (hI : InS Rl la kept.length (fun j => .bool (kept.getD j false))) (hl : kept.length ≤ maxLen) (hR : Has w ((kb,.cells #[.slice la kept.length cap] 149 (0,0)) :: Rl)) :
  Calls Tryz.prog 192 #[.int .i64 (i : Int),.pointer (some ⟨kb,0,none⟩)] w fun e w' => e = .returned (.bool (kept.getD i false)) ∧ Ext [] w w' := by
 unfold maxLen at hl
 refine enter (vs := [.int .i64 (i : Int),pT kb]) [] ((kb,.cells #[.slice la kept.length cap] 149 (0,0)) :: Rl) [] Tryz.func192 rfl kr (HP.ofHas hR) ?_
 refine Rg [0,1] [] n0 trivial ?_
 refine Cfg.begL rfl ?_
 refine Lp 5 [dZ,(dS (.slice la kept.length cap))] (some [0,1,8]) (fun S => [(cE S kb 0 (.slice la kept.length cap))]) ⟨(rC 0 rfl rfl),trivial⟩ ?_
 by_cases c1 : (decide ((i : Int) < (kept.length : Int))) = true
 ·have c1k : (decide ((i : Int) < (kept.length : Int))) = true := c1
  have c1q := (dT c1k)
  refine CfgL.known 8 (b := (decide ((i : Int) < (kept.length : Int)))) kr true c1k ?_
  have hik : i < kept.length := by omega
  obtain ⟨ib,off,cs,ti,fri,rfl,hmem,hcs⟩ := hI om
  refine Lp 6 [(1,false,some (.slice (some ⟨ib,off,none⟩) kept.length cap)),(1,false,none),(1,false,none),(1,false,some (.bool (kept.getD i false)))] (some [3]) (fun S => [((.bool true : Value) = .bool true),(cE S kb 0 (.slice (some ⟨ib,off,none⟩) kept.length cap)),((.bool true : Value) = .bool true),((.bool true : Value) = .bool true),(0 ≤ (i : Int) ∧ (i : Int) < (kept.length : Int)),((.bool true : Value) = .bool true),(cE S ib (addO off i) (.bool (kept.getD i false)))]) ⟨rfl,(rC 0 rfl rfl),rfl,rfl,om,rfl,(fun w1 h => by rw [addO_eq,cell_cells (h.ro _ (List.mem_cons_of_mem _ hmem))]; exact hcs i hik),trivial⟩ ?_
  refine CfgL.done rfl ?_
  refine Cfg.ret rfl (rs := [.tmp 3]) rfl [.bool (kept.getD i false)] ⟨kr,trivial⟩ (fun w1 hp => ?_)
  exact ⟨rfl,hp.ext⟩
 ·have c1k : (decide ((i : Int) < (kept.length : Int))) = false := (by simpa using c1)
  have c1q := (dF c1k)
  refine CfgL.known 8 (b := (decide ((i : Int) < (kept.length : Int)))) kr false c1k ?_
  refine Lp 6 [(2,false,none),(2,false,none),(2,false,none),(2,false,none)] (some [3]) (fun _ => [((.bool false : Value) ≠ .bool true),((.bool false : Value) ≠ .bool true),((.bool false : Value) ≠ .bool true),((.bool false : Value) ≠ .bool true)]) ⟨(by simp),(by simp),(by simp),(by simp),trivial⟩ ?_
  refine CfgL.done rfl ?_
  refine Cfg.ret rfl (rs := [.tmp 3]) rfl [.bool false] ⟨kr,trivial⟩ (fun w1 hp => ?_)
  have hx : kept.getD i false = false := by rw [List.getD_eq_getElem?_getD,List.getElem?_eq_none om]; rfl
  exact ⟨by rw [hx]; rfl,hp.ext⟩
set_option maxRecDepth 100000 in
theorem dBarrier (m : DM) (x : MX) (D : DK) (w : World) (hg : DG D) (hmo : MapOk x.1 x.2 (wv2 D.wait)) (hA : Has w (dO D m x)) (hd : ((dO D m x).map (·.1)).Nodup) (hs : 0 ≤ D.steps ∧ D.steps ≤ 4611686018427387904) :
  Calls Tryz.prog 104 #[.pointer (some ⟨m.d,0,none⟩)] w fun e w' => ∃ x2 : MX,MapOk x2.1 x2.2 (wv2 (barF D).2.wait) ∧ e = .returned (.int .i64 (barF D).1) ∧ ∃ R1,HP w [m.d,m.lb,m.mb] R1 (dO (barF D).2 m x2) w' := by
 have hf := hg.f
 refine enter (vs := [.pointer (some ⟨m.d,0,none⟩)]) [m.d,m.lb,m.mb] [] [(m.d,.cells #[.int .i64 D.fuse,.int .i64 D.steps,.bool D.down,.slice (some ⟨m.lb,0,none⟩) D.last.length D.last.length,.map (some m.mb)] 76 (0,0)),(m.lb,.cells ((rows D.last).toArray) 37 (0,0)),(m.mb,.map x.1 x.2)] Tryz.func104 rfl kr (HP.ofL hA hd (fun e he => by cases he) (fun e he => by cases he)) ?_
 refine Rg [0] [] n0 trivial ?_
 refine Rg [0,4] [] n0 trivial ?_
 refine Cfg.condF rfl (b := false) kr rfl ?_
 refine Cfg.begL rfl ?_
 refine Lp 3 [] (some [0,7]) n0 trivial ?_
 refine Le (Eff.callM (vs := [.pointer (some ⟨m.d,0,none⟩)]) (.bool (spF D).1) 0 (.cells (dC (spF D).2 m) 76 (0,0)) rfl Tryz.func41 rfl rfl kr rfl (fun w1 h => dSpend m D w1 hf hs (h.own (m.d,_) (mG 0 rfl)))) ?_
 rintro ⟨⟩ -
 refine CfgL.setO (O' := dO (spF D).2 m x) (by show _ = [(m.d,Obj.cells (dC (spF D).2 m) 76 (0,0)),(m.lb,Obj.cells (rows (spF D).2.last).toArray 37 (0,0)),(m.mb,Obj.map x.1 x.2)]; rw [spF_last D]; rfl) ?_
 have hm2 : MapOk x.1 x.2 (wv2 (spF D).2.wait) := by rw [spF_wait]; exact hmo
 refine Lp 1 [] (some [0,9]) n0 trivial ?_
 refine CfgL.done rfl ?_
 refine Cfg.cond rfl (b := (!(spF D).1)) kr (fun c2r => ?_) (fun c2r => ?_)
 ·have c2 : ((spF D).1 = false) := (notT c2r)
  refine Rg [2] [] n0 trivial ?_
  refine Cfg.ret rfl (rs := [.tmp 2]) rfl [.int .i64 13] ⟨kr,trivial⟩ (fun w1 hp => ?_)
  have hx : barF D = (13,(spF D).2) := by unfold barF; rw [if_neg (by simp [c2])]
  rw [hx]
  exact ⟨x,hm2,rfl,_,hp⟩
 ·have c2 : ((spF D).1 = true) := (notF c2r)
  refine Cfg.begL rfl ?_
  refine Lp 3 [] (some [12]) n0 trivial ?_
  refine Le (Eff.callH (vs := [.pointer (some ⟨m.d,3,none⟩),.func (.func 138) #[] #[]]) (fun _ : MX => .tuple #[]) (dO (spF D).2 m x) (fun xq => dO (settleF (fun _ => true) (spF D).2) m xq) (fun xq => MapOk xq.1 xq.2 []) [] [] (List.append_nil _).symm rfl Tryz.func137 rfl rfl kr (fun w1 h hA1 hd1 => dSettle m x (spF D).2 138 _ _ [] (fun _ => true) [] w1 hg.sp hm2 hA1 hd1 Tryz.func138 rfl rfl (fun i w2 _ _ => dBar1 i w2) (fun e he => by cases he) (fun e he => by cases he))) ?_
  rintro xq hxq
  refine CfgL.done rfl ?_
  refine Cg (Γ' := []) ?_
  refine Rg [2] [] n0 trivial ?_
  refine Cfg.ret rfl (rs := [.tmp 2]) rfl [.int .i64 0] ⟨kr,trivial⟩ (fun w1 hp => ?_)
  have hx : barF D = (0,settleF (fun _ => true) (spF D).2) := by unfold barF; rw [if_pos (by simpa using c2)]
  rw [hx]
  have h8 : HP w [m.d,m.lb,m.mb] [] (dO (settleF (fun _ => true) (spF D).2) m xq ++ []) w1 := hp
  rw [List.append_nil] at h8
  exact ⟨xq,hxq,rfl,[],h8⟩
set_option maxRecDepth 100000 in
theorem dCrash (m : DM) (x : MX) (D : DK) (la : Option Addr) (cap : Nat) (kept : List Bool) (Rl : List (Nat × Obj)) (w : World) (hg : DG D) (hmo : MapOk x.1 x.2 (wv2 D.wait)) (hA : Has w (dO D m x)) (hd : ((dO D m x).map (·.1)).Nodup) (hI : InS Rl la kept.length (fun j => .bool (kept.getD j false))) (hl : kept.length ≤ maxLen) (hRl : Has w Rl) (hnr : ∀ e ∈ Rl,e.1 ∉ (dO D m x).map (·.1)) :
  Calls Tryz.prog 163 #[.pointer (some ⟨m.d,0,none⟩),.slice la kept.length cap] w fun e w' => ∃ x2 : MX,MapOk x2.1 x2.2 (wv2 (crashF kept D).wait) ∧ e = .returned (.tuple #[]) ∧ ∃ R1,HP w [m.d,m.lb,m.mb] R1 (dO (crashF kept D) m x2) w' := by
 refine enter (vs := [.pointer (some ⟨m.d,0,none⟩),.slice la kept.length cap]) [m.d,m.lb,m.mb] Rl [(m.d,.cells #[.int .i64 D.fuse,.int .i64 D.steps,.bool D.down,.slice (some ⟨m.lb,0,none⟩) D.last.length D.last.length,.map (some m.mb)] 76 (0,0)),(m.lb,.cells ((rows D.last).toArray) 37 (0,0)),(m.mb,.map x.1 x.2)] Tryz.func163 rfl kr (HP.ofL hA hd hRl hnr) ?_
 refine Cfg.begL rfl ?_
 refine Le (Eff.box (v := .slice la kept.length cap) rfl kr) ?_
 rintro kb ⟨hkb,nkb⟩
 refine CfgL.done rfl ?_
 refine Cg (Γ' := [(3,[],pT kb),(0,[],.pointer (some ⟨m.d,0,none⟩))]) ?_
 refine Rg [0,3,5] [] n0 trivial ?_
 refine Cfg.condF rfl (b := false) kr rfl ?_
 refine Cfg.begL rfl ?_
 refine Lp 4 [] (some [0,8,9]) n0 trivial ?_
 refine Le (Eff.callH (vs := [.pointer (some ⟨m.d,3,none⟩),.func (.func 192) #[] #[pT kb]]) (fun _ : MX => .tuple #[]) (dO D m x) (fun xq => dO (settleF (fun i => kept.getD i false) D) m xq) (fun xq => MapOk xq.1 xq.2 []) [(kb,Obj.cells #[.slice la kept.length cap] 149 (0,0))] [] rfl rfl Tryz.func137 rfl rfl kr (fun w1 h hA1 hd1 => (dSettle m x D 192 _ _ [pT kb] (fun i => kept.getD i false) ((kb,Obj.cells #[.slice la kept.length cap] 149 (0,0)) :: Rl) w1 hg hmo hA1 hd1 Tryz.func192 rfl rfl (fun i w2 hi hh => dCrash1 i kb la cap kept Rl w2 hi hI hl hh) (fun e he => by rcases List.mem_cons.1 he with rfl | he; exact h.own (kb,_) mH; exact h.ro e he) (fun e he => by rcases List.mem_cons.1 he with rfl | he; exact (List.nodup_cons.1 h.dist).1; intro hm; obtain ⟨e2,h2,h3⟩ := List.mem_map.1 hm; exact h.away (List.mem_cons_of_mem _ h2) he h3)))) ?_
 rintro xq hxq
 refine CfgL.done rfl ?_
 refine Cg (Γ' := [(0,[],.pointer (some ⟨m.d,0,none⟩))]) ?_
 refine Cfg.begL rfl ?_
 refine Lp 4 [] (some [0,14]) n0 trivial ?_
 refine Le (Eff.store1 (b := m.d) (off := 0) (v := .int .i64 (-1)) rfl kr kr rfl kr 1 (cs := #[.int .i64 ((settleF (fun i => kept.getD i false) D).fuse),.int .i64 ((settleF (fun i => kept.getD i false) D).steps),.bool (settleF (fun i => kept.getD i false) D).down,.slice (some ⟨m.lb,0,none⟩) (settleF (fun i => kept.getD i false) D).last.length (settleF (fun i => kept.getD i false) D).last.length,.map (some m.mb)]) (e := 76) kr (by simp)) ?_
 rintro ⟨⟩ -
 refine CfgL.done rfl ?_
 refine Cg (Γ' := [(0,[],.pointer (some ⟨m.d,0,none⟩))]) ?_
 refine Cfg.begL rfl ?_
 refine Lp 4 [] (some [18]) n0 trivial ?_
 refine Le (Eff.store1 (b := m.d) (off := 2) (v := .bool false) rfl kr kr rfl kr 1 (cs := (#[.int .i64 ((settleF (fun i => kept.getD i false) D).fuse),.int .i64 ((settleF (fun i => kept.getD i false) D).steps),.bool (settleF (fun i => kept.getD i false) D).down,.slice (some ⟨m.lb,0,none⟩) (settleF (fun i => kept.getD i false) D).last.length (settleF (fun i => kept.getD i false) D).last.length,.map (some m.mb)].setIfInBounds 0 (.int .i64 (-1)))) (e := 76) kr (by simp)) ?_
 rintro ⟨⟩ -
 refine CfgL.done rfl ?_
 refine Cg (Γ' := []) ?_
 refine Cfg.fin rfl (rs := []) rfl [] trivial (fun w1 hp => ?_)
 refine ⟨xq,hxq,rfl,Rl,?_⟩
 have h9 := hp.sub (List.sublist_cons_self _ _)
 exact h9
end Go.Proofs.YtfgdepggdiibdaaGreatDoor
namespace Go.Proofs.YtfgdepggdiibdaaGreatDoor
open K
set_option linter.unusedVariables false
def layF (D : DK) : List Wr → Int × DK
 | [] => barF D
 | a :: l => if (writeF D a.1 a.2).1 ≠ 0 then writeF D a.1 a.2 else layF (writeF D a.1 a.2).2 l
def laysF (D : DK) : List (List Wr) → Int × DK
 | [] => (0,D)
 | l :: ls => if (layF D l).1 ≠ 0 then layF D l else laysF (layF D l).2 ls
theorem DG.lay : ∀ {l : List Wr} {D : DK},DG D → WW l → DG (layF D l).2
 | [],D,h,_ => h.bar
 | a :: l,D,h,hw => by
  have h1 := h.write a.1 (hw a mH)
  unfold layF
  split
  ·exact h1
  ·exact DG.lay h1 (fun x hx => hw x (List.mem_cons_of_mem _ hx))
theorem layF_steps : ∀ (l : List Wr) (D : DK),D.steps ≤ (layF D l).2.steps ∧ (layF D l).2.steps ≤ D.steps + l.length + 1
 | [],D => by have := barF_steps D; unfold layF; rw [List.length_nil]; omega
 | a :: l,D => by
  have h1 := writeF_steps D a.1 a.2
  have h2 := layF_steps l (writeF D a.1 a.2).2
  unfold layF
  rw [List.length_cons]
  split
  ·omega
  ·omega
theorem DG.lays : ∀ {ls : List (List Wr)} {D : DK},DG D → (∀ l ∈ ls,WW l) → DG (laysF D ls).2
 | [],D,h,_ => h
 | l :: ls,D,h,hw => by
  have h1 := h.lay (hw l mH)
  unfold laysF
  split
  ·exact h1
  ·exact DG.lays h1 (fun x hx => hw x (List.mem_cons_of_mem _ hx))
def tot : List (List Wr) → Nat
 | [] => 0
 | l :: ls => l.length + 1 + tot ls
theorem laysF_steps : ∀ (ls : List (List Wr)) (D : DK),D.steps ≤ (laysF D ls).2.steps ∧ (laysF D ls).2.steps ≤ D.steps + (tot ls : Int)
 | [],D => by unfold laysF tot; simp
 | l :: ls,D => by
  have h1 := layF_steps l D
  have h2 := laysF_steps ls (layF D l).2
  unfold laysF tot
  split
  ·omega
  ·omega
def cpy (l : List Wr) (i : Nat) : List Wr := (List.range i).map fun (k : Nat) => (((k + 1 : Nat) : Int),(l.getD k wz).2)
theorem cpy_len (l : List Wr) (i : Nat) : (cpy l i).length = i := by unfold cpy; rw [List.length_map,List.length_range]
theorem cpy_next (l : List Wr) (i : Nat) : cpy l (i + 1) = cpy l i ++ [(((i + 1 : Nat) : Int),(l.getD i wz).2)] := by
 unfold cpy; rw [List.range_succ,List.map_append]; rfl
theorem cpy_w {l : List Wr} (h : WW l) (i : Nat) : WW (cpy l i) := fun x hx => by
 obtain ⟨k,_,rfl⟩ := List.mem_map.1 hx
 exact h.at k
def stagesF (n : Nat) (l : List Wr) : List (List Wr) := [[((0 : Int),zb)],cpy l l.length,[((0 : Int),headF n l)],l]
theorem stages_w {l : List Wr} (h : WW l) (n : Nat) : ∀ s ∈ stagesF n l,WW s := by
 intro s hs
 unfold stagesF at hs
 simp only [List.mem_cons,List.not_mem_nil,or_false] at hs
 rcases hs with rfl | rfl | rfl | rfl
 ·exact fun x hx => by rw [List.mem_singleton.1 hx]; exact zb_len
 ·exact cpy_w h _
 ·exact fun x hx => by rw [List.mem_singleton.1 hx]; exact headF_len _ _
 ·exact h
theorem stages_tot (n : Nat) (l : List Wr) : tot (stagesF n l) = 2 * l.length + 6 := by
 unfold stagesF tot tot tot tot tot
 simp only [cpy_len,List.length_cons,List.length_nil]; omega
abbrev Nt := List (Int × Nat)
def nset (W : Nt) (k : Int) (v : Nat) : Nt := match W with
 | [] => [(k,v)]
 | p :: W => if k = p.1 then (k,v) :: W else p :: nset W k v
def nget (W : Nt) (k : Int) : Option Nat := match W with
 | [] => none
 | p :: W => if k = p.1 then some p.2 else nget W k
theorem nget_set (W : Nt) (k : Int) (v : Nat) (j : Int) : nget (nset W k v) j = if j = k then some v else nget W j := by
 induction W with
 | nil => simp [nset,nget]
 | cons p W ih =>
  unfold nset
  by_cases h : k = p.1
  ·rw [if_pos h]
   unfold nget
   by_cases hj : j = k
   ·rw [if_pos hj,if_pos hj]
   ·simp only [if_neg hj]
    rw [if_neg (show ¬ j = p.1 from fun e => hj (by rw [e,h]))]
  ·rw [if_neg h]
   unfold nget
   by_cases hj : j = p.1
   ·rw [if_pos hj,if_neg (fun e => h (by rw [← e,hj])),if_pos hj]
   ·rw [if_neg hj,if_neg hj,ih]
theorem nset_len (W : Nt) (k : Int) (v : Nat) : (nset W k v).length ≤ W.length + 1 := by
 induction W with
 | nil => exact Nat.le_refl _
 | cons p W ih =>
  unfold nset
  split
  ·rw [List.length_cons,List.length_cons]; omega
  ·rw [List.length_cons,List.length_cons]; omega
theorem nget_mem (W : Nt) (k : Int) : (nget W k).isSome = true ↔ k ∈ W.map (·.1) := by
 induction W with
 | nil => simp [nget]
 | cons p W ih =>
  unfold nget
  by_cases h : k = p.1
  ·rw [if_pos h]; simp [h]
  ·rw [if_neg h,ih]; simp [h]
theorem nset_keys (k : Int) (v : Nat) : ∀ W : Nt,(nset W k v).map (·.1) = if k ∈ W.map (·.1) then W.map (·.1) else W.map (·.1) ++ [k]
 | [] => rfl
 | p :: W => by
  unfold nset
  by_cases h : k = p.1
  ·rw [if_pos h,if_pos (by rw [h]; exact mH)]
   simp [h]
  ·rw [if_neg h,List.map_cons,nset_keys k v W]
   by_cases h2 : k ∈ W.map (·.1)
   ·rw [if_pos h2,if_pos (by rw [List.map_cons]; exact List.mem_cons_of_mem _ h2)]; rfl
   ·rw [if_neg h2,if_neg (by rw [List.map_cons,List.mem_cons]; exact fun e => e.elim h h2)]; rfl
theorem nset_nd {W : Nt} (h : (W.map (·.1)).Nodup) (k : Int) (v : Nat) : ((nset W k v).map (·.1)).Nodup := by
 rw [nset_keys]
 split
 ·exact h
 ·rename_i h1
  refine List.nodup_append.2 ⟨h,by simp,fun x hx y hy => ?_⟩
  rw [List.mem_singleton.1 hy]; exact fun e => h1 (e ▸ hx)
def lastM (l : List Wr) : Nat → Nt
 | 0 => []
 | i + 1 => nset (lastM l i) (l.getD i wz).1 i
theorem lastM_len (l : List Wr) : ∀ i,(lastM l i).length ≤ i
 | 0 => Nat.le_refl _
 | i + 1 => by have h1 := lastM_len l i; have h2 := nset_len (lastM l i) (l.getD i wz).1 i; unfold lastM; omega
theorem lastM_nd (l : List Wr) : ∀ i,((lastM l i).map (·.1)).Nodup
 | 0 => List.nodup_nil
 | i + 1 => nset_nd (lastM_nd l i) _ _
theorem lastM_lt (l : List Wr) : ∀ i a k,nget (lastM l i) a = some k → k < i ∧ (l.getD k wz).1 = a
 | 0,a,k,h => by cases h
 | i + 1,a,k,h => by
  unfold lastM at h
  rw [nget_set] at h
  by_cases ha : a = (l.getD i wz).1
  ·rw [if_pos ha] at h
   injection h with h
   exact ⟨by omega,by rw [← h,ha]⟩
  ·rw [if_neg ha] at h
   have := lastM_lt l i a k h
   exact ⟨by omega,this.2⟩
def keysN (W : Nt) : List Int := srt (W.map (·.1))
theorem keysN_len (W : Nt) : (keysN W).length = W.length := by unfold keysN; rw [srt_len,List.length_map]
theorem keysN_mem (W : Nt) (x : Int) : x ∈ keysN W ↔ x ∈ W.map (·.1) := by unfold keysN; exact (srt_perm _).mem_iff
theorem keysN_lt {W : Nt} (h : (W.map (·.1)).Nodup) : (keysN W).Pairwise (· < ·) := by
 have h1 := srt_sorted (W.map (·.1))
 have h2 : (srt (W.map (·.1))).Nodup := (srt_perm _).nodup_iff.2 h
 unfold keysN
 exact (h1.and h2).imp (fun hx => by obtain ⟨a,b⟩ := hx; omega)
def atN (l : List Wr) (W : Nt) (a : Int) : Wr := l.getD ((nget W a).getD 0) wz
def risF (l : List Wr) : List Wr := (keysN (lastM l l.length)).map (atN l (lastM l l.length))
theorem risF_len (l : List Wr) : (risF l).length = (lastM l l.length).length := by unfold risF; rw [List.length_map,keysN_len]
theorem atN_key {l : List Wr} {i : Nat} {a : Int} (h : a ∈ keysN (lastM l i)) : (atN l (lastM l i) a).1 = a := by
 have h1 := (nget_mem _ _).2 ((keysN_mem _ _).1 h)
 unfold atN
 cases hg : nget (lastM l i) a with
 | none => rw [hg] at h1; cases h1
 | some k => exact (lastM_lt l i a k hg).2
theorem risF_w {l : List Wr} (h : WW l) : WW (risF l) := fun x hx => by
 obtain ⟨a,_,rfl⟩ := List.mem_map.1 hx
 exact h.at _
def lwF (l : List Wr) (r : Int → Option Wr) : Int → Option Wr := match l with
 | [] => r
 | w :: l => lwF l (fun a => if w.1 = a then some w else r a)
theorem lwF_app : ∀ (l m : List Wr) (r : Int → Option Wr),lwF (l ++ m) r = lwF m (lwF l r)
 | [],_,_ => rfl
 | w :: l,m,r => by show lwF (l ++ m) _ = lwF m (lwF l _); exact lwF_app l m _
theorem lastM_lw (l : List Wr) : ∀ i,i ≤ l.length → ∀ a,(nget (lastM l i) a).map (fun k => l.getD k wz) = lwF (l.take i) (fun _ => none) a
 | 0,_,a => by rw [List.take_zero]; rfl
 | i + 1,h,a => by
  have ih := lastM_lw l i om a
  rw [List.take_succ_eq_append_getElem om,lwF_app]
  unfold lastM
  rw [nget_set]
  have e : l[i] = l.getD i wz := by rw [List.getD_eq_getElem?_getD,List.getElem?_eq_getElem om]; rfl
  rw [e]
  show _ = if (l.getD i wz).1 = a then some (l.getD i wz) else lwF (l.take i) (fun _ => none) a
  by_cases ha : a = (l.getD i wz).1
  ·rw [if_pos ha,if_pos ha.symm]; rfl
  ·rw [if_neg ha,if_neg (fun e => ha e.symm),ih]
theorem risF_mem (l : List Wr) (x : Wr) : x ∈ risF l ↔ lwF l (fun _ => none) x.1 = some x := by
 have hl := lastM_lw l l.length (Nat.le_refl _)
 rw [List.take_length] at hl
 unfold risF
 rw [List.mem_map]
 constructor
 ·rintro ⟨a,ha,rfl⟩
  rw [atN_key ha,← hl a]
  have h1 := (nget_mem _ _).2 ((keysN_mem _ _).1 ha)
  unfold atN
  cases hg : nget (lastM l l.length) a with
  | none => rw [hg] at h1; cases h1
  | some k => rfl
 ·intro h
  refine ⟨x.1,?_,?_⟩
  ·rw [keysN_mem,← nget_mem]
   rw [← hl] at h
   cases hg : nget (lastM l l.length) x.1 with
   | none => rw [hg] at h; cases h
   | some k => rfl
  ·rw [← hl] at h
   unfold atN
   cases hg : nget (lastM l l.length) x.1 with
   | none => rw [hg] at h; cases h
   | some k => rw [hg] at h; exact Option.some.inj h
def Rise (l : List Wr) : Prop := l.Pairwise fun a b => a.1 < b.1
theorem risF_rise (l : List Wr) : Rise (risF l) := by
 unfold Rise risF
 rw [List.pairwise_map]
 have h := keysN_lt (lastM_nd l l.length)
 refine List.Pairwise.imp_of_mem ?_ h
 intro a b ha hb hab
 rw [atN_key ha,atN_key hb]; exact hab
structure JS where
 why : Int
 num : Nat
 D : DK
def badW (D : DK) (w : Wr) : Bool := decide (w.1 < 97) || decide ((D.last.length : Int) ≤ w.1)
def transF (D : DK) (n : Nat) (l : List Wr) : Int × DK := laysF D (stagesF n l)
def commitF (J : JS) (l : List Wr) : Int × JS :=
 if J.why ≠ 0 then (J.why,J) else if l.any (badW J.D) = true then (2,J)
 else if 96 < (risF l).length then (15,J) else if (risF l).length = 0 then (0,J)
 else if (transF J.D ((J.num + 1) % 18446744073709551616) (risF l)).1 ≠ 0 then ((transF J.D ((J.num + 1) % 18446744073709551616) (risF l)).1,⟨(transF J.D ((J.num + 1) % 18446744073709551616) (risF l)).1,J.num,(transF J.D ((J.num + 1) % 18446744073709551616) (risF l)).2⟩)
 else (0,⟨0,(J.num + 1) % 18446744073709551616,(transF J.D ((J.num + 1) % 18446744073709551616) (risF l)).2⟩)
def jblk (D : DK) (i : Nat) : List (List UInt8) := (List.range i).map fun (k : Nat) => readF D ((k + 1 : Nat) : Int)
theorem jblk_len (D : DK) (i : Nat) : (jblk D i).length = i := by unfold jblk; rw [List.length_map,List.length_range]
theorem jblk_next (D : DK) (i : Nat) : jblk D (i + 1) = jblk D i ++ [readF D ((i + 1 : Nat) : Int)] := by unfold jblk; rw [List.range_succ,List.map_append]; rfl
def jrows (D : DK) : List (List UInt8) := jblk D (min 97 D.last.length - 1)
def inD (D : DK) (l : List Wr) : List Wr := l.filter fun w => !decide (w.1 ≥ (D.last.length : Int))
def openG (D : DK) : Bool := parG (readF D 0) (jrows D)
def openL (D : DK) : List Wr := inD D (parL (readF D 0) (jrows D))
def openF (D : DK) : Int × Nat × DK :=
 if fltF D 0 ≠ 0 then (fltF D 0,0,D) else if openG D = false then (0,0,D)
 else if (layF D (openL D)).1 ≠ 0 then ((layF D (openL D)).1,0,(layF D (openL D)).2) else (0,parN (readF D 0) (jrows D),(layF D (openL D)).2)
theorem flt_all {D : DK} (h : fltF D 0 = 0) {q : Int} (hq : 0 ≤ q ∧ q < (D.last.length : Int)) : fltF D q = 0 := by
 unfold fltF at h ⊢
 split at h
 ·rename_i h1; rw [if_pos h1]; exact h
 ·rename_i h1; rw [if_neg h1,if_pos hq]
end Go.Proofs.YtfgdepggdiibdaaGreatDoor
namespace Go.Proofs.YtfgdepggdiibdaaGreatDoor
open K
set_option linter.unusedVariables false
def newD (n : Nat) : DK := { fuse := -1,steps := 0,down := false,last := List.replicate n zb,wait := [] }
theorem w5_rep (n : Nat) : W5 (List.replicate n zb) := fun b hb => by rw [List.eq_of_mem_replicate hb]; exact zb_len
theorem DG.new {n : Nat} (hn : n ≤ 4096) : DG (newD n) :=
 ⟨w5_rep n,(fun _ hp => by cases hp),(fun _ hp => by cases hp),by show (List.replicate n zb).length ≤ _; rw [List.length_replicate]; exact hn,List.nodup_nil,⟨by show (-1 : Int) ≤ -1; decide,by show (-1 : Int) ≤ 9223372036854775807; decide⟩⟩
theorem rep_rows_len (n : Nat) : (rows (List.replicate n zb)).length = n * 512 := by rw [rows_len (w5_rep n),List.length_replicate]
theorem rep_rows_get {n i : Nat} (h : i < n * 512) : (rows (List.replicate n zb))[i]? = some (.int .u8 0) := by
 have h1 := rows_get (w5_rep n) (i := i / 512) (j := i % 512) (by rw [List.length_replicate]; omega) om
 rw [show i / 512 * 512 + i % 512 = i by omega] at h1
 rw [h1]
 have e1 : (List.replicate n zb).getD (i / 512) zb = zb := by
  rw [List.getD_eq_getElem?_getD,List.getElem?_replicate]; split <;> rfl
 have e2 : ∀ j : Nat,zb.getD j 0 = 0 := fun j => by
  unfold zb; rw [List.getD_eq_getElem?_getD,List.getElem?_replicate]; split <;> rfl
 rw [e1,e2]; rfl
theorem bvz_get : ∀ j : Nat,j < 512 → (Value.agg (bv (List.replicate 512 0))).cells[j]! = .int .u8 0 := fun j hj => by
 show (bv (List.replicate 512 0))[j]! = _
 have h1 := bv_get (l := List.replicate 512 0) (n := 512) (by exact List.length_replicate) hj
 rw [getElem!_def,h1]
 have e2 : (List.replicate 512 (0 : UInt8)).getD j 0 = 0 := by
  rw [List.getD_eq_getElem?_getD,List.getElem?_replicate]; split <;> rfl
 rw [e2]; rfl
theorem run_mkRows {w : World} {n : Nat} (h0 : 0 < n) (hn : n ≤ 4096) : (Instr.makeSlice 71 (.int .i64 (n : Int)) (.int .i64 (n : Int))).run Tryz.prog w = .ok (.slice (some ⟨w.heap.size,0,none⟩) n n) (w.alloc (.cells (rows (List.replicate n zb)).toArray 37 (0,0))) := by
 have hi : (Tryz.prog.info? 37).map (fun i => (i.size,i.zero)) = some (512,some (.agg (bv (List.replicate 512 0)))) := by kernel_rfl
 have hby : (Tryz.prog.info? 37).map (fun i => i.bytes) = some 512 := by kernel_rfl
 obtain ⟨inf,hinf,he⟩ := Option.map_eq_some_iff.1 hi
 rw [hinf] at hby
 simp only [Prod.mk.injEq] at he
 have hb : inf.bytes = 512 := Option.some.inj hby
 refine run_mkZ (L := rows (List.replicate n zb)) (z := .agg (bv (List.replicate 512 0))) Tryz.underlying71 hinf he.2 (by rw [he.1]; exact (bv_size _).trans List.length_replicate) (by rw [he.1]; omega) om om (by rw [he.1]; exact rep_rows_len n) (fun i hi => ?_)
 rw [he.1] at hi ⊢
 rw [rep_rows_get hi,bvz_get _ om]
structure RK where
 shown : List (List UInt8)
 last : List (List UInt8)
 waits : List Bool
 done : Int
 fuse : Int
 down : Bool
structure RM where
 r : Nat
 sb : Nat
 lb : Nat
 wb : Nat
def rCx9 (Q : RK) (m : RM) : Array Value := #[.slice (some ⟨m.sb,0,none⟩) Q.shown.length Q.shown.length,.slice (some ⟨m.lb,0,none⟩) Q.last.length Q.last.length,.slice (some ⟨m.wb,0,none⟩) Q.waits.length Q.waits.length,.int .i64 Q.done,.int .i64 Q.fuse,.bool Q.down]
set_option maxRecDepth 100000 in
theorem dNew (n : Nat) (w : World) (hn : 64 ≤ n ∧ n ≤ 4096) :
  Calls Tryz.prog 7 #[.int .i64 (n : Int)] w fun e w' => ∃ y : DM × MX,MapOk y.2.1 y.2.2 [] ∧ e = .returned (.tuple #[.pointer (some ⟨y.1.d,0,none⟩),.int .i64 0]) ∧ ∃ R1,HP w [] R1 (dO (newD n) y.1 y.2) w' := by
 refine enter (vs := [.int .i64 (n : Int)]) [] [] [] Tryz.func7 rfl kr (HP.start w) ?_
 refine Rg [0] [] n0 trivial ?_
 refine Rg [0,9] [] n0 trivial ?_
 refine Cfg.condF rfl (b := ((decide ((n : Int) < (64 : Int))) || (decide ((n : Int) > (4096 : Int))))) kr (Bool.or_eq_false_iff.2 ⟨decide_eq_false om,decide_eq_false om⟩) ?_
 refine Cfg.begL rfl ?_
 refine Lp 2 [(dS (.agg #[.int .i64 (-1),.int .i64 0,.bool false]))] (some [10,11]) (fun S => [(∀ w1,S w1 → (Instr.build 70 #[(0,.int .i64 (-1))]).run Tryz.prog w1 = .ok (.agg #[.int .i64 (-1),.int .i64 0,.bool false]) w1)]) ⟨(fun _ _ => kr),trivial⟩ ?_
 refine Le (Eff.makeRow (e := 37) (n := n) (cells := (rows (List.replicate n zb)).toArray) (v1 := .int .i64 (n : Int)) (v2 := .int .i64 (n : Int)) rfl kr kr (fun w1 => run_mkRows om om)) ?_
 rintro lb ⟨hlb,nlb⟩
 refine Le (Eff.mapNew rfl) ?_
 rintro mb ⟨hmb,nmb⟩
 refine Lp 2 [(dS (.agg #[.slice (some ⟨lb,0,none⟩) n n,.map (some mb)])),(dS (.agg #[.int .i64 (-1),.int .i64 0,.bool false,.slice (some ⟨lb,0,none⟩) n n,.map (some mb)]))] (some [15]) (fun S => [(∀ w1,S w1 → (Instr.build 74 #[(0,.slice (some ⟨lb,0,none⟩) n n),(1,.map (some mb))]).run Tryz.prog w1 = .ok (.agg #[.slice (some ⟨lb,0,none⟩) n n,.map (some mb)]) w1),(∀ w1,S w1 → (Instr.build 76 #[(0,.agg #[.int .i64 (-1),.int .i64 0,.bool false]),(1,.agg #[.slice (some ⟨lb,0,none⟩) n n,.map (some mb)])]).run Tryz.prog w1 = .ok (.agg #[.int .i64 (-1),.int .i64 0,.bool false,.slice (some ⟨lb,0,none⟩) n n,.map (some mb)]) w1)]) ⟨(fun _ _ => kr),(fun _ _ => kr),trivial⟩ ?_
 refine Le (Eff.box (v := .agg #[.int .i64 (-1),.int .i64 0,.bool false,.slice (some ⟨lb,0,none⟩) n n,.map (some mb)]) rfl kr) ?_
 rintro d ⟨hd,nd⟩
 refine Lp 2 [] (some [2,3]) n0 trivial ?_
 refine CfgL.done rfl ?_
 refine Cfg.ret rfl (rs := [.tmp 2,.tmp 3]) rfl [pT d,.int .i64 0] ⟨kr,by kernel_rfl,trivial⟩ (fun w1 hp => ?_)
 refine ⟨(⟨d,lb,mb⟩,(#[],0)),MapOk.empty _,rfl,[],?_⟩
 have h9 := hp.perm (List.Perm.cons _ (List.Perm.swap _ _ _))
 show HP w [] [] [(d,Obj.cells #[.int .i64 (-1),.int .i64 0,.bool false,.slice (some ⟨lb,0,none⟩) (List.replicate n zb).length (List.replicate n zb).length,.map (some mb)] 76 (0,0)),(lb,Obj.cells (rows (List.replicate n zb)).toArray 37 (0,0)),(mb,Obj.map #[] 0)] w1
 rw [show (List.replicate n zb).length = n from List.length_replicate]
 exact h9
end Go.Proofs.YtfgdepggdiibdaaGreatDoor
namespace Go.Proofs.YtfgdepggdiibdaaGreatDoor
open K
set_option linter.unusedVariables false
theorem drop_getD {l : List Wr} {i : Nat} (h : i < l.length) : l.drop i = l.getD i wz :: l.drop (i + 1) := by
 rw [List.drop_eq_getElem_cons h,List.getD_eq_getElem?_getD,List.getElem?_eq_getElem h]; rfl
theorem layF_stop {E : DK} {l : List Wr} {i : Nat} (h : i < l.length) (he : (writeF E (l.getD i wz).1 (l.getD i wz).2).1 ≠ 0) : layF E (l.drop i) = writeF E (l.getD i wz).1 (l.getD i wz).2 := by
 rw [drop_getD h,layF,if_pos he]
theorem layF_go {E : DK} {l : List Wr} {i : Nat} (h : i < l.length) (he : (writeF E (l.getD i wz).1 (l.getD i wz).2).1 = 0) : layF E (l.drop i) = layF (writeF E (l.getD i wz).1 (l.getD i wz).2).2 (l.drop (i + 1)) := by
 rw [drop_getD h,layF,if_neg (fun e => e he)]
set_option maxRecDepth 100000 in
theorem jLost (jb : Nat) (why : Int) (num : Nat) (m : DM) (w : World) (hR : Has w [(jb,Obj.cells #[.int .i64 why,.pointer (some ⟨m.d,0,none⟩),.int .u64 (num : Int)] 143 (0,0))]) :
  Calls Tryz.prog 65 #[.pointer (some ⟨jb,0,none⟩)] w fun e w' => e = .returned (.bool (why != (0 : Int))) ∧ Ext [] w w' := by
 refine enter (vs := [pT jb]) [] [(jb,.cells #[.int .i64 why,.pointer (some ⟨m.d,0,none⟩),.int .u64 (num : Int)] 143 (0,0))] [] Tryz.func65 rfl kr (HP.ofHas hR) ?_
 refine Rg [0] [] n0 trivial ?_
 refine Rg [2] [dZ,dZ,dZ,(dS (.int .i64 why))] (fun S => [(cE S jb 0 (.int .i64 why))]) ⟨(rC 0 rfl rfl),trivial⟩ ?_
 refine Cfg.ret rfl (rs := [.tmp 2]) rfl [.bool (why != (0 : Int))] ⟨kr,trivial⟩ (fun w1 hp => ?_)
 exact ⟨rfl,hp.ext⟩
set_option maxRecDepth 100000 in
theorem jNumber (jb : Nat) (why : Int) (num : Nat) (m : DM) (x : MX) (D : DK) (w : World) (hR : Has w ((jb,Obj.cells #[.int .i64 why,.pointer (some ⟨m.d,0,none⟩),.int .u64 (num : Int)] 143 (0,0)) :: dO D m x)) :
  Calls Tryz.prog 96 #[.pointer (some ⟨jb,0,none⟩)] w fun e w' => e = .returned (.int .u64 (num : Int)) ∧ Ext [] w w' := by
 refine enter (vs := [pT jb]) [] ((jb,Obj.cells #[.int .i64 why,.pointer (some ⟨m.d,0,none⟩),.int .u64 (num : Int)] 143 (0,0)) :: dO D m x) [] Tryz.func96 rfl kr (HP.ofHas hR) ?_
 refine Rg [0] [] n0 trivial ?_
 refine Rg [0,4] [] n0 trivial ?_
 refine Cfg.condF rfl (b := false) kr rfl ?_
 refine Rg [2] [dZ,dZ,dZ,(dS (.int .u64 (num : Int)))] (fun S => [(cE S jb 2 (.int .u64 (num : Int)))]) ⟨(rC 0 rfl rfl),trivial⟩ ?_
 refine Cfg.ret rfl (rs := [.tmp 2]) rfl [.int .u64 (num : Int)] ⟨kr,trivial⟩ (fun w1 hp => ?_)
 exact ⟨rfl,hp.ext⟩
set_option maxRecDepth 100000 in
theorem jErr (jb : Nat) (why : Int) (num : Nat) (m : DM) (x : MX) (D : DK) (w : World) (hR : Has w ((jb,Obj.cells #[.int .i64 why,.pointer (some ⟨m.d,0,none⟩),.int .u64 (num : Int)] 143 (0,0)) :: dO D m x)) :
  Calls Tryz.prog 57 #[.pointer (some ⟨jb,0,none⟩)] w fun e w' => e = .returned (.int .i64 why) ∧ Ext [] w w' := by
 refine enter (vs := [pT jb]) [] ((jb,Obj.cells #[.int .i64 why,.pointer (some ⟨m.d,0,none⟩),.int .u64 (num : Int)] 143 (0,0)) :: dO D m x) [] Tryz.func57 rfl kr (HP.ofHas hR) ?_
 refine Rg [0] [] n0 trivial ?_
 refine Rg [0,4] [] n0 trivial ?_
 refine Cfg.condF rfl (b := false) kr rfl ?_
 refine Rg [2] [dZ,dZ,dZ,dZ,(dS (.int .i64 why))] (fun S => [(cE S jb 0 (.int .i64 why))]) ⟨(rC 0 rfl rfl),trivial⟩ ?_
 refine Cfg.ret rfl (rs := [.tmp 2]) rfl [.int .i64 why] ⟨kr,trivial⟩ (fun w1 hp => ?_)
 exact ⟨rfl,hp.ext⟩
set_option maxRecDepth 100000 in
theorem jSectors (jb : Nat) (why : Int) (num : Nat) (m : DM) (x : MX) (D : DK) (w : World) (hR : Has w ((jb,Obj.cells #[.int .i64 why,.pointer (some ⟨m.d,0,none⟩),.int .u64 (num : Int)] 143 (0,0)) :: dO D m x)) :
  Calls Tryz.prog 31 #[.pointer (some ⟨jb,0,none⟩)] w fun e w' => e = .returned (.int .i64 (D.last.length : Int)) ∧ Ext [] w w' := by
 refine enter (vs := [pT jb]) [] ((jb,Obj.cells #[.int .i64 why,.pointer (some ⟨m.d,0,none⟩),.int .u64 (num : Int)] 143 (0,0)) :: dO D m x) [] Tryz.func31 rfl kr (HP.ofHas hR) ?_
 refine Rg [0] [] n0 trivial ?_
 refine Rg [0,4] [] n0 trivial ?_
 refine Cfg.condF rfl (b := false) kr rfl ?_
 refine Cfg.begL rfl ?_
 refine Lp 4 [dZ,dZ,dZ,(dS (.pointer (some ⟨m.d,0,none⟩)))] (some [8]) (fun S => [(cE S jb 1 (.pointer (some ⟨m.d,0,none⟩)))]) ⟨(rC 0 rfl rfl),trivial⟩ ?_
 refine Le (Eff.callA (vs := [.pointer (some ⟨m.d,0,none⟩)]) (.int .i64 (D.last.length : Int)) rfl Tryz.func60 rfl rfl kr (fun w1 h => dSectors m x D w1 (h.hasR (fun e he => List.mem_cons_of_mem _ he)))) ?_
 rintro ⟨⟩ -
 refine Lp 1 [] (some [2]) n0 trivial ?_
 refine CfgL.done rfl ?_
 refine Cfg.ret rfl (rs := [.tmp 2]) rfl [.int .i64 (D.last.length : Int)] ⟨kr,trivial⟩ (fun w1 hp => ?_)
 exact ⟨rfl,hp.ext⟩
set_option maxRecDepth 100000 in
theorem jRead (jb : Nat) (why : Int) (num : Nat) (m : DM) (x : MX) (D : DK) (q : Int) (w : World) (hg : DG D) (hmo : MapOk x.1 x.2 (wv2 D.wait)) (hR : Has w ((jb,Obj.cells #[.int .i64 why,.pointer (some ⟨m.d,0,none⟩),.int .u64 (num : Int)] 143 (0,0)) :: dO D m x)) :
  Calls Tryz.prog 33 #[.pointer (some ⟨jb,0,none⟩),.int .i64 q] w fun e w' => e = .returned (.tuple #[.agg (bv (if why ≠ 0 then zb else readF D q)),.int .i64 (if why ≠ 0 then why else fltF D q)]) ∧ Ext [] w w' := by
 refine enter (vs := [pT jb,.int .i64 q]) [] ((jb,Obj.cells #[.int .i64 why,.pointer (some ⟨m.d,0,none⟩),.int .u64 (num : Int)] 143 (0,0)) :: dO D m x) [] Tryz.func33 rfl kr (HP.ofHas hR) ?_
 refine Cfg.begL rfl ?_
 refine Le (Eff.alloc (z := (.agg (bv (List.replicate 512 0)))) rfl kr) ?_
 rintro rs ⟨hrs,nrs⟩
 refine Lp 1 [] (some [0,1,4]) n0 trivial ?_
 refine CfgL.done rfl ?_
 refine Rg [0,1,4,7] [] n0 trivial ?_
 refine Cfg.condF rfl (b := false) kr rfl ?_
 refine Cfg.begL rfl ?_
 refine Lp 3 [] (some [0,1,4,11]) n0 trivial ?_
 refine Le (Eff.callA (vs := [pT jb]) (.bool (why != (0 : Int))) rfl Tryz.func65 rfl rfl kr (fun w1 h => jLost jb why num m w1 (h.hasR (fun e he => by rw [List.mem_singleton.1 he]; exact mH)))) ?_
 rintro ⟨⟩ -
 refine CfgL.done rfl ?_
 refine Cg (Γ' := [(12,[],.bool (why != (0 : Int))),(4,[],pT rs),(0,[],pT jb),(1,[],.int .i64 q)]) ?_
 refine Cfg.cond rfl (b := (why != (0 : Int))) kr (fun c2r => ?_) (fun c2r => ?_)
 ·have c2 := (bne_iff_ne.1 c2r)
  refine Cfg.begA rfl kr [] ?_
  refine Ap [0,1,2,3,4,5] [(dS (.agg (bv (List.replicate 512 0)))),dZ,dZ,dZ,dZ,(dS (.int .i64 why))] (some [4,13,18]) (tF 6 2) (.cons _ .slnil) 2 (fun S => [(∀ w1,S w1 → (Instr.build 37 #[]).run Tryz.prog w1 = .ok (.agg (bv (List.replicate 512 0))) w1),(cE S jb 0 (.int .i64 why))]) ⟨(fun _ _ => kr),(rC 0 rfl rfl),trivial⟩ ?_
  refine Ae 6 rfl 1  (Eff.storeN (b := rs) (off := 0) (vs := (bv (List.replicate 512 0))) (n := 512) rfl kr kr kr ((bv_size _).trans (List.length_replicate)) (all_bv _) 0 (cs := (bv (List.replicate 512 0))) (e := 37) kr (by rw [zsz512]; omega)) (fun _ _ => List.nil_sublist _) ?_
  rintro ⟨⟩ -
  refine CfgA.setO (congrArg (fun (xq : Array Value) => ([(rs,.cells xq 37 (0,0))] : LO)) (show _ = (bv (List.replicate 512 0)) from spl_all (((bv_size _).trans (List.length_replicate)).trans zsz512.symm))) ?_
  refine Ap [7] [] (some [4,5]) (tF 8 0) (.cons _ .slnil) 0 n0 trivial ?_
  refine CfgA.done kr ?_
  refine Cfg.ret rfl (rs := [.cell 4 37,.tmp 5]) rfl [.agg (bv (List.replicate 512 0)),.int .i64 why] ⟨⟨_,by kernel_rfl,(fun w1 h => h.oload 0 rfl Tryz.underlying37 rfl (n := 512) kr ((bv_size _).trans (List.length_replicate)))⟩,by kernel_rfl,trivial⟩ (fun w1 hp => ?_)
  exact ⟨by rw [if_pos c2,if_pos c2]; rfl,hp.ext⟩
 ·have c2 := (bne_eq_false_iff_eq.1 c2r)
  refine Cfg.begL rfl ?_
  refine Lp 5 [dZ,dZ,dZ,(dS (.pointer (some ⟨m.d,0,none⟩)))] (some [4,22,23]) (fun S => [(cE S jb 1 (.pointer (some ⟨m.d,0,none⟩)))]) ⟨(rC 0 rfl rfl),trivial⟩ ?_
  refine Le (Eff.callA (vs := [.pointer (some ⟨m.d,0,none⟩),.int .i64 q]) (.tuple #[.agg (bv (readF D q)),.int .i64 (fltF D q)]) rfl Tryz.func10 rfl rfl kr (fun w1 h => dRead m x D q w1 hg hmo (h.hasR (fun e he => List.mem_cons_of_mem _ he)))) ?_
  rintro ⟨⟩ -
  refine Lp 2 [] (some [4,25,26]) n0 trivial ?_
  refine Le (Eff.storeN (b := rs) (off := 0) (vs := (bv (readF D q))) (n := 512) rfl kr kr kr ((bv_size _).trans (readF_len hg _)) (all_bv _) 0 (cs := (bv (List.replicate 512 0))) (e := 37) kr (by rw [zsz512]; omega)) ?_
  rintro ⟨⟩ -
  refine CfgL.setO (congrArg (fun (xq : Array Value) => ([(rs,.cells xq 37 (0,0))] : LO)) (show _ = (bv (readF D q)) from spl_all (((bv_size _).trans (readF_len hg _)).trans zsz512.symm))) ?_
  refine Lp 1 [] (some [4,5]) n0 trivial ?_
  refine CfgL.done rfl ?_
  refine Cfg.ret rfl (rs := [.cell 4 37,.tmp 5]) rfl [.agg (bv (readF D q)),.int .i64 (fltF D q)] ⟨⟨_,by kernel_rfl,(fun w1 h => h.oload 0 rfl Tryz.underlying37 rfl (n := 512) kr ((bv_size _).trans (readF_len hg _)))⟩,by kernel_rfl,trivial⟩ (fun w1 hp => ?_)
  exact ⟨by rw [if_neg (fun h => h c2),if_neg (fun h => h c2)]; rfl,hp.ext⟩
set_option maxRecDepth 100000 in
set_option maxHeartbeats 2000000 in
theorem jLay (jb : Nat) (why : Int) (num : Nat) (m : DM) (x : MX) (D : DK) (la : Option Addr) (cap : Nat) (l : List Wr) (Rl : List (Nat × Obj)) (w : World) (hg : DG D) (hA : Has w (dO D m x)) (hd : ((dO D m x).map (·.1)).Nodup) (hI : InW Rl la l) (hW : WW l) (hl : l.length ≤ 100000) (hs : 0 ≤ D.steps ∧ D.steps ≤ 4611686018427000000) (hmo : MapOk x.1 x.2 (wv2 D.wait)) (hR : Has w ((jb,Obj.cells #[.int .i64 why,.pointer (some ⟨m.d,0,none⟩),.int .u64 (num : Int)] 143 (0,0)) :: Rl)) (hnr : ∀ e ∈ (jb,Obj.cells #[.int .i64 why,.pointer (some ⟨m.d,0,none⟩),.int .u64 (num : Int)] 143 (0,0)) :: Rl,e.1 ∉ (dO D m x).map (·.1)) :
  Calls Tryz.prog 64 #[.pointer (some ⟨jb,0,none⟩),.slice la l.length cap] w fun e w' => ∃ x2 : MX,MapOk x2.1 x2.2 (wv2 (layF D l).2.wait) ∧ e = .returned (.int .i64 (layF D l).1) ∧ ∃ R1,HP w ((dO D m x).map (·.1)) R1 (dO (layF D l).2 m x2) w' := by
 refine enter (vs := [pT jb,.slice la l.length cap]) ((dO D m x).map (·.1)) ((jb,Obj.cells #[.int .i64 why,.pointer (some ⟨m.d,0,none⟩),.int .u64 (num : Int)] 143 (0,0)) :: Rl) ([] ++ (dO D m x ++ [])) Tryz.func64 rfl kr (by rw [List.append_nil]; exact HP.ofL hA hd hR hnr) ?_
 refine Rg [0,1] [] n0 trivial ?_
 refine Rg [0,8,9,10] [] n0 trivial ?_
 refine Cfg.loop rfl (ι := Nat × DK × MX) (fun (xz : Nat × DK × MX) => match xz with | (i,E,y) => [(10,[],.int .i64 (i : Int)),(9,[],.int .i64 (l.length : Int)),(8,[],.slice la l.length cap),(0,[],pT jb)]) (fun (xz : Nat × DK × MX) => match xz with | (i,E,y) => ([] ++ (dO E m y ++ []))) (fun (xz : Nat × DK × MX) => match xz with | (i,E,y) => (i ≤ l.length) ∧ (DG E) ∧ (MapOk y.1 y.2 (wv2 E.wait)) ∧ (D.steps ≤ E.steps ∧ E.steps ≤ D.steps + (i : Int)) ∧ (layF E (l.drop i) = layF D l)) (fun (xz : Nat × DK × MX) => match xz with | (i,E,y) => l.length - i) (0,D,x) ?_ (Conv.mk kr) slr ?_
 ·exact ⟨Nat.zero_le _,hg,hmo,⟨by omega,by omega⟩,by rw [List.drop_zero]⟩
 ·rintro ⟨i,E,y⟩ ⟨hi,hgE,hmo_y,hsE,hlE⟩
  have hst : 0 ≤ E.steps ∧ E.steps ≤ 4611686018427387904 := by omega
  refine Rg [0,8,9,10,11] [] n0 trivial ?_
  refine Cfg.cond rfl (b := (decide ((i : Int) < (l.length : Int)))) kr (fun c1r => ?_) (fun c1r => ?_)
  ·have c1 := (dT c1r)
   obtain ⟨sb,off,cs,te,fre,rfl,hmem,hcs⟩ := hI om
   refine Conv.cfg (Γ' := [(11,[],.bool (decide ((i : Int) < (l.length : Int)))),(10,[],.int .i64 (i : Int)),(9,[],.int .i64 (l.length : Int)),(8,[],.slice (some ⟨sb,off,none⟩) l.length cap),(0,[],pT jb)]) (Conv.mk kr) ?_
   refine Cfg.begL rfl ?_
   refine Lp 2 [dZ,(dS (.agg (jc (l.getD i wz)).toArray))] (some [0,8,9,10,13]) (fun S => [(0 ≤ (i : Int) ∧ (i : Int) < (l.length : Int)),(∀ w1,S w1 → (loadVar 101 ⟨sb,(addO off (i * 513)),none⟩).run Tryz.prog w1 = .ok (.agg (jc (l.getD i wz)).toArray) w1)]) ⟨om,(fun w1 h => load_list Tryz.underlying101 rfl kr (jc_len (hW.at i)) (fun j v hj => by rw [addO_eq]; exact (cell_cells (h.ro _ (List.mem_cons_of_mem _ hmem))).trans (wr_cell hW hcs om hj))),trivial⟩ ?_
   refine Le (Eff.alloc (z := (.agg (jc wz).toArray)) rfl kr) ?_
   rintro wb ⟨hwb,nwb⟩
   refine Le (Eff.storeN (b := wb) (off := 0) (vs := (jc (l.getD i wz)).toArray) (n := 513) rfl kr kr kr (by rw [List.size_toArray,jc_len (hW.at i)]) (jc_all _) 0 (cs := (jc wz).toArray) (e := 101) kr (by show 0 + 513 ≤ (jc wz).toArray.size; rw [List.size_toArray,jc_len zb_len]; decide)) ?_
   rintro ⟨⟩ -
   refine CfgL.setO (congrArg (fun (xq : Array Value) => (([(wb,.cells xq 101 (0,0))] ++ (dO E m y ++ [])) : LO)) (show _ = ((jc (l.getD i wz)).toArray) from spl_all (by rw [List.size_toArray,List.size_toArray,jc_len (hW.at i)]; exact (jc_len zb_len).symm))) ?_
   refine CfgL.done rfl ?_
   refine Cg (Γ' := [(6,[],pT wb),(10,[],.int .i64 (i : Int)),(9,[],.int .i64 (l.length : Int)),(8,[],.slice (some ⟨sb,off,none⟩) l.length cap),(0,[],pT jb)]) ?_
   refine Cfg.begA rfl kr [(wb,.cells ((jc (l.getD i wz)).toArray) 101 (0,0))] ?_
   refine Ap (List.range 8) [dZ,dZ,dZ,(dS (.pointer (some ⟨m.d,0,none⟩))),dZ,(dS (.int .i64 ((l.getD i wz).1))),dZ,(dS (.agg (bv (l.getD i wz).2)))] (some [0,8,9,10,17,19,21]) (tF 8 2) (.cons_cons _ (List.nil_sublist _)) 2 (fun S => [(cE S jb 1 (.pointer (some ⟨m.d,0,none⟩))),(cE S wb 0 (.int .i64 ((l.getD i wz).1))),(∀ w1,S w1 → (loadVar 37 ⟨wb,1,none⟩).run Tryz.prog w1 = .ok (.agg (bv (l.getD i wz).2)) w1)]) ⟨(rC 0 rfl rfl),(oC 0 rfl rfl),(fun w1 h => load_bytes Tryz.underlying37 rfl kr (hW.at i) (fun j hj => by rw [cell_cells (h.own (wb,_) (mG 0 rfl)),List.getElem?_toArray]; exact jc_byte (hW.at i) hj)),trivial⟩ ?_
   refine Ae 8 rfl 1  (Eff.callH (vs := [.pointer (some ⟨m.d,0,none⟩),.int .i64 ((l.getD i wz).1),.agg (bv (l.getD i wz).2)]) (fun _ : MX => .int .i64 ((writeF E ((l.getD i wz).1) ((l.getD i wz).2)).1)) (dO E m y) (fun y => dO ((writeF E ((l.getD i wz).1) ((l.getD i wz).2)).2) m y) (fun y => MapOk y.1 y.2 (wv2 ((writeF E ((l.getD i wz).1) ((l.getD i wz).2)).2).wait)) [(wb,.cells ((jc (l.getD i wz)).toArray) 101 (0,0))] [] rfl rfl Tryz.func11 rfl rfl kr (fun w1 h hA hd => dWrite m y E ((l.getD i wz).1) ((l.getD i wz).2) w1 hgE hmo_y hA hd (hW.at i) hst)) (fun _ _ => (.cons_cons _ (List.nil_sublist _))) ?_
   rintro x1 hmo_x1
   refine Ap [9] [] (some [0,7,8,9,10]) (tF 10 0) (.cons_cons _ (List.nil_sublist _)) 0 n0 trivial ?_
   refine CfgA.done kr ?_
   refine Rg [0,7,8,9,10,24] [] n0 trivial ?_
   refine Cfg.cond rfl (b := (((writeF E ((l.getD i wz).1) ((l.getD i wz).2)).1) != (0 : Int))) kr (fun c2r => ?_) (fun c2r => ?_)
   ·have c2 := (bne_iff_ne.1 c2r)
    refine Rg [4] [] n0 trivial ?_
    refine Cfg.ret rfl (rs := [.tmp 4]) rfl [.int .i64 ((writeF E ((l.getD i wz).1) ((l.getD i wz).2)).1)] ⟨kr,trivial⟩ (fun w1 hp => ?_)
    have hx : layF D l = writeF E (l.getD i wz).1 (l.getD i wz).2 := by rw [← hlE]; exact layF_stop om om
    rw [hx]
    have h9 := hp.sub (List.sublist_append_right _ _)
    rw [List.append_nil] at h9
    exact ⟨x1,hmo_x1,rfl,_,h9⟩
   ·have c2 := (bne_eq_false_iff_eq.1 c2r)
    refine Rg [0,8,9,10] [] (fun _ => [(i6 ((i : Int) + 1))]) ⟨om,trivial⟩ ?_
    have hws := writeF_steps E (l.getD i wz).1 (l.getD i wz).2
    have hgo := layF_go (E := E) (l := l) (i := i) om om
    refine Cfg.again rfl (i + 1,(writeF E (l.getD i wz).1 (l.getD i wz).2).2,x1) ⟨by omega,hgE.write _ (hW.at i),hmo_x1,by omega,hgo ▸ hlE⟩ (by show l.length - (i + 1) < l.length - i; omega) (Conv.mk kr) (.cons _ slr)
  ·have c1 := (dF c1r)
   refine Cfg.begL rfl ?_
   refine Lp 4 [dZ,dZ,dZ,(dS (.pointer (some ⟨m.d,0,none⟩)))] (some [30]) (fun S => [(cE S jb 1 (.pointer (some ⟨m.d,0,none⟩)))]) ⟨(rC 0 rfl rfl),trivial⟩ ?_
   refine Le (Eff.callH (vs := [.pointer (some ⟨m.d,0,none⟩)]) (fun _ : MX => .int .i64 ((barF E).1)) (dO E m y) (fun y => dO ((barF E).2) m y) (fun y => MapOk y.1 y.2 (wv2 ((barF E).2).wait)) [] [] rfl rfl Tryz.func104 rfl rfl kr (fun w1 h hA hd => dBarrier m y E w1 hgE hmo_y hA hd hst)) ?_
   rintro x2 hmo_x2
   refine Lp 1 [] (some [4]) n0 trivial ?_
   refine CfgL.done rfl ?_
   refine Cfg.ret rfl (rs := [.tmp 4]) rfl [.int .i64 ((barF E).1)] ⟨kr,trivial⟩ (fun w1 hp => ?_)
   have hx : layF D l = barF E := by rw [← hlE,List.drop_eq_nil_of_le om]; rfl
   rw [hx]
   have h9 := hp.sub (List.sublist_append_right _ _)
   rw [List.append_nil] at h9
   exact ⟨x2,hmo_x2,rfl,_,h9⟩
end Go.Proofs.YtfgdepggdiibdaaGreatDoor
namespace Go.Proofs.YtfgdepggdiibdaaGreatDoor
open K
set_option linter.unusedVariables false
theorem ktK : KT (wv Kc) := fun t h => kget h
theorem lay_has {w0 w : World} {M : List Nat} {R Rl L S A : List (Nat × Obj)} {jb : Nat × Obj} (h : HP w0 M R (L ++ (S ++ (A ++ []))) w) (hj : jb ∈ R) (hl : ∀ e ∈ Rl,e ∈ R) : Has w (jb :: ((L ++ S) ++ Rl)) := fun e he => by
 rcases List.mem_cons.1 he with rfl | he
 ·exact h.ro _ hj
 ·rcases List.mem_append.1 he with he | he
  ·refine h.own _ ?_
   rcases List.mem_append.1 he with he | he
   ·exact mL he
   ·exact mR (mL he)
  ·exact h.ro _ (hl e he)
theorem own_apart {w0 w : World} {M : List Nat} {R L S A : List (Nat × Obj)} (h : HP w0 M R (L ++ (S ++ (A ++ []))) w) : ∀ e ∈ L ++ S,e.1 ∉ A.map (·.1) := fun e he hm => by
 obtain ⟨e2,h2,h3⟩ := List.mem_map.1 hm
 have hd := h.dist
 rw [← List.append_assoc,List.map_append] at hd
 have h4 := (List.nodup_append.1 hd).2.2 e.1 (List.mem_map.2 ⟨e,he,rfl⟩) e2.1 (List.mem_map.2 ⟨e2,mL h2,rfl⟩)
 exact h4 h3.symm
theorem lay_apart {w0 w : World} {M : List Nat} {R Rl L S A : List (Nat × Obj)} {jb : Nat × Obj} (h : HP w0 M R (L ++ (S ++ (A ++ []))) w) (hj : jb ∈ R) (hl : ∀ e ∈ Rl,e ∈ R) : ∀ e ∈ jb :: ((L ++ S) ++ Rl),e.1 ∉ A.map (·.1) := fun e he hm => by
 rcases List.mem_cons.1 he with rfl | he
 ·obtain ⟨e2,h2,h3⟩ := List.mem_map.1 hm
  exact h.away (mR (mR (mL h2))) hj h3
 ·rcases List.mem_append.1 he with he | he
  ·exact own_apart h e he hm
  ·obtain ⟨e2,h2,h3⟩ := List.mem_map.1 hm
   exact h.away (mR (mR (mL h2))) (hl e he) h3
theorem cpy_jv (l : List Wr) (i : Nat) : jv (cpy l i) ++ jc ((i : Int) + 1,(l.getD i wz).2) = jv (cpy l (i + 1)) := by
 rw [cpy_next,jv_app,jv_one]; rfl
theorem inW_one (b : Nat) (a : Wr) (ha : a.2.length = 512) (t : TypeId) : InW [(b,.cells (jc a).toArray t (0,0))] (some ⟨b,0,none⟩) [a] := by
 intro _
 refine ⟨b,0,_,t,(0,0),rfl,List.mem_singleton.2 rfl,fun j hj => ?_⟩
 rw [List.length_singleton,Nat.one_mul] at hj
 rw [Nat.zero_add,jv_one,List.getElem?_toArray]
 show (jc a)[j]? = some ((jc a).getD j undef)
 rw [List.getD_eq_getElem?_getD,List.getElem?_eq_getElem (by rw [jc_len ha]; exact hj)]; rfl
theorem inW_own1 {o : K.Own} {e : TypeId} {l : List Wr} (hok : OwnOk o 513 l.length (jv l)) : InW (o.o e (jv l)) o.a l := inW_own hok
theorem laysF_stop {E : DK} {ls : List (List Wr)} {k : Nat} (h : k < ls.length) (he : (layF E (ls.getD k [])).1 ≠ 0) : laysF E (ls.drop k) = layF E (ls.getD k []) := by
 rw [List.drop_eq_getElem_cons h,laysF]
 rw [List.getD_eq_getElem?_getD,List.getElem?_eq_getElem h] at he ⊢
 exact if_pos he
theorem laysF_go {E : DK} {ls : List (List Wr)} {k : Nat} (h : k < ls.length) (he : (layF E (ls.getD k [])).1 = 0) : laysF E (ls.drop k) = laysF (layF E (ls.getD k [])).2 (ls.drop (k + 1)) := by
 rw [List.drop_eq_getElem_cons h,laysF]
 rw [List.getD_eq_getElem?_getD,List.getElem?_eq_getElem h] at he ⊢
 exact if_neg (fun e => e he)
theorem W5.atS {ls : List (List Wr)} (h : ∀ l ∈ ls,WW l) (k : Nat) : WW (ls.getD k []) := by
 rw [List.getD_eq_getElem?_getD]
 by_cases hk : k < ls.length
 ·rw [List.getElem?_eq_getElem hk]; exact h _ (List.getElem_mem hk)
 ·rw [List.getElem?_eq_none om]; exact WW.nil
set_option maxRecDepth 100000 in
set_option maxHeartbeats 4000000 in
theorem jTrans (jb : Nat) (why : Int) (num : Nat) (m : DM) (x : MX) (D : DK) (n : Nat) (la : Option Addr) (cap : Nat) (l : List Wr) (Rl : List (Nat × Obj)) (t0 : TypeId) (fr0 : Nat × Nat) (w : World) (hnu : n < 18446744073709551616) (hg : DG D) (hA : Has w (dO D m x)) (hd : ((dO D m x).map (·.1)).Nodup) (hI : InW Rl la l) (hW : WW l) (hl : l.length ≤ 96) (hcl : l.length ≤ cap) (hs : 0 ≤ D.steps ∧ D.steps ≤ 4611686018426000000) (hmo : MapOk x.1 x.2 (wv2 D.wait)) (hR : Has w ((jb,Obj.cells #[.int .i64 why,.pointer (some ⟨m.d,0,none⟩),.int .u64 (num : Int)] 143 (0,0)) :: (1,Obj.cells (wv Kc) t0 fr0) :: Rl)) (hnr : ∀ e ∈ (jb,Obj.cells #[.int .i64 why,.pointer (some ⟨m.d,0,none⟩),.int .u64 (num : Int)] 143 (0,0)) :: (1,Obj.cells (wv Kc) t0 fr0) :: Rl,e.1 ∉ (dO D m x).map (·.1)) :
  Calls Tryz.prog 82 #[.pointer (some ⟨jb,0,none⟩),.int .u64 (n : Int),.slice la l.length cap] w fun e w' => ∃ x2 : MX,MapOk x2.1 x2.2 (wv2 (transF D n l).2.wait) ∧ e = .returned (.int .i64 (transF D n l).1) ∧ ∃ R1,HP w ((dO D m x).map (·.1)) R1 (dO (transF D n l).2 m x2) w' := by
 obtain ⟨st4,hst4⟩ : ∃ s,s = stagesF n l := ⟨_,rfl⟩
 have hsl : st4.length = 4 := by rw [hst4]; rfl
 have hsw : ∀ s ∈ st4,WW s := hst4 ▸ stages_w hW n
 unfold transF
 rw [← hst4]
 refine enter (vs := [pT jb,.int .u64 (n : Int),.slice la l.length cap]) ((dO D m x).map (·.1)) ((jb,Obj.cells #[.int .i64 why,.pointer (some ⟨m.d,0,none⟩),.int .u64 (num : Int)] 143 (0,0)) :: (1,Obj.cells (wv Kc) t0 fr0) :: Rl) ([] ++ (dO D m x ++ [])) Tryz.func82 rfl kr (by rw [List.append_nil]; exact HP.ofL hA hd hR hnr) ?_
 refine Rg [0,1,2] [] n0 trivial ?_
 refine Rg [0,1,2,7] [] n0 trivial ?_
 refine Rg [0,1,2,7,13,14,15] [] n0 trivial ?_
 refine Cfg.loop rfl (ι := Nat × K.Own) (fun (xz : Nat × K.Own) => match xz with | (i,oc) => [(15,[],.int .i64 (i : Int)),(14,[],.int .i64 (l.length : Int)),(13,[],.slice la l.length cap),(7,[],.slice (Own.a oc) i (Own.c oc)),(0,[],pT jb),(1,[],.int .u64 (n : Int)),(2,[],.slice la l.length cap)]) (fun (xz : Nat × K.Own) => match xz with | (i,oc) => ([] ++ (Own.o 101 (jv (cpy l i)) oc ++ (dO D m x ++ [])))) (fun (xz : Nat × K.Own) => match xz with | (i,oc) => (i ≤ l.length) ∧ (OwnOk oc 513 i (jv (cpy l i)))) (fun (xz : Nat × K.Own) => match xz with | (i,oc) => l.length - i) (0,none) ?_ (Conv.mk kr) slr ?_
 ·exact ⟨Nat.zero_le _,OwnOk.none _⟩
 ·rintro ⟨i,oc⟩ ⟨hi,hoc⟩
  refine Rg [0,1,2,7,13,14,15,16] [] n0 trivial ?_
  refine Cfg.cond rfl (b := (decide ((i : Int) < (l.length : Int)))) kr (fun c1r => ?_) (fun c1r => ?_)
  ·have c1 := (dT c1r)
   obtain ⟨sb,off,cs,te,fre,rfl,hmem,hcs⟩ := hI om
   refine Conv.cfg (Γ' := [(16,[],.bool (decide ((i : Int) < (l.length : Int)))),(15,[],.int .i64 (i : Int)),(14,[],.int .i64 (l.length : Int)),(13,[],.slice (some ⟨sb,off,none⟩) l.length cap),(7,[],.slice (Own.a oc) i (Own.c oc)),(0,[],pT jb),(1,[],.int .u64 (n : Int)),(2,[],.slice (some ⟨sb,off,none⟩) l.length cap)]) (Conv.mk kr) ?_
   refine Cfg.begL rfl ?_
   refine Lp 3 [dZ,dZ,(dS (.agg (jc (l.getD i wz)).toArray))] (some [0,1,2,7,13,14,15,17,19]) (fun S => [(0 ≤ (i : Int) ∧ (i : Int) < (l.length : Int)),(∀ w1,S w1 → (loadVar 101 ⟨sb,(addO off (i * 513)),none⟩).run Tryz.prog w1 = .ok (.agg (jc (l.getD i wz)).toArray) w1)]) ⟨om,(fun w1 h => load_list Tryz.underlying101 rfl kr (jc_len (hW.at i)) (fun j v hj => by rw [addO_eq]; exact (cell_cells (h.ro _ (List.mem_cons_of_mem _ (List.mem_cons_of_mem _ hmem)))).trans (wr_cell hW hcs om hj))),trivial⟩ ?_
   refine Le (Eff.alloc (z := (.agg (jc wz).toArray)) rfl kr) ?_
   rintro wb ⟨hwb,nwb⟩
   refine Lp 1 [] (some [0,1,2,7,8,9,13,14,15,19]) n0 trivial ?_
   refine Le (Eff.storeN (b := wb) (off := 0) (vs := (jc (l.getD i wz)).toArray) (n := 513) rfl kr kr kr (by rw [List.size_toArray,jc_len (hW.at i)]) (jc_all _) 0 (cs := (jc wz).toArray) (e := 101) kr (by show 0 + 513 ≤ (jc wz).toArray.size; rw [List.size_toArray,jc_len zb_len]; decide)) ?_
   rintro ⟨⟩ -
   refine CfgL.setO (congrArg (fun (xq : Array Value) => (([(wb,.cells xq 101 (0,0))] ++ (Own.o 101 (jv (cpy l i)) oc ++ (dO D m x ++ []))) : LO)) (show _ = ((jc (l.getD i wz)).toArray) from spl_all (by rw [List.size_toArray,List.size_toArray,jc_len (hW.at i)]; exact (jc_len zb_len).symm))) ?_
   refine CfgL.done rfl ?_
   refine Cg (Γ' := [(8,[],.int .i64 (i : Int)),(9,[],pT wb),(15,[],.int .i64 (i : Int)),(14,[],.int .i64 (l.length : Int)),(13,[],.slice (some ⟨sb,off,none⟩) l.length cap),(7,[],.slice (Own.a oc) i (Own.c oc)),(0,[],pT jb),(1,[],.int .u64 (n : Int)),(2,[],.slice (some ⟨sb,off,none⟩) l.length cap)]) ?_
   refine Cfg.begL rfl ?_
   refine Lp 6 [dZ,dZ,dZ,dZ,(dS (.agg (bv (l.getD i wz).2))),(dS (.agg (jc (((i : Int) + 1),(l.getD i wz).2)).toArray))] (some [0,1,2,7,13,14,15,20,25]) (fun S => [(i6 ((i : Int) + 1)),(∀ w1,S w1 → (loadVar 37 ⟨wb,1,none⟩).run Tryz.prog w1 = .ok (.agg (bv (l.getD i wz).2)) w1),(∀ w1,S w1 → (Instr.build 101 #[(0,.int .i64 ((i : Int) + 1)),(1,.agg (bv (l.getD i wz).2))]).run Tryz.prog w1 = .ok (.agg (jc (((i : Int) + 1),(l.getD i wz).2)).toArray) w1)]) ⟨om,(fun w1 h => load_bytes Tryz.underlying37 rfl kr (hW.at i) (fun j hj => by rw [cell_cells (h.own (wb,_) (mG 0 rfl)),List.getElem?_toArray]; exact jc_byte (hW.at i) hj)),(fun w1 _ => build_wr (((i : Int) + 1)) (hW.at i) w1),trivial⟩ ?_
   refine Le (Eff.buildAgg (vs := (jc (((i : Int) + 1),(l.getD i wz).2)).toArray) (n := 513) rfl kr Tryz.underlying98 kr (z := (.agg (jc wz).toArray)) kr (by rw [List.size_toArray]; exact jc_len (hW.at i)) (by decide) (by decide)) ?_
   rintro kb ⟨hkb,nkb⟩
   refine Le (Eff.appendF rfl 513 520 Tryz.underlying98 kr (z := (.agg (jc wz).toArray)) kr kr oc (xs := (jv (cpy l i))) hoc kr (b2 := kb) (off2 := 0) (m := 1) (c2 := 1) kr (jc ((i : Int) + 1,(l.getD i wz).2)) (jc_len (hW.at i)) (jc_all _) [(kb,.cells ((jc (((i : Int) + 1),(l.getD i wz).2)).toArray) 101 (0,0)),(wb,.cells ((jc (l.getD i wz)).toArray) 101 (0,0))] ([] ++ (dO D m x ++ [])) (by rfl) (fun w1 h j v hj => by rw [Nat.zero_add]; exact h.ocell 0 rfl (by rw [List.getElem?_toArray]; exact hj)) om om) ?_
   rintro o1 ko1
   refine Lp 1 [] (some [0,1,2,7,13,14,15]) n0 trivial ?_
   refine CfgL.done rfl ?_
   refine Rg [0,1,2,7,13,14,15] [] (fun _ => [(i6 ((i : Int) + 1))]) ⟨om,trivial⟩ ?_
   have hrv := cpy_jv l i
   refine Cfg.setO (congrArg (fun (xq : List Value) => (([(kb,.cells ((jc (((i : Int) + 1),(l.getD i wz).2)).toArray) 101 (0,0)),(wb,.cells ((jc (l.getD i wz)).toArray) 101 (0,0))] ++ (Own.o 101 xq o1 ++ (dO D m x ++ []))) : LO)) (show _ = (jv (cpy l (i + 1))) from hrv)) ?_
   refine Cfg.again rfl (i + 1,o1) ⟨by omega,hrv ▸ ko1⟩ (by show l.length - (i + 1) < l.length - i; omega) (Conv.mk kr) (.cons _ (.cons _ slr))
  ·have c1 := (dF c1r)
   obtain rfl : i = l.length := by omega
   refine Conv.cfg (Γ' := [(7,[],.slice (Own.a oc) l.length (Own.c oc)),(0,[],pT jb),(1,[],.int .u64 (n : Int)),(2,[],.slice la l.length cap)]) (Conv.mk kr) ?_
   refine Cfg.begL rfl ?_
   refine Lp 1 [(dS (.agg (jc ((0 : Int),zb)).toArray))] none (fun S => [(∀ w1,S w1 → (Instr.build 101 #[(0,.int .i64 0)]).run Tryz.prog w1 = .ok (.agg (jc ((0 : Int),zb)).toArray) w1)]) ⟨(fun w1 _ => kr),trivial⟩ ?_
   refine Le (Eff.buildAgg (vs := (jc ((0 : Int),zb)).toArray) (n := 513) rfl kr Tryz.underlying98 kr (z := (.agg (jc wz).toArray)) kr (by rw [List.size_toArray]; exact jc_len zb_len) (by decide) (by decide)) ?_
   rintro sa ⟨hsa,nsa⟩
   refine Lp 3 [] (some [0,2,30,31,32,33]) n0 trivial ?_
   refine Le (Eff.callA (vs := [.int .u64 (n : Int),.slice la l.length cap]) (.agg (bv (headF n l))) rfl Tryz.func102 rfl rfl kr (fun w1 h => jHead n la cap l Rl w1 hnu hI hW (by unfold maxLen; omega) hcl (h.hasR (fun e he => List.mem_cons_of_mem _ he)) ktK)) ?_
   rintro ⟨⟩ -
   refine Lp 1 [(dS (.agg (jc ((0 : Int),(headF n l))).toArray))] (some [0,2,30,31,35]) (fun S => [(∀ w1,S w1 → (Instr.build 101 #[(0,.int .i64 0),(1,.agg (bv (headF n l)))]).run Tryz.prog w1 = .ok (.agg (jc ((0 : Int),(headF n l))).toArray) w1)]) ⟨(fun w1 _ => build_wr ((0 : Int)) (headF_len _ _) w1),trivial⟩ ?_
   refine Le (Eff.buildAgg (vs := (jc ((0 : Int),(headF n l))).toArray) (n := 513) rfl kr Tryz.underlying98 kr (z := (.agg (jc wz).toArray)) kr (by rw [List.size_toArray]; exact jc_len (headF_len _ _)) (by decide) (by decide)) ?_
   rintro sc ⟨hsc,nsc⟩
   refine Lp 1 [] (some [0,30,31,36,37]) n0 trivial ?_
   refine Le (Eff.buildSlice (e := 98) (cells := #[.slice (some ⟨sa,0,none⟩) 1 1,.slice (Own.a oc) l.length (Own.c oc),.slice (some ⟨sc,0,none⟩) 1 1,.slice la l.length cap]) (parts := #[(0,.slice (some ⟨sa,0,none⟩) 1 1),(1,.slice (Own.a oc) l.length (Own.c oc)),(2,.slice (some ⟨sc,0,none⟩) 1 1),(3,.slice la l.length cap)]) rfl kr (fun _ => kr)) ?_
   rintro sr ⟨hsr,nsr⟩
   refine CfgL.pure 2 [] (some [0,38,39,40]) (Γ' := [(40,[],.int .i64 0),(39,[],.int .i64 (4 : Int)),(38,[],.slice (some ⟨sr,0,none⟩) 4 4),(0,[],pT jb)]) (nd := (fun _ => [])) kr (fun _ => kr) trivial ?_
   refine CfgL.done rfl ?_
   have hoc2 : OwnOk oc 513 (cpy l l.length).length (jv (cpy l l.length)) := by rw [cpy_len]; exact hoc
   obtain ⟨rA,hrA⟩ : ∃ f : Nat → Option Addr,f = fun k => if k = 0 then some ⟨sa,0,none⟩ else if k = 1 then Own.a oc else if k = 2 then some ⟨sc,0,none⟩ else la := ⟨_,rfl⟩
   obtain ⟨rCx9,hrC⟩ : ∃ f : Nat → Nat,f = fun k => if k = 0 then 1 else if k = 1 then Own.c oc else if k = 2 then 1 else cap := ⟨_,rfl⟩
   have hcell : ∀ k,k < 4 → (#[.slice (some ⟨sa,0,none⟩) 1 1,.slice (Own.a oc) l.length (Own.c oc),.slice (some ⟨sc,0,none⟩) 1 1,.slice la l.length cap] : Array Value)[k]? = some (.slice (rA k) (st4.getD k []).length (rCx9 k)) := by intro k hk; rw [hrA,hrC,hst4]; rcases k with _ | _ | _ | _ | k; rfl; exact congrArg (fun n => some (Value.slice (Own.a oc) n (Own.c oc))) (cpy_len l l.length).symm; rfl; rfl; omega
   have hIB : ∀ k,InW (([(sr,Obj.cells #[.slice (some ⟨sa,0,none⟩) 1 1,.slice (Own.a oc) l.length (Own.c oc),.slice (some ⟨sc,0,none⟩) 1 1,.slice la l.length cap] 98 (0,0)),(sc,Obj.cells ((jc ((0 : Int),(headF n l))).toArray) 101 (0,0)),(sa,Obj.cells ((jc ((0 : Int),zb)).toArray) 101 (0,0))] ++ Own.o 101 (jv (cpy l l.length)) oc) ++ Rl) (rA k) (st4.getD k []) := by
    intro k
    have q0 : ∀ e ∈ [(sr,Obj.cells #[.slice (some ⟨sa,0,none⟩) 1 1,.slice (Own.a oc) l.length (Own.c oc),.slice (some ⟨sc,0,none⟩) 1 1,.slice la l.length cap] 98 (0,0)),(sc,Obj.cells ((jc ((0 : Int),(headF n l))).toArray) 101 (0,0)),(sa,Obj.cells ((jc ((0 : Int),zb)).toArray) 101 (0,0))],e ∈ (([(sr,Obj.cells #[.slice (some ⟨sa,0,none⟩) 1 1,.slice (Own.a oc) l.length (Own.c oc),.slice (some ⟨sc,0,none⟩) 1 1,.slice la l.length cap] 98 (0,0)),(sc,Obj.cells ((jc ((0 : Int),(headF n l))).toArray) 101 (0,0)),(sa,Obj.cells ((jc ((0 : Int),zb)).toArray) 101 (0,0))] ++ Own.o 101 (jv (cpy l l.length)) oc) ++ Rl) := fun e he => mL (mL he)
    rw [hrA,hst4]
    rcases k with _ | _ | _ | _ | k
    ·exact (inW_one sa ((0 : Int),zb) zb_len 101).mono (fun e he => q0 e (by rw [List.mem_singleton.1 he]; exact mG 2 rfl))
    ·exact (inW_own1 hoc2).mono (fun e he => mL (mR he))
    ·exact (inW_one sc ((0 : Int),headF n l) (headF_len _ _) 101).mono (fun e he => q0 e (by rw [List.mem_singleton.1 he]; exact mG 1 rfl))
    ·exact hI.mono (fun e he => mR he)
    ·exact fun h => absurd h (by show ¬ (0 < ([] : List Wr).length * 513); simp)
   have hLl : ∀ k,(st4.getD k []).length ≤ 96 := by intro k; rw [hst4]; rcases k with _ | _ | _ | _ | k; exact (by decide : 1 ≤ 96); exact (by show (cpy l l.length).length ≤ 96; rw [cpy_len]; exact hl); exact (by decide : 1 ≤ 96); exact hl; exact Nat.zero_le _
   refine Cfg.loop rfl (ι := Nat × DK × MX) (fun (xz : Nat × DK × MX) => match xz with | (k,E,y) => [(40,[],.int .i64 (k : Int)),(39,[],.int .i64 (4 : Int)),(38,[],.slice (some ⟨sr,0,none⟩) 4 4),(0,[],pT jb)]) (fun (xz : Nat × DK × MX) => match xz with | (k,E,y) => ([(sr,.cells #[.slice (some ⟨sa,0,none⟩) 1 1,.slice (Own.a oc) l.length (Own.c oc),.slice (some ⟨sc,0,none⟩) 1 1,.slice la l.length cap] 98 (0,0)),(sc,.cells ((jc ((0 : Int),(headF n l))).toArray) 101 (0,0)),(sa,.cells ((jc ((0 : Int),zb)).toArray) 101 (0,0))] ++ (Own.o 101 (jv (cpy l l.length)) oc ++ (dO E m y ++ [])))) (fun (xz : Nat × DK × MX) => match xz with | (k,E,y) => (k ≤ 4) ∧ (DG E) ∧ (MapOk y.1 y.2 (wv2 E.wait)) ∧ (D.steps ≤ E.steps ∧ E.steps ≤ D.steps + 200 * (k : Int)) ∧ (laysF E (st4.drop k) = laysF D st4)) (fun (xz : Nat × DK × MX) => match xz with | (k,E,y) => 4 - k) (0,D,x) ?_ (Conv.mk kr) slr ?_
   ·exact ⟨Nat.zero_le _,hg,hmo,⟨by omega,by omega⟩,by rw [List.drop_zero]⟩
   ·rintro ⟨k,E,y⟩ ⟨hk,hgE,hmo_y,hsE,hlE⟩
    refine Rg [0,38,39,40,41] [] n0 trivial ?_
    refine Cfg.cond rfl (b := (decide ((k : Int) < (4 : Int)))) kr (fun c2r => ?_) (fun c2r => ?_)
    ·have c2 := (dT c2r)
     refine Rg [0,11,38,39,40] [dZ,(dS (.slice (rA k) ((st4.getD k []).length) ((rCx9 k))))] (fun S => [(iL (k : Int) 4),(cE S sr k (.slice (rA k) ((st4.getD k []).length) ((rCx9 k))))]) ⟨om,(fun w1 h => h.ocell 0 rfl (hcell k om)),trivial⟩ ?_
     refine Cfg.begL rfl ?_
     refine Lp 2 [] (some [0,38,39,40,44,45]) n0 trivial ?_
     refine Le (Eff.callH (vs := [pT jb,.slice (rA k) ((st4.getD k []).length) ((rCx9 k))]) (fun _ : MX => .int .i64 ((layF E (st4.getD k [])).1)) (dO E m y) (fun z => dO (layF E (st4.getD k [])).2 m z) (fun z => MapOk z.1 z.2 (wv2 (layF E (st4.getD k [])).2.wait)) ([(sr,.cells #[.slice (some ⟨sa,0,none⟩) 1 1,.slice (Own.a oc) l.length (Own.c oc),.slice (some ⟨sc,0,none⟩) 1 1,.slice la l.length cap] 98 (0,0)),(sc,.cells ((jc ((0 : Int),(headF n l))).toArray) 101 (0,0)),(sa,.cells ((jc ((0 : Int),zb)).toArray) 101 (0,0))] ++ (Own.o 101 (jv (cpy l l.length)) oc)) [] rfl rfl Tryz.func64 rfl rfl kr (fun w1 h hA hd => jLay jb why num m y E (rA k) (rCx9 k) (st4.getD k []) (([(sr,Obj.cells #[.slice (some ⟨sa,0,none⟩) 1 1,.slice (Own.a oc) l.length (Own.c oc),.slice (some ⟨sc,0,none⟩) 1 1,.slice la l.length cap] 98 (0,0)),(sc,Obj.cells ((jc ((0 : Int),(headF n l))).toArray) 101 (0,0)),(sa,Obj.cells ((jc ((0 : Int),zb)).toArray) 101 (0,0))] ++ Own.o 101 (jv (cpy l l.length)) oc) ++ Rl) w1 hgE hA hd (hIB k) (W5.atS hsw k) (Nat.le_trans (hLl k) om) om hmo_y (lay_has (L := [(sr,Obj.cells #[.slice (some ⟨sa,0,none⟩) 1 1,.slice (Own.a oc) l.length (Own.c oc),.slice (some ⟨sc,0,none⟩) 1 1,.slice la l.length cap] 98 (0,0)),(sc,Obj.cells ((jc ((0 : Int),(headF n l))).toArray) 101 (0,0)),(sa,Obj.cells ((jc ((0 : Int),zb)).toArray) 101 (0,0))]) (S := Own.o 101 (jv (cpy l l.length)) oc) (A := dO E m y) h mH (fun e he => List.mem_cons_of_mem _ (List.mem_cons_of_mem _ he))) (lay_apart (L := [(sr,Obj.cells #[.slice (some ⟨sa,0,none⟩) 1 1,.slice (Own.a oc) l.length (Own.c oc),.slice (some ⟨sc,0,none⟩) 1 1,.slice la l.length cap] 98 (0,0)),(sc,Obj.cells ((jc ((0 : Int),(headF n l))).toArray) 101 (0,0)),(sa,Obj.cells ((jc ((0 : Int),zb)).toArray) 101 (0,0))]) (S := Own.o 101 (jv (cpy l l.length)) oc) (A := dO E m y) h mH (fun e he => List.mem_cons_of_mem _ (List.mem_cons_of_mem _ he))))) ?_
     rintro x2 hmo_x2
     refine Lp 1 [] (some [0,12,38,39,40]) n0 trivial ?_
     refine CfgL.done rfl ?_
     refine Rg [0,12,38,39,40,48] [] n0 trivial ?_
     refine Cfg.cond rfl (b := (((layF E (st4.getD k [])).1) != (0 : Int))) kr (fun c3r => ?_) (fun c3r => ?_)
     ·have c3 := (bne_iff_ne.1 c3r)
      refine Rg [6] [] n0 trivial ?_
      refine Cfg.ret rfl (rs := [.tmp 6]) rfl [.int .i64 ((layF E (st4.getD k [])).1)] ⟨kr,trivial⟩ (fun w1 hp => ?_)
      have hx : laysF D st4 = layF E (st4.getD k []) := by rw [← hlE]; exact laysF_stop om om
      rw [hx]
      have h8 : HP w ((dO D m x).map (·.1)) ((jb,Obj.cells #[.int .i64 why,.pointer (some ⟨m.d,0,none⟩),.int .u64 (num : Int)] 143 (0,0)) :: (1,Obj.cells (wv Kc) t0 fr0) :: Rl) ([(sr,Obj.cells #[.slice (some ⟨sa,0,none⟩) 1 1,.slice (Own.a oc) l.length (Own.c oc),.slice (some ⟨sc,0,none⟩) 1 1,.slice la l.length cap] 98 (0,0)),(sc,Obj.cells ((jc ((0 : Int),(headF n l))).toArray) 101 (0,0)),(sa,Obj.cells ((jc ((0 : Int),zb)).toArray) 101 (0,0))] ++ (Own.o 101 (jv (cpy l l.length)) oc ++ (dO ((layF E (st4.getD k [])).2) m x2 ++ []))) w1 := hp
      have h9 := (h8.sub (List.sublist_append_right [(sr,Obj.cells #[.slice (some ⟨sa,0,none⟩) 1 1,.slice (Own.a oc) l.length (Own.c oc),.slice (some ⟨sc,0,none⟩) 1 1,.slice la l.length cap] 98 (0,0)),(sc,Obj.cells ((jc ((0 : Int),(headF n l))).toArray) 101 (0,0)),(sa,Obj.cells ((jc ((0 : Int),zb)).toArray) 101 (0,0))] _)).sub (List.sublist_append_right (Own.o 101 (jv (cpy l l.length)) oc) _)
      rw [List.append_nil] at h9
      exact ⟨x2,hmo_x2,rfl,_,h9⟩
     ·have c3 := (bne_eq_false_iff_eq.1 c3r)
      refine Rg [0,38,39,40] [] (fun _ => [(i6 ((k : Int) + 1))]) ⟨om,trivial⟩ ?_
      have hls := layF_steps (st4.getD k []) E
      have hlk := hLl k
      have hgo := laysF_go (E := E) (ls := st4) (k := k) om om
      refine Cfg.again rfl (k + 1,(layF E (st4.getD k [])).2,x2) ⟨by omega,hgE.lay (W5.atS hsw k),hmo_x2,by omega,hgo ▸ hlE⟩ (by show 4 - (k + 1) < 4 - k; omega) (Conv.mk kr) slr
    ·have c2 := (dF c2r)
     refine Cfg.reg rfl [6] [] (Γ' := [(6,[],.int .i64 0)]) (nd := (fun _ => [])) (fun _ => kr) trivial ?_
     refine Cfg.ret rfl (rs := [.tmp 6]) rfl [.int .i64 0] ⟨kr,trivial⟩ (fun w1 hp => ?_)
     have hx : laysF D st4 = (0,E) := by rw [← hlE,List.drop_eq_nil_of_le om]; rfl
     rw [hx]
     have h8 : HP w ((dO D m x).map (·.1)) ((jb,Obj.cells #[.int .i64 why,.pointer (some ⟨m.d,0,none⟩),.int .u64 (num : Int)] 143 (0,0)) :: (1,Obj.cells (wv Kc) t0 fr0) :: Rl) ([(sr,Obj.cells #[.slice (some ⟨sa,0,none⟩) 1 1,.slice (Own.a oc) l.length (Own.c oc),.slice (some ⟨sc,0,none⟩) 1 1,.slice la l.length cap] 98 (0,0)),(sc,Obj.cells ((jc ((0 : Int),(headF n l))).toArray) 101 (0,0)),(sa,Obj.cells ((jc ((0 : Int),zb)).toArray) 101 (0,0))] ++ (Own.o 101 (jv (cpy l l.length)) oc ++ (dO E m y ++ []))) w1 := hp
     have h9 := (h8.sub (List.sublist_append_right [(sr,Obj.cells #[.slice (some ⟨sa,0,none⟩) 1 1,.slice (Own.a oc) l.length (Own.c oc),.slice (some ⟨sc,0,none⟩) 1 1,.slice la l.length cap] 98 (0,0)),(sc,Obj.cells ((jc ((0 : Int),(headF n l))).toArray) 101 (0,0)),(sa,Obj.cells ((jc ((0 : Int),zb)).toArray) 101 (0,0))] _)).sub (List.sublist_append_right (Own.o 101 (jv (cpy l l.length)) oc) _)
     rw [List.append_nil] at h9
     exact ⟨y,hmo_y,rfl,_,h9⟩
end Go.Proofs.YtfgdepggdiibdaaGreatDoor
namespace Go.Proofs.YtfgdepggdiibdaaGreatDoor
open K
set_option linter.unusedVariables false
theorem Eff.mapLen {C : Cx} {R O : List (Nat × Obj)} {Γ : Env} {op : Oper} {t kt e : TypeId} {x : Operand} (ho : op.op = .call ⟨.builtin .len,#[x],#[t]⟩) (hm : C.P.underlying t = some (.map kt e)) {r : Nat} (hx : opd Γ [] x = some (.map (some r))) {es : Array MapEntry} {ck : Nat} {W : List (Int × Value)} (h : MapOk es ck W) (hb : ∀ w,HP C.w0 C.M R O w → w.heap[r]? = some (.map es ck)) {n : Nat} (hn : W.length = n) :
  Eff C R O Γ op Unit (fun _ => .int .i64 (n : Int)) (fun _ => O) (fun _ => True) := by
 subst hn
 refine Eff.of_run fun a w hs hp => ⟨(),w,trivial,?_,hp⟩
 have hl : es.size = W.length := by
  have := congrArg List.length h.rel
  simpa using this
 have hr : (Builtin.len_ #[t] op.type #[.map (some r)]).run C.P w = .ok (.int .i64 (W.length : Int)) w := by
  simp [Builtin.len_,run_underlying' hm,Go.MapKept.run_getObj_map (hb w hp),goInt,hl]
 simp [execOp,ho,resolve,invoke,builtin,opd_ok hs (holds_nil _) hx,hr]
def iv2 (W : Nt) : List (Int × Value) := W.map fun p => (p.1,Value.int .i64 (p.2 : Int))
theorem iv2_len (W : Nt) : (iv2 W).length = W.length := List.length_map ..
theorem iv2_keys (W : Nt) : (iv2 W).map (·.1) = W.map (·.1) := by unfold iv2; rw [List.map_map]; rfl
theorem mget_iv (k : Int) : ∀ W : Nt,mget (iv2 W) k = (nget W k).map fun v => Value.int .i64 (v : Int)
 | [] => rfl
 | p :: W => by
  show (if k = p.1 then some (Value.int .i64 (p.2 : Int)) else mget (iv2 W) k) = _
  unfold nget
  split
  ·rfl
  ·exact mget_iv k W
theorem mset_iv (k : Int) (v : Nat) : ∀ W : Nt,mset (iv2 W) k (.int .i64 (v : Int)) = iv2 (nset W k v)
 | [] => rfl
 | p :: W => by
  show (if k = p.1 then (k,Value.int .i64 (v : Int)) :: iv2 W else (p.1,Value.int .i64 (p.2 : Int)) :: mset (iv2 W) k (.int .i64 (v : Int))) = _
  unfold nset
  split
  ·rfl
  ·rw [mset_iv k v W]; rfl
theorem nset_mem {W : Nt} {k : Int} {v : Nat} : ∀ p ∈ nset W k v,p = (k,v) ∨ p ∈ W := by
 induction W with
 | nil => intro p hp; exact .inl (List.mem_singleton.1 hp)
 | cons q W ih =>
  intro p hp
  unfold nset at hp
  split at hp
  ·rcases List.mem_cons.1 hp with rfl | hp
   ·exact .inl rfl
   ·exact .inr (List.mem_cons_of_mem _ hp)
  ·rcases List.mem_cons.1 hp with rfl | hp
   ·exact .inr mH
   ·rcases ih p hp with h | h
    ·exact .inl h
    ·exact .inr (List.mem_cons_of_mem _ h)
theorem lastM_mem (l : List Wr) : ∀ i,∀ p ∈ lastM l i,∃ k,k < i ∧ p.1 = (l.getD k wz).1
 | 0,p,hp => by cases hp
 | i + 1,p,hp => by
  rcases nset_mem p hp with rfl | hp
  ·exact ⟨i,Nat.lt_succ_self i,rfl⟩
  ·obtain ⟨k,h1,h2⟩ := lastM_mem l i p hp
   exact ⟨k,by omega,h2⟩
theorem badW_no {D : DK} {w : Wr} (h : badW D w = false) : 97 ≤ w.1 ∧ w.1 < (D.last.length : Int) := by
 unfold badW at h
 rw [Bool.or_eq_false_iff,decide_eq_false_iff_not,decide_eq_false_iff_not] at h
 omega
theorem any_no {D : DK} {l : List Wr} (h : ∀ j,j < l.length → badW D (l.getD j wz) = false) : l.any (badW D) = false := by
 rw [List.any_eq_false]
 intro x hx
 obtain ⟨i,hi,rfl⟩ := List.mem_iff_getElem.1 hx
 have := h i hi
 rw [List.getD_eq_getElem?_getD,List.getElem?_eq_getElem hi] at this
 simpa using this
theorem any_yes {D : DK} {l : List Wr} {i : Nat} (hi : i < l.length) (h : badW D (l.getD i wz) = true) : l.any (badW D) = true := by
 rw [List.any_eq_true]
 refine ⟨l[i],List.getElem_mem hi,?_⟩
 rw [List.getD_eq_getElem?_getD,List.getElem?_eq_getElem hi] at h
 exact h
theorem ris_take {l : List Wr} {j : Nat} (h : j < (lastM l l.length).length) : jv ((risF l).take j) ++ jc (atN l (lastM l l.length) ((keysN (lastM l l.length)).getD j 0)) = jv ((risF l).take (j + 1)) := by
 have hr : j < (risF l).length := by rw [risF_len]; exact h
 have hk : j < (keysN (lastM l l.length)).length := by rw [keysN_len]; exact h
 rw [List.take_succ_eq_append_getElem hr,jv_app,jv_one]
 congr 2
 rw [List.getD_eq_getElem?_getD,List.getElem?_eq_getElem hk]
 exact (List.getElem_map (atN l (lastM l l.length)) (l := keysN (lastM l l.length)) (h := by rw [List.length_map]; exact hk)).symm
theorem key_in {l : List Wr} {j : Nat} (h : j < (lastM l l.length).length) : ∃ k,nget (lastM l l.length) ((keysN (lastM l l.length)).getD j 0) = some k ∧ k < l.length := by
 have hk : j < (keysN (lastM l l.length)).length := by rw [keysN_len]; exact h
 have h1 : (keysN (lastM l l.length)).getD j 0 ∈ keysN (lastM l l.length) := by rw [List.getD_eq_getElem?_getD,List.getElem?_eq_getElem hk]; exact List.getElem_mem hk
 have h2 := (nget_mem _ _).2 ((keysN_mem _ _).1 h1)
 cases hg : nget (lastM l l.length) ((keysN (lastM l l.length)).getD j 0) with
 | none => rw [hg] at h2; cases h2
 | some k => exact ⟨k,rfl,(lastM_lt l l.length _ _ hg).1⟩
theorem tr_has {w0 w : World} {M : List Nat} {R L S A : List (Nat × Obj)} {jb tab : Nat × Obj} (h : HP w0 M R (L ++ (S ++ (A ++ []))) w) (hj : jb ∈ L) (ht : tab ∈ R) : Has w (jb :: tab :: S) := fun e he => by
 rcases List.mem_cons.1 he with rfl | he
 ·exact h.own _ (mL hj)
 ·rcases List.mem_cons.1 he with rfl | he
  ·exact h.ro _ ht
  ·exact h.own _ (mR (mL he))
theorem tr_apart {w0 w : World} {M : List Nat} {R L S A : List (Nat × Obj)} {jb tab : Nat × Obj} (h : HP w0 M R (L ++ (S ++ (A ++ []))) w) (hj : jb ∈ L) (ht : tab ∈ R) : ∀ e ∈ jb :: tab :: S,e.1 ∉ A.map (·.1) := fun e he => by
 rcases List.mem_cons.1 he with rfl | he
 ·exact own_apart h _ (mL hj)
 ·rcases List.mem_cons.1 he with rfl | he
  ·intro hm
   obtain ⟨e2,h2,h3⟩ := List.mem_map.1 hm
   exact h.away (mR (mR (mL h2))) ht h3
  ·exact own_apart h _ (mR he)
theorem com_lost {why : Int} {num : Nat} {D : DK} {l : List Wr} (h : why ≠ 0) : commitF ⟨why,num,D⟩ l = (why,⟨why,num,D⟩) := if_pos h
theorem com_bad {why : Int} {num : Nat} {D : DK} {l : List Wr} (h : why = 0) (h2 : l.any (badW D) = true) : commitF ⟨why,num,D⟩ l = (2,⟨why,num,D⟩) := (if_neg (fun e => e h)).trans (if_pos h2)
theorem com_many {why : Int} {num : Nat} {D : DK} {l : List Wr} (h : why = 0) (h2 : l.any (badW D) = false) (h3 : 96 < (risF l).length) : commitF ⟨why,num,D⟩ l = (15,⟨why,num,D⟩) := (if_neg (fun e => e h)).trans ((if_neg (by rw [h2]; decide)).trans (if_pos h3))
theorem com_none {why : Int} {num : Nat} {D : DK} {l : List Wr} (h : why = 0) (h2 : l.any (badW D) = false) (h3 : (risF l).length = 0) : commitF ⟨why,num,D⟩ l = (0,⟨why,num,D⟩) := (if_neg (fun e => e h)).trans ((if_neg (by rw [h2]; decide)).trans ((if_neg (by omega)).trans (if_pos h3)))
theorem com_err {why : Int} {num : Nat} {D : DK} {l : List Wr} (h : why = 0) (h2 : l.any (badW D) = false) (h3 : ¬ 96 < (risF l).length) (h4 : (risF l).length ≠ 0) (h5 : (transF D ((num + 1) % 18446744073709551616) (risF l)).1 ≠ 0) : commitF ⟨why,num,D⟩ l = ((transF D ((num + 1) % 18446744073709551616) (risF l)).1,⟨(transF D ((num + 1) % 18446744073709551616) (risF l)).1,num,(transF D ((num + 1) % 18446744073709551616) (risF l)).2⟩) :=
 (if_neg (fun e => e h)).trans ((if_neg (by rw [h2]; decide)).trans ((if_neg h3).trans ((if_neg h4).trans (if_pos h5))))
theorem com_ok {why : Int} {num : Nat} {D : DK} {l : List Wr} (h : why = 0) (h2 : l.any (badW D) = false) (h3 : ¬ 96 < (risF l).length) (h4 : (risF l).length ≠ 0) (h5 : (transF D ((num + 1) % 18446744073709551616) (risF l)).1 = 0) : commitF ⟨why,num,D⟩ l = (0,⟨0,(num + 1) % 18446744073709551616,(transF D ((num + 1) % 18446744073709551616) (risF l)).2⟩) :=
 (if_neg (fun e => e h)).trans ((if_neg (by rw [h2]; decide)).trans ((if_neg h3).trans ((if_neg h4).trans (if_neg (fun e => e h5)))))
set_option maxRecDepth 100000 in
theorem mKeys2 (r : Nat) (w : World) :
  Calls Tryz.prog 81 #[.map (some r)] w fun e w' => ∃ b : Nat,True ∧ e = .returned (.func (.func 124) #[] #[.pointer (some ⟨b,0,none⟩)]) ∧ w.heap.size ≤ b ∧ w'.heap[b]? = some (.cells #[.map (some r)] 170 (0,0)) ∧ Ext [] w w' := by
 refine enter (vs := [.map (some r)]) [] [] [] Tryz.func81 rfl kr (HP.start w) ?_
 refine Cfg.begL rfl ?_
 refine Le (Eff.box (v := .map (some r)) rfl kr) ?_
 rintro b1 ⟨hb1,nb1⟩
 refine Lp 1 [] (some [1]) n0 trivial ?_
 refine CfgL.done rfl ?_
 refine Rg [2] [] n0 trivial ?_
 refine Cfg.ret rfl (rs := [.tmp 2]) rfl [.func (.func 124) #[] #[pT b1]] ⟨kr,trivial⟩ (fun w1 hp => ?_)
 exact ⟨b1,trivial,rfl,hb1,hp.own (b1,_) mH,hp.ext⟩
set_option maxRecDepth 100000 in
set_option maxHeartbeats 8000000 in
theorem jCommit (jb : Nat) (why : Int) (num : Nat) (m : DM) (x : MX) (D : DK) (la : Option Addr) (cap : Nat) (l : List Wr) (Rl : List (Nat × Obj)) (t0 : TypeId) (fr0 : Nat × Nat) (w : World) (hg : DG D) (hmo : MapOk x.1 x.2 (wv2 D.wait)) (hA : Has w ((jb,Obj.cells #[.int .i64 why,.pointer (some ⟨m.d,0,none⟩),.int .u64 (num : Int)] 143 (0,0)) :: dO D m x)) (hd : (((jb,Obj.cells #[.int .i64 why,.pointer (some ⟨m.d,0,none⟩),.int .u64 (num : Int)] 143 (0,0)) :: dO D m x).map (·.1)).Nodup) (hI : InW Rl la l) (hW : WW l) (hl : l.length ≤ 100000) (hs : 0 ≤ D.steps ∧ D.steps ≤ 4611686018425000000) (hR : Has w ((1,Obj.cells (wv Kc) t0 fr0) :: Rl)) (hnr : ∀ e ∈ (1,Obj.cells (wv Kc) t0 fr0) :: Rl,e.1 ∉ ((jb,Obj.cells #[.int .i64 why,.pointer (some ⟨m.d,0,none⟩),.int .u64 (num : Int)] 143 (0,0)) :: dO D m x).map (·.1)) :
  Calls Tryz.prog 38 #[.pointer (some ⟨jb,0,none⟩),.slice la l.length cap] w fun e w' => ∃ x2 : MX,MapOk x2.1 x2.2 (wv2 (commitF ⟨why,num,D⟩ l).2.D.wait) ∧ e = .returned (.int .i64 (commitF ⟨why,num,D⟩ l).1) ∧ ∃ R1,HP w (((jb,Obj.cells #[.int .i64 why,.pointer (some ⟨m.d,0,none⟩),.int .u64 (num : Int)] 143 (0,0)) :: dO D m x).map (·.1)) R1 ((jb,Obj.cells #[.int .i64 ((commitF ⟨why,num,D⟩ l).2.why),.pointer (some ⟨m.d,0,none⟩),.int .u64 ((commitF ⟨why,num,D⟩ l).2.num : Int)] 143 (0,0)) :: dO (commitF ⟨why,num,D⟩ l).2.D m x2) w' := by
 have hnl := hg.n
 obtain ⟨n2,hn2⟩ : ∃ n,n = ((num + 1) % 18446744073709551616) := ⟨_,rfl⟩
 have hn3 : n2 < 18446744073709551616 := by rw [hn2]; exact Nat.mod_lt _ (by decide)
 have hn4 : ((num : Int) + 1) % 18446744073709551616 = (n2 : Int) := by omega
 obtain ⟨T,hT⟩ : ∃ T,T = transF D n2 (risF l) := ⟨_,rfl⟩
 refine enter (vs := [pT jb,.slice la l.length cap]) (((jb,Obj.cells #[.int .i64 why,.pointer (some ⟨m.d,0,none⟩),.int .u64 (num : Int)] 143 (0,0)) :: dO D m x).map (·.1)) ((1,Obj.cells (wv Kc) t0 fr0) :: Rl) ([(jb,.cells #[.int .i64 why,.pointer (some ⟨m.d,0,none⟩),.int .u64 (num : Int)] 143 (0,0))] ++ (dO D m x ++ [])) Tryz.func38 rfl kr (by rw [List.append_nil]; exact HP.ofL hA hd hR hnr) ?_
 refine Rg [0,1] [] n0 trivial ?_
 refine Rg [0,1,14] [] n0 trivial ?_
 refine Cfg.condF rfl (b := false) kr rfl ?_
 refine Cfg.begL rfl ?_
 refine Lp 3 [] (some [0,1,17]) n0 trivial ?_
 refine Le (Eff.callA (vs := [pT jb]) (.bool (why != (0 : Int))) rfl Tryz.func65 rfl rfl kr (fun w1 h => jLost jb why num m w1 (fun e he => by rw [List.mem_singleton.1 he]; exact h.own (jb,_) (mL (mG 0 rfl))))) ?_
 rintro ⟨⟩ -
 refine CfgL.done rfl ?_
 refine Cg (Γ' := [(18,[],.bool (why != (0 : Int))),(0,[],pT jb),(1,[],.slice la l.length cap)]) ?_
 refine Cfg.cond rfl (b := (why != (0 : Int))) kr (fun c2r => ?_) (fun c2r => ?_)
 ·have c2 := (bne_iff_ne.1 c2r)
  refine Rg [4] [dZ,dZ,dZ,dZ,(dS (.int .i64 why))] (fun S => [(cE S jb 0 (.int .i64 why))]) ⟨(oC 0 rfl rfl),trivial⟩ ?_
  refine Cfg.ret rfl (rs := [.tmp 4]) rfl [.int .i64 why] ⟨kr,trivial⟩ (fun w1 hp => ?_)
  have hx : commitF ⟨why,num,D⟩ l = (why,⟨why,num,D⟩) := by
   have h8 := com_lost (num := num) (D := D) (l := l) c2
   first | exact h8 | (rw [← hn2,← hT] at h8; exact h8)
  rw [hx]
  have h9 : HP w (((jb,Obj.cells #[.int .i64 why,.pointer (some ⟨m.d,0,none⟩),.int .u64 (num : Int)] 143 (0,0)) :: dO D m x).map (·.1)) ((1,Obj.cells (wv Kc) t0 fr0) :: Rl) ([(jb,Obj.cells #[.int .i64 why,.pointer (some ⟨m.d,0,none⟩),.int .u64 (num : Int)] 143 (0,0))] ++ (dO D m x ++ [])) w1 := hp.sub slr
  rw [List.append_nil] at h9
  exact ⟨x,hmo,rfl,_,h9⟩
 ·have c2 := (bne_eq_false_iff_eq.1 c2r)
  refine Cfg.begL rfl ?_
  refine Le (Eff.mapNew rfl) ?_
  rintro mb ⟨hmb,nmb⟩
  refine Lp 1 [] (some [0,1,5]) n0 trivial ?_
  refine CfgL.done rfl ?_
  refine Rg [0,1,5,25,26,27] [] n0 trivial ?_
  refine Cfg.loop rfl (ι := Nat × Array MapEntry × Nat) (fun (xz : Nat × Array MapEntry × Nat) => match xz with | (i,z) => [(27,[],.int .i64 (i : Int)),(26,[],.int .i64 (l.length : Int)),(25,[],.slice la l.length cap),(5,[],.map (some mb)),(0,[],pT jb),(1,[],.slice la l.length cap)]) (fun (xz : Nat × Array MapEntry × Nat) => match xz with | (i,z) => ([(mb,.map z.1 z.2),(jb,.cells #[.int .i64 why,.pointer (some ⟨m.d,0,none⟩),.int .u64 (num : Int)] 143 (0,0))] ++ (dO D m x ++ []))) (fun (xz : Nat × Array MapEntry × Nat) => match xz with | (i,z) => (i ≤ l.length) ∧ (MapOk z.1 z.2 (iv2 (lastM l i))) ∧ (∀ j,j < i → badW D (l.getD j wz) = false)) (fun (xz : Nat × Array MapEntry × Nat) => match xz with | (i,z) => l.length - i) (0,(#[],0)) ?_ (Conv.mk kr) slr ?_
  ·exact ⟨Nat.zero_le _,MapOk.empty _,fun j h => absurd h (Nat.not_lt_zero j)⟩
  ·rintro ⟨i,z⟩ ⟨hi,hz,hnb⟩
   refine Rg [0,1,5,25,26,27,28] [] n0 trivial ?_
   refine Cfg.cond rfl (b := (decide ((i : Int) < (l.length : Int)))) kr (fun c3r => ?_) (fun c3r => ?_)
   ·have c3 := (dT c3r)
    obtain ⟨sb,off,cs,te,fre,rfl,hmem,hcs⟩ := hI om
    refine Conv.cfg (Γ' := [(28,[],.bool (decide ((i : Int) < (l.length : Int)))),(27,[],.int .i64 (i : Int)),(26,[],.int .i64 (l.length : Int)),(25,[],.slice (some ⟨sb,off,none⟩) l.length cap),(5,[],.map (some mb)),(0,[],pT jb),(1,[],.slice (some ⟨sb,off,none⟩) l.length cap)]) (Conv.mk kr) ?_
    refine Cfg.begL rfl ?_
    refine Lp 3 [dZ,dZ,(dS (.agg (jc (l.getD i wz)).toArray))] (some [0,1,5,25,26,27,29,31]) (fun S => [(0 ≤ (i : Int) ∧ (i : Int) < (l.length : Int)),(∀ w1,S w1 → (loadVar 101 ⟨sb,(addO off (i * 513)),none⟩).run Tryz.prog w1 = .ok (.agg (jc (l.getD i wz)).toArray) w1)]) ⟨om,(fun w1 h => load_list Tryz.underlying101 rfl kr (jc_len (hW.at i)) (fun j v hj => by rw [addO_eq]; exact (cell_cells (h.ro _ (List.mem_cons_of_mem _ hmem))).trans (wr_cell hW hcs om hj))),trivial⟩ ?_
    refine Le (Eff.alloc (z := (.agg (jc wz).toArray)) rfl kr) ?_
    rintro wb ⟨hwb,nwb⟩
    refine Lp 1 [] (some [0,1,5,6,7,25,26,27,31]) n0 trivial ?_
    refine Le (Eff.storeN (b := wb) (off := 0) (vs := (jc (l.getD i wz)).toArray) (n := 513) rfl kr kr kr (by rw [List.size_toArray,jc_len (hW.at i)]) (jc_all _) 0 (cs := (jc wz).toArray) (e := 101) kr (by show 0 + 513 ≤ (jc wz).toArray.size; rw [List.size_toArray,jc_len zb_len]; decide)) ?_
    rintro ⟨⟩ -
    refine CfgL.setO (congrArg (fun (xq : Array Value) => (([(wb,.cells xq 101 (0,0)),(mb,.map z.1 z.2),(jb,.cells #[.int .i64 why,.pointer (some ⟨m.d,0,none⟩),.int .u64 (num : Int)] 143 (0,0))] ++ (dO D m x ++ [])) : LO)) (show _ = ((jc (l.getD i wz)).toArray) from spl_all (by rw [List.size_toArray,List.size_toArray,jc_len (hW.at i)]; exact (jc_len zb_len).symm))) ?_
    refine CfgL.done rfl ?_
    refine Cg (Γ' := [(6,[],.int .i64 (i : Int)),(7,[],pT wb),(27,[],.int .i64 (i : Int)),(26,[],.int .i64 (l.length : Int)),(25,[],.slice (some ⟨sb,off,none⟩) l.length cap),(5,[],.map (some mb)),(0,[],pT jb),(1,[],.slice (some ⟨sb,off,none⟩) l.length cap)]) ?_
    refine Cfg.begA rfl kr ([(wb,.cells ((jc (l.getD i wz)).toArray) 101 (0,0)),(mb,.map z.1 z.2),(jb,.cells #[.int .i64 why,.pointer (some ⟨m.d,0,none⟩),.int .u64 (num : Int)] 143 (0,0))] ++ (dO D m x ++ [])) ?_
    refine Ap [0,1,2,3] [dZ,(dS (.int .i64 ((l.getD i wz).1)))] (some [0,1,5,6,7,25,26,27,35]) (tF 4 6) slr 6 (fun S => [(cE S wb 0 (.int .i64 ((l.getD i wz).1)))]) ⟨(oC 0 rfl rfl),trivial⟩ ?_
    by_cases c4 : (decide (((l.getD i wz).1) < (97 : Int))) = true
    ·have c4k : (decide (((l.getD i wz).1) < (97 : Int))) = true := c4
     have c4q := (dT c4k)
     refine CfgA.known 35 (b := (decide (((l.getD i wz).1) < (97 : Int)))) kr true c4k ?_
     refine Ap [4,5,6,7,8,9] [(2,false,none),(2,false,none),(2,false,none),(2,false,none),(2,false,none)] (some [0,1,5,6,7,25,26,27,41]) (tF 10 0) slr 0 (fun _ => [((.bool true : Value) ≠ .bool false),((.bool true : Value) ≠ .bool false),((.bool true : Value) ≠ .bool false),((.bool true : Value) ≠ .bool false),((.bool true : Value) ≠ .bool false)]) ⟨(by simp),(by simp),(by simp),(by simp),(by simp),trivial⟩ ?_
     refine CfgA.done kr ?_
     refine Cfg.condT rfl (b := true) kr rfl ?_
     refine Rg [4] [] n0 trivial ?_
     refine Cfg.ret rfl (rs := [.tmp 4]) rfl [.int .i64 2] ⟨kr,trivial⟩ (fun w1 hp => ?_)
     have hx : commitF ⟨why,num,D⟩ l = (2,⟨why,num,D⟩) := by
      have h8 := com_bad (num := num) (D := D) (l := l) c2 (any_yes (i := i) om (by unfold badW; rw [Bool.or_eq_true,decide_eq_true_eq,decide_eq_true_eq]; omega))
      first | exact h8 | (rw [← hn2,← hT] at h8; exact h8)
     rw [hx]
     have h9 : HP w (((jb,Obj.cells #[.int .i64 why,.pointer (some ⟨m.d,0,none⟩),.int .u64 (num : Int)] 143 (0,0)) :: dO D m x).map (·.1)) ((1,Obj.cells (wv Kc) t0 fr0) :: Rl) ([(jb,Obj.cells #[.int .i64 why,.pointer (some ⟨m.d,0,none⟩),.int .u64 (num : Int)] 143 (0,0))] ++ (dO D m x ++ [])) w1 := hp.sub (.cons _ (.cons _ slr))
     rw [List.append_nil] at h9
     exact ⟨x,hmo,rfl,_,h9⟩
    ·have c4k : (decide (((l.getD i wz).1) < (97 : Int))) = false := (by simpa using c4)
     have c4q := (dF c4k)
     refine CfgA.known 35 (b := (decide (((l.getD i wz).1) < (97 : Int)))) kr false c4k ?_
     refine Ap [4,5,6] [(1,false,none),(1,false,some (.int .i64 ((l.getD i wz).1))),(1,false,none)] (some [0,1,5,6,7,25,26,27,35,37,38]) (tF 7 3) slr 3 (fun S => [((.bool false : Value) = .bool false),((.bool false : Value) = .bool false),(cE S wb 0 (.int .i64 ((l.getD i wz).1))),((.bool false : Value) = .bool false)]) ⟨rfl,rfl,(oC 0 rfl rfl),rfl,trivial⟩ ?_
     refine Ae 7 rfl 2  (Eff.callA (vs := [pT jb]) (.int .i64 (D.last.length : Int)) rfl Tryz.func31 rfl rfl kr (fun w1 h => jSectors jb why num m x D w1 (fun e he => (List.mem_cons.1 he).elim (fun h1 => h1 ▸ h.own (jb,_) (mL (mG 2 rfl))) (fun h1 => h.own e (mR (mL h1)))))) (fun _ _ => slr) ?_
     rintro ⟨⟩ -
     refine Ap [8,9] [(1,false,none)] (some [0,1,5,6,7,25,26,27,41]) (tF 10 0) slr 0 (fun _ => [((.bool false : Value) = .bool false)]) ⟨rfl,trivial⟩ ?_
     refine CfgA.done kr ?_
     refine Cfg.cond rfl (b := (decide (((l.getD i wz).1) ≥ (D.last.length : Int)))) kr (fun c6r => ?_) (fun c6r => ?_)
     ·have c6 := (dT c6r)
      refine Rg [4] [] n0 trivial ?_
      refine Cfg.ret rfl (rs := [.tmp 4]) rfl [.int .i64 2] ⟨kr,trivial⟩ (fun w1 hp => ?_)
      have hx : commitF ⟨why,num,D⟩ l = (2,⟨why,num,D⟩) := by
       have h8 := com_bad (num := num) (D := D) (l := l) c2 (any_yes (i := i) om (by unfold badW; rw [Bool.or_eq_true,decide_eq_true_eq,decide_eq_true_eq]; omega))
       first | exact h8 | (rw [← hn2,← hT] at h8; exact h8)
      rw [hx]
      have h9 : HP w (((jb,Obj.cells #[.int .i64 why,.pointer (some ⟨m.d,0,none⟩),.int .u64 (num : Int)] 143 (0,0)) :: dO D m x).map (·.1)) ((1,Obj.cells (wv Kc) t0 fr0) :: Rl) ([(jb,Obj.cells #[.int .i64 why,.pointer (some ⟨m.d,0,none⟩),.int .u64 (num : Int)] 143 (0,0))] ++ (dO D m x ++ [])) w1 := hp.sub (.cons _ (.cons _ slr))
      rw [List.append_nil] at h9
      exact ⟨x,hmo,rfl,_,h9⟩
     ·have c6 := (dF c6r)
      refine Cfg.begL rfl ?_
      refine Lp 4 [dZ,dZ,(dS (.int .i64 ((l.getD i wz).1)))] (some [0,1,5,25,26,27,42,44,45]) (fun S => [(cE S wb 0 (.int .i64 ((l.getD i wz).1)))]) ⟨(oC 0 rfl rfl),trivial⟩ ?_
      refine Le (Eff.mapSet (r := mb) (k := (l.getD i wz).1) (u := .int .i64 (i : Int)) (es := z.1) (ck := z.2) rfl Tryz.underlying170 Tryz.underlying3 kr kr kr hz 1 kr) ?_
      rintro yq hyq
      refine CfgL.done rfl ?_
      refine Cg (Γ' := [(27,[],.int .i64 (i : Int)),(26,[],.int .i64 (l.length : Int)),(25,[],.slice (some ⟨sb,off,none⟩) l.length cap),(5,[],.map (some mb)),(0,[],pT jb),(1,[],.slice (some ⟨sb,off,none⟩) l.length cap)]) ?_
      refine Rg [0,1,5,25,26,27] [] (fun _ => [(i6 ((i : Int) + 1))]) ⟨om,trivial⟩ ?_
      have hbd : badW D (l.getD i wz) = false := by unfold badW; rw [Bool.or_eq_false_iff,decide_eq_false_iff_not,decide_eq_false_iff_not]; omega
      refine Cfg.again rfl (i + 1,yq) ⟨by omega,(by have h9 := hyq; rw [mset_iv] at h9; exact h9),fun j hj => by rcases Nat.lt_or_ge j i with h1 | h1; exact hnb j h1; rw [show j = i by omega]; exact hbd⟩ (by show l.length - (i + 1) < l.length - i; omega) (Conv.mk kr) (.cons _ slr)
   ·have c3 := (dF c3r)
    obtain rfl : i = l.length := by omega
    have hno := any_no hnb
    have hll := lastM_len l l.length
    refine Conv.cfg (Γ' := [(5,[],.map (some mb)),(0,[],pT jb),(1,[],.slice la l.length cap)]) (Conv.mk kr) ?_
    refine Cfg.begL rfl ?_
    refine Lp 1 [] none n0 trivial ?_
    refine Le (Eff.mapLen (r := mb) rfl Tryz.underlying170 kr hz (fun w1 h => h.own (mb,_) (show (mb,Obj.map z.1 z.2) ∈ ([(mb,Obj.map z.1 z.2),(jb,Obj.cells #[.int .i64 why,.pointer (some ⟨m.d,0,none⟩),.int .u64 (num : Int)] 143 (0,0))] ++ (dO D m x ++ [])) from mL (mG 0 rfl))) (iv2_len _)) ?_
    rintro ⟨⟩ -
    refine Lp 1 [] (some [0,1,5,49]) n0 trivial ?_
    refine CfgL.done rfl ?_
    refine Cfg.cond rfl (b := (decide (((lastM l l.length).length : Int) > (96 : Int)))) kr (fun c7r => ?_) (fun c7r => ?_)
    ·have c7 := (dT c7r)
     refine Rg [4] [] n0 trivial ?_
     refine Cfg.ret rfl (rs := [.tmp 4]) rfl [.int .i64 15] ⟨kr,trivial⟩ (fun w1 hp => ?_)
     have hx : commitF ⟨why,num,D⟩ l = (15,⟨why,num,D⟩) := by
      have h8 := com_many (num := num) (D := D) (l := l) c2 hno (by rw [risF_len]; omega)
      first | exact h8 | (rw [← hn2,← hT] at h8; exact h8)
     rw [hx]
     have h9 : HP w (((jb,Obj.cells #[.int .i64 why,.pointer (some ⟨m.d,0,none⟩),.int .u64 (num : Int)] 143 (0,0)) :: dO D m x).map (·.1)) ((1,Obj.cells (wv Kc) t0 fr0) :: Rl) ([(jb,Obj.cells #[.int .i64 why,.pointer (some ⟨m.d,0,none⟩),.int .u64 (num : Int)] 143 (0,0))] ++ (dO D m x ++ [])) w1 := hp.sub (.cons _ slr)
     rw [List.append_nil] at h9
     exact ⟨x,hmo,rfl,_,h9⟩
    ·have c7 := (dF c7r)
     refine Cfg.begL rfl ?_
     refine Lp 1 [] (some [0,1,5,50]) n0 trivial ?_
     refine Le (Eff.mapLen (r := mb) rfl Tryz.underlying170 kr hz (fun w1 h => h.own (mb,_) (show (mb,Obj.map z.1 z.2) ∈ ([(mb,Obj.map z.1 z.2),(jb,Obj.cells #[.int .i64 why,.pointer (some ⟨m.d,0,none⟩),.int .u64 (num : Int)] 143 (0,0))] ++ (dO D m x ++ [])) from mL (mG 0 rfl))) (iv2_len _)) ?_
     rintro ⟨⟩ -
     refine Lp 1 [] (some [0,1,5,52]) n0 trivial ?_
     refine CfgL.done rfl ?_
     refine Cfg.cond rfl (b := (((lastM l l.length).length : Int) == (0 : Int))) kr (fun c8r => ?_) (fun c8r => ?_)
     ·have c8 := (beq_iff_eq.1 c8r)
      refine Rg [4] [] n0 trivial ?_
      refine Cfg.ret rfl (rs := [.tmp 4]) rfl [.int .i64 0] ⟨kr,trivial⟩ (fun w1 hp => ?_)
      have hx : commitF ⟨why,num,D⟩ l = (0,⟨why,num,D⟩) := by
       have h8 := com_none (num := num) (D := D) (l := l) c2 hno (by rw [risF_len]; omega)
       first | exact h8 | (rw [← hn2,← hT] at h8; exact h8)
      rw [hx]
      have h9 : HP w (((jb,Obj.cells #[.int .i64 why,.pointer (some ⟨m.d,0,none⟩),.int .u64 (num : Int)] 143 (0,0)) :: dO D m x).map (·.1)) ((1,Obj.cells (wv Kc) t0 fr0) :: Rl) ([(jb,Obj.cells #[.int .i64 why,.pointer (some ⟨m.d,0,none⟩),.int .u64 (num : Int)] 143 (0,0))] ++ (dO D m x ++ [])) w1 := hp.sub (.cons _ slr)
      rw [List.append_nil] at h9
      exact ⟨x,hmo,rfl,_,h9⟩
     ·have c8 := (beq_eq_false_iff_ne.1 c8r)
      refine Cfg.reg rfl [0,1,5,8] [] (Γ' := [(8,[],.slice none 0 0),(5,[],.map (some mb)),(0,[],pT jb),(1,[],.slice la l.length cap)]) (nd := (fun _ => [])) (fun _ => kr) trivial ?_
      refine Cfg.begL rfl ?_
      refine Lp 1 [] none n0 trivial ?_
      refine Le (Eff.callN (vs := [.map (some mb)]) (fun tb => .func (.func 124) #[] #[pT tb]) (fun tb => tb) (fun _ => .cells #[.map (some mb)] 170 (0,0)) (fun _ => True) rfl Tryz.func81 rfl rfl kr (fun w1 h => mKeys2 mb w1)) ?_
      rintro tb -
      refine Le (Eff.callOF (vs := [.func (.func 124) #[] #[pT tb]]) 3 1 (lastM l l.length).length ((keysN (lastM l l.length)).map Go.encZ) [(tb,.cells #[.map (some mb)] 170 (0,0)),(mb,.map z.1 z.2),(jb,.cells #[.int .i64 why,.pointer (some ⟨m.d,0,none⟩),.int .u64 (num : Int)] 143 (0,0))] ([] ++ (dO D m x ++ [])) rfl rfl Tryz.func78 rfl rfl kr (fun w1 h => by have h9 := sorted_gives L.ksorted81 tb mb z.1 z.2 (iv2 (lastM l l.length)) w1 hz (h.own (mb,_) (mG 1 rfl)) (fun p hp => by obtain ⟨q,hq,rfl⟩ := List.mem_map.1 hp; obtain ⟨k,hk1,hk2⟩ := lastM_mem l l.length q hq; have h8 := badW_no (hnb k hk1); rw [← hk2] at h8; simp only; omega) (by rw [iv2_len]; omega) (h.ocell 0 rfl rfl); rw [iv2_len,iv2_keys] at h9; exact h9)) ?_
      rintro o ko
      refine Lp 2 [] (some [0,1,5,8,55,56,57]) n0 trivial ?_
      refine CfgL.done rfl ?_
      obtain ⟨⟨ob,oc,oj⟩,rfl⟩ := own_some ko om
      refine Cfg.setO (O' := ([(tb,.cells #[.map (some mb)] 170 (0,0)),(mb,.map z.1 z.2),(jb,.cells #[.int .i64 why,.pointer (some ⟨m.d,0,none⟩),.int .u64 (num : Int)] 143 (0,0)),(ob,.cells ((((keysN (lastM l l.length)).map Go.encZ) ++ oj).toArray) 3 (0,0))] ++ (dO D m x ++ []))) rfl ?_
      refine Conv.cfg (Γ' := [(57,[],.int .i64 0),(56,[],.int .i64 ((lastM l l.length).length : Int)),(55,[],.slice (some ⟨ob,0,none⟩) (lastM l l.length).length oc),(8,[],.slice none 0 0),(5,[],.map (some mb)),(0,[],pT jb),(1,[],.slice la l.length cap)]) (Conv.mk kr) ?_
      refine Cfg.loop rfl (ι := Nat × K.Own) (fun (xz : Nat × K.Own) => match xz with | (j,or) => [(57,[],.int .i64 (j : Int)),(56,[],.int .i64 ((lastM l l.length).length : Int)),(55,[],.slice (some ⟨ob,0,none⟩) (lastM l l.length).length oc),(8,[],.slice (Own.a or) j (Own.c or)),(5,[],.map (some mb)),(0,[],pT jb),(1,[],.slice la l.length cap)]) (fun (xz : Nat × K.Own) => match xz with | (j,or) => ([(tb,.cells #[.map (some mb)] 170 (0,0)),(mb,.map z.1 z.2),(jb,.cells #[.int .i64 why,.pointer (some ⟨m.d,0,none⟩),.int .u64 (num : Int)] 143 (0,0)),(ob,.cells ((((keysN (lastM l l.length)).map Go.encZ) ++ oj).toArray) 3 (0,0))] ++ (Own.o 101 (jv ((risF l).take j)) or ++ (dO D m x ++ [])))) (fun (xz : Nat × K.Own) => match xz with | (j,or) => (j ≤ (lastM l l.length).length) ∧ (OwnOk or 513 j (jv ((risF l).take j)))) (fun (xz : Nat × K.Own) => match xz with | (j,or) => (lastM l l.length).length - j) (0,none) ?_ (Conv.mk kr) slr ?_
      ·exact ⟨Nat.zero_le _,OwnOk.none _⟩
      ·rintro ⟨j,or⟩ ⟨hj,hor⟩
       refine Rg [0,1,5,8,55,56,57,58] [] n0 trivial ?_
       refine Cfg.cond rfl (b := (decide ((j : Int) < ((lastM l l.length).length : Int)))) kr (fun c9r => ?_) (fun c9r => ?_)
       ·have c9 := (dT c9r)
        refine Rg [0,1,5,8,10,55,56,57] [dZ,(dS (.int .i64 ((keysN (lastM l l.length)).getD j 0)))] (fun S => [(0 ≤ (j : Int) ∧ (j : Int) < ((lastM l l.length).length : Int)),(cE S ob j (.int .i64 ((keysN (lastM l l.length)).getD j 0)))]) ⟨om,(fun w1 h => key_cell (h.own (ob,_) (mL (mG 3 rfl))) (by rw [keysN_len]; omega)),trivial⟩ ?_
        obtain ⟨gk,hgk,hkl⟩ := key_in (l := l) (j := j) om
        obtain ⟨sb,off,cs,te,fre,rfl,hmem,hcs⟩ := hI om
        refine Conv.cfg (Γ' := [(10,[],.int .i64 ((keysN (lastM l l.length)).getD j 0)),(57,[],.int .i64 (j : Int)),(56,[],.int .i64 ((lastM l l.length).length : Int)),(55,[],.slice (some ⟨ob,0,none⟩) (lastM l l.length).length oc),(8,[],.slice (Own.a or) j (Own.c or)),(5,[],.map (some mb)),(0,[],pT jb),(1,[],.slice (some ⟨sb,off,none⟩) l.length cap)]) (Conv.mk kr) ?_
        refine Cfg.begL rfl ?_
        refine Lp 4 [] (some [0,1,5,8,55,56,57,61,62,63,64]) n0 trivial ?_
        refine Le (Eff.mapGetV (z := .int .i64 0) (r := mb) (k := ((keysN (lastM l l.length)).getD j 0)) (v := .int .i64 (((nget (lastM l l.length) ((keysN (lastM l l.length)).getD j 0)).getD 0) : Int)) rfl Tryz.underlying170 Tryz.underlying3 kr kr kr hz (fun w1 h => h.own (mb,_) (show (mb,Obj.map z.1 z.2) ∈ ([(tb,Obj.cells #[.map (some mb)] 170 (0,0)),(mb,Obj.map z.1 z.2),(jb,Obj.cells #[.int .i64 why,.pointer (some ⟨m.d,0,none⟩),.int .u64 (num : Int)] 143 (0,0)),(ob,Obj.cells ((((keysN (lastM l l.length)).map Go.encZ) ++ oj).toArray) 3 (0,0))] ++ (Own.o 101 (jv ((risF l).take j)) or ++ (dO D m x ++ []))) from mL (mG 1 rfl))) (by rw [mget_iv,hgk]; rfl)) ?_
        rintro ⟨⟩ -
        refine Lp 2 [dZ,(dS (.agg (jc (atN l (lastM l l.length) ((keysN (lastM l l.length)).getD j 0))).toArray))] (some [0,1,5,8,55,56,57,61,67]) (fun S => [(0 ≤ (((nget (lastM l l.length) ((keysN (lastM l l.length)).getD j 0)).getD 0) : Int) ∧ (((nget (lastM l l.length) ((keysN (lastM l l.length)).getD j 0)).getD 0) : Int) < (l.length : Int)),(∀ w1,S w1 → (loadVar 101 ⟨sb,(addO off ((((nget (lastM l l.length) ((keysN (lastM l l.length)).getD j 0)).getD 0)) * 513)),none⟩).run Tryz.prog w1 = .ok (.agg (jc (atN l (lastM l l.length) ((keysN (lastM l l.length)).getD j 0))).toArray) w1)]) ⟨(by rw [hgk]; show 0 ≤ ((gk : Nat) : Int) ∧ ((gk : Nat) : Int) < _; omega),(fun w1 h => load_list Tryz.underlying101 rfl kr (jc_len (hW.at _)) (fun j v hj => by rw [addO_eq]; exact (cell_cells (h.ro _ (List.mem_cons_of_mem _ hmem))).trans (wr_cell hW hcs (by rw [hgk]; exact hkl) hj))),trivial⟩ ?_
        refine Le (Eff.buildAgg (vs := (jc (atN l (lastM l l.length) ((keysN (lastM l l.length)).getD j 0))).toArray) (n := 513) rfl kr Tryz.underlying98 kr (z := (.agg (jc wz).toArray)) kr (by rw [List.size_toArray]; exact jc_len (hW.at _)) (by decide) (by decide)) ?_
        rintro kb ⟨hkb,nkb⟩
        refine Le (Eff.appendF rfl 513 520 Tryz.underlying98 kr (z := (.agg (jc wz).toArray)) kr kr or (xs := (jv ((risF l).take j))) hor kr (b2 := kb) (off2 := 0) (m := 1) (c2 := 1) kr (jc (atN l (lastM l l.length) ((keysN (lastM l l.length)).getD j 0))) (jc_len (hW.at _)) (jc_all _) [(kb,.cells ((jc (atN l (lastM l l.length) ((keysN (lastM l l.length)).getD j 0))).toArray) 101 (0,0)),(tb,.cells #[.map (some mb)] 170 (0,0)),(mb,.map z.1 z.2),(jb,.cells #[.int .i64 why,.pointer (some ⟨m.d,0,none⟩),.int .u64 (num : Int)] 143 (0,0)),(ob,.cells ((((keysN (lastM l l.length)).map Go.encZ) ++ oj).toArray) 3 (0,0))] ([] ++ (dO D m x ++ [])) (by rfl) (fun w1 h j v hj => by rw [Nat.zero_add]; exact h.ocell 0 rfl (by rw [List.getElem?_toArray]; exact hj)) om om) ?_
        rintro o5 ko5
        refine Lp 1 [] (some [0,1,5,8,55,56,57]) n0 trivial ?_
        refine CfgL.done rfl ?_
        refine Cfg.reg rfl [0,1,5,8,55,56,57] [] (Γ' := [(57,[],.int .i64 ((j : Int) + 1)),(8,[],.slice (Own.a o5) ((j + 1)) (Own.c o5)),(56,[],.int .i64 ((lastM l l.length).length : Int)),(55,[],.slice (some ⟨ob,0,none⟩) (lastM l l.length).length oc),(5,[],.map (some mb)),(0,[],pT jb),(1,[],.slice (some ⟨sb,off,none⟩) l.length cap)]) (nd := (fun _ => [(i6 ((j : Int) + 1))])) (fun _ => kr) ⟨om,trivial⟩ ?_
        have hrv := ris_take (l := l) (j := j) om
        refine Cfg.setO (congrArg (fun (xq : List Value) => (([(kb,.cells ((jc (atN l (lastM l l.length) ((keysN (lastM l l.length)).getD j 0))).toArray) 101 (0,0)),(tb,.cells #[.map (some mb)] 170 (0,0)),(mb,.map z.1 z.2),(jb,.cells #[.int .i64 why,.pointer (some ⟨m.d,0,none⟩),.int .u64 (num : Int)] 143 (0,0)),(ob,.cells ((((keysN (lastM l l.length)).map Go.encZ) ++ oj).toArray) 3 (0,0))] ++ (Own.o 101 xq o5 ++ (dO D m x ++ []))) : LO)) (show _ = (jv ((risF l).take (j + 1))) from hrv)) ?_
        refine Cfg.again rfl (j + 1,o5) ⟨by omega,hrv ▸ ko5⟩ (by show (lastM l l.length).length - (j + 1) < (lastM l l.length).length - j; omega) (Conv.mk kr) (.cons _ slr)
       ·have c9 := (dF c9r)
        obtain rfl : j = (lastM l l.length).length := by omega
        have htk : (risF l).take (lastM l l.length).length = risF l := List.take_of_length_le (by rw [risF_len]; exact Nat.le_refl _)
        rw [htk] at hor
        have hor2 : OwnOk or 513 (risF l).length (jv (risF l)) := by rw [risF_len]; exact hor
        refine Cfg.setO (congrArg (fun (xq : List Value) => (([(tb,.cells #[.map (some mb)] 170 (0,0)),(mb,.map z.1 z.2),(jb,.cells #[.int .i64 why,.pointer (some ⟨m.d,0,none⟩),.int .u64 (num : Int)] 143 (0,0)),(ob,.cells ((((keysN (lastM l l.length)).map Go.encZ) ++ oj).toArray) 3 (0,0))] ++ (Own.o 101 xq or ++ (dO D m x ++ []))) : LO)) (show _ = (jv (risF l)) from by rw [htk])) ?_
        refine Conv.cfg (Γ' := [(8,[],.slice (Own.a or) ((lastM l l.length).length) (Own.c or)),(0,[],pT jb)]) (Conv.mk kr) ?_
        refine Cfg.setS 8 (congrArg (fun (xq : Nat) => (.slice (Own.a or) xq (Own.c or) : Value)) (show ((lastM l l.length).length) = ((risF l).length) from (risF_len l).symm)) ?_
        refine Rg [0,8,11] [dZ,dZ,dZ,(dS (.int .u64 (num : Int)))] (fun S => [(cE S jb 2 (.int .u64 (num : Int)))]) ⟨(oC 2 rfl rfl),trivial⟩ ?_
        refine Cfg.setS 11 (congrArg (fun (xq : Int) => (.int .u64 xq : Value)) (show (((num : Int) + 1) % 18446744073709551616) = (n2 : Int) from hn4)) ?_
        refine Cfg.begL rfl ?_
        refine Lp 3 [] (some [0,11,76,77,78]) n0 trivial ?_
        refine Le (Eff.callH (vs := [pT jb,.int .u64 (n2 : Int),.slice (Own.a or) ((risF l).length) (Own.c or)]) (fun _ : MX => .int .i64 T.1) (dO D m x) (fun z => dO T.2 m z) (fun z => MapOk z.1 z.2 (wv2 T.2.wait)) ([(tb,.cells #[.map (some mb)] 170 (0,0)),(mb,.map z.1 z.2),(jb,.cells #[.int .i64 why,.pointer (some ⟨m.d,0,none⟩),.int .u64 (num : Int)] 143 (0,0)),(ob,.cells ((((keysN (lastM l l.length)).map Go.encZ) ++ oj).toArray) 3 (0,0))] ++ (Own.o 101 (jv (risF l)) or)) [] rfl rfl Tryz.func82 rfl rfl kr (fun w1 h hA hd => by have h9 := jTrans jb why num m x D n2 (Own.a or) (Own.c or) (risF l) (Own.o 101 (jv (risF l)) or) t0 fr0 w1 hn3 hg hA hd (inW_own1 hor2) (risF_w hW) (by rw [risF_len]; omega) (own_le hor2) om hmo (tr_has (L := [(tb,Obj.cells #[.map (some mb)] 170 (0,0)),(mb,Obj.map z.1 z.2),(jb,Obj.cells #[.int .i64 why,.pointer (some ⟨m.d,0,none⟩),.int .u64 (num : Int)] 143 (0,0)),(ob,Obj.cells ((((keysN (lastM l l.length)).map Go.encZ) ++ oj).toArray) 3 (0,0))]) (S := Own.o 101 (jv (risF l)) or) (A := dO D m x) h (mG 2 rfl) mH) (tr_apart (L := [(tb,Obj.cells #[.map (some mb)] 170 (0,0)),(mb,Obj.map z.1 z.2),(jb,Obj.cells #[.int .i64 why,.pointer (some ⟨m.d,0,none⟩),.int .u64 (num : Int)] 143 (0,0)),(ob,Obj.cells ((((keysN (lastM l l.length)).map Go.encZ) ++ oj).toArray) 3 (0,0))]) (S := Own.o 101 (jv (risF l)) or) (A := dO D m x) h (mG 2 rfl) mH); rw [← hT] at h9; exact h9)) ?_
        rintro x2 hmo2
        refine Lp 1 [] (some [0,11,12]) n0 trivial ?_
        refine CfgL.done rfl ?_
        refine Rg [0,11,12,81] [] n0 trivial ?_
        refine Cfg.cond rfl (b := (T.1 != (0 : Int))) kr (fun c10r => ?_) (fun c10r => ?_)
        ·have c10 := (bne_iff_ne.1 c10r)
         refine Cfg.begL rfl ?_
         refine Lp 5 [] (some [12,83,86]) n0 trivial ?_
         refine Le (Eff.store1 (b := jb) (off := 0) (v := .int .i64 T.1) rfl kr kr rfl kr 2 (cs := #[.int .i64 why,.pointer (some ⟨m.d,0,none⟩),.int .u64 (num : Int)]) (e := 143) kr (by simp)) ?_
         rintro ⟨⟩ -
         refine CfgL.done rfl ?_
         refine Cg (Γ' := [(12,[],.int .i64 T.1)]) ?_
         refine Rg [4] [] n0 trivial ?_
         refine Cfg.ret rfl (rs := [.tmp 4]) rfl [.int .i64 T.1] ⟨kr,trivial⟩ (fun w1 hp => ?_)
         have hx : commitF ⟨why,num,D⟩ l = (T.1,⟨T.1,num,T.2⟩) := by
          have h8 := com_err (num := num) (D := D) (l := l) c2 hno (by rw [risF_len]; omega) (by rw [risF_len]; omega) (by rw [← hn2,← hT]; exact c10)
          first | exact h8 | (rw [← hn2,← hT] at h8; exact h8)
         rw [hx]
         have h9 : HP w (((jb,Obj.cells #[.int .i64 why,.pointer (some ⟨m.d,0,none⟩),.int .u64 (num : Int)] 143 (0,0)) :: dO D m x).map (·.1)) ((1,Obj.cells (wv Kc) t0 fr0) :: Rl) ([(jb,Obj.cells #[.int .i64 T.1,.pointer (some ⟨m.d,0,none⟩),.int .u64 (num : Int)] 143 (0,0))] ++ (dO T.2 m x2 ++ [])) w1 := hp.sub (.cons _ (.cons _ (.cons_cons _ (.cons _ (show List.Sublist (dO T.2 m x2 ++ []) (Own.o 101 (jv (risF l)) or ++ (dO T.2 m x2 ++ [])) from (List.Sublist.trans (List.Sublist.append (List.Sublist.refl (dO T.2 m x2)) (List.nil_sublist _)) (List.sublist_append_right (Own.o 101 (jv (risF l)) or) _)))))))
         rw [List.append_nil] at h9
         exact ⟨x2,hmo2,rfl,_,h9⟩
        ·have c10 := (bne_eq_false_iff_eq.1 c10r)
         refine Cfg.begL rfl ?_
         refine Lp 4 [] (some [89,91]) n0 trivial ?_
         refine Le (Eff.store1 (b := jb) (off := 2) (v := .int .u64 (n2 : Int)) rfl kr kr rfl kr 2 (cs := #[.int .i64 why,.pointer (some ⟨m.d,0,none⟩),.int .u64 (num : Int)]) (e := 143) kr (by simp)) ?_
         rintro ⟨⟩ -
         refine CfgL.done rfl ?_
         refine Cg (Γ' := []) ?_
         refine Rg [4] [] n0 trivial ?_
         refine Cfg.ret rfl (rs := [.tmp 4]) rfl [.int .i64 0] ⟨kr,trivial⟩ (fun w1 hp => ?_)
         have hx : commitF ⟨why,num,D⟩ l = (0,⟨0,n2,T.2⟩) := by
          have h8 := com_ok (num := num) (D := D) (l := l) c2 hno (by rw [risF_len]; omega) (by rw [risF_len]; omega) (by rw [← hn2,← hT]; exact c10)
          first | exact h8 | (rw [← hn2,← hT] at h8; exact h8)
         rw [hx]
         have h9 : HP w (((jb,Obj.cells #[.int .i64 why,.pointer (some ⟨m.d,0,none⟩),.int .u64 (num : Int)] 143 (0,0)) :: dO D m x).map (·.1)) ((1,Obj.cells (wv Kc) t0 fr0) :: Rl) ([(jb,Obj.cells #[.int .i64 why,.pointer (some ⟨m.d,0,none⟩),.int .u64 (n2 : Int)] 143 (0,0))] ++ (dO T.2 m x2 ++ [])) w1 := hp.sub (.cons _ (.cons _ (.cons_cons _ (.cons _ (show List.Sublist (dO T.2 m x2 ++ []) (Own.o 101 (jv (risF l)) or ++ (dO T.2 m x2 ++ [])) from (List.Sublist.trans (List.Sublist.append (List.Sublist.refl (dO T.2 m x2)) (List.nil_sublist _)) (List.sublist_append_right (Own.o 101 (jv (risF l)) or) _)))))))
         rw [List.append_nil] at h9
         rw [show Value.int .i64 why = Value.int .i64 0 from congrArg (Value.int .i64) c2] at h9
         exact ⟨x2,hmo2,rfl,_,h9⟩
end Go.Proofs.YtfgdepggdiibdaaGreatDoor
namespace Go.Proofs.YtfgdepggdiibdaaGreatDoor
open K
set_option linter.unusedVariables false
def pD (D : DK) (a : Wr) : Bool := decide (a.1 ≥ (D.last.length : Int))
def fxN (p : Wr → Bool) : List Wr → Nat → Int
 | [],_ => -1
 | a :: l,i => if p a then (i : Int) else fxN p l (i + 1)
theorem fxN_hit {p : Wr → Bool} {l : List Wr} {i : Nat} (h : i < l.length) (hp : p (l.getD i wz) = true) : fxN p (l.drop i) i = (i : Int) := by
 rw [drop_getD h,fxN,if_pos hp]
theorem fxN_go {p : Wr → Bool} {l : List Wr} {i : Nat} (h : i < l.length) (hp : p (l.getD i wz) = false) : fxN p (l.drop i) i = fxN p (l.drop (i + 1)) (i + 1) := by
 rw [drop_getD h,fxN,if_neg (by rw [hp]; decide)]
theorem fxN_some (p : Wr → Bool) : ∀ (l : List Wr) (i : Nat),fxN p l i ≠ -1 → ∃ k : Nat,fxN p l i = ((i + k : Nat) : Int) ∧ k < l.length ∧ (∀ j,j < k → p (l.getD j wz) = false) ∧ p (l.getD k wz) = true
 | [],_,h => absurd rfl h
 | a :: l,i,h => by
  unfold fxN at h ⊢
  by_cases ha : p a = true
  ·rw [if_pos ha]
   exact ⟨0,by rw [Nat.add_zero],by simp,fun j hj => absurd hj (Nat.not_lt_zero j),ha⟩
  ·rw [if_neg ha] at h ⊢
   obtain ⟨k,h1,h2,h3,h4⟩ := fxN_some p l (i + 1) h
   refine ⟨k + 1,by rw [h1]; congr 1; omega,by rw [List.length_cons]; omega,fun j hj => ?_,h4⟩
   cases j with
   | zero => exact Bool.eq_false_iff.2 ha
   | succ j => exact h3 j om
theorem fxN_none (p : Wr → Bool) : ∀ (l : List Wr) (i : Nat),fxN p l i = -1 → l.filter (fun a => !p a) = l
 | [],_,_ => rfl
 | a :: l,i,h => by
  unfold fxN at h
  by_cases ha : p a = true
  ·rw [if_pos ha] at h; omega
  ·rw [if_neg ha] at h
   rw [List.filter_cons,if_pos (by rw [Bool.eq_false_iff.2 ha]; rfl),fxN_none p l (i + 1) h]
def kN (D : DK) (l : List Wr) (j : Nat) : List Wr := (l.take j).filter fun a => !pD D a
theorem kN_le (D : DK) (l : List Wr) (j : Nat) : (kN D l j).length ≤ j := by
 have h1 := List.length_filter_le (fun a => !pD D a) (l.take j)
 have h2 := List.length_take_le j l
 unfold kN; omega
theorem kN_yes {D : DK} {l : List Wr} {j : Nat} (h : j < l.length) (hp : pD D (l.getD j wz) = false) : kN D l (j + 1) = kN D l j ++ [l.getD j wz] := by
 unfold kN
 have e : l[j] = l.getD j wz := by rw [List.getD_eq_getElem?_getD,List.getElem?_eq_getElem h]; rfl
 rw [List.take_succ_eq_append_getElem h,List.filter_append,e,List.filter_cons,if_pos (by rw [hp]; rfl)]; rfl
theorem kN_no {D : DK} {l : List Wr} {j : Nat} (h : j < l.length) (hp : pD D (l.getD j wz) = true) : kN D l (j + 1) = kN D l j := by
 unfold kN
 have e : l[j] = l.getD j wz := by rw [List.getD_eq_getElem?_getD,List.getElem?_eq_getElem h]; rfl
 rw [List.take_succ_eq_append_getElem h,List.filter_append,e,List.filter_cons,if_neg (by rw [hp]; decide)]
 exact List.append_nil _
theorem kN_w {l : List Wr} (hW : WW l) (D : DK) (j : Nat) : WW (kN D l j) := fun x hx => hW x (List.mem_of_mem_take (List.mem_filter.1 hx).1)
theorem kN_start {D : DK} {l : List Wr} : ∀ {i : Nat},i ≤ l.length → (∀ j,j < i → pD D (l.getD j wz) = false) → kN D l i = l.take i
 | 0,_,_ => by unfold kN; rw [List.take_zero]; rfl
 | i + 1,h,hp => by
  rw [kN_yes om (hp i (Nat.lt_succ_self i)),kN_start om (fun j hj => hp j om),List.take_succ_eq_append_getElem om,List.getD_eq_getElem?_getD,List.getElem?_eq_getElem om]; rfl
def delJ (D : DK) (l : List Wr) (j : Nat) (oj : List Value) : List Value := jv (kN D l j) ++ jv (l.drop (kN D l j).length) ++ oj
theorem delJ_cell {D : DK} {l : List Wr} (hW : WW l) {j : Nat} {oj : List Value} (hj : j < l.length) {k : Nat} {v : Value} (hv : (jc (l.getD j wz))[k]? = some v) : (delJ D l j oj)[j * 513 + k]? = some v := by
 have hk := jc_some (hW.at j) hv
 have hle := kN_le D l j
 have hl := jv_len (kN_w hW D j)
 have hd := jv_len (hW.drop (kN D l j).length)
 unfold delJ
 rw [List.append_assoc,List.getElem?_append_right om,List.getElem?_append_left (by rw [hd,hl,List.length_drop]; omega),hl,show j * 513 + k - (kN D l j).length * 513 = (j - (kN D l j).length) * 513 + k by omega,jv_get (hW.drop _) (by rw [List.length_drop]; omega) hk]
 have e : (l.drop (kN D l j).length).getD (j - (kN D l j).length) wz = l.getD j wz := by
  rw [List.getD_eq_getElem?_getD,List.getElem?_drop,List.getD_eq_getElem?_getD]; congr 2; omega
 rw [e]; exact hv
theorem delJ_size {D : DK} {l : List Wr} (hW : WW l) (j : Nat) (hj : j ≤ l.length) (oj : List Value) : (delJ D l j oj).length = l.length * 513 + oj.length := by
 have hle := kN_le D l j
 unfold delJ
 rw [List.length_append,List.length_append,jv_len (kN_w hW D j),jv_len (hW.drop _),List.length_drop]; omega
theorem delJ_set {D : DK} {l : List Wr} (hW : WW l) {j : Nat} (hj : j < l.length) (hp : pD D (l.getD j wz) = false) (oj : List Value) : spl (delJ D l j oj).toArray ((kN D l j).length * 513) (jc (l.getD j wz)) = (delJ D l (j + 1) oj).toArray := by
 have hle := kN_le D l j
 have hlt : (kN D l j).length < l.length := by omega
 have h := spl_at (L := delJ D l j oj) (A := jv (kN D l j)) (B := jc (l.getD (kN D l j).length wz)) (T := jv (l.drop ((kN D l j).length + 1)) ++ oj) (vs := jc (l.getD j wz)) (off := (kN D l j).length * 513) (by unfold delJ; rw [drop_getD hlt,jv_cons]; simp only [List.append_assoc]) (jv_len (kN_w hW D j)) (by rw [jc_len (hW.at _),jc_len (hW.at _)])
 rw [h]
 unfold delJ
 rw [kN_yes hj hp,jv_app,jv_one,List.length_append,List.length_singleton]
 simp only [List.append_assoc]
theorem delJ_no {D : DK} {l : List Wr} {j : Nat} (hj : j < l.length) (hp : pD D (l.getD j wz) = true) (oj : List Value) : delJ D l j oj = delJ D l (j + 1) oj := by unfold delJ; rw [kN_no hj hp]
theorem zrj_len (n : Nat) : ((Builtin.zeroCells (Value.cells (.agg (jc wz).toArray)) n).toList).length = n * 513 := by
 unfold Builtin.zeroCells
 rw [Array.length_toList,Array.size_map,Array.size_range]
 show n * (jc wz).toArray.size = _
 rw [List.size_toArray,jc_len zb_len]
theorem zrj_all (n : Nat) : ∀ v ∈ (Builtin.zeroCells (Value.cells (.agg (jc wz).toArray)) n).toList,K.one v = true := by
 intro v hv
 unfold Builtin.zeroCells at hv
 rw [Array.toList_map,List.mem_map] at hv
 obtain ⟨k,_,rfl⟩ := hv
 have hs : (Value.cells (.agg (jc wz).toArray)).size = 513 := by show (jc wz).toArray.size = _; rw [List.size_toArray,jc_len zb_len]
 have hk : k % (Value.cells (.agg (jc wz).toArray)).size < (Value.cells (.agg (jc wz).toArray)).size := Nat.mod_lt _ (by rw [hs]; decide)
 rw [getElem!_pos (Value.cells (.agg (jc wz).toArray)) (k % (Value.cells (.agg (jc wz).toArray)).size) hk]
 have hm := Array.mem_toList_iff.2 (Array.getElem_mem hk)
 exact jc_all wz _ hm
theorem delJ_clear {D : DK} {l : List Wr} (hW : WW l) (oj : List Value) {n : Nat} (hn : n = l.length - (kN D l l.length).length) : spl (delJ D l l.length oj).toArray ((kN D l l.length).length * 513) ((Builtin.zeroCells (Value.cells (.agg (jc wz).toArray)) n).toList) = (jv (kN D l l.length) ++ ((Builtin.zeroCells (Value.cells (.agg (jc wz).toArray)) n).toList ++ oj)).toArray := by
 have hle := kN_le D l l.length
 have h := spl_at (L := delJ D l l.length oj) (A := jv (kN D l l.length)) (B := jv (l.drop (kN D l l.length).length)) (T := oj) (vs := (Builtin.zeroCells (Value.cells (.agg (jc wz).toArray)) n).toList) (off := (kN D l l.length).length * 513) rfl (jv_len (kN_w hW D _)) (by rw [zrj_len,jv_len (hW.drop _),List.length_drop,hn])
 rw [h,List.append_assoc]
theorem kN_all (D : DK) (l : List Wr) : kN D l l.length = inD D l := by unfold kN; rw [List.take_length]; rfl
set_option maxRecDepth 100000 in
theorem jOpen1 (kb : Nat) (m : DM) (x : MX) (D : DK) (a : Wr) (w : World) (ha : a.2.length = 512) (hR : Has w ((kb,Obj.cells #[.pointer (some ⟨m.d,0,none⟩)] 26 (0,0)) :: dO D m x)) :
  Calls Tryz.prog 63 #[.agg (jc a).toArray,.pointer (some ⟨kb,0,none⟩)] w fun e w' => e = .returned (.bool (pD D a)) ∧ Ext [] w w' := by
 refine enter (vs := [.agg (jc a).toArray,pT kb]) [] ((kb,Obj.cells #[.pointer (some ⟨m.d,0,none⟩)] 26 (0,0)) :: dO D m x) [] Tryz.func63 rfl kr (HP.ofHas hR) ?_
 refine Cfg.begL rfl ?_
 refine Le (Eff.box (v := .agg (jc a).toArray) rfl kr) ?_
 rintro xb ⟨hxb,nxb⟩
 refine Lp 1 [] (some [1,2]) n0 trivial ?_
 refine CfgL.done rfl ?_
 refine Cfg.begA rfl kr [(xb,.cells ((jc a).toArray) 101 (0,0))] ?_
 refine Ap [0,1,2] [dZ,(dS (.int .i64 a.1)),(dS (.pointer (some ⟨m.d,0,none⟩)))] (some [5,6]) (tF 3 3) (.cons_cons _ .slnil) 3 (fun S => [(cE S xb 0 (.int .i64 a.1)),(cE S kb 0 (.pointer (some ⟨m.d,0,none⟩)))]) ⟨(oC 0 rfl rfl),(rC 0 rfl rfl),trivial⟩ ?_
 refine Ae 3 rfl 2  (Eff.callA (vs := [.pointer (some ⟨m.d,0,none⟩)]) (.int .i64 (D.last.length : Int)) rfl Tryz.func60 rfl rfl kr (fun w1 h => dSectors m x D w1 (h.hasR (fun e he => List.mem_cons_of_mem _ he)))) (fun _ _ => (.cons_cons _ .slnil)) ?_
 rintro ⟨⟩ -
 refine Ap [4,5] [] (some [3]) (tF 6 0) (.cons_cons _ .slnil) 0 n0 trivial ?_
 refine CfgA.done kr ?_
 refine Cfg.ret rfl (rs := [.tmp 3]) rfl [.bool (decide (a.1 ≥ (D.last.length : Int)))] ⟨kr,trivial⟩ (fun w1 hp => ?_)
 exact ⟨rfl,hp.ext⟩
set_option maxRecDepth 100000 in
theorem jIdx (kb : Nat) (m : DM) (x : MX) (D : DK) (la : Option Addr) (cap : Nat) (l : List Wr) (Rl : List (Nat × Obj)) (w : World) (hI : InW Rl la l) (hW : WW l) (hl : l.length ≤ 100000) (hR : Has w (((kb,Obj.cells #[.pointer (some ⟨m.d,0,none⟩)] 26 (0,0)) :: dO D m x) ++ Rl)) :
  Calls Tryz.prog 103 #[.slice la l.length cap,.func (.func 63) #[] #[.pointer (some ⟨kb,0,none⟩)]] w fun e w' => e = .returned (.int .i64 (fxN (pD D) l 0)) ∧ Ext [] w w' := by
 refine enter (vs := [.slice la l.length cap,.func (.func 63) #[] #[pT kb]]) [] (((kb,Obj.cells #[.pointer (some ⟨m.d,0,none⟩)] 26 (0,0)) :: dO D m x) ++ Rl) [] Tryz.func103 rfl kr (HP.ofHas hR) ?_
 refine Rg [0,1] [] n0 trivial ?_
 refine Rg [0,1,7,8] [] n0 trivial ?_
 refine Cfg.loop rfl (ι := Nat) (fun (i : Nat) => [(8,[],.int .i64 (i : Int)),(7,[],.int .i64 (l.length : Int)),(0,[],.slice la l.length cap),(1,[],.func (.func 63) #[] #[pT kb])]) (fun (i : Nat) => []) (fun (i : Nat) => (i ≤ l.length) ∧ (fxN (pD D) (l.drop i) i = fxN (pD D) l 0)) (fun (i : Nat) => l.length - i) 0 ?_ (Conv.mk kr) .slnil ?_
 ·exact ⟨Nat.zero_le _,by rw [List.drop_zero]⟩
 ·rintro i ⟨hi,hx⟩
  refine Rg [0,1,7,8,9] [] n0 trivial ?_
  refine Cfg.cond rfl (b := (decide ((i : Int) < (l.length : Int)))) kr (fun c1r => ?_) (fun c1r => ?_)
  ·have c1 := (dT c1r)
   refine Rg [0,1,5,7,8] [] n0 trivial ?_
   obtain ⟨sb,off,cs,te,fre,rfl,hmem,hcs⟩ := hI om
   refine Conv.cfg (Γ' := [(5,[],.int .i64 (i : Int)),(8,[],.int .i64 (i : Int)),(7,[],.int .i64 (l.length : Int)),(0,[],.slice (some ⟨sb,off,none⟩) l.length cap),(1,[],.func (.func 63) #[] #[pT kb])]) (Conv.mk kr) ?_
   refine Cfg.begL rfl ?_
   refine Lp 5 [dZ,dZ,dZ,dZ,(dS (.agg (jc (l.getD i wz)).toArray))] (some [0,1,5,7,8,11,15]) (fun S => [(0 ≤ (i : Int) ∧ (i : Int) < (l.length : Int)),(∀ w1,S w1 → (loadVar 101 ⟨sb,(addO off (i * 513)),none⟩).run Tryz.prog w1 = .ok (.agg (jc (l.getD i wz)).toArray) w1)]) ⟨om,(fun w1 h => load_list Tryz.underlying101 rfl kr (jc_len (hW.at i)) (fun j v hj => by rw [addO_eq]; exact (cell_cells (h.ro _ (mR hmem))).trans (wr_cell hW hcs om hj))),trivial⟩ ?_
   refine Le (Eff.callAVC (vs := [.agg (jc (l.getD i wz)).toArray]) (.bool (pD D (l.getD i wz))) [pT kb] rfl kr Tryz.func63 rfl rfl kr (fun w1 h => jOpen1 kb m x D (l.getD i wz) w1 (hW.at i) (h.hasR (fun e he => mL he)))) ?_
   rintro ⟨⟩ -
   refine CfgL.done rfl ?_
   refine Cg (Γ' := [(16,[],.bool (pD D (l.getD i wz))),(5,[],.int .i64 (i : Int)),(8,[],.int .i64 (i : Int)),(7,[],.int .i64 (l.length : Int)),(0,[],.slice (some ⟨sb,off,none⟩) l.length cap),(1,[],.func (.func 63) #[] #[pT kb])]) ?_
   refine Cfg.cond rfl (b := (pD D (l.getD i wz))) kr (fun c2r => ?_) (fun c2r => ?_)
   ·have c2 : ((pD D (l.getD i wz)) = true) := c2r
    refine Rg [4] [] n0 trivial ?_
    refine Cfg.ret rfl (rs := [.tmp 4]) rfl [.int .i64 (i : Int)] ⟨kr,trivial⟩ (fun w1 hp => ?_)
    have hh := fxN_hit (p := pD D) (l := l) (i := i) om (by simpa using c2)
    exact ⟨by rw [← hx,hh]; rfl,hp.ext⟩
   ·have c2 : ((pD D (l.getD i wz)) = false) := c2r
    refine Rg [0,1,7,8] [] (fun _ => [(i6 ((i : Int) + 1))]) ⟨om,trivial⟩ ?_
    have hgo := fxN_go (p := pD D) (l := l) (i := i) om (by simpa using c2)
    refine Cfg.again rfl (i + 1) ⟨by omega,hgo ▸ hx⟩ (by show l.length - (i + 1) < l.length - i; omega) (Conv.mk kr) .slnil
  ·have c1 := (dF c1r)
   refine Rg [4] [] n0 trivial ?_
   refine Cfg.ret rfl (rs := [.tmp 4]) rfl [.int .i64 (-1)] ⟨kr,trivial⟩ (fun w1 hp => ?_)
   rw [List.drop_eq_nil_of_le om] at hx
   exact ⟨by rw [← hx]; rfl,hp.ext⟩
set_option maxRecDepth 100000 in
set_option maxHeartbeats 4000000 in
theorem jDel (kb : Nat) (m : DM) (x : MX) (D : DK) (o : K.Own) (l : List Wr) (w : World) (hok : OwnOk o 513 l.length (jv l)) (hW : WW l) (hl : l.length ≤ 100000) (hA : Has w (Own.o 101 (jv l) o)) (hd : ((Own.o 101 (jv l) o).map (·.1)).Nodup) (hR : Has w ((kb,Obj.cells #[.pointer (some ⟨m.d,0,none⟩)] 26 (0,0)) :: dO D m x)) (hnr : ∀ e ∈ (kb,Obj.cells #[.pointer (some ⟨m.d,0,none⟩)] 26 (0,0)) :: dO D m x,e.1 ∉ (Own.o 101 (jv l) o).map (·.1)) :
  Calls Tryz.prog 62 #[.slice (Own.a o) l.length (Own.c o),.func (.func 63) #[] #[.pointer (some ⟨kb,0,none⟩)]] w fun e w' => ∃ o2 : K.Own,OwnOk o2 513 (inD D l).length (jv (inD D l)) ∧ e = .returned (.slice (Own.a o2) (inD D l).length (Own.c o2)) ∧ ∃ R1,HP w ((Own.o 101 (jv l) o).map (·.1)) R1 (Own.o 101 (jv (inD D l)) o2) w' := by
 refine enter (vs := [.slice (Own.a o) l.length (Own.c o),.func (.func 63) #[] #[pT kb]]) ((Own.o 101 (jv l) o).map (·.1)) ((kb,Obj.cells #[.pointer (some ⟨m.d,0,none⟩)] 26 (0,0)) :: dO D m x) ([] ++ (Own.o 101 (jv l) o ++ [])) Tryz.func62 rfl kr (by rw [List.append_nil]; exact HP.ofL hA hd hR hnr) ?_
 refine Rg [0,1] [] n0 trivial ?_
 refine Cfg.begL rfl ?_
 refine Lp 2 [] none n0 trivial ?_
 refine Le (Eff.callA (vs := [.slice (Own.a o) l.length (Own.c o),.func (.func 63) #[] #[pT kb]]) (.int .i64 (fxN (pD D) l 0)) rfl Tryz.func103 rfl rfl kr (fun w1 h => jIdx kb m x D (Own.a o) (Own.c o) l (Own.o 101 (jv l) o) w1 (inW_own hok) hW hl (fun e he => (List.mem_append.1 he).elim (fun h1 => h.ro e h1) (fun h1 => h.own e (mR (mL h1)))))) ?_
 rintro ⟨⟩ -
 refine Lp 1 [] (some [0,1,5]) n0 trivial ?_
 refine CfgL.done rfl ?_
 refine Rg [0,1,5,12] [] n0 trivial ?_
 refine Cfg.cond rfl (b := ((fxN (pD D) l 0) == ((-1) : Int))) kr (fun c1r => ?_) (fun c1r => ?_)
 ·have c1 := (beq_iff_eq.1 c1r)
  refine Rg [4] [] n0 trivial ?_
  refine Cfg.ret rfl (rs := [.tmp 4]) rfl [.slice (Own.a o) l.length (Own.c o)] ⟨kr,trivial⟩ (fun w1 hp => ?_)
  have hall := fxN_none (pD D) l 0 c1
  have hin : inD D l = l := hall
  rw [hin]
  rw [List.append_nil] at hp
  exact ⟨o,hok,rfl,_,hp⟩
 ·have c1 := (beq_eq_false_iff_ne.1 c1r)
  obtain ⟨i0,hfx,hi0,hpre,hp0⟩ := fxN_some (pD D) l 0 c1
  rw [Nat.zero_add] at hfx
  obtain ⟨⟨b,cp,oj⟩,rfl⟩ := own_some hok om
  have hks : (kN D l (i0 + 1)).length = i0 := by rw [kN_no hi0 hp0,kN_start om hpre,List.length_take]; omega
  have hds : jv l ++ oj = delJ D l (i0 + 1) oj := by unfold delJ; rw [hks,kN_no hi0 hp0,kN_start om hpre,← jv_app,List.take_append_drop]
  refine Cfg.setO (O' := [(b,.cells ((jv l ++ oj).toArray) 101 (0,0))]) rfl ?_
  refine Conv.cfg (Γ' := [(12,[],.bool ((fxN (pD D) l 0) == ((-1) : Int))),(5,[],.int .i64 (fxN (pD D) l 0)),(0,[],.slice (some ⟨b,0,none⟩) l.length cp),(1,[],.func (.func 63) #[] #[pT kb])]) (Conv.mk kr) ?_
  refine Cfg.setS 5 (congrArg (fun (xq : Int) => (.int .i64 xq : Value)) (show (fxN (pD D) l 0) = (i0 : Int) from hfx)) ?_
  refine Rg [0,1,5,6] [] (fun _ => [(i6 ((i0 : Int) + 1))]) ⟨om,trivial⟩ ?_
  refine Cfg.setO (congrArg (fun (xq : Array Value) => ([(b,.cells xq 101 (0,0))] : LO)) (show _ = ((delJ D l (i0 + 1) oj).toArray) from by rw [hds])) ?_
  refine Cfg.setS 6 (congrArg (fun (xq : Int) => (.int .i64 xq : Value)) (show ((i0 : Int) + 1) = (((i0 + 1) : Nat) : Int) from rfl)) ?_
  refine Cfg.setS 5 (congrArg (fun (xq : Int) => (.int .i64 xq : Value)) (show (i0 : Int) = (((kN D l (i0 + 1)).length : Nat) : Int) from by rw [hks])) ?_
  refine Cfg.loop rfl (ι := Nat) (fun (j : Nat) => [(6,[],.int .i64 (j : Int)),(5,[],.int .i64 ((kN D l j).length : Int)),(0,[],.slice (some ⟨b,0,none⟩) l.length cp),(1,[],.func (.func 63) #[] #[pT kb])]) (fun (j : Nat) => [(b,.cells ((delJ D l j oj).toArray) 101 (0,0))]) (fun (j : Nat) => (j ≤ l.length) ∧ ((kN D l j).length < j)) (fun (j : Nat) => l.length - j) (i0 + 1) ?_ (Conv.mk kr) (.cons_cons _ .slnil) ?_
  ·exact ⟨by omega,by rw [hks]; exact Nat.lt_succ_self _⟩
  ·rintro j ⟨hj,hlt⟩
   refine Rg [0,1,5,6,19] [] n0 trivial ?_
   refine Cfg.cond rfl (b := (decide ((j : Int) < (l.length : Int)))) kr (fun c2r => ?_) (fun c2r => ?_)
   ·have c2 := (dT c2r)
    refine Cfg.begL rfl ?_
    refine Lp 4 [dZ,dZ,dZ,(dS (.agg (jc (l.getD j wz)).toArray))] (some [0,1,5,6,25]) (fun S => [(0 ≤ (j : Int) ∧ (j : Int) < (l.length : Int)),(∀ w1,S w1 → (loadVar 101 ⟨b,(j * 513),none⟩).run Tryz.prog w1 = .ok (.agg (jc (l.getD j wz)).toArray) w1)]) ⟨om,(fun w1 h => load_list Tryz.underlying101 rfl kr (jc_len (hW.at j)) (fun k v hv => by rw [cell_cells (h.own (b,_) (mG 0 rfl)),List.getElem?_toArray]; exact delJ_cell hW om hv)),trivial⟩ ?_
    refine Le (Eff.alloc (z := (.agg (jc wz).toArray)) rfl kr) ?_
    rintro wb ⟨hwb,nwb⟩
    refine Le (Eff.storeN (b := wb) (off := 0) (vs := (jc (l.getD j wz)).toArray) (n := 513) rfl kr kr kr (by rw [List.size_toArray,jc_len (hW.at j)]) (jc_all _) 0 (cs := (jc wz).toArray) (e := 101) kr (by show 0 + 513 ≤ (jc wz).toArray.size; rw [List.size_toArray,jc_len zb_len]; decide)) ?_
    rintro ⟨⟩ -
    refine CfgL.setO (congrArg (fun (xq : Array Value) => ([(wb,.cells xq 101 (0,0)),(b,.cells ((delJ D l j oj).toArray) 101 (0,0))] : LO)) (show _ = ((jc (l.getD j wz)).toArray) from spl_all (by rw [List.size_toArray,List.size_toArray,jc_len (hW.at j)]; exact (jc_len zb_len).symm))) ?_
    refine CfgL.done rfl ?_
    refine Cg (Γ' := [(7,[],pT wb),(6,[],.int .i64 (j : Int)),(5,[],.int .i64 ((kN D l j).length : Int)),(0,[],.slice (some ⟨b,0,none⟩) l.length cp),(1,[],.func (.func 63) #[] #[pT kb])]) ?_
    refine Cfg.begL rfl ?_
    refine Lp 2 [dZ,(dS (.agg (jc (l.getD j wz)).toArray))] none (fun S => [(∀ w1,S w1 → (loadVar 101 ⟨wb,0,none⟩).run Tryz.prog w1 = .ok (.agg (jc (l.getD j wz)).toArray) w1)]) ⟨(fun w1 h => load_list Tryz.underlying101 rfl kr (jc_len (hW.at j)) (fun k v hv => by rw [Nat.zero_add]; exact h.ocell 0 rfl (by rw [List.getElem?_toArray]; exact hv))),trivial⟩ ?_
    refine Le (Eff.callAVC (vs := [.agg (jc (l.getD j wz)).toArray]) (.bool (pD D (l.getD j wz))) [pT kb] rfl kr Tryz.func63 rfl rfl kr (fun w1 h => jOpen1 kb m x D (l.getD j wz) w1 (hW.at j) (h.hasR (fun e he => he)))) ?_
    rintro ⟨⟩ -
    refine Lp 1 [] (some [0,1,5,6,7,29]) n0 trivial ?_
    refine CfgL.done rfl ?_
    refine Cfg.cond rfl (b := (!(pD D (l.getD j wz)))) kr (fun c3r => ?_) (fun c3r => ?_)
    ·have c3 : ((pD D (l.getD j wz)) = false) := (notT c3r)
     refine Cfg.begL rfl ?_
     refine Lp 4 [dZ,dZ,(dS (.agg (jc (l.getD j wz)).toArray))] (some [0,1,5,6,32,33]) (fun S => [(∀ w1,S w1 → (loadVar 101 ⟨wb,0,none⟩).run Tryz.prog w1 = .ok (.agg (jc (l.getD j wz)).toArray) w1),(0 ≤ ((kN D l j).length : Int) ∧ ((kN D l j).length : Int) < (l.length : Int))]) ⟨(fun w1 h => load_list Tryz.underlying101 rfl kr (jc_len (hW.at j)) (fun k v hv => by rw [Nat.zero_add]; exact h.ocell 0 rfl (by rw [List.getElem?_toArray]; exact hv))),om,trivial⟩ ?_
     refine Le (Eff.storeN (b := b) (off := (((kN D l j).length) * 513)) (vs := (jc (l.getD j wz)).toArray) (n := 513) rfl kr kr kr (by rw [List.size_toArray,jc_len (hW.at j)]) (jc_all _) 1 (cs := (delJ D l j oj).toArray) (e := 101) kr (by rw [List.size_toArray,delJ_size hW j om]; omega)) ?_
     rintro ⟨⟩ -
     refine CfgL.setO (congrArg (fun (xq : Array Value) => ([(wb,.cells ((jc (l.getD j wz)).toArray) 101 (0,0)),(b,.cells xq 101 (0,0))] : LO)) (show _ = ((delJ D l (j + 1) oj).toArray) from delJ_set hW om (by simpa using c3) oj)) ?_
     refine CfgL.done rfl ?_
     refine Cg (Γ' := [(6,[],.int .i64 (j : Int)),(5,[],.int .i64 ((kN D l j).length : Int)),(0,[],.slice (some ⟨b,0,none⟩) l.length cp),(1,[],.func (.func 63) #[] #[pT kb])]) ?_
     refine Rg [0,1,5,6] [] (fun _ => [(i6 (((kN D l j).length : Int) + 1))]) ⟨om,trivial⟩ ?_
     refine Rg [0,1,5,6] [] (fun _ => [(i6 ((j : Int) + 1))]) ⟨om,trivial⟩ ?_
     have hky := kN_yes (D := D) (l := l) (j := j) om (by simpa using c3)
     have hkl : (kN D l (j + 1)).length = (kN D l j).length + 1 := by rw [hky,List.length_append]; rfl
     refine Cfg.setS 5 (congrArg (fun (xq : Int) => (.int .i64 xq : Value)) (show (((kN D l j).length : Int) + 1) = (((kN D l (j + 1)).length : Nat) : Int) from by rw [hkl]; rfl)) ?_
     refine Cfg.again rfl (j + 1) ⟨by omega,by omega⟩ (by show l.length - (j + 1) < l.length - j; omega) (Conv.mk kr) (.cons _ (.cons_cons _ .slnil))
    ·have c3 : ((pD D (l.getD j wz)) = true) := (notF c3r)
     refine Rg [0,1,5,6] [] (fun _ => [(i6 ((j : Int) + 1))]) ⟨om,trivial⟩ ?_
     have hkn := kN_no (D := D) (l := l) (j := j) om (by simpa using c3)
     have hdn := delJ_no (D := D) (l := l) (j := j) om (by simpa using c3) oj
     refine Cfg.setO (congrArg (fun (xq : Array Value) => ([(wb,.cells ((jc (l.getD j wz)).toArray) 101 (0,0)),(b,.cells xq 101 (0,0))] : LO)) (show _ = ((delJ D l (j + 1) oj).toArray) from by rw [hdn])) ?_
     refine Cfg.setS 5 (congrArg (fun (xq : Int) => (.int .i64 xq : Value)) (show ((kN D l j).length : Int) = (((kN D l (j + 1)).length : Nat) : Int) from by rw [hkn])) ?_
     refine Cfg.again rfl (j + 1) ⟨by omega,by rw [hkn]; omega⟩ (by show l.length - (j + 1) < l.length - j; omega) (Conv.mk kr) (.cons _ (.cons_cons _ .slnil))
   ·have c2 := (dF c2r)
    have hje : j = l.length := by omega
    refine Conv.cfg (Γ' := [(5,[],.int .i64 ((kN D l j).length : Int)),(0,[],.slice (some ⟨b,0,none⟩) l.length cp)]) (Conv.mk kr) ?_
    refine Cfg.setS 5 (congrArg (fun (xq : Int) => (.int .i64 xq : Value)) (show ((kN D l j).length : Int) = ((kN D l l.length).length : Int) from by rw [hje])) ?_
    refine Cfg.setO (congrArg (fun (xq : Array Value) => ([(b,.cells xq 101 (0,0))] : LO)) (show _ = ((delJ D l l.length oj).toArray) from by rw [hje])) ?_
    rw [hje] at hlt
    have hcp : l.length ≤ cp := (hok.some _ rfl).2
    have hfit : (if cp = (kN D l l.length).length then 0 else ((kN D l l.length).length * 513)) + (l.length - (kN D l l.length).length) * (Value.cells (.agg (jc wz).toArray)).size ≤ ((delJ D l l.length oj).toArray).size := by
     rw [if_neg om,show (Value.cells (.agg (jc wz).toArray)).size = 513 from (by show (jc wz).toArray.size = _; rw [List.size_toArray,jc_len zb_len]),List.size_toArray,delJ_size hW l.length (Nat.le_refl _)]; omega
    refine Cfg.begL rfl ?_
    refine Lp 3 [] (some [0,5,38]) (fun _ => [(0 ≤ ((kN D l l.length).length : Int)),(((kN D l l.length).length) ≤ l.length ∧ l.length ≤ cp)]) ⟨om,om,trivial⟩ ?_
    refine Le (Eff.clearC rfl Tryz.underlying98 (z := (.agg (jc wz).toArray)) kr (b := b) (off := (if cp = ((kN D l l.length).length) then 0 else ((((kN D l l.length).length)) * 513))) (n := (l.length - (((kN D l l.length).length)))) (c := (cp - (((kN D l l.length).length)))) kr om 0 (cs := (delJ D l l.length oj).toArray) (te := 101) kr (zrj_all _) hfit) ?_
    rintro ⟨⟩ -
    refine CfgL.done rfl ?_
    refine Cg (Γ' := [(5,[],.int .i64 ((kN D l l.length).length : Int)),(0,[],.slice (some ⟨b,0,none⟩) l.length cp)]) ?_
    refine Rg [4] [] (fun _ => [(0 ≤ ((kN D l l.length).length : Int)),(((kN D l l.length).length) ≤ cp)]) ⟨om,om,trivial⟩ ?_
    refine Cfg.ret rfl (rs := [.tmp 4]) rfl [.slice (some ⟨b,0,none⟩) (((kN D l l.length).length)) cp] ⟨kr,trivial⟩ (fun w1 hp => ?_)
    have hle := kN_le D l l.length
    have hcl := delJ_clear (D := D) hW oj (n := l.length - (kN D l l.length).length) rfl
    rw [if_neg om,hcl] at hp
    rw [← kN_all]
    have hlen := jv_len (kN_w hW D l.length)
    have hz := zrj_len (l.length - (kN D l l.length).length)
    have hsm := (hok.some _ rfl).1
    have hlv := jv_len hW
    simp only at hsm
    exact ⟨some (b,cp,(Builtin.zeroCells (Value.cells (.agg (jc wz).toArray)) (l.length - (kN D l l.length).length)).toList ++ oj),⟨hlen,fun h => (by cases h),fun p hp9 => by cases hp9; exact ⟨by simp only [List.length_append]; omega,by simp only; omega⟩⟩,rfl,_,hp⟩
end Go.Proofs.YtfgdepggdiibdaaGreatDoor
