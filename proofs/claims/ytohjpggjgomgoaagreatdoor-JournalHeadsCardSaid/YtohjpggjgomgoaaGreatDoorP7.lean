/- Texts on which the proof of this claim stands: Jn4, Jn5, Jn6, K25, ShaK, RunAwk. -/
import Derived.Test.YtohjpggjgomgoaaGreatDoorP6
import Derived.Test.YtohjpggjgomgoaaGreatDoorP5
import Derived.Test.YtohjpggjgomgoaaGreatDoorP3
import Derived.Test.YtohjpggjgomgoaaGreatDoorP4
import Derived.Test.YtohjpggjgomgoaaGreatDoorChecked
namespace Go.Proofs.YtohjpggjgomgoaaGreatDoor
open K
set_option linter.unusedVariables false
set_option maxRecDepth 100000 in
set_option maxHeartbeats 4000000 in
theorem jParse (H : List UInt8) (la : Option Addr) (cap : Nat) (bs : List (List UInt8)) (Rl : List (Nat × Obj)) {kt : Array Value} {t0 : TypeId} {fr0 : Nat × Nat} (w : World) (hH : H.length = 512) (hI : InB Rl la bs) (hB : W5 bs) (hn : bs.length ≤ maxLen) (hR : Has w ((0,.cells kt t0 fr0) :: Rl)) (hK : KT kt := by assumption) :
  Calls Tryz.prog 9 #[.agg (bv H),.slice la bs.length cap] w fun e w' => ∃ o : K.Own,OwnOk o 513 (parL H bs).length (jv (parL H bs)) ∧ e = .returned (.tuple #[.int .u64 (parN H bs : Int),.slice (Own.a o) (parL H bs).length (Own.c o),.bool (parG H bs)]) ∧ ∃ R1,HP w [] R1 (Own.o 79 (jv (parL H bs)) o) w' := by
 unfold maxLen at hn
 obtain ⟨m,hm⟩ : ∃ m,m = min 96 bs.length := ⟨_,rfl⟩
 have hmm : (if (bs.length : Int) < (96 : Int) then (bs.length : Int) else (96 : Int)) = (m : Int) := by split <;> omega
 have hIq : InB ((0,.cells kt t0 fr0) :: Rl) la bs := hI.mono (fun e he => List.mem_cons_of_mem _ he)
 have hnl := numP_lt H
 have hcl := cnt_lt H
 refine enter (vs := [.agg (bv H),.slice la bs.length cap]) [] ((0,.cells kt t0 fr0) :: Rl) [] Tryz.func9 rfl (by kernel_rfl) (HP.ofHas hR) ?_
 refine Cfg.begL rfl ?_
 refine CfgL.eff (o := _) rfl (by kernel_rfl) (by kernel_rfl) (Eff.box (v := .agg (bv H)) rfl (by kernel_rfl)) ?_
 rintro hx ⟨hhx,nhx⟩
 refine CfgL.pure 3 [] (some [1,2]) (Γ' := [(2,[],.pointer (some ⟨hx,0,none⟩)),(1,[],.slice la bs.length cap)]) (nd := (fun _ => [])) (by kernel_rfl) (fun _ => by kernel_rfl) trivial ?_
 refine CfgL.done rfl ?_
 refine Cfg.begL rfl ?_
 refine CfgL.pure 2 [dZ,(0,false,some (.string (tx H)))] (some [1,2,14]) (Γ' := [(14,[],.string (tx H)),(2,[],.pointer (some ⟨hx,0,none⟩)),(1,[],.slice la bs.length cap)]) (nd := (fun S => [(512 ≤ 512),(∀ w1,S w1 → (Conv.bytesToString (.slice (some ⟨hx,0,none⟩) 512 512)).run Tryz.prog w1 = .ok (.string (tx H)) w1)])) (by kernel_rfl) (fun _ => by kernel_rfl) ⟨(by omega),(fun w1 h => bytes_str hH (fun j hj => by rw [Nat.zero_add]; exact h.ocell 0 rfl (bv_get hH hj))),trivial⟩ ?_
 refine CfgL.eff (o := _) rfl (by kernel_rfl) (by kernel_rfl) (Eff.callN (vs := [.string (tx H)]) (fun b : Nat => .pointer (some ⟨b,0,none⟩)) (fun b => b) (fun _ => .cells (inC (aD H 0)) 162 (0,0)) (fun _ => True) rfl Tryz.func41 rfl rfl (by kernel_rfl) (fun w1 _ => wOf H w1)) ?_
 rintro ib ⟨-,hib,nib⟩
 refine CfgL.pure 1 [] (some [1,2,7]) (Γ' := [(7,[],.pointer (some ⟨ib,0,none⟩)),(2,[],.pointer (some ⟨hx,0,none⟩)),(1,[],.slice la bs.length cap)]) (nd := (fun _ => [])) (by kernel_rfl) (fun _ => by kernel_rfl) trivial ?_
 refine CfgL.done rfl ?_
 refine Cfg.begL rfl ?_
 refine CfgL.pure 1 [] none (Γ' := [(16,[],.pointer (some ⟨ib,0,none⟩)),(7,[],.pointer (some ⟨ib,0,none⟩)),(2,[],.pointer (some ⟨hx,0,none⟩)),(1,[],.slice la bs.length cap)]) (nd := (fun _ => [])) (by kernel_rfl) (fun _ => by kernel_rfl) trivial ?_
 refine CfgL.eff (o := _) rfl (by kernel_rfl) (by kernel_rfl) (Eff.callM (vs := [.pointer (some ⟨ib,0,none⟩),.int .i64 4]) (.string (tx (H.take 4))) 0 (b := ib) (ob := Obj.cells (inC (aD H 0)) 162 (0,0)) (Obj.cells (inC (aD H 4)) 162 (0,0)) rfl Tryz.func42 rfl rfl (by kernel_rfl) (by kernel_rfl) (fun w1 h => jRaw ib H w1 hH (h.own (ib,Obj.cells (inC (aD H 0)) 162 (0,0)) (show (ib,Obj.cells (inC (aD H 0)) 162 (0,0)) ∈ [(ib,Obj.cells (inC (aD H 0)) 162 (0,0)),(hx,Obj.cells (bv H) 25 (0,0))] from (List.mem_of_getElem? (i := 0) rfl))))) ?_
 rintro ⟨⟩ -
 refine CfgL.pure 1 [] (some [1,2,7,18]) (Γ' := [(18,[],.bool (!((tx (H.take 4)).toList == (⟨#[80,82,84,82]⟩ : ByteArray).toList))),(7,[],.pointer (some ⟨ib,0,none⟩)),(2,[],.pointer (some ⟨hx,0,none⟩)),(1,[],.slice la bs.length cap)]) (nd := (fun _ => [])) (by kernel_rfl) (fun _ => by kernel_rfl) trivial ?_
 refine CfgL.done rfl ?_
 refine Cfg.cond rfl (b := (!((tx (H.take 4)).toList == (⟨#[80,82,84,82]⟩ : ByteArray).toList))) (by kernel_rfl) (fun c1r => ?_) (fun c1r => ?_)
 ·have c1 : (((tx (H.take 4)).toList == (⟨#[80,82,84,82]⟩ : ByteArray).toList) = false) := (notT c1r)
  have hmk : ¬ H.take 4 = mkL := by have h0 := c1r; rw [mark_eq] at h0; simpa using h0
  refine Cfg.reg rfl [4,5,6] [] (Γ' := [(6,[],.bool false),(5,[],.slice none 0 0),(4,[],.int .u64 0)]) (nd := (fun _ => [])) (fun _ => by kernel_rfl) trivial ?_
  refine Cfg.ret rfl (rs := [.tmp 4,.tmp 5,.tmp 6]) rfl [.int .u64 0,.slice none 0 0,.bool false] ⟨by kernel_rfl,by kernel_rfl,by kernel_rfl,trivial⟩ (fun w1 hp => ?_)
  exact par_ret0 (par_no1 hmk) hp
 ·have c1 : (((tx (H.take 4)).toList == (⟨#[80,82,84,82]⟩ : ByteArray).toList) = true) := (notF c1r)
  have hmk : H.take 4 = mkL := by have h0 := c1r; rw [mark_eq] at h0; simpa using h0
  refine Cfg.begL rfl ?_
  refine CfgL.pure 1 [] (some [1,2,7,19]) (Γ' := [(19,[],.pointer (some ⟨ib,0,none⟩)),(7,[],.pointer (some ⟨ib,0,none⟩)),(2,[],.pointer (some ⟨hx,0,none⟩)),(1,[],.slice la bs.length cap)]) (nd := (fun _ => [])) (by kernel_rfl) (fun _ => by kernel_rfl) trivial ?_
  refine CfgL.eff (o := _) rfl (by kernel_rfl) (by kernel_rfl) (Eff.callM (vs := [.pointer (some ⟨ib,0,none⟩)]) (.int .u64 ((numP H) : Int)) 0 (b := ib) (ob := Obj.cells (inC (aD H 4)) 162 (0,0)) (Obj.cells (inC (aD H 12)) 162 (0,0)) rfl Tryz.func43 rfl rfl (by kernel_rfl) (by kernel_rfl) (fun w1 h => jEight ib H w1 hH (h.own (ib,Obj.cells (inC (aD H 4)) 162 (0,0)) (show (ib,Obj.cells (inC (aD H 4)) 162 (0,0)) ∈ [(ib,Obj.cells (inC (aD H 4)) 162 (0,0)),(hx,Obj.cells (bv H) 25 (0,0))] from (List.mem_of_getElem? (i := 0) rfl))))) ?_
  rintro ⟨⟩ -
  refine CfgL.pure 1 [] (some [1,2,7,8]) (Γ' := [(8,[],.int .u64 ((numP H) : Int)),(7,[],.pointer (some ⟨ib,0,none⟩)),(2,[],.pointer (some ⟨hx,0,none⟩)),(1,[],.slice la bs.length cap)]) (nd := (fun _ => [])) (by kernel_rfl) (fun _ => by kernel_rfl) trivial ?_
  refine CfgL.done rfl ?_
  refine Cfg.begL rfl ?_
  refine CfgL.pure 3 [] (some [1,2,7,8,21,23]) (Γ' := [(23,[],.int .i64 (bs.length : Int)),(21,[],.pointer (some ⟨ib,0,none⟩)),(8,[],.int .u64 ((numP H) : Int)),(7,[],.pointer (some ⟨ib,0,none⟩)),(2,[],.pointer (some ⟨hx,0,none⟩)),(1,[],.slice la bs.length cap)]) (nd := (fun _ => [])) (by kernel_rfl) (fun _ => by kernel_rfl) trivial ?_
  refine CfgL.eff (o := _) rfl (by kernel_rfl) (by kernel_rfl) (Eff.minI2 (k := .i64) (a := (96 : Int)) (b := (bs.length : Int)) (m : Int) hmm rfl (by kernel_rfl) (by kernel_rfl)) ?_
  rintro ⟨⟩ -
  refine CfgL.eff (o := _) rfl (by kernel_rfl) (by kernel_rfl) (Eff.callM (vs := [.pointer (some ⟨ib,0,none⟩),.int .i64 (m : Int)]) (.int .i64 ((boundF (aD H 12) (m : Int) 6).1 : Int)) 0 (b := ib) (ob := Obj.cells (inC (aD H 12)) 162 (0,0)) (Obj.cells (inC (boundF (aD H 12) (m : Int) 6).2) 162 (0,0)) rfl Tryz.func44 rfl rfl (by kernel_rfl) (by kernel_rfl) (fun w1 h => wCount ib (aD H 12) (m : Int) w1 (h.own (ib,Obj.cells (inC (aD H 12)) 162 (0,0)) (show (ib,Obj.cells (inC (aD H 12)) 162 (0,0)) ∈ [(ib,Obj.cells (inC (aD H 12)) 162 (0,0)),(hx,Obj.cells (bv H) 25 (0,0))] from (List.mem_of_getElem? (i := 0) rfl))) (by omega))) ?_
  rintro ⟨⟩ -
  refine CfgL.pure 1 [] (some [1,2,7,8,9]) (Γ' := [(9,[],.int .i64 ((boundF (aD H 12) (m : Int) 6).1 : Int)),(8,[],.int .u64 ((numP H) : Int)),(7,[],.pointer (some ⟨ib,0,none⟩)),(2,[],.pointer (some ⟨hx,0,none⟩)),(1,[],.slice la bs.length cap)]) (nd := (fun _ => [])) (by kernel_rfl) (fun _ => by kernel_rfl) trivial ?_
  refine CfgL.done rfl ?_
  refine Cfg.begL rfl ?_
  refine CfgL.pure 1 [] none (Γ' := [(26,[],.pointer (some ⟨ib,0,none⟩)),(9,[],.int .i64 ((boundF (aD H 12) (m : Int) 6).1 : Int)),(8,[],.int .u64 ((numP H) : Int)),(7,[],.pointer (some ⟨ib,0,none⟩)),(2,[],.pointer (some ⟨hx,0,none⟩)),(1,[],.slice la bs.length cap)]) (nd := (fun _ => [])) (by kernel_rfl) (fun _ => by kernel_rfl) trivial ?_
  refine CfgL.eff (o := _) rfl (by kernel_rfl) (by kernel_rfl) (Eff.callA (vs := [.pointer (some ⟨ib,0,none⟩)]) (.int .i64 ((boundF (aD H 12) (m : Int) 6).2.er)) rfl Tryz.func45 rfl rfl (by kernel_rfl) (fun w1 h => wErr ib (boundF (aD H 12) (m : Int) 6).2 w1 (h.own (ib,_) (List.mem_of_getElem? (i := 0) rfl)))) ?_
  rintro ⟨⟩ -
  refine CfgL.pure 1 [] (some [1,2,7,8,9,28]) (Γ' := [(28,[],.bool (((boundF (aD H 12) (m : Int) 6).2.er) != (0 : Int))),(9,[],.int .i64 ((boundF (aD H 12) (m : Int) 6).1 : Int)),(8,[],.int .u64 ((numP H) : Int)),(7,[],.pointer (some ⟨ib,0,none⟩)),(2,[],.pointer (some ⟨hx,0,none⟩)),(1,[],.slice la bs.length cap)]) (nd := (fun _ => [])) (by kernel_rfl) (fun _ => by kernel_rfl) trivial ?_
  refine CfgL.done rfl ?_
  refine Cfg.cond rfl (b := (((boundF (aD H 12) (m : Int) 6).2.er) != (0 : Int))) (by kernel_rfl) (fun c2r => ?_) (fun c2r => ?_)
  ·have c2 : (((boundF (aD H 12) (m : Int) 6).2.er) ≠ (0 : Int)) := (bne_iff_ne.1 c2r)
   refine Cfg.reg rfl [4,5,6] [] (Γ' := [(6,[],.bool false),(5,[],.slice none 0 0),(4,[],.int .u64 0)]) (nd := (fun _ => [])) (fun _ => by kernel_rfl) trivial ?_
   refine Cfg.ret rfl (rs := [.tmp 4,.tmp 5,.tmp 6]) rfl [.int .u64 0,.slice none 0 0,.bool false] ⟨by kernel_rfl,by kernel_rfl,by kernel_rfl,trivial⟩ (fun w1 hp => ?_)
   exact par_ret0 (par_no2 (by have := cnt_no hH (m := m) (by omega); omega)) hp
  ·have c2 : (((boundF (aD H 12) (m : Int) 6).2.er) = (0 : Int)) := (bne_eq_false_iff_eq.1 c2r)
   obtain ⟨hb1,hb2⟩ := cnt_ok hH (m := m) (by omega)
   refine Cfg.setG (congrArg (fun (xq : Int) => ([(28,[],.bool (((boundF (aD H 12) (m : Int) 6).2.er) != (0 : Int))),(9,[],.int .i64 xq),(8,[],.int .u64 ((numP H) : Int)),(7,[],.pointer (some ⟨ib,0,none⟩)),(2,[],.pointer (some ⟨hx,0,none⟩)),(1,[],.slice la bs.length cap)] : Env)) (show _ = ((cntP H) : Int) from by rw [hb1])) ?_
   refine Cfg.setO (congrArg (fun (xq : Array Value) => ([(ib,.cells xq 162 (0,0)),(hx,.cells (bv H) 25 (0,0))] : List (Nat × Obj))) (show _ = (inC (aD H 16)) from by rw [hb1])) ?_
   refine Cfg.reg rfl [1,2,7,8,9,10] [] (Γ' := [(10,[],.slice none 0 0),(9,[],.int .i64 ((cntP H) : Int)),(8,[],.int .u64 ((numP H) : Int)),(7,[],.pointer (some ⟨ib,0,none⟩)),(2,[],.pointer (some ⟨hx,0,none⟩)),(1,[],.slice la bs.length cap)]) (nd := (fun _ => [])) (fun _ => by kernel_rfl) trivial ?_
   refine Cfg.reg rfl [1,2,7,8,10,29,30] [] (Γ' := [(30,[],.int .i64 0),(29,[],.int .i64 ((cntP H) : Int)),(10,[],.slice none 0 0),(8,[],.int .u64 ((numP H) : Int)),(7,[],.pointer (some ⟨ib,0,none⟩)),(2,[],.pointer (some ⟨hx,0,none⟩)),(1,[],.slice la bs.length cap)]) (nd := (fun _ => [])) (fun _ => by kernel_rfl) trivial ?_
   refine Cfg.setO (congrArg (fun (xq : Array Value) => ([(ib,.cells xq 162 (0,0)),(hx,.cells (bv H) 25 (0,0))] : List (Nat × Obj))) (show _ = (inC (aD H (16 + 2 * 0))) from rfl)) ?_
   refine Cfg.loop rfl (ι := Nat × K.Own) (fun (xz : Nat × K.Own) => match xz with | (k,own) => [(30,[],.int .i64 (k : Int)),(29,[],.int .i64 ((cntP H) : Int)),(10,[],.slice (Own.a own) k (Own.c own)),(8,[],.int .u64 ((numP H) : Int)),(7,[],.pointer (some ⟨ib,0,none⟩)),(2,[],.pointer (some ⟨hx,0,none⟩)),(1,[],.slice la bs.length cap)]) (fun (xz : Nat × K.Own) => match xz with | (k,own) => ([(ib,.cells (inC (aD H (16 + 2 * k))) 162 (0,0)),(hx,.cells (bv H) 25 (0,0))] ++ (Own.o 79 (jv (rowP H bs k)) own ++ []))) (fun (xz : Nat × K.Own) => match xz with | (k,own) => (k ≤ cntP H) ∧ (OwnOk own 513 k (jv (rowP H bs k)))) (fun (xz : Nat × K.Own) => match xz with | (k,own) => cntP H - k) (0,none) ?_ (Conv.mk (by kernel_rfl)) (.cons_cons _ (.cons_cons _ (List.Sublist.refl _))) ?_
   ·exact ⟨Nat.zero_le _,OwnOk.none _⟩
   ·rintro ⟨k,own⟩ ⟨hk,hok⟩
    refine Cfg.reg rfl [1,2,7,8,10,29,30,31] [] (Γ' := [(31,[],.bool (decide ((k : Int) < ((cntP H) : Int)))),(30,[],.int .i64 (k : Int)),(29,[],.int .i64 ((cntP H) : Int)),(10,[],.slice (Own.a own) k (Own.c own)),(8,[],.int .u64 ((numP H) : Int)),(7,[],.pointer (some ⟨ib,0,none⟩)),(2,[],.pointer (some ⟨hx,0,none⟩)),(1,[],.slice la bs.length cap)]) (nd := (fun _ => [])) (fun _ => by kernel_rfl) trivial ?_
    refine Cfg.cond rfl (b := (decide ((k : Int) < ((cntP H) : Int)))) (by kernel_rfl) (fun c3r => ?_) (fun c3r => ?_)
    ·have c3 : ((k : Int) < ((cntP H) : Int)) := (of_decide_eq_true c3r)
     refine Cfg.reg rfl [1,2,7,8,10,11,29,30] [] (Γ' := [(11,[],.int .i64 (k : Int)),(30,[],.int .i64 (k : Int)),(29,[],.int .i64 ((cntP H) : Int)),(10,[],.slice (Own.a own) k (Own.c own)),(8,[],.int .u64 ((numP H) : Int)),(7,[],.pointer (some ⟨ib,0,none⟩)),(2,[],.pointer (some ⟨hx,0,none⟩)),(1,[],.slice la bs.length cap)]) (nd := (fun _ => [])) (fun _ => by kernel_rfl) trivial ?_
     refine Cfg.begL rfl ?_
     refine CfgL.pure 1 [] none (Γ' := [(33,[],.pointer (some ⟨ib,0,none⟩)),(11,[],.int .i64 (k : Int)),(30,[],.int .i64 (k : Int)),(29,[],.int .i64 ((cntP H) : Int)),(10,[],.slice (Own.a own) k (Own.c own)),(8,[],.int .u64 ((numP H) : Int)),(7,[],.pointer (some ⟨ib,0,none⟩)),(2,[],.pointer (some ⟨hx,0,none⟩)),(1,[],.slice la bs.length cap)]) (nd := (fun _ => [])) (by kernel_rfl) (fun _ => by kernel_rfl) trivial ?_
     refine CfgL.eff (o := _) rfl (by kernel_rfl) (by kernel_rfl) (Eff.callM (vs := [.pointer (some ⟨ib,0,none⟩)]) (.int .u8 ((gb H (16 + 2 * k)).toNat : Int)) 0 (b := ib) (ob := Obj.cells (inC (aD H (16 + 2 * k))) 162 (0,0)) (Obj.cells (inC (aD H (16 + 2 * k + 1))) 162 (0,0)) rfl Tryz.func46 rfl rfl (by kernel_rfl) (by kernel_rfl) (fun w1 h => jByte ib H (16 + 2 * k) w1 (by omega) (h.own (ib,Obj.cells (inC (aD H (16 + 2 * k))) 162 (0,0)) (show (ib,Obj.cells (inC (aD H (16 + 2 * k))) 162 (0,0)) ∈ ([(ib,Obj.cells (inC (aD H (16 + 2 * k))) 162 (0,0)),(hx,Obj.cells (bv H) 25 (0,0))] ++ (Own.o 79 (jv (rowP H bs k)) own ++ [])) from (List.mem_append_left _ (List.mem_of_getElem? (i := 0) rfl)))))) ?_
     rintro ⟨⟩ -
     refine CfgL.pure 2 [] (some [1,2,7,8,10,11,12,29,30]) (Γ' := [(12,[],.int .i64 ((gb H (16 + 2 * k)).toNat : Int)),(11,[],.int .i64 (k : Int)),(30,[],.int .i64 (k : Int)),(29,[],.int .i64 ((cntP H) : Int)),(10,[],.slice (Own.a own) k (Own.c own)),(8,[],.int .u64 ((numP H) : Int)),(7,[],.pointer (some ⟨ib,0,none⟩)),(2,[],.pointer (some ⟨hx,0,none⟩)),(1,[],.slice la bs.length cap)]) (nd := (fun _ => [((-9223372036854775808 : Int) ≤ ((gb H (16 + 2 * k)).toNat : Int) ∧ ((gb H (16 + 2 * k)).toNat : Int) ≤ 9223372036854775807)])) (by kernel_rfl) (fun _ => by kernel_rfl) ⟨(by have hq1 := byteLt (gb H (16 + 2 * k)); have hq2 := byteLt (gb H (16 + 2 * k + 1)); omega),trivial⟩ ?_
     refine CfgL.done rfl ?_
     obtain ⟨sb,off,cs,te,fre,rfl,hmem,hcs⟩ := hIq (by omega)
     refine Conv.cfg (Γ' := [(12,[],.int .i64 ((gb H (16 + 2 * k)).toNat : Int)),(11,[],.int .i64 (k : Int)),(30,[],.int .i64 (k : Int)),(29,[],.int .i64 ((cntP H) : Int)),(10,[],.slice (Own.a own) k (Own.c own)),(8,[],.int .u64 ((numP H) : Int)),(7,[],.pointer (some ⟨ib,0,none⟩)),(2,[],.pointer (some ⟨hx,0,none⟩)),(1,[],.slice (some ⟨sb,off,none⟩) bs.length cap)]) (Conv.mk (by kernel_rfl)) ?_
     refine Cfg.begA rfl (by kernel_rfl) [(hx,.cells (bv H) 25 (0,0))] ?_
     refine CfgA.pure [0,1,2,3,7,8,9] [] (some [1,2,7,8,10,29,30,36,38,39,45]) (l' := #[true,true,true,true,false,false,false,true,true,true,false,false,false,false,false]) (by kernel_rfl) (by kernel_rfl) (.cons _ (.cons_cons _ (List.Sublist.trans (List.Sublist.refl _) (List.sublist_append_right _ _)))) 8 rfl (Γ' := [(45,[],.pointer (some ⟨sb,(addO off (k * 512)),none⟩)),(39,[],.pointer (some ⟨ib,0,none⟩)),(38,[],.int .i64 (((gb H (16 + 2 * k)).toNat : Int) * 256)),(36,[],.slice (Own.a own) k (Own.c own)),(30,[],.int .i64 (k : Int)),(29,[],.int .i64 ((cntP H) : Int)),(10,[],.slice (Own.a own) k (Own.c own)),(8,[],.int .u64 ((numP H) : Int)),(7,[],.pointer (some ⟨ib,0,none⟩)),(2,[],.pointer (some ⟨hx,0,none⟩)),(1,[],.slice (some ⟨sb,off,none⟩) bs.length cap)]) (nd := (fun _ => [(0 ≤ (8 : Int) ∧ 8 ≤ 64),((-9223372036854775808 : Int) ≤ (((gb H (16 + 2 * k)).toNat : Int) * 256) ∧ (((gb H (16 + 2 * k)).toNat : Int) * 256) ≤ 9223372036854775807),(0 ≤ (k : Int) ∧ (k : Int) < (bs.length : Int))])) (fun _ => by kernel_rfl) ⟨(by omega),(by have hq1 := byteLt (gb H (16 + 2 * k)); have hq2 := byteLt (gb H (16 + 2 * k + 1)); omega),(by omega),trivial⟩ ?_
     refine CfgA.two 4 10 (by kernel_rfl) (fuel' := 7) rfl ?_ ?_
     ·
      refine CfgI.eff (o := _) rfl (by kernel_rfl) (by kernel_rfl) (Eff.callM (vs := [.pointer (some ⟨ib,0,none⟩)]) (.int .u8 ((gb H (16 + 2 * k + 1)).toNat : Int)) 0 (b := ib) (ob := Obj.cells (inC (aD H (16 + 2 * k + 1))) 162 (0,0)) (Obj.cells (inC (aD H (16 + 2 * k + 1 + 1))) 162 (0,0)) rfl Tryz.func46 rfl rfl (by kernel_rfl) (by kernel_rfl) (fun w1 h => jByte ib H (16 + 2 * k + 1) w1 (by omega) (h.own (ib,Obj.cells (inC (aD H (16 + 2 * k + 1))) 162 (0,0)) (show (ib,Obj.cells (inC (aD H (16 + 2 * k + 1))) 162 (0,0)) ∈ ([(ib,Obj.cells (inC (aD H (16 + 2 * k + 1))) 162 (0,0)),(hx,Obj.cells (bv H) 25 (0,0))] ++ (Own.o 79 (jv (rowP H bs k)) own ++ [])) from (List.mem_append_left _ (List.mem_of_getElem? (i := 0) rfl)))))) (fun _ _ => (.cons _ (.cons_cons _ (List.Sublist.trans (List.Sublist.refl _) (List.sublist_append_right _ _))))) ?_
      rintro ⟨⟩ -
      refine CfgA.pure [5,6] [] (some [1,2,7,8,10,29,30,36,42,45]) (l' := tF 10 5) (by kernel_rfl) (by kernel_rfl) (.cons _ (.cons_cons _ (List.Sublist.trans (List.Sublist.refl _) (List.sublist_append_right _ _)))) 5 rfl (Γ' := [(42,[],.int .i64 (((((gb H (16 + 2 * k)).toNat) * 256) ||| ((gb H (16 + 2 * k + 1)).toNat) : Nat) : Int)),(45,[],.pointer (some ⟨sb,(addO off (k * 512)),none⟩)),(36,[],.slice (Own.a own) k (Own.c own)),(30,[],.int .i64 (k : Int)),(29,[],.int .i64 ((cntP H) : Int)),(10,[],.slice (Own.a own) k (Own.c own)),(8,[],.int .u64 ((numP H) : Int)),(7,[],.pointer (some ⟨ib,0,none⟩)),(2,[],.pointer (some ⟨hx,0,none⟩)),(1,[],.slice (some ⟨sb,off,none⟩) bs.length cap)]) (nd := (fun _ => [((-9223372036854775808 : Int) ≤ ((gb H (16 + 2 * k + 1)).toNat : Int) ∧ ((gb H (16 + 2 * k + 1)).toNat : Int) ≤ 9223372036854775807),((0 ≤ (((gb H (16 + 2 * k)).toNat : Int) * 256) ∧ (((gb H (16 + 2 * k)).toNat : Int) * 256) ≤ 9223372036854775807) ∧ 0 ≤ ((gb H (16 + 2 * k + 1)).toNat : Int) ∧ ((gb H (16 + 2 * k + 1)).toNat : Int) ≤ 9223372036854775807)])) (fun _ => by kernel_rfl) ⟨(by have hq1 := byteLt (gb H (16 + 2 * k)); have hq2 := byteLt (gb H (16 + 2 * k + 1)); omega),(by have hq1 := byteLt (gb H (16 + 2 * k)); have hq2 := byteLt (gb H (16 + 2 * k + 1)); omega),trivial⟩ ?_
      refine CfgA.eff 10 (o := _) rfl (by kernel_rfl) (fuel' := 4) rfl (by kernel_rfl) (by kernel_rfl) (Eff.quiet (raw := false) (orc := some (.agg (bv (bs.getD k zb)))) (v := .agg (bv (bs.getD k zb))) (nd := (fun S => [(∀ w1,S w1 → (loadVar 25 ⟨sb,(addO off (k * 512)),none⟩).run Tryz.prog w1 = .ok (.agg (bv (bs.getD k zb))) w1)])) (fun _ => by kernel_rfl) ⟨(fun w1 h => load_bytes Tryz.underlying25 rfl (by kernel_rfl) (hB.at' k) (fun j hj => by rw [addO_eq]; exact (cell_cells (h.ro _ hmem)).trans (blk_cell hB hcs (by omega) hj))),trivial⟩ (by kernel_rfl)) (fun _ _ => (.cons _ (.cons_cons _ (List.Sublist.trans (List.Sublist.refl _) (List.sublist_append_right _ _))))) ?_
      rintro ⟨⟩ -
      refine CfgA.pure [11] [(0,false,some (.agg (jc ((((((gb H (16 + 2 * k)).toNat) * 256) ||| ((gb H (16 + 2 * k + 1)).toNat) : Nat) : Int),bs.getD k zb)).toArray))] (some [1,2,7,8,10,29,30,36,47]) (l' := tF 12 3) (by kernel_rfl) (by kernel_rfl) (.cons _ (.cons_cons _ (List.Sublist.trans (List.Sublist.refl _) (List.sublist_append_right _ _)))) 3 rfl (Γ' := [(47,[],.agg (jc ((((((gb H (16 + 2 * k)).toNat) * 256) ||| ((gb H (16 + 2 * k + 1)).toNat) : Nat) : Int),bs.getD k zb)).toArray),(36,[],.slice (Own.a own) k (Own.c own)),(30,[],.int .i64 (k : Int)),(29,[],.int .i64 ((cntP H) : Int)),(10,[],.slice (Own.a own) k (Own.c own)),(8,[],.int .u64 ((numP H) : Int)),(7,[],.pointer (some ⟨ib,0,none⟩)),(2,[],.pointer (some ⟨hx,0,none⟩)),(1,[],.slice (some ⟨sb,off,none⟩) bs.length cap)]) (nd := (fun S => [(∀ w1,S w1 → (Instr.build 79 #[(0,.int .i64 (((((gb H (16 + 2 * k)).toNat) * 256) ||| ((gb H (16 + 2 * k + 1)).toNat) : Nat) : Int)),(1,.agg (bv (bs.getD k zb)))]).run Tryz.prog w1 = .ok (.agg (jc ((((((gb H (16 + 2 * k)).toNat) * 256) ||| ((gb H (16 + 2 * k + 1)).toNat) : Nat) : Int),bs.getD k zb)).toArray) w1)])) (fun _ => by kernel_rfl) ⟨(fun w1 _ => build_wr (((((gb H (16 + 2 * k)).toNat) * 256) ||| ((gb H (16 + 2 * k + 1)).toNat) : Nat) : Int) (hB.at' k) w1),trivial⟩ ?_
      refine CfgA.eff 12 (o := _) rfl (by kernel_rfl) (fuel' := 2) rfl (by kernel_rfl) (by kernel_rfl) (Eff.buildAgg (vs := (jc ((((((gb H (16 + 2 * k)).toNat) * 256) ||| ((gb H (16 + 2 * k + 1)).toNat) : Nat) : Int),bs.getD k zb)).toArray) (n := 513) rfl (by kernel_rfl) Tryz.underlying28 (by kernel_rfl) (z := (.agg (jc wz).toArray)) (by kernel_rfl) (by rw [List.size_toArray]; exact jc_len (hB.at' k)) (by decide) (by decide)) (fun _ _ => (.cons _ (.cons _ (.cons_cons _ (List.Sublist.trans (List.Sublist.refl _) (List.sublist_append_right _ _)))))) ?_
      rintro x2 ⟨hx2,nx2⟩
      refine CfgA.eff 13 (o := _) rfl (by kernel_rfl) (fuel' := 1) rfl (by kernel_rfl) (by kernel_rfl) (Eff.appendF rfl 513 520 Tryz.underlying28 (by kernel_rfl) (z := (.agg (jc wz).toArray)) (by kernel_rfl) (by kernel_rfl) own (xs := (jv (rowP H bs k))) hok (by kernel_rfl) (b2 := x2) (off2 := 0) (m := 1) (c2 := 1) (by kernel_rfl) (jc ((((((gb H (16 + 2 * k)).toNat) * 256) ||| ((gb H (16 + 2 * k + 1)).toNat) : Nat) : Int),bs.getD k zb)) (jc_len (hB.at' k)) (jc_all _) [(x2,.cells ((jc ((((((gb H (16 + 2 * k)).toNat) * 256) ||| ((gb H (16 + 2 * k + 1)).toNat) : Nat) : Int),bs.getD k zb)).toArray) 79 (0,0)),(ib,.cells (inC (aD H (16 + 2 * k + 1 + 1))) 162 (0,0)),(hx,.cells (bv H) 25 (0,0))] [] (by rfl) (fun w1 h j v hj => wr_src h 0 rfl hj) (by omega) (by omega)) (fun _ _ => (.cons _ (.cons _ (.cons_cons _ (List.Sublist.trans (List.Sublist.refl _) (List.sublist_append_right _ _)))))) ?_
      rintro o9 ko9
      refine CfgA.pure [14] [] (some [1,2,7,8,10,29,30]) (l' := tF 15 0) (by kernel_rfl) (by kernel_rfl) (.cons _ (.cons _ (.cons_cons _ (List.Sublist.trans (List.Sublist.refl _) (List.sublist_append_right _ _))))) 0 rfl (Γ' := [(10,[],.slice (Own.a o9) ((k + 1)) (Own.c o9)),(30,[],.int .i64 (k : Int)),(29,[],.int .i64 ((cntP H) : Int)),(8,[],.int .u64 ((numP H) : Int)),(7,[],.pointer (some ⟨ib,0,none⟩)),(2,[],.pointer (some ⟨hx,0,none⟩)),(1,[],.slice (some ⟨sb,off,none⟩) bs.length cap)]) (nd := (fun _ => [])) (fun _ => by kernel_rfl) trivial ?_
      refine CfgA.done (by kernel_rfl) ?_
      refine Cfg.reg rfl [1,2,7,8,10,29,30] [] (Γ' := [(30,[],.int .i64 ((k : Int) + 1)),(10,[],.slice (Own.a o9) ((k + 1)) (Own.c o9)),(29,[],.int .i64 ((cntP H) : Int)),(8,[],.int .u64 ((numP H) : Int)),(7,[],.pointer (some ⟨ib,0,none⟩)),(2,[],.pointer (some ⟨hx,0,none⟩)),(1,[],.slice (some ⟨sb,off,none⟩) bs.length cap)]) (nd := (fun _ => [((-9223372036854775808 : Int) ≤ ((k : Int) + 1) ∧ ((k : Int) + 1) ≤ 9223372036854775807)])) (fun _ => by kernel_rfl) ⟨(by omega),trivial⟩ ?_
      have hrv : ((jv (rowP H bs k)) ++ (jc ((((((gb H (16 + 2 * k)).toNat) * 256) ||| ((gb H (16 + 2 * k + 1)).toNat) : Nat) : Int),bs.getD k zb))) = jv (rowP H bs (k + 1)) := by rw [rowP_succ,jv_app,jv_one,show (atP H k : Int) = _ from at_or H k]
      refine Cfg.setO (congrArg (fun (xq : Array Value) => (([(x2,.cells ((jc ((((((gb H (16 + 2 * k)).toNat) * 256) ||| ((gb H (16 + 2 * k + 1)).toNat) : Nat) : Int),bs.getD k zb)).toArray) 79 (0,0)),(ib,.cells xq 162 (0,0)),(hx,.cells (bv H) 25 (0,0))] ++ (Own.o 79 ((jv (rowP H bs k)) ++ (jc ((((((gb H (16 + 2 * k)).toNat) * 256) ||| ((gb H (16 + 2 * k + 1)).toNat) : Nat) : Int),bs.getD k zb))) o9 ++ [])) : List (Nat × Obj))) (show _ = (inC (aD H (16 + 2 * (k + 1)))) from rfl)) ?_
      refine Cfg.setO (congrArg (fun (xq : List Value) => (([(x2,.cells ((jc ((((((gb H (16 + 2 * k)).toNat) * 256) ||| ((gb H (16 + 2 * k + 1)).toNat) : Nat) : Int),bs.getD k zb)).toArray) 79 (0,0)),(ib,.cells (inC (aD H (16 + 2 * (k + 1)))) 162 (0,0)),(hx,.cells (bv H) 25 (0,0))] ++ (Own.o 79 xq o9 ++ [])) : List (Nat × Obj))) (show _ = (jv (rowP H bs (k + 1))) from hrv)) ?_
      refine Cfg.again rfl (k + 1,o9) ⟨by omega,hrv ▸ ko9⟩ (by show cntP H - (k + 1) < cntP H - k; omega) (Conv.mk (by kernel_rfl)) (.cons _ (.cons_cons _ (.cons_cons _ (List.Sublist.refl _))))
     ·
      refine CfgI.eff (o := _) rfl (by kernel_rfl) (by kernel_rfl) (Eff.quiet (raw := false) (orc := some (.agg (bv (bs.getD k zb)))) (v := .agg (bv (bs.getD k zb))) (nd := (fun S => [(∀ w1,S w1 → (loadVar 25 ⟨sb,(addO off (k * 512)),none⟩).run Tryz.prog w1 = .ok (.agg (bv (bs.getD k zb))) w1)])) (fun _ => by kernel_rfl) ⟨(fun w1 h => load_bytes Tryz.underlying25 rfl (by kernel_rfl) (hB.at' k) (fun j hj => by rw [addO_eq]; exact (cell_cells (h.ro _ hmem)).trans (blk_cell hB hcs (by omega) hj))),trivial⟩ (by kernel_rfl)) (fun _ _ => (.cons _ (.cons_cons _ (List.Sublist.trans (List.Sublist.refl _) (List.sublist_append_right _ _))))) ?_
      rintro ⟨⟩ -
      refine CfgA.eff 4 (o := _) rfl (by kernel_rfl) (fuel' := 6) rfl (by kernel_rfl) (by kernel_rfl) (Eff.callM (vs := [.pointer (some ⟨ib,0,none⟩)]) (.int .u8 ((gb H (16 + 2 * k + 1)).toNat : Int)) 0 (b := ib) (ob := Obj.cells (inC (aD H (16 + 2 * k + 1))) 162 (0,0)) (Obj.cells (inC (aD H (16 + 2 * k + 1 + 1))) 162 (0,0)) rfl Tryz.func46 rfl rfl (by kernel_rfl) (by kernel_rfl) (fun w1 h => jByte ib H (16 + 2 * k + 1) w1 (by omega) (h.own (ib,Obj.cells (inC (aD H (16 + 2 * k + 1))) 162 (0,0)) (show (ib,Obj.cells (inC (aD H (16 + 2 * k + 1))) 162 (0,0)) ∈ ([(ib,Obj.cells (inC (aD H (16 + 2 * k + 1))) 162 (0,0)),(hx,Obj.cells (bv H) 25 (0,0))] ++ (Own.o 79 (jv (rowP H bs k)) own ++ [])) from (List.mem_append_left _ (List.mem_of_getElem? (i := 0) rfl)))))) (fun _ _ => (.cons _ (.cons_cons _ (List.Sublist.trans (List.Sublist.refl _) (List.sublist_append_right _ _))))) ?_
      rintro ⟨⟩ -
      refine CfgA.pure [5,6,11] [dZ,dZ,(0,false,some (.agg (jc ((((((gb H (16 + 2 * k)).toNat) * 256) ||| ((gb H (16 + 2 * k + 1)).toNat) : Nat) : Int),bs.getD k zb)).toArray))] (some [1,2,7,8,10,29,30,36,47]) (l' := tF 12 3) (by kernel_rfl) (by kernel_rfl) (.cons _ (.cons_cons _ (List.Sublist.trans (List.Sublist.refl _) (List.sublist_append_right _ _)))) 3 rfl (Γ' := [(47,[],.agg (jc ((((((gb H (16 + 2 * k)).toNat) * 256) ||| ((gb H (16 + 2 * k + 1)).toNat) : Nat) : Int),bs.getD k zb)).toArray),(36,[],.slice (Own.a own) k (Own.c own)),(30,[],.int .i64 (k : Int)),(29,[],.int .i64 ((cntP H) : Int)),(10,[],.slice (Own.a own) k (Own.c own)),(8,[],.int .u64 ((numP H) : Int)),(7,[],.pointer (some ⟨ib,0,none⟩)),(2,[],.pointer (some ⟨hx,0,none⟩)),(1,[],.slice (some ⟨sb,off,none⟩) bs.length cap)]) (nd := (fun S => [((-9223372036854775808 : Int) ≤ ((gb H (16 + 2 * k + 1)).toNat : Int) ∧ ((gb H (16 + 2 * k + 1)).toNat : Int) ≤ 9223372036854775807),((0 ≤ (((gb H (16 + 2 * k)).toNat : Int) * 256) ∧ (((gb H (16 + 2 * k)).toNat : Int) * 256) ≤ 9223372036854775807) ∧ 0 ≤ ((gb H (16 + 2 * k + 1)).toNat : Int) ∧ ((gb H (16 + 2 * k + 1)).toNat : Int) ≤ 9223372036854775807),(∀ w1,S w1 → (Instr.build 79 #[(0,.int .i64 (((((gb H (16 + 2 * k)).toNat) * 256) ||| ((gb H (16 + 2 * k + 1)).toNat) : Nat) : Int)),(1,.agg (bv (bs.getD k zb)))]).run Tryz.prog w1 = .ok (.agg (jc ((((((gb H (16 + 2 * k)).toNat) * 256) ||| ((gb H (16 + 2 * k + 1)).toNat) : Nat) : Int),bs.getD k zb)).toArray) w1)])) (fun _ => by kernel_rfl) ⟨(by have hq1 := byteLt (gb H (16 + 2 * k)); have hq2 := byteLt (gb H (16 + 2 * k + 1)); omega),(by have hq1 := byteLt (gb H (16 + 2 * k)); have hq2 := byteLt (gb H (16 + 2 * k + 1)); omega),(fun w1 _ => build_wr (((((gb H (16 + 2 * k)).toNat) * 256) ||| ((gb H (16 + 2 * k + 1)).toNat) : Nat) : Int) (hB.at' k) w1),trivial⟩ ?_
      refine CfgA.eff 12 (o := _) rfl (by kernel_rfl) (fuel' := 2) rfl (by kernel_rfl) (by kernel_rfl) (Eff.buildAgg (vs := (jc ((((((gb H (16 + 2 * k)).toNat) * 256) ||| ((gb H (16 + 2 * k + 1)).toNat) : Nat) : Int),bs.getD k zb)).toArray) (n := 513) rfl (by kernel_rfl) Tryz.underlying28 (by kernel_rfl) (z := (.agg (jc wz).toArray)) (by kernel_rfl) (by rw [List.size_toArray]; exact jc_len (hB.at' k)) (by decide) (by decide)) (fun _ _ => (.cons _ (.cons _ (.cons_cons _ (List.Sublist.trans (List.Sublist.refl _) (List.sublist_append_right _ _)))))) ?_
      rintro x3 ⟨hx3,nx3⟩
      refine CfgA.eff 13 (o := _) rfl (by kernel_rfl) (fuel' := 1) rfl (by kernel_rfl) (by kernel_rfl) (Eff.appendF rfl 513 520 Tryz.underlying28 (by kernel_rfl) (z := (.agg (jc wz).toArray)) (by kernel_rfl) (by kernel_rfl) own (xs := (jv (rowP H bs k))) hok (by kernel_rfl) (b2 := x3) (off2 := 0) (m := 1) (c2 := 1) (by kernel_rfl) (jc ((((((gb H (16 + 2 * k)).toNat) * 256) ||| ((gb H (16 + 2 * k + 1)).toNat) : Nat) : Int),bs.getD k zb)) (jc_len (hB.at' k)) (jc_all _) [(x3,.cells ((jc ((((((gb H (16 + 2 * k)).toNat) * 256) ||| ((gb H (16 + 2 * k + 1)).toNat) : Nat) : Int),bs.getD k zb)).toArray) 79 (0,0)),(ib,.cells (inC (aD H (16 + 2 * k + 1 + 1))) 162 (0,0)),(hx,.cells (bv H) 25 (0,0))] [] (by rfl) (fun w1 h j v hj => wr_src h 0 rfl hj) (by omega) (by omega)) (fun _ _ => (.cons _ (.cons _ (.cons_cons _ (List.Sublist.trans (List.Sublist.refl _) (List.sublist_append_right _ _)))))) ?_
      rintro o11 ko11
      refine CfgA.pure [14] [] (some [1,2,7,8,10,29,30]) (l' := tF 15 0) (by kernel_rfl) (by kernel_rfl) (.cons _ (.cons _ (.cons_cons _ (List.Sublist.trans (List.Sublist.refl _) (List.sublist_append_right _ _))))) 0 rfl (Γ' := [(10,[],.slice (Own.a o11) ((k + 1)) (Own.c o11)),(30,[],.int .i64 (k : Int)),(29,[],.int .i64 ((cntP H) : Int)),(8,[],.int .u64 ((numP H) : Int)),(7,[],.pointer (some ⟨ib,0,none⟩)),(2,[],.pointer (some ⟨hx,0,none⟩)),(1,[],.slice (some ⟨sb,off,none⟩) bs.length cap)]) (nd := (fun _ => [])) (fun _ => by kernel_rfl) trivial ?_
      refine CfgA.done (by kernel_rfl) ?_
      refine Cfg.reg rfl [1,2,7,8,10,29,30] [] (Γ' := [(30,[],.int .i64 ((k : Int) + 1)),(10,[],.slice (Own.a o11) ((k + 1)) (Own.c o11)),(29,[],.int .i64 ((cntP H) : Int)),(8,[],.int .u64 ((numP H) : Int)),(7,[],.pointer (some ⟨ib,0,none⟩)),(2,[],.pointer (some ⟨hx,0,none⟩)),(1,[],.slice (some ⟨sb,off,none⟩) bs.length cap)]) (nd := (fun _ => [((-9223372036854775808 : Int) ≤ ((k : Int) + 1) ∧ ((k : Int) + 1) ≤ 9223372036854775807)])) (fun _ => by kernel_rfl) ⟨(by omega),trivial⟩ ?_
      have hrv : ((jv (rowP H bs k)) ++ (jc ((((((gb H (16 + 2 * k)).toNat) * 256) ||| ((gb H (16 + 2 * k + 1)).toNat) : Nat) : Int),bs.getD k zb))) = jv (rowP H bs (k + 1)) := by rw [rowP_succ,jv_app,jv_one,show (atP H k : Int) = _ from at_or H k]
      refine Cfg.setO (congrArg (fun (xq : Array Value) => (([(x3,.cells ((jc ((((((gb H (16 + 2 * k)).toNat) * 256) ||| ((gb H (16 + 2 * k + 1)).toNat) : Nat) : Int),bs.getD k zb)).toArray) 79 (0,0)),(ib,.cells xq 162 (0,0)),(hx,.cells (bv H) 25 (0,0))] ++ (Own.o 79 ((jv (rowP H bs k)) ++ (jc ((((((gb H (16 + 2 * k)).toNat) * 256) ||| ((gb H (16 + 2 * k + 1)).toNat) : Nat) : Int),bs.getD k zb))) o11 ++ [])) : List (Nat × Obj))) (show _ = (inC (aD H (16 + 2 * (k + 1)))) from rfl)) ?_
      refine Cfg.setO (congrArg (fun (xq : List Value) => (([(x3,.cells ((jc ((((((gb H (16 + 2 * k)).toNat) * 256) ||| ((gb H (16 + 2 * k + 1)).toNat) : Nat) : Int),bs.getD k zb)).toArray) 79 (0,0)),(ib,.cells (inC (aD H (16 + 2 * (k + 1)))) 162 (0,0)),(hx,.cells (bv H) 25 (0,0))] ++ (Own.o 79 xq o11 ++ [])) : List (Nat × Obj))) (show _ = (jv (rowP H bs (k + 1))) from hrv)) ?_
      refine Cfg.again rfl (k + 1,o11) ⟨by omega,hrv ▸ ko11⟩ (by show cntP H - (k + 1) < cntP H - k; omega) (Conv.mk (by kernel_rfl)) (.cons _ (.cons_cons _ (.cons_cons _ (List.Sublist.refl _))))
    ·have c3 : (¬ ((k : Int) < ((cntP H) : Int))) := (of_decide_eq_false c3r)
     obtain rfl : k = cntP H := by omega
     have hokc : OwnOk own 513 (rowP H bs (cntP H)).length (jv (rowP H bs (cntP H))) := by rw [rowP_len]; exact hok
     refine Conv.cfg (Γ' := [(10,[],.slice (Own.a own) ((cntP H)) (Own.c own)),(8,[],.int .u64 ((numP H) : Int)),(2,[],.pointer (some ⟨hx,0,none⟩))]) (Conv.mk (by kernel_rfl)) ?_
     refine Cfg.begA rfl (by kernel_rfl) [(hx,.cells (bv H) 25 (0,0))] ?_
     refine CfgA.pure [0,1,3] [dZ,dZ,(0,false,some (.agg (bv H)))] (some [8,10,51,52,54]) (l' := #[true,true,false,true,false]) (by kernel_rfl) (by kernel_rfl) (.cons _ (.cons_cons _ (List.Sublist.trans (List.Sublist.refl _) (List.sublist_append_right _ _)))) 2 rfl (Γ' := [(54,[],.agg (bv H)),(52,[],.slice (Own.a own) ((cntP H)) (Own.c own)),(51,[],.int .u64 ((numP H) : Int)),(10,[],.slice (Own.a own) ((cntP H)) (Own.c own)),(8,[],.int .u64 ((numP H) : Int))]) (nd := (fun S => [(∀ w1,S w1 → (loadVar 25 ⟨hx,0,none⟩).run Tryz.prog w1 = .ok (.agg (bv H)) w1)])) (fun _ => by kernel_rfl) ⟨(fun w1 h => h.oload 0 rfl Tryz.underlying25 rfl (n := 512) (by kernel_rfl) ((bv_size _).trans hH)),trivial⟩ ?_
     refine CfgA.eff 2 (o := _) rfl (by kernel_rfl) (fuel' := 1) rfl (by kernel_rfl) (by kernel_rfl) (Eff.callA (vs := [.int .u64 ((numP H) : Int),.slice (Own.a own) ((cntP H)) (Own.c own)]) (.agg (bv (headF (numP H) (rowP H bs (cntP H))))) rfl Tryz.func7 rfl rfl (by kernel_rfl) (fun w1 h => by have h9 := jHead (numP H) (Own.a own) (Own.c own) (rowP H bs (cntP H)) (Own.o 79 (jv (rowP H bs (cntP H))) own) w1 hnl (inW_own hokc) (rowP_w hB H _) (by rw [rowP_len]; unfold maxLen; omega) (own_le hokc) (fun e he => (List.mem_cons.1 he).elim (fun h1 => h1 ▸ h.ro _ (List.mem_cons_self ..)) (fun h1 => h.own e (show e ∈ ([(ib,Obj.cells (inC (aD H (16 + 2 * cntP H))) 162 (0,0)),(hx,Obj.cells (bv H) 25 (0,0))] ++ (Own.o 79 (jv (rowP H bs (cntP H))) own ++ [])) from (List.mem_append_right _ (List.mem_append_left _ h1))))) hK; rw [rowP_len] at h9; exact h9)) (fun _ _ => (.cons _ (.cons_cons _ (List.Sublist.trans (List.Sublist.refl _) (List.sublist_append_right _ _))))) ?_
     rintro ⟨⟩ -
     refine CfgA.pure [4] [(0,false,some (.bool ((headF (numP H) (rowP H bs (cntP H))) == H)))] (some [8,10,55]) (l' := #[true,true,true,true,true]) (by kernel_rfl) (by kernel_rfl) (.cons _ (.cons_cons _ (List.Sublist.trans (List.Sublist.refl _) (List.sublist_append_right _ _)))) 0 rfl (Γ' := [(55,[],.bool (!((headF (numP H) (rowP H bs (cntP H))) == H))),(10,[],.slice (Own.a own) ((cntP H)) (Own.c own)),(8,[],.int .u64 ((numP H) : Int))]) (nd := (fun S => [(∀ w1,S w1 → (Op.equal 25 (.agg (bv (headF (numP H) (rowP H bs (cntP H))))) (.agg (bv H))).run Tryz.prog w1 = .ok ((headF (numP H) (rowP H bs (cntP H))) == H) w1)])) (fun _ => by kernel_rfl) ⟨(fun _ _ => equal_bv Tryz.underlying25 Tryz.underlying5 (by kernel_rfl) (headF_len _ _) hH),trivial⟩ ?_
     refine CfgA.done (by kernel_rfl) ?_
     refine Cfg.cond rfl (b := (!((headF (numP H) (rowP H bs (cntP H))) == H))) (by kernel_rfl) (fun c4r => ?_) (fun c4r => ?_)
     ·have c4 : (((headF (numP H) (rowP H bs (cntP H))) == H) = false) := (notT c4r)
      refine Cfg.reg rfl [4,5,6] [] (Γ' := [(6,[],.bool false),(5,[],.slice none 0 0),(4,[],.int .u64 0)]) (nd := (fun _ => [])) (fun _ => by kernel_rfl) trivial ?_
      refine Cfg.ret rfl (rs := [.tmp 4,.tmp 5,.tmp 6]) rfl [.int .u64 0,.slice none 0 0,.bool false] ⟨by kernel_rfl,by kernel_rfl,by kernel_rfl,trivial⟩ (fun w1 hp => ?_)
      exact par_ret0 (par_no3 (by simpa using c4r)) hp
     ·have c4 : (((headF (numP H) (rowP H bs (cntP H))) == H) = true) := (notF c4r)
      refine Cfg.reg rfl [4,5,6] [] (Γ' := [(6,[],.bool true),(5,[],.slice (Own.a own) ((cntP H)) (Own.c own)),(4,[],.int .u64 ((numP H) : Int))]) (nd := (fun _ => [])) (fun _ => by kernel_rfl) trivial ?_
      refine Cfg.ret rfl (rs := [.tmp 4,.tmp 5,.tmp 6]) rfl [.int .u64 ((numP H) : Int),.slice (Own.a own) ((cntP H)) (Own.c own),.bool true] ⟨by kernel_rfl,by kernel_rfl,by kernel_rfl,trivial⟩ (fun w1 hp => ?_)
      have hG : parG H bs = true := par_ok hmk (by omega) (by simpa using c4r)
      exact par_ret own hG hokc hp rfl
end Go.Proofs.YtohjpggjgomgoaaGreatDoor
namespace Go.Proofs.YtohjpggjgomgoaaGreatDoor
open K
set_option linter.unusedVariables false
set_option maxRecDepth 100000 in
set_option maxHeartbeats 4000000 in
theorem refParse4 (H : List UInt8) (la : Option Addr) (cap : Nat) (bs : List (List UInt8)) (Rl : List (Nat × Obj)) (w : World) (hH : H.length = 512) (hI : InB Rl la bs) (hB : W5 bs) (hn : bs.length ≤ maxLen) (hR : Has w Rl) :
  Calls Tryz.prog 10 #[.agg (bv H),.slice la bs.length cap] w fun e w' => ∃ o : K.Own,OwnOk o 513 (parL H bs).length (jv (parL H bs)) ∧ e = .returned (.tuple #[.int .u64 (parN H bs : Int),.slice (Own.a o) (parL H bs).length (Own.c o),.bool (parG H bs)]) ∧ ∃ R1,HP w [] R1 (Own.o 36 (jv (parL H bs)) o) w' := by
 unfold maxLen at hn
 have hIq : InB Rl la bs := hI
 have hnl := numP_lt H
 have hcl := cnt_lt H
 refine enter (vs := [.agg (bv H),.slice la bs.length cap]) [] Rl [] Tryz.func10 rfl (by kernel_rfl) (HP.ofHas hR) ?_
 refine Cfg.begL rfl ?_
 refine CfgL.eff (o := _) rfl (by kernel_rfl) (by kernel_rfl) (Eff.box (v := .agg (bv H)) rfl (by kernel_rfl)) ?_
 rintro hx ⟨hhx,nhx⟩
 refine CfgL.pure 3 [] (some [1,2]) (Γ' := [(2,[],.pointer (some ⟨hx,0,none⟩)),(1,[],.slice la bs.length cap)]) (nd := (fun _ => [])) (by kernel_rfl) (fun _ => by kernel_rfl) trivial ?_
 refine CfgL.done rfl ?_
 refine Cfg.begL rfl ?_
 refine CfgL.pure 1 [(0,false,some (.agg (bv H)))] none (Γ' := [(12,[],.agg (bv H)),(2,[],.pointer (some ⟨hx,0,none⟩)),(1,[],.slice la bs.length cap)]) (nd := (fun S => [(∀ w1,S w1 → (loadVar 25 ⟨hx,0,none⟩).run Tryz.prog w1 = .ok (.agg (bv H)) w1)])) (by kernel_rfl) (fun _ => by kernel_rfl) ⟨(fun w1 h => h.oload 0 rfl Tryz.underlying25 rfl (n := 512) (by kernel_rfl) ((bv_size _).trans hH)),trivial⟩ ?_
 refine CfgL.eff (o := _) rfl (by kernel_rfl) (by kernel_rfl) (Eff.callA (vs := [.agg (bv H)]) (.string (tx H)) rfl Tryz.func38 rfl rfl (by kernel_rfl) (fun w1 _ => rText4 H w1 hH)) ?_
 rintro ⟨⟩ -
 refine CfgL.pure 1 [(0,false,some (.agg (inR (aD H 0))))] (some [1,2,14]) (Γ' := [(14,[],.agg (inR (aD H 0))),(2,[],.pointer (some ⟨hx,0,none⟩)),(1,[],.slice la bs.length cap)]) (nd := (fun S => [(∀ w1,S w1 → (Instr.build 108 #[(0,.string (tx H))]).run Tryz.prog w1 = .ok (.agg (inR (aD H 0))) w1)])) (by kernel_rfl) (fun _ => by kernel_rfl) ⟨(fun _ _ => by kernel_rfl),trivial⟩ ?_
 refine CfgL.eff (o := _) rfl (by kernel_rfl) (by kernel_rfl) (Eff.box (v := .agg (inR (aD H 0))) rfl (by kernel_rfl)) ?_
 rintro ib ⟨hib,nib⟩
 refine CfgL.pure 1 [] (some [1,2,7]) (Γ' := [(7,[],.pointer (some ⟨ib,0,none⟩)),(2,[],.pointer (some ⟨hx,0,none⟩)),(1,[],.slice la bs.length cap)]) (nd := (fun _ => [])) (by kernel_rfl) (fun _ => by kernel_rfl) trivial ?_
 refine CfgL.done rfl ?_
 refine Cfg.begL rfl ?_
 refine CfgL.pure 1 [] none (Γ' := [(16,[],.pointer (some ⟨ib,0,none⟩)),(7,[],.pointer (some ⟨ib,0,none⟩)),(2,[],.pointer (some ⟨hx,0,none⟩)),(1,[],.slice la bs.length cap)]) (nd := (fun _ => [])) (by kernel_rfl) (fun _ => by kernel_rfl) trivial ?_
 refine CfgL.eff (o := _) rfl (by kernel_rfl) (by kernel_rfl) (Eff.callM (vs := [.pointer (some ⟨ib,0,none⟩),.int .i64 4]) (.string (tx (H.take 4))) 0 (b := ib) (ob := Obj.cells (inR (aD H 0)) 108 (0,0)) (Obj.cells (inR (aD H 4)) 108 (0,0)) rfl Tryz.func47 rfl rfl (by kernel_rfl) (by kernel_rfl) (fun w1 h => jRawR ib H w1 hH (h.own (ib,Obj.cells (inR (aD H 0)) 108 (0,0)) (show (ib,Obj.cells (inR (aD H 0)) 108 (0,0)) ∈ [(ib,Obj.cells (inR (aD H 0)) 108 (0,0)),(hx,Obj.cells (bv H) 25 (0,0))] from (List.mem_of_getElem? (i := 0) rfl))))) ?_
 rintro ⟨⟩ -
 refine CfgL.pure 1 [] (some [1,2,7,18]) (Γ' := [(18,[],.bool (!((tx (H.take 4)).toList == (⟨#[80,82,84,82]⟩ : ByteArray).toList))),(7,[],.pointer (some ⟨ib,0,none⟩)),(2,[],.pointer (some ⟨hx,0,none⟩)),(1,[],.slice la bs.length cap)]) (nd := (fun _ => [])) (by kernel_rfl) (fun _ => by kernel_rfl) trivial ?_
 refine CfgL.done rfl ?_
 refine Cfg.cond rfl (b := (!((tx (H.take 4)).toList == (⟨#[80,82,84,82]⟩ : ByteArray).toList))) (by kernel_rfl) (fun c1r => ?_) (fun c1r => ?_)
 ·have c1 : (((tx (H.take 4)).toList == (⟨#[80,82,84,82]⟩ : ByteArray).toList) = false) := (notT c1r)
  have hmk : ¬ H.take 4 = mkL := by have h0 := c1r; rw [mark_eq] at h0; simpa using h0
  refine Cfg.reg rfl [4,5,6] [] (Γ' := [(6,[],.bool false),(5,[],.slice none 0 0),(4,[],.int .u64 0)]) (nd := (fun _ => [])) (fun _ => by kernel_rfl) trivial ?_
  refine Cfg.ret rfl (rs := [.tmp 4,.tmp 5,.tmp 6]) rfl [.int .u64 0,.slice none 0 0,.bool false] ⟨by kernel_rfl,by kernel_rfl,by kernel_rfl,trivial⟩ (fun w1 hp => ?_)
  exact par_ret0 (par_no1 hmk) hp
 ·have c1 : (((tx (H.take 4)).toList == (⟨#[80,82,84,82]⟩ : ByteArray).toList) = true) := (notF c1r)
  have hmk : H.take 4 = mkL := by have h0 := c1r; rw [mark_eq] at h0; simpa using h0
  refine Cfg.begL rfl ?_
  refine CfgL.pure 1 [] (some [1,2,7,19]) (Γ' := [(19,[],.pointer (some ⟨ib,0,none⟩)),(7,[],.pointer (some ⟨ib,0,none⟩)),(2,[],.pointer (some ⟨hx,0,none⟩)),(1,[],.slice la bs.length cap)]) (nd := (fun _ => [])) (by kernel_rfl) (fun _ => by kernel_rfl) trivial ?_
  refine CfgL.eff (o := _) rfl (by kernel_rfl) (by kernel_rfl) (Eff.callM (vs := [.pointer (some ⟨ib,0,none⟩),.int .i64 8]) (.int .u64 ((numP H) : Int)) 0 (b := ib) (ob := Obj.cells (inR (aD H 4)) 108 (0,0)) (Obj.cells (inR (aD H 12)) 108 (0,0)) rfl Tryz.func48 rfl rfl (by kernel_rfl) (by kernel_rfl) (fun w1 h => jNum ib H 4 8 w1 (by omega) (by decide) (h.own (ib,Obj.cells (inR (aD H 4)) 108 (0,0)) (show (ib,Obj.cells (inR (aD H 4)) 108 (0,0)) ∈ [(ib,Obj.cells (inR (aD H 4)) 108 (0,0)),(hx,Obj.cells (bv H) 25 (0,0))] from (List.mem_of_getElem? (i := 0) rfl))))) ?_
  rintro ⟨⟩ -
  refine CfgL.pure 1 [] (some [1,2,7,8]) (Γ' := [(8,[],.int .u64 ((numP H) : Int)),(7,[],.pointer (some ⟨ib,0,none⟩)),(2,[],.pointer (some ⟨hx,0,none⟩)),(1,[],.slice la bs.length cap)]) (nd := (fun _ => [])) (by kernel_rfl) (fun _ => by kernel_rfl) trivial ?_
  refine CfgL.done rfl ?_
  refine Cfg.begL rfl ?_
  refine CfgL.pure 1 [] none (Γ' := [(21,[],.pointer (some ⟨ib,0,none⟩)),(8,[],.int .u64 ((numP H) : Int)),(7,[],.pointer (some ⟨ib,0,none⟩)),(2,[],.pointer (some ⟨hx,0,none⟩)),(1,[],.slice la bs.length cap)]) (nd := (fun _ => [])) (by kernel_rfl) (fun _ => by kernel_rfl) trivial ?_
  refine CfgL.eff (o := _) rfl (by kernel_rfl) (by kernel_rfl) (Eff.callM (vs := [.pointer (some ⟨ib,0,none⟩),.int .i64 4]) (.int .u64 ((cntP H) : Int)) 0 (b := ib) (ob := Obj.cells (inR (aD H 12)) 108 (0,0)) (Obj.cells (inR (aD H 16)) 108 (0,0)) rfl Tryz.func48 rfl rfl (by kernel_rfl) (by kernel_rfl) (fun w1 h => jNum ib H 12 4 w1 (by omega) (by decide) (h.own (ib,Obj.cells (inR (aD H 12)) 108 (0,0)) (show (ib,Obj.cells (inR (aD H 12)) 108 (0,0)) ∈ [(ib,Obj.cells (inR (aD H 12)) 108 (0,0)),(hx,Obj.cells (bv H) 25 (0,0))] from (List.mem_of_getElem? (i := 0) rfl))))) ?_
  rintro ⟨⟩ -
  refine CfgL.pure 1 [] (some [1,2,7,8,9]) (Γ' := [(9,[],.int .u64 ((cntP H) : Int)),(8,[],.int .u64 ((numP H) : Int)),(7,[],.pointer (some ⟨ib,0,none⟩)),(2,[],.pointer (some ⟨hx,0,none⟩)),(1,[],.slice la bs.length cap)]) (nd := (fun _ => [])) (by kernel_rfl) (fun _ => by kernel_rfl) trivial ?_
  refine CfgL.done rfl ?_
  refine Cfg.reg rfl [1,2,7,8,9,31] [] (Γ' := [(31,[],.bool ((decide (((cntP H) : Int) > (96 : Int))) || (decide (((cntP H) : Int) > ((bs.length : Int) % 18446744073709551616))))),(9,[],.int .u64 ((cntP H) : Int)),(8,[],.int .u64 ((numP H) : Int)),(7,[],.pointer (some ⟨ib,0,none⟩)),(2,[],.pointer (some ⟨hx,0,none⟩)),(1,[],.slice la bs.length cap)]) (nd := (fun _ => [])) (fun _ => by kernel_rfl) trivial ?_
  refine Cfg.cond rfl (b := ((decide (((cntP H) : Int) > (96 : Int))) || (decide (((cntP H) : Int) > ((bs.length : Int) % 18446744073709551616))))) (by kernel_rfl) (fun c2r => ?_) (fun c2r => ?_)
  ·have c2 : ((((cntP H) : Int) > (96 : Int)) ∨ (((cntP H) : Int) > ((bs.length : Int) % 18446744073709551616))) := ((orT c2r).elim (fun h => Or.inl (of_decide_eq_true h)) (fun h => Or.inr (of_decide_eq_true h)))
   refine Cfg.reg rfl [4,5,6] [] (Γ' := [(6,[],.bool false),(5,[],.slice none 0 0),(4,[],.int .u64 0)]) (nd := (fun _ => [])) (fun _ => by kernel_rfl) trivial ?_
   refine Cfg.ret rfl (rs := [.tmp 4,.tmp 5,.tmp 6]) rfl [.int .u64 0,.slice none 0 0,.bool false] ⟨by kernel_rfl,by kernel_rfl,by kernel_rfl,trivial⟩ (fun w1 hp => ?_)
   exact par_ret0 (par_no2 (by omega)) hp
  ·have c2 : ((¬ (((cntP H) : Int) > (96 : Int))) ∧ (¬ (((cntP H) : Int) > ((bs.length : Int) % 18446744073709551616)))) := ⟨(of_decide_eq_false (orF1 c2r)),(of_decide_eq_false (orF2 c2r))⟩
   refine Cfg.reg rfl [1,2,7,8,9,10] [] (Γ' := [(10,[],.slice none 0 0),(9,[],.int .u64 ((cntP H) : Int)),(8,[],.int .u64 ((numP H) : Int)),(7,[],.pointer (some ⟨ib,0,none⟩)),(2,[],.pointer (some ⟨hx,0,none⟩)),(1,[],.slice la bs.length cap)]) (nd := (fun _ => [])) (fun _ => by kernel_rfl) trivial ?_
   refine Cfg.reg rfl [1,2,7,8,9,10,11] [] (Γ' := [(11,[],.int .i64 0),(10,[],.slice none 0 0),(9,[],.int .u64 ((cntP H) : Int)),(8,[],.int .u64 ((numP H) : Int)),(7,[],.pointer (some ⟨ib,0,none⟩)),(2,[],.pointer (some ⟨hx,0,none⟩)),(1,[],.slice la bs.length cap)]) (nd := (fun _ => [])) (fun _ => by kernel_rfl) trivial ?_
   refine Cfg.setO (congrArg (fun (xq : Array Value) => ([(ib,.cells xq 108 (0,0)),(hx,.cells (bv H) 25 (0,0))] : List (Nat × Obj))) (show _ = (inR (aD H (16 + 2 * 0))) from rfl)) ?_
   refine Cfg.loop rfl (ι := Nat × K.Own) (fun (xz : Nat × K.Own) => match xz with | (k,own) => [(11,[],.int .i64 (k : Int)),(10,[],.slice (Own.a own) k (Own.c own)),(9,[],.int .u64 ((cntP H) : Int)),(8,[],.int .u64 ((numP H) : Int)),(7,[],.pointer (some ⟨ib,0,none⟩)),(2,[],.pointer (some ⟨hx,0,none⟩)),(1,[],.slice la bs.length cap)]) (fun (xz : Nat × K.Own) => match xz with | (k,own) => ([(ib,.cells (inR (aD H (16 + 2 * k))) 108 (0,0)),(hx,.cells (bv H) 25 (0,0))] ++ (Own.o 36 (jv (rowP H bs k)) own ++ []))) (fun (xz : Nat × K.Own) => match xz with | (k,own) => (k ≤ cntP H) ∧ (OwnOk own 513 k (jv (rowP H bs k)))) (fun (xz : Nat × K.Own) => match xz with | (k,own) => cntP H - k) (0,none) ?_ (Conv.mk (by kernel_rfl)) (.cons_cons _ (.cons_cons _ (List.Sublist.refl _))) ?_
   ·exact ⟨Nat.zero_le _,OwnOk.none _⟩
   ·rintro ⟨k,own⟩ ⟨hk,hok⟩
    refine Cfg.reg rfl [1,2,7,8,9,10,11,35] [] (Γ' := [(35,[],.bool (decide ((k : Int) < ((cntP H) : Int)))),(11,[],.int .i64 (k : Int)),(10,[],.slice (Own.a own) k (Own.c own)),(9,[],.int .u64 ((cntP H) : Int)),(8,[],.int .u64 ((numP H) : Int)),(7,[],.pointer (some ⟨ib,0,none⟩)),(2,[],.pointer (some ⟨hx,0,none⟩)),(1,[],.slice la bs.length cap)]) (nd := (fun _ => [((-9223372036854775808 : Int) ≤ ((cntP H) : Int) ∧ ((cntP H) : Int) ≤ 9223372036854775807)])) (fun _ => by kernel_rfl) ⟨(by omega),trivial⟩ ?_
    refine Cfg.cond rfl (b := (decide ((k : Int) < ((cntP H) : Int)))) (by kernel_rfl) (fun c3r => ?_) (fun c3r => ?_)
    ·have c3 : ((k : Int) < ((cntP H) : Int)) := (of_decide_eq_true c3r)
     obtain ⟨sb,off,cs,te,fre,rfl,hmem,hcs⟩ := hIq (by omega)
     refine Conv.cfg (Γ' := [(35,[],.bool (decide ((k : Int) < ((cntP H) : Int)))),(11,[],.int .i64 (k : Int)),(10,[],.slice (Own.a own) k (Own.c own)),(9,[],.int .u64 ((cntP H) : Int)),(8,[],.int .u64 ((numP H) : Int)),(7,[],.pointer (some ⟨ib,0,none⟩)),(2,[],.pointer (some ⟨hx,0,none⟩)),(1,[],.slice (some ⟨sb,off,none⟩) bs.length cap)]) (Conv.mk (by kernel_rfl)) ?_
     refine Cfg.begA rfl (by kernel_rfl) [(hx,.cells (bv H) 25 (0,0))] ?_
     refine CfgA.pure [0,1,4,5,6] [] (some [1,2,7,8,9,10,11,38,39,44]) (l' := #[true,true,false,false,true,true,true,false,false,false,false,false]) (by kernel_rfl) (by kernel_rfl) (.cons _ (.cons_cons _ (List.Sublist.trans (List.Sublist.refl _) (List.sublist_append_right _ _)))) 7 rfl (Γ' := [(44,[],.pointer (some ⟨sb,(addO off (k * 512)),none⟩)),(39,[],.pointer (some ⟨ib,0,none⟩)),(38,[],.slice (Own.a own) k (Own.c own)),(11,[],.int .i64 (k : Int)),(10,[],.slice (Own.a own) k (Own.c own)),(9,[],.int .u64 ((cntP H) : Int)),(8,[],.int .u64 ((numP H) : Int)),(7,[],.pointer (some ⟨ib,0,none⟩)),(2,[],.pointer (some ⟨hx,0,none⟩)),(1,[],.slice (some ⟨sb,off,none⟩) bs.length cap)]) (nd := (fun _ => [(0 ≤ (k : Int) ∧ (k : Int) < (bs.length : Int))])) (fun _ => by kernel_rfl) ⟨(by omega),trivial⟩ ?_
     refine CfgA.two 2 7 (by kernel_rfl) (fuel' := 6) rfl ?_ ?_
     ·
      refine CfgI.eff (o := _) rfl (by kernel_rfl) (by kernel_rfl) (Eff.callM (vs := [.pointer (some ⟨ib,0,none⟩),.int .i64 2]) (.int .u64 ((atP H k) : Int)) 0 (b := ib) (ob := Obj.cells (inR (aD H (16 + 2 * k))) 108 (0,0)) (Obj.cells (inR (aD H (16 + 2 * k + 2))) 108 (0,0)) rfl Tryz.func48 rfl rfl (by kernel_rfl) (by kernel_rfl) (fun w1 h => (by have h9 := jNum ib H (16 + 2 * k) 2 w1 (by omega) (by decide) (h.own (ib,Obj.cells (inR (aD H (16 + 2 * k))) 108 (0,0)) (show (ib,Obj.cells (inR (aD H (16 + 2 * k))) 108 (0,0)) ∈ ([(ib,Obj.cells (inR (aD H (16 + 2 * k))) 108 (0,0)),(hx,Obj.cells (bv H) 25 (0,0))] ++ (Own.o 36 (jv (rowP H bs k)) own ++ [])) from (List.mem_append_left _ (List.mem_of_getElem? (i := 0) rfl)))); rw [val_two (by omega)] at h9; exact h9))) (fun _ _ => (.cons _ (.cons_cons _ (List.Sublist.trans (List.Sublist.refl _) (List.sublist_append_right _ _))))) ?_
      rintro ⟨⟩ -
      refine CfgA.pure [3] [] (some [1,2,7,8,9,10,11,38,41,44]) (l' := tF 7 5) (by kernel_rfl) (by kernel_rfl) (.cons _ (.cons_cons _ (List.Sublist.trans (List.Sublist.refl _) (List.sublist_append_right _ _)))) 5 rfl (Γ' := [(41,[],.int .i64 ((atP H k) : Int)),(44,[],.pointer (some ⟨sb,(addO off (k * 512)),none⟩)),(38,[],.slice (Own.a own) k (Own.c own)),(11,[],.int .i64 (k : Int)),(10,[],.slice (Own.a own) k (Own.c own)),(9,[],.int .u64 ((cntP H) : Int)),(8,[],.int .u64 ((numP H) : Int)),(7,[],.pointer (some ⟨ib,0,none⟩)),(2,[],.pointer (some ⟨hx,0,none⟩)),(1,[],.slice (some ⟨sb,off,none⟩) bs.length cap)]) (nd := (fun _ => [((-9223372036854775808 : Int) ≤ ((atP H k) : Int) ∧ ((atP H k) : Int) ≤ 9223372036854775807)])) (fun _ => by kernel_rfl) ⟨(by have hq1 := atP_lt H k; omega),trivial⟩ ?_
      refine CfgA.eff 7 (o := _) rfl (by kernel_rfl) (fuel' := 4) rfl (by kernel_rfl) (by kernel_rfl) (Eff.quiet (raw := false) (orc := some (.agg (bv (bs.getD k zb)))) (v := .agg (bv (bs.getD k zb))) (nd := (fun S => [(∀ w1,S w1 → (loadVar 25 ⟨sb,(addO off (k * 512)),none⟩).run Tryz.prog w1 = .ok (.agg (bv (bs.getD k zb))) w1)])) (fun _ => by kernel_rfl) ⟨(fun w1 h => load_bytes Tryz.underlying25 rfl (by kernel_rfl) (hB.at' k) (fun j hj => by rw [addO_eq]; exact (cell_cells (h.ro _ hmem)).trans (blk_cell hB hcs (by omega) hj))),trivial⟩ (by kernel_rfl)) (fun _ _ => (.cons _ (.cons_cons _ (List.Sublist.trans (List.Sublist.refl _) (List.sublist_append_right _ _))))) ?_
      rintro ⟨⟩ -
      refine CfgA.pure [8] [(0,false,some (.agg (jc (((atP H k) : Int),bs.getD k zb)).toArray))] (some [1,2,7,8,9,10,11,38,46]) (l' := tF 9 3) (by kernel_rfl) (by kernel_rfl) (.cons _ (.cons_cons _ (List.Sublist.trans (List.Sublist.refl _) (List.sublist_append_right _ _)))) 3 rfl (Γ' := [(46,[],.agg (jc (((atP H k) : Int),bs.getD k zb)).toArray),(38,[],.slice (Own.a own) k (Own.c own)),(11,[],.int .i64 (k : Int)),(10,[],.slice (Own.a own) k (Own.c own)),(9,[],.int .u64 ((cntP H) : Int)),(8,[],.int .u64 ((numP H) : Int)),(7,[],.pointer (some ⟨ib,0,none⟩)),(2,[],.pointer (some ⟨hx,0,none⟩)),(1,[],.slice (some ⟨sb,off,none⟩) bs.length cap)]) (nd := (fun S => [(∀ w1,S w1 → (Instr.build 36 #[(0,.int .i64 ((atP H k) : Int)),(1,.agg (bv (bs.getD k zb)))]).run Tryz.prog w1 = .ok (.agg (jc (((atP H k) : Int),bs.getD k zb)).toArray) w1)])) (fun _ => by kernel_rfl) ⟨(fun w1 _ => build_rw ((atP H k) : Int) (hB.at' k) w1),trivial⟩ ?_
      refine CfgA.eff 9 (o := _) rfl (by kernel_rfl) (fuel' := 2) rfl (by kernel_rfl) (by kernel_rfl) (Eff.buildAgg (vs := (jc (((atP H k) : Int),bs.getD k zb)).toArray) (n := 513) rfl (by kernel_rfl) Tryz.underlying29 (by kernel_rfl) (z := (.agg (jc wz).toArray)) (by kernel_rfl) (by rw [List.size_toArray]; exact jc_len (hB.at' k)) (by decide) (by decide)) (fun _ _ => (.cons _ (.cons _ (.cons_cons _ (List.Sublist.trans (List.Sublist.refl _) (List.sublist_append_right _ _)))))) ?_
      rintro x3 ⟨hx3,nx3⟩
      refine CfgA.eff 10 (o := _) rfl (by kernel_rfl) (fuel' := 1) rfl (by kernel_rfl) (by kernel_rfl) (Eff.appendF rfl 513 520 Tryz.underlying29 (by kernel_rfl) (z := (.agg (jc wz).toArray)) (by kernel_rfl) (by kernel_rfl) own (xs := (jv (rowP H bs k))) hok (by kernel_rfl) (b2 := x3) (off2 := 0) (m := 1) (c2 := 1) (by kernel_rfl) (jc (((atP H k) : Int),bs.getD k zb)) (jc_len (hB.at' k)) (jc_all _) [(x3,.cells ((jc (((atP H k) : Int),bs.getD k zb)).toArray) 36 (0,0)),(ib,.cells (inR (aD H (16 + 2 * k + 2))) 108 (0,0)),(hx,.cells (bv H) 25 (0,0))] [] (by rfl) (fun w1 h j v hj => wr_src h 0 rfl hj) (by omega) (by omega)) (fun _ _ => (.cons _ (.cons _ (.cons_cons _ (List.Sublist.trans (List.Sublist.refl _) (List.sublist_append_right _ _)))))) ?_
      rintro o6 ko6
      refine CfgA.pure [11] [] (some [1,2,7,8,9,10,11]) (l' := tF 12 0) (by kernel_rfl) (by kernel_rfl) (.cons _ (.cons _ (.cons_cons _ (List.Sublist.trans (List.Sublist.refl _) (List.sublist_append_right _ _))))) 0 rfl (Γ' := [(10,[],.slice (Own.a o6) ((k + 1)) (Own.c o6)),(11,[],.int .i64 (k : Int)),(9,[],.int .u64 ((cntP H) : Int)),(8,[],.int .u64 ((numP H) : Int)),(7,[],.pointer (some ⟨ib,0,none⟩)),(2,[],.pointer (some ⟨hx,0,none⟩)),(1,[],.slice (some ⟨sb,off,none⟩) bs.length cap)]) (nd := (fun _ => [])) (fun _ => by kernel_rfl) trivial ?_
      refine CfgA.done (by kernel_rfl) ?_
      refine Cfg.reg rfl [1,2,7,8,9,10,11] [] (Γ' := [(11,[],.int .i64 ((k : Int) + 1)),(10,[],.slice (Own.a o6) ((k + 1)) (Own.c o6)),(9,[],.int .u64 ((cntP H) : Int)),(8,[],.int .u64 ((numP H) : Int)),(7,[],.pointer (some ⟨ib,0,none⟩)),(2,[],.pointer (some ⟨hx,0,none⟩)),(1,[],.slice (some ⟨sb,off,none⟩) bs.length cap)]) (nd := (fun _ => [((-9223372036854775808 : Int) ≤ ((k : Int) + 1) ∧ ((k : Int) + 1) ≤ 9223372036854775807)])) (fun _ => by kernel_rfl) ⟨(by omega),trivial⟩ ?_
      have hrv : ((jv (rowP H bs k)) ++ (jc (((atP H k) : Int),bs.getD k zb))) = jv (rowP H bs (k + 1)) := by rw [rowP_succ,jv_app,jv_one,show (atP H k : Int) = _ from rfl]
      refine Cfg.setO (congrArg (fun (xq : Array Value) => (([(x3,.cells ((jc (((atP H k) : Int),bs.getD k zb)).toArray) 36 (0,0)),(ib,.cells xq 108 (0,0)),(hx,.cells (bv H) 25 (0,0))] ++ (Own.o 36 ((jv (rowP H bs k)) ++ (jc (((atP H k) : Int),bs.getD k zb))) o6 ++ [])) : List (Nat × Obj))) (show _ = (inR (aD H (16 + 2 * (k + 1)))) from rfl)) ?_
      refine Cfg.setO (congrArg (fun (xq : List Value) => (([(x3,.cells ((jc (((atP H k) : Int),bs.getD k zb)).toArray) 36 (0,0)),(ib,.cells (inR (aD H (16 + 2 * (k + 1)))) 108 (0,0)),(hx,.cells (bv H) 25 (0,0))] ++ (Own.o 36 xq o6 ++ [])) : List (Nat × Obj))) (show _ = (jv (rowP H bs (k + 1))) from hrv)) ?_
      refine Cfg.again rfl (k + 1,o6) ⟨by omega,hrv ▸ ko6⟩ (by show cntP H - (k + 1) < cntP H - k; omega) (Conv.mk (by kernel_rfl)) (.cons _ (.cons_cons _ (.cons_cons _ (List.Sublist.refl _))))
     ·
      refine CfgI.eff (o := _) rfl (by kernel_rfl) (by kernel_rfl) (Eff.quiet (raw := false) (orc := some (.agg (bv (bs.getD k zb)))) (v := .agg (bv (bs.getD k zb))) (nd := (fun S => [(∀ w1,S w1 → (loadVar 25 ⟨sb,(addO off (k * 512)),none⟩).run Tryz.prog w1 = .ok (.agg (bv (bs.getD k zb))) w1)])) (fun _ => by kernel_rfl) ⟨(fun w1 h => load_bytes Tryz.underlying25 rfl (by kernel_rfl) (hB.at' k) (fun j hj => by rw [addO_eq]; exact (cell_cells (h.ro _ hmem)).trans (blk_cell hB hcs (by omega) hj))),trivial⟩ (by kernel_rfl)) (fun _ _ => (.cons _ (.cons_cons _ (List.Sublist.trans (List.Sublist.refl _) (List.sublist_append_right _ _))))) ?_
      rintro ⟨⟩ -
      refine CfgA.eff 2 (o := _) rfl (by kernel_rfl) (fuel' := 5) rfl (by kernel_rfl) (by kernel_rfl) (Eff.callM (vs := [.pointer (some ⟨ib,0,none⟩),.int .i64 2]) (.int .u64 ((atP H k) : Int)) 0 (b := ib) (ob := Obj.cells (inR (aD H (16 + 2 * k))) 108 (0,0)) (Obj.cells (inR (aD H (16 + 2 * k + 2))) 108 (0,0)) rfl Tryz.func48 rfl rfl (by kernel_rfl) (by kernel_rfl) (fun w1 h => (by have h9 := jNum ib H (16 + 2 * k) 2 w1 (by omega) (by decide) (h.own (ib,Obj.cells (inR (aD H (16 + 2 * k))) 108 (0,0)) (show (ib,Obj.cells (inR (aD H (16 + 2 * k))) 108 (0,0)) ∈ ([(ib,Obj.cells (inR (aD H (16 + 2 * k))) 108 (0,0)),(hx,Obj.cells (bv H) 25 (0,0))] ++ (Own.o 36 (jv (rowP H bs k)) own ++ [])) from (List.mem_append_left _ (List.mem_of_getElem? (i := 0) rfl)))); rw [val_two (by omega)] at h9; exact h9))) (fun _ _ => (.cons _ (.cons_cons _ (List.Sublist.trans (List.Sublist.refl _) (List.sublist_append_right _ _))))) ?_
      rintro ⟨⟩ -
      refine CfgA.pure [3,8] [dZ,(0,false,some (.agg (jc (((atP H k) : Int),bs.getD k zb)).toArray))] (some [1,2,7,8,9,10,11,38,46]) (l' := tF 9 3) (by kernel_rfl) (by kernel_rfl) (.cons _ (.cons_cons _ (List.Sublist.trans (List.Sublist.refl _) (List.sublist_append_right _ _)))) 3 rfl (Γ' := [(46,[],.agg (jc (((atP H k) : Int),bs.getD k zb)).toArray),(38,[],.slice (Own.a own) k (Own.c own)),(11,[],.int .i64 (k : Int)),(10,[],.slice (Own.a own) k (Own.c own)),(9,[],.int .u64 ((cntP H) : Int)),(8,[],.int .u64 ((numP H) : Int)),(7,[],.pointer (some ⟨ib,0,none⟩)),(2,[],.pointer (some ⟨hx,0,none⟩)),(1,[],.slice (some ⟨sb,off,none⟩) bs.length cap)]) (nd := (fun S => [((-9223372036854775808 : Int) ≤ ((atP H k) : Int) ∧ ((atP H k) : Int) ≤ 9223372036854775807),(∀ w1,S w1 → (Instr.build 36 #[(0,.int .i64 ((atP H k) : Int)),(1,.agg (bv (bs.getD k zb)))]).run Tryz.prog w1 = .ok (.agg (jc (((atP H k) : Int),bs.getD k zb)).toArray) w1)])) (fun _ => by kernel_rfl) ⟨(by have hq1 := atP_lt H k; omega),(fun w1 _ => build_rw ((atP H k) : Int) (hB.at' k) w1),trivial⟩ ?_
      refine CfgA.eff 9 (o := _) rfl (by kernel_rfl) (fuel' := 2) rfl (by kernel_rfl) (by kernel_rfl) (Eff.buildAgg (vs := (jc (((atP H k) : Int),bs.getD k zb)).toArray) (n := 513) rfl (by kernel_rfl) Tryz.underlying29 (by kernel_rfl) (z := (.agg (jc wz).toArray)) (by kernel_rfl) (by rw [List.size_toArray]; exact jc_len (hB.at' k)) (by decide) (by decide)) (fun _ _ => (.cons _ (.cons _ (.cons_cons _ (List.Sublist.trans (List.Sublist.refl _) (List.sublist_append_right _ _)))))) ?_
      rintro x4 ⟨hx4,nx4⟩
      refine CfgA.eff 10 (o := _) rfl (by kernel_rfl) (fuel' := 1) rfl (by kernel_rfl) (by kernel_rfl) (Eff.appendF rfl 513 520 Tryz.underlying29 (by kernel_rfl) (z := (.agg (jc wz).toArray)) (by kernel_rfl) (by kernel_rfl) own (xs := (jv (rowP H bs k))) hok (by kernel_rfl) (b2 := x4) (off2 := 0) (m := 1) (c2 := 1) (by kernel_rfl) (jc (((atP H k) : Int),bs.getD k zb)) (jc_len (hB.at' k)) (jc_all _) [(x4,.cells ((jc (((atP H k) : Int),bs.getD k zb)).toArray) 36 (0,0)),(ib,.cells (inR (aD H (16 + 2 * k + 2))) 108 (0,0)),(hx,.cells (bv H) 25 (0,0))] [] (by rfl) (fun w1 h j v hj => wr_src h 0 rfl hj) (by omega) (by omega)) (fun _ _ => (.cons _ (.cons _ (.cons_cons _ (List.Sublist.trans (List.Sublist.refl _) (List.sublist_append_right _ _)))))) ?_
      rintro o8 ko8
      refine CfgA.pure [11] [] (some [1,2,7,8,9,10,11]) (l' := tF 12 0) (by kernel_rfl) (by kernel_rfl) (.cons _ (.cons _ (.cons_cons _ (List.Sublist.trans (List.Sublist.refl _) (List.sublist_append_right _ _))))) 0 rfl (Γ' := [(10,[],.slice (Own.a o8) ((k + 1)) (Own.c o8)),(11,[],.int .i64 (k : Int)),(9,[],.int .u64 ((cntP H) : Int)),(8,[],.int .u64 ((numP H) : Int)),(7,[],.pointer (some ⟨ib,0,none⟩)),(2,[],.pointer (some ⟨hx,0,none⟩)),(1,[],.slice (some ⟨sb,off,none⟩) bs.length cap)]) (nd := (fun _ => [])) (fun _ => by kernel_rfl) trivial ?_
      refine CfgA.done (by kernel_rfl) ?_
      refine Cfg.reg rfl [1,2,7,8,9,10,11] [] (Γ' := [(11,[],.int .i64 ((k : Int) + 1)),(10,[],.slice (Own.a o8) ((k + 1)) (Own.c o8)),(9,[],.int .u64 ((cntP H) : Int)),(8,[],.int .u64 ((numP H) : Int)),(7,[],.pointer (some ⟨ib,0,none⟩)),(2,[],.pointer (some ⟨hx,0,none⟩)),(1,[],.slice (some ⟨sb,off,none⟩) bs.length cap)]) (nd := (fun _ => [((-9223372036854775808 : Int) ≤ ((k : Int) + 1) ∧ ((k : Int) + 1) ≤ 9223372036854775807)])) (fun _ => by kernel_rfl) ⟨(by omega),trivial⟩ ?_
      have hrv : ((jv (rowP H bs k)) ++ (jc (((atP H k) : Int),bs.getD k zb))) = jv (rowP H bs (k + 1)) := by rw [rowP_succ,jv_app,jv_one,show (atP H k : Int) = _ from rfl]
      refine Cfg.setO (congrArg (fun (xq : Array Value) => (([(x4,.cells ((jc (((atP H k) : Int),bs.getD k zb)).toArray) 36 (0,0)),(ib,.cells xq 108 (0,0)),(hx,.cells (bv H) 25 (0,0))] ++ (Own.o 36 ((jv (rowP H bs k)) ++ (jc (((atP H k) : Int),bs.getD k zb))) o8 ++ [])) : List (Nat × Obj))) (show _ = (inR (aD H (16 + 2 * (k + 1)))) from rfl)) ?_
      refine Cfg.setO (congrArg (fun (xq : List Value) => (([(x4,.cells ((jc (((atP H k) : Int),bs.getD k zb)).toArray) 36 (0,0)),(ib,.cells (inR (aD H (16 + 2 * (k + 1)))) 108 (0,0)),(hx,.cells (bv H) 25 (0,0))] ++ (Own.o 36 xq o8 ++ [])) : List (Nat × Obj))) (show _ = (jv (rowP H bs (k + 1))) from hrv)) ?_
      refine Cfg.again rfl (k + 1,o8) ⟨by omega,hrv ▸ ko8⟩ (by show cntP H - (k + 1) < cntP H - k; omega) (Conv.mk (by kernel_rfl)) (.cons _ (.cons_cons _ (.cons_cons _ (List.Sublist.refl _))))
    ·have c3 : (¬ ((k : Int) < ((cntP H) : Int))) := (of_decide_eq_false c3r)
     obtain rfl : k = cntP H := by omega
     have hokc : OwnOk own 513 (rowP H bs (cntP H)).length (jv (rowP H bs (cntP H))) := by rw [rowP_len]; exact hok
     refine Conv.cfg (Γ' := [(10,[],.slice (Own.a own) ((cntP H)) (Own.c own)),(8,[],.int .u64 ((numP H) : Int)),(2,[],.pointer (some ⟨hx,0,none⟩))]) (Conv.mk (by kernel_rfl)) ?_
     refine Cfg.begA rfl (by kernel_rfl) [(hx,.cells (bv H) 25 (0,0))] ?_
     refine CfgA.pure [0,1,3] [dZ,dZ,(0,false,some (.agg (bv H)))] (some [8,10,49,50,52]) (l' := #[true,true,false,true,false]) (by kernel_rfl) (by kernel_rfl) (.cons _ (.cons_cons _ (List.Sublist.trans (List.Sublist.refl _) (List.sublist_append_right _ _)))) 2 rfl (Γ' := [(52,[],.agg (bv H)),(50,[],.slice (Own.a own) ((cntP H)) (Own.c own)),(49,[],.int .u64 ((numP H) : Int)),(10,[],.slice (Own.a own) ((cntP H)) (Own.c own)),(8,[],.int .u64 ((numP H) : Int))]) (nd := (fun S => [(∀ w1,S w1 → (loadVar 25 ⟨hx,0,none⟩).run Tryz.prog w1 = .ok (.agg (bv H)) w1)])) (fun _ => by kernel_rfl) ⟨(fun w1 h => h.oload 0 rfl Tryz.underlying25 rfl (n := 512) (by kernel_rfl) ((bv_size _).trans hH)),trivial⟩ ?_
     refine CfgA.eff 2 (o := _) rfl (by kernel_rfl) (fuel' := 1) rfl (by kernel_rfl) (by kernel_rfl) (Eff.callA (vs := [.int .u64 ((numP H) : Int),.slice (Own.a own) ((cntP H)) (Own.c own)]) (.agg (bv (headF (numP H) (rowP H bs (cntP H))))) rfl Tryz.func8 rfl rfl (by kernel_rfl) (fun w1 h => by have h9 := refHead4 (numP H) (Own.a own) (Own.c own) (rowP H bs (cntP H)) (Own.o 36 (jv (rowP H bs (cntP H))) own) w1 hnl (inW_own hokc) (rowP_w hB H _) (by rw [rowP_len]; unfold maxLen; omega) (own_le hokc) (fun e he => (fun h1 => h.own e (show e ∈ ([(ib,Obj.cells (inR (aD H (16 + 2 * cntP H))) 108 (0,0)),(hx,Obj.cells (bv H) 25 (0,0))] ++ (Own.o 36 (jv (rowP H bs (cntP H))) own ++ [])) from (List.mem_append_right _ (List.mem_append_left _ h1)))) he); rw [rowP_len] at h9; exact h9)) (fun _ _ => (.cons _ (.cons_cons _ (List.Sublist.trans (List.Sublist.refl _) (List.sublist_append_right _ _))))) ?_
     rintro ⟨⟩ -
     refine CfgA.pure [4] [(0,false,some (.bool ((headF (numP H) (rowP H bs (cntP H))) == H)))] (some [8,10,53]) (l' := #[true,true,true,true,true]) (by kernel_rfl) (by kernel_rfl) (.cons _ (.cons_cons _ (List.Sublist.trans (List.Sublist.refl _) (List.sublist_append_right _ _)))) 0 rfl (Γ' := [(53,[],.bool (!((headF (numP H) (rowP H bs (cntP H))) == H))),(10,[],.slice (Own.a own) ((cntP H)) (Own.c own)),(8,[],.int .u64 ((numP H) : Int))]) (nd := (fun S => [(∀ w1,S w1 → (Op.equal 25 (.agg (bv (headF (numP H) (rowP H bs (cntP H))))) (.agg (bv H))).run Tryz.prog w1 = .ok ((headF (numP H) (rowP H bs (cntP H))) == H) w1)])) (fun _ => by kernel_rfl) ⟨(fun _ _ => equal_bv Tryz.underlying25 Tryz.underlying5 (by kernel_rfl) (headF_len _ _) hH),trivial⟩ ?_
     refine CfgA.done (by kernel_rfl) ?_
     refine Cfg.cond rfl (b := (!((headF (numP H) (rowP H bs (cntP H))) == H))) (by kernel_rfl) (fun c4r => ?_) (fun c4r => ?_)
     ·have c4 : (((headF (numP H) (rowP H bs (cntP H))) == H) = false) := (notT c4r)
      refine Cfg.reg rfl [4,5,6] [] (Γ' := [(6,[],.bool false),(5,[],.slice none 0 0),(4,[],.int .u64 0)]) (nd := (fun _ => [])) (fun _ => by kernel_rfl) trivial ?_
      refine Cfg.ret rfl (rs := [.tmp 4,.tmp 5,.tmp 6]) rfl [.int .u64 0,.slice none 0 0,.bool false] ⟨by kernel_rfl,by kernel_rfl,by kernel_rfl,trivial⟩ (fun w1 hp => ?_)
      exact par_ret0 (par_no3 (by simpa using c4r)) hp
     ·have c4 : (((headF (numP H) (rowP H bs (cntP H))) == H) = true) := (notF c4r)
      refine Cfg.reg rfl [4,5,6] [] (Γ' := [(6,[],.bool true),(5,[],.slice (Own.a own) ((cntP H)) (Own.c own)),(4,[],.int .u64 ((numP H) : Int))]) (nd := (fun _ => [])) (fun _ => by kernel_rfl) trivial ?_
      refine Cfg.ret rfl (rs := [.tmp 4,.tmp 5,.tmp 6]) rfl [.int .u64 ((numP H) : Int),.slice (Own.a own) ((cntP H)) (Own.c own),.bool true] ⟨by kernel_rfl,by kernel_rfl,by kernel_rfl,trivial⟩ (fun w1 hp => ?_)
      have hG : parG H bs = true := par_ok hmk (by omega) (by simpa using c4r)
      exact par_ret own hG hokc hp rfl
end Go.Proofs.YtohjpggjgomgoaaGreatDoor
namespace Go.Proofs.YtohjpggjgomgoaaGreatDoor
open K
set_option linter.unusedVariables false
abbrev Pt := Int × UInt8
def putz : Pt := (0,0)
def pCell (ps : List Pt) (j : Nat) : Value := if j % 2 = 0 then .int .i64 (ps.getD (j / 2) putz).1 else .int .u8 ((ps.getD (j / 2) putz).2.toNat : Int)
def bk2 (x : UInt8) : List UInt8 := x :: 7 :: List.replicate 510 0
theorem bk2_len (x : UInt8) : (bk2 x).length = 512 := by rw [bk2,List.length_cons,List.length_cons,List.length_replicate]
def wrs (ps : List Pt) : List Wr := ps.map fun p => (p.1,bk2 p.2)
theorem wrs_len (ps : List Pt) : (wrs ps).length = ps.length := List.length_map ..
theorem wrs_w (ps : List Pt) : WW (wrs ps) := fun x hx => by
 obtain ⟨p,_,rfl⟩ := List.mem_map.1 hx
 exact bk2_len _
theorem wrs_succ {ps : List Pt} {i : Nat} (h : i < ps.length) : jv (wrs (ps.take i)) ++ jc ((ps.getD i putz).1,bk2 (ps.getD i putz).2) = jv (wrs (ps.take (i + 1))) := by
 unfold wrs
 rw [List.take_succ_eq_append_getElem h,List.map_append,jv_app,List.map_cons,List.map_nil,jv_one]
 simp [List.getElem?_eq_getElem h]
theorem p_cell {ps : List Pt} {cs : Array Value} {off i : Nat} (hcs : ∀ j,j < ps.length * 2 → cs[off + j]? = some (pCell ps j)) (hi : i < ps.length) {j : Nat} {v : Value} (hv : ([.int .i64 (ps.getD i putz).1,.int .u8 ((ps.getD i putz).2.toNat : Int)] : List Value)[j]? = some v) : cs[off + i * 2 + j]? = some v := by
 have hj : j < 2 := (List.getElem?_eq_some_iff.1 hv).1
 rw [Nat.add_assoc,hcs (i * 2 + j) (by omega)]
 unfold pCell
 rw [show (i * 2 + j) / 2 = i by omega]
 rcases j with _ | _ | j
 ·rw [if_pos (by omega)]; exact hv
 ·rw [if_neg (by omega)]; exact hv
 ·omega
theorem zv_run {P : Program} {w : World} {t : TypeId} {z : Value} (h : (P.info? t).bind (·.zero) = some z) : (zeroValue t).run P w = .ok z w := by
 obtain ⟨inf,hi,hz⟩ := Option.bind_eq_some_iff.1 h
 simp [zeroValue,typeInfo,program,Sem.run,hi,hz]
theorem zero_bt {w : World} : (zeroValue 25).run Tryz.prog w = .ok (.agg (bv (List.replicate 512 0))) w := zv_run (by kernel_rfl)
theorem set0 (x : UInt8) : (List.replicate 512 (0 : UInt8)).set 0 x = x :: List.replicate 511 0 := by rw [show 512 = 511 + 1 from rfl,List.replicate_succ,List.set_cons_zero]
theorem set1 (x : UInt8) : (x :: List.replicate 511 (0 : UInt8)).set 1 7 = bk2 x := by rw [show 511 = 510 + 1 from rfl,List.replicate_succ,List.set_cons_succ,List.set_cons_zero]; rfl
theorem fold_one (v : Value) (hv : v.cells = #[v]) (off : Nat) (B : Array Value) : v.cells.zipIdx.foldl (fun cs p => match p with | (c,j) => cs.setIfInBounds (off + j) c) B = B.setIfInBounds off v := by rw [hv]; rfl
theorem fill_bk (x : UInt8) : Instr.fill (fun i => some (i * 1,1)) (bv (List.replicate 512 0)) [(0,.int .u8 (x.toNat : Int)),(1,.int .u8 7)] = some (bv (bk2 x)) := by
 have hx := byteLt x
 have e0 : (Value.int .u8 (x.toNat : Int)).cells.zipIdx.foldl (fun cs p => match p with | (c,j) => cs.setIfInBounds (0 * 1 + j) c) (bv (List.replicate 512 0)) = bv (x :: List.replicate 511 0) := by
  rw [fold_one _ rfl,Nat.zero_mul,bv_set (by omega) (by omega),Int.toNat_natCast,show UInt8.ofNat x.toNat = x by simp,set0]
 have e1 : (Value.int .u8 7).cells.zipIdx.foldl (fun cs p => match p with | (c,j) => cs.setIfInBounds (1 * 1 + j) c) (bv (x :: List.replicate 511 0)) = bv (bk2 x) := by
  rw [fold_one _ rfl,Nat.one_mul,bv_set (by omega) (by omega),show UInt8.ofNat (7 : Int).toNat = 7 from rfl,set1]
 have hl : (bv (x :: List.replicate 511 0)).size = 512 := by rw [bv_size,List.length_cons,List.length_replicate]
 have q1 : (decide ((Value.int .u8 (x.toNat : Int)).cells.size ≠ 1) || decide (0 * 1 + (Value.int .u8 (x.toNat : Int)).cells.size > (bv (List.replicate 512 0)).size)) = false := by rw [zsz512]; rfl
 have q2 : (decide ((Value.int .u8 7).cells.size ≠ 1) || decide (1 * 1 + (Value.int .u8 7).cells.size > (bv (x :: List.replicate 511 0)).size)) = false := by rw [hl]; rfl
 rw [Instr.fill]
 show (if (decide ((Value.int .u8 (x.toNat : Int)).cells.size ≠ 1) || decide (0 * 1 + (Value.int .u8 (x.toNat : Int)).cells.size > (bv (List.replicate 512 0)).size)) = true then none else _) = _
 rw [q1,if_neg (by decide),e0,Instr.fill]
 show (if (decide ((Value.int .u8 7).cells.size ≠ 1) || decide (1 * 1 + (Value.int .u8 7).cells.size > (bv (x :: List.replicate 511 0)).size)) = true then none else _) = _
 rw [q2,if_neg (by decide),e1,Instr.fill]
theorem build_bk (x : UInt8) (w : World) : (Instr.build 25 #[(0,.int .u8 (x.toNat : Int)),(1,.int .u8 7)]).run Tryz.prog w = .ok (.agg (bv (bk2 x))) w := by
 obtain ⟨inf,hi,hs⟩ := Option.map_eq_some_iff.1 (show (Tryz.prog.info? 5).map (·.size) = some 1 by kernel_rfl)
 have hz := zero_bt (w := w)
 have hf := fill_bk x
 simp only [Instr.build,Sem.run_bind,hz,Result.andThen_ok,run_underlying' Tryz.underlying25,run_sizeOf' hi,hs,Value.cells,hf,Sem.run_pure]
theorem wr_p1 (a : Wr) (w : World) : (part 3 (jc a).toArray 0).run Tryz.prog w = .ok (.int .i64 a.1) w := by
 simp only [part,isAgg,Sem.run_bind,run_underlying' Tryz.underlying3,Result.andThen_ok]; rfl
theorem wr_p2 {a : Wr} (ha : a.2.length = 512) (w : World) : (part 25 (jc a).toArray 1).run Tryz.prog w = .ok (.agg (bv a.2)) w := by
 obtain ⟨inf,hi,hs⟩ := Option.map_eq_some_iff.1 (show (Tryz.prog.info? 25).map (·.size) = some 512 by kernel_rfl)
 have e : (jc a).toArray.extract 1 (1 + 512) = bv a.2 := by
  apply Array.ext'
  rw [Array.toList_extract]
  show List.extract (.int .i64 a.1 :: (bv a.2).toList) 1 (1 + 512) = _
  rw [List.extract_eq_take_drop,List.drop_succ_cons,List.drop_zero,List.take_of_length_le (by rw [Array.length_toList,bv_size,ha]; omega)]
 generalize (512 : Nat) = n at *
 simp only [part,isAgg,Sem.run_bind,run_underlying' Tryz.underlying25,Result.andThen_ok,Sem.run_pure,if_true,run_sizeOf' hi,hs,e]
theorem wr_q2 {a : Wr} (ha : a.2.length = 512) (w : World) : (Op.equalIn 9999 25 (.agg (bv a.2)) (.agg (bv a.2))).run Tryz.prog w = .ok (a.2 == a.2) w :=
 run_equalIn_bytes w 9997 25 5 512 Tryz.underlying25 Tryz.underlying5 (fun w => by obtain ⟨i2,h2,s2⟩ := Option.map_eq_some_iff.1 (show (Tryz.prog.info? 5).map (·.size) = some 1 by kernel_rfl); rw [run_sizeOf' h2,s2]) a.2 a.2 ha ha
theorem wr_key {P : Program} {w : World} {t : TypeId} {cs : Array Value} {v : Value} (p2 : (part t cs 1).run P w = .ok v w) (q2 : (Op.equalIn 9999 t v v).run P w = .ok true w) : Sem.run P (if (!true) = true then pure false else do
    let x ← part t cs 1
    let y ← part t cs 1
    let r ← Op.equalIn 9999 t x y
    if (!r) = true then pure false else pure true) w = .ok true w := by
 rw [if_neg (by decide),Sem.run_bind,p2,Result.andThen_ok,Sem.run_bind,p2,Result.andThen_ok,Sem.run_bind,q2,Result.andThen_ok]
 rfl
theorem wr_fields {P : Program} {w : World} {cs : Array Value} {i : Int} {b : Value} {t u : TypeId} {o1 o2 : Nat} (hu : P.underlying t = some (.int .i64)) (p1 : (part t cs 0).run P w = .ok (.int .i64 i) w) (p2 : (part u cs 1).run P w = .ok b w) (q2 : (Op.equalIn 9999 u b b).run P w = .ok true w) :
  (Op.eqFields 9999 cs cs [⟨ "At",t,0,false,"","",o1⟩,⟨ "Block",u,1,false,"","",o2⟩]).run P w = .ok true w := by
 have n1 : ¬ ("At" = "_") := by decide
 have n2 : ¬ ("Block" = "_") := by decide
 simp only [Op.eqFields,ne_eq,n1,n2,not_false_eq_true,if_true,Sem.run_bind,p1,Result.andThen_ok,run_equalIn_int w 9998 t .i64 .i64 i i hu,beq_self_eq_true]
 exact wr_key p2 q2
theorem wr_equal {a : Wr} (ha : a.2.length = 512) (w : World) : (Op.equal 36 (.agg (jc a).toArray) (.agg (jc a).toArray)).run Tryz.prog w = .ok true w := by
 have h9 := wr_fields (o1 := 0) (o2 := 8) Tryz.underlying3 (wr_p1 a w) (wr_p2 ha w) (by have := wr_q2 ha w; rw [beq_self_eq_true] at this; exact this)
 generalize (jc a).toArray = cs at *
 show (Op.equalIn (9999 + 1) 36 (.agg cs) (.agg cs)).run Tryz.prog w = _
 rw [run_equalIn_struct w 9999 36 _ _ (by kernel_rfl) (by kernel_rfl)]
 rw [show (Tryz.prog.fieldsOf 36).toList = [⟨ "At",3,0,false,"","",0⟩,⟨ "Block",25,1,false,"","",8⟩] by kernel_rfl]
 exact h9
set_option maxRecDepth 100000 in
set_option maxHeartbeats 4000000 in
theorem lWrites (la : Option Addr) (cap : Nat) (ps : List Pt) (Rl : List (Nat × Obj)) (w : World) (hI : InS Rl la (ps.length * 2) (pCell ps)) (hn : ps.length ≤ 120) (hR : Has w Rl) :
  Calls Tryz.prog 6 #[.slice la ps.length cap] w fun e w' => ∃ x : K.Own × K.Own,(OwnOk x.1 513 ps.length (jv (wrs ps)) ∧ OwnOk x.2 513 ps.length (jv (wrs ps))) ∧ e = .returned (.tuple #[.slice (Own.a x.1) ps.length (Own.c x.1),.slice (Own.a x.2) ps.length (Own.c x.2)]) ∧ ∃ R1,HP w [] R1 (Own.o 79 (jv (wrs ps)) x.1 ++ (Own.o 36 (jv (wrs ps)) x.2 ++ [])) w' := by
 refine enter (vs := [.slice la ps.length cap]) [] Rl [] Tryz.func6 rfl (by kernel_rfl) (HP.ofHas hR) ?_
 refine Cfg.reg rfl [0] [] (Γ' := [(0,[],.slice la ps.length cap)]) (nd := (fun _ => [])) (fun _ => by kernel_rfl) trivial ?_
 refine Cfg.reg rfl [0,4] [] (Γ' := [(4,[],.slice none 0 0),(0,[],.slice la ps.length cap)]) (nd := (fun _ => [])) (fun _ => by kernel_rfl) trivial ?_
 refine Cfg.reg rfl [0,4,5] [] (Γ' := [(5,[],.slice none 0 0),(4,[],.slice none 0 0),(0,[],.slice la ps.length cap)]) (nd := (fun _ => [])) (fun _ => by kernel_rfl) trivial ?_
 refine Cfg.reg rfl [4,5,9,10,11] [] (Γ' := [(11,[],.int .i64 0),(10,[],.int .i64 (ps.length : Int)),(9,[],.slice la ps.length cap),(5,[],.slice none 0 0),(4,[],.slice none 0 0)]) (nd := (fun _ => [])) (fun _ => by kernel_rfl) trivial ?_
 refine Cfg.loop rfl (ι := Nat × K.Own × K.Own) (fun (xz : Nat × K.Own × K.Own) => match xz with | (i,o1,o2) => [(11,[],.int .i64 (i : Int)),(10,[],.int .i64 (ps.length : Int)),(9,[],.slice la ps.length cap),(5,[],.slice (Own.a o2) i (Own.c o2)),(4,[],.slice (Own.a o1) i (Own.c o1))]) (fun (xz : Nat × K.Own × K.Own) => match xz with | (i,o1,o2) => ([] ++ (Own.o 79 (jv (wrs (ps.take i))) o1 ++ (Own.o 36 (jv (wrs (ps.take i))) o2 ++ [])))) (fun (xz : Nat × K.Own × K.Own) => match xz with | (i,o1,o2) => (i ≤ ps.length) ∧ (OwnOk o1 513 i (jv (wrs (ps.take i)))) ∧ (OwnOk o2 513 i (jv (wrs (ps.take i))))) (fun (xz : Nat × K.Own × K.Own) => match xz with | (i,o1,o2) => ps.length - i) (0,none,none) ?_ (Conv.mk (by kernel_rfl)) (List.Sublist.refl _) ?_
 ·exact ⟨Nat.zero_le _,OwnOk.none _,OwnOk.none _⟩
 ·rintro ⟨i,o1,o2⟩ ⟨hi,hok1,hok2⟩
  refine Cfg.reg rfl [4,5,9,10,11,12] [] (Γ' := [(12,[],.bool (decide ((i : Int) < (ps.length : Int)))),(11,[],.int .i64 (i : Int)),(10,[],.int .i64 (ps.length : Int)),(9,[],.slice la ps.length cap),(5,[],.slice (Own.a o2) i (Own.c o2)),(4,[],.slice (Own.a o1) i (Own.c o1))]) (nd := (fun _ => [])) (fun _ => by kernel_rfl) trivial ?_
  refine Cfg.cond rfl (b := (decide ((i : Int) < (ps.length : Int)))) (by kernel_rfl) (fun c1r => ?_) (fun c1r => ?_)
  ·have c1 : ((i : Int) < (ps.length : Int)) := (of_decide_eq_true c1r)
   obtain ⟨sb,off,cs,te,fre,rfl,hmem,hcs⟩ := hI (by omega)
   refine Conv.cfg (Γ' := [(12,[],.bool (decide ((i : Int) < (ps.length : Int)))),(11,[],.int .i64 (i : Int)),(10,[],.int .i64 (ps.length : Int)),(9,[],.slice (some ⟨sb,off,none⟩) ps.length cap),(5,[],.slice (Own.a o2) i (Own.c o2)),(4,[],.slice (Own.a o1) i (Own.c o1))]) (Conv.mk (by kernel_rfl)) ?_
   refine Cfg.begL rfl ?_
   refine CfgL.pure 2 [dZ,(0,false,some (.agg #[.int .i64 (ps.getD i putz).1,.int .u8 ((ps.getD i putz).2.toNat : Int)]))] (some [4,5,9,10,11,14]) (Γ' := [(14,[],.agg #[.int .i64 (ps.getD i putz).1,.int .u8 ((ps.getD i putz).2.toNat : Int)]),(11,[],.int .i64 (i : Int)),(10,[],.int .i64 (ps.length : Int)),(9,[],.slice (some ⟨sb,off,none⟩) ps.length cap),(5,[],.slice (Own.a o2) i (Own.c o2)),(4,[],.slice (Own.a o1) i (Own.c o1))]) (nd := (fun S => [(0 ≤ (i : Int) ∧ (i : Int) < (ps.length : Int)),(∀ w1,S w1 → (loadVar 82 ⟨sb,(addO off (i * 2)),none⟩).run Tryz.prog w1 = .ok (.agg #[.int .i64 (ps.getD i putz).1,.int .u8 ((ps.getD i putz).2.toNat : Int)]) w1)])) (by kernel_rfl) (fun _ => by kernel_rfl) ⟨(by omega),(fun w1 h => load_list (vs := [.int .i64 (ps.getD i putz).1,.int .u8 ((ps.getD i putz).2.toNat : Int)]) Tryz.underlying82 rfl (by kernel_rfl) rfl (fun j v hj => by rw [addO_eq]; exact (cell_cells (h.ro _ hmem)).trans (p_cell hcs (by omega) hj))),trivial⟩ ?_
   refine CfgL.eff (o := _) rfl (by kernel_rfl) (by kernel_rfl) (Eff.alloc (z := (.agg #[.int .i64 0,.int .u8 0])) rfl (by kernel_rfl)) ?_
   rintro pb ⟨hpb,npb⟩
   refine CfgL.eff (o := _) rfl (by kernel_rfl) (by kernel_rfl) (Eff.storeN (b := pb) (off := 0) (vs := #[.int .i64 (ps.getD i putz).1,.int .u8 ((ps.getD i putz).2.toNat : Int)]) (n := 2) rfl (by kernel_rfl) (by kernel_rfl) (by kernel_rfl) rfl (by intro v hv; simp at hv; rcases hv with rfl | rfl <;> rfl) 0 (cs := #[.int .i64 0,.int .u8 0]) (e := 82) (by kernel_rfl) (by decide)) ?_
   rintro ⟨⟩ -
   refine CfgL.setO (congrArg (fun (xq : Array Value) => (([(pb,.cells xq 82 (0,0))] ++ (Own.o 79 (jv (wrs (ps.take i))) o1 ++ (Own.o 36 (jv (wrs (ps.take i))) o2 ++ []))) : List (Nat × Obj))) (show _ = #[.int .i64 (ps.getD i putz).1,.int .u8 ((ps.getD i putz).2.toNat : Int)] from rfl)) ?_
   refine CfgL.done rfl ?_
   refine Conv.cfg (Γ' := [(7,[],.pointer (some ⟨pb,0,none⟩)),(11,[],.int .i64 (i : Int)),(10,[],.int .i64 (ps.length : Int)),(9,[],.slice (some ⟨sb,off,none⟩) ps.length cap),(5,[],.slice (Own.a o2) i (Own.c o2)),(4,[],.slice (Own.a o1) i (Own.c o1))]) (Conv.mk (by kernel_rfl)) ?_
   refine Cfg.begL rfl ?_
   refine CfgL.pure 3 [dZ,(0,false,some (.int .u8 ((ps.getD i putz).2.toNat : Int))),(0,false,some (.agg (bv (bk2 (ps.getD i putz).2))))] (some [4,5,7,9,10,11,17]) (Γ' := [(17,[],.agg (bv (bk2 (ps.getD i putz).2))),(7,[],.pointer (some ⟨pb,0,none⟩)),(11,[],.int .i64 (i : Int)),(10,[],.int .i64 (ps.length : Int)),(9,[],.slice (some ⟨sb,off,none⟩) ps.length cap),(5,[],.slice (Own.a o2) i (Own.c o2)),(4,[],.slice (Own.a o1) i (Own.c o1))]) (nd := (fun S => [(∀ w1,S w1 → w1.cell? ⟨pb,1,none⟩ = some (.int .u8 ((ps.getD i putz).2.toNat : Int))),(∀ w1,S w1 → (Instr.build 25 #[(0,.int .u8 ((ps.getD i putz).2.toNat : Int)),(1,.int .u8 7)]).run Tryz.prog w1 = .ok (.agg (bv (bk2 (ps.getD i putz).2))) w1)])) (by kernel_rfl) (fun _ => by kernel_rfl) ⟨(fun w1 h => h.ocell 0 rfl rfl),(fun w1 _ => build_bk _ w1),trivial⟩ ?_
   refine CfgL.eff (o := _) rfl (by kernel_rfl) (by kernel_rfl) (Eff.alloc (z := (.agg (bv (List.replicate 512 0)))) rfl (by kernel_rfl)) ?_
   rintro kb ⟨hkb,nkb⟩
   refine CfgL.eff (o := _) rfl (by kernel_rfl) (by kernel_rfl) (Eff.storeN (b := kb) (off := 0) (vs := (bv (bk2 (ps.getD i putz).2))) (n := 512) rfl (by kernel_rfl) (by kernel_rfl) (by kernel_rfl) ((bv_size _).trans (bk2_len _)) (all_bv _) 0 (cs := (bv (List.replicate 512 0))) (e := 25) (by kernel_rfl) (by rw [zsz512]; omega)) ?_
   rintro ⟨⟩ -
   refine CfgL.setO (congrArg (fun (xq : Array Value) => (([(kb,.cells xq 25 (0,0)),(pb,.cells #[.int .i64 (ps.getD i putz).1,.int .u8 ((ps.getD i putz).2.toNat : Int)] 82 (0,0))] ++ (Own.o 79 (jv (wrs (ps.take i))) o1 ++ (Own.o 36 (jv (wrs (ps.take i))) o2 ++ []))) : List (Nat × Obj))) (show _ = (bv (bk2 (ps.getD i putz).2)) from spl_all (((bv_size _).trans (bk2_len _)).trans zsz512.symm))) ?_
   refine CfgL.done rfl ?_
   refine Conv.cfg (Γ' := [(8,[],.pointer (some ⟨kb,0,none⟩)),(7,[],.pointer (some ⟨pb,0,none⟩)),(11,[],.int .i64 (i : Int)),(10,[],.int .i64 (ps.length : Int)),(9,[],.slice (some ⟨sb,off,none⟩) ps.length cap),(5,[],.slice (Own.a o2) i (Own.c o2)),(4,[],.slice (Own.a o1) i (Own.c o1))]) (Conv.mk (by kernel_rfl)) ?_
   refine Cfg.begA rfl (by kernel_rfl) [(kb,.cells (bv (bk2 (ps.getD i putz).2)) 25 (0,0)),(pb,.cells #[.int .i64 (ps.getD i putz).1,.int .u8 ((ps.getD i putz).2.toNat : Int)] 82 (0,0))] ?_
   refine CfgA.pure [0,1,2,3,4,7,8,9,10,11] [dZ,dZ,(0,false,some (.int .i64 ((ps.getD i putz).1))),(0,false,some (.agg (bv (bk2 (ps.getD i putz).2)))),(0,false,some (.agg (jc ((ps.getD i putz).1,bk2 (ps.getD i putz).2)).toArray)),dZ,dZ,(0,false,some (.int .i64 ((ps.getD i putz).1))),(0,false,some (.agg (bv (bk2 (ps.getD i putz).2)))),(0,false,some (.agg (jc ((ps.getD i putz).1,bk2 (ps.getD i putz).2)).toArray))] (some [4,5,9,10,11,18,22,25,29]) (l' := #[true,true,true,true,true,false,false,true,true,true,true,true,false,false,false,false]) (by kernel_rfl) (by kernel_rfl) (.cons_cons _ (.cons_cons _ (List.Sublist.trans (List.Sublist.trans (List.Sublist.refl _) (List.sublist_append_right _ _)) (List.sublist_append_right _ _)))) 6 rfl (Γ' := [(29,[],.agg (jc ((ps.getD i putz).1,bk2 (ps.getD i putz).2)).toArray),(25,[],.slice (Own.a o2) i (Own.c o2)),(22,[],.agg (jc ((ps.getD i putz).1,bk2 (ps.getD i putz).2)).toArray),(18,[],.slice (Own.a o1) i (Own.c o1)),(11,[],.int .i64 (i : Int)),(10,[],.int .i64 (ps.length : Int)),(9,[],.slice (some ⟨sb,off,none⟩) ps.length cap),(5,[],.slice (Own.a o2) i (Own.c o2)),(4,[],.slice (Own.a o1) i (Own.c o1))]) (nd := (fun S => [(∀ w1,S w1 → w1.cell? ⟨pb,0,none⟩ = some (.int .i64 ((ps.getD i putz).1))),(∀ w1,S w1 → (loadVar 25 ⟨kb,0,none⟩).run Tryz.prog w1 = .ok (.agg (bv (bk2 (ps.getD i putz).2))) w1),(∀ w1,S w1 → (Instr.build 79 #[(0,.int .i64 ((ps.getD i putz).1)),(1,.agg (bv (bk2 (ps.getD i putz).2)))]).run Tryz.prog w1 = .ok (.agg (jc ((ps.getD i putz).1,bk2 (ps.getD i putz).2)).toArray) w1),(∀ w1,S w1 → w1.cell? ⟨pb,0,none⟩ = some (.int .i64 ((ps.getD i putz).1))),(∀ w1,S w1 → (loadVar 25 ⟨kb,0,none⟩).run Tryz.prog w1 = .ok (.agg (bv (bk2 (ps.getD i putz).2))) w1),(∀ w1,S w1 → (Instr.build 36 #[(0,.int .i64 ((ps.getD i putz).1)),(1,.agg (bv (bk2 (ps.getD i putz).2)))]).run Tryz.prog w1 = .ok (.agg (jc ((ps.getD i putz).1,bk2 (ps.getD i putz).2)).toArray) w1)])) (fun _ => by kernel_rfl) ⟨(fun w1 h => h.ocell 1 rfl rfl),(fun w1 h => h.oload 0 rfl Tryz.underlying25 rfl (n := 512) (by kernel_rfl) ((bv_size _).trans (bk2_len _))),(fun w1 _ => build_wr (ps.getD i putz).1 (bk2_len _) w1),(fun w1 h => h.ocell 1 rfl rfl),(fun w1 h => h.oload 0 rfl Tryz.underlying25 rfl (n := 512) (by kernel_rfl) ((bv_size _).trans (bk2_len _))),(fun w1 _ => build_rw (ps.getD i putz).1 (bk2_len _) w1),trivial⟩ ?_
   refine CfgA.two 5 12 (by kernel_rfl) (fuel' := 5) rfl ?_ ?_
   ·
    refine CfgI.eff (o := _) rfl (by kernel_rfl) (by kernel_rfl) (Eff.buildAgg (vs := (jc ((ps.getD i putz).1,bk2 (ps.getD i putz).2)).toArray) (n := 513) rfl (by kernel_rfl) Tryz.underlying28 (by kernel_rfl) (z := (.agg (jc wz).toArray)) (by kernel_rfl) (by rw [List.size_toArray]; exact jc_len (bk2_len _)) (by decide) (by decide)) (fun _ _ => (.cons _ (.cons_cons _ (.cons_cons _ (List.Sublist.trans (List.Sublist.trans (List.Sublist.refl _) (List.sublist_append_right _ _)) (List.sublist_append_right _ _)))))) ?_
    rintro x3 ⟨hx3,nx3⟩
    refine CfgA.two 6 12 (by kernel_rfl) (fuel' := 4) rfl ?_ ?_
    ·
     refine CfgI.eff (o := _) rfl (by kernel_rfl) (by kernel_rfl) (Eff.appendF rfl 513 520 Tryz.underlying28 (by kernel_rfl) (z := (.agg (jc wz).toArray)) (by kernel_rfl) (by kernel_rfl) o1 (xs := (jv (wrs (ps.take i)))) hok1 (by kernel_rfl) (b2 := x3) (off2 := 0) (m := 1) (c2 := 1) (by kernel_rfl) (jc ((ps.getD i putz).1,bk2 (ps.getD i putz).2)) (jc_len (bk2_len _)) (jc_all _) [(x3,.cells ((jc ((ps.getD i putz).1,bk2 (ps.getD i putz).2)).toArray) 79 (0,0)),(kb,.cells (bv (bk2 (ps.getD i putz).2)) 25 (0,0)),(pb,.cells #[.int .i64 (ps.getD i putz).1,.int .u8 ((ps.getD i putz).2.toNat : Int)] 82 (0,0))] ([] ++ (Own.o 36 (jv (wrs (ps.take i))) o2 ++ [])) (by rfl) (fun w1 h j v hj => wr_src h 0 rfl hj) (by omega) (by omega)) (fun _ _ => (.cons _ (.cons_cons _ (.cons_cons _ (List.Sublist.trans (List.Sublist.trans (List.Sublist.refl _) (List.sublist_append_right _ _)) (List.sublist_append_right _ _)))))) ?_
     rintro o1 ko1
     refine CfgA.eff 12 (o := _) rfl (by kernel_rfl) (fuel' := 3) rfl (by kernel_rfl) (by kernel_rfl) (Eff.buildAgg (vs := (jc ((ps.getD i putz).1,bk2 (ps.getD i putz).2)).toArray) (n := 513) rfl (by kernel_rfl) Tryz.underlying29 (by kernel_rfl) (z := (.agg (jc wz).toArray)) (by kernel_rfl) (by rw [List.size_toArray]; exact jc_len (bk2_len _)) (by decide) (by decide)) (fun _ _ => (.cons _ (.cons _ (.cons_cons _ (.cons_cons _ (List.Sublist.trans (List.Sublist.trans (List.Sublist.refl _) (List.sublist_append_right _ _)) (List.sublist_append_right _ _))))))) ?_
     rintro x4 ⟨hx4,nx4⟩
     refine CfgA.eff 13 (o := _) rfl (by kernel_rfl) (fuel' := 2) rfl (by kernel_rfl) (by kernel_rfl) (Eff.appendF rfl 513 520 Tryz.underlying29 (by kernel_rfl) (z := (.agg (jc wz).toArray)) (by kernel_rfl) (by kernel_rfl) o2 (xs := (jv (wrs (ps.take i)))) hok2 (by kernel_rfl) (b2 := x4) (off2 := 0) (m := 1) (c2 := 1) (by kernel_rfl) (jc ((ps.getD i putz).1,bk2 (ps.getD i putz).2)) (jc_len (bk2_len _)) (jc_all _) ([(x4,.cells ((jc ((ps.getD i putz).1,bk2 (ps.getD i putz).2)).toArray) 36 (0,0)),(x3,.cells ((jc ((ps.getD i putz).1,bk2 (ps.getD i putz).2)).toArray) 79 (0,0)),(kb,.cells (bv (bk2 (ps.getD i putz).2)) 25 (0,0)),(pb,.cells #[.int .i64 (ps.getD i putz).1,.int .u8 ((ps.getD i putz).2.toNat : Int)] 82 (0,0))] ++ Own.o 79 ((jv (wrs (ps.take i))) ++ (jc ((ps.getD i putz).1,bk2 (ps.getD i putz).2))) o1) [] (by rfl) (fun w1 h j v hj => wr_src h 0 rfl hj) (by omega) (by omega)) (fun _ _ => (.cons _ (.cons _ (.cons_cons _ (.cons_cons _ (List.Sublist.trans (List.Sublist.trans (List.Sublist.refl _) (List.sublist_append_right _ _)) (List.sublist_append_right _ _))))))) ?_
     rintro o2 ko2
     refine CfgA.pure [14,15] [] (some [4,5,9,10,11]) (l' := tF 16 0) (by kernel_rfl) (by kernel_rfl) (.cons _ (.cons _ (.cons_cons _ (.cons_cons _ (List.Sublist.trans (List.Sublist.trans (List.Sublist.refl _) (List.sublist_append_right _ _)) (List.sublist_append_right _ _)))))) 0 rfl (Γ' := [(5,[],.slice (Own.a o2) ((i + 1)) (Own.c o2)),(4,[],.slice (Own.a o1) ((i + 1)) (Own.c o1)),(11,[],.int .i64 (i : Int)),(10,[],.int .i64 (ps.length : Int)),(9,[],.slice (some ⟨sb,off,none⟩) ps.length cap)]) (nd := (fun _ => [])) (fun _ => by kernel_rfl) trivial ?_
     refine CfgA.done (by kernel_rfl) ?_
     refine Cfg.reg rfl [4,5,9,10,11] [] (Γ' := [(11,[],.int .i64 ((i : Int) + 1)),(5,[],.slice (Own.a o2) ((i + 1)) (Own.c o2)),(4,[],.slice (Own.a o1) ((i + 1)) (Own.c o1)),(10,[],.int .i64 (ps.length : Int)),(9,[],.slice (some ⟨sb,off,none⟩) ps.length cap)]) (nd := (fun _ => [((-9223372036854775808 : Int) ≤ ((i : Int) + 1) ∧ ((i : Int) + 1) ≤ 9223372036854775807)])) (fun _ => by kernel_rfl) ⟨(by omega),trivial⟩ ?_
     have hrv := wrs_succ (ps := ps) (i := i) (by omega)
     refine Cfg.setO (congrArg (fun (xq : List Value) => (([(x4,.cells ((jc ((ps.getD i putz).1,bk2 (ps.getD i putz).2)).toArray) 36 (0,0)),(x3,.cells ((jc ((ps.getD i putz).1,bk2 (ps.getD i putz).2)).toArray) 79 (0,0)),(kb,.cells (bv (bk2 (ps.getD i putz).2)) 25 (0,0)),(pb,.cells #[.int .i64 (ps.getD i putz).1,.int .u8 ((ps.getD i putz).2.toNat : Int)] 82 (0,0))] ++ (Own.o 79 xq o1 ++ (Own.o 36 ((jv (wrs (ps.take i))) ++ (jc ((ps.getD i putz).1,bk2 (ps.getD i putz).2))) o2 ++ []))) : List (Nat × Obj))) (show _ = (jv (wrs (ps.take (i + 1)))) from hrv)) ?_
     refine Cfg.setO (congrArg (fun (xq : List Value) => (([(x4,.cells ((jc ((ps.getD i putz).1,bk2 (ps.getD i putz).2)).toArray) 36 (0,0)),(x3,.cells ((jc ((ps.getD i putz).1,bk2 (ps.getD i putz).2)).toArray) 79 (0,0)),(kb,.cells (bv (bk2 (ps.getD i putz).2)) 25 (0,0)),(pb,.cells #[.int .i64 (ps.getD i putz).1,.int .u8 ((ps.getD i putz).2.toNat : Int)] 82 (0,0))] ++ (Own.o 79 (jv (wrs (ps.take (i + 1)))) o1 ++ (Own.o 36 xq o2 ++ []))) : List (Nat × Obj))) (show _ = (jv (wrs (ps.take (i + 1)))) from hrv)) ?_
     refine Cfg.again rfl (i + 1,o1,o2) ⟨by omega,hrv ▸ ko1,hrv ▸ ko2⟩ (by show ps.length - (i + 1) < ps.length - i; omega) (Conv.mk (by kernel_rfl)) (.cons _ (.cons _ (.cons _ (.cons _ (List.Sublist.refl _)))))
    ·
     refine CfgI.eff (o := _) rfl (by kernel_rfl) (by kernel_rfl) (Eff.buildAgg (vs := (jc ((ps.getD i putz).1,bk2 (ps.getD i putz).2)).toArray) (n := 513) rfl (by kernel_rfl) Tryz.underlying29 (by kernel_rfl) (z := (.agg (jc wz).toArray)) (by kernel_rfl) (by rw [List.size_toArray]; exact jc_len (bk2_len _)) (by decide) (by decide)) (fun _ _ => (.cons _ (.cons _ (.cons_cons _ (.cons_cons _ (List.Sublist.trans (List.Sublist.trans (List.Sublist.refl _) (List.sublist_append_right _ _)) (List.sublist_append_right _ _))))))) ?_
     rintro x5 ⟨hx5,nx5⟩
     refine CfgA.eff 6 (o := _) rfl (by kernel_rfl) (fuel' := 3) rfl (by kernel_rfl) (by kernel_rfl) (Eff.appendF rfl 513 520 Tryz.underlying28 (by kernel_rfl) (z := (.agg (jc wz).toArray)) (by kernel_rfl) (by kernel_rfl) o1 (xs := (jv (wrs (ps.take i)))) hok1 (by kernel_rfl) (b2 := x3) (off2 := 0) (m := 1) (c2 := 1) (by kernel_rfl) (jc ((ps.getD i putz).1,bk2 (ps.getD i putz).2)) (jc_len (bk2_len _)) (jc_all _) [(x5,.cells ((jc ((ps.getD i putz).1,bk2 (ps.getD i putz).2)).toArray) 36 (0,0)),(x3,.cells ((jc ((ps.getD i putz).1,bk2 (ps.getD i putz).2)).toArray) 79 (0,0)),(kb,.cells (bv (bk2 (ps.getD i putz).2)) 25 (0,0)),(pb,.cells #[.int .i64 (ps.getD i putz).1,.int .u8 ((ps.getD i putz).2.toNat : Int)] 82 (0,0))] ([] ++ (Own.o 36 (jv (wrs (ps.take i))) o2 ++ [])) (by rfl) (fun w1 h j v hj => wr_src h 1 rfl hj) (by omega) (by omega)) (fun _ _ => (.cons _ (.cons _ (.cons_cons _ (.cons_cons _ (List.Sublist.trans (List.Sublist.trans (List.Sublist.refl _) (List.sublist_append_right _ _)) (List.sublist_append_right _ _))))))) ?_
     rintro o3 ko3
     refine CfgA.eff 13 (o := _) rfl (by kernel_rfl) (fuel' := 2) rfl (by kernel_rfl) (by kernel_rfl) (Eff.appendF rfl 513 520 Tryz.underlying29 (by kernel_rfl) (z := (.agg (jc wz).toArray)) (by kernel_rfl) (by kernel_rfl) o2 (xs := (jv (wrs (ps.take i)))) hok2 (by kernel_rfl) (b2 := x5) (off2 := 0) (m := 1) (c2 := 1) (by kernel_rfl) (jc ((ps.getD i putz).1,bk2 (ps.getD i putz).2)) (jc_len (bk2_len _)) (jc_all _) ([(x5,.cells ((jc ((ps.getD i putz).1,bk2 (ps.getD i putz).2)).toArray) 36 (0,0)),(x3,.cells ((jc ((ps.getD i putz).1,bk2 (ps.getD i putz).2)).toArray) 79 (0,0)),(kb,.cells (bv (bk2 (ps.getD i putz).2)) 25 (0,0)),(pb,.cells #[.int .i64 (ps.getD i putz).1,.int .u8 ((ps.getD i putz).2.toNat : Int)] 82 (0,0))] ++ Own.o 79 ((jv (wrs (ps.take i))) ++ (jc ((ps.getD i putz).1,bk2 (ps.getD i putz).2))) o3) [] (by rfl) (fun w1 h j v hj => wr_src h 0 rfl hj) (by omega) (by omega)) (fun _ _ => (.cons _ (.cons _ (.cons_cons _ (.cons_cons _ (List.Sublist.trans (List.Sublist.trans (List.Sublist.refl _) (List.sublist_append_right _ _)) (List.sublist_append_right _ _))))))) ?_
     rintro o4 ko4
     refine CfgA.pure [14,15] [] (some [4,5,9,10,11]) (l' := tF 16 0) (by kernel_rfl) (by kernel_rfl) (.cons _ (.cons _ (.cons_cons _ (.cons_cons _ (List.Sublist.trans (List.Sublist.trans (List.Sublist.refl _) (List.sublist_append_right _ _)) (List.sublist_append_right _ _)))))) 0 rfl (Γ' := [(5,[],.slice (Own.a o4) ((i + 1)) (Own.c o4)),(4,[],.slice (Own.a o3) ((i + 1)) (Own.c o3)),(11,[],.int .i64 (i : Int)),(10,[],.int .i64 (ps.length : Int)),(9,[],.slice (some ⟨sb,off,none⟩) ps.length cap)]) (nd := (fun _ => [])) (fun _ => by kernel_rfl) trivial ?_
     refine CfgA.done (by kernel_rfl) ?_
     refine Cfg.reg rfl [4,5,9,10,11] [] (Γ' := [(11,[],.int .i64 ((i : Int) + 1)),(5,[],.slice (Own.a o4) ((i + 1)) (Own.c o4)),(4,[],.slice (Own.a o3) ((i + 1)) (Own.c o3)),(10,[],.int .i64 (ps.length : Int)),(9,[],.slice (some ⟨sb,off,none⟩) ps.length cap)]) (nd := (fun _ => [((-9223372036854775808 : Int) ≤ ((i : Int) + 1) ∧ ((i : Int) + 1) ≤ 9223372036854775807)])) (fun _ => by kernel_rfl) ⟨(by omega),trivial⟩ ?_
     have hrv := wrs_succ (ps := ps) (i := i) (by omega)
     refine Cfg.setO (congrArg (fun (xq : List Value) => (([(x5,.cells ((jc ((ps.getD i putz).1,bk2 (ps.getD i putz).2)).toArray) 36 (0,0)),(x3,.cells ((jc ((ps.getD i putz).1,bk2 (ps.getD i putz).2)).toArray) 79 (0,0)),(kb,.cells (bv (bk2 (ps.getD i putz).2)) 25 (0,0)),(pb,.cells #[.int .i64 (ps.getD i putz).1,.int .u8 ((ps.getD i putz).2.toNat : Int)] 82 (0,0))] ++ (Own.o 79 xq o3 ++ (Own.o 36 ((jv (wrs (ps.take i))) ++ (jc ((ps.getD i putz).1,bk2 (ps.getD i putz).2))) o4 ++ []))) : List (Nat × Obj))) (show _ = (jv (wrs (ps.take (i + 1)))) from hrv)) ?_
     refine Cfg.setO (congrArg (fun (xq : List Value) => (([(x5,.cells ((jc ((ps.getD i putz).1,bk2 (ps.getD i putz).2)).toArray) 36 (0,0)),(x3,.cells ((jc ((ps.getD i putz).1,bk2 (ps.getD i putz).2)).toArray) 79 (0,0)),(kb,.cells (bv (bk2 (ps.getD i putz).2)) 25 (0,0)),(pb,.cells #[.int .i64 (ps.getD i putz).1,.int .u8 ((ps.getD i putz).2.toNat : Int)] 82 (0,0))] ++ (Own.o 79 (jv (wrs (ps.take (i + 1)))) o3 ++ (Own.o 36 xq o4 ++ []))) : List (Nat × Obj))) (show _ = (jv (wrs (ps.take (i + 1)))) from hrv)) ?_
     refine Cfg.again rfl (i + 1,o3,o4) ⟨by omega,hrv ▸ ko3,hrv ▸ ko4⟩ (by show ps.length - (i + 1) < ps.length - i; omega) (Conv.mk (by kernel_rfl)) (.cons _ (.cons _ (.cons _ (.cons _ (List.Sublist.refl _)))))
   ·
    refine CfgI.eff (o := _) rfl (by kernel_rfl) (by kernel_rfl) (Eff.buildAgg (vs := (jc ((ps.getD i putz).1,bk2 (ps.getD i putz).2)).toArray) (n := 513) rfl (by kernel_rfl) Tryz.underlying29 (by kernel_rfl) (z := (.agg (jc wz).toArray)) (by kernel_rfl) (by rw [List.size_toArray]; exact jc_len (bk2_len _)) (by decide) (by decide)) (fun _ _ => (.cons _ (.cons_cons _ (.cons_cons _ (List.Sublist.trans (List.Sublist.trans (List.Sublist.refl _) (List.sublist_append_right _ _)) (List.sublist_append_right _ _)))))) ?_
    rintro x6 ⟨hx6,nx6⟩
    refine CfgA.eff 5 (o := _) rfl (by kernel_rfl) (fuel' := 4) rfl (by kernel_rfl) (by kernel_rfl) (Eff.buildAgg (vs := (jc ((ps.getD i putz).1,bk2 (ps.getD i putz).2)).toArray) (n := 513) rfl (by kernel_rfl) Tryz.underlying28 (by kernel_rfl) (z := (.agg (jc wz).toArray)) (by kernel_rfl) (by rw [List.size_toArray]; exact jc_len (bk2_len _)) (by decide) (by decide)) (fun _ _ => (.cons _ (.cons _ (.cons_cons _ (.cons_cons _ (List.Sublist.trans (List.Sublist.trans (List.Sublist.refl _) (List.sublist_append_right _ _)) (List.sublist_append_right _ _))))))) ?_
    rintro x7 ⟨hx7,nx7⟩
    refine CfgA.eff 6 (o := _) rfl (by kernel_rfl) (fuel' := 3) rfl (by kernel_rfl) (by kernel_rfl) (Eff.appendF rfl 513 520 Tryz.underlying28 (by kernel_rfl) (z := (.agg (jc wz).toArray)) (by kernel_rfl) (by kernel_rfl) o1 (xs := (jv (wrs (ps.take i)))) hok1 (by kernel_rfl) (b2 := x7) (off2 := 0) (m := 1) (c2 := 1) (by kernel_rfl) (jc ((ps.getD i putz).1,bk2 (ps.getD i putz).2)) (jc_len (bk2_len _)) (jc_all _) [(x7,.cells ((jc ((ps.getD i putz).1,bk2 (ps.getD i putz).2)).toArray) 79 (0,0)),(x6,.cells ((jc ((ps.getD i putz).1,bk2 (ps.getD i putz).2)).toArray) 36 (0,0)),(kb,.cells (bv (bk2 (ps.getD i putz).2)) 25 (0,0)),(pb,.cells #[.int .i64 (ps.getD i putz).1,.int .u8 ((ps.getD i putz).2.toNat : Int)] 82 (0,0))] ([] ++ (Own.o 36 (jv (wrs (ps.take i))) o2 ++ [])) (by rfl) (fun w1 h j v hj => wr_src h 0 rfl hj) (by omega) (by omega)) (fun _ _ => (.cons _ (.cons _ (.cons_cons _ (.cons_cons _ (List.Sublist.trans (List.Sublist.trans (List.Sublist.refl _) (List.sublist_append_right _ _)) (List.sublist_append_right _ _))))))) ?_
    rintro o5 ko5
    refine CfgA.eff 13 (o := _) rfl (by kernel_rfl) (fuel' := 2) rfl (by kernel_rfl) (by kernel_rfl) (Eff.appendF rfl 513 520 Tryz.underlying29 (by kernel_rfl) (z := (.agg (jc wz).toArray)) (by kernel_rfl) (by kernel_rfl) o2 (xs := (jv (wrs (ps.take i)))) hok2 (by kernel_rfl) (b2 := x6) (off2 := 0) (m := 1) (c2 := 1) (by kernel_rfl) (jc ((ps.getD i putz).1,bk2 (ps.getD i putz).2)) (jc_len (bk2_len _)) (jc_all _) ([(x7,.cells ((jc ((ps.getD i putz).1,bk2 (ps.getD i putz).2)).toArray) 79 (0,0)),(x6,.cells ((jc ((ps.getD i putz).1,bk2 (ps.getD i putz).2)).toArray) 36 (0,0)),(kb,.cells (bv (bk2 (ps.getD i putz).2)) 25 (0,0)),(pb,.cells #[.int .i64 (ps.getD i putz).1,.int .u8 ((ps.getD i putz).2.toNat : Int)] 82 (0,0))] ++ Own.o 79 ((jv (wrs (ps.take i))) ++ (jc ((ps.getD i putz).1,bk2 (ps.getD i putz).2))) o5) [] (by rfl) (fun w1 h j v hj => wr_src h 1 rfl hj) (by omega) (by omega)) (fun _ _ => (.cons _ (.cons _ (.cons_cons _ (.cons_cons _ (List.Sublist.trans (List.Sublist.trans (List.Sublist.refl _) (List.sublist_append_right _ _)) (List.sublist_append_right _ _))))))) ?_
    rintro o6 ko6
    refine CfgA.pure [14,15] [] (some [4,5,9,10,11]) (l' := tF 16 0) (by kernel_rfl) (by kernel_rfl) (.cons _ (.cons _ (.cons_cons _ (.cons_cons _ (List.Sublist.trans (List.Sublist.trans (List.Sublist.refl _) (List.sublist_append_right _ _)) (List.sublist_append_right _ _)))))) 0 rfl (Γ' := [(5,[],.slice (Own.a o6) ((i + 1)) (Own.c o6)),(4,[],.slice (Own.a o5) ((i + 1)) (Own.c o5)),(11,[],.int .i64 (i : Int)),(10,[],.int .i64 (ps.length : Int)),(9,[],.slice (some ⟨sb,off,none⟩) ps.length cap)]) (nd := (fun _ => [])) (fun _ => by kernel_rfl) trivial ?_
    refine CfgA.done (by kernel_rfl) ?_
    refine Cfg.reg rfl [4,5,9,10,11] [] (Γ' := [(11,[],.int .i64 ((i : Int) + 1)),(5,[],.slice (Own.a o6) ((i + 1)) (Own.c o6)),(4,[],.slice (Own.a o5) ((i + 1)) (Own.c o5)),(10,[],.int .i64 (ps.length : Int)),(9,[],.slice (some ⟨sb,off,none⟩) ps.length cap)]) (nd := (fun _ => [((-9223372036854775808 : Int) ≤ ((i : Int) + 1) ∧ ((i : Int) + 1) ≤ 9223372036854775807)])) (fun _ => by kernel_rfl) ⟨(by omega),trivial⟩ ?_
    have hrv := wrs_succ (ps := ps) (i := i) (by omega)
    refine Cfg.setO (congrArg (fun (xq : List Value) => (([(x7,.cells ((jc ((ps.getD i putz).1,bk2 (ps.getD i putz).2)).toArray) 79 (0,0)),(x6,.cells ((jc ((ps.getD i putz).1,bk2 (ps.getD i putz).2)).toArray) 36 (0,0)),(kb,.cells (bv (bk2 (ps.getD i putz).2)) 25 (0,0)),(pb,.cells #[.int .i64 (ps.getD i putz).1,.int .u8 ((ps.getD i putz).2.toNat : Int)] 82 (0,0))] ++ (Own.o 79 xq o5 ++ (Own.o 36 ((jv (wrs (ps.take i))) ++ (jc ((ps.getD i putz).1,bk2 (ps.getD i putz).2))) o6 ++ []))) : List (Nat × Obj))) (show _ = (jv (wrs (ps.take (i + 1)))) from hrv)) ?_
    refine Cfg.setO (congrArg (fun (xq : List Value) => (([(x7,.cells ((jc ((ps.getD i putz).1,bk2 (ps.getD i putz).2)).toArray) 79 (0,0)),(x6,.cells ((jc ((ps.getD i putz).1,bk2 (ps.getD i putz).2)).toArray) 36 (0,0)),(kb,.cells (bv (bk2 (ps.getD i putz).2)) 25 (0,0)),(pb,.cells #[.int .i64 (ps.getD i putz).1,.int .u8 ((ps.getD i putz).2.toNat : Int)] 82 (0,0))] ++ (Own.o 79 (jv (wrs (ps.take (i + 1)))) o5 ++ (Own.o 36 xq o6 ++ []))) : List (Nat × Obj))) (show _ = (jv (wrs (ps.take (i + 1)))) from hrv)) ?_
    refine Cfg.again rfl (i + 1,o5,o6) ⟨by omega,hrv ▸ ko5,hrv ▸ ko6⟩ (by show ps.length - (i + 1) < ps.length - i; omega) (Conv.mk (by kernel_rfl)) (.cons _ (.cons _ (.cons _ (.cons _ (List.Sublist.refl _)))))
  ·have c1 : (¬ ((i : Int) < (ps.length : Int))) := (of_decide_eq_false c1r)
   refine Cfg.reg rfl [2,3] [] (Γ' := [(3,[],.slice (Own.a o2) i (Own.c o2)),(2,[],.slice (Own.a o1) i (Own.c o1))]) (nd := (fun _ => [])) (fun _ => by kernel_rfl) trivial ?_
   refine Cfg.ret rfl (rs := [.tmp 2,.tmp 3]) rfl [.slice (Own.a o1) i (Own.c o1),.slice (Own.a o2) i (Own.c o2)] ⟨by kernel_rfl,by kernel_rfl,trivial⟩ (fun w1 hp => ?_)
   obtain rfl : i = ps.length := by omega
   rw [List.take_length] at hok1 hok2
   have h9 : HP w [] Rl (Own.o 79 (jv (wrs ps)) o1 ++ (Own.o 36 (jv (wrs ps)) o2 ++ [])) w1 := by
    have h8 := hp.sub (List.sublist_append_right _ _)
    have e := List.take_length (l := ps)
    rw [← e]; exact h8
   exact ⟨(o1,o2),⟨hok1,hok2⟩,rfl,_,h9⟩
set_option maxRecDepth 100000 in
set_option maxHeartbeats 4000000 in
theorem lSame (la lb : Option Addr) (cap cb : Nat) (l : List Wr) (Rl : List (Nat × Obj)) (w : World) (hI : InW Rl la l) (hJ : InW Rl lb l) (hW : WW l) (hn : l.length ≤ maxLen) (hR : Has w Rl) :
  Calls Tryz.prog 11 #[.slice la l.length cap,.slice lb l.length cb] w fun e w' => e = .returned (.bool true) ∧ Ext [] w w' := by
 unfold maxLen at hn
 refine enter (vs := [.slice la l.length cap,.slice lb l.length cb]) [] Rl [] Tryz.func11 rfl (by kernel_rfl) (HP.ofHas hR) ?_
 refine Cfg.reg rfl [0,1] [] (Γ' := [(0,[],.slice la l.length cap),(1,[],.slice lb l.length cb)]) (nd := (fun _ => [])) (fun _ => by kernel_rfl) trivial ?_
 refine Cfg.reg rfl [0,1,10] [] (Γ' := [(10,[],.bool ((l.length : Int) != (l.length : Int))),(0,[],.slice la l.length cap),(1,[],.slice lb l.length cb)]) (nd := (fun _ => [])) (fun _ => by kernel_rfl) trivial ?_
 refine Cfg.condF rfl (b := ((l.length : Int) != (l.length : Int))) (by kernel_rfl) (bne_self_eq_false _) ?_
 refine Cfg.reg rfl [0,1,12,13] [] (Γ' := [(13,[],.int .i64 0),(12,[],.int .i64 (l.length : Int)),(0,[],.slice la l.length cap),(1,[],.slice lb l.length cb)]) (nd := (fun _ => [])) (fun _ => by kernel_rfl) trivial ?_
 refine Cfg.loop rfl (ι := Nat) (fun (i : Nat) => [(13,[],.int .i64 (i : Int)),(12,[],.int .i64 (l.length : Int)),(0,[],.slice la l.length cap),(1,[],.slice lb l.length cb)]) (fun (i : Nat) => []) (fun (i : Nat) => (i ≤ l.length)) (fun (i : Nat) => l.length - i) 0 ?_ (Conv.mk (by kernel_rfl)) .slnil ?_
 ·exact Nat.zero_le _
 ·rintro i hi
  refine Cfg.reg rfl [0,1,12,13,14] [] (Γ' := [(14,[],.bool (decide ((i : Int) < (l.length : Int)))),(13,[],.int .i64 (i : Int)),(12,[],.int .i64 (l.length : Int)),(0,[],.slice la l.length cap),(1,[],.slice lb l.length cb)]) (nd := (fun _ => [])) (fun _ => by kernel_rfl) trivial ?_
  refine Cfg.cond rfl (b := (decide ((i : Int) < (l.length : Int)))) (by kernel_rfl) (fun c2r => ?_) (fun c2r => ?_)
  ·have c2 : ((i : Int) < (l.length : Int)) := (of_decide_eq_true c2r)
   refine Cfg.reg rfl [0,1,5,12,13] [] (Γ' := [(5,[],.int .i64 (i : Int)),(13,[],.int .i64 (i : Int)),(12,[],.int .i64 (l.length : Int)),(0,[],.slice la l.length cap),(1,[],.slice lb l.length cb)]) (nd := (fun _ => [])) (fun _ => by kernel_rfl) trivial ?_
   obtain ⟨sb,off,cs,te,fre,rfl,hmem,hcs⟩ := hI (by omega)
   obtain ⟨sc,of2,ds,tf,frf,rfl,hmem2,hcs2⟩ := hJ (by omega)
   refine Conv.cfg (Γ' := [(5,[],.int .i64 (i : Int)),(13,[],.int .i64 (i : Int)),(12,[],.int .i64 (l.length : Int)),(0,[],.slice (some ⟨sb,off,none⟩) l.length cap),(1,[],.slice (some ⟨sc,of2,none⟩) l.length cb)]) (Conv.mk (by kernel_rfl)) ?_
   refine Cfg.regD rfl (by kernel_rfl) [0,1,12,13,24] [dZ,dZ,dZ,(0,false,some (.agg (jc (l.getD i wz)).toArray)),dZ,dZ,dZ,(0,false,some (.agg (jc (l.getD i wz)).toArray)),(0,false,some (.bool true))] (Γ' := [(24,[],.bool false),(13,[],.int .i64 (i : Int)),(12,[],.int .i64 (l.length : Int)),(0,[],.slice (some ⟨sb,off,none⟩) l.length cap),(1,[],.slice (some ⟨sc,of2,none⟩) l.length cb)]) (nd := (fun S => [(0 ≤ (i : Int) ∧ (i : Int) < (l.length : Int)),(∀ w1,S w1 → (loadVar 79 ⟨sb,(addO off (i * 513)),none⟩).run Tryz.prog w1 = .ok (.agg (jc (l.getD i wz)).toArray) w1),(0 ≤ (i : Int) ∧ (i : Int) < (l.length : Int)),(∀ w1,S w1 → (loadVar 36 ⟨sc,(addO of2 (i * 513)),none⟩).run Tryz.prog w1 = .ok (.agg (jc (l.getD i wz)).toArray) w1),(∀ w1,S w1 → (Op.equal 36 (.agg (jc (l.getD i wz)).toArray) (.agg (jc (l.getD i wz)).toArray)).run Tryz.prog w1 = .ok true w1)])) (by kernel_rfl) (by kernel_rfl) (fun _ => by kernel_rfl) ⟨(by omega),(fun w1 h => load_list Tryz.underlying79 rfl (by kernel_rfl) (jc_len (hW.at i)) (fun j v hj => by rw [addO_eq]; exact (cell_cells (h.ro _ hmem)).trans (wr_cell hW hcs (by omega) hj))),(by omega),(fun w1 h => load_list Tryz.underlying36 rfl (by kernel_rfl) (jc_len (hW.at i)) (fun j v hj => by rw [addO_eq]; exact (cell_cells (h.ro _ hmem2)).trans (wr_cell hW hcs2 (by omega) hj))),(fun w1 _ => wr_equal (hW.at i) w1),trivial⟩ ?_
   refine Cfg.condF rfl (b := false) (by kernel_rfl) rfl ?_
   refine Cfg.reg rfl [0,1,12,13] [] (Γ' := [(13,[],.int .i64 ((i : Int) + 1)),(12,[],.int .i64 (l.length : Int)),(0,[],.slice (some ⟨sb,off,none⟩) l.length cap),(1,[],.slice (some ⟨sc,of2,none⟩) l.length cb)]) (nd := (fun _ => [((-9223372036854775808 : Int) ≤ ((i : Int) + 1) ∧ ((i : Int) + 1) ≤ 9223372036854775807)])) (fun _ => by kernel_rfl) ⟨(by omega),trivial⟩ ?_
   refine Cfg.again rfl (i + 1) (show i + 1 ≤ l.length by omega) (by omega) (Conv.mk (by kernel_rfl)) .slnil
  ·have c2 : (¬ ((i : Int) < (l.length : Int))) := (of_decide_eq_false c2r)
   refine Cfg.reg rfl [4] [] (Γ' := [(4,[],.bool true)]) (nd := (fun _ => [])) (fun _ => by kernel_rfl) trivial ?_
   refine Cfg.ret rfl (rs := [.tmp 4]) rfl [.bool true] ⟨by kernel_rfl,trivial⟩ (fun w1 hp => ?_)
   exact ⟨rfl,hp.ext⟩
end Go.Proofs.YtohjpggjgomgoaaGreatDoor
namespace Go.Proofs.YtohjpggjgomgoaaGreatDoor
namespace K
theorem foldl_splK (off : Nat) : ∀ (vs : List Value) (k : Nat) (cs : Array Value),(vs.zipIdx k).foldl (fun (cs : Array Value) (p : Value × Nat) => cs.setIfInBounds (off + p.2) p.1) cs = spl cs (off + k) vs
 | [],k,cs => rfl
 | v :: vs,k,cs => by
  rw [List.zipIdx_cons,List.foldl_cons,foldl_splK off vs (k + 1),spl]
  rfl
theorem foldl_arr (off : Nat) (vs cs : Array Value) : vs.zipIdx.foldl (fun (cs : Array Value) (p : Value × Nat) => cs.setIfInBounds (off + p.2) p.1) cs = spl cs off vs.toList := by
 rw [← Array.foldl_toList,Array.toList_zipIdx,foldl_splK off vs.toList 0]; rfl
theorem fill_two {X u v : Array Value} {n : Nat} (hX : X.size = 2 * n) (hu : u.size = n) (hv : v.size = n) : Instr.fill (fun i => some (i * n,n)) X [(0,.agg u),(1,.agg v)] = some (u.toList ++ v.toList).toArray := by
 have hul : u.toList.length = n := by rw [Array.length_toList]; exact hu
 have hvl : v.toList.length = n := by rw [Array.length_toList]; exact hv
 have hXl : X.toList.length = 2 * n := by rw [Array.length_toList]; exact hX
 have a1 : spl X (0 * n) u.toList = (u.toList ++ X.toList.drop n).toArray := by
  have h := spl_at (L := X.toList) (A := []) (B := X.toList.take n) (T := X.toList.drop n) (vs := u.toList) (off := 0) (by rw [List.nil_append,List.take_append_drop]) rfl (by rw [List.length_take]; omega)
  rw [Nat.zero_mul]
  simpa using h
 have a2 : spl (u.toList ++ X.toList.drop n).toArray (1 * n) v.toList = (u.toList ++ v.toList).toArray := by
  have h := spl_at (L := u.toList ++ X.toList.drop n) (A := u.toList) (B := X.toList.drop n) (T := []) (vs := v.toList) (off := n) (by rw [List.append_nil]) hul (by rw [List.length_drop]; omega)
  rw [Nat.one_mul,h,List.append_nil]
 have e1 := (foldl_arr (0 * n) u X).trans a1
 have e2 := (foldl_arr (1 * n) v (u.toList ++ X.toList.drop n).toArray).trans a2
 have hYs : (u.toList ++ X.toList.drop n).toArray.size = 2 * n := by rw [List.size_toArray,List.length_append,List.length_drop]; omega
 have h3 : ¬ (u.size ≠ n) := by omega
 have h4 : ¬ (0 * n + u.size > X.size) := by omega
 have h5 : ¬ (v.size ≠ n) := by omega
 have h6 : ¬ (1 * n + v.size > (u.toList ++ X.toList.drop n).toArray.size) := by omega
 unfold Instr.fill
 simp only [Value.cells,h3,h4,decide_false,Bool.or_self,Bool.false_eq_true,if_false]
 rw [show Array.foldl (fun cs x => match x with | (c,j) => cs.setIfInBounds (0 * n + j) c) X u.zipIdx = (u.toList ++ X.toList.drop n).toArray from e1]
 unfold Instr.fill
 simp only [Value.cells,h5,h6,decide_false,Bool.or_self,Bool.false_eq_true,if_false]
 rw [show Array.foldl (fun cs x => match x with | (c,j) => cs.setIfInBounds (1 * n + j) c) (u.toList ++ X.toList.drop n).toArray v.zipIdx = (u.toList ++ v.toList).toArray from e2]
 rfl
theorem run_buildSlice_agg2 {P : Program} {w : World} {t e : TypeId} {u v : Array Value} {inf : TypeInfo} {z : Value} (ht : P.underlying t = some (.slice e)) (hi : P.info? e = some inf) (hz : inf.zero = some z) (hu : u.size = inf.size) (hv : v.size = inf.size) (h0 : 0 < inf.size) (h1 : inf.size ≤ 8388608) :
  (Instr.buildSlice t 2 #[(0,.agg u),(1,.agg v)]).run P w = .ok (.slice (some ⟨w.heap.size,0,none⟩) 2 2) (w.alloc (.cells (u.toList ++ v.toList).toArray e (0,0))) := by
 have hn : ¬ 2 * inf.size > 2 ^ 24 := by omega
 have hn0 : ¬ 2 * inf.size = 0 := by omega
 have hf := fill_two (X := (Array.range (2 * inf.size)).map (z.cells[· % z.cells.size]!)) (u := u) (v := v) (n := inf.size) (by simp) hu hv
 have e : (u.toList ++ v.toList).toArray = u ++ v := by apply Array.ext'; simp
 rw [e] at hf ⊢
 simp [Instr.buildSlice,run_underlying' ht,run_sizeOf' hi,hn,hn0,zeroValue,typeInfo,program,Sem.run,hi,hz,hf,newRow,newObj]
theorem Eff.buildAgg2 {C : Cx} {R O : List (Nat × Obj)} {Γ : Env} {op : Oper} {t e : TypeId} {x y : Operand} {u v : Array Value} (ho : op.op = .buildSlice t 2 #[(0,x),(1,y)]) (hx : opd Γ [] x = some (.agg u)) (hy : opd Γ [] y = some (.agg v)) (ht : C.P.underlying t = some (.slice e)) {n : Nat} (hsz : (C.P.info? e).map (·.size) = some n) {z : Value} (hz0 : (C.P.info? e).bind (·.zero) = some z)
  (hu : u.size = n) (hv : v.size = n) (h0 : 0 < n) (h1 : n ≤ 8388608) :
  Eff C R O Γ op Nat (fun b => .slice (some ⟨b,0,none⟩) 2 2) (fun b => (b,.cells (u.toList ++ v.toList).toArray e (0,0)) :: O) (fun b => C.w0.heap.size ≤ b ∧ b ∉ O.map (·.1)) := by
 refine Eff.of_run fun a w hs hp => ⟨w.heap.size,w.alloc (.cells (u.toList ++ v.toList).toArray e (0,0)),⟨hp.ext.size,hp.fresh (Nat.le_refl _)⟩,?_,hp.alloc _⟩
 obtain ⟨inf,hi,hse⟩ := Option.map_eq_some_iff.1 hsz
 obtain ⟨inf',hi',hz⟩ := Option.bind_eq_some_iff.1 hz0
 rw [hi] at hi'
 simp only [Option.some.injEq] at hi'
 subst hi'
 subst hse
 have hr := run_buildSlice_agg2 (P := C.P) (w := w) ht hi hz hu hv h0 h1
 have e : (u.toList ++ v.toList).toArray = u ++ v := by apply Array.ext'; simp
 rw [e] at hr ⊢
 simp [execOp,ho,opd_ok hs (holds_nil _) hx,opd_ok hs (holds_nil _) hy,hr]
end K
end Go.Proofs.YtohjpggjgomgoaaGreatDoor
namespace Go.Proofs.YtohjpggjgomgoaaGreatDoor
open K
set_option linter.unusedVariables false
theorem row_at (bl : List UInt8) : ∀ (n j : Nat),j < n → n ≤ 64 → rg (row bl n) j = wnext bl (row bl j) j
 | n + 1,j,h,hn => by
  rw [row]
  unfold rg
  rw [List.getD_eq_getElem?_getD,List.getElem?_set]
  by_cases hj : n = j
  ·subst hj
   rw [if_pos rfl,if_pos (by rw [row_len]; omega)]; rfl
  ·rw [if_neg hj,← List.getD_eq_getElem?_getD]
   exact row_at bl n j (by omega) (by omega)
theorem row_low (bl : List UInt8) {t j : Nat} (hj : j < t) (ht : t ≤ 64) : rg (row bl t) j = rg (row bl 64) j := by
 rw [row_at bl t j hj ht,row_at bl 64 j (by omega) (Nat.le_refl _)]
namespace I
noncomputable def goK {β : Type} (c : W8 → β) : List Nat → List Nat → List Nat → W8 → β
 | [],_,_,s => c s
 | k :: ks,bs,win,s =>
  fN (match bs with | b :: _ => b | [] => wn4 (win.getD 1 0) (win.getD 6 0) (win.getD 14 0) (win.getD 15 0)) fun w =>
  fN (frst k w s) fun f1 => fN ((f1 + scnd s) % 4294967296) fun a => fN ((s.d + f1) % 4294967296) fun e =>
  goK c ks bs.tail (w :: win) ⟨a,s.a,s.b,s.c,e,s.e,s.f,s.g⟩
def wds (bl : List UInt8) : List Nat := (List.range 16).map (shBe bl)
theorem goK_ok {β : Type} (c : W8 → β) (hs : List Nat) (bl : List UInt8) : ∀ (m t : Nat),t + m = 64 → goK c (Kc.drop t) ((wds bl).drop t) (((row bl 64).take t).reverse) (rv hs bl t) = c (rv hs bl 64)
 | 0,t,h => by
  obtain rfl : t = 64 := by omega
  rfl
 | m + 1,t,h => by
  have ht : t < 64 := by omega
  have hk : Kc.drop t = rg Kc t :: Kc.drop (t + 1) := by
   rw [List.drop_eq_getElem_cons (show t < Kc.length from ht)]
   unfold rg
   rw [List.getD_eq_getElem?_getD,List.getElem?_eq_getElem (show t < Kc.length from ht)]; rfl
  have hw : (match (wds bl).drop t with | b :: _ => b | [] => wn4 ((((row bl 64).take t).reverse).getD 1 0) ((((row bl 64).take t).reverse).getD 6 0) ((((row bl 64).take t).reverse).getD 14 0) ((((row bl 64).take t).reverse).getD 15 0)) = rg (row bl 64) t := by
   rw [row_at bl 64 t ht (Nat.le_refl _)]
   unfold wnext
   by_cases h16 : t < 16
   ·rw [if_pos h16,List.drop_eq_getElem_cons (show t < (wds bl).length by simp [wds]; omega)]
    simp [wds]
   ·rw [if_neg h16,List.drop_eq_nil_of_le (show (wds bl).length ≤ t by simp [wds]; omega)]
    have hg : ∀ i,i < 16 → (((row bl 64).take t).reverse).getD i 0 = rg (row bl t) (t - 1 - i) := fun i hi => by
     rw [row_low bl (show t - 1 - i < t by omega) (by omega)]
     unfold rg
     have hl : ((row bl 64).take t).length = t := by rw [List.length_take,row_len]; omega
     rw [List.getD_eq_getElem?_getD,List.getElem?_reverse (by omega),hl,List.getElem?_take,if_pos (by omega),List.getD_eq_getElem?_getD]
    simp only
    rw [hg 1 (by omega),hg 6 (by omega),hg 14 (by omega),hg 15 (by omega),show t - 1 - 1 = t - 2 by omega,show t - 1 - 6 = t - 7 by omega,show t - 1 - 14 = t - 15 by omega,show t - 1 - 15 = t - 16 by omega]
  rw [hk]
  unfold goK
  rw [fN_eq,fN_eq,fN_eq,fN_eq,hw]
  have hr : rg (row bl 64) t :: ((row bl 64).take t).reverse = ((row bl 64).take (t + 1)).reverse := by
   rw [List.take_succ_eq_append_getElem (show t < (row bl 64).length by rw [row_len]; omega),List.reverse_append]
   unfold rg
   rw [List.getD_eq_getElem?_getD,List.getElem?_eq_getElem (show t < (row bl 64).length by rw [row_len]; omega)]; rfl
  have hd : ((wds bl).drop t).tail = (wds bl).drop (t + 1) := by rw [List.tail_drop]
  rw [hr,hd]
  have := goK_ok c hs bl m (t + 1) (by omega)
  rw [rv_succ] at this
  rw [← rnd_def]
  exact this
def addW (x y : W8) : W8 := ⟨(x.a + y.a) % 4294967296,(x.b + y.b) % 4294967296,(x.c + y.c) % 4294967296,(x.d + y.d) % 4294967296,(x.e + y.e) % 4294967296,(x.f + y.f) % 4294967296,(x.g + y.g) % 4294967296,(x.h + y.h) % 4294967296⟩
theorem sm_add (x y : W8) : sm (w8l x) (w8l y) 8 = w8l (addW x y) := rfl
noncomputable def fW {β : Type} (x : W8) (c : W8 → β) : β :=
 fN x.a fun a => fN x.b fun b => fN x.c fun c' => fN x.d fun d => fN x.e fun e => fN x.f fun f => fN x.g fun g => fN x.h fun h => c ⟨a,b,c',d,e,f,g,h⟩
theorem fW_eq {β : Type} (x : W8) (c : W8 → β) : fW x c = c x := by simp only [fW,fN_eq]
noncomputable def wordsK {β : Type} (c : List Nat → List Nat → β) : Nat → List Nat → List Nat → β
 | 0,bs,acc => c acc bs
 | m + 1,bs,acc => match bs with
  | x :: y :: z :: v :: bs => fN (be4 x y z v) fun w => wordsK c m bs (acc ++ [w])
  | _ => c acc bs
theorem wordsK_ok {β : Type} (c : List Nat → List Nat → β) : ∀ (m : Nat) (bs acc : List Nat),4 * m ≤ bs.length → wordsK c m bs acc = c (acc ++ (List.range m).map fun i => be4 (bs.getD (4 * i) 0) (bs.getD (4 * i + 1) 0) (bs.getD (4 * i + 2) 0) (bs.getD (4 * i + 3) 0)) (bs.drop (4 * m))
 | 0,bs,acc,_ => by simp [wordsK]
 | m + 1,bs,acc,h => by
  match bs,h with
  | x :: y :: z :: v :: bs,h =>
   simp only [List.length_cons] at h
   rw [wordsK,fN_eq,wordsK_ok c m bs _ (by omega),List.range_succ_eq_map,List.map_cons,List.map_map,List.append_assoc]
   have e5 : (x :: y :: z :: v :: bs).drop (4 * (m + 1)) = bs.drop (4 * m) := by rw [show 4 * (m + 1) = 4 * m + 4 by omega]; rfl
   rw [e5]
   congr 2
noncomputable def blkK {β : Type} (c : W8 → β) : Nat → List Nat → W8 → β
 | 0,_,s => c s
 | k + 1,bs,s => wordsK (fun ws rest => goK (fun v => fW (addW s v) fun s' => blkK c k rest s') Kc ws [] s) 16 bs []
theorem un8_get {L : List Nat} (hL : ∀ b ∈ L,b < 256) {i : Nat} (h : i < 64) (hl : 64 ≤ L.length) : L.getD i 0 = bt4 (un8 (L.take 64)) i := by
 have h1 : i < L.length := by omega
 unfold bt4 un8
 rw [List.getD_eq_getElem?_getD,List.getD_eq_getElem?_getD,List.getElem?_map,List.getElem?_take,if_pos h,List.getElem?_eq_getElem h1]
 have := hL _ (List.getElem_mem h1)
 simp only [Option.map_some,Option.getD_some]
 simp
 omega
theorem blkK_ok {β : Type} (c : W8 → β) : ∀ (k : Nat) (L : List Nat) (s : W8),(∀ b ∈ L,b < 256) → L.length = 64 * k → ∃ v,blkK c k L s = c v ∧ w8l v = mixes k (un8 L) (w8l s)
 | 0,L,s,_,_ => ⟨s,rfl,rfl⟩
 | k + 1,L,s,hL,hl => by
  have hw : (List.range 16).map (fun i => be4 (L.getD (4 * i) 0) (L.getD (4 * i + 1) 0) (L.getD (4 * i + 2) 0) (L.getD (4 * i + 3) 0)) = wds (un8 (L.take 64)) := by
   unfold wds
   apply List.map_congr_left
   intro i hi
   have := List.mem_range.1 hi
   unfold shBe
   rw [un8_get hL (by omega) (by omega),un8_get hL (by omega) (by omega),un8_get hL (by omega) (by omega),un8_get hL (by omega) (by omega)]
  have hg := goK_ok (fun v => fW (addW s v) fun s' => blkK c k (L.drop 64) s') (w8l s) (un8 (L.take 64)) 64 0 rfl
  obtain ⟨v,h1,h2⟩ := blkK_ok c k (L.drop 64) (addW s (rv (w8l s) (un8 (L.take 64)) 64)) (fun b hb => hL b (List.mem_of_mem_drop hb)) (by rw [List.length_drop]; omega)
  refine ⟨v,?_,?_⟩
  ·unfold blkK
   rw [wordsK_ok _ 16 L [] (by omega),hw,List.nil_append]
   have e0 : rv (w8l s) (un8 (L.take 64)) 0 = s := rfl
   rw [List.drop_zero,List.drop_zero,List.take_zero,e0] at hg
   refine Eq.trans hg ?_
   rw [fW_eq]; exact h1
  ·rw [h2,mixes]
   have e1 : (un8 L).drop 64 = un8 (L.drop 64) := by unfold un8; rw [List.map_drop]
   have e2 : (un8 L).take 64 = un8 (L.take 64) := by unfold un8; rw [List.map_take]
   rw [e1,e2]
   unfold mixF
   rw [sm_add]
noncomputable def bytesK {β : Type} (c : List Nat → β) : Nat → Nat → List Nat → β
 | 0,_,acc => c acc
 | n + 1,x,acc => fN (x % 256) fun b => fN (x / 256) fun y => bytesK c n y (b :: acc)
theorem val_snoc (l : List UInt8) (b : UInt8) : val (l ++ [b]) = val l * 256 + b.toNat := by
 have h : ∀ (l : List UInt8) (a : Nat),strOf (l ++ [b]) a = strOf l a * 256 + b.toNat := by
  intro l
  induction l with
  | nil => intro a; rfl
  | cons x l ih => intro a; exact ih _
 exact h l 0
theorem bytesK_ok {β : Type} (c : List Nat → β) : ∀ (n : Nat) (l : List UInt8) (acc : List Nat),l.length = n → bytesK c n (val l) acc = c (l.map UInt8.toNat ++ acc)
 | 0,l,acc,h => by rw [List.eq_nil_of_length_eq_zero h]; rfl
 | n + 1,l,acc,h => by
  obtain ⟨l',b,rfl⟩ : ∃ l' b,l = l' ++ [b] := by
   rcases List.eq_nil_or_concat l with h0 | ⟨l',b,h0⟩
   ·rw [h0] at h; cases h
   ·exact ⟨l',b,by rw [h0]; simp⟩
  have hb : b.toNat < 256 := UInt8.toNat_lt b
  rw [bytesK,fN_eq,fN_eq,val_snoc,show (val l' * 256 + b.toNat) % 256 = b.toNat by omega,show (val l' * 256 + b.toNat) / 256 = val l' by omega,bytesK_ok c n l' _ (by rw [List.length_append] at h; simpa using h)]
  simp
noncomputable def catK {β : Type} : List (Nat × Nat) → List Nat → (List Nat → β) → β
 | [],acc,c => c acc
 | p :: r,acc,c => catK r acc fun acc' => bytesK c p.1 p.2 acc'
theorem catK_ok {β : Type} : ∀ (ss : List ByteArray) (acc : List Nat) (c : List Nat → β),catK (ss.map fun s => (s.size,val s.data.toList)) acc c = c ((scat ss).map UInt8.toNat ++ acc)
 | [],acc,c => rfl
 | s :: ss,acc,c => by
  rw [List.map_cons,catK,catK_ok ss acc]
  rw [bytesK_ok c s.size s.data.toList _ (by simp)]
  rw [← List.append_assoc,← List.map_append]
  rfl
def totK (l : List (Nat × Nat)) : Nat := l.foldr (fun p n => p.1 + n) 0
theorem totK_ok : ∀ (ss : List ByteArray),totK (ss.map fun s => (s.size,val s.data.toList)) = (scat ss).length
 | [] => rfl
 | s :: ss => by
  have ih := totK_ok ss
  unfold totK at *
  rw [List.map_cons,List.foldr_cons,ih]
  have : scat (s :: ss) = s.data.toList ++ scat ss := rfl
  rw [this,List.length_append]
  simp
def W0 : W8 := ⟨1779033703,3144134277,1013904242,2773480762,1359893119,2600822924,528734635,1541459225⟩
noncomputable def fB4 {β : Type} (x : Nat) (c : AV → β) : β :=
 fN (x / 16777216 % 256) fun p => fN (x / 65536 % 256) fun q => fN (x / 256 % 256) fun r => fN (x % 256) fun s => c (.node (.node (.int .u8 (.ofNat p)) (.int .u8 (.ofNat q))) (.node (.int .u8 (.ofNat r)) (.int .u8 (.ofNat s))))
def t4 (x : Nat) : AV := .node (.node (.int .u8 (.ofNat (x / 16777216 % 256))) (.int .u8 (.ofNat (x / 65536 % 256)))) (.node (.int .u8 (.ofNat (x / 256 % 256))) (.int .u8 (.ofNat (x % 256))))
theorem fB4_eq {β : Type} (x : Nat) (c : AV → β) : fB4 x c = c (t4 x) := by simp only [fB4,fN_eq,t4]
def t32 (v : W8) : AV := .node (.node (.node (t4 v.a) (t4 v.b)) (.node (t4 v.c) (t4 v.d))) (.node (.node (t4 v.e) (t4 v.f)) (.node (t4 v.g) (t4 v.h)))
noncomputable def outK {β : Type} (c : AV → β) (v : W8) : β :=
 fB4 v.a fun a => fB4 v.b fun b => fB4 v.c fun c' => fB4 v.d fun d => fB4 v.e fun e => fB4 v.f fun f => fB4 v.g fun g => fB4 v.h fun h =>
 c (.node (.node (.node a b) (.node c' d)) (.node (.node e f) (.node g h)))
theorem outK_eq {β : Type} (c : AV → β) (v : W8) : outK c v = c (t32 v) := by simp only [outK,fB4_eq,t32]
noncomputable def shaK {β : Type} (l : List (Nat × Nat)) (c : AV → β) : β := fN (totK l) fun N => catK l (tailN N) fun L => blkK (outK c) (L.length / 64) L W0
theorem shaK_ok {β : Type} (ss : List ByteArray) (c : AV → β) : ∃ v,shaK (ss.map fun s => (s.size,val s.data.toList)) c = c (t32 v) ∧ shaD (scat ss) = dgr (w8l v) 8 := by
 have hl : ((scat ss).map UInt8.toNat ++ tailN (scat ss).length).length = 64 * (((scat ss).map UInt8.toNat ++ tailN (scat ss).length).length / 64) := by
  have := tailN_len (scat ss).length
  rw [List.length_append,List.length_map]; omega
 have hb : ∀ b ∈ (scat ss).map UInt8.toNat ++ tailN (scat ss).length,b < 256 := by
  intro b hb
  rcases List.mem_append.1 hb with hb | hb
  ·obtain ⟨x,_,rfl⟩ := List.mem_map.1 hb
   exact UInt8.toNat_lt x
  ·unfold tailN at hb
   rcases List.mem_cons.1 hb with rfl | hb
   ·decide
   ·rcases List.mem_append.1 hb with hb | hb
    ·rw [(List.mem_replicate.1 hb).2]; decide
    ·obtain ⟨i,_,rfl⟩ := List.mem_map.1 hb
     exact Nat.mod_lt _ (by decide)
 obtain ⟨v,h1,h2⟩ := blkK_ok (outK c) _ _ W0 hb hl
 refine ⟨v,?_,?_⟩
 ·unfold shaK
  rw [fN_eq,totK_ok,catK_ok,h1,outK_eq]
 ·have hu : un8 ((scat ss).map UInt8.toNat ++ tailN (scat ss).length) = scat ss ++ un8 (tailN (scat ss).length) := by
   unfold un8
   rw [List.map_append,List.map_map]
   congr 1
   conv => rhs; rw [← List.map_id (scat ss)]
   apply List.map_congr_left
   intro b _
   simp
  rw [hu] at h2
  have hk : (scat ss).length + (tailN (scat ss).length).length = 64 * (((scat ss).map UInt8.toNat ++ tailN (scat ss).length).length / 64) := by
   rw [List.length_append,List.length_map] at hl ⊢; exact hl
  rw [shaD_mixes (scat ss) hk,h2]
  rfl
noncomputable def tabL (t : AV) : List Nat → Nat → Bool
 | [],_ => true
 | k :: ks,i => (match cget 6 t i with | .int .u32 (.ofNat m) => Nat.beq m k | _ => false) && tabL t ks (i + 1)
theorem tabL_ok (t : AV) : ∀ (ks : List Nat) (i : Nat),tabL t ks i = true → ∀ j,j < ks.length → cget 6 t (i + j) = .int .u32 (.ofNat (rg ks j))
 | k :: ks,i,h,j,hj => by
  rw [tabL,Bool.and_eq_true] at h
  cases j with
  | zero =>
   have h1 := h.1
   split at h1
   ·rename_i m hm
    rw [Nat.add_zero,hm,beqn_iff.1 h1]; rfl
   ·cases h1
  | succ j =>
   have := tabL_ok t ks (i + 1) h.2 j (by simpa using hj)
   rw [show i + (j + 1) = i + 1 + j by omega,this]; rfl
noncomputable def strsK (d : Nat) (t : AV) : Nat → Nat → Option (List (Nat × Nat))
 | 0,_ => some []
 | k + 1,off => match cget d t off with
  | .str m x => match strsK d t k (off + 1) with
   | some l => some ((m,x) :: l)
   | none => none
  | _ => none
theorem strsK_ok {σ : Sg} {d : Nat} {t : AV} {cs : Array Value} : ∀ (k off : Nat) (l : List (Nat × Nat)),(∀ i,i < k → ∃ v,cs[off + i]? = some v ∧ Rel σ (cget d t (off + i)) v) → strsK d t k off = some l →
  ∃ ss : List ByteArray,ss.length = k ∧ l = ss.map (fun s => (s.size,val s.data.toList)) ∧ ∀ i,i < k → cs[off + i]? = some (.string (ssat ss i))
 | 0,off,l,_,h => by
  simp only [strsK,Option.some.injEq] at h
  exact ⟨[],rfl,by rw [← h]; rfl,fun i hi => absurd hi (Nat.not_lt_zero i)⟩
 | k + 1,off,l,hc,h => by
  unfold strsK at h
  split at h
  ·rename_i m x hm
   split at h
   ·rename_i l' hl
    simp only [Option.some.injEq] at h
    obtain ⟨v,h1,h2⟩ := hc 0 (Nat.succ_pos k)
    rw [Nat.add_zero] at h1 h2
    rw [hm] at h2
    cases h2 with
    | str s _ _ hn hx =>
    obtain ⟨ss,e1,e2,e3⟩ := strsK_ok k (off + 1) l' (fun i hi => by
     have := hc (i + 1) (by omega)
     rw [show off + (i + 1) = off + 1 + i by omega] at this; exact this) hl
    refine ⟨s :: ss,by rw [List.length_cons,e1],by rw [← h,e2,hn,hx]; rfl,fun i hi => ?_⟩
    cases i with
    | zero => exact h1
    | succ i => rw [show off + (i + 1) = off + 1 + i by omega]; exact e3 i (by omega)
   ·cases h
  ·cases h
noncomputable def sumX (fn : Nat) : KF := fun f args h nx =>
 bif Nat.beq f fn then match cget HD h 0 with
  | .cells _ n0 _ t0 => bif Nat.beq n0 64 && tabL t0 Kc 0 then match args with
   | [.nils] => shaK [] fun d => some (.agg 32 d,h,nx)
   | [.sl b off len lb 1] => match cget HD h b with
    | .cells _ n _ t => bif Nat.ble (off + len) n && Nat.ble len 1000000 then match strsK (lg n) t len off with
     | some l => shaK l fun d => some (.agg 32 d,h,nx)
     | none => none
     else none
    | _ => none
   | _ => none
   else none
  | _ => none
 else none
structure ShaSum (P : Program) (fn : Nat) : Prop where
 has : ∃ f c,P.funcs[fn]? = some f ∧ (f.name == "runtime.NumGoroutine") = false ∧ f.body = some c
 sum : ∀ (la : Option Addr) (cap : Nat) (ss : List ByteArray) (Rl : List (Nat × Obj)) (kt : Array Value) (t0 : TypeId) (fr0 : Nat × Nat) (w : World),InS Rl la ss.length (fun j => .string (ssat ss j)) → ss.length ≤ maxLen →
  Has w ((0,.cells kt t0 fr0) :: Rl) → KT kt → Calls P fn #[.slice la ss.length cap] w fun e w' => e = .returned (.agg (bv (shaD (scat ss)))) ∧ Ext [] w w'
theorem t32_get (v : W8) : ∀ i,i < 32 → cget 5 (t32 v) i = .int .u8 (Int.ofNat ((dgr (w8l v) 8).getD i 0).toNat)
 | 0,_ => rfl
 | 1,_ => rfl
 | 2,_ => rfl
 | 3,_ => rfl
 | 4,_ => rfl
 | 5,_ => rfl
 | 6,_ => rfl
 | 7,_ => rfl
 | 8,_ => rfl
 | 9,_ => rfl
 | 10,_ => rfl
 | 11,_ => rfl
 | 12,_ => rfl
 | 13,_ => rfl
 | 14,_ => rfl
 | 15,_ => rfl
 | 16,_ => rfl
 | 17,_ => rfl
 | 18,_ => rfl
 | 19,_ => rfl
 | 20,_ => rfl
 | 21,_ => rfl
 | 22,_ => rfl
 | 23,_ => rfl
 | 24,_ => rfl
 | 25,_ => rfl
 | 26,_ => rfl
 | 27,_ => rfl
 | 28,_ => rfl
 | 29,_ => rfl
 | 30,_ => rfl
 | 31,_ => rfl
 | n + 32,h => absurd h (by omega)
theorem t32_rel {σ : Sg} {v : W8} {l : List UInt8} (h : l = dgr (w8l v) 8) : Rel σ (.agg 32 (t32 v)) (.agg (bv l)) := by
 have hl : l.length = 32 := by rw [h]; exact dgr_len (Nat.le_refl 8)
 refine .agg 32 _ _ ((bv_size _).trans hl) (fun i u hu => all_bv _ _ (List.mem_of_getElem? (by rw [Array.getElem?_toList]; exact hu))) (fun i u hu => ?_)
 have hi : i < 32 := by
  have := (Array.getElem?_eq_some_iff.1 hu).1
  rw [bv_size,hl] at this; exact this
 rw [bv_get hl hi] at hu
 simp only [Option.some.injEq] at hu
 show Rel σ (cget 5 (t32 v) i) u
 rw [t32_get v i hi,← hu,h]
 exact .int _ _
theorem sumX_ok {P : Program} {G fn : Nat} (S : ShaSum P fn) (hG : 0 < G) : XOk P G (sumX fn) := by
 intro f args h nx v h' nx' hh
 unfold sumX at hh
 cases hf : Nat.beq f fn with
 | false => simp [hf] at hh
 | true =>
  have := beqn_iff.1 hf
  subst this
  simp only [hf,cond_true] at hh
  intro σ w0 B w vs H hg hr
  unfold CalleeOk
  rw [if_pos (by omega),show 2 * f / 2 = f by omega]
  refine ⟨S.has,?_⟩
  split at hh
  ·rename_i ty0 n0 ro0 t0 hc0
   cases hz : (Nat.beq n0 64 && tabL t0 Kc 0) with
   | false => simp [hz] at hh
   | true =>
    simp only [hz,cond_true] at hh
    rw [Bool.and_eq_true] at hz
    have hn0 := beqn_iff.1 hz.1
    subst hn0
    obtain ⟨size0,hs0⟩ := hg 0 hG
    obtain ⟨cs0,fr0,tt0,g1,g2,⟨_,g3,_⟩,g4,_⟩ := H.cells hs0 hc0
    have hK : KT cs0 := fun t ht => by
     obtain ⟨u,u1,u2,u3⟩ := g4 t ht
     have hq := tabL_ok t0 Kc 0 hz.2 t ht
     rw [Nat.zero_add] at hq u1
     rw [show lg 64 = 6 from rfl,hq] at u3
     cases u3
     exact u1
    have fin : ∀ (la : Option Addr) (cap : Nat) (ss : List ByteArray) (Rl : List (Nat × Obj)),InS Rl la ss.length (fun j => .string (ssat ss j)) → ss.length ≤ maxLen → Has w Rl → vs = [.slice la ss.length cap] →
      shaK (ss.map fun s => (s.size,val s.data.toList)) (fun d => some (AV.agg 32 d,h,nx)) = some (v,h',nx') →
      Calls P f vs.toArray w fun e w' => ∃ σ' v',SubX nx σ σ' ∧ Dk nx h h' ∧ nx ≤ nx' ∧ e = .returned v' ∧ Rel σ' v v' ∧ HS σ' h' nx' w0 B w' := by
     intro la cap ss Rl hI hn hR hv hk
     obtain ⟨x,k1,k2⟩ := shaK_ok ss (fun d => some (AV.agg 32 d,h,nx))
     rw [k1] at hk
     simp only [Option.some.injEq,Prod.mk.injEq] at hk
     obtain ⟨rfl,rfl,rfl⟩ := hk
     rw [hv]
     refine (S.sum la cap ss Rl cs0 tt0 fr0 w hI hn (fun e he => by
      rcases List.mem_cons.1 he with rfl | he
      ·exact g1
      ·exact hR e he) hK).mono ?_
     rintro e w' ⟨rfl,hE⟩
     exact ⟨σ,_,SubX.refl _ _,Dk.refl _ _,Nat.le_refl _,rfl,t32_rel k2,H.more (fun k hk => hE.block k hk (by simp)) hE.size hE.os hE.tape hE.output⟩
    obtain ⟨hrl,hri⟩ := hr
    split at hh
    ·match vs,hrl with
     | [u],_ =>
      have := hri 0 _ u rfl rfl
      cases this
      exact fin none 0 [] [] (fun h => absurd h (by simp)) (by simp [maxLen]) (fun _ h => by cases h) rfl hh
    ·rename_i b off len lb
     match vs,hrl with
     | [u],_ =>
      have hu := hri 0 _ u rfl rfl
      cases hu with
      | sl _ _ _ _ _ r base size o cap q1 q2 q3 q4 q5 =>
      split at hh
      ·rename_i ty n ro t hc
       cases hq : (Nat.ble (off + len) n && Nat.ble len 1000000) with
       | false => simp [hq] at hh
       | true =>
        simp only [hq,cond_true] at hh
        rw [Bool.and_eq_true] at hq
        have hle := ble_iff.1 hq.1
        have hle2 := ble_iff.1 hq.2
        obtain ⟨cs,fr,tt,p1,p2,⟨rfl,p3,_⟩,p4,_⟩ := H.cells q1 hc
        split at hh
        ·rename_i l hl
         obtain ⟨ss,e1,e2,e3⟩ := strsK_ok (σ := σ) (cs := cs) len off l (fun i hi => by
          obtain ⟨u,u1,_,u3⟩ := p4 (off + i) (by omega)
          exact ⟨u,by rw [Nat.zero_add] at u1; exact u1,u3⟩) hl
         subst e2
         refine fin (some ⟨r,o,none⟩) cap ss [(r,.cells cs tt fr)] (fun h0 => ⟨r,o,cs,tt,fr,rfl,List.mem_singleton.2 rfl,fun j hj => ?_⟩) (by rw [e1]; unfold maxLen; omega) (fun e he => by rw [List.mem_singleton.1 he]; exact p1) (by rw [e1]) hh
         have ho := q4 (by omega)
         rw [ho,Nat.zero_add]
         exact e3 j (by omega)
        ·cases hh
      ·cases hh
    ·cases hh
  ·cases hh
noncomputable def orX (X Y : KF) : KF := fun f args h nx => match X f args h nx with
 | some r => some r
 | none => Y f args h nx
theorem orX_ok {P : Program} {G : Nat} {X Y : KF} (hX : XOk P G X) (hY : XOk P G Y) : XOk P G (orX X Y) := by
 intro f args h nx v h' nx' hh
 unfold orX at hh
 split at hh
 ·rename_i r hr
  simp only [Option.some.injEq] at hh
  exact hX f args h nx v h' nx' (hh ▸ hr)
 ·exact hY f args h nx v h' nx' hh
end I
theorem shaSumI : I.ShaSum Tryz.prog 36 := ⟨⟨_,_,Tryz.func36,rfl,rfl⟩,fun la cap ss Rl kt t0 fr0 w hI hn hR hK => shaSum la cap ss Rl w hI hn hR hK⟩
end Go.Proofs.YtohjpggjgomgoaaGreatDoor
namespace Go.Proofs.YtohjpggjgomgoaaGreatDoor
def roundsL : List Int := [1116352408,1899447441,3049323471,3921009573,961987163,1508970993,2453635748,2870763221,3624381080,310598401,607225278,1426881987,1925078388,2162078206,2614888103,3248222580,3835390401,4022224774,264347078,604807628,770255983,1249150122,1555081692,1996064986,2554220882,2821834349,2952996808,3210313671,3336571891,3584528711,113926993,338241895,666307205,773529912,1294757372,1396182291,1695183700,1986661051,2177026350,2456956037,2730485921,2820302411,3259730800,3345764771,3516065817,3600352804,4094571909,275423344,430227734,506948616,659060556,883997877,958139571,1322822218,1537002063,1747873779,1955562222,2024104815,2227730452,2361852424,2428436474,2756734187,3204031479,3329325298]
theorem closed_tabA {P : Program} {X : I.KF} {N k f : Nat} {kd : IntKind} {zs : List Int} (hX : I.XOk P 1 X) (hr : I.isTrue (I.callA P 1 X N k (2 * f) [] (I.tabH kd zs) 1) = true) {w : World} {t : TypeId} {fr : Nat × Nat}
  (hb : w.heap[0]? = some (.cells (zs.map fun z => Value.int kd z).toArray t fr)) : Calls P f #[] w fun e w' => e = .returned (.bool true) ∧ K.Ext [] w w' := by
 unfold I.isTrue at hr
 split at hr
 ·rename_i h' nx' hrun
  have hG : I.GRel (I.tabS zs.length) 1 := fun g hg => by
   have : g = 0 := by omega
   subst this
   exact ⟨zs.length,rfl⟩
  have hc := I.callA_ok hX k (2 * f) [] (I.tabH kd zs) 1 _ _ _ hrun (I.tabS zs.length) w I.tabB w [] (I.tab_start hb) hG ⟨rfl,fun i a v ha => by simp at ha⟩
  unfold I.CalleeOk at hc
  rw [if_pos (by omega),show 2 * f / 2 = f by omega] at hc
  refine hc.2.mono ?_
  rintro e w' ⟨σ',v',_,_,_,rfl,hr,H⟩
  cases hr
  exact ⟨rfl,H.os,H.tape,H.output,H.size,fun k hk _ => H.block k hk (fun h => h)⟩
 ·cases hr
set_option maxRecDepth 1000000 in
theorem awake04_run : I.isTrue (I.callA Tryz.prog 1 (I.orX (I.sumX 36) (I.orX (I.sortX 64 98 3) (I.sortX 64 125 3))) 10000 100 (2 * 5) [] (I.tabH .u32 roundsL) 1) = true := by kernel_rfl
theorem awake04 {w : World} {t : TypeId} {fr : Nat × Nat} (hb : w.heap[0]? = some (.cells (roundsL.map fun z => Value.int .u32 z).toArray t fr)) : Calls Tryz.prog 5 #[] w fun e w' => e = .returned (.bool true) ∧ K.Ext [] w w' := closed_tabA (I.orX_ok (I.sumX_ok shaSumI (by decide)) (I.orX_ok (I.sortX_ok L.sortedKeys65) (I.sortX_ok L.sortedKeys110))) awake04_run hb
end Go.Proofs.YtohjpggjgomgoaaGreatDoor
