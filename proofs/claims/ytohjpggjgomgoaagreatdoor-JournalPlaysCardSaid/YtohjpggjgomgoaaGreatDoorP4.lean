/- Texts on which the proof of this claim stands: ShaR2, Jn3, JnP, Jn6, JnO, Jn4. -/
import Derived.Test.YtohjpggjgomgoaaGreatDoorP3
import Derived.Test.YtohjpggjgomgoaaGreatDoorP2
namespace Go.Proofs.YtohjpggjgomgoaaGreatDoor
open K
set_option linter.unusedVariables false
set_option maxRecDepth 100000 in
set_option maxHeartbeats 4000000 in
theorem rSum (s : ByteArray) (w : World) (hsz : s.size ≤ 100000000) :
  Calls Tryz.prog 40 #[.string s] w fun e w' => e = .returned (.agg (bv (shaD s.data.toList))) ∧ Ext [] w w' := by
 refine enter (vs := [.string s]) [] [] [] Tryz.func40 rfl kr (HP.start w) ?_
 refine Cfg.begL rfl ?_
 refine Le (Eff.alloc (z := (.agg (bv (List.replicate 32 0)))) rfl kr) ?_
 rintro rs ⟨hrs,nrs⟩
 refine CfgL.done rfl ?_
 refine Cfg.begL rfl ?_
 refine Lp 1 [] (some [2,25]) n0 trivial ?_
 refine Le (Eff.toBytes rfl Tryz.underlying9 Tryz.underlying26 Tryz.underlying5 (t := s) kr [(rs,.cells (bv (List.replicate 32 0)) 95 (0,0))] [] rfl) ?_
 rintro mo kmo
 refine Lp 1 [] (some [2,3]) n0 trivial ?_
 refine CfgL.done rfl ?_
 refine Rg [2,3,4] [] n0 trivial ?_
 refine Cg (Γ' := [(4,[],.int .u64 ((((s.size : Int) % 18446744073709551616) * 8) % 18446744073709551616)),(3,[],.slice (some ⟨mo.b,0,none⟩) s.size mo.cap),(2,[],.pointer (some ⟨rs,0,none⟩))]) ?_
 refine Cfg.setG (congrArg (fun (xq : Int) => ([(4,[],.int .u64 xq),(3,[],.slice (some ⟨mo.b,0,none⟩) s.size mo.cap),(2,[],.pointer (some ⟨rs,0,none⟩))] : Env)) (show _ = ((lb s.size) : Int) from by unfold lb; omega)) ?_
 refine Cfg.begL rfl ?_
 refine Lp 1 [] none n0 trivial ?_
 refine Le (Eff.buildSlice (e := 5) (cells := #[.int .u8 128]) (parts := #[(0,.int .u8 128)]) rfl kr (fun _ => kr)) ?_
 rintro bk2 ⟨hbk2,nbk2⟩
 refine Le (Eff.appendM rfl Tryz.underlying26 kr (z := .int .u8 0) kr rfl mo kmo kr (b2 := bk2) (off2 := 0) (c2 := 1) kr (.int .u8 128) rfl [(bk2,.cells #[.int .u8 128] 5 (0,0)),(rs,.cells (bv (List.replicate 32 0)) 95 (0,0))] [] rfl (fun w1 h => h.ocell 0 rfl rfl) om) ?_
 rintro mo1 kmo1
 refine Lp 1 [] (some [2,3,4]) n0 trivial ?_
 refine CfgL.done rfl ?_
 refine Cfg.setO (congrArg (fun (xq : List Value) => (([(bk2,.cells #[.int .u8 128] 5 (0,0)),(rs,.cells (bv (List.replicate 32 0)) 95 (0,0))] ++ (MO.o 5 xq mo1 ++ [])) : List (Nat × Obj))) (show _ = ((bv (LB s 0)).toList) from lb_start s)) ?_
 refine Cfg.loop rfl (ι := Nat × MO) (fun (xz : Nat × MO) => match xz with | (j,mo) => [(3,[],.slice (some ⟨mo.b,0,none⟩) (s.size + 1 + j) mo.cap),(4,[],.int .u64 ((lb s.size) : Int)),(2,[],.pointer (some ⟨rs,0,none⟩))]) (fun (xz : Nat × MO) => match xz with | (j,mo) => ([(rs,.cells (bv (List.replicate 32 0)) 95 (0,0))] ++ (MO.o 5 ((bv (LB s j)).toList) mo ++ []))) (fun (xz : Nat × MO) => match xz with | (j,mo) => (j ≤ ((119 - s.size % 64) % 64)) ∧ (MOk mo (s.size + 1 + j) (bv (LB s j)).toList)) (fun (xz : Nat × MO) => match xz with | (j,mo) => ((119 - s.size % 64) % 64) - j) (0,mo1) ?_ (Conv.mk kr) (.cons _ (.cons_cons _ (List.Sublist.trans (List.Sublist.refl _) (List.sublist_append_right _ _)))) ?_
 ·exact ⟨Nat.zero_le _,lb_start s ▸ kmo1⟩
 ·rintro ⟨j,mo⟩ ⟨hj,kmo⟩
  refine Rg [2,3,4,37] [] (fun _ => [(0 ≤ (((s.size + 1 + j) : Nat) : Int) ∧ 0 < (64 : Int))]) ⟨om,trivial⟩ ?_
  refine Cfg.cond rfl (b := (((((s.size + 1 + j) : Nat) : Int) % 64) != (56 : Int))) kr (fun c1r => ?_) (fun c1r => ?_)
  ·have c1 := (bne_iff_ne.1 c1r)
   refine Cfg.begL rfl ?_
   refine Lp 1 [] (some [2,3,4,38]) n0 trivial ?_
   refine Le (Eff.buildSlice (e := 5) (cells := #[.int .u8 0]) (parts := #[(0,.int .u8 0)]) rfl kr (fun _ => kr)) ?_
   rintro bk3 ⟨hbk3,nbk3⟩
   refine Le (Eff.appendM rfl Tryz.underlying26 kr (z := .int .u8 0) kr rfl mo kmo kr (b2 := bk3) (off2 := 0) (c2 := 1) kr (.int .u8 0) rfl [(bk3,.cells #[.int .u8 0] 5 (0,0)),(rs,.cells (bv (List.replicate 32 0)) 95 (0,0))] [] rfl (fun w1 h => h.ocell 0 rfl rfl) om) ?_
   rintro mo2 kmo2
   refine Lp 1 [] (some [2,3,4]) n0 trivial ?_
   refine CfgL.done rfl ?_
   refine Cfg.setO (congrArg (fun (xq : List Value) => (([(bk3,.cells #[.int .u8 0] 5 (0,0)),(rs,.cells (bv (List.replicate 32 0)) 95 (0,0))] ++ (MO.o 5 xq mo2 ++ [])) : List (Nat × Obj))) (show _ = ((bv (LB s (j + 1))).toList) from lb_step s j)) ?_
   refine Cfg.again rfl (j + 1,mo2) ⟨by omega,lb_step s j ▸ kmo2⟩ (by show ((119 - s.size % 64) % 64) - (j + 1) < ((119 - s.size % 64) % 64) - j; omega) (Conv.mk kr) (.cons _ (.cons_cons _ (List.Sublist.refl _)))
  ·have c1 := (bne_eq_false_iff_eq.1 c1r)
   obtain rfl : j = ((119 - s.size % 64) % 64) := by omega
   refine Conv.cfg (Γ' := [(3,[],.slice (some ⟨mo.b,0,none⟩) (s.size + 1 + ((119 - s.size % 64) % 64)) mo.cap),(4,[],.int .u64 ((lb s.size) : Int)),(2,[],.pointer (some ⟨rs,0,none⟩))]) (Conv.mk kr) ?_
   refine Rg [2,3,4,5] [] n0 trivial ?_
   refine Cfg.setO (congrArg (fun (xq : List Value) => (([(rs,.cells (bv (List.replicate 32 0)) 95 (0,0))] ++ (MO.o 5 xq mo ++ [])) : List (Nat × Obj))) (show _ = ((bv (LC s 0)).toList) from by rw [lc_start])) ?_
   refine Cfg.loop rfl (ι := Nat × MO) (fun (xz : Nat × MO) => match xz with | (k,mo) => [(5,[],.int .i64 ((7 : Int) - (k : Int))),(3,[],.slice (some ⟨mo.b,0,none⟩) (s.size + 1 + ((119 - s.size % 64) % 64) + k) mo.cap),(4,[],.int .u64 ((lb s.size) : Int)),(2,[],.pointer (some ⟨rs,0,none⟩))]) (fun (xz : Nat × MO) => match xz with | (k,mo) => ([(rs,.cells (bv (List.replicate 32 0)) 95 (0,0))] ++ (MO.o 5 ((bv (LC s k)).toList) mo ++ []))) (fun (xz : Nat × MO) => match xz with | (k,mo) => (k ≤ 8) ∧ (MOk mo (s.size + 1 + ((119 - s.size % 64) % 64) + k) (bv (LC s k)).toList)) (fun (xz : Nat × MO) => match xz with | (k,mo) => 8 - k) (0,mo) ?_ (Conv.mk kr) (.cons_cons _ (List.Sublist.refl _)) ?_
   ·exact ⟨Nat.zero_le _,lc_start s ▸ kmo⟩
   ·rintro ⟨k,mo⟩ ⟨hk,kmo⟩
    refine Rg [2,3,4,5,42] [] n0 trivial ?_
    refine Cfg.cond rfl (b := (decide (((7 : Int) - (k : Int)) ≥ (0 : Int)))) kr (fun c2r => ?_) (fun c2r => ?_)
    ·have c2 := (of_decide_eq_true c2r)
     refine Cfg.begL rfl ?_
     refine CfgL.pure 6 [] (some [2,3,4,5,45,50]) (Γ' := [(50,[],.int .u8 ((((lb s.size) : Int) / ((2 ^ ((8 * ((7 : Int) - (k : Int)))).toNat : Nat) : Int)) % 256)),(45,[],.slice (some ⟨mo.b,0,none⟩) (s.size + 1 + ((119 - s.size % 64) % 64) + k) mo.cap),(5,[],.int .i64 ((7 : Int) - (k : Int))),(3,[],.slice (some ⟨mo.b,0,none⟩) (s.size + 1 + ((119 - s.size % 64) % 64) + k) mo.cap),(4,[],.int .u64 ((lb s.size) : Int)),(2,[],.pointer (some ⟨rs,0,none⟩))]) (nd := (fun _ => [((-9223372036854775808 : Int) ≤ (8 * ((7 : Int) - (k : Int))) ∧ (8 * ((7 : Int) - (k : Int))) ≤ 9223372036854775807),(0 ≤ (8 * ((7 : Int) - (k : Int))) ∧ ((8 * ((7 : Int) - (k : Int)))).toNat ≤ 64)])) kr (fun _ => kr) ⟨om,om,trivial⟩ ?_
     refine Le (Eff.buildSlice (e := 5) (cells := #[.int .u8 ((((lb s.size) : Int) / ((2 ^ ((8 * ((7 : Int) - (k : Int)))).toNat : Nat) : Int)) % 256)]) (parts := #[(0,.int .u8 ((((lb s.size) : Int) / ((2 ^ ((8 * ((7 : Int) - (k : Int)))).toNat : Nat) : Int)) % 256))]) rfl kr (fun _ => kr)) ?_
     rintro bk4 ⟨hbk4,nbk4⟩
     refine Le (Eff.appendM rfl Tryz.underlying26 kr (z := .int .u8 0) kr rfl mo kmo kr (b2 := bk4) (off2 := 0) (c2 := 1) kr (.int .u8 ((((lb s.size) : Int) / ((2 ^ ((8 * ((7 : Int) - (k : Int)))).toNat : Nat) : Int)) % 256)) rfl [(bk4,.cells #[.int .u8 ((((lb s.size) : Int) / ((2 ^ ((8 * ((7 : Int) - (k : Int)))).toNat : Nat) : Int)) % 256)] 5 (0,0)),(rs,.cells (bv (List.replicate 32 0)) 95 (0,0))] [] rfl (fun w1 h => h.ocell 0 rfl rfl) om) ?_
     rintro mo3 kmo3
     refine Lp 1 [] (some [2,3,4,5]) n0 trivial ?_
     refine CfgL.done rfl ?_
     refine Rg [2,3,4,5] [] (fun _ => [((-9223372036854775808 : Int) ≤ (((7 : Int) - (k : Int)) - 1) ∧ (((7 : Int) - (k : Int)) - 1) ≤ 9223372036854775807)]) ⟨om,trivial⟩ ?_
     have hst := lc_step s (k := k) om rfl
     refine Cfg.setO (congrArg (fun (xq : List Value) => (([(bk4,.cells #[.int .u8 ((((lb s.size) : Int) / ((2 ^ ((8 * ((7 : Int) - (k : Int)))).toNat : Nat) : Int)) % 256)] 5 (0,0)),(rs,.cells (bv (List.replicate 32 0)) 95 (0,0))] ++ (MO.o 5 xq mo3 ++ [])) : List (Nat × Obj))) (show _ = ((bv (LC s (k + 1))).toList) from hst)) ?_
     refine Cg (Γ' := [(5,[],.int .i64 (((7 : Int) - (k : Int)) - 1)),(3,[],.slice (some ⟨mo3.b,0,none⟩) ((s.size + 1 + ((119 - s.size % 64) % 64) + k) + 1) mo3.cap),(4,[],.int .u64 ((lb s.size) : Int)),(2,[],.pointer (some ⟨rs,0,none⟩))]) ?_
     refine Cfg.setG (congrArg (fun (xq : Int) => ([(5,[],.int .i64 xq),(3,[],.slice (some ⟨mo3.b,0,none⟩) ((s.size + 1 + ((119 - s.size % 64) % 64) + k) + 1) mo3.cap),(4,[],.int .u64 ((lb s.size) : Int)),(2,[],.pointer (some ⟨rs,0,none⟩))] : Env)) (show _ = ((7 : Int) - ((k + 1 : Nat) : Int)) from by omega)) ?_
     refine Cfg.again rfl (k + 1,mo3) ⟨by omega,hst ▸ kmo3⟩ (by show 8 - (k + 1) < 8 - k; omega) (Conv.mk kr) (.cons _ (.cons_cons _ (List.Sublist.refl _)))
    ·have c2 := (of_decide_eq_false c2r)
     obtain rfl : k = 8 := by omega
     refine Conv.cfg (Γ' := [(3,[],.slice (some ⟨mo.b,0,none⟩) (s.size + 1 + ((119 - s.size % 64) % 64) + 8) mo.cap),(2,[],.pointer (some ⟨rs,0,none⟩))]) (Conv.mk kr) ?_
     obtain ⟨M,hM⟩ : ∃ x,x = (s.data.toList ++ un8 (tailN s.size)) := ⟨_,rfl⟩
     have hml : M.length = s.size + 1 + ((119 - s.size % 64) % 64) + 8 := by rw [hM]; exact mm_len s
     have hK64 : 64 * (M.length / 64) = M.length := by rw [hml]; omega
     refine Cfg.setO (congrArg (fun (xq : List Value) => (([(rs,.cells (bv (List.replicate 32 0)) 95 (0,0))] ++ (MO.o 5 xq mo ++ [])) : List (Nat × Obj))) (show _ = ((bv M).toList) from by rw [lc_end s om,hM])) ?_
     refine Cfg.begL rfl ?_
     refine Le (Eff.buildSlice (e := 88) (cells := #[.int .u32 1779033703,.int .u32 3144134277,.int .u32 1013904242,.int .u32 2773480762,.int .u32 1359893119,.int .u32 2600822924,.int .u32 528734635,.int .u32 1541459225]) (parts := #[(0,.int .u32 1779033703),(1,.int .u32 3144134277),(2,.int .u32 1013904242),(3,.int .u32 2773480762),(4,.int .u32 1359893119),(5,.int .u32 2600822924),(6,.int .u32 528734635),(7,.int .u32 1541459225)]) rfl kr (fun _ => kr)) ?_
     rintro hb ⟨hhb,nhb⟩
     refine Lp 1 [] (some [2,3,6]) n0 trivial ?_
     refine CfgL.done rfl ?_
     refine Cfg.begL rfl ?_
     refine Le (Eff.callN (vs := []) (fun b : Nat => .slice (some ⟨b,0,none⟩) 64 64) (fun b => b) (fun _ => .cells (wv Kc) 88 (0,0)) (fun _ => True) rfl Tryz.func83 rfl rfl kr (fun w1 _ => rK w1)) ?_
     rintro cb ⟨-,hcb,ncb⟩
     refine Lp 1 [] (some [2,3,6,7]) n0 trivial ?_
     refine CfgL.done rfl ?_
     refine Rg [2,3,6,7,8] [] n0 trivial ?_
     refine Cfg.setO (congrArg (fun (xq : Array Value) => (([(cb,.cells (wv Kc) 88 (0,0)),(hb,.cells xq 88 (0,0)),(rs,.cells (bv (List.replicate 32 0)) 95 (0,0))] ++ (MO.o 5 ((bv M).toList) mo ++ [])) : List (Nat × Obj))) (show _ = (wv (mixes 0 M H8)) from rfl)) ?_
     refine Cfg.loop rfl (ι := Nat) (fun (q : Nat) => [(8,[],.int .i64 (((64 * q) : Nat) : Int)),(7,[],.slice (some ⟨cb,0,none⟩) 64 64),(6,[],.slice (some ⟨hb,0,none⟩) 8 8),(3,[],.slice (some ⟨mo.b,0,none⟩) (s.size + 1 + ((119 - s.size % 64) % 64) + 8) mo.cap),(2,[],.pointer (some ⟨rs,0,none⟩))]) (fun (q : Nat) => ([(cb,.cells (wv Kc) 88 (0,0)),(hb,.cells (wv (mixes q M H8)) 88 (0,0)),(rs,.cells (bv (List.replicate 32 0)) 95 (0,0))] ++ (MO.o 5 ((bv M).toList) mo ++ []))) (fun (q : Nat) => (q ≤ M.length / 64)) (fun (q : Nat) => M.length / 64 - q) 0 ?_ (Conv.mk kr) (.cons_cons _ (.cons_cons _ (.cons_cons _ (List.Sublist.refl _)))) ?_
     ·exact Nat.zero_le _
     ·rintro q hq
      obtain ⟨hs,hhs⟩ : ∃ x,x = mixes q M H8 := ⟨_,rfl⟩
      obtain ⟨bl,hbl⟩ : ∃ x,x = ck M q := ⟨_,rfl⟩
      have hh : hs.length = 8 := hhs ▸ mixes_len _ _ rfl
      have hlt : ∀ i,rg hs i < 2 ^ 32 := hhs ▸ mixes_lt _ _ sh0_ok.hlt
      refine Cfg.setO (congrArg (fun (xq : Array Value) => (([(cb,.cells (wv Kc) 88 (0,0)),(hb,.cells xq 88 (0,0)),(rs,.cells (bv (List.replicate 32 0)) 95 (0,0))] ++ (MO.o 5 ((bv M).toList) mo ++ [])) : List (Nat × Obj))) (show _ = (wv hs) from by rw [hhs])) ?_
      refine Rg [2,3,6,7,8,58] [] n0 trivial ?_
      refine Cfg.cond rfl (b := (decide ((((64 * q) : Nat) : Int) < (((s.size + 1 + ((119 - s.size % 64) % 64) + 8) : Nat) : Int)))) kr (fun c3r => ?_) (fun c3r => ?_)
      ·have c3 := (of_decide_eq_true c3r)
       refine Cfg.begL rfl ?_
       refine Le (Eff.makeRow (e := 88) (n := 64) (cells := (wv (row bl 0))) (v1 := .int .i64 64) (v2 := .int .i64 64) rfl kr kr (fun _ => kr)) ?_
       rintro wb ⟨hwb,nwb⟩
       refine Lp 1 [] (some [2,3,6,7,8,9]) n0 trivial ?_
       refine CfgL.done rfl ?_
       refine Rg [2,3,6,7,8,9,10] [] n0 trivial ?_
       refine Cfg.loop rfl (ι := Nat) (fun (t : Nat) => [(10,[],.int .i64 (t : Int)),(9,[],.slice (some ⟨wb,0,none⟩) 64 64),(8,[],.int .i64 (((64 * q) : Nat) : Int)),(7,[],.slice (some ⟨cb,0,none⟩) 64 64),(6,[],.slice (some ⟨hb,0,none⟩) 8 8),(3,[],.slice (some ⟨mo.b,0,none⟩) (s.size + 1 + ((119 - s.size % 64) % 64) + 8) mo.cap),(2,[],.pointer (some ⟨rs,0,none⟩))]) (fun (t : Nat) => ([(wb,.cells (wv (row bl t)) 88 (0,0)),(cb,.cells (wv Kc) 88 (0,0)),(hb,.cells (wv hs) 88 (0,0)),(rs,.cells (bv (List.replicate 32 0)) 95 (0,0))] ++ (MO.o 5 ((bv M).toList) mo ++ []))) (fun (t : Nat) => (t ≤ 16)) (fun (t : Nat) => 16 - t) 0 ?_ (Conv.mk kr) (.cons_cons _ (.cons_cons _ (.cons_cons _ (.cons_cons _ (List.Sublist.refl _))))) ?_
       ·exact Nat.zero_le _
       ·rintro t ht
        refine Rg [2,3,6,7,8,9,10,63] [] n0 trivial ?_
        refine Cfg.cond rfl (b := (decide ((t : Int) < (16 : Int)))) kr (fun c4r => ?_) (fun c4r => ?_)
        ·have c4 := (of_decide_eq_true c4r)
         refine Cfg.begA rfl kr ([(cb,.cells (wv Kc) 88 (0,0)),(hb,.cells (wv hs) 88 (0,0)),(rs,.cells (bv (List.replicate 32 0)) 95 (0,0))] ++ (MO.o 5 ((bv M).toList) mo ++ [])) ?_
         refine CfgA.pure [0,1,2,3,4,5,6,7,8,9,10,11,12,13,14,15,16,17,18,19,20,21,22,23,24,25,26,27,28,29,30,31,32,33,34,35,36,37,38,39,40,41,42,43] [dZ,dZ,dZ,dZ,dZ,dZ,dZ,dZ,(0,false,some (.int .u8 ((bt4 bl (4 * t) : Nat) : Int))),dZ,dZ,dZ,dZ,dZ,dZ,dZ,dZ,dZ,(0,false,some (.int .u8 ((bt4 bl (4 * t + 1) : Nat) : Int))),dZ,dZ,dZ,dZ,dZ,dZ,dZ,dZ,dZ,dZ,(0,false,some (.int .u8 ((bt4 bl (4 * t + 2) : Nat) : Int))),dZ,dZ,dZ,dZ,dZ,dZ,dZ,dZ,dZ,dZ,(0,false,some (.int .u8 ((bt4 bl (4 * t + 3) : Nat) : Int)))] (some [2,3,6,7,8,9,10,108,109]) (l' := tF 44 1) kr kr (.cons _ (.cons_cons _ (.cons_cons _ (.cons_cons _ (List.Sublist.refl _))))) 1 rfl (Γ' := [(109,[],.pointer (some ⟨wb,t,none⟩)),(108,[],.int .u32 (((((((((((((bt4 bl (4 * t) : Nat) : Int) * 16777216) % 4294967296)).toNat ||| (((((bt4 bl (4 * t + 1) : Nat) : Int) * 65536) % 4294967296)).toNat : Nat) : Int)).toNat ||| (((((bt4 bl (4 * t + 2) : Nat) : Int) * 256) % 4294967296)).toNat : Nat) : Int)).toNat ||| (((bt4 bl (4 * t + 3) : Nat) : Int)).toNat : Nat) : Int)),(10,[],.int .i64 (t : Int)),(9,[],.slice (some ⟨wb,0,none⟩) 64 64),(8,[],.int .i64 (((64 * q) : Nat) : Int)),(7,[],.slice (some ⟨cb,0,none⟩) 64 64),(6,[],.slice (some ⟨hb,0,none⟩) 8 8),(3,[],.slice (some ⟨mo.b,0,none⟩) (s.size + 1 + ((119 - s.size % 64) % 64) + 8) mo.cap),(2,[],.pointer (some ⟨rs,0,none⟩))]) (nd := (fun S => [((-9223372036854775808 : Int) ≤ (4 * (t : Int)) ∧ (4 * (t : Int)) ≤ 9223372036854775807),((-9223372036854775808 : Int) ≤ ((((64 * q) : Nat) : Int) + (4 * (t : Int))) ∧ ((((64 * q) : Nat) : Int) + (4 * (t : Int))) ≤ 9223372036854775807),(0 ≤ ((((64 * q) : Nat) : Int) + (4 * (t : Int))) ∧ ((((64 * q) : Nat) : Int) + (4 * (t : Int))) < (((s.size + 1 + ((119 - s.size % 64) % 64) + 8) : Nat) : Int)),(∀ w1,S w1 → w1.cell? ⟨mo.b,(((64 * q)) + (4 * t)),none⟩ = some (.int .u8 ((bt4 bl (4 * t) : Nat) : Int))),((0 : Int) ≤ ((bt4 bl (4 * t) : Nat) : Int) ∧ ((bt4 bl (4 * t) : Nat) : Int) ≤ 4294967295),(0 ≤ (24 : Int) ∧ 24 ≤ 32),((-9223372036854775808 : Int) ≤ (4 * (t : Int)) ∧ (4 * (t : Int)) ≤ 9223372036854775807),((-9223372036854775808 : Int) ≤ ((((64 * q) : Nat) : Int) + (4 * (t : Int))) ∧ ((((64 * q) : Nat) : Int) + (4 * (t : Int))) ≤ 9223372036854775807),((-9223372036854775808 : Int) ≤ (((((64 * q) : Nat) : Int) + (4 * (t : Int))) + 1) ∧ (((((64 * q) : Nat) : Int) + (4 * (t : Int))) + 1) ≤ 9223372036854775807),(0 ≤ (((((64 * q) : Nat) : Int) + (4 * (t : Int))) + 1) ∧ (((((64 * q) : Nat) : Int) + (4 * (t : Int))) + 1) < (((s.size + 1 + ((119 - s.size % 64) % 64) + 8) : Nat) : Int)),(∀ w1,S w1 → w1.cell? ⟨mo.b,((((64 * q)) + (4 * t)) + 1),none⟩ = some (.int .u8 ((bt4 bl (4 * t + 1) : Nat) : Int))),((0 : Int) ≤ ((bt4 bl (4 * t + 1) : Nat) : Int) ∧ ((bt4 bl (4 * t + 1) : Nat) : Int) ≤ 4294967295),(0 ≤ (16 : Int) ∧ 16 ≤ 32),((0 ≤ ((((bt4 bl (4 * t) : Nat) : Int) * 16777216) % 4294967296) ∧ ((((bt4 bl (4 * t) : Nat) : Int) * 16777216) % 4294967296) ≤ 4294967295) ∧ 0 ≤ ((((bt4 bl (4 * t + 1) : Nat) : Int) * 65536) % 4294967296) ∧ ((((bt4 bl (4 * t + 1) : Nat) : Int) * 65536) % 4294967296) ≤ 4294967295),((-9223372036854775808 : Int) ≤ (4 * (t : Int)) ∧ (4 * (t : Int)) ≤ 9223372036854775807),((-9223372036854775808 : Int) ≤ ((((64 * q) : Nat) : Int) + (4 * (t : Int))) ∧ ((((64 * q) : Nat) : Int) + (4 * (t : Int))) ≤ 9223372036854775807),((-9223372036854775808 : Int) ≤ (((((64 * q) : Nat) : Int) + (4 * (t : Int))) + 2) ∧ (((((64 * q) : Nat) : Int) + (4 * (t : Int))) + 2) ≤ 9223372036854775807),(0 ≤ (((((64 * q) : Nat) : Int) + (4 * (t : Int))) + 2) ∧ (((((64 * q) : Nat) : Int) + (4 * (t : Int))) + 2) < (((s.size + 1 + ((119 - s.size % 64) % 64) + 8) : Nat) : Int)),(∀ w1,S w1 → w1.cell? ⟨mo.b,((((64 * q)) + (4 * t)) + 2),none⟩ = some (.int .u8 ((bt4 bl (4 * t + 2) : Nat) : Int))),((0 : Int) ≤ ((bt4 bl (4 * t + 2) : Nat) : Int) ∧ ((bt4 bl (4 * t + 2) : Nat) : Int) ≤ 4294967295),(0 ≤ (8 : Int) ∧ 8 ≤ 32),((0 ≤ (((((((bt4 bl (4 * t) : Nat) : Int) * 16777216) % 4294967296)).toNat ||| (((((bt4 bl (4 * t + 1) : Nat) : Int) * 65536) % 4294967296)).toNat : Nat) : Int) ∧ (((((((bt4 bl (4 * t) : Nat) : Int) * 16777216) % 4294967296)).toNat ||| (((((bt4 bl (4 * t + 1) : Nat) : Int) * 65536) % 4294967296)).toNat : Nat) : Int) ≤ 4294967295) ∧ 0 ≤ ((((bt4 bl (4 * t + 2) : Nat) : Int) * 256) % 4294967296) ∧ ((((bt4 bl (4 * t + 2) : Nat) : Int) * 256) % 4294967296) ≤ 4294967295),((-9223372036854775808 : Int) ≤ (4 * (t : Int)) ∧ (4 * (t : Int)) ≤ 9223372036854775807),((-9223372036854775808 : Int) ≤ ((((64 * q) : Nat) : Int) + (4 * (t : Int))) ∧ ((((64 * q) : Nat) : Int) + (4 * (t : Int))) ≤ 9223372036854775807),((-9223372036854775808 : Int) ≤ (((((64 * q) : Nat) : Int) + (4 * (t : Int))) + 3) ∧ (((((64 * q) : Nat) : Int) + (4 * (t : Int))) + 3) ≤ 9223372036854775807),(0 ≤ (((((64 * q) : Nat) : Int) + (4 * (t : Int))) + 3) ∧ (((((64 * q) : Nat) : Int) + (4 * (t : Int))) + 3) < (((s.size + 1 + ((119 - s.size % 64) % 64) + 8) : Nat) : Int)),(∀ w1,S w1 → w1.cell? ⟨mo.b,((((64 * q)) + (4 * t)) + 3),none⟩ = some (.int .u8 ((bt4 bl (4 * t + 3) : Nat) : Int))),((0 : Int) ≤ ((bt4 bl (4 * t + 3) : Nat) : Int) ∧ ((bt4 bl (4 * t + 3) : Nat) : Int) ≤ 4294967295),((0 ≤ ((((((((((bt4 bl (4 * t) : Nat) : Int) * 16777216) % 4294967296)).toNat ||| (((((bt4 bl (4 * t + 1) : Nat) : Int) * 65536) % 4294967296)).toNat : Nat) : Int)).toNat ||| (((((bt4 bl (4 * t + 2) : Nat) : Int) * 256) % 4294967296)).toNat : Nat) : Int) ∧ ((((((((((bt4 bl (4 * t) : Nat) : Int) * 16777216) % 4294967296)).toNat ||| (((((bt4 bl (4 * t + 1) : Nat) : Int) * 65536) % 4294967296)).toNat : Nat) : Int)).toNat ||| (((((bt4 bl (4 * t + 2) : Nat) : Int) * 256) % 4294967296)).toNat : Nat) : Int) ≤ 4294967295) ∧ 0 ≤ ((bt4 bl (4 * t + 3) : Nat) : Int) ∧ ((bt4 bl (4 * t + 3) : Nat) : Int) ≤ 4294967295),(0 ≤ (t : Int) ∧ (t : Int) < (64 : Int))])) (fun _ => kr) ⟨om,om,om,(fun w1 h => by rw [hbl]; exact mo_byte h (List.mem_append_right _ (List.mem_append_left _ (List.mem_singleton.2 rfl))) om om om),(by have := bt4_lt bl (4 * t); omega),om,om,om,om,om,(fun w1 h => by rw [hbl]; exact mo_byte h (List.mem_append_right _ (List.mem_append_left _ (List.mem_singleton.2 rfl))) om om om),(by have := bt4_lt bl (4 * t + 1); omega),om,(by have := bt4_lt bl (4 * t); have := bt4_lt bl (4 * t + 1); omega),om,om,om,om,(fun w1 h => by rw [hbl]; exact mo_byte h (List.mem_append_right _ (List.mem_append_left _ (List.mem_singleton.2 rfl))) om om om),(by have := bt4_lt bl (4 * t + 2); omega),om,⟨⟨Int.natCast_nonneg _,le_pow (b := 32) (Nat.or_lt_two_pow (tm_lt _) (tm_lt _))⟩,⟨by omega,by omega⟩⟩,om,om,om,om,(fun w1 h => by rw [hbl]; exact mo_byte h (List.mem_append_right _ (List.mem_append_left _ (List.mem_singleton.2 rfl))) om om om),(by have := bt4_lt bl (4 * t + 3); omega),⟨⟨Int.natCast_nonneg _,le_pow (b := 32) (Nat.or_lt_two_pow (tn_lt (Nat.or_lt_two_pow (tm_lt _) (tm_lt _))) (tm_lt _))⟩,⟨Int.natCast_nonneg _,le_pow (b := 32) (b84 _ _)⟩⟩,om,trivial⟩ ?_
         refine Ae 44 rfl 0  (Eff.store1 (b := wb) (off := t) (v := .int .u32 (((((((((((((bt4 bl (4 * t) : Nat) : Int) * 16777216) % 4294967296)).toNat ||| (((((bt4 bl (4 * t + 1) : Nat) : Int) * 65536) % 4294967296)).toNat : Nat) : Int)).toNat ||| (((((bt4 bl (4 * t + 2) : Nat) : Int) * 256) % 4294967296)).toNat : Nat) : Int)).toNat ||| (((bt4 bl (4 * t + 3) : Nat) : Int)).toNat : Nat) : Int)) rfl kr kr rfl kr 0 (cs := (wv (row bl t))) (e := 88) kr (by rw [wsize]; omega)) (fun _ _ => (.cons _ (.cons_cons _ (.cons_cons _ (.cons_cons _ (List.Sublist.refl _)))))) ?_
         rintro ⟨⟩ -
         refine CfgA.done kr ?_
         refine Cg (Γ' := [(10,[],.int .i64 (t : Int)),(9,[],.slice (some ⟨wb,0,none⟩) 64 64),(8,[],.int .i64 (((64 * q) : Nat) : Int)),(7,[],.slice (some ⟨cb,0,none⟩) 64 64),(6,[],.slice (some ⟨hb,0,none⟩) 8 8),(3,[],.slice (some ⟨mo.b,0,none⟩) (s.size + 1 + ((119 - s.size % 64) % 64) + 8) mo.cap),(2,[],.pointer (some ⟨rs,0,none⟩))]) ?_
         refine Rg [2,3,6,7,8,9,10] [] (fun _ => [((-9223372036854775808 : Int) ≤ ((t : Int) + 1) ∧ ((t : Int) + 1) ≤ 9223372036854775807)]) ⟨om,trivial⟩ ?_
         refine Cfg.setO (congrArg (fun (xq : Array Value) => (([(wb,.cells xq 88 (0,0)),(cb,.cells (wv Kc) 88 (0,0)),(hb,.cells (wv hs) 88 (0,0)),(rs,.cells (bv (List.replicate 32 0)) 95 (0,0))] ++ (MO.o 5 ((bv M).toList) mo ++ [])) : List (Nat × Obj))) (show _ = (wv (row bl (t + 1))) from row_step bl t (wnext_lo om (be4_eq _ _ _ _)))) ?_
         refine Cfg.again rfl (t + 1) (by show t + 1 ≤ 16; omega) (by show 16 - (t + 1) < 16 - t; omega) (Conv.mk kr) (.cons_cons _ (.cons_cons _ (.cons_cons _ (.cons_cons _ (List.Sublist.refl _)))))
        ·have c4 := (of_decide_eq_false c4r)
         obtain rfl : t = 16 := by omega
         refine Conv.cfg (Γ' := [(9,[],.slice (some ⟨wb,0,none⟩) 64 64),(8,[],.int .i64 (((64 * q) : Nat) : Int)),(7,[],.slice (some ⟨cb,0,none⟩) 64 64),(6,[],.slice (some ⟨hb,0,none⟩) 8 8),(3,[],.slice (some ⟨mo.b,0,none⟩) (s.size + 1 + ((119 - s.size % 64) % 64) + 8) mo.cap),(2,[],.pointer (some ⟨rs,0,none⟩))]) (Conv.mk kr) ?_
         refine Rg [2,3,6,7,8,9,11] [] n0 trivial ?_
         refine Cfg.loop rfl (ι := Nat) (fun (t : Nat) => [(11,[],.int .i64 (t : Int)),(9,[],.slice (some ⟨wb,0,none⟩) 64 64),(8,[],.int .i64 (((64 * q) : Nat) : Int)),(7,[],.slice (some ⟨cb,0,none⟩) 64 64),(6,[],.slice (some ⟨hb,0,none⟩) 8 8),(3,[],.slice (some ⟨mo.b,0,none⟩) (s.size + 1 + ((119 - s.size % 64) % 64) + 8) mo.cap),(2,[],.pointer (some ⟨rs,0,none⟩))]) (fun (t : Nat) => ([(wb,.cells (wv (row bl t)) 88 (0,0)),(cb,.cells (wv Kc) 88 (0,0)),(hb,.cells (wv hs) 88 (0,0)),(rs,.cells (bv (List.replicate 32 0)) 95 (0,0))] ++ (MO.o 5 ((bv M).toList) mo ++ []))) (fun (t : Nat) => (16 ≤ t) ∧ (t ≤ 64)) (fun (t : Nat) => 64 - t) 16 ?_ (Conv.mk kr) (.cons_cons _ (.cons_cons _ (.cons_cons _ (.cons_cons _ (List.Sublist.refl _))))) ?_
         ·exact ⟨Nat.le_refl _,by decide⟩
         ·rintro t ⟨ht0,ht⟩
          refine Rg [2,3,6,7,8,9,11,111] [] n0 trivial ?_
          refine Cfg.cond rfl (b := (decide ((t : Int) < (64 : Int)))) kr (fun c5r => ?_) (fun c5r => ?_)
          ·have c5 := (of_decide_eq_true c5r)
           refine Cfg.begA rfl kr ([(wb,.cells (wv (row bl t)) 88 (0,0)),(cb,.cells (wv Kc) 88 (0,0)),(hb,.cells (wv hs) 88 (0,0)),(rs,.cells (bv (List.replicate 32 0)) 95 (0,0))] ++ (MO.o 5 ((bv M).toList) mo ++ [])) ?_
           refine Ap [0,1,2,3,4,6,7,8,9,10,13,14,15,16,17,18] [dZ,dZ,dZ,dZ,(0,false,some (.int .u32 ((rg (row bl t) (t - 15) : Nat) : Int))),dZ,dZ,dZ,dZ,(0,false,some (.int .u32 ((rg (row bl t) (t - 15) : Nat) : Int))),dZ,dZ,dZ,dZ,(0,false,some (.int .u32 ((rg (row bl t) (t - 15) : Nat) : Int)))] (some [2,3,6,7,8,9,11,118,124,132]) #[true,true,true,true,true,false,true,true,true,true,true,false,false,true,true,true,true,true,true,false,false] (.cons_cons _ (.cons_cons _ (.cons_cons _ (.cons_cons _ (List.Sublist.refl _))))) 5 (fun S => [((-9223372036854775808 : Int) ≤ ((t : Int) - 15) ∧ ((t : Int) - 15) ≤ 9223372036854775807),(0 ≤ ((t : Int) - 15) ∧ ((t : Int) - 15) < (64 : Int)),(∀ w1,S w1 → w1.cell? ⟨wb,(((t : Int) - 15)).toNat,none⟩ = some (.int .u32 ((rg (row bl t) (t - 15) : Nat) : Int))),((-9223372036854775808 : Int) ≤ ((t : Int) - 15) ∧ ((t : Int) - 15) ≤ 9223372036854775807),(0 ≤ ((t : Int) - 15) ∧ ((t : Int) - 15) < (64 : Int)),(∀ w1,S w1 → w1.cell? ⟨wb,(((t : Int) - 15)).toNat,none⟩ = some (.int .u32 ((rg (row bl t) (t - 15) : Nat) : Int))),((-9223372036854775808 : Int) ≤ ((t : Int) - 15) ∧ ((t : Int) - 15) ≤ 9223372036854775807),(0 ≤ ((t : Int) - 15) ∧ ((t : Int) - 15) < (64 : Int)),(∀ w1,S w1 → w1.cell? ⟨wb,(((t : Int) - 15)).toNat,none⟩ = some (.int .u32 ((rg (row bl t) (t - 15) : Nat) : Int))),(0 ≤ (3 : Int) ∧ 3 ≤ 32)]) ⟨om,om,(fun w1 h => h.ocell 0 rfl (by rw [show (((t : Int) - 15)).toNat = (t - 15) by omega]; exact wv_get (row_len _ t) om)),om,om,(fun w1 h => h.ocell 0 rfl (by rw [show (((t : Int) - 15)).toNat = (t - 15) by omega]; exact wv_get (row_len _ t) om)),om,om,(fun w1 h => h.ocell 0 rfl (by rw [show (((t : Int) - 15)).toNat = (t - 15) by omega]; exact wv_get (row_len _ t) om)),om,trivial⟩ ?_
           refine Ae 5 rfl 4  (Eff.callA (vs := [.int .u32 ((rg (row bl t) (t - 15) : Nat) : Int),.int .i64 7]) (.int .u32 ((rotl (rg (row bl t) (t - 15)) 33554432 128 : Nat) : Int)) rfl Tryz.func84 rfl rfl kr (fun w1 _ => rRotr7 _ w1 (row_lt _ t _))) (fun _ _ => (.cons_cons _ (.cons_cons _ (.cons_cons _ (.cons_cons _ (List.Sublist.refl _)))))) ?_
           rintro ⟨⟩ -
           refine Ae 11 rfl 3  (Eff.callA (vs := [.int .u32 ((rg (row bl t) (t - 15) : Nat) : Int),.int .i64 18]) (.int .u32 ((rotl (rg (row bl t) (t - 15)) 16384 262144 : Nat) : Int)) rfl Tryz.func84 rfl rfl kr (fun w1 _ => rRotr18 _ w1 (row_lt _ t _))) (fun _ _ => (.cons_cons _ (.cons_cons _ (.cons_cons _ (.cons_cons _ (List.Sublist.refl _)))))) ?_
           rintro ⟨⟩ -
           refine Ap [12,19,20] [] (some [2,3,6,7,8,9,11,12]) #[true,true,true,true,true,true,true,true,true,true,true,true,true,true,true,true,true,true,true,true,true] (.cons_cons _ (.cons_cons _ (.cons_cons _ (.cons_cons _ (List.Sublist.refl _))))) 0 (fun _ => [((0 ≤ ((rotl (rg (row bl t) (t - 15)) 33554432 128 : Nat) : Int) ∧ ((rotl (rg (row bl t) (t - 15)) 33554432 128 : Nat) : Int) ≤ 4294967295) ∧ 0 ≤ ((rotl (rg (row bl t) (t - 15)) 16384 262144 : Nat) : Int) ∧ ((rotl (rg (row bl t) (t - 15)) 16384 262144 : Nat) : Int) ≤ 4294967295),((0 ≤ (((((rotl (rg (row bl t) (t - 15)) 33554432 128 : Nat) : Int)).toNat ^^^ (((rotl (rg (row bl t) (t - 15)) 16384 262144 : Nat) : Int)).toNat : Nat) : Int) ∧ (((((rotl (rg (row bl t) (t - 15)) 33554432 128 : Nat) : Int)).toNat ^^^ (((rotl (rg (row bl t) (t - 15)) 16384 262144 : Nat) : Int)).toNat : Nat) : Int) ≤ 4294967295) ∧ 0 ≤ (((rg (row bl t) (t - 15) : Nat) : Int) / 8) ∧ (((rg (row bl t) (t - 15) : Nat) : Int) / 8) ≤ 4294967295)]) ⟨⟨⟨Int.natCast_nonneg _,le_pow (b := 32) (rotl_lt (row_lt _ t _))⟩,⟨Int.natCast_nonneg _,le_pow (b := 32) (rotl_lt (row_lt _ t _))⟩⟩,⟨⟨Int.natCast_nonneg _,le_pow (b := 32) (Nat.xor_lt_two_pow (tn_lt (rotl_lt (row_lt _ t _))) (tn_lt (rotl_lt (row_lt _ t _))))⟩,⟨Int.natCast_nonneg _,le_pow (b := 32) (Nat.lt_of_le_of_lt (Nat.div_le_self _ _) (row_lt _ t _))⟩⟩,trivial⟩ ?_
           refine CfgA.done kr ?_
           refine Cg (Γ' := [(12,[],.int .u32 ((((((((rotl (rg (row bl t) (t - 15)) 33554432 128 : Nat) : Int)).toNat ^^^ (((rotl (rg (row bl t) (t - 15)) 16384 262144 : Nat) : Int)).toNat : Nat) : Int)).toNat ^^^ ((((rg (row bl t) (t - 15) : Nat) : Int) / 8)).toNat : Nat) : Int)),(11,[],.int .i64 (t : Int)),(9,[],.slice (some ⟨wb,0,none⟩) 64 64),(8,[],.int .i64 (((64 * q) : Nat) : Int)),(7,[],.slice (some ⟨cb,0,none⟩) 64 64),(6,[],.slice (some ⟨hb,0,none⟩) 8 8),(3,[],.slice (some ⟨mo.b,0,none⟩) (s.size + 1 + ((119 - s.size % 64) % 64) + 8) mo.cap),(2,[],.pointer (some ⟨rs,0,none⟩))]) ?_
           refine Cfg.setG (congrArg (fun (xq : Int) => ([(12,[],.int .u32 xq),(11,[],.int .i64 (t : Int)),(9,[],.slice (some ⟨wb,0,none⟩) 64 64),(8,[],.int .i64 (((64 * q) : Nat) : Int)),(7,[],.slice (some ⟨cb,0,none⟩) 64 64),(6,[],.slice (some ⟨hb,0,none⟩) 8 8),(3,[],.slice (some ⟨mo.b,0,none⟩) (s.size + 1 + ((119 - s.size % 64) % 64) + 8) mo.cap),(2,[],.pointer (some ⟨rs,0,none⟩))] : Env)) (show _ = ((wlow (rg (row bl t) (t - 15)) : Nat) : Int) from (congrArg (fun n : Nat => (n : Int)) (x3 _ _ _ _ (d3 _))))) ?_
           refine Cfg.begA rfl kr ([(wb,.cells (wv (row bl t)) 88 (0,0)),(cb,.cells (wv Kc) 88 (0,0)),(hb,.cells (wv hs) 88 (0,0)),(rs,.cells (bv (List.replicate 32 0)) 95 (0,0))] ++ (MO.o 5 ((bv M).toList) mo ++ [])) ?_
           refine Ap [0,1,2,3,4,6,7,8,9,10,13,14,15,16,17,18] [dZ,dZ,dZ,dZ,(0,false,some (.int .u32 ((rg (row bl t) (t - 2) : Nat) : Int))),dZ,dZ,dZ,dZ,(0,false,some (.int .u32 ((rg (row bl t) (t - 2) : Nat) : Int))),dZ,dZ,dZ,dZ,(0,false,some (.int .u32 ((rg (row bl t) (t - 2) : Nat) : Int)))] (some [2,3,6,7,8,9,11,12,138,144,152]) #[true,true,true,true,true,false,true,true,true,true,true,false,false,true,true,true,true,true,true,false,false] (.cons_cons _ (.cons_cons _ (.cons_cons _ (.cons_cons _ (List.Sublist.refl _))))) 5 (fun S => [((-9223372036854775808 : Int) ≤ ((t : Int) - 2) ∧ ((t : Int) - 2) ≤ 9223372036854775807),(0 ≤ ((t : Int) - 2) ∧ ((t : Int) - 2) < (64 : Int)),(∀ w1,S w1 → w1.cell? ⟨wb,(((t : Int) - 2)).toNat,none⟩ = some (.int .u32 ((rg (row bl t) (t - 2) : Nat) : Int))),((-9223372036854775808 : Int) ≤ ((t : Int) - 2) ∧ ((t : Int) - 2) ≤ 9223372036854775807),(0 ≤ ((t : Int) - 2) ∧ ((t : Int) - 2) < (64 : Int)),(∀ w1,S w1 → w1.cell? ⟨wb,(((t : Int) - 2)).toNat,none⟩ = some (.int .u32 ((rg (row bl t) (t - 2) : Nat) : Int))),((-9223372036854775808 : Int) ≤ ((t : Int) - 2) ∧ ((t : Int) - 2) ≤ 9223372036854775807),(0 ≤ ((t : Int) - 2) ∧ ((t : Int) - 2) < (64 : Int)),(∀ w1,S w1 → w1.cell? ⟨wb,(((t : Int) - 2)).toNat,none⟩ = some (.int .u32 ((rg (row bl t) (t - 2) : Nat) : Int))),(0 ≤ (10 : Int) ∧ 10 ≤ 32)]) ⟨om,om,(fun w1 h => h.ocell 0 rfl (by rw [show (((t : Int) - 2)).toNat = (t - 2) by omega]; exact wv_get (row_len _ t) om)),om,om,(fun w1 h => h.ocell 0 rfl (by rw [show (((t : Int) - 2)).toNat = (t - 2) by omega]; exact wv_get (row_len _ t) om)),om,om,(fun w1 h => h.ocell 0 rfl (by rw [show (((t : Int) - 2)).toNat = (t - 2) by omega]; exact wv_get (row_len _ t) om)),om,trivial⟩ ?_
           refine Ae 5 rfl 4  (Eff.callA (vs := [.int .u32 ((rg (row bl t) (t - 2) : Nat) : Int),.int .i64 17]) (.int .u32 ((rotl (rg (row bl t) (t - 2)) 32768 131072 : Nat) : Int)) rfl Tryz.func84 rfl rfl kr (fun w1 _ => rRotr17 _ w1 (row_lt _ t _))) (fun _ _ => (.cons_cons _ (.cons_cons _ (.cons_cons _ (.cons_cons _ (List.Sublist.refl _)))))) ?_
           rintro ⟨⟩ -
           refine Ae 11 rfl 3  (Eff.callA (vs := [.int .u32 ((rg (row bl t) (t - 2) : Nat) : Int),.int .i64 19]) (.int .u32 ((rotl (rg (row bl t) (t - 2)) 8192 524288 : Nat) : Int)) rfl Tryz.func84 rfl rfl kr (fun w1 _ => rRotr19 _ w1 (row_lt _ t _))) (fun _ _ => (.cons_cons _ (.cons_cons _ (.cons_cons _ (.cons_cons _ (List.Sublist.refl _)))))) ?_
           rintro ⟨⟩ -
           refine Ap [12,19,20] [] (some [2,3,6,7,8,9,11,12,13]) #[true,true,true,true,true,true,true,true,true,true,true,true,true,true,true,true,true,true,true,true,true] (.cons_cons _ (.cons_cons _ (.cons_cons _ (.cons_cons _ (List.Sublist.refl _))))) 0 (fun _ => [((0 ≤ ((rotl (rg (row bl t) (t - 2)) 32768 131072 : Nat) : Int) ∧ ((rotl (rg (row bl t) (t - 2)) 32768 131072 : Nat) : Int) ≤ 4294967295) ∧ 0 ≤ ((rotl (rg (row bl t) (t - 2)) 8192 524288 : Nat) : Int) ∧ ((rotl (rg (row bl t) (t - 2)) 8192 524288 : Nat) : Int) ≤ 4294967295),((0 ≤ (((((rotl (rg (row bl t) (t - 2)) 32768 131072 : Nat) : Int)).toNat ^^^ (((rotl (rg (row bl t) (t - 2)) 8192 524288 : Nat) : Int)).toNat : Nat) : Int) ∧ (((((rotl (rg (row bl t) (t - 2)) 32768 131072 : Nat) : Int)).toNat ^^^ (((rotl (rg (row bl t) (t - 2)) 8192 524288 : Nat) : Int)).toNat : Nat) : Int) ≤ 4294967295) ∧ 0 ≤ (((rg (row bl t) (t - 2) : Nat) : Int) / 1024) ∧ (((rg (row bl t) (t - 2) : Nat) : Int) / 1024) ≤ 4294967295)]) ⟨⟨⟨Int.natCast_nonneg _,le_pow (b := 32) (rotl_lt (row_lt _ t _))⟩,⟨Int.natCast_nonneg _,le_pow (b := 32) (rotl_lt (row_lt _ t _))⟩⟩,⟨⟨Int.natCast_nonneg _,le_pow (b := 32) (Nat.xor_lt_two_pow (tn_lt (rotl_lt (row_lt _ t _))) (tn_lt (rotl_lt (row_lt _ t _))))⟩,⟨Int.natCast_nonneg _,le_pow (b := 32) (Nat.lt_of_le_of_lt (Nat.div_le_self _ _) (row_lt _ t _))⟩⟩,trivial⟩ ?_
           refine CfgA.done kr ?_
           refine Cg (Γ' := [(13,[],.int .u32 ((((((((rotl (rg (row bl t) (t - 2)) 32768 131072 : Nat) : Int)).toNat ^^^ (((rotl (rg (row bl t) (t - 2)) 8192 524288 : Nat) : Int)).toNat : Nat) : Int)).toNat ^^^ ((((rg (row bl t) (t - 2) : Nat) : Int) / 1024)).toNat : Nat) : Int)),(12,[],.int .u32 ((wlow (rg (row bl t) (t - 15)) : Nat) : Int)),(11,[],.int .i64 (t : Int)),(9,[],.slice (some ⟨wb,0,none⟩) 64 64),(8,[],.int .i64 (((64 * q) : Nat) : Int)),(7,[],.slice (some ⟨cb,0,none⟩) 64 64),(6,[],.slice (some ⟨hb,0,none⟩) 8 8),(3,[],.slice (some ⟨mo.b,0,none⟩) (s.size + 1 + ((119 - s.size % 64) % 64) + 8) mo.cap),(2,[],.pointer (some ⟨rs,0,none⟩))]) ?_
           refine Cfg.setG (congrArg (fun (xq : Int) => ([(13,[],.int .u32 xq),(12,[],.int .u32 ((wlow (rg (row bl t) (t - 15)) : Nat) : Int)),(11,[],.int .i64 (t : Int)),(9,[],.slice (some ⟨wb,0,none⟩) 64 64),(8,[],.int .i64 (((64 * q) : Nat) : Int)),(7,[],.slice (some ⟨cb,0,none⟩) 64 64),(6,[],.slice (some ⟨hb,0,none⟩) 8 8),(3,[],.slice (some ⟨mo.b,0,none⟩) (s.size + 1 + ((119 - s.size % 64) % 64) + 8) mo.cap),(2,[],.pointer (some ⟨rs,0,none⟩))] : Env)) (show _ = ((whigh (rg (row bl t) (t - 2)) : Nat) : Int) from (congrArg (fun n : Nat => (n : Int)) (x3 _ _ _ _ (d10 _))))) ?_
           refine Cfg.begA rfl kr ([(cb,.cells (wv Kc) 88 (0,0)),(hb,.cells (wv hs) 88 (0,0)),(rs,.cells (bv (List.replicate 32 0)) 95 (0,0))] ++ (MO.o 5 ((bv M).toList) mo ++ [])) ?_
           refine Ap [0,1,2,3,4,5,7,9,10,11,12,15] [] (some [2,3,6,7,8,9,11,154,155,159,161,166,169]) #[true,true,true,true,true,true,false,true,false,true,true,true,true,false,false,true,false,false,false] (.cons _ (.cons_cons _ (.cons_cons _ (.cons_cons _ (List.Sublist.refl _))))) 7 (fun _ => [((-9223372036854775808 : Int) ≤ ((t : Int) - 16) ∧ ((t : Int) - 16) ≤ 9223372036854775807),(0 ≤ ((t : Int) - 16) ∧ ((t : Int) - 16) < (64 : Int)),((-9223372036854775808 : Int) ≤ ((t : Int) - 7) ∧ ((t : Int) - 7) ≤ 9223372036854775807),(0 ≤ ((t : Int) - 7) ∧ ((t : Int) - 7) < (64 : Int))]) ⟨om,om,om,om,trivial⟩ ?_
           refine CfgA.two 6 13 kr (fuel' := 6) rfl ?_ ?_
           ·
            refine Ie rfl  (Eff.quiet (raw := false) (orc := some (.int .u32 ((rg (row bl t) (t - 16) : Nat) : Int))) (v := .int .u32 ((rg (row bl t) (t - 16) : Nat) : Int)) (nd := (fun S => [(∀ w1,S w1 → w1.cell? ⟨wb,(((t : Int) - 16)).toNat,none⟩ = some (.int .u32 ((rg (row bl t) (t - 16) : Nat) : Int)))])) (fun _ => kr) ⟨(fun w1 h => h.ocell 0 rfl (by rw [show (((t : Int) - 16)).toNat = (t - 16) by omega]; exact wv_get (row_len _ t) om)),trivial⟩ kr) (fun _ _ => (.cons _ (.cons_cons _ (.cons_cons _ (.cons_cons _ (List.Sublist.refl _)))))) ?_
            rintro ⟨⟩ -
            refine Ap [8] [] (some [2,3,6,7,8,9,11,154,155,162,166,169]) #[true,true,true,true,true,true,true,true,true,true,true,true,true,false,false,true,false,false,false] (.cons _ (.cons_cons _ (.cons_cons _ (.cons_cons _ (List.Sublist.refl _))))) 5 n0 trivial ?_
            refine Ae 13 rfl 4  (Eff.quiet (raw := false) (orc := some (.int .u32 ((rg (row bl t) (t - 7) : Nat) : Int))) (v := .int .u32 ((rg (row bl t) (t - 7) : Nat) : Int)) (nd := (fun S => [(∀ w1,S w1 → w1.cell? ⟨wb,(((t : Int) - 7)).toNat,none⟩ = some (.int .u32 ((rg (row bl t) (t - 7) : Nat) : Int)))])) (fun _ => kr) ⟨(fun w1 h => h.ocell 0 rfl (by rw [show (((t : Int) - 7)).toNat = (t - 7) by omega]; exact wv_get (row_len _ t) om)),trivial⟩ kr) (fun _ _ => (.cons _ (.cons_cons _ (.cons_cons _ (.cons_cons _ (List.Sublist.refl _)))))) ?_
            rintro ⟨⟩ -
            refine Ap [14,16,17] [] (some [2,3,6,7,8,9,11,170,171]) #[true,true,true,true,true,true,true,true,true,true,true,true,true,true,true,true,true,true,false] (.cons _ (.cons_cons _ (.cons_cons _ (.cons_cons _ (List.Sublist.refl _))))) 1 (fun _ => [(0 ≤ (t : Int) ∧ (t : Int) < (64 : Int))]) ⟨om,trivial⟩ ?_
            refine Ae 18 rfl 0  (Eff.store1 (b := wb) (off := t) (v := .int .u32 ((((((((rg (row bl t) (t - 16) : Nat) : Int) + ((wlow (rg (row bl t) (t - 15)) : Nat) : Int)) % 4294967296) + ((rg (row bl t) (t - 7) : Nat) : Int)) % 4294967296) + ((whigh (rg (row bl t) (t - 2)) : Nat) : Int)) % 4294967296)) rfl kr kr rfl kr 0 (cs := (wv (row bl t))) (e := 88) kr (by rw [wsize]; omega)) (fun _ _ => (.cons _ (.cons_cons _ (.cons_cons _ (.cons_cons _ (List.Sublist.refl _)))))) ?_
            rintro ⟨⟩ -
            refine CfgA.done kr ?_
            refine Cg (Γ' := [(11,[],.int .i64 (t : Int)),(9,[],.slice (some ⟨wb,0,none⟩) 64 64),(8,[],.int .i64 (((64 * q) : Nat) : Int)),(7,[],.slice (some ⟨cb,0,none⟩) 64 64),(6,[],.slice (some ⟨hb,0,none⟩) 8 8),(3,[],.slice (some ⟨mo.b,0,none⟩) (s.size + 1 + ((119 - s.size % 64) % 64) + 8) mo.cap),(2,[],.pointer (some ⟨rs,0,none⟩))]) ?_
            refine Rg [2,3,6,7,8,9,11] [] (fun _ => [((-9223372036854775808 : Int) ≤ ((t : Int) + 1) ∧ ((t : Int) + 1) ≤ 9223372036854775807)]) ⟨om,trivial⟩ ?_
            refine Cfg.setO (congrArg (fun (xq : Array Value) => (([(wb,.cells xq 88 (0,0)),(cb,.cells (wv Kc) 88 (0,0)),(hb,.cells (wv hs) 88 (0,0)),(rs,.cells (bv (List.replicate 32 0)) 95 (0,0))] ++ (MO.o 5 ((bv M).toList) mo ++ [])) : List (Nat × Obj))) (show _ = (wv (row bl (t + 1))) from row_step bl t (wnext_hi om (wn_eq2 _ _ _ _)))) ?_
            refine Cfg.again rfl (t + 1) ⟨by omega,by omega⟩ (by show 64 - (t + 1) < 64 - t; omega) (Conv.mk kr) (.cons_cons _ (.cons_cons _ (.cons_cons _ (.cons_cons _ (List.Sublist.refl _)))))
           ·
            refine Ie rfl  (Eff.quiet (raw := false) (orc := some (.int .u32 ((rg (row bl t) (t - 7) : Nat) : Int))) (v := .int .u32 ((rg (row bl t) (t - 7) : Nat) : Int)) (nd := (fun S => [(∀ w1,S w1 → w1.cell? ⟨wb,(((t : Int) - 7)).toNat,none⟩ = some (.int .u32 ((rg (row bl t) (t - 7) : Nat) : Int)))])) (fun _ => kr) ⟨(fun w1 h => h.ocell 0 rfl (by rw [show (((t : Int) - 7)).toNat = (t - 7) by omega]; exact wv_get (row_len _ t) om)),trivial⟩ kr) (fun _ _ => (.cons _ (.cons_cons _ (.cons_cons _ (.cons_cons _ (List.Sublist.refl _)))))) ?_
            rintro ⟨⟩ -
            refine Ae 6 rfl 5  (Eff.quiet (raw := false) (orc := some (.int .u32 ((rg (row bl t) (t - 16) : Nat) : Int))) (v := .int .u32 ((rg (row bl t) (t - 16) : Nat) : Int)) (nd := (fun S => [(∀ w1,S w1 → w1.cell? ⟨wb,(((t : Int) - 16)).toNat,none⟩ = some (.int .u32 ((rg (row bl t) (t - 16) : Nat) : Int)))])) (fun _ => kr) ⟨(fun w1 h => h.ocell 0 rfl (by rw [show (((t : Int) - 16)).toNat = (t - 16) by omega]; exact wv_get (row_len _ t) om)),trivial⟩ kr) (fun _ _ => (.cons _ (.cons_cons _ (.cons_cons _ (.cons_cons _ (List.Sublist.refl _)))))) ?_
            rintro ⟨⟩ -
            refine Ap [8,14,16,17] [] (some [2,3,6,7,8,9,11,170,171]) #[true,true,true,true,true,true,true,true,true,true,true,true,true,true,true,true,true,true,false] (.cons _ (.cons_cons _ (.cons_cons _ (.cons_cons _ (List.Sublist.refl _))))) 1 (fun _ => [(0 ≤ (t : Int) ∧ (t : Int) < (64 : Int))]) ⟨om,trivial⟩ ?_
            refine Ae 18 rfl 0  (Eff.store1 (b := wb) (off := t) (v := .int .u32 ((((((((rg (row bl t) (t - 16) : Nat) : Int) + ((wlow (rg (row bl t) (t - 15)) : Nat) : Int)) % 4294967296) + ((rg (row bl t) (t - 7) : Nat) : Int)) % 4294967296) + ((whigh (rg (row bl t) (t - 2)) : Nat) : Int)) % 4294967296)) rfl kr kr rfl kr 0 (cs := (wv (row bl t))) (e := 88) kr (by rw [wsize]; omega)) (fun _ _ => (.cons _ (.cons_cons _ (.cons_cons _ (.cons_cons _ (List.Sublist.refl _)))))) ?_
            rintro ⟨⟩ -
            refine CfgA.done kr ?_
            refine Cg (Γ' := [(11,[],.int .i64 (t : Int)),(9,[],.slice (some ⟨wb,0,none⟩) 64 64),(8,[],.int .i64 (((64 * q) : Nat) : Int)),(7,[],.slice (some ⟨cb,0,none⟩) 64 64),(6,[],.slice (some ⟨hb,0,none⟩) 8 8),(3,[],.slice (some ⟨mo.b,0,none⟩) (s.size + 1 + ((119 - s.size % 64) % 64) + 8) mo.cap),(2,[],.pointer (some ⟨rs,0,none⟩))]) ?_
            refine Rg [2,3,6,7,8,9,11] [] (fun _ => [((-9223372036854775808 : Int) ≤ ((t : Int) + 1) ∧ ((t : Int) + 1) ≤ 9223372036854775807)]) ⟨om,trivial⟩ ?_
            refine Cfg.setO (congrArg (fun (xq : Array Value) => (([(wb,.cells xq 88 (0,0)),(cb,.cells (wv Kc) 88 (0,0)),(hb,.cells (wv hs) 88 (0,0)),(rs,.cells (bv (List.replicate 32 0)) 95 (0,0))] ++ (MO.o 5 ((bv M).toList) mo ++ [])) : List (Nat × Obj))) (show _ = (wv (row bl (t + 1))) from row_step bl t (wnext_hi om (wn_eq2 _ _ _ _)))) ?_
            refine Cfg.again rfl (t + 1) ⟨by omega,by omega⟩ (by show 64 - (t + 1) < 64 - t; omega) (Conv.mk kr) (.cons_cons _ (.cons_cons _ (.cons_cons _ (.cons_cons _ (List.Sublist.refl _)))))
          ·have c5 := (of_decide_eq_false c5r)
           obtain rfl : t = 64 := by omega
           refine Conv.cfg (Γ' := [(9,[],.slice (some ⟨wb,0,none⟩) 64 64),(8,[],.int .i64 (((64 * q) : Nat) : Int)),(7,[],.slice (some ⟨cb,0,none⟩) 64 64),(6,[],.slice (some ⟨hb,0,none⟩) 8 8),(3,[],.slice (some ⟨mo.b,0,none⟩) (s.size + 1 + ((119 - s.size % 64) % 64) + 8) mo.cap),(2,[],.pointer (some ⟨rs,0,none⟩))]) (Conv.mk kr) ?_
           refine Cfg.begA rfl kr ([(wb,.cells (wv (row bl 64)) 88 (0,0)),(cb,.cells (wv Kc) 88 (0,0)),(hb,.cells (wv hs) 88 (0,0)),(rs,.cells (bv (List.replicate 32 0)) 95 (0,0))] ++ (MO.o 5 ((bv M).toList) mo ++ [])) ?_
           refine Ap [0,1,2,3,4,5,6,7,8,9,10,11,12,13,14,15,16,17,18,19,20,21,22,23] [dZ,dZ,(0,false,some (.int .u32 (rg hs 0 : Int))),dZ,dZ,(0,false,some (.int .u32 (rg hs 1 : Int))),dZ,dZ,(0,false,some (.int .u32 (rg hs 2 : Int))),dZ,dZ,(0,false,some (.int .u32 (rg hs 3 : Int))),dZ,dZ,(0,false,some (.int .u32 (rg hs 4 : Int))),dZ,dZ,(0,false,some (.int .u32 (rg hs 5 : Int))),dZ,dZ,(0,false,some (.int .u32 (rg hs 6 : Int))),dZ,dZ,(0,false,some (.int .u32 (rg hs 7 : Int)))] (some [2,3,6,7,8,9,174,177,180,183,186,189,192,195]) #[true,true,true,true,true,true,true,true,true,true,true,true,true,true,true,true,true,true,true,true,true,true,true,true,false,false] (.cons_cons _ (.cons_cons _ (.cons_cons _ (.cons_cons _ (List.Sublist.refl _))))) 2 (fun S => [(0 ≤ (0 : Int) ∧ (0 : Int) < (8 : Int)),(∀ w1,S w1 → w1.cell? ⟨hb,0,none⟩ = some (.int .u32 (rg hs 0 : Int))),(0 ≤ (1 : Int) ∧ (1 : Int) < (8 : Int)),(∀ w1,S w1 → w1.cell? ⟨hb,1,none⟩ = some (.int .u32 (rg hs 1 : Int))),(0 ≤ (2 : Int) ∧ (2 : Int) < (8 : Int)),(∀ w1,S w1 → w1.cell? ⟨hb,2,none⟩ = some (.int .u32 (rg hs 2 : Int))),(0 ≤ (3 : Int) ∧ (3 : Int) < (8 : Int)),(∀ w1,S w1 → w1.cell? ⟨hb,3,none⟩ = some (.int .u32 (rg hs 3 : Int))),(0 ≤ (4 : Int) ∧ (4 : Int) < (8 : Int)),(∀ w1,S w1 → w1.cell? ⟨hb,4,none⟩ = some (.int .u32 (rg hs 4 : Int))),(0 ≤ (5 : Int) ∧ (5 : Int) < (8 : Int)),(∀ w1,S w1 → w1.cell? ⟨hb,5,none⟩ = some (.int .u32 (rg hs 5 : Int))),(0 ≤ (6 : Int) ∧ (6 : Int) < (8 : Int)),(∀ w1,S w1 → w1.cell? ⟨hb,6,none⟩ = some (.int .u32 (rg hs 6 : Int))),(0 ≤ (7 : Int) ∧ (7 : Int) < (8 : Int)),(∀ w1,S w1 → w1.cell? ⟨hb,7,none⟩ = some (.int .u32 (rg hs 7 : Int)))]) ⟨om,(fun w1 h => h.ocell 2 rfl (wv_get hh om)),om,(fun w1 h => h.ocell 2 rfl (wv_get hh om)),om,(fun w1 h => h.ocell 2 rfl (wv_get hh om)),om,(fun w1 h => h.ocell 2 rfl (wv_get hh om)),om,(fun w1 h => h.ocell 2 rfl (wv_get hh om)),om,(fun w1 h => h.ocell 2 rfl (wv_get hh om)),om,(fun w1 h => h.ocell 2 rfl (wv_get hh om)),om,(fun w1 h => h.ocell 2 rfl (wv_get hh om)),trivial⟩ ?_
           refine Ae 24 rfl 1  (Eff.buildSlice (e := 88) (cells := #[.int .u32 (rg hs 0 : Int),.int .u32 (rg hs 1 : Int),.int .u32 (rg hs 2 : Int),.int .u32 (rg hs 3 : Int),.int .u32 (rg hs 4 : Int),.int .u32 (rg hs 5 : Int),.int .u32 (rg hs 6 : Int),.int .u32 (rg hs 7 : Int)]) (parts := #[(0,.int .u32 (rg hs 0 : Int)),(1,.int .u32 (rg hs 1 : Int)),(2,.int .u32 (rg hs 2 : Int)),(3,.int .u32 (rg hs 3 : Int)),(4,.int .u32 (rg hs 4 : Int)),(5,.int .u32 (rg hs 5 : Int)),(6,.int .u32 (rg hs 6 : Int)),(7,.int .u32 (rg hs 7 : Int))]) rfl kr (fun _ => kr)) (fun _ _ => (.cons _ (.cons_cons _ (.cons_cons _ (.cons_cons _ (.cons_cons _ (List.Sublist.refl _))))))) ?_
           rintro va ⟨hva,nva⟩
           refine Ap [25] [] (some [2,3,6,7,8,9,14]) #[true,true,true,true,true,true,true,true,true,true,true,true,true,true,true,true,true,true,true,true,true,true,true,true,true,true] (.cons _ (.cons_cons _ (.cons_cons _ (.cons_cons _ (.cons_cons _ (List.Sublist.refl _)))))) 0 n0 trivial ?_
           refine CfgA.done kr ?_
           refine Rg [2,3,6,7,8,9,14,15] [] n0 trivial ?_
           refine Cfg.setO (congrArg (fun (xq : Array Value) => (([(va,.cells xq 88 (0,0)),(wb,.cells (wv (row bl 64)) 88 (0,0)),(cb,.cells (wv Kc) 88 (0,0)),(hb,.cells (wv hs) 88 (0,0)),(rs,.cells (bv (List.replicate 32 0)) 95 (0,0))] ++ (MO.o 5 ((bv M).toList) mo ++ [])) : List (Nat × Obj))) (show _ = (wv (w8l (rv hs bl 0))) from rfl)) ?_
           refine Cfg.loop rfl (ι := Nat × Nat) (fun (xz : Nat × Nat) => match xz with | (t,v) => [(15,[],.int .i64 (t : Int)),(14,[],.slice (some ⟨v,0,none⟩) 8 8),(9,[],.slice (some ⟨wb,0,none⟩) 64 64),(8,[],.int .i64 (((64 * q) : Nat) : Int)),(7,[],.slice (some ⟨cb,0,none⟩) 64 64),(6,[],.slice (some ⟨hb,0,none⟩) 8 8),(3,[],.slice (some ⟨mo.b,0,none⟩) (s.size + 1 + ((119 - s.size % 64) % 64) + 8) mo.cap),(2,[],.pointer (some ⟨rs,0,none⟩))]) (fun (xz : Nat × Nat) => match xz with | (t,v) => ([(v,.cells (wv (w8l (rv hs bl t))) 88 (0,0)),(wb,.cells (wv (row bl 64)) 88 (0,0)),(cb,.cells (wv Kc) 88 (0,0)),(hb,.cells (wv hs) 88 (0,0)),(rs,.cells (bv (List.replicate 32 0)) 95 (0,0))] ++ (MO.o 5 ((bv M).toList) mo ++ []))) (fun (xz : Nat × Nat) => match xz with | (t,v) => (t ≤ 64)) (fun (xz : Nat × Nat) => match xz with | (t,v) => 64 - t) (0,va) ?_ (Conv.mk kr) (List.Sublist.refl _) ?_
           ·exact Nat.zero_le _
           ·rintro ⟨t,v⟩ ht
            have ok := rv_ok hlt bl t
            refine Rg [2,3,6,7,8,9,14,15,198] [] n0 trivial ?_
            refine Cfg.cond rfl (b := (decide ((t : Int) < (64 : Int)))) kr (fun c6r => ?_) (fun c6r => ?_)
            ·have c6 := (of_decide_eq_true c6r)
             refine Cfg.begA rfl kr ([(v,.cells (wv (w8l (rv hs bl t))) 88 (0,0)),(wb,.cells (wv (row bl 64)) 88 (0,0)),(cb,.cells (wv Kc) 88 (0,0)),(hb,.cells (wv hs) 88 (0,0)),(rs,.cells (bv (List.replicate 32 0)) 95 (0,0))] ++ (MO.o 5 ((bv M).toList) mo ++ [])) ?_
             refine Ap [0,1,2,4,5,6,9,10,11] [dZ,dZ,(0,false,some (.int .u32 ((rv hs bl t).e : Int))),dZ,dZ,(0,false,some (.int .u32 ((rv hs bl t).e : Int))),dZ,dZ,(0,false,some (.int .u32 ((rv hs bl t).e : Int)))] (some [2,3,6,7,8,9,14,15,203,207,212]) #[true,true,true,false,true,true,true,false,false,true,true,true,false,false,false] (.cons_cons _ (.cons_cons _ (.cons_cons _ (.cons_cons _ (.cons_cons _ (List.Sublist.refl _)))))) 6 (fun S => [(0 ≤ (4 : Int) ∧ (4 : Int) < (8 : Int)),(∀ w1,S w1 → w1.cell? ⟨v,4,none⟩ = some (.int .u32 ((rv hs bl t).e : Int))),(0 ≤ (4 : Int) ∧ (4 : Int) < (8 : Int)),(∀ w1,S w1 → w1.cell? ⟨v,4,none⟩ = some (.int .u32 ((rv hs bl t).e : Int))),(0 ≤ (4 : Int) ∧ (4 : Int) < (8 : Int)),(∀ w1,S w1 → w1.cell? ⟨v,4,none⟩ = some (.int .u32 ((rv hs bl t).e : Int)))]) ⟨om,(fun w1 h => h.ocell 0 rfl rfl),om,(fun w1 h => h.ocell 0 rfl rfl),om,(fun w1 h => h.ocell 0 rfl rfl),trivial⟩ ?_
             refine Ae 3 rfl 5  (Eff.callA (vs := [.int .u32 ((rv hs bl t).e : Int),.int .i64 6]) (.int .u32 (rotl ((rv hs bl t).e) 67108864 64 : Int)) rfl Tryz.func84 rfl rfl kr (fun w1 _ => rRotr6 _ w1 ok.e)) (fun _ _ => (.cons_cons _ (.cons_cons _ (.cons_cons _ (.cons_cons _ (.cons_cons _ (List.Sublist.refl _))))))) ?_
             rintro ⟨⟩ -
             refine Ae 7 rfl 4  (Eff.callA (vs := [.int .u32 ((rv hs bl t).e : Int),.int .i64 11]) (.int .u32 (rotl ((rv hs bl t).e) 2097152 2048 : Int)) rfl Tryz.func84 rfl rfl kr (fun w1 _ => rRotr11 _ w1 ok.e)) (fun _ _ => (.cons_cons _ (.cons_cons _ (.cons_cons _ (.cons_cons _ (.cons_cons _ (List.Sublist.refl _))))))) ?_
             rintro ⟨⟩ -
             refine Ap [8] [] (some [2,3,6,7,8,9,14,15,209,212]) #[true,true,true,true,true,true,true,true,true,true,true,true,false,false,false] (.cons_cons _ (.cons_cons _ (.cons_cons _ (.cons_cons _ (.cons_cons _ (List.Sublist.refl _)))))) 3 (fun _ => [((0 ≤ (rotl ((rv hs bl t).e) 67108864 64 : Int) ∧ (rotl ((rv hs bl t).e) 67108864 64 : Int) ≤ 4294967295) ∧ 0 ≤ (rotl ((rv hs bl t).e) 2097152 2048 : Int) ∧ (rotl ((rv hs bl t).e) 2097152 2048 : Int) ≤ 4294967295)]) ⟨⟨⟨Int.natCast_nonneg _,le_pow (b := 32) (rotl_lt ok.e)⟩,⟨Int.natCast_nonneg _,le_pow (b := 32) (rotl_lt ok.e)⟩⟩,trivial⟩ ?_
             refine Ae 12 rfl 2  (Eff.callA (vs := [.int .u32 ((rv hs bl t).e : Int),.int .i64 25]) (.int .u32 (rotl ((rv hs bl t).e) 128 33554432 : Int)) rfl Tryz.func84 rfl rfl kr (fun w1 _ => rRotr25 _ w1 ok.e)) (fun _ _ => (.cons_cons _ (.cons_cons _ (.cons_cons _ (.cons_cons _ (.cons_cons _ (List.Sublist.refl _))))))) ?_
             rintro ⟨⟩ -
             refine CfgA.pure [13,14] [] (some [2,3,6,7,8,9,14,15,16]) (l' := tF 15 0) kr kr (.cons_cons _ (.cons_cons _ (.cons_cons _ (.cons_cons _ (.cons_cons _ (List.Sublist.refl _)))))) 0 rfl (Γ' := [(16,[],.int .u32 (((((((rotl ((rv hs bl t).e) 67108864 64 : Int)).toNat ^^^ ((rotl ((rv hs bl t).e) 2097152 2048 : Int)).toNat : Nat) : Int)).toNat ^^^ ((rotl ((rv hs bl t).e) 128 33554432 : Int)).toNat : Nat) : Int)),(15,[],.int .i64 (t : Int)),(14,[],.slice (some ⟨v,0,none⟩) 8 8),(9,[],.slice (some ⟨wb,0,none⟩) 64 64),(8,[],.int .i64 (((64 * q) : Nat) : Int)),(7,[],.slice (some ⟨cb,0,none⟩) 64 64),(6,[],.slice (some ⟨hb,0,none⟩) 8 8),(3,[],.slice (some ⟨mo.b,0,none⟩) (s.size + 1 + ((119 - s.size % 64) % 64) + 8) mo.cap),(2,[],.pointer (some ⟨rs,0,none⟩))]) (nd := (fun _ => [((0 ≤ ((((rotl ((rv hs bl t).e) 67108864 64 : Int)).toNat ^^^ ((rotl ((rv hs bl t).e) 2097152 2048 : Int)).toNat : Nat) : Int) ∧ ((((rotl ((rv hs bl t).e) 67108864 64 : Int)).toNat ^^^ ((rotl ((rv hs bl t).e) 2097152 2048 : Int)).toNat : Nat) : Int) ≤ 4294967295) ∧ 0 ≤ (rotl ((rv hs bl t).e) 128 33554432 : Int) ∧ (rotl ((rv hs bl t).e) 128 33554432 : Int) ≤ 4294967295)])) (fun _ => kr) ⟨⟨⟨Int.natCast_nonneg _,le_pow (b := 32) (Nat.xor_lt_two_pow (tn_lt (rotl_lt ok.e)) (tn_lt (rotl_lt ok.e)))⟩,⟨Int.natCast_nonneg _,le_pow (b := 32) (rotl_lt ok.e)⟩⟩,trivial⟩ ?_
             refine CfgA.done kr ?_
             refine Cg (Γ' := [(16,[],.int .u32 (((((((rotl ((rv hs bl t).e) 67108864 64 : Int)).toNat ^^^ ((rotl ((rv hs bl t).e) 2097152 2048 : Int)).toNat : Nat) : Int)).toNat ^^^ ((rotl ((rv hs bl t).e) 128 33554432 : Int)).toNat : Nat) : Int)),(15,[],.int .i64 (t : Int)),(14,[],.slice (some ⟨v,0,none⟩) 8 8),(9,[],.slice (some ⟨wb,0,none⟩) 64 64),(8,[],.int .i64 (((64 * q) : Nat) : Int)),(7,[],.slice (some ⟨cb,0,none⟩) 64 64),(6,[],.slice (some ⟨hb,0,none⟩) 8 8),(3,[],.slice (some ⟨mo.b,0,none⟩) (s.size + 1 + ((119 - s.size % 64) % 64) + 8) mo.cap),(2,[],.pointer (some ⟨rs,0,none⟩))]) ?_
             refine Cfg.setG (congrArg (fun (xq : Int) => ([(16,[],.int .u32 xq),(15,[],.int .i64 (t : Int)),(14,[],.slice (some ⟨v,0,none⟩) 8 8),(9,[],.slice (some ⟨wb,0,none⟩) 64 64),(8,[],.int .i64 (((64 * q) : Nat) : Int)),(7,[],.slice (some ⟨cb,0,none⟩) 64 64),(6,[],.slice (some ⟨hb,0,none⟩) 8 8),(3,[],.slice (some ⟨mo.b,0,none⟩) (s.size + 1 + ((119 - s.size % 64) % 64) + 8) mo.cap),(2,[],.pointer (some ⟨rs,0,none⟩))] : Env)) (show _ = (bigE (rv hs bl t).e : Int) from bigE_eq _)) ?_
             refine Cfg.regD rfl kr [2,3,6,7,8,9,14,15,16,17] [dZ,dZ,(0,false,some (.int .u32 ((rv hs bl t).e : Int))),dZ,dZ,(0,false,some (.int .u32 ((rv hs bl t).f : Int))),dZ,dZ,dZ,(0,false,some (.int .u32 ((rv hs bl t).e : Int))),dZ,dZ,dZ,(0,false,some (.int .u32 ((rv hs bl t).g : Int)))] (Γ' := [(17,[],.int .u32 ((((((((rv hs bl t).e : Int)).toNat &&& (((rv hs bl t).f : Int)).toNat : Nat) : Int)).toNat ^^^ ((((((4294967295 - ((rv hs bl t).e : Int)) % 4294967296)).toNat &&& (((rv hs bl t).g : Int)).toNat : Nat) : Int)).toNat : Nat) : Int)),(16,[],.int .u32 (bigE (rv hs bl t).e : Int)),(15,[],.int .i64 (t : Int)),(14,[],.slice (some ⟨v,0,none⟩) 8 8),(9,[],.slice (some ⟨wb,0,none⟩) 64 64),(8,[],.int .i64 (((64 * q) : Nat) : Int)),(7,[],.slice (some ⟨cb,0,none⟩) 64 64),(6,[],.slice (some ⟨hb,0,none⟩) 8 8),(3,[],.slice (some ⟨mo.b,0,none⟩) (s.size + 1 + ((119 - s.size % 64) % 64) + 8) mo.cap),(2,[],.pointer (some ⟨rs,0,none⟩))]) (nd := (fun S => [(0 ≤ (4 : Int) ∧ (4 : Int) < (8 : Int)),(∀ w1,S w1 → w1.cell? ⟨v,4,none⟩ = some (.int .u32 ((rv hs bl t).e : Int))),(0 ≤ (5 : Int) ∧ (5 : Int) < (8 : Int)),(∀ w1,S w1 → w1.cell? ⟨v,5,none⟩ = some (.int .u32 ((rv hs bl t).f : Int))),((0 ≤ ((rv hs bl t).e : Int) ∧ ((rv hs bl t).e : Int) ≤ 4294967295) ∧ 0 ≤ ((rv hs bl t).f : Int) ∧ ((rv hs bl t).f : Int) ≤ 4294967295),(0 ≤ (4 : Int) ∧ (4 : Int) < (8 : Int)),(∀ w1,S w1 → w1.cell? ⟨v,4,none⟩ = some (.int .u32 ((rv hs bl t).e : Int))),(0 ≤ (6 : Int) ∧ (6 : Int) < (8 : Int)),(∀ w1,S w1 → w1.cell? ⟨v,6,none⟩ = some (.int .u32 ((rv hs bl t).g : Int))),((0 ≤ ((4294967295 - ((rv hs bl t).e : Int)) % 4294967296) ∧ ((4294967295 - ((rv hs bl t).e : Int)) % 4294967296) ≤ 4294967295) ∧ 0 ≤ ((rv hs bl t).g : Int) ∧ ((rv hs bl t).g : Int) ≤ 4294967295),((0 ≤ (((((rv hs bl t).e : Int)).toNat &&& (((rv hs bl t).f : Int)).toNat : Nat) : Int) ∧ (((((rv hs bl t).e : Int)).toNat &&& (((rv hs bl t).f : Int)).toNat : Nat) : Int) ≤ 4294967295) ∧ 0 ≤ (((((4294967295 - ((rv hs bl t).e : Int)) % 4294967296)).toNat &&& (((rv hs bl t).g : Int)).toNat : Nat) : Int) ∧ (((((4294967295 - ((rv hs bl t).e : Int)) % 4294967296)).toNat &&& (((rv hs bl t).g : Int)).toNat : Nat) : Int) ≤ 4294967295)])) kr kr (fun _ => kr) ⟨om,(fun w1 h => h.ocell 0 rfl rfl),om,(fun w1 h => h.ocell 0 rfl rfl),⟨⟨Int.natCast_nonneg _,le_pow (b := 32) ok.e⟩,⟨Int.natCast_nonneg _,le_pow (b := 32) ok.f⟩⟩,om,(fun w1 h => h.ocell 0 rfl rfl),om,(fun w1 h => h.ocell 0 rfl rfl),⟨⟨by omega,by omega⟩,⟨Int.natCast_nonneg _,le_pow (b := 32) ok.g⟩⟩,⟨⟨Int.natCast_nonneg _,le_pow (b := 32) (Nat.and_lt_two_pow _ (tn_lt ok.f))⟩,⟨Int.natCast_nonneg _,le_pow (b := 32) (Nat.and_lt_two_pow _ (tn_lt ok.g))⟩⟩,trivial⟩ ?_
             refine Cg (Γ' := [(17,[],.int .u32 ((((((((rv hs bl t).e : Int)).toNat &&& (((rv hs bl t).f : Int)).toNat : Nat) : Int)).toNat ^^^ ((((((4294967295 - ((rv hs bl t).e : Int)) % 4294967296)).toNat &&& (((rv hs bl t).g : Int)).toNat : Nat) : Int)).toNat : Nat) : Int)),(16,[],.int .u32 (bigE (rv hs bl t).e : Int)),(15,[],.int .i64 (t : Int)),(14,[],.slice (some ⟨v,0,none⟩) 8 8),(9,[],.slice (some ⟨wb,0,none⟩) 64 64),(8,[],.int .i64 (((64 * q) : Nat) : Int)),(7,[],.slice (some ⟨cb,0,none⟩) 64 64),(6,[],.slice (some ⟨hb,0,none⟩) 8 8),(3,[],.slice (some ⟨mo.b,0,none⟩) (s.size + 1 + ((119 - s.size % 64) % 64) + 8) mo.cap),(2,[],.pointer (some ⟨rs,0,none⟩))]) ?_
             refine Cfg.setG (congrArg (fun (xq : Int) => ([(17,[],.int .u32 xq),(16,[],.int .u32 (bigE (rv hs bl t).e : Int)),(15,[],.int .i64 (t : Int)),(14,[],.slice (some ⟨v,0,none⟩) 8 8),(9,[],.slice (some ⟨wb,0,none⟩) 64 64),(8,[],.int .i64 (((64 * q) : Nat) : Int)),(7,[],.slice (some ⟨cb,0,none⟩) 64 64),(6,[],.slice (some ⟨hb,0,none⟩) 8 8),(3,[],.slice (some ⟨mo.b,0,none⟩) (s.size + 1 + ((119 - s.size % 64) % 64) + 8) mo.cap),(2,[],.pointer (some ⟨rs,0,none⟩))] : Env)) (show _ = (choi (rv hs bl t).e (rv hs bl t).f (rv hs bl t).g : Int) from choi_eq2 ok.e _ _)) ?_
             refine Cfg.regD rfl kr [2,3,6,7,8,9,14,15,18] [dZ,dZ,(0,false,some (.int .u32 ((rv hs bl t).h : Int))),dZ,dZ,dZ,dZ,dZ,dZ,dZ,(0,false,some (.int .u32 (rg Kc t : Int))),dZ,dZ,dZ,dZ,(0,false,some (.int .u32 (rg (row bl 64) t : Int)))] (Γ' := [(18,[],.int .u32 ((((((((((rv hs bl t).h : Int) + (bigE (rv hs bl t).e : Int)) % 4294967296) + (choi (rv hs bl t).e (rv hs bl t).f (rv hs bl t).g : Int)) % 4294967296) + (rg Kc t : Int)) % 4294967296) + (rg (row bl 64) t : Int)) % 4294967296)),(15,[],.int .i64 (t : Int)),(14,[],.slice (some ⟨v,0,none⟩) 8 8),(9,[],.slice (some ⟨wb,0,none⟩) 64 64),(8,[],.int .i64 (((64 * q) : Nat) : Int)),(7,[],.slice (some ⟨cb,0,none⟩) 64 64),(6,[],.slice (some ⟨hb,0,none⟩) 8 8),(3,[],.slice (some ⟨mo.b,0,none⟩) (s.size + 1 + ((119 - s.size % 64) % 64) + 8) mo.cap),(2,[],.pointer (some ⟨rs,0,none⟩))]) (nd := (fun S => [(0 ≤ (7 : Int) ∧ (7 : Int) < (8 : Int)),(∀ w1,S w1 → w1.cell? ⟨v,7,none⟩ = some (.int .u32 ((rv hs bl t).h : Int))),(0 ≤ (t : Int) ∧ (t : Int) < (64 : Int)),(∀ w1,S w1 → w1.cell? ⟨cb,t,none⟩ = some (.int .u32 (rg Kc t : Int))),(0 ≤ (t : Int) ∧ (t : Int) < (64 : Int)),(∀ w1,S w1 → w1.cell? ⟨wb,t,none⟩ = some (.int .u32 (rg (row bl 64) t : Int)))])) kr kr (fun _ => kr) ⟨om,(fun w1 h => h.ocell 0 rfl rfl),om,(fun w1 h => h.ocell 2 rfl (kget om)),om,(fun w1 h => h.ocell 1 rfl (wv_get (row_len _ 64) om)),trivial⟩ ?_
             refine Cg (Γ' := [(18,[],.int .u32 ((((((((((rv hs bl t).h : Int) + (bigE (rv hs bl t).e : Int)) % 4294967296) + (choi (rv hs bl t).e (rv hs bl t).f (rv hs bl t).g : Int)) % 4294967296) + (rg Kc t : Int)) % 4294967296) + (rg (row bl 64) t : Int)) % 4294967296)),(15,[],.int .i64 (t : Int)),(14,[],.slice (some ⟨v,0,none⟩) 8 8),(9,[],.slice (some ⟨wb,0,none⟩) 64 64),(8,[],.int .i64 (((64 * q) : Nat) : Int)),(7,[],.slice (some ⟨cb,0,none⟩) 64 64),(6,[],.slice (some ⟨hb,0,none⟩) 8 8),(3,[],.slice (some ⟨mo.b,0,none⟩) (s.size + 1 + ((119 - s.size % 64) % 64) + 8) mo.cap),(2,[],.pointer (some ⟨rs,0,none⟩))]) ?_
             refine Cfg.setG (congrArg (fun (xq : Int) => ([(18,[],.int .u32 xq),(15,[],.int .i64 (t : Int)),(14,[],.slice (some ⟨v,0,none⟩) 8 8),(9,[],.slice (some ⟨wb,0,none⟩) 64 64),(8,[],.int .i64 (((64 * q) : Nat) : Int)),(7,[],.slice (some ⟨cb,0,none⟩) 64 64),(6,[],.slice (some ⟨hb,0,none⟩) 8 8),(3,[],.slice (some ⟨mo.b,0,none⟩) (s.size + 1 + ((119 - s.size % 64) % 64) + 8) mo.cap),(2,[],.pointer (some ⟨rs,0,none⟩))] : Env)) (show _ = (frst (rg Kc t) (rg (row bl 64) t) (rv hs bl t) : Int) from frst_eq _ _ _)) ?_
             refine Cfg.begA rfl kr ([(v,.cells (wv (w8l (rv hs bl t))) 88 (0,0)),(wb,.cells (wv (row bl 64)) 88 (0,0)),(cb,.cells (wv Kc) 88 (0,0)),(hb,.cells (wv hs) 88 (0,0)),(rs,.cells (bv (List.replicate 32 0)) 95 (0,0))] ++ (MO.o 5 ((bv M).toList) mo ++ [])) ?_
             refine Ap [0,1,2,4,5,6,9,10,11] [dZ,dZ,(0,false,some (.int .u32 ((rv hs bl t).a : Int))),dZ,dZ,(0,false,some (.int .u32 ((rv hs bl t).a : Int))),dZ,dZ,(0,false,some (.int .u32 ((rv hs bl t).a : Int)))] (some [2,3,6,7,8,9,14,15,18,250,254,259]) #[true,true,true,false,true,true,true,false,false,true,true,true,false,false,false] (.cons_cons _ (.cons_cons _ (.cons_cons _ (.cons_cons _ (.cons_cons _ (List.Sublist.refl _)))))) 6 (fun S => [(0 ≤ (0 : Int) ∧ (0 : Int) < (8 : Int)),(∀ w1,S w1 → w1.cell? ⟨v,0,none⟩ = some (.int .u32 ((rv hs bl t).a : Int))),(0 ≤ (0 : Int) ∧ (0 : Int) < (8 : Int)),(∀ w1,S w1 → w1.cell? ⟨v,0,none⟩ = some (.int .u32 ((rv hs bl t).a : Int))),(0 ≤ (0 : Int) ∧ (0 : Int) < (8 : Int)),(∀ w1,S w1 → w1.cell? ⟨v,0,none⟩ = some (.int .u32 ((rv hs bl t).a : Int)))]) ⟨om,(fun w1 h => h.ocell 0 rfl rfl),om,(fun w1 h => h.ocell 0 rfl rfl),om,(fun w1 h => h.ocell 0 rfl rfl),trivial⟩ ?_
             refine Ae 3 rfl 5  (Eff.callA (vs := [.int .u32 ((rv hs bl t).a : Int),.int .i64 2]) (.int .u32 (rotl ((rv hs bl t).a) 1073741824 4 : Int)) rfl Tryz.func84 rfl rfl kr (fun w1 _ => rRotr2 _ w1 ok.a)) (fun _ _ => (.cons_cons _ (.cons_cons _ (.cons_cons _ (.cons_cons _ (.cons_cons _ (List.Sublist.refl _))))))) ?_
             rintro ⟨⟩ -
             refine Ae 7 rfl 4  (Eff.callA (vs := [.int .u32 ((rv hs bl t).a : Int),.int .i64 13]) (.int .u32 (rotl ((rv hs bl t).a) 524288 8192 : Int)) rfl Tryz.func84 rfl rfl kr (fun w1 _ => rRotr13 _ w1 ok.a)) (fun _ _ => (.cons_cons _ (.cons_cons _ (.cons_cons _ (.cons_cons _ (.cons_cons _ (List.Sublist.refl _))))))) ?_
             rintro ⟨⟩ -
             refine Ap [8] [] (some [2,3,6,7,8,9,14,15,18,256,259]) #[true,true,true,true,true,true,true,true,true,true,true,true,false,false,false] (.cons_cons _ (.cons_cons _ (.cons_cons _ (.cons_cons _ (.cons_cons _ (List.Sublist.refl _)))))) 3 (fun _ => [((0 ≤ (rotl ((rv hs bl t).a) 1073741824 4 : Int) ∧ (rotl ((rv hs bl t).a) 1073741824 4 : Int) ≤ 4294967295) ∧ 0 ≤ (rotl ((rv hs bl t).a) 524288 8192 : Int) ∧ (rotl ((rv hs bl t).a) 524288 8192 : Int) ≤ 4294967295)]) ⟨⟨⟨Int.natCast_nonneg _,le_pow (b := 32) (rotl_lt ok.a)⟩,⟨Int.natCast_nonneg _,le_pow (b := 32) (rotl_lt ok.a)⟩⟩,trivial⟩ ?_
             refine Ae 12 rfl 2  (Eff.callA (vs := [.int .u32 ((rv hs bl t).a : Int),.int .i64 22]) (.int .u32 (rotl ((rv hs bl t).a) 1024 4194304 : Int)) rfl Tryz.func84 rfl rfl kr (fun w1 _ => rRotr22 _ w1 ok.a)) (fun _ _ => (.cons_cons _ (.cons_cons _ (.cons_cons _ (.cons_cons _ (.cons_cons _ (List.Sublist.refl _))))))) ?_
             rintro ⟨⟩ -
             refine Ap [13,14] [] (some [2,3,6,7,8,9,14,15,18,19]) #[true,true,true,true,true,true,true,true,true,true,true,true,true,true,true] (.cons_cons _ (.cons_cons _ (.cons_cons _ (.cons_cons _ (.cons_cons _ (List.Sublist.refl _)))))) 0 (fun _ => [((0 ≤ ((((rotl ((rv hs bl t).a) 1073741824 4 : Int)).toNat ^^^ ((rotl ((rv hs bl t).a) 524288 8192 : Int)).toNat : Nat) : Int) ∧ ((((rotl ((rv hs bl t).a) 1073741824 4 : Int)).toNat ^^^ ((rotl ((rv hs bl t).a) 524288 8192 : Int)).toNat : Nat) : Int) ≤ 4294967295) ∧ 0 ≤ (rotl ((rv hs bl t).a) 1024 4194304 : Int) ∧ (rotl ((rv hs bl t).a) 1024 4194304 : Int) ≤ 4294967295)]) ⟨⟨⟨Int.natCast_nonneg _,le_pow (b := 32) (Nat.xor_lt_two_pow (tn_lt (rotl_lt ok.a)) (tn_lt (rotl_lt ok.a)))⟩,⟨Int.natCast_nonneg _,le_pow (b := 32) (rotl_lt ok.a)⟩⟩,trivial⟩ ?_
             refine CfgA.done kr ?_
             refine Cg (Γ' := [(19,[],.int .u32 (((((((rotl ((rv hs bl t).a) 1073741824 4 : Int)).toNat ^^^ ((rotl ((rv hs bl t).a) 524288 8192 : Int)).toNat : Nat) : Int)).toNat ^^^ ((rotl ((rv hs bl t).a) 1024 4194304 : Int)).toNat : Nat) : Int)),(18,[],.int .u32 (frst (rg Kc t) (rg (row bl 64) t) (rv hs bl t) : Int)),(15,[],.int .i64 (t : Int)),(14,[],.slice (some ⟨v,0,none⟩) 8 8),(9,[],.slice (some ⟨wb,0,none⟩) 64 64),(8,[],.int .i64 (((64 * q) : Nat) : Int)),(7,[],.slice (some ⟨cb,0,none⟩) 64 64),(6,[],.slice (some ⟨hb,0,none⟩) 8 8),(3,[],.slice (some ⟨mo.b,0,none⟩) (s.size + 1 + ((119 - s.size % 64) % 64) + 8) mo.cap),(2,[],.pointer (some ⟨rs,0,none⟩))]) ?_
             refine Cfg.setG (congrArg (fun (xq : Int) => ([(19,[],.int .u32 xq),(18,[],.int .u32 (frst (rg Kc t) (rg (row bl 64) t) (rv hs bl t) : Int)),(15,[],.int .i64 (t : Int)),(14,[],.slice (some ⟨v,0,none⟩) 8 8),(9,[],.slice (some ⟨wb,0,none⟩) 64 64),(8,[],.int .i64 (((64 * q) : Nat) : Int)),(7,[],.slice (some ⟨cb,0,none⟩) 64 64),(6,[],.slice (some ⟨hb,0,none⟩) 8 8),(3,[],.slice (some ⟨mo.b,0,none⟩) (s.size + 1 + ((119 - s.size % 64) % 64) + 8) mo.cap),(2,[],.pointer (some ⟨rs,0,none⟩))] : Env)) (show _ = (bigA (rv hs bl t).a : Int) from bigA_eq _)) ?_
             refine Cfg.regD rfl kr [2,3,6,7,8,9,14,15,18,19,20] [dZ,dZ,(0,false,some (.int .u32 ((rv hs bl t).a : Int))),dZ,dZ,(0,false,some (.int .u32 ((rv hs bl t).b : Int))),dZ,dZ,dZ,(0,false,some (.int .u32 ((rv hs bl t).a : Int))),dZ,dZ,(0,false,some (.int .u32 ((rv hs bl t).c : Int))),dZ,dZ,dZ,dZ,(0,false,some (.int .u32 ((rv hs bl t).b : Int))),dZ,dZ,(0,false,some (.int .u32 ((rv hs bl t).c : Int)))] (Γ' := [(20,[],.int .u32 (((((((((((rv hs bl t).a : Int)).toNat &&& (((rv hs bl t).b : Int)).toNat : Nat) : Int)).toNat ^^^ ((((((rv hs bl t).a : Int)).toNat &&& (((rv hs bl t).c : Int)).toNat : Nat) : Int)).toNat : Nat) : Int)).toNat ^^^ ((((((rv hs bl t).b : Int)).toNat &&& (((rv hs bl t).c : Int)).toNat : Nat) : Int)).toNat : Nat) : Int)),(19,[],.int .u32 (bigA (rv hs bl t).a : Int)),(18,[],.int .u32 (frst (rg Kc t) (rg (row bl 64) t) (rv hs bl t) : Int)),(15,[],.int .i64 (t : Int)),(14,[],.slice (some ⟨v,0,none⟩) 8 8),(9,[],.slice (some ⟨wb,0,none⟩) 64 64),(8,[],.int .i64 (((64 * q) : Nat) : Int)),(7,[],.slice (some ⟨cb,0,none⟩) 64 64),(6,[],.slice (some ⟨hb,0,none⟩) 8 8),(3,[],.slice (some ⟨mo.b,0,none⟩) (s.size + 1 + ((119 - s.size % 64) % 64) + 8) mo.cap),(2,[],.pointer (some ⟨rs,0,none⟩))]) (nd := (fun S => [(0 ≤ (0 : Int) ∧ (0 : Int) < (8 : Int)),(∀ w1,S w1 → w1.cell? ⟨v,0,none⟩ = some (.int .u32 ((rv hs bl t).a : Int))),(0 ≤ (1 : Int) ∧ (1 : Int) < (8 : Int)),(∀ w1,S w1 → w1.cell? ⟨v,1,none⟩ = some (.int .u32 ((rv hs bl t).b : Int))),((0 ≤ ((rv hs bl t).a : Int) ∧ ((rv hs bl t).a : Int) ≤ 4294967295) ∧ 0 ≤ ((rv hs bl t).b : Int) ∧ ((rv hs bl t).b : Int) ≤ 4294967295),(0 ≤ (0 : Int) ∧ (0 : Int) < (8 : Int)),(∀ w1,S w1 → w1.cell? ⟨v,0,none⟩ = some (.int .u32 ((rv hs bl t).a : Int))),(0 ≤ (2 : Int) ∧ (2 : Int) < (8 : Int)),(∀ w1,S w1 → w1.cell? ⟨v,2,none⟩ = some (.int .u32 ((rv hs bl t).c : Int))),((0 ≤ ((rv hs bl t).a : Int) ∧ ((rv hs bl t).a : Int) ≤ 4294967295) ∧ 0 ≤ ((rv hs bl t).c : Int) ∧ ((rv hs bl t).c : Int) ≤ 4294967295),((0 ≤ (((((rv hs bl t).a : Int)).toNat &&& (((rv hs bl t).b : Int)).toNat : Nat) : Int) ∧ (((((rv hs bl t).a : Int)).toNat &&& (((rv hs bl t).b : Int)).toNat : Nat) : Int) ≤ 4294967295) ∧ 0 ≤ (((((rv hs bl t).a : Int)).toNat &&& (((rv hs bl t).c : Int)).toNat : Nat) : Int) ∧ (((((rv hs bl t).a : Int)).toNat &&& (((rv hs bl t).c : Int)).toNat : Nat) : Int) ≤ 4294967295),(0 ≤ (1 : Int) ∧ (1 : Int) < (8 : Int)),(∀ w1,S w1 → w1.cell? ⟨v,1,none⟩ = some (.int .u32 ((rv hs bl t).b : Int))),(0 ≤ (2 : Int) ∧ (2 : Int) < (8 : Int)),(∀ w1,S w1 → w1.cell? ⟨v,2,none⟩ = some (.int .u32 ((rv hs bl t).c : Int))),((0 ≤ ((rv hs bl t).b : Int) ∧ ((rv hs bl t).b : Int) ≤ 4294967295) ∧ 0 ≤ ((rv hs bl t).c : Int) ∧ ((rv hs bl t).c : Int) ≤ 4294967295),((0 ≤ ((((((((rv hs bl t).a : Int)).toNat &&& (((rv hs bl t).b : Int)).toNat : Nat) : Int)).toNat ^^^ ((((((rv hs bl t).a : Int)).toNat &&& (((rv hs bl t).c : Int)).toNat : Nat) : Int)).toNat : Nat) : Int) ∧ ((((((((rv hs bl t).a : Int)).toNat &&& (((rv hs bl t).b : Int)).toNat : Nat) : Int)).toNat ^^^ ((((((rv hs bl t).a : Int)).toNat &&& (((rv hs bl t).c : Int)).toNat : Nat) : Int)).toNat : Nat) : Int) ≤ 4294967295) ∧ 0 ≤ (((((rv hs bl t).b : Int)).toNat &&& (((rv hs bl t).c : Int)).toNat : Nat) : Int) ∧ (((((rv hs bl t).b : Int)).toNat &&& (((rv hs bl t).c : Int)).toNat : Nat) : Int) ≤ 4294967295)])) kr kr (fun _ => kr) ⟨om,(fun w1 h => h.ocell 0 rfl rfl),om,(fun w1 h => h.ocell 0 rfl rfl),⟨⟨Int.natCast_nonneg _,le_pow (b := 32) ok.a⟩,⟨Int.natCast_nonneg _,le_pow (b := 32) ok.b⟩⟩,om,(fun w1 h => h.ocell 0 rfl rfl),om,(fun w1 h => h.ocell 0 rfl rfl),⟨⟨Int.natCast_nonneg _,le_pow (b := 32) ok.a⟩,⟨Int.natCast_nonneg _,le_pow (b := 32) ok.c⟩⟩,⟨⟨Int.natCast_nonneg _,le_pow (b := 32) (Nat.and_lt_two_pow _ (tn_lt ok.b))⟩,⟨Int.natCast_nonneg _,le_pow (b := 32) (Nat.and_lt_two_pow _ (tn_lt ok.c))⟩⟩,om,(fun w1 h => h.ocell 0 rfl rfl),om,(fun w1 h => h.ocell 0 rfl rfl),⟨⟨Int.natCast_nonneg _,le_pow (b := 32) ok.b⟩,⟨Int.natCast_nonneg _,le_pow (b := 32) ok.c⟩⟩,⟨⟨Int.natCast_nonneg _,le_pow (b := 32) (Nat.xor_lt_two_pow (tn_lt (Nat.and_lt_two_pow _ (tn_lt ok.b))) (tn_lt (Nat.and_lt_two_pow _ (tn_lt ok.c))))⟩,⟨Int.natCast_nonneg _,le_pow (b := 32) (Nat.and_lt_two_pow _ (tn_lt ok.c))⟩⟩,trivial⟩ ?_
             refine Cg (Γ' := [(20,[],.int .u32 (((((((((((rv hs bl t).a : Int)).toNat &&& (((rv hs bl t).b : Int)).toNat : Nat) : Int)).toNat ^^^ ((((((rv hs bl t).a : Int)).toNat &&& (((rv hs bl t).c : Int)).toNat : Nat) : Int)).toNat : Nat) : Int)).toNat ^^^ ((((((rv hs bl t).b : Int)).toNat &&& (((rv hs bl t).c : Int)).toNat : Nat) : Int)).toNat : Nat) : Int)),(19,[],.int .u32 (bigA (rv hs bl t).a : Int)),(18,[],.int .u32 (frst (rg Kc t) (rg (row bl 64) t) (rv hs bl t) : Int)),(15,[],.int .i64 (t : Int)),(14,[],.slice (some ⟨v,0,none⟩) 8 8),(9,[],.slice (some ⟨wb,0,none⟩) 64 64),(8,[],.int .i64 (((64 * q) : Nat) : Int)),(7,[],.slice (some ⟨cb,0,none⟩) 64 64),(6,[],.slice (some ⟨hb,0,none⟩) 8 8),(3,[],.slice (some ⟨mo.b,0,none⟩) (s.size + 1 + ((119 - s.size % 64) % 64) + 8) mo.cap),(2,[],.pointer (some ⟨rs,0,none⟩))]) ?_
             refine Cfg.setG (congrArg (fun (xq : Int) => ([(20,[],.int .u32 xq),(19,[],.int .u32 (bigA (rv hs bl t).a : Int)),(18,[],.int .u32 (frst (rg Kc t) (rg (row bl 64) t) (rv hs bl t) : Int)),(15,[],.int .i64 (t : Int)),(14,[],.slice (some ⟨v,0,none⟩) 8 8),(9,[],.slice (some ⟨wb,0,none⟩) 64 64),(8,[],.int .i64 (((64 * q) : Nat) : Int)),(7,[],.slice (some ⟨cb,0,none⟩) 64 64),(6,[],.slice (some ⟨hb,0,none⟩) 8 8),(3,[],.slice (some ⟨mo.b,0,none⟩) (s.size + 1 + ((119 - s.size % 64) % 64) + 8) mo.cap),(2,[],.pointer (some ⟨rs,0,none⟩))] : Env)) (show _ = (most (rv hs bl t).a (rv hs bl t).b (rv hs bl t).c : Int) from most_eq _ _ _)) ?_
             refine Rg [2,3,6,7,8,9,14,15,18,21] [] n0 trivial ?_
             refine Cg (Γ' := [(21,[],.int .u32 (((bigA (rv hs bl t).a : Int) + (most (rv hs bl t).a (rv hs bl t).b (rv hs bl t).c : Int)) % 4294967296)),(18,[],.int .u32 (frst (rg Kc t) (rg (row bl 64) t) (rv hs bl t) : Int)),(15,[],.int .i64 (t : Int)),(14,[],.slice (some ⟨v,0,none⟩) 8 8),(9,[],.slice (some ⟨wb,0,none⟩) 64 64),(8,[],.int .i64 (((64 * q) : Nat) : Int)),(7,[],.slice (some ⟨cb,0,none⟩) 64 64),(6,[],.slice (some ⟨hb,0,none⟩) 8 8),(3,[],.slice (some ⟨mo.b,0,none⟩) (s.size + 1 + ((119 - s.size % 64) % 64) + 8) mo.cap),(2,[],.pointer (some ⟨rs,0,none⟩))]) ?_
             refine Cfg.setG (congrArg (fun (xq : Int) => ([(21,[],.int .u32 xq),(18,[],.int .u32 (frst (rg Kc t) (rg (row bl 64) t) (rv hs bl t) : Int)),(15,[],.int .i64 (t : Int)),(14,[],.slice (some ⟨v,0,none⟩) 8 8),(9,[],.slice (some ⟨wb,0,none⟩) 64 64),(8,[],.int .i64 (((64 * q) : Nat) : Int)),(7,[],.slice (some ⟨cb,0,none⟩) 64 64),(6,[],.slice (some ⟨hb,0,none⟩) 8 8),(3,[],.slice (some ⟨mo.b,0,none⟩) (s.size + 1 + ((119 - s.size % 64) % 64) + 8) mo.cap),(2,[],.pointer (some ⟨rs,0,none⟩))] : Env)) (show _ = (scnd (rv hs bl t) : Int) from scnd_eq _)) ?_
             refine Cfg.begA rfl kr ([(v,.cells (wv (w8l (rv hs bl t))) 88 (0,0)),(wb,.cells (wv (row bl 64)) 88 (0,0)),(cb,.cells (wv Kc) 88 (0,0)),(hb,.cells (wv hs) 88 (0,0)),(rs,.cells (bv (List.replicate 32 0)) 95 (0,0))] ++ (MO.o 5 ((bv M).toList) mo ++ [])) ?_
             refine Ap [0,1,2,3,4,5,6,7,8,9,10,11,12,13,14,15,16,17,18,19,20,21,22,23,24,25] [dZ,dZ,dZ,dZ,dZ,(0,false,some (.int .u32 ((rv hs bl t).a : Int))),dZ,dZ,(0,false,some (.int .u32 ((rv hs bl t).b : Int))),dZ,dZ,(0,false,some (.int .u32 ((rv hs bl t).c : Int))),dZ,dZ,(0,false,some (.int .u32 ((rv hs bl t).d : Int))),dZ,dZ,dZ,dZ,(0,false,some (.int .u32 ((rv hs bl t).e : Int))),dZ,dZ,(0,false,some (.int .u32 ((rv hs bl t).f : Int))),dZ,dZ,(0,false,some (.int .u32 ((rv hs bl t).g : Int)))] (some [2,3,6,7,8,9,14,15,290,293,296,299,304,307,310,313]) #[true,true,true,true,true,true,true,true,true,true,true,true,true,true,true,true,true,true,true,true,true,true,true,true,true,true,false,false] (.cons_cons _ (.cons_cons _ (.cons_cons _ (.cons_cons _ (.cons_cons _ (List.Sublist.refl _)))))) 2 (fun S => [(0 ≤ (0 : Int) ∧ (0 : Int) < (8 : Int)),(∀ w1,S w1 → w1.cell? ⟨v,0,none⟩ = some (.int .u32 ((rv hs bl t).a : Int))),(0 ≤ (1 : Int) ∧ (1 : Int) < (8 : Int)),(∀ w1,S w1 → w1.cell? ⟨v,1,none⟩ = some (.int .u32 ((rv hs bl t).b : Int))),(0 ≤ (2 : Int) ∧ (2 : Int) < (8 : Int)),(∀ w1,S w1 → w1.cell? ⟨v,2,none⟩ = some (.int .u32 ((rv hs bl t).c : Int))),(0 ≤ (3 : Int) ∧ (3 : Int) < (8 : Int)),(∀ w1,S w1 → w1.cell? ⟨v,3,none⟩ = some (.int .u32 ((rv hs bl t).d : Int))),(0 ≤ (4 : Int) ∧ (4 : Int) < (8 : Int)),(∀ w1,S w1 → w1.cell? ⟨v,4,none⟩ = some (.int .u32 ((rv hs bl t).e : Int))),(0 ≤ (5 : Int) ∧ (5 : Int) < (8 : Int)),(∀ w1,S w1 → w1.cell? ⟨v,5,none⟩ = some (.int .u32 ((rv hs bl t).f : Int))),(0 ≤ (6 : Int) ∧ (6 : Int) < (8 : Int)),(∀ w1,S w1 → w1.cell? ⟨v,6,none⟩ = some (.int .u32 ((rv hs bl t).g : Int)))]) ⟨om,(fun w1 h => h.ocell 0 rfl rfl),om,(fun w1 h => h.ocell 0 rfl rfl),om,(fun w1 h => h.ocell 0 rfl rfl),om,(fun w1 h => h.ocell 0 rfl rfl),om,(fun w1 h => h.ocell 0 rfl rfl),om,(fun w1 h => h.ocell 0 rfl rfl),om,(fun w1 h => h.ocell 0 rfl rfl),trivial⟩ ?_
             refine Ae 26 rfl 1  (Eff.buildSlice (e := 88) (cells := #[.int .u32 (((frst (rg Kc t) (rg (row bl 64) t) (rv hs bl t) : Int) + (scnd (rv hs bl t) : Int)) % 4294967296),.int .u32 ((rv hs bl t).a : Int),.int .u32 ((rv hs bl t).b : Int),.int .u32 ((rv hs bl t).c : Int),.int .u32 ((((rv hs bl t).d : Int) + (frst (rg Kc t) (rg (row bl 64) t) (rv hs bl t) : Int)) % 4294967296),.int .u32 ((rv hs bl t).e : Int),.int .u32 ((rv hs bl t).f : Int),.int .u32 ((rv hs bl t).g : Int)]) (parts := #[(0,.int .u32 (((frst (rg Kc t) (rg (row bl 64) t) (rv hs bl t) : Int) + (scnd (rv hs bl t) : Int)) % 4294967296)),(1,.int .u32 ((rv hs bl t).a : Int)),(2,.int .u32 ((rv hs bl t).b : Int)),(3,.int .u32 ((rv hs bl t).c : Int)),(4,.int .u32 ((((rv hs bl t).d : Int) + (frst (rg Kc t) (rg (row bl 64) t) (rv hs bl t) : Int)) % 4294967296)),(5,.int .u32 ((rv hs bl t).e : Int)),(6,.int .u32 ((rv hs bl t).f : Int)),(7,.int .u32 ((rv hs bl t).g : Int))]) rfl kr (fun _ => kr)) (fun _ _ => (.cons _ (.cons_cons _ (.cons_cons _ (.cons_cons _ (.cons_cons _ (.cons_cons _ (List.Sublist.refl _)))))))) ?_
             rintro vz ⟨hvz,nvz⟩
             refine Ap [27] [] (some [2,3,6,7,8,9,14,15]) #[true,true,true,true,true,true,true,true,true,true,true,true,true,true,true,true,true,true,true,true,true,true,true,true,true,true,true,true] (.cons _ (.cons_cons _ (.cons_cons _ (.cons_cons _ (.cons_cons _ (.cons_cons _ (List.Sublist.refl _))))))) 0 n0 trivial ?_
             refine CfgA.done kr ?_
             refine Rg [2,3,6,7,8,9,14,15] [] (fun _ => [((-9223372036854775808 : Int) ≤ ((t : Int) + 1) ∧ ((t : Int) + 1) ≤ 9223372036854775807)]) ⟨om,trivial⟩ ?_
             refine Cfg.setO (congrArg (fun (xq : Array Value) => (([(vz,.cells xq 88 (0,0)),(v,.cells (wv (w8l (rv hs bl t))) 88 (0,0)),(wb,.cells (wv (row bl 64)) 88 (0,0)),(cb,.cells (wv Kc) 88 (0,0)),(hb,.cells (wv hs) 88 (0,0)),(rs,.cells (bv (List.replicate 32 0)) 95 (0,0))] ++ (MO.o 5 ((bv M).toList) mo ++ [])) : List (Nat × Obj))) (show _ = (wv (w8l (rv hs bl (t + 1)))) from vrow _ _ t)) ?_
             refine Cfg.again rfl (t + 1,vz) (by show t + 1 ≤ 64; omega) (by show 64 - (t + 1) < 64 - t; omega) (Conv.mk kr) (.cons_cons _ (.cons _ (List.Sublist.refl _)))
            ·have c6 := (of_decide_eq_false c6r)
             obtain rfl : t = 64 := by omega
             refine Conv.cfg (Γ' := [(14,[],.slice (some ⟨v,0,none⟩) 8 8),(9,[],.slice (some ⟨wb,0,none⟩) 64 64),(8,[],.int .i64 (((64 * q) : Nat) : Int)),(7,[],.slice (some ⟨cb,0,none⟩) 64 64),(6,[],.slice (some ⟨hb,0,none⟩) 8 8),(3,[],.slice (some ⟨mo.b,0,none⟩) (s.size + 1 + ((119 - s.size % 64) % 64) + 8) mo.cap),(2,[],.pointer (some ⟨rs,0,none⟩))]) (Conv.mk kr) ?_
             refine Rg [2,3,6,7,8,14,22] [] n0 trivial ?_
             refine Cfg.setO (congrArg (fun (xq : Array Value) => (([(v,.cells (wv (w8l (rv hs bl 64))) 88 (0,0)),(wb,.cells (wv (row bl 64)) 88 (0,0)),(cb,.cells (wv Kc) 88 (0,0)),(hb,.cells xq 88 (0,0)),(rs,.cells (bv (List.replicate 32 0)) 95 (0,0))] ++ (MO.o 5 ((bv M).toList) mo ++ [])) : List (Nat × Obj))) (show _ = (wv (sm hs (w8l (rv hs bl 64)) 0)) from rfl)) ?_
             refine Cfg.loop rfl (ι := Nat) (fun (k : Nat) => [(22,[],.int .i64 (k : Int)),(14,[],.slice (some ⟨v,0,none⟩) 8 8),(8,[],.int .i64 (((64 * q) : Nat) : Int)),(7,[],.slice (some ⟨cb,0,none⟩) 64 64),(6,[],.slice (some ⟨hb,0,none⟩) 8 8),(3,[],.slice (some ⟨mo.b,0,none⟩) (s.size + 1 + ((119 - s.size % 64) % 64) + 8) mo.cap),(2,[],.pointer (some ⟨rs,0,none⟩))]) (fun (k : Nat) => ([(v,.cells (wv (w8l (rv hs bl 64))) 88 (0,0)),(wb,.cells (wv (row bl 64)) 88 (0,0)),(cb,.cells (wv Kc) 88 (0,0)),(hb,.cells (wv (sm hs (w8l (rv hs bl 64)) k)) 88 (0,0)),(rs,.cells (bv (List.replicate 32 0)) 95 (0,0))] ++ (MO.o 5 ((bv M).toList) mo ++ []))) (fun (k : Nat) => (k ≤ 8)) (fun (k : Nat) => 8 - k) 0 ?_ (Conv.mk kr) (.cons_cons _ (.cons_cons _ (.cons_cons _ (.cons_cons _ (.cons_cons _ (List.Sublist.refl _)))))) ?_
             ·exact Nat.zero_le _
             ·rintro k hk
              refine Rg [2,3,6,7,8,14,22,316] [] n0 trivial ?_
              refine Cfg.cond rfl (b := (decide ((k : Int) < (8 : Int)))) kr (fun c7r => ?_) (fun c7r => ?_)
              ·have c7 := (of_decide_eq_true c7r)
               refine Cfg.begA rfl kr ([(v,.cells (wv (w8l (rv hs bl 64))) 88 (0,0)),(wb,.cells (wv (row bl 64)) 88 (0,0)),(cb,.cells (wv Kc) 88 (0,0)),(rs,.cells (bv (List.replicate 32 0)) 95 (0,0))] ++ (MO.o 5 ((bv M).toList) mo ++ [])) ?_
               refine Ap [0,1,2,3,4,6,7,8,9] [dZ,dZ,dZ,dZ,dZ,dZ,dZ,dZ,(0,false,some (.int .u32 (rg (w8l (rv hs bl 64)) k : Int)))] (some [2,3,6,7,8,14,22,319,320,323,328]) #[true,true,true,true,true,false,true,true,true,true,false,false,false] (.cons_cons _ (.cons_cons _ (.cons_cons _ (.cons _ (.cons_cons _ (List.Sublist.refl _)))))) 4 (fun S => [(0 ≤ (k : Int) ∧ (k : Int) < (8 : Int)),(0 ≤ (k : Int) ∧ (k : Int) < (8 : Int)),(∀ w1,S w1 → w1.cell? ⟨v,k,none⟩ = some (.int .u32 (rg (w8l (rv hs bl 64)) k : Int)))]) ⟨om,om,(fun w1 h => h.ocell 0 rfl (wv_get (w8l_len _) om)),trivial⟩ ?_
               refine Ae 5 rfl 3  (Eff.quiet (raw := false) (orc := some (.int .u32 (rg (sm hs (w8l (rv hs bl 64)) k) k : Int))) (v := .int .u32 (rg (sm hs (w8l (rv hs bl 64)) k) k : Int)) (nd := (fun S => [(∀ w1,S w1 → w1.cell? ⟨hb,k,none⟩ = some (.int .u32 (rg (sm hs (w8l (rv hs bl 64)) k) k : Int)))])) (fun _ => kr) ⟨(fun w1 h => h.ocell 3 rfl (wv_get (sm_len _ hh k) om)),trivial⟩ kr) (fun _ _ => (.cons_cons _ (.cons_cons _ (.cons_cons _ (.cons _ (.cons_cons _ (List.Sublist.refl _))))))) ?_
               rintro ⟨⟩ -
               refine Ap [10,11] [] (some [2,3,6,7,8,14,22,329,330]) #[true,true,true,true,true,true,true,true,true,true,true,true,false] (.cons_cons _ (.cons_cons _ (.cons_cons _ (.cons _ (.cons_cons _ (List.Sublist.refl _)))))) 1 (fun _ => [(0 ≤ (k : Int) ∧ (k : Int) < (8 : Int))]) ⟨om,trivial⟩ ?_
               refine Ae 12 rfl 0  (Eff.store1 (b := hb) (off := k) (v := .int .u32 (((rg (sm hs (w8l (rv hs bl 64)) k) k : Int) + (rg (w8l (rv hs bl 64)) k : Int)) % 4294967296)) rfl kr kr rfl kr 3 (cs := (wv (sm hs (w8l (rv hs bl 64)) k))) (e := 88) kr (by rw [wv_size,sm_len _ hh k]; omega)) (fun _ _ => (.cons_cons _ (.cons_cons _ (.cons_cons _ (.cons _ (.cons_cons _ (List.Sublist.refl _))))))) ?_
               rintro ⟨⟩ -
               refine CfgA.done kr ?_
               refine Cg (Γ' := [(22,[],.int .i64 (k : Int)),(14,[],.slice (some ⟨v,0,none⟩) 8 8),(8,[],.int .i64 (((64 * q) : Nat) : Int)),(7,[],.slice (some ⟨cb,0,none⟩) 64 64),(6,[],.slice (some ⟨hb,0,none⟩) 8 8),(3,[],.slice (some ⟨mo.b,0,none⟩) (s.size + 1 + ((119 - s.size % 64) % 64) + 8) mo.cap),(2,[],.pointer (some ⟨rs,0,none⟩))]) ?_
               refine Rg [2,3,6,7,8,14,22] [] (fun _ => [((-9223372036854775808 : Int) ≤ ((k : Int) + 1) ∧ ((k : Int) + 1) ≤ 9223372036854775807)]) ⟨om,trivial⟩ ?_
               refine Cfg.setO (congrArg (fun (xq : Array Value) => (([(v,.cells (wv (w8l (rv hs bl 64))) 88 (0,0)),(wb,.cells (wv (row bl 64)) 88 (0,0)),(cb,.cells (wv Kc) 88 (0,0)),(hb,.cells xq 88 (0,0)),(rs,.cells (bv (List.replicate 32 0)) 95 (0,0))] ++ (MO.o 5 ((bv M).toList) mo ++ [])) : List (Nat × Obj))) (show _ = (wv (sm hs (w8l (rv hs bl 64)) (k + 1))) from wsum8 _ _ om hh)) ?_
               refine Cfg.again rfl (k + 1) (by show k + 1 ≤ 8; omega) (by show 8 - (k + 1) < 8 - k; omega) (Conv.mk kr) (.cons_cons _ (.cons_cons _ (.cons_cons _ (.cons_cons _ (.cons_cons _ (List.Sublist.refl _))))))
              ·have c7 := (of_decide_eq_false c7r)
               obtain rfl : k = 8 := by omega
               refine Conv.cfg (Γ' := [(14,[],.slice (some ⟨v,0,none⟩) 8 8),(8,[],.int .i64 (((64 * q) : Nat) : Int)),(7,[],.slice (some ⟨cb,0,none⟩) 64 64),(6,[],.slice (some ⟨hb,0,none⟩) 8 8),(3,[],.slice (some ⟨mo.b,0,none⟩) (s.size + 1 + ((119 - s.size % 64) % 64) + 8) mo.cap),(2,[],.pointer (some ⟨rs,0,none⟩))]) (Conv.mk kr) ?_
               refine Rg [2,3,6,7,8] [] (fun _ => [((-9223372036854775808 : Int) ≤ ((((64 * q) : Nat) : Int) + 64) ∧ ((((64 * q) : Nat) : Int) + 64) ≤ 9223372036854775807)]) ⟨om,trivial⟩ ?_
               have hmx : sm hs (w8l (rv hs bl 64)) 8 = mixes (q + 1) M H8 := by rw [hhs,hbl]; exact (mixes_succ q _ _).symm
               refine Cfg.setO (congrArg (fun (xq : Array Value) => (([(v,.cells (wv (w8l (rv hs bl 64))) 88 (0,0)),(wb,.cells (wv (row bl 64)) 88 (0,0)),(cb,.cells (wv Kc) 88 (0,0)),(hb,.cells xq 88 (0,0)),(rs,.cells (bv (List.replicate 32 0)) 95 (0,0))] ++ (MO.o 5 ((bv M).toList) mo ++ [])) : List (Nat × Obj))) (show _ = (wv (mixes (q + 1) M H8)) from by rw [hmx])) ?_
               refine Cfg.again rfl (q + 1) (by show q + 1 ≤ M.length / 64; omega) (by show M.length / 64 - (q + 1) < M.length / 64 - q; omega) (Conv.mk kr) (.cons _ (.cons _ (.cons_cons _ (.cons_cons _ (.cons_cons _ (List.Sublist.refl _))))))
      ·have c3 := (of_decide_eq_false c3r)
       obtain rfl : q = M.length / 64 := by omega
       subst hhs
       refine Conv.cfg (Γ' := [(7,[],.slice (some ⟨cb,0,none⟩) 64 64),(6,[],.slice (some ⟨hb,0,none⟩) 8 8),(3,[],.slice (some ⟨mo.b,0,none⟩) (s.size + 1 + ((119 - s.size % 64) % 64) + 8) mo.cap),(2,[],.pointer (some ⟨rs,0,none⟩))]) (Conv.mk kr) ?_
       refine Cfg.begL rfl ?_
       refine Le (Eff.alloc (z := (.agg (bv (List.replicate 32 0)))) rfl kr) ?_
       rintro d ⟨hd,nd⟩
       refine CfgL.done rfl ?_
       refine Cg (Γ' := [(23,[],.pointer (some ⟨d,0,none⟩)),(6,[],.slice (some ⟨hb,0,none⟩) 8 8),(2,[],.pointer (some ⟨rs,0,none⟩))]) ?_
       refine Rg [2,6,23,24] [] n0 trivial ?_
       refine Cfg.loop rfl (ι := Nat) (fun (k2 : Nat) => [(24,[],.int .i64 (k2 : Int)),(23,[],.pointer (some ⟨d,0,none⟩)),(6,[],.slice (some ⟨hb,0,none⟩) 8 8),(2,[],.pointer (some ⟨rs,0,none⟩))]) (fun (k2 : Nat) => ([(d,.cells (bv (dgr (mixes (M.length / 64) M H8) k2)) 95 (0,0)),(cb,.cells (wv Kc) 88 (0,0)),(hb,.cells (wv (mixes (M.length / 64) M H8)) 88 (0,0)),(rs,.cells (bv (List.replicate 32 0)) 95 (0,0))] ++ (MO.o 5 ((bv M).toList) mo ++ []))) (fun (k2 : Nat) => (k2 ≤ 8)) (fun (k2 : Nat) => 8 - k2) 0 ?_ (Conv.mk kr) (.cons_cons _ (.cons_cons _ (.cons_cons _ (.cons_cons _ (List.Sublist.refl _))))) ?_
       ·exact Nat.zero_le _
       ·rintro k2 hk2
        refine Rg [2,6,23,24,332] [] n0 trivial ?_
        refine Cfg.cond rfl (b := (decide ((k2 : Int) < (8 : Int)))) kr (fun c8r => ?_) (fun c8r => ?_)
        ·have c8 := (of_decide_eq_true c8r)
         refine Cfg.begL rfl ?_
         refine Lp 9 [dZ,dZ,dZ,dZ,dZ,(0,false,some (.int .u32 ((rg (mixes (M.length / 64) M H8) k2 : Nat) : Int)))] (some [2,6,23,24,342,343]) (fun S => [((-9223372036854775808 : Int) ≤ (4 * (k2 : Int)) ∧ (4 * (k2 : Int)) ≤ 9223372036854775807),(0 ≤ (k2 : Int) ∧ (k2 : Int) < (8 : Int)),(∀ w1,S w1 → w1.cell? ⟨hb,k2,none⟩ = some (.int .u32 ((rg (mixes (M.length / 64) M H8) k2 : Nat) : Int))),(0 ≤ (24 : Int) ∧ 24 ≤ 32),(0 ≤ (4 * (k2 : Int)) ∧ (4 * (k2 : Int)) < (32 : Int))]) ⟨om,om,(fun w1 h => h.ocell 2 rfl (wv_get (n := 8) (i := k2) (mixes_len (M.length / 64) M (hs := H8) rfl) om)),om,om,trivial⟩ ?_
         refine Le (Eff.store1 (b := d) (off := (4 * k2)) (v := .int .u8 ((((rg (mixes (M.length / 64) M H8) k2 : Nat) : Int) / 16777216) % 256)) rfl kr kr rfl kr 0 (cs := (bv (dgr (mixes (M.length / 64) M H8) k2))) (e := 95) kr (by first | (rw [dsz2 _ hk2]; omega) | (simp only [Array.size_setIfInBounds,dsz2 _ hk2]; omega))) ?_
         rintro ⟨⟩ -
         refine CfgL.done rfl ?_
         refine Cg (Γ' := [(24,[],.int .i64 (k2 : Int)),(23,[],.pointer (some ⟨d,0,none⟩)),(6,[],.slice (some ⟨hb,0,none⟩) 8 8),(2,[],.pointer (some ⟨rs,0,none⟩))]) ?_
         refine Cfg.begL rfl ?_
         refine Lp 10 [dZ,dZ,dZ,dZ,dZ,dZ,(0,false,some (.int .u32 ((rg (mixes (M.length / 64) M H8) k2 : Nat) : Int)))] (some [2,6,23,24,352,353]) (fun S => [((-9223372036854775808 : Int) ≤ (4 * (k2 : Int)) ∧ (4 * (k2 : Int)) ≤ 9223372036854775807),((-9223372036854775808 : Int) ≤ ((4 * (k2 : Int)) + 1) ∧ ((4 * (k2 : Int)) + 1) ≤ 9223372036854775807),(0 ≤ (k2 : Int) ∧ (k2 : Int) < (8 : Int)),(∀ w1,S w1 → w1.cell? ⟨hb,k2,none⟩ = some (.int .u32 ((rg (mixes (M.length / 64) M H8) k2 : Nat) : Int))),(0 ≤ (16 : Int) ∧ 16 ≤ 32),(0 ≤ ((4 * (k2 : Int)) + 1) ∧ ((4 * (k2 : Int)) + 1) < (32 : Int))]) ⟨om,om,om,(fun w1 h => h.ocell 2 rfl (wv_get (n := 8) (i := k2) (mixes_len (M.length / 64) M (hs := H8) rfl) om)),om,om,trivial⟩ ?_
         refine Le (Eff.store1 (b := d) (off := ((4 * k2) + 1)) (v := .int .u8 ((((rg (mixes (M.length / 64) M H8) k2 : Nat) : Int) / 65536) % 256)) rfl kr kr rfl kr 0 (cs := ((bv (dgr (mixes (M.length / 64) M H8) k2)).setIfInBounds (4 * k2) (.int .u8 ((((rg (mixes (M.length / 64) M H8) k2 : Nat) : Int) / 16777216) % 256)))) (e := 95) kr (by first | (rw [dsz2 _ hk2]; omega) | (simp only [Array.size_setIfInBounds,dsz2 _ hk2]; omega))) ?_
         rintro ⟨⟩ -
         refine CfgL.done rfl ?_
         refine Cg (Γ' := [(24,[],.int .i64 (k2 : Int)),(23,[],.pointer (some ⟨d,0,none⟩)),(6,[],.slice (some ⟨hb,0,none⟩) 8 8),(2,[],.pointer (some ⟨rs,0,none⟩))]) ?_
         refine Cfg.begL rfl ?_
         refine Lp 10 [dZ,dZ,dZ,dZ,dZ,dZ,(0,false,some (.int .u32 ((rg (mixes (M.length / 64) M H8) k2 : Nat) : Int)))] (some [2,6,23,24,362,363]) (fun S => [((-9223372036854775808 : Int) ≤ (4 * (k2 : Int)) ∧ (4 * (k2 : Int)) ≤ 9223372036854775807),((-9223372036854775808 : Int) ≤ ((4 * (k2 : Int)) + 2) ∧ ((4 * (k2 : Int)) + 2) ≤ 9223372036854775807),(0 ≤ (k2 : Int) ∧ (k2 : Int) < (8 : Int)),(∀ w1,S w1 → w1.cell? ⟨hb,k2,none⟩ = some (.int .u32 ((rg (mixes (M.length / 64) M H8) k2 : Nat) : Int))),(0 ≤ (8 : Int) ∧ 8 ≤ 32),(0 ≤ ((4 * (k2 : Int)) + 2) ∧ ((4 * (k2 : Int)) + 2) < (32 : Int))]) ⟨om,om,om,(fun w1 h => h.ocell 2 rfl (wv_get (n := 8) (i := k2) (mixes_len (M.length / 64) M (hs := H8) rfl) om)),om,om,trivial⟩ ?_
         refine Le (Eff.store1 (b := d) (off := ((4 * k2) + 2)) (v := .int .u8 ((((rg (mixes (M.length / 64) M H8) k2 : Nat) : Int) / 256) % 256)) rfl kr kr rfl kr 0 (cs := (((bv (dgr (mixes (M.length / 64) M H8) k2)).setIfInBounds (4 * k2) (.int .u8 ((((rg (mixes (M.length / 64) M H8) k2 : Nat) : Int) / 16777216) % 256))).setIfInBounds ((4 * k2) + 1) (.int .u8 ((((rg (mixes (M.length / 64) M H8) k2 : Nat) : Int) / 65536) % 256)))) (e := 95) kr (by first | (rw [dsz2 _ hk2]; omega) | (simp only [Array.size_setIfInBounds,dsz2 _ hk2]; omega))) ?_
         rintro ⟨⟩ -
         refine CfgL.done rfl ?_
         refine Cg (Γ' := [(24,[],.int .i64 (k2 : Int)),(23,[],.pointer (some ⟨d,0,none⟩)),(6,[],.slice (some ⟨hb,0,none⟩) 8 8),(2,[],.pointer (some ⟨rs,0,none⟩))]) ?_
         refine Cfg.begL rfl ?_
         refine Lp 9 [dZ,dZ,dZ,dZ,dZ,dZ,(0,false,some (.int .u32 ((rg (mixes (M.length / 64) M H8) k2 : Nat) : Int)))] (some [2,6,23,24,371,372]) (fun S => [((-9223372036854775808 : Int) ≤ (4 * (k2 : Int)) ∧ (4 * (k2 : Int)) ≤ 9223372036854775807),((-9223372036854775808 : Int) ≤ ((4 * (k2 : Int)) + 3) ∧ ((4 * (k2 : Int)) + 3) ≤ 9223372036854775807),(0 ≤ (k2 : Int) ∧ (k2 : Int) < (8 : Int)),(∀ w1,S w1 → w1.cell? ⟨hb,k2,none⟩ = some (.int .u32 ((rg (mixes (M.length / 64) M H8) k2 : Nat) : Int))),(0 ≤ ((4 * (k2 : Int)) + 3) ∧ ((4 * (k2 : Int)) + 3) < (32 : Int))]) ⟨om,om,om,(fun w1 h => h.ocell 2 rfl (wv_get (n := 8) (i := k2) (mixes_len (M.length / 64) M (hs := H8) rfl) om)),om,trivial⟩ ?_
         refine Le (Eff.store1 (b := d) (off := ((4 * k2) + 3)) (v := .int .u8 (((rg (mixes (M.length / 64) M H8) k2 : Nat) : Int) % 256)) rfl kr kr rfl kr 0 (cs := ((((bv (dgr (mixes (M.length / 64) M H8) k2)).setIfInBounds (4 * k2) (.int .u8 ((((rg (mixes (M.length / 64) M H8) k2 : Nat) : Int) / 16777216) % 256))).setIfInBounds ((4 * k2) + 1) (.int .u8 ((((rg (mixes (M.length / 64) M H8) k2 : Nat) : Int) / 65536) % 256))).setIfInBounds ((4 * k2) + 2) (.int .u8 ((((rg (mixes (M.length / 64) M H8) k2 : Nat) : Int) / 256) % 256)))) (e := 95) kr (by first | (rw [dsz2 _ hk2]; omega) | (simp only [Array.size_setIfInBounds,dsz2 _ hk2]; omega))) ?_
         rintro ⟨⟩ -
         refine CfgL.done rfl ?_
         refine Cg (Γ' := [(24,[],.int .i64 (k2 : Int)),(23,[],.pointer (some ⟨d,0,none⟩)),(6,[],.slice (some ⟨hb,0,none⟩) 8 8),(2,[],.pointer (some ⟨rs,0,none⟩))]) ?_
         refine Rg [2,6,23,24] [] (fun _ => [((-9223372036854775808 : Int) ≤ ((k2 : Int) + 1) ∧ ((k2 : Int) + 1) ≤ 9223372036854775807)]) ⟨om,trivial⟩ ?_
         refine Cfg.setO (congrArg (fun (xq : Array Value) => (([(d,.cells xq 95 (0,0)),(cb,.cells (wv Kc) 88 (0,0)),(hb,.cells (wv (mixes (M.length / 64) M H8)) 88 (0,0)),(rs,.cells (bv (List.replicate 32 0)) 95 (0,0))] ++ (MO.o 5 ((bv M).toList) mo ++ [])) : List (Nat × Obj))) (show _ = (bv (dgr (mixes (M.length / 64) M H8) (k2 + 1))) from dgr_step _ om rfl rfl rfl rfl)) ?_
         refine Cfg.again rfl (k2 + 1) (by show k2 + 1 ≤ 8; omega) (by show 8 - (k2 + 1) < 8 - k2; omega) (Conv.mk kr) (.cons_cons _ (.cons_cons _ (.cons_cons _ (.cons_cons _ (List.Sublist.refl _)))))
        ·have c8 := (of_decide_eq_false c8r)
         refine Cfg.begL rfl ?_
         refine Lp 1 [(0,false,some (.agg (bv (dgr (mixes (M.length / 64) M H8) k2))))] (some [2,373]) (fun S => [(∀ w1,S w1 → (loadVar 95 ⟨d,0,none⟩).run Tryz.prog w1 = .ok (.agg (bv (dgr (mixes (M.length / 64) M H8) k2))) w1)]) ⟨(fun w1 h => h.oload 0 rfl Tryz.underlying95 rfl (n := 32) kr (dsz2 _ hk2)),trivial⟩ ?_
         refine Le (Eff.storeN (b := rs) (off := 0) (vs := (bv (dgr (mixes (M.length / 64) M H8) k2))) (n := 32) rfl kr kr kr (dsz2 _ hk2) (all_bv _) 3 (cs := (bv (List.replicate 32 0))) (e := 95) kr (by rw [zsz]; omega)) ?_
         rintro ⟨⟩ -
         refine CfgL.setO (congrArg (fun (xq : Array Value) => (([(d,.cells (bv (dgr (mixes (M.length / 64) M H8) k2)) 95 (0,0)),(cb,.cells (wv Kc) 88 (0,0)),(hb,.cells (wv (mixes (M.length / 64) M H8)) 88 (0,0)),(rs,.cells xq 95 (0,0))] ++ (MO.o 5 ((bv M).toList) mo ++ [])) : List (Nat × Obj))) (show _ = (bv (dgr (mixes (M.length / 64) M H8) k2)) from spl_all ((dsz2 _ hk2).trans zsz.symm))) ?_
         refine CfgL.done rfl ?_
         refine Cg (Γ' := [(2,[],.pointer (some ⟨rs,0,none⟩))]) ?_
         refine Cfg.ret rfl (rs := [.cell 2 95]) rfl [.agg (bv (dgr (mixes (M.length / 64) M H8) k2))] ⟨⟨_,by kernel_rfl,(fun w1 h => h.oload 3 rfl Tryz.underlying95 rfl (n := 32) kr (dsz2 _ hk2))⟩,trivial⟩ (fun w1 hp => ?_)
         obtain rfl : k2 = 8 := by omega
         have hsd : shaD s.data.toList = dgr (mixes (M.length / 64) M H8) 8 := by
          have hbq : s.data.toList.length = s.size := ba_len s
          have hlm : M.length = s.data.toList.length + (tailN s.data.toList.length).length := by rw [hM,List.length_append]; unfold un8; rw [List.length_map,hbq]
          have := shaD_mixes s.data.toList (k := M.length / 64) om
          rw [hbq,← hM] at this
          exact this
         rw [hsd]
         exact ⟨rfl,hp.ext⟩
end Go.Proofs.YtohjpggjgomgoaaGreatDoor
namespace Go.Proofs.YtohjpggjgomgoaaGreatDoor
open K
set_option linter.unusedVariables false
def rowK (L : List UInt8) (k : Nat) : List UInt8 := L.take k ++ List.replicate (512 - k) 0
theorem rowK_len {L : List UInt8} {k : Nat} (hk : k ≤ L.length) (h : L.length ≤ 512) : (rowK L k).length = 512 := by unfold rowK; rw [List.length_append,List.length_take,List.length_replicate]; omega
theorem rowK_set {L : List UInt8} {k : Nat} (hk : k < L.length) (h : L.length ≤ 512) : (bv (rowK L k)).setIfInBounds k (.int .u8 ((L.getD k 0).toNat : Int)) = bv (rowK L (k + 1)) := by
 have hb := byteLt (L.getD k 0)
 rw [bv_set om om,Int.toNat_natCast]
 congr 1
 unfold rowK
 have e1 : List.replicate (512 - k) (0 : UInt8) = 0 :: List.replicate (512 - (k + 1)) 0 := by rw [show 512 - k = (512 - (k + 1)) + 1 by omega,List.replicate_succ]
 have hl : (L.take k).length = k := by rw [List.length_take]; omega
 rw [e1,List.take_succ_eq_append_getElem hk,List.append_assoc]
 simp [hl,List.getElem?_eq_getElem hk]
theorem jc_byte {r : Wr} {j : Nat} (h : r.2.length = 512) (hj : j < 512) : (jc r)[1 + j]? = some (.int .u8 ((r.2.getD j 0).toNat : Int)) := by
 rw [show 1 + j = j + 1 by omega]
 show (bv r.2).toList[j]? = _
 rw [Array.getElem?_toList]; exact bv_get h hj
theorem rowK_all {L : List UInt8} (h : L.length = 512) : rowK L 512 = L := by unfold rowK; rw [List.take_of_length_le (by omega),Nat.sub_self]; exact List.append_nil _
theorem num2 (a : Int) (w : World) : Calls Tryz.prog 37 #[.int .u64 (a % 18446744073709551616 % 65536),.int .i64 2] w fun e w' => e = .returned (.string (tx (two a))) ∧ Ext [] w w' := by
 have h9 := rNum (a % 18446744073709551616 % 65536).toNat 2 w om (by decide)
 rw [Int.toNat_of_nonneg om] at h9
 have e : tx (two a) = beS (a % 18446744073709551616 % 65536).toNat 2 := by
  show (⟨_⟩ : ByteArray) = ⟨_⟩
  congr 2
  show [_,_] = [UInt8.ofNat (_ / 256 ^ 1),UInt8.ofNat (_ / 256 ^ 0)]
  have h1 : ((a / 256) % 256).toNat = (a % 18446744073709551616 % 65536).toNat / 256 ^ 1 := by omega
  have h2 : UInt8.ofNat (a % 256).toNat = UInt8.ofNat ((a % 18446744073709551616 % 65536).toNat / 256 ^ 0) := by
   rw [← u8_mod ((a % 18446744073709551616 % 65536).toNat / 256 ^ 0)]; congr 1; omega
  rw [h1,h2]
 rw [e]; exact h9
theorem numI (n k : Nat) (w : World) (hn : n < 9223372036854775808) (hk : k ≤ 8) : Calls Tryz.prog 37 #[.int .u64 ((n : Int) % 18446744073709551616),.int .i64 (k : Int)] w fun e w' => e = .returned (.string (beS n k)) ∧ Ext [] w w' := by
 rw [show ((n : Int) % 18446744073709551616) = (n : Int) by omega]; exact rNum n k w om hk
set_option maxRecDepth 100000 in
theorem rText4 (b : List UInt8) (w : World) (hb : b.length = 512) :
  Calls Tryz.prog 38 #[.agg (bv b)] w fun e w' => e = .returned (.string (tx b)) ∧ Ext [] w w' := by
 refine enter (vs := [.agg (bv b)]) [] [] [] Tryz.func38 rfl kr (HP.start w) ?_
 refine Cfg.begL rfl ?_
 refine Le (Eff.box (v := .agg (bv b)) rfl kr) ?_
 rintro bx ⟨hbx,nbx⟩
 refine Lp 1 [] (some [1]) n0 trivial ?_
 refine CfgL.done rfl ?_
 refine Cfg.begL rfl ?_
 refine Le (Eff.makeRow (e := 5) (n := 512) (cells := (bv (List.replicate 512 0))) (v1 := .int .i64 512) (v2 := .int .i64 512) rfl kr kr (fun _ => kr)) ?_
 rintro ob ⟨hob,nob⟩
 refine Lp 1 [] (some [1,3]) n0 trivial ?_
 refine CfgL.done rfl ?_
 refine Rg [1,3,4] [] n0 trivial ?_
 refine Cfg.setO (congrArg (fun (xq : Array Value) => ([(ob,.cells xq 5 (0,0)),(bx,.cells (bv b) 25 (0,0))] : List (Nat × Obj))) (show _ = (bv (rowK b 0)) from rfl)) ?_
 refine Cfg.loop rfl (ι := Nat) (fun (k : Nat) => [(4,[],.int .i64 (k : Int)),(3,[],.slice (some ⟨ob,0,none⟩) 512 512),(1,[],.pointer (some ⟨bx,0,none⟩))]) (fun (k : Nat) => [(ob,.cells (bv (rowK b k)) 5 (0,0)),(bx,.cells (bv b) 25 (0,0))]) (fun (k : Nat) => (k ≤ 512)) (fun (k : Nat) => 512 - k) 0 ?_ (Conv.mk kr) (.cons_cons _ (.cons_cons _ .slnil)) ?_
 ·exact Nat.zero_le _
 ·rintro k hk
  refine Rg [1,3,4,7] [] n0 trivial ?_
  refine Cfg.cond rfl (b := (decide ((k : Int) < (512 : Int)))) kr (fun c1r => ?_) (fun c1r => ?_)
  ·have c1 := (of_decide_eq_true c1r)
   refine Cfg.begL rfl ?_
   refine Lp 6 [dZ,dZ,dZ,dZ,(0,false,some (.int .u8 ((b.getD k 0).toNat : Int)))] (some [1,3,4,14,15]) (fun S => [(0 ≤ (k : Int) ∧ (k : Int) < (512 : Int)),(∀ w1,S w1 → w1.cell? ⟨bx,k,none⟩ = some (.int .u8 ((b.getD k 0).toNat : Int))),(0 ≤ (k : Int) ∧ (k : Int) < (512 : Int))]) ⟨om,(fun w1 h => h.ocell 1 rfl (bv_get (n := 512) hb om)),om,trivial⟩ ?_
   refine Le (Eff.store1 (b := ob) (off := k) (v := .int .u8 ((b.getD k 0).toNat : Int)) rfl kr kr rfl kr 0 (cs := (bv (rowK b k))) (e := 5) kr (by rw [bv_size,rowK_len om om]; omega)) ?_
   rintro ⟨⟩ -
   refine CfgL.done rfl ?_
   refine Cg (Γ' := [(4,[],.int .i64 (k : Int)),(3,[],.slice (some ⟨ob,0,none⟩) 512 512),(1,[],.pointer (some ⟨bx,0,none⟩))]) ?_
   refine Rg [1,3,4] [] (fun _ => [((-9223372036854775808 : Int) ≤ ((k : Int) + 1) ∧ ((k : Int) + 1) ≤ 9223372036854775807)]) ⟨om,trivial⟩ ?_
   refine Cfg.setO (congrArg (fun (xq : Array Value) => ([(ob,.cells xq 5 (0,0)),(bx,.cells (bv b) 25 (0,0))] : List (Nat × Obj))) (show _ = (bv (rowK b (k + 1))) from rowK_set om om)) ?_
   refine Cfg.again rfl (k + 1) (show k + 1 ≤ 512 by omega) om (Conv.mk kr) (.cons_cons _ (.cons_cons _ .slnil))
  ·have c1 := (of_decide_eq_false c1r)
   obtain rfl : k = 512 := by omega
   refine Cfg.setO (congrArg (fun (xq : Array Value) => ([(ob,.cells xq 5 (0,0)),(bx,.cells (bv b) 25 (0,0))] : List (Nat × Obj))) (show _ = (bv b) from by rw [rowK_all hb])) ?_
   refine Conv.cfg (Γ' := [(3,[],.slice (some ⟨ob,0,none⟩) 512 512)]) (Conv.mk kr) ?_
   refine Rg [2] [dZ,(0,false,some (.string (tx b)))] (fun S => [(∀ w1,S w1 → (Conv.bytesToString (.slice (some ⟨ob,0,none⟩) 512 512)).run Tryz.prog w1 = .ok (.string (tx b)) w1)]) ⟨(fun w1 h => bytes_str hb (fun j hj => by rw [Nat.zero_add]; exact h.ocell 0 rfl (bv_get hb hj))),trivial⟩ ?_
   refine Cfg.ret rfl (rs := [.tmp 2]) rfl [.string (tx b)] ⟨kr,trivial⟩ (fun w1 hp => ?_)
   exact ⟨rfl,hp.ext⟩
set_option maxRecDepth 100000 in
set_option maxHeartbeats 4000000 in
theorem refHead4 (number : Nat) (la : Option Addr) (cap : Nat) (l : List Wr) (Rl : List (Nat × Obj)) (w : World) (hnu : number < 18446744073709551616) (hI : InW Rl la l) (hW : WW l) (hn : l.length ≤ maxLen) (hcap : l.length ≤ cap) (hR : Has w Rl) :
  Calls Tryz.prog 8 #[.int .u64 (number : Int),.slice la l.length cap] w fun e w' => e = .returned (.agg (bv (headF number l))) ∧ Ext [] w w' := by
 unfold maxLen at hn
 obtain ⟨q,hq⟩ : ∃ q,q = l.take 96 := ⟨_,rfl⟩
 have hIq : InW Rl la q := hq ▸ (hI.take 96 hW)
 have hWq : WW q := hq ▸ hW.take 96
 have hql : q.length = min 96 l.length := by rw [hq,List.length_take]
 have hhf : headF number l = hdL number q ++ List.replicate (512 - (hdL number q).length) 0 := by rw [hq]; rfl
 rw [hhf]
 have hdl := hdL_len number q
 have hsl := hdS_len number q
 have hbl := flatB_len hWq
 clear hhf hq
 have hf8 : ∀ x,(eight x).length = 8 := fun x => be_len _ _
 have hf4 : ∀ x,(four x).length = 4 := fun x => be_len _ _
 have hts := tx_size
 refine enter (vs := [.int .u64 (number : Int),.slice la l.length cap]) [] Rl [] Tryz.func8 rfl kr (HP.ofHas hR) ?_
 refine Cfg.begL rfl ?_
 refine Le (Eff.alloc (z := (.agg (bv (List.replicate 512 0)))) rfl kr) ?_
 rintro rs ⟨hrs,nrs⟩
 refine CfgL.done rfl ?_
 refine Rg [0,1,4,13] [] n0 trivial ?_
 refine Cfg.cond rfl (b := (decide ((l.length : Int) > (96 : Int)))) kr (fun c1r => ?_) (fun c1r => ?_)
 ·have c1 := (of_decide_eq_true c1r)
  refine Cfg.begL rfl ?_
  refine Lp 1 [] (some [0,1,4,14]) n0 trivial ?_
  refine Le (Eff.sliceTo (a := la) (n := l.length) (c := cap) (m := 96) rfl Tryz.underlying29 kr kr kr om) ?_
  rintro ⟨⟩ -
  refine Lp 1 [] (some [0,1,4]) n0 trivial ?_
  refine CfgL.done rfl ?_
  have hqe : 96 = q.length := by omega
  refine Cg (Γ' := [(1,[],.slice la 96 cap),(4,[],.pointer (some ⟨rs,0,none⟩)),(0,[],.int .u64 (number : Int))]) ?_
  refine Cfg.setG (congrArg (fun (xq : Value) => ([(1,[],xq),(4,[],.pointer (some ⟨rs,0,none⟩)),(0,[],.int .u64 (number : Int))] : Env)) (show _ = .slice la q.length cap from congrArg (fun n : Nat => Value.slice la n cap) hqe)) ?_
  refine Cfg.begL rfl ?_
  refine Lp 1 [] (some [1,4,16]) n0 trivial ?_
  refine Le (Eff.callA (vs := [.int .u64 (number : Int),.int .i64 8]) (.string (beS number 8)) rfl Tryz.func37 rfl rfl kr (fun w1 _ => rNum number 8 w1 hnu (by decide))) ?_
  rintro ⟨⟩ -
  refine Lp 4 [] (some [1,4,18,21]) (fun _ => [(4 + (beS number 8).size ≤ 9223372036854775807)]) ⟨(by rw [beS_size]; omega),trivial⟩ ?_
  refine Le (Eff.callA (vs := [.int .u64 ((q.length : Int) % 18446744073709551616),.int .i64 4]) (.string (beS q.length 4)) rfl Tryz.func37 rfl rfl kr (fun w1 _ => numI q.length 4 w1 om (by decide))) ?_
  rintro ⟨⟩ -
  refine Lp 2 [] (some [1,4,5]) (fun _ => [(((⟨#[80,82,84,82]⟩ : ByteArray) ++ (beS number 8)).size + (beS q.length 4).size ≤ 9223372036854775807)]) ⟨(by rw [ByteArray.size_append,beS_size,beS_size,show (⟨#[80,82,84,82]⟩ : ByteArray).size = 4 from rfl]; omega),trivial⟩ ?_
  refine CfgL.done rfl ?_
  refine Rg [1,4,5,6] [] n0 trivial ?_
  refine Rg [4,5,6,24,25,26] [] n0 trivial ?_
  refine Cg (Γ' := [(26,[],.int .i64 0),(25,[],.int .i64 (q.length : Int)),(24,[],.slice la q.length cap),(6,[],.string ⟨#[]⟩),(5,[],.string (((⟨#[80,82,84,82]⟩ : ByteArray) ++ (beS number 8)) ++ (beS q.length 4))),(4,[],.pointer (some ⟨rs,0,none⟩))]) ?_
  refine Cfg.setG (congrArg (fun (xq : ByteArray) => ([(26,[],.int .i64 0),(25,[],.int .i64 (q.length : Int)),(24,[],.slice la q.length cap),(6,[],.string ⟨#[]⟩),(5,[],.string xq),(4,[],.pointer (some ⟨rs,0,none⟩))] : Env)) (show _ = (tx (mkL ++ eight number ++ four q.length ++ flat twoW (q.take 0))) from rfl)) ?_
  refine Cg (Γ' := [(26,[],.int .i64 0),(25,[],.int .i64 (q.length : Int)),(24,[],.slice la q.length cap),(6,[],.string ⟨#[]⟩),(5,[],.string (tx (mkL ++ eight number ++ four q.length ++ flat twoW (q.take 0)))),(4,[],.pointer (some ⟨rs,0,none⟩))]) ?_
  refine Cfg.setG (congrArg (fun (xq : ByteArray) => ([(26,[],.int .i64 0),(25,[],.int .i64 (q.length : Int)),(24,[],.slice la q.length cap),(6,[],.string xq),(5,[],.string (tx (mkL ++ eight number ++ four q.length ++ flat twoW (q.take 0)))),(4,[],.pointer (some ⟨rs,0,none⟩))] : Env)) (show _ = (tx (flat blkW (q.take 0))) from rfl)) ?_
  refine Cfg.loop rfl (ι := Nat) (fun (i : Nat) => [(26,[],.int .i64 (i : Int)),(25,[],.int .i64 (q.length : Int)),(24,[],.slice la q.length cap),(6,[],.string (tx (flat blkW (q.take i)))),(5,[],.string (tx (mkL ++ eight number ++ four q.length ++ flat twoW (q.take i)))),(4,[],.pointer (some ⟨rs,0,none⟩))]) (fun (i : Nat) => [(rs,.cells (bv (List.replicate 512 0)) 25 (0,0))]) (fun (i : Nat) => (i ≤ q.length)) (fun (i : Nat) => q.length - i) 0 ?_ (Conv.mk kr) (.cons_cons _ .slnil) ?_
  ·exact Nat.zero_le _
  ·rintro i hi
   have hpb := fun (hlt : i < q.length) => flat_part (f := blkW) (l := q) wz hlt
   have hfl2 := flat2_len (q.take i)
   have htl : (q.take i).length = i := by rw [List.length_take]; omega
   refine Rg [4,5,6,24,25,26,27] [] n0 trivial ?_
   refine Cfg.cond rfl (b := (decide ((i : Int) < (q.length : Int)))) kr (fun c2r => ?_) (fun c2r => ?_)
   ·have c2 := (of_decide_eq_true c2r)
    obtain ⟨sb,off,cs,te,fre,rfl,hmem,hcs⟩ := hIq om
    refine Conv.cfg (Γ' := [(27,[],.bool (decide ((i : Int) < (q.length : Int)))),(26,[],.int .i64 (i : Int)),(25,[],.int .i64 (q.length : Int)),(24,[],.slice (some ⟨sb,off,none⟩) q.length cap),(6,[],.string (tx (flat blkW (q.take i)))),(5,[],.string (tx (mkL ++ eight number ++ four q.length ++ flat twoW (q.take i)))),(4,[],.pointer (some ⟨rs,0,none⟩))]) (Conv.mk kr) ?_
    refine Cfg.begL rfl ?_
    refine Lp 2 [dZ,(0,false,some (.agg (jc (q.getD i wz)).toArray))] (some [4,5,6,24,25,26,29]) (fun S => [(0 ≤ (i : Int) ∧ (i : Int) < (q.length : Int)),(∀ w1,S w1 → (loadVar 36 ⟨sb,(addO off (i * 513)),none⟩).run Tryz.prog w1 = .ok (.agg (jc (q.getD i wz)).toArray) w1)]) ⟨om,(fun w1 h => load_list Tryz.underlying36 rfl kr (jc_len (hWq.at i)) (fun j v hj => by rw [addO_eq]; exact (cell_cells (h.ro _ hmem)).trans (wr_cell hWq hcs om hj))),trivial⟩ ?_
    refine Le (Eff.alloc (z := (.agg (jc wz).toArray)) rfl kr) ?_
    rintro xb2 ⟨hxb2,nxb2⟩
    refine Le (Eff.storeN (b := xb2) (off := 0) (vs := (jc (q.getD i wz)).toArray) (n := 513) rfl kr kr kr (by rw [List.size_toArray,jc_len (hWq.at i)]) (jc_all _) 0 (cs := (jc wz).toArray) (e := 36) kr (by show 0 + 513 ≤ (jc wz).toArray.size; rw [List.size_toArray,jc_len zb_len]; decide)) ?_
    rintro ⟨⟩ -
    refine CfgL.setO (congrArg (fun (xq : Array Value) => ([(xb2,.cells xq 36 (0,0)),(rs,.cells (bv (List.replicate 512 0)) 25 (0,0))] : List (Nat × Obj))) (show _ = ((jc (q.getD i wz)).toArray) from spl_all (by rw [List.size_toArray,List.size_toArray,jc_len (hWq.at i)]; exact (jc_len zb_len).symm))) ?_
    refine CfgL.done rfl ?_
    refine Cg (Γ' := [(8,[],.pointer (some ⟨xb2,0,none⟩)),(26,[],.int .i64 (i : Int)),(25,[],.int .i64 (q.length : Int)),(24,[],.slice (some ⟨sb,off,none⟩) q.length cap),(6,[],.string (tx (flat blkW (q.take i)))),(5,[],.string (tx (mkL ++ eight number ++ four q.length ++ flat twoW (q.take i)))),(4,[],.pointer (some ⟨rs,0,none⟩))]) ?_
    refine Cfg.begL rfl ?_
    refine Lp 5 [dZ,dZ,(0,false,some (.int .i64 ((q.getD i wz).1)))] (some [4,5,6,8,24,25,26,30,34]) (fun S => [(∀ w1,S w1 → w1.cell? ⟨xb2,0,none⟩ = some (.int .i64 ((q.getD i wz).1))),(0 ≤ (((q.getD i wz).1) % 18446744073709551616) ∧ 0 < (65536 : Int))]) ⟨(fun w1 h => h.ocell 0 rfl rfl),om,trivial⟩ ?_
    refine Le (Eff.callA (vs := [.int .u64 ((((q.getD i wz).1) % 18446744073709551616) % 65536),.int .i64 2]) (.string (tx (two (q.getD i wz).1))) rfl Tryz.func37 rfl rfl kr (fun w1 _ => num2 (q.getD i wz).1 w1)) ?_
    rintro ⟨⟩ -
    refine Lp 2 [] (some [4,5,6,8,24,25,26]) (fun _ => [((tx (mkL ++ eight number ++ four q.length ++ flat twoW (q.take i))).size + (tx (two (q.getD i wz).1)).size ≤ 9223372036854775807)]) ⟨(by rw [tx_size,tx_size,two_len]; simp only [List.length_append,hf8,hf4,show mkL.length = 4 from rfl]; omega),trivial⟩ ?_
    refine CfgL.done rfl ?_
    refine Cfg.begL rfl ?_
    refine Lp 3 [dZ,dZ,(0,false,some (.agg (bv (q.getD i wz).2)))] (some [4,5,6,24,25,26,37,39]) (fun S => [(∀ w1,S w1 → (loadVar 25 ⟨xb2,1,none⟩).run Tryz.prog w1 = .ok (.agg (bv (q.getD i wz).2)) w1)]) ⟨(fun w1 h => load_bytes Tryz.underlying25 rfl kr (hWq.at i) (fun j hj => by rw [cell_cells (h.own (xb2,_) (List.mem_of_getElem? (i := 0) rfl)),List.getElem?_toArray]; exact jc_byte (hWq.at i) hj)),trivial⟩ ?_
    refine Le (Eff.callA (vs := [.agg (bv (q.getD i wz).2)]) (.string (tx (q.getD i wz).2)) rfl Tryz.func38 rfl rfl kr (fun w1 _ => rText4 (q.getD i wz).2 w1 (hWq.at i))) ?_
    rintro ⟨⟩ -
    refine Lp 2 [] (some [4,5,6,24,25,26]) (fun _ => [((tx (flat blkW (q.take i))).size + (tx (q.getD i wz).2).size ≤ 9223372036854775807)]) ⟨(by have h1 : (flat blkW (q.take i)).length + (q.getD i wz).2.length ≤ (flat blkW q).length := hpb om; rw [tx_size,tx_size]; omega),trivial⟩ ?_
    refine CfgL.done rfl ?_
    refine Rg [4,5,6,24,25,26] [] (fun _ => [((-9223372036854775808 : Int) ≤ ((i : Int) + 1) ∧ ((i : Int) + 1) ≤ 9223372036854775807)]) ⟨om,trivial⟩ ?_
    refine Cg (Γ' := [(26,[],.int .i64 ((i : Int) + 1)),(6,[],.string ((tx (flat blkW (q.take i))) ++ (tx (q.getD i wz).2))),(5,[],.string ((tx (mkL ++ eight number ++ four q.length ++ flat twoW (q.take i))) ++ (tx (two (q.getD i wz).1)))),(25,[],.int .i64 (q.length : Int)),(24,[],.slice (some ⟨sb,off,none⟩) q.length cap),(4,[],.pointer (some ⟨rs,0,none⟩))]) ?_
    refine Cfg.setG (congrArg (fun (xq : ByteArray) => ([(26,[],.int .i64 ((i : Int) + 1)),(6,[],.string ((tx (flat blkW (q.take i))) ++ (tx (q.getD i wz).2))),(5,[],.string xq),(25,[],.int .i64 (q.length : Int)),(24,[],.slice (some ⟨sb,off,none⟩) q.length cap),(4,[],.pointer (some ⟨rs,0,none⟩))] : Env)) (show _ = (tx (mkL ++ eight number ++ four q.length ++ flat twoW (q.take (i + 1)))) from by rw [flat_succ wz om,tx_app,List.append_assoc]; rfl)) ?_
    refine Cg (Γ' := [(26,[],.int .i64 ((i : Int) + 1)),(6,[],.string ((tx (flat blkW (q.take i))) ++ (tx (q.getD i wz).2))),(5,[],.string (tx (mkL ++ eight number ++ four q.length ++ flat twoW (q.take (i + 1))))),(25,[],.int .i64 (q.length : Int)),(24,[],.slice (some ⟨sb,off,none⟩) q.length cap),(4,[],.pointer (some ⟨rs,0,none⟩))]) ?_
    refine Cfg.setG (congrArg (fun (xq : ByteArray) => ([(26,[],.int .i64 ((i : Int) + 1)),(6,[],.string xq),(5,[],.string (tx (mkL ++ eight number ++ four q.length ++ flat twoW (q.take (i + 1))))),(25,[],.int .i64 (q.length : Int)),(24,[],.slice (some ⟨sb,off,none⟩) q.length cap),(4,[],.pointer (some ⟨rs,0,none⟩))] : Env)) (show _ = (tx (flat blkW (q.take (i + 1)))) from by rw [flat_succ wz om,tx_app]; rfl)) ?_
    refine Cfg.again rfl (i + 1) (show i + 1 ≤ q.length by omega) om (Conv.mk kr) (.cons _ (.cons_cons _ .slnil))
   ·have c2 := (of_decide_eq_false c2r)
    obtain rfl : i = q.length := by omega
    refine Conv.cfg (Γ' := [(6,[],.string (tx (flat blkW (q.take q.length)))),(5,[],.string (tx (mkL ++ eight number ++ four q.length ++ flat twoW (q.take q.length)))),(4,[],.pointer (some ⟨rs,0,none⟩))]) (Conv.mk kr) ?_
    refine Cg (Γ' := [(6,[],.string (tx (flat blkW (q.take q.length)))),(5,[],.string (tx (mkL ++ eight number ++ four q.length ++ flat twoW (q.take q.length)))),(4,[],.pointer (some ⟨rs,0,none⟩))]) ?_
    refine Cfg.setG (congrArg (fun (xq : ByteArray) => ([(6,[],.string (tx (flat blkW (q.take q.length)))),(5,[],.string xq),(4,[],.pointer (some ⟨rs,0,none⟩))] : Env)) (show _ = (tx (hdS number q)) from by rw [hdS_flat])) ?_
    refine Cg (Γ' := [(6,[],.string (tx (flat blkW (q.take q.length)))),(5,[],.string (tx (hdS number q))),(4,[],.pointer (some ⟨rs,0,none⟩))]) ?_
    refine Cfg.setG (congrArg (fun (xq : ByteArray) => ([(6,[],.string xq),(5,[],.string (tx (hdS number q))),(4,[],.pointer (some ⟨rs,0,none⟩))] : Env)) (show _ = (tx (flat blkW q)) from by rw [List.take_length])) ?_
    refine Cfg.begL rfl ?_
    refine Lp 4 [] (some [4,5,43,46]) (fun _ => [((tx (hdS number q)).size + (tx (flat blkW q)).size ≤ 9223372036854775807)]) ⟨(by rw [tx_size,tx_size]; omega),trivial⟩ ?_
    refine Le (Eff.callA (vs := [.string ((tx (hdS number q)) ++ (tx (flat blkW q)))]) (.agg (bv (shaD (hdS number q ++ flat blkW q)))) rfl Tryz.func40 rfl rfl kr (fun w1 _ => by have h9 := rSum (tx (hdS number q) ++ tx (flat blkW q)) w1 (by rw [tx_app,tx_size,List.length_append]; omega); rw [tx_app,tx_list] at h9; rw [tx_app]; exact h9)) ?_
    rintro ⟨⟩ -
    refine Le (Eff.callA (vs := [.agg (bv (shaD (hdS number q ++ flat blkW q)))]) (.string (tx (shaD (hdS number q ++ flat blkW q)))) rfl Tryz.func39 rfl rfl kr (fun w1 _ => rDigest _ w1 (shaD_len _))) ?_
    rintro ⟨⟩ -
    refine Lp 2 [] (some [4,5]) (fun _ => [((tx (hdS number q)).size + (tx (shaD (hdS number q ++ flat blkW q))).size ≤ 9223372036854775807)]) ⟨(by rw [tx_size,tx_size,shaD_len]; omega),trivial⟩ ?_
    refine CfgL.done rfl ?_
    refine Cfg.begL rfl ?_
    refine Le (Eff.alloc (z := (.agg (bv (List.replicate 512 0)))) rfl kr) ?_
    rintro hb ⟨hhb,nhb⟩
    refine CfgL.done rfl ?_
    refine Rg [4,5,9,10] [] n0 trivial ?_
    refine Cfg.setO (congrArg (fun (xq : Array Value) => ([(hb,.cells xq 25 (0,0)),(rs,.cells (bv (List.replicate 512 0)) 25 (0,0))] : List (Nat × Obj))) (show _ = (bv (rowK (hdL number q) 0)) from rfl)) ?_
    refine Cg (Γ' := [(10,[],.int .i64 0),(9,[],.pointer (some ⟨hb,0,none⟩)),(5,[],.string ((tx (hdS number q)) ++ (tx (shaD (hdS number q ++ flat blkW q))))),(4,[],.pointer (some ⟨rs,0,none⟩))]) ?_
    refine Cfg.setG (congrArg (fun (xq : ByteArray) => ([(10,[],.int .i64 0),(9,[],.pointer (some ⟨hb,0,none⟩)),(5,[],.string xq),(4,[],.pointer (some ⟨rs,0,none⟩))] : Env)) (show _ = (tx (hdL number q)) from by rw [tx_app]; rfl)) ?_
    refine Cfg.loop rfl (ι := Nat) (fun (k : Nat) => [(10,[],.int .i64 (k : Int)),(9,[],.pointer (some ⟨hb,0,none⟩)),(5,[],.string (tx (hdL number q))),(4,[],.pointer (some ⟨rs,0,none⟩))]) (fun (k : Nat) => [(hb,.cells (bv (rowK (hdL number q) k)) 25 (0,0)),(rs,.cells (bv (List.replicate 512 0)) 25 (0,0))]) (fun (k : Nat) => (k ≤ (hdL number q).length)) (fun (k : Nat) => (hdL number q).length - k) 0 ?_ (Conv.mk kr) (.cons_cons _ (.cons_cons _ .slnil)) ?_
    ·exact Nat.zero_le _
    ·rintro k hk
     have htl : (tx (hdL number q)).size = (hdL number q).length := tx_size _
     refine Rg [4,5,9,10,53] [] n0 trivial ?_
     refine Cfg.cond rfl (b := (decide ((k : Int) < ((tx (hdL number q)).size : Int)))) kr (fun c3r => ?_) (fun c3r => ?_)
     ·have c3 := (of_decide_eq_true c3r)
      refine Cfg.begL rfl ?_
      refine Lp 5 [] (some [4,5,9,10,59,60]) (fun _ => [(0 ≤ (k : Int) ∧ (k : Int) < ((tx (hdL number q)).size : Int)),(0 ≤ (k : Int) ∧ (k : Int) < (512 : Int))]) ⟨(by rw [tx_size]; omega),om,trivial⟩ ?_
      refine Le (Eff.store1 (b := hb) (off := k) (v := .int .u8 (sbyte (tx (hdL number q)) (k : Int))) rfl kr kr rfl kr 0 (cs := (bv (rowK (hdL number q) k))) (e := 25) kr (by rw [bv_size,rowK_len om om]; omega)) ?_
      rintro ⟨⟩ -
      refine CfgL.done rfl ?_
      refine Cg (Γ' := [(10,[],.int .i64 (k : Int)),(9,[],.pointer (some ⟨hb,0,none⟩)),(5,[],.string (tx (hdL number q))),(4,[],.pointer (some ⟨rs,0,none⟩))]) ?_
      refine Rg [4,5,9,10] [] (fun _ => [((-9223372036854775808 : Int) ≤ ((k : Int) + 1) ∧ ((k : Int) + 1) ≤ 9223372036854775807)]) ⟨om,trivial⟩ ?_
      refine Cfg.setO (congrArg (fun (xq : Array Value) => ([(hb,.cells xq 25 (0,0)),(rs,.cells (bv (List.replicate 512 0)) 25 (0,0))] : List (Nat × Obj))) (show _ = (bv (rowK (hdL number q) (k + 1))) from by rw [sbyte_gb]; exact rowK_set om om)) ?_
      refine Cfg.again rfl (k + 1) (show k + 1 ≤ (hdL number q).length by omega) om (Conv.mk kr) (.cons_cons _ (.cons_cons _ .slnil))
     ·have c3 := (of_decide_eq_false c3r)
      obtain rfl : k = (hdL number q).length := by omega
      have hfl : (hdL number q ++ List.replicate (512 - (hdL number q).length) 0).length = 512 := by rw [List.length_append,List.length_replicate]; omega
      refine Cfg.setO (congrArg (fun (xq : Array Value) => ([(hb,.cells xq 25 (0,0)),(rs,.cells (bv (List.replicate 512 0)) 25 (0,0))] : List (Nat × Obj))) (show _ = (bv (hdL number q ++ List.replicate (512 - (hdL number q).length) 0)) from by unfold rowK; rw [List.take_length])) ?_
      refine Conv.cfg (Γ' := [(9,[],.pointer (some ⟨hb,0,none⟩)),(4,[],.pointer (some ⟨rs,0,none⟩))]) (Conv.mk kr) ?_
      refine Cfg.begL rfl ?_
      refine Lp 1 [(0,false,some (.agg (bv (hdL number q ++ List.replicate (512 - (hdL number q).length) 0))))] (some [4,61]) (fun S => [(∀ w1,S w1 → (loadVar 25 ⟨hb,0,none⟩).run Tryz.prog w1 = .ok (.agg (bv (hdL number q ++ List.replicate (512 - (hdL number q).length) 0))) w1)]) ⟨(fun w1 h => h.oload 0 rfl Tryz.underlying25 rfl (n := 512) kr ((bv_size _).trans hfl)),trivial⟩ ?_
      refine Le (Eff.storeN (b := rs) (off := 0) (vs := (bv (hdL number q ++ List.replicate (512 - (hdL number q).length) 0))) (n := 512) rfl kr kr kr ((bv_size _).trans hfl) (all_bv _) 1 (cs := (bv (List.replicate 512 0))) (e := 25) kr (by rw [zsz512]; omega)) ?_
      rintro ⟨⟩ -
      refine CfgL.setO (congrArg (fun (xq : Array Value) => ([(hb,.cells (bv (hdL number q ++ List.replicate (512 - (hdL number q).length) 0)) 25 (0,0)),(rs,.cells xq 25 (0,0))] : List (Nat × Obj))) (show _ = (bv (hdL number q ++ List.replicate (512 - (hdL number q).length) 0)) from spl_all (((bv_size _).trans hfl).trans zsz512.symm))) ?_
      refine CfgL.done rfl ?_
      refine Cg (Γ' := [(4,[],.pointer (some ⟨rs,0,none⟩))]) ?_
      refine Cfg.ret rfl (rs := [.cell 4 25]) rfl [.agg (bv (hdL number q ++ List.replicate (512 - (hdL number q).length) 0))] ⟨⟨_,by kernel_rfl,(fun w1 h => h.oload 1 rfl Tryz.underlying25 rfl (n := 512) kr ((bv_size _).trans hfl))⟩,trivial⟩ (fun w1 hp => ?_)
      exact ⟨rfl,hp.ext⟩
 ·have c1 := (of_decide_eq_false c1r)
  have hqe : l.length = q.length := by omega
  refine Cg (Γ' := [(13,[],.bool (decide ((l.length : Int) > (96 : Int)))),(4,[],.pointer (some ⟨rs,0,none⟩)),(0,[],.int .u64 (number : Int)),(1,[],.slice la l.length cap)]) ?_
  refine Cfg.setG (congrArg (fun (xq : Value) => ([(13,[],.bool (decide ((l.length : Int) > (96 : Int)))),(4,[],.pointer (some ⟨rs,0,none⟩)),(0,[],.int .u64 (number : Int)),(1,[],xq)] : Env)) (show _ = .slice la q.length cap from congrArg (fun n : Nat => Value.slice la n cap) hqe)) ?_
  refine Cfg.begL rfl ?_
  refine Lp 1 [] (some [1,4,16]) n0 trivial ?_
  refine Le (Eff.callA (vs := [.int .u64 (number : Int),.int .i64 8]) (.string (beS number 8)) rfl Tryz.func37 rfl rfl kr (fun w1 _ => rNum number 8 w1 hnu (by decide))) ?_
  rintro ⟨⟩ -
  refine Lp 4 [] (some [1,4,18,21]) (fun _ => [(4 + (beS number 8).size ≤ 9223372036854775807)]) ⟨(by rw [beS_size]; omega),trivial⟩ ?_
  refine Le (Eff.callA (vs := [.int .u64 ((q.length : Int) % 18446744073709551616),.int .i64 4]) (.string (beS q.length 4)) rfl Tryz.func37 rfl rfl kr (fun w1 _ => numI q.length 4 w1 om (by decide))) ?_
  rintro ⟨⟩ -
  refine Lp 2 [] (some [1,4,5]) (fun _ => [(((⟨#[80,82,84,82]⟩ : ByteArray) ++ (beS number 8)).size + (beS q.length 4).size ≤ 9223372036854775807)]) ⟨(by rw [ByteArray.size_append,beS_size,beS_size,show (⟨#[80,82,84,82]⟩ : ByteArray).size = 4 from rfl]; omega),trivial⟩ ?_
  refine CfgL.done rfl ?_
  refine Rg [1,4,5,6] [] n0 trivial ?_
  refine Rg [4,5,6,24,25,26] [] n0 trivial ?_
  refine Cg (Γ' := [(26,[],.int .i64 0),(25,[],.int .i64 (q.length : Int)),(24,[],.slice la q.length cap),(6,[],.string ⟨#[]⟩),(5,[],.string (((⟨#[80,82,84,82]⟩ : ByteArray) ++ (beS number 8)) ++ (beS q.length 4))),(4,[],.pointer (some ⟨rs,0,none⟩))]) ?_
  refine Cfg.setG (congrArg (fun (xq : ByteArray) => ([(26,[],.int .i64 0),(25,[],.int .i64 (q.length : Int)),(24,[],.slice la q.length cap),(6,[],.string ⟨#[]⟩),(5,[],.string xq),(4,[],.pointer (some ⟨rs,0,none⟩))] : Env)) (show _ = (tx (mkL ++ eight number ++ four q.length ++ flat twoW (q.take 0))) from rfl)) ?_
  refine Cg (Γ' := [(26,[],.int .i64 0),(25,[],.int .i64 (q.length : Int)),(24,[],.slice la q.length cap),(6,[],.string ⟨#[]⟩),(5,[],.string (tx (mkL ++ eight number ++ four q.length ++ flat twoW (q.take 0)))),(4,[],.pointer (some ⟨rs,0,none⟩))]) ?_
  refine Cfg.setG (congrArg (fun (xq : ByteArray) => ([(26,[],.int .i64 0),(25,[],.int .i64 (q.length : Int)),(24,[],.slice la q.length cap),(6,[],.string xq),(5,[],.string (tx (mkL ++ eight number ++ four q.length ++ flat twoW (q.take 0)))),(4,[],.pointer (some ⟨rs,0,none⟩))] : Env)) (show _ = (tx (flat blkW (q.take 0))) from rfl)) ?_
  refine Cfg.loop rfl (ι := Nat) (fun (i : Nat) => [(26,[],.int .i64 (i : Int)),(25,[],.int .i64 (q.length : Int)),(24,[],.slice la q.length cap),(6,[],.string (tx (flat blkW (q.take i)))),(5,[],.string (tx (mkL ++ eight number ++ four q.length ++ flat twoW (q.take i)))),(4,[],.pointer (some ⟨rs,0,none⟩))]) (fun (i : Nat) => [(rs,.cells (bv (List.replicate 512 0)) 25 (0,0))]) (fun (i : Nat) => (i ≤ q.length)) (fun (i : Nat) => q.length - i) 0 ?_ (Conv.mk kr) (.cons_cons _ .slnil) ?_
  ·exact Nat.zero_le _
  ·rintro i hi
   have hpb := fun (hlt : i < q.length) => flat_part (f := blkW) (l := q) wz hlt
   have hfl2 := flat2_len (q.take i)
   have htl : (q.take i).length = i := by rw [List.length_take]; omega
   refine Rg [4,5,6,24,25,26,27] [] n0 trivial ?_
   refine Cfg.cond rfl (b := (decide ((i : Int) < (q.length : Int)))) kr (fun c4r => ?_) (fun c4r => ?_)
   ·have c4 := (of_decide_eq_true c4r)
    obtain ⟨sb,off,cs,te,fre,rfl,hmem,hcs⟩ := hIq om
    refine Conv.cfg (Γ' := [(27,[],.bool (decide ((i : Int) < (q.length : Int)))),(26,[],.int .i64 (i : Int)),(25,[],.int .i64 (q.length : Int)),(24,[],.slice (some ⟨sb,off,none⟩) q.length cap),(6,[],.string (tx (flat blkW (q.take i)))),(5,[],.string (tx (mkL ++ eight number ++ four q.length ++ flat twoW (q.take i)))),(4,[],.pointer (some ⟨rs,0,none⟩))]) (Conv.mk kr) ?_
    refine Cfg.begL rfl ?_
    refine Lp 2 [dZ,(0,false,some (.agg (jc (q.getD i wz)).toArray))] (some [4,5,6,24,25,26,29]) (fun S => [(0 ≤ (i : Int) ∧ (i : Int) < (q.length : Int)),(∀ w1,S w1 → (loadVar 36 ⟨sb,(addO off (i * 513)),none⟩).run Tryz.prog w1 = .ok (.agg (jc (q.getD i wz)).toArray) w1)]) ⟨om,(fun w1 h => load_list Tryz.underlying36 rfl kr (jc_len (hWq.at i)) (fun j v hj => by rw [addO_eq]; exact (cell_cells (h.ro _ hmem)).trans (wr_cell hWq hcs om hj))),trivial⟩ ?_
    refine Le (Eff.alloc (z := (.agg (jc wz).toArray)) rfl kr) ?_
    rintro xb4 ⟨hxb4,nxb4⟩
    refine Le (Eff.storeN (b := xb4) (off := 0) (vs := (jc (q.getD i wz)).toArray) (n := 513) rfl kr kr kr (by rw [List.size_toArray,jc_len (hWq.at i)]) (jc_all _) 0 (cs := (jc wz).toArray) (e := 36) kr (by show 0 + 513 ≤ (jc wz).toArray.size; rw [List.size_toArray,jc_len zb_len]; decide)) ?_
    rintro ⟨⟩ -
    refine CfgL.setO (congrArg (fun (xq : Array Value) => ([(xb4,.cells xq 36 (0,0)),(rs,.cells (bv (List.replicate 512 0)) 25 (0,0))] : List (Nat × Obj))) (show _ = ((jc (q.getD i wz)).toArray) from spl_all (by rw [List.size_toArray,List.size_toArray,jc_len (hWq.at i)]; exact (jc_len zb_len).symm))) ?_
    refine CfgL.done rfl ?_
    refine Cg (Γ' := [(8,[],.pointer (some ⟨xb4,0,none⟩)),(26,[],.int .i64 (i : Int)),(25,[],.int .i64 (q.length : Int)),(24,[],.slice (some ⟨sb,off,none⟩) q.length cap),(6,[],.string (tx (flat blkW (q.take i)))),(5,[],.string (tx (mkL ++ eight number ++ four q.length ++ flat twoW (q.take i)))),(4,[],.pointer (some ⟨rs,0,none⟩))]) ?_
    refine Cfg.begL rfl ?_
    refine Lp 5 [dZ,dZ,(0,false,some (.int .i64 ((q.getD i wz).1)))] (some [4,5,6,8,24,25,26,30,34]) (fun S => [(∀ w1,S w1 → w1.cell? ⟨xb4,0,none⟩ = some (.int .i64 ((q.getD i wz).1))),(0 ≤ (((q.getD i wz).1) % 18446744073709551616) ∧ 0 < (65536 : Int))]) ⟨(fun w1 h => h.ocell 0 rfl rfl),om,trivial⟩ ?_
    refine Le (Eff.callA (vs := [.int .u64 ((((q.getD i wz).1) % 18446744073709551616) % 65536),.int .i64 2]) (.string (tx (two (q.getD i wz).1))) rfl Tryz.func37 rfl rfl kr (fun w1 _ => num2 (q.getD i wz).1 w1)) ?_
    rintro ⟨⟩ -
    refine Lp 2 [] (some [4,5,6,8,24,25,26]) (fun _ => [((tx (mkL ++ eight number ++ four q.length ++ flat twoW (q.take i))).size + (tx (two (q.getD i wz).1)).size ≤ 9223372036854775807)]) ⟨(by rw [tx_size,tx_size,two_len]; simp only [List.length_append,hf8,hf4,show mkL.length = 4 from rfl]; omega),trivial⟩ ?_
    refine CfgL.done rfl ?_
    refine Cfg.begL rfl ?_
    refine Lp 3 [dZ,dZ,(0,false,some (.agg (bv (q.getD i wz).2)))] (some [4,5,6,24,25,26,37,39]) (fun S => [(∀ w1,S w1 → (loadVar 25 ⟨xb4,1,none⟩).run Tryz.prog w1 = .ok (.agg (bv (q.getD i wz).2)) w1)]) ⟨(fun w1 h => load_bytes Tryz.underlying25 rfl kr (hWq.at i) (fun j hj => by rw [cell_cells (h.own (xb4,_) (List.mem_of_getElem? (i := 0) rfl)),List.getElem?_toArray]; exact jc_byte (hWq.at i) hj)),trivial⟩ ?_
    refine Le (Eff.callA (vs := [.agg (bv (q.getD i wz).2)]) (.string (tx (q.getD i wz).2)) rfl Tryz.func38 rfl rfl kr (fun w1 _ => rText4 (q.getD i wz).2 w1 (hWq.at i))) ?_
    rintro ⟨⟩ -
    refine Lp 2 [] (some [4,5,6,24,25,26]) (fun _ => [((tx (flat blkW (q.take i))).size + (tx (q.getD i wz).2).size ≤ 9223372036854775807)]) ⟨(by have h1 : (flat blkW (q.take i)).length + (q.getD i wz).2.length ≤ (flat blkW q).length := hpb om; rw [tx_size,tx_size]; omega),trivial⟩ ?_
    refine CfgL.done rfl ?_
    refine Rg [4,5,6,24,25,26] [] (fun _ => [((-9223372036854775808 : Int) ≤ ((i : Int) + 1) ∧ ((i : Int) + 1) ≤ 9223372036854775807)]) ⟨om,trivial⟩ ?_
    refine Cg (Γ' := [(26,[],.int .i64 ((i : Int) + 1)),(6,[],.string ((tx (flat blkW (q.take i))) ++ (tx (q.getD i wz).2))),(5,[],.string ((tx (mkL ++ eight number ++ four q.length ++ flat twoW (q.take i))) ++ (tx (two (q.getD i wz).1)))),(25,[],.int .i64 (q.length : Int)),(24,[],.slice (some ⟨sb,off,none⟩) q.length cap),(4,[],.pointer (some ⟨rs,0,none⟩))]) ?_
    refine Cfg.setG (congrArg (fun (xq : ByteArray) => ([(26,[],.int .i64 ((i : Int) + 1)),(6,[],.string ((tx (flat blkW (q.take i))) ++ (tx (q.getD i wz).2))),(5,[],.string xq),(25,[],.int .i64 (q.length : Int)),(24,[],.slice (some ⟨sb,off,none⟩) q.length cap),(4,[],.pointer (some ⟨rs,0,none⟩))] : Env)) (show _ = (tx (mkL ++ eight number ++ four q.length ++ flat twoW (q.take (i + 1)))) from by rw [flat_succ wz om,tx_app,List.append_assoc]; rfl)) ?_
    refine Cg (Γ' := [(26,[],.int .i64 ((i : Int) + 1)),(6,[],.string ((tx (flat blkW (q.take i))) ++ (tx (q.getD i wz).2))),(5,[],.string (tx (mkL ++ eight number ++ four q.length ++ flat twoW (q.take (i + 1))))),(25,[],.int .i64 (q.length : Int)),(24,[],.slice (some ⟨sb,off,none⟩) q.length cap),(4,[],.pointer (some ⟨rs,0,none⟩))]) ?_
    refine Cfg.setG (congrArg (fun (xq : ByteArray) => ([(26,[],.int .i64 ((i : Int) + 1)),(6,[],.string xq),(5,[],.string (tx (mkL ++ eight number ++ four q.length ++ flat twoW (q.take (i + 1))))),(25,[],.int .i64 (q.length : Int)),(24,[],.slice (some ⟨sb,off,none⟩) q.length cap),(4,[],.pointer (some ⟨rs,0,none⟩))] : Env)) (show _ = (tx (flat blkW (q.take (i + 1)))) from by rw [flat_succ wz om,tx_app]; rfl)) ?_
    refine Cfg.again rfl (i + 1) (show i + 1 ≤ q.length by omega) om (Conv.mk kr) (.cons _ (.cons_cons _ .slnil))
   ·have c4 := (of_decide_eq_false c4r)
    obtain rfl : i = q.length := by omega
    refine Conv.cfg (Γ' := [(6,[],.string (tx (flat blkW (q.take q.length)))),(5,[],.string (tx (mkL ++ eight number ++ four q.length ++ flat twoW (q.take q.length)))),(4,[],.pointer (some ⟨rs,0,none⟩))]) (Conv.mk kr) ?_
    refine Cg (Γ' := [(6,[],.string (tx (flat blkW (q.take q.length)))),(5,[],.string (tx (mkL ++ eight number ++ four q.length ++ flat twoW (q.take q.length)))),(4,[],.pointer (some ⟨rs,0,none⟩))]) ?_
    refine Cfg.setG (congrArg (fun (xq : ByteArray) => ([(6,[],.string (tx (flat blkW (q.take q.length)))),(5,[],.string xq),(4,[],.pointer (some ⟨rs,0,none⟩))] : Env)) (show _ = (tx (hdS number q)) from by rw [hdS_flat])) ?_
    refine Cg (Γ' := [(6,[],.string (tx (flat blkW (q.take q.length)))),(5,[],.string (tx (hdS number q))),(4,[],.pointer (some ⟨rs,0,none⟩))]) ?_
    refine Cfg.setG (congrArg (fun (xq : ByteArray) => ([(6,[],.string xq),(5,[],.string (tx (hdS number q))),(4,[],.pointer (some ⟨rs,0,none⟩))] : Env)) (show _ = (tx (flat blkW q)) from by rw [List.take_length])) ?_
    refine Cfg.begL rfl ?_
    refine Lp 4 [] (some [4,5,43,46]) (fun _ => [((tx (hdS number q)).size + (tx (flat blkW q)).size ≤ 9223372036854775807)]) ⟨(by rw [tx_size,tx_size]; omega),trivial⟩ ?_
    refine Le (Eff.callA (vs := [.string ((tx (hdS number q)) ++ (tx (flat blkW q)))]) (.agg (bv (shaD (hdS number q ++ flat blkW q)))) rfl Tryz.func40 rfl rfl kr (fun w1 _ => by have h9 := rSum (tx (hdS number q) ++ tx (flat blkW q)) w1 (by rw [tx_app,tx_size,List.length_append]; omega); rw [tx_app,tx_list] at h9; rw [tx_app]; exact h9)) ?_
    rintro ⟨⟩ -
    refine Le (Eff.callA (vs := [.agg (bv (shaD (hdS number q ++ flat blkW q)))]) (.string (tx (shaD (hdS number q ++ flat blkW q)))) rfl Tryz.func39 rfl rfl kr (fun w1 _ => rDigest _ w1 (shaD_len _))) ?_
    rintro ⟨⟩ -
    refine Lp 2 [] (some [4,5]) (fun _ => [((tx (hdS number q)).size + (tx (shaD (hdS number q ++ flat blkW q))).size ≤ 9223372036854775807)]) ⟨(by rw [tx_size,tx_size,shaD_len]; omega),trivial⟩ ?_
    refine CfgL.done rfl ?_
    refine Cfg.begL rfl ?_
    refine Le (Eff.alloc (z := (.agg (bv (List.replicate 512 0)))) rfl kr) ?_
    rintro hb ⟨hhb,nhb⟩
    refine CfgL.done rfl ?_
    refine Rg [4,5,9,10] [] n0 trivial ?_
    refine Cfg.setO (congrArg (fun (xq : Array Value) => ([(hb,.cells xq 25 (0,0)),(rs,.cells (bv (List.replicate 512 0)) 25 (0,0))] : List (Nat × Obj))) (show _ = (bv (rowK (hdL number q) 0)) from rfl)) ?_
    refine Cg (Γ' := [(10,[],.int .i64 0),(9,[],.pointer (some ⟨hb,0,none⟩)),(5,[],.string ((tx (hdS number q)) ++ (tx (shaD (hdS number q ++ flat blkW q))))),(4,[],.pointer (some ⟨rs,0,none⟩))]) ?_
    refine Cfg.setG (congrArg (fun (xq : ByteArray) => ([(10,[],.int .i64 0),(9,[],.pointer (some ⟨hb,0,none⟩)),(5,[],.string xq),(4,[],.pointer (some ⟨rs,0,none⟩))] : Env)) (show _ = (tx (hdL number q)) from by rw [tx_app]; rfl)) ?_
    refine Cfg.loop rfl (ι := Nat) (fun (k : Nat) => [(10,[],.int .i64 (k : Int)),(9,[],.pointer (some ⟨hb,0,none⟩)),(5,[],.string (tx (hdL number q))),(4,[],.pointer (some ⟨rs,0,none⟩))]) (fun (k : Nat) => [(hb,.cells (bv (rowK (hdL number q) k)) 25 (0,0)),(rs,.cells (bv (List.replicate 512 0)) 25 (0,0))]) (fun (k : Nat) => (k ≤ (hdL number q).length)) (fun (k : Nat) => (hdL number q).length - k) 0 ?_ (Conv.mk kr) (.cons_cons _ (.cons_cons _ .slnil)) ?_
    ·exact Nat.zero_le _
    ·rintro k hk
     have htl : (tx (hdL number q)).size = (hdL number q).length := tx_size _
     refine Rg [4,5,9,10,53] [] n0 trivial ?_
     refine Cfg.cond rfl (b := (decide ((k : Int) < ((tx (hdL number q)).size : Int)))) kr (fun c5r => ?_) (fun c5r => ?_)
     ·have c5 := (of_decide_eq_true c5r)
      refine Cfg.begL rfl ?_
      refine Lp 5 [] (some [4,5,9,10,59,60]) (fun _ => [(0 ≤ (k : Int) ∧ (k : Int) < ((tx (hdL number q)).size : Int)),(0 ≤ (k : Int) ∧ (k : Int) < (512 : Int))]) ⟨(by rw [tx_size]; omega),om,trivial⟩ ?_
      refine Le (Eff.store1 (b := hb) (off := k) (v := .int .u8 (sbyte (tx (hdL number q)) (k : Int))) rfl kr kr rfl kr 0 (cs := (bv (rowK (hdL number q) k))) (e := 25) kr (by rw [bv_size,rowK_len om om]; omega)) ?_
      rintro ⟨⟩ -
      refine CfgL.done rfl ?_
      refine Cg (Γ' := [(10,[],.int .i64 (k : Int)),(9,[],.pointer (some ⟨hb,0,none⟩)),(5,[],.string (tx (hdL number q))),(4,[],.pointer (some ⟨rs,0,none⟩))]) ?_
      refine Rg [4,5,9,10] [] (fun _ => [((-9223372036854775808 : Int) ≤ ((k : Int) + 1) ∧ ((k : Int) + 1) ≤ 9223372036854775807)]) ⟨om,trivial⟩ ?_
      refine Cfg.setO (congrArg (fun (xq : Array Value) => ([(hb,.cells xq 25 (0,0)),(rs,.cells (bv (List.replicate 512 0)) 25 (0,0))] : List (Nat × Obj))) (show _ = (bv (rowK (hdL number q) (k + 1))) from by rw [sbyte_gb]; exact rowK_set om om)) ?_
      refine Cfg.again rfl (k + 1) (show k + 1 ≤ (hdL number q).length by omega) om (Conv.mk kr) (.cons_cons _ (.cons_cons _ .slnil))
     ·have c5 := (of_decide_eq_false c5r)
      obtain rfl : k = (hdL number q).length := by omega
      have hfl : (hdL number q ++ List.replicate (512 - (hdL number q).length) 0).length = 512 := by rw [List.length_append,List.length_replicate]; omega
      refine Cfg.setO (congrArg (fun (xq : Array Value) => ([(hb,.cells xq 25 (0,0)),(rs,.cells (bv (List.replicate 512 0)) 25 (0,0))] : List (Nat × Obj))) (show _ = (bv (hdL number q ++ List.replicate (512 - (hdL number q).length) 0)) from by unfold rowK; rw [List.take_length])) ?_
      refine Conv.cfg (Γ' := [(9,[],.pointer (some ⟨hb,0,none⟩)),(4,[],.pointer (some ⟨rs,0,none⟩))]) (Conv.mk kr) ?_
      refine Cfg.begL rfl ?_
      refine Lp 1 [(0,false,some (.agg (bv (hdL number q ++ List.replicate (512 - (hdL number q).length) 0))))] (some [4,61]) (fun S => [(∀ w1,S w1 → (loadVar 25 ⟨hb,0,none⟩).run Tryz.prog w1 = .ok (.agg (bv (hdL number q ++ List.replicate (512 - (hdL number q).length) 0))) w1)]) ⟨(fun w1 h => h.oload 0 rfl Tryz.underlying25 rfl (n := 512) kr ((bv_size _).trans hfl)),trivial⟩ ?_
      refine Le (Eff.storeN (b := rs) (off := 0) (vs := (bv (hdL number q ++ List.replicate (512 - (hdL number q).length) 0))) (n := 512) rfl kr kr kr ((bv_size _).trans hfl) (all_bv _) 1 (cs := (bv (List.replicate 512 0))) (e := 25) kr (by rw [zsz512]; omega)) ?_
      rintro ⟨⟩ -
      refine CfgL.setO (congrArg (fun (xq : Array Value) => ([(hb,.cells (bv (hdL number q ++ List.replicate (512 - (hdL number q).length) 0)) 25 (0,0)),(rs,.cells xq 25 (0,0))] : List (Nat × Obj))) (show _ = (bv (hdL number q ++ List.replicate (512 - (hdL number q).length) 0)) from spl_all (((bv_size _).trans hfl).trans zsz512.symm))) ?_
      refine CfgL.done rfl ?_
      refine Cg (Γ' := [(4,[],.pointer (some ⟨rs,0,none⟩))]) ?_
      refine Cfg.ret rfl (rs := [.cell 4 25]) rfl [.agg (bv (hdL number q ++ List.replicate (512 - (hdL number q).length) 0))] ⟨⟨_,by kernel_rfl,(fun w1 h => h.oload 1 rfl Tryz.underlying25 rfl (n := 512) kr ((bv_size _).trans hfl))⟩,trivial⟩ (fun w1 hp => ?_)
      exact ⟨rfl,hp.ext⟩
end Go.Proofs.YtohjpggjgomgoaaGreatDoor
namespace Go.Proofs.YtohjpggjgomgoaaGreatDoor
open K
set_option linter.unusedVariables false
theorem foldl_spl (off : Nat) : ∀ (vs : List Value) (k : Nat) (cs : Array Value),(vs.zipIdx k).foldl (fun (cs : Array Value) (p : Value × Nat) => cs.setIfInBounds (off + p.2) p.1) cs = spl cs (off + k) vs
 | [],k,cs => rfl
 | v :: vs,k,cs => by
  rw [List.zipIdx_cons,List.foldl_cons,foldl_spl off vs (k + 1),spl]
  rfl
set_option maxRecDepth 100000 in
theorem build_wr (n : Int) {t : List UInt8} (ht : t.length = 512) (w : World) : (Instr.build 79 #[(0,.int .i64 n),(1,.agg (bv t))]).run Tryz.prog w = .ok (.agg (jc (n,t)).toArray) w := by
 refine run_build w 79 _ _ ?_
 have hz : Tryz.prog.built 79 [(0,.int .i64 n),(1,.agg (bv t))] = Instr.fill ((#[(0,1),(1,512)] : Array (Nat × Nat))[·]?) (jc wz).toArray [(0,.int .i64 n),(1,.agg (bv t))] := by kernel_rfl
 show Tryz.prog.built 79 [(0,.int .i64 n),(1,.agg (bv t))] = _
 rw [hz]
 have h1 : ((Value.agg (bv t)).cells).size = 512 := by show (bv t).size = 512; rw [bv_size,ht]
 have e0 : (Value.int .i64 n).cells.zipIdx.foldl (fun (cs : Array Value) (p : Value × Nat) => cs.setIfInBounds (0 + p.2) p.1) (jc wz).toArray = (jc (n,List.replicate 512 0)).toArray := rfl
 have e1 : (bv t).zipIdx.foldl (fun (cs : Array Value) (p : Value × Nat) => cs.setIfInBounds (1 + p.2) p.1) (jc (n,List.replicate 512 0)).toArray = (jc (n,t)).toArray := by
  rw [← Array.foldl_toList,Array.toList_zipIdx,foldl_spl 1 (bv t).toList 0]
  have := spl_at (L := jc (n,List.replicate 512 0)) (A := [Value.int .i64 n]) (B := (bv (List.replicate 512 0)).toList) (T := []) (vs := (bv t).toList) (off := 1) (by simp [jc]) rfl (by rw [Array.length_toList,bv_size,ht]; rfl)
  rw [this]; simp [jc]
 have e0' : (Value.int .i64 n).cells.zipIdx.foldl (fun cs x => match x with | (c,j) => cs.setIfInBounds (0 + j) c) (jc wz).toArray = (jc (n,List.replicate 512 0)).toArray := e0
 have e1' : (Value.agg (bv t)).cells.zipIdx.foldl (fun cs x => match x with | (c,j) => cs.setIfInBounds (1 + j) c) (jc (n,List.replicate 512 0)).toArray = (jc (n,t)).toArray := e1
 have q1 : (decide ((Value.int .i64 n).cells.size ≠ 1) || decide (0 + (Value.int .i64 n).cells.size > (jc wz).toArray.size)) = false := rfl
 have q2 : (decide ((Value.agg (bv t)).cells.size ≠ 512) || decide (1 + (Value.agg (bv t)).cells.size > (jc (n,List.replicate 512 0)).toArray.size)) = false := by rw [h1]; rfl
 rw [Instr.fill]
 show (if (decide ((Value.int .i64 n).cells.size ≠ 1) || decide (0 + (Value.int .i64 n).cells.size > (jc wz).toArray.size)) = true then none else _) = _
 rw [q1,if_neg (by decide),e0',Instr.fill]
 show (if (decide ((Value.agg (bv t)).cells.size ≠ 512) || decide (1 + (Value.agg (bv t)).cells.size > (jc (n,List.replicate 512 0)).toArray.size)) = true then none else _) = _
 rw [q2,if_neg (by decide),e1',Instr.fill]
set_option maxRecDepth 100000 in
theorem build_rw (n : Int) {t : List UInt8} (ht : t.length = 512) (w : World) : (Instr.build 36 #[(0,.int .i64 n),(1,.agg (bv t))]).run Tryz.prog w = .ok (.agg (jc (n,t)).toArray) w := by
 refine run_build w 36 _ _ ?_
 have hz : Tryz.prog.built 36 [(0,.int .i64 n),(1,.agg (bv t))] = Instr.fill ((#[(0,1),(1,512)] : Array (Nat × Nat))[·]?) (jc wz).toArray [(0,.int .i64 n),(1,.agg (bv t))] := by kernel_rfl
 show Tryz.prog.built 36 [(0,.int .i64 n),(1,.agg (bv t))] = _
 rw [hz]
 have h1 : ((Value.agg (bv t)).cells).size = 512 := by show (bv t).size = 512; rw [bv_size,ht]
 have e0 : (Value.int .i64 n).cells.zipIdx.foldl (fun (cs : Array Value) (p : Value × Nat) => cs.setIfInBounds (0 + p.2) p.1) (jc wz).toArray = (jc (n,List.replicate 512 0)).toArray := rfl
 have e1 : (bv t).zipIdx.foldl (fun (cs : Array Value) (p : Value × Nat) => cs.setIfInBounds (1 + p.2) p.1) (jc (n,List.replicate 512 0)).toArray = (jc (n,t)).toArray := by
  rw [← Array.foldl_toList,Array.toList_zipIdx,foldl_spl 1 (bv t).toList 0]
  have := spl_at (L := jc (n,List.replicate 512 0)) (A := [Value.int .i64 n]) (B := (bv (List.replicate 512 0)).toList) (T := []) (vs := (bv t).toList) (off := 1) (by simp [jc]) rfl (by rw [Array.length_toList,bv_size,ht]; rfl)
  rw [this]; simp [jc]
 have e0' : (Value.int .i64 n).cells.zipIdx.foldl (fun cs x => match x with | (c,j) => cs.setIfInBounds (0 + j) c) (jc wz).toArray = (jc (n,List.replicate 512 0)).toArray := e0
 have e1' : (Value.agg (bv t)).cells.zipIdx.foldl (fun cs x => match x with | (c,j) => cs.setIfInBounds (1 + j) c) (jc (n,List.replicate 512 0)).toArray = (jc (n,t)).toArray := e1
 have q1 : (decide ((Value.int .i64 n).cells.size ≠ 1) || decide (0 + (Value.int .i64 n).cells.size > (jc wz).toArray.size)) = false := rfl
 have q2 : (decide ((Value.agg (bv t)).cells.size ≠ 512) || decide (1 + (Value.agg (bv t)).cells.size > (jc (n,List.replicate 512 0)).toArray.size)) = false := by rw [h1]; rfl
 rw [Instr.fill]
 show (if (decide ((Value.int .i64 n).cells.size ≠ 1) || decide (0 + (Value.int .i64 n).cells.size > (jc wz).toArray.size)) = true then none else _) = _
 rw [q1,if_neg (by decide),e0',Instr.fill]
 show (if (decide ((Value.agg (bv t)).cells.size ≠ 512) || decide (1 + (Value.agg (bv t)).cells.size > (jc (n,List.replicate 512 0)).toArray.size)) = true then none else _) = _
 rw [q2,if_neg (by decide),e1',Instr.fill]
def InB (Rl : List (Nat × Obj)) (la : Option Addr) (bs : List (List UInt8)) : Prop := InS Rl la (bs.length * 512) (fun j => (rows bs).getD j undef)
theorem InB.mono {Rl Rl' : List (Nat × Obj)} {la : Option Addr} {l : List (List UInt8)} (h : InB Rl la l) (hR : ∀ e ∈ Rl,e ∈ Rl') : InB Rl' la l := InS.mono h hR
theorem blk_cell {l : List (List UInt8)} {cs : Array Value} {off i : Nat} (hW : W5 l) (hcs : ∀ j,j < l.length * 512 → cs[off + j]? = some ((rows l).getD j undef)) (hi : i < l.length) {j : Nat} (hj : j < 512) : cs[off + i * 512 + j]? = some (.int .u8 (((l.getD i zb).getD j 0).toNat : Int)) := by
 rw [Nat.add_assoc,hcs (i * 512 + j) om,List.getD_eq_getElem?_getD,rows_get hW hi hj]; rfl
def aD (H : List UInt8) (k : Nat) : IN := ⟨0,H.drop k⟩
theorem z_take {H : List UInt8} {k n : Nat} (h : k + n ≤ H.length) : nextF (aD H k) (n : Int) = ((H.drop k).take n,aD H (k + n)) := by
 unfold nextF aD
 rw [if_neg (fun hx => hx rfl),if_neg (by simp only [List.length_drop]; omega),Int.toNat_natCast,List.drop_drop]
def numP (H : List UInt8) : Nat := valF ((H.drop 4).take 8)
def cntP (H : List UInt8) : Nat := valF ((H.drop 12).take 4)
def atP (H : List UInt8) (i : Nat) : Nat := (gb H (16 + 2 * i)).toNat * 256 + (gb H (17 + 2 * i)).toNat
def rowP (H : List UInt8) (bs : List (List UInt8)) (k : Nat) : List Wr := (List.range k).map fun i => ((atP H i : Int),bs.getD i zb)
theorem rowP_succ (H : List UInt8) (bs : List (List UInt8)) (k : Nat) : rowP H bs (k + 1) = rowP H bs k ++ [((atP H k : Int),bs.getD k zb)] := by unfold rowP; rw [List.range_succ,List.map_append]; rfl
theorem rowP_len (H : List UInt8) (bs : List (List UInt8)) (k : Nat) : (rowP H bs k).length = k := by unfold rowP; rw [List.length_map,List.length_range]
theorem rowP_w {bs : List (List UInt8)} (h : W5 bs) (H : List UInt8) (k : Nat) : WW (rowP H bs k) := fun x hx => by
 obtain ⟨i,_,rfl⟩ := List.mem_map.1 hx
 exact h.at' i
def parG (H : List UInt8) (bs : List (List UInt8)) : Bool := decide (H.take 4 = mkL) && (decide (cntP H ≤ min 96 bs.length) && decide (headF (numP H) (rowP H bs (cntP H)) = H))
def parN (H : List UInt8) (bs : List (List UInt8)) : Nat := if parG H bs then numP H else 0
def parL (H : List UInt8) (bs : List (List UInt8)) : List Wr := if parG H bs then rowP H bs (cntP H) else []
theorem par_no {H : List UInt8} {bs : List (List UInt8)} (h : parG H bs = false) : parN H bs = 0 ∧ parL H bs = [] := by unfold parN parL; rw [h]; exact ⟨rfl,rfl⟩
theorem par_yes {H : List UInt8} {bs : List (List UInt8)} (h : parG H bs = true) : parN H bs = numP H ∧ parL H bs = rowP H bs (cntP H) := by unfold parN parL; rw [h]; exact ⟨rfl,rfl⟩
theorem par_no1 {H : List UInt8} {bs : List (List UInt8)} (h : ¬ H.take 4 = mkL) : parG H bs = false := by unfold parG; rw [decide_eq_false h]; rfl
theorem par_no2 {H : List UInt8} {bs : List (List UInt8)} (h : ¬ cntP H ≤ min 96 bs.length) : parG H bs = false := by unfold parG; rw [decide_eq_false h,Bool.false_and,Bool.and_false]
theorem par_no3 {H : List UInt8} {bs : List (List UInt8)} (h : ¬ headF (numP H) (rowP H bs (cntP H)) = H) : parG H bs = false := by unfold parG; rw [decide_eq_false h,Bool.and_false,Bool.and_false]
theorem par_ok {H : List UInt8} {bs : List (List UInt8)} (h1 : H.take 4 = mkL) (h2 : cntP H ≤ min 96 bs.length) (h3 : headF (numP H) (rowP H bs (cntP H)) = H) : parG H bs = true := by unfold parG; rw [decide_eq_true h1,decide_eq_true h2,decide_eq_true h3]; rfl
theorem mark_eq {l : List UInt8} : ((tx l).toList == (⟨#[80,82,84,82]⟩ : ByteArray).toList) = decide (l = mkL) := by
 rw [Go.ByteArray.toList_eq,Go.ByteArray.toList_eq,Bool.eq_iff_iff,beq_iff_eq,decide_eq_true_iff]; exact Iff.rfl
theorem cnt_lt (H : List UInt8) : cntP H < 4294967296 := valF_lt4 (by rw [List.length_take]; omega)
theorem numP_lt (H : List UInt8) : numP H < 18446744073709551616 := valF_lt _
theorem eight_at {H : List UInt8} (h : H.length = 512) : eightF (aD H 4) = (numP H,aD H 12) := by
 have h1 := z_take (H := H) (k := 4) (n := 8) om
 unfold eightF; rw [show (8 : Int) = ((8 : Nat) : Int) from rfl,h1]; rfl
theorem four_at {H : List UInt8} (h : H.length = 512) : fourF (aD H 12) = (cntP H,aD H 16) := by
 have h1 := z_take (H := H) (k := 12) (n := 4) om
 have h2 := cnt_lt H
 unfold fourF; rw [show (4 : Int) = ((4 : Nat) : Int) from rfl,h1]
 show (cntP H % 4294967296,_) = _
 rw [Nat.mod_eq_of_lt h2]
theorem one_take {H : List UInt8} {k : Nat} (h : k < H.length) : (H.drop k).take 1 = [gb H k] := by
 rw [List.take_one,List.head?_drop,List.getElem?_eq_getElem h]
 simp [gb,List.getElem?_eq_getElem h]
theorem two_take {H : List UInt8} {k : Nat} (h : k + 1 < H.length) : (H.drop k).take 2 = [gb H k,gb H (k + 1)] := by
 have h1 := one_take (H := H) (k := k) om
 have h2 := one_take (H := H) (k := k + 1) h
 rw [show 2 = 1 + 1 from rfl,List.take_add,h1,List.drop_drop,h2]; rfl
theorem byte_at {H : List UInt8} {k : Nat} (h : k < H.length) : byteF (aD H k) = ((gb H k).toNat,aD H (k + 1)) := by
 have h1 := z_take (H := H) (k := k) (n := 1) om
 have hb := byteLt (gb H k)
 unfold byteF; rw [show (1 : Int) = ((1 : Nat) : Int) from rfl,h1,one_take h]
 show ((vf 0 (gb H k)) % 256,_) = _
 rw [show vf 0 (gb H k) % 256 = (gb H k).toNat by unfold vf; omega]
theorem val_two {H : List UInt8} {i : Nat} (h : 17 + 2 * i < H.length) : valF ((H.drop (16 + 2 * i)).take 2) = atP H i := by
 rw [two_take om]
 have h1 := byteLt (gb H (16 + 2 * i)); have h2 := byteLt (gb H (16 + 2 * i + 1))
 show vf (vf 0 (gb H (16 + 2 * i))) (gb H (16 + 2 * i + 1)) = _
 unfold atP; rw [show 17 + 2 * i = 16 + 2 * i + 1 by omega]; unfold vf; omega
theorem cnt_ok {H : List UInt8} (h : H.length = 512) {m : Nat} (he : (boundF (aD H 12) (m : Int) 6).2.er = 0) : boundF (aD H 12) (m : Int) 6 = (cntP H,aD H 16) ∧ cntP H ≤ m := by
 have h4 := four_at h
 have hm : (if (0 : Int) > (m : Int) then 0 else (m : Int)).toNat = m := by rw [if_neg om]; rfl
 unfold boundF at he ⊢
 rw [hm,h4] at he ⊢
 by_cases h0 : cntP H > m
 ·rw [if_pos h0] at he
  exact absurd he (failF_ne _ (by decide))
 ·exact ⟨if_neg h0,by omega⟩
theorem cnt_no {H : List UInt8} (h : H.length = 512) {m : Nat} (he : ¬ (boundF (aD H 12) (m : Int) 6).2.er = 0) : ¬ cntP H ≤ m := by
 have h4 := four_at h
 have hm : (if (0 : Int) > (m : Int) then 0 else (m : Int)).toNat = m := by rw [if_neg om]; rfl
 intro hle
 apply he
 unfold boundF
 rw [hm,h4,if_neg (by show ¬ cntP H > m; omega)]; rfl
theorem jRaw (b : Nat) (H : List UInt8) (w : World) (h : H.length = 512) (hB : w.heap[b]? = some (.cells (inC (aD H 0)) 162 (0,0))) : Calls Tryz.prog 42 #[.pointer (some ⟨b,0,none⟩),.int .i64 4] w fun e w' => e = .returned (.string (tx (H.take 4))) ∧ Ext [b] w w' ∧ w'.heap[b]? = some (.cells (inC (aD H 4)) 162 (0,0)) := by
 have h1 := z_take (H := H) (k := 0) (n := 4) om
 have h9 := wTRaw b (aD H 0) ((4 : Nat) : Int) w hB
 rw [h1] at h9; exact h9
theorem jRawR (b : Nat) (H : List UInt8) (w : World) (h : H.length = 512) (hB : w.heap[b]? = some (.cells (inR (aD H 0)) 108 (0,0))) : Calls Tryz.prog 47 #[.pointer (some ⟨b,0,none⟩),.int .i64 4] w fun e w' => e = .returned (.string (tx (H.take 4))) ∧ Ext [b] w w' ∧ w'.heap[b]? = some (.cells (inR (aD H 4)) 108 (0,0)) := by
 have h1 := z_take (H := H) (k := 0) (n := 4) om
 have h9 := rRaw b (aD H 0) ((4 : Nat) : Int) w hB
 rw [h1] at h9; exact h9
theorem jEight (b : Nat) (H : List UInt8) (w : World) (h : H.length = 512) (hB : w.heap[b]? = some (.cells (inC (aD H 4)) 162 (0,0))) : Calls Tryz.prog 43 #[.pointer (some ⟨b,0,none⟩)] w fun e w' => e = .returned (.int .u64 (numP H : Int)) ∧ Ext [b] w w' ∧ w'.heap[b]? = some (.cells (inC (aD H 12)) 162 (0,0)) := by
 have h9 := wTEight b (aD H 4) w hB
 rw [eight_at h] at h9; exact h9
theorem jByte (b : Nat) (H : List UInt8) (k : Nat) (w : World) (h : k < H.length) (hB : w.heap[b]? = some (.cells (inC (aD H k)) 162 (0,0))) : Calls Tryz.prog 46 #[.pointer (some ⟨b,0,none⟩)] w fun e w' => e = .returned (.int .u8 ((gb H k).toNat : Int)) ∧ Ext [b] w w' ∧ w'.heap[b]? = some (.cells (inC (aD H (k + 1))) 162 (0,0)) := by
 have h9 := wTByte b (aD H k) w hB
 rw [byte_at h] at h9; exact h9
theorem jNum (b : Nat) (H : List UInt8) (k n : Nat) (w : World) (h : k + n ≤ H.length) (hn : n ≤ 8) (hB : w.heap[b]? = some (.cells (inR (aD H k)) 108 (0,0))) : Calls Tryz.prog 48 #[.pointer (some ⟨b,0,none⟩),.int .i64 (n : Int)] w fun e w' => e = .returned (.int .u64 (valF ((H.drop k).take n) : Int)) ∧ Ext [b] w w' ∧ w'.heap[b]? = some (.cells (inR (aD H (k + n))) 108 (0,0)) := by
 have h9 := rNumI b (aD H k) n w hB hn
 rw [z_take h] at h9; exact h9
theorem own_le {o : K.Own} {sz n : Nat} {xs : List Value} (h : OwnOk o sz n xs) : n ≤ Own.c o := by
 cases o with
 | none => rw [h.nil rfl]; exact Nat.zero_le _
 | some p => exact (h.some p rfl).2
theorem wr_src {w0 w : World} {M : List Nat} {R O : List (Nat × Obj)} (h : HP w0 M R O w) (i : Nat) {b : Nat} {r : Wr} {t : TypeId} (ho : O[i]? = some (b,.cells (jc r).toArray t (0,0))) {j : Nat} {v : Value} (hj : (jc r)[j]? = some v) : w.cell? ⟨b,0 + j,none⟩ = some v := by
 rw [Nat.zero_add,cell_cells (h.own _ (List.mem_of_getElem? ho)),List.getElem?_toArray]; exact hj
theorem at_or (H : List UInt8) (k : Nat) : ((atP H k : Nat) : Int) = (((gb H (16 + 2 * k)).toNat * 256 ||| (gb H (16 + 2 * k + 1)).toNat : Nat) : Int) := by
 have h := byteLt (gb H (16 + 2 * k + 1))
 unfold atP
 rw [Nat.mul_comm,or256 _ _ h,show 17 + 2 * k = 16 + 2 * k + 1 by omega]
theorem atP_lt (H : List UInt8) (k : Nat) : atP H k < 65536 := by have h1 := byteLt (gb H (16 + 2 * k)); have h2 := byteLt (gb H (17 + 2 * k)); unfold atP; omega
theorem par_ret {H : List UInt8} {bs : List (List UInt8)} {w w1 : World} {M : List Nat} {R F : List (Nat × Obj)} {t : TypeId} (o : K.Own) (hG : parG H bs = true) (ko : OwnOk o 513 (rowP H bs (cntP H)).length (jv (rowP H bs (cntP H)))) (hp : HP w M R (F ++ (Own.o t (jv (rowP H bs (cntP H))) o ++ [])) w1) (hM : M = []) :
  ∃ x : K.Own,OwnOk x 513 (parL H bs).length (jv (parL H bs)) ∧ Ending.returned (resOf [.int .u64 (numP H : Int),.slice (Own.a o) (cntP H) (Own.c o),.bool true]) = .returned (.tuple #[.int .u64 (parN H bs : Int),.slice (Own.a x) (parL H bs).length (Own.c x),.bool (parG H bs)]) ∧ ∃ R1,HP w [] R1 (Own.o t (jv (parL H bs)) x) w1 := by
 obtain ⟨h1,h2⟩ := par_yes hG
 subst hM
 rw [h1,h2,hG]
 have h9 := hp.sub (List.sublist_append_right _ _)
 rw [List.append_nil] at h9
 refine ⟨o,ko,?_,_,h9⟩
 rw [rowP_len]; rfl
theorem par_ret0 {H : List UInt8} {bs : List (List UInt8)} {w w1 : World} {R F : List (Nat × Obj)} {t : TypeId} (hG : parG H bs = false) (hp : HP w [] R F w1) :
  ∃ o : K.Own,OwnOk o 513 (parL H bs).length (jv (parL H bs)) ∧ Ending.returned (resOf [.int .u64 0,.slice none 0 0,.bool false]) = .returned (.tuple #[.int .u64 (parN H bs : Int),.slice (Own.a o) (parL H bs).length (Own.c o),.bool (parG H bs)]) ∧ ∃ R1,HP w [] R1 (Own.o t (jv (parL H bs)) o) w1 := by
 obtain ⟨h1,h2⟩ := par_no hG
 rw [h1,h2,hG]
 exact ⟨none,OwnOk.none _,rfl,_,hp.sub (List.nil_sublist _)⟩
end Go.Proofs.YtohjpggjgomgoaaGreatDoor
namespace Go.Proofs.YtohjpggjgomgoaaGreatDoor
open K
set_option linter.unusedVariables false
abbrev Pt := Int × UInt8
def putz : Pt := (0,0)
def pCell (ps : List Pt) (j : Nat) : Value := if j % 2 = 0 then .int .i64 (ps.getD (j / 2) putz).1 else .int .u8 ((ps.getD (j / 2) putz).2.toNat : Int)
def bk2 (x : UInt8) : List UInt8 := x :: 7 :: List.replicate 510 0
theorem bk2_len (x : UInt8) : (bk2 x).length = 512 := by rw [bk2,List.length_cons,List.length_cons,List.length_replicate]
def wrs (ps : List Pt) : List Wr := ps.map fun p => (p.1,bk2 p.2)
theorem wrs_len (ps : List Pt) : (wrs ps).length = ps.length := List.length_map ..
theorem wrs_w (ps : List Pt) : WW (wrs ps) := fun x hx => by
 obtain ⟨p,_,rfl⟩ := List.mem_map.1 hx
 exact bk2_len _
theorem wrs_succ {ps : List Pt} {i : Nat} (h : i < ps.length) : jv (wrs (ps.take i)) ++ jc ((ps.getD i putz).1,bk2 (ps.getD i putz).2) = jv (wrs (ps.take (i + 1))) := by
 unfold wrs
 rw [List.take_succ_eq_append_getElem h,List.map_append,jv_app,List.map_cons,List.map_nil,jv_one]
 simp [List.getElem?_eq_getElem h]
theorem p_cell {ps : List Pt} {cs : Array Value} {off i : Nat} (hcs : ∀ j,j < ps.length * 2 → cs[off + j]? = some (pCell ps j)) (hi : i < ps.length) {j : Nat} {v : Value} (hv : ([.int .i64 (ps.getD i putz).1,.int .u8 ((ps.getD i putz).2.toNat : Int)] : List Value)[j]? = some v) : cs[off + i * 2 + j]? = some v := by
 have hj : j < 2 := (List.getElem?_eq_some_iff.1 hv).1
 rw [Nat.add_assoc,hcs (i * 2 + j) om]
 unfold pCell
 rw [show (i * 2 + j) / 2 = i by omega]
 rcases j with _ | _ | j
 ·rw [if_pos om]; exact hv
 ·rw [if_neg om]; exact hv
 ·omega
theorem zv_run {P : Program} {w : World} {t : TypeId} {z : Value} (h : (P.info? t).bind (·.zero) = some z) : (zeroValue t).run P w = .ok z w := by
 obtain ⟨inf,hi,hz⟩ := Option.bind_eq_some_iff.1 h
 simp [zeroValue,typeInfo,program,Sem.run,hi,hz]
theorem zero_bt {w : World} : (zeroValue 25).run Tryz.prog w = .ok (.agg (bv (List.replicate 512 0))) w := zv_run (by kernel_rfl)
theorem set0 (x : UInt8) : (List.replicate 512 (0 : UInt8)).set 0 x = x :: List.replicate 511 0 := by rw [show 512 = 511 + 1 from rfl,List.replicate_succ,List.set_cons_zero]
theorem set1 (x : UInt8) : (x :: List.replicate 511 (0 : UInt8)).set 1 7 = bk2 x := by rw [show 511 = 510 + 1 from rfl,List.replicate_succ,List.set_cons_succ,List.set_cons_zero]; rfl
theorem fold_one (v : Value) (hv : v.cells = #[v]) (off : Nat) (B : Array Value) : v.cells.zipIdx.foldl (fun cs p => match p with | (c,j) => cs.setIfInBounds (off + j) c) B = B.setIfInBounds off v := by rw [hv]; rfl
theorem fill_bk (x : UInt8) : Instr.fill (fun i => some (i * 1,1)) (bv (List.replicate 512 0)) [(0,.int .u8 (x.toNat : Int)),(1,.int .u8 7)] = some (bv (bk2 x)) := by
 have hx := byteLt x
 have e0 : (Value.int .u8 (x.toNat : Int)).cells.zipIdx.foldl (fun cs p => match p with | (c,j) => cs.setIfInBounds (0 * 1 + j) c) (bv (List.replicate 512 0)) = bv (x :: List.replicate 511 0) := by
  rw [fold_one _ rfl,Nat.zero_mul,bv_set om om,Int.toNat_natCast,show UInt8.ofNat x.toNat = x by simp,set0]
 have e1 : (Value.int .u8 7).cells.zipIdx.foldl (fun cs p => match p with | (c,j) => cs.setIfInBounds (1 * 1 + j) c) (bv (x :: List.replicate 511 0)) = bv (bk2 x) := by
  rw [fold_one _ rfl,Nat.one_mul,bv_set om om,show UInt8.ofNat (7 : Int).toNat = 7 from rfl,set1]
 have hl : (bv (x :: List.replicate 511 0)).size = 512 := by rw [bv_size,List.length_cons,List.length_replicate]
 have q1 : (decide ((Value.int .u8 (x.toNat : Int)).cells.size ≠ 1) || decide (0 * 1 + (Value.int .u8 (x.toNat : Int)).cells.size > (bv (List.replicate 512 0)).size)) = false := by rw [zsz512]; rfl
 have q2 : (decide ((Value.int .u8 7).cells.size ≠ 1) || decide (1 * 1 + (Value.int .u8 7).cells.size > (bv (x :: List.replicate 511 0)).size)) = false := by rw [hl]; rfl
 rw [Instr.fill]
 show (if (decide ((Value.int .u8 (x.toNat : Int)).cells.size ≠ 1) || decide (0 * 1 + (Value.int .u8 (x.toNat : Int)).cells.size > (bv (List.replicate 512 0)).size)) = true then none else _) = _
 rw [q1,if_neg (by decide),e0,Instr.fill]
 show (if (decide ((Value.int .u8 7).cells.size ≠ 1) || decide (1 * 1 + (Value.int .u8 7).cells.size > (bv (x :: List.replicate 511 0)).size)) = true then none else _) = _
 rw [q2,if_neg (by decide),e1,Instr.fill]
theorem build_bk (x : UInt8) (w : World) : (Instr.build 25 #[(0,.int .u8 (x.toNat : Int)),(1,.int .u8 7)]).run Tryz.prog w = .ok (.agg (bv (bk2 x))) w := by
 obtain ⟨inf,hi,hs⟩ := Option.map_eq_some_iff.1 (show (Tryz.prog.info? 5).map (·.size) = some 1 by kernel_rfl)
 have hz := zero_bt (w := w)
 have hf := fill_bk x
 simp only [Instr.build,Sem.run_bind,hz,Result.andThen_ok,run_underlying' Tryz.underlying25,run_sizeOf' hi,hs,Value.cells,hf,Sem.run_pure]
set_option maxRecDepth 100000 in
set_option maxHeartbeats 4000000 in
theorem lWrites (la : Option Addr) (cap : Nat) (ps : List Pt) (Rl : List (Nat × Obj)) (w : World) (hI : InS Rl la (ps.length * 2) (pCell ps)) (hn : ps.length ≤ 120) (hR : Has w Rl) :
  Calls Tryz.prog 6 #[.slice la ps.length cap] w fun e w' => ∃ x : K.Own × K.Own,(OwnOk x.1 513 ps.length (jv (wrs ps)) ∧ OwnOk x.2 513 ps.length (jv (wrs ps))) ∧ e = .returned (.tuple #[.slice (Own.a x.1) ps.length (Own.c x.1),.slice (Own.a x.2) ps.length (Own.c x.2)]) ∧ ∃ R1,HP w [] R1 (Own.o 79 (jv (wrs ps)) x.1 ++ (Own.o 36 (jv (wrs ps)) x.2 ++ [])) w' := by
 refine enter (vs := [.slice la ps.length cap]) [] Rl [] Tryz.func6 rfl kr (HP.ofHas hR) ?_
 refine Rg [0] [] n0 trivial ?_
 refine Rg [0,4] [] n0 trivial ?_
 refine Rg [0,4,5] [] n0 trivial ?_
 refine Rg [4,5,9,10,11] [] n0 trivial ?_
 refine Cfg.loop rfl (ι := Nat × K.Own × K.Own) (fun (xz : Nat × K.Own × K.Own) => match xz with | (i,o1,o2) => [(11,[],.int .i64 (i : Int)),(10,[],.int .i64 (ps.length : Int)),(9,[],.slice la ps.length cap),(5,[],.slice (Own.a o2) i (Own.c o2)),(4,[],.slice (Own.a o1) i (Own.c o1))]) (fun (xz : Nat × K.Own × K.Own) => match xz with | (i,o1,o2) => ([] ++ (Own.o 79 (jv (wrs (ps.take i))) o1 ++ (Own.o 36 (jv (wrs (ps.take i))) o2 ++ [])))) (fun (xz : Nat × K.Own × K.Own) => match xz with | (i,o1,o2) => (i ≤ ps.length) ∧ (OwnOk o1 513 i (jv (wrs (ps.take i)))) ∧ (OwnOk o2 513 i (jv (wrs (ps.take i))))) (fun (xz : Nat × K.Own × K.Own) => match xz with | (i,o1,o2) => ps.length - i) (0,none,none) ?_ (Conv.mk kr) (List.Sublist.refl _) ?_
 ·exact ⟨Nat.zero_le _,OwnOk.none _,OwnOk.none _⟩
 ·rintro ⟨i,o1,o2⟩ ⟨hi,hok1,hok2⟩
  refine Rg [4,5,9,10,11,12] [] n0 trivial ?_
  refine Cfg.cond rfl (b := (decide ((i : Int) < (ps.length : Int)))) kr (fun c1r => ?_) (fun c1r => ?_)
  ·have c1 := (of_decide_eq_true c1r)
   obtain ⟨sb,off,cs,te,fre,rfl,hmem,hcs⟩ := hI om
   refine Conv.cfg (Γ' := [(12,[],.bool (decide ((i : Int) < (ps.length : Int)))),(11,[],.int .i64 (i : Int)),(10,[],.int .i64 (ps.length : Int)),(9,[],.slice (some ⟨sb,off,none⟩) ps.length cap),(5,[],.slice (Own.a o2) i (Own.c o2)),(4,[],.slice (Own.a o1) i (Own.c o1))]) (Conv.mk kr) ?_
   refine Cfg.begL rfl ?_
   refine Lp 2 [dZ,(0,false,some (.agg #[.int .i64 (ps.getD i putz).1,.int .u8 ((ps.getD i putz).2.toNat : Int)]))] (some [4,5,9,10,11,14]) (fun S => [(0 ≤ (i : Int) ∧ (i : Int) < (ps.length : Int)),(∀ w1,S w1 → (loadVar 82 ⟨sb,(addO off (i * 2)),none⟩).run Tryz.prog w1 = .ok (.agg #[.int .i64 (ps.getD i putz).1,.int .u8 ((ps.getD i putz).2.toNat : Int)]) w1)]) ⟨om,(fun w1 h => load_list (vs := [.int .i64 (ps.getD i putz).1,.int .u8 ((ps.getD i putz).2.toNat : Int)]) Tryz.underlying82 rfl kr rfl (fun j v hj => by rw [addO_eq]; exact (cell_cells (h.ro _ hmem)).trans (p_cell hcs om hj))),trivial⟩ ?_
   refine Le (Eff.alloc (z := (.agg #[.int .i64 0,.int .u8 0])) rfl kr) ?_
   rintro pb ⟨hpb,npb⟩
   refine Le (Eff.storeN (b := pb) (off := 0) (vs := #[.int .i64 (ps.getD i putz).1,.int .u8 ((ps.getD i putz).2.toNat : Int)]) (n := 2) rfl kr kr kr rfl (by intro v hv; simp at hv; rcases hv with rfl | rfl <;> rfl) 0 (cs := #[.int .i64 0,.int .u8 0]) (e := 82) kr (by decide)) ?_
   rintro ⟨⟩ -
   refine CfgL.setO (congrArg (fun (xq : Array Value) => (([(pb,.cells xq 82 (0,0))] ++ (Own.o 79 (jv (wrs (ps.take i))) o1 ++ (Own.o 36 (jv (wrs (ps.take i))) o2 ++ []))) : List (Nat × Obj))) (show _ = #[.int .i64 (ps.getD i putz).1,.int .u8 ((ps.getD i putz).2.toNat : Int)] from rfl)) ?_
   refine CfgL.done rfl ?_
   refine Cg (Γ' := [(7,[],.pointer (some ⟨pb,0,none⟩)),(11,[],.int .i64 (i : Int)),(10,[],.int .i64 (ps.length : Int)),(9,[],.slice (some ⟨sb,off,none⟩) ps.length cap),(5,[],.slice (Own.a o2) i (Own.c o2)),(4,[],.slice (Own.a o1) i (Own.c o1))]) ?_
   refine Cfg.begL rfl ?_
   refine Lp 3 [dZ,(0,false,some (.int .u8 ((ps.getD i putz).2.toNat : Int))),(0,false,some (.agg (bv (bk2 (ps.getD i putz).2))))] (some [4,5,7,9,10,11,17]) (fun S => [(∀ w1,S w1 → w1.cell? ⟨pb,1,none⟩ = some (.int .u8 ((ps.getD i putz).2.toNat : Int))),(∀ w1,S w1 → (Instr.build 25 #[(0,.int .u8 ((ps.getD i putz).2.toNat : Int)),(1,.int .u8 7)]).run Tryz.prog w1 = .ok (.agg (bv (bk2 (ps.getD i putz).2))) w1)]) ⟨(fun w1 h => h.ocell 0 rfl rfl),(fun w1 _ => build_bk _ w1),trivial⟩ ?_
   refine Le (Eff.alloc (z := (.agg (bv (List.replicate 512 0)))) rfl kr) ?_
   rintro kb ⟨hkb,nkb⟩
   refine Le (Eff.storeN (b := kb) (off := 0) (vs := (bv (bk2 (ps.getD i putz).2))) (n := 512) rfl kr kr kr ((bv_size _).trans (bk2_len _)) (all_bv _) 0 (cs := (bv (List.replicate 512 0))) (e := 25) kr (by rw [zsz512]; omega)) ?_
   rintro ⟨⟩ -
   refine CfgL.setO (congrArg (fun (xq : Array Value) => (([(kb,.cells xq 25 (0,0)),(pb,.cells #[.int .i64 (ps.getD i putz).1,.int .u8 ((ps.getD i putz).2.toNat : Int)] 82 (0,0))] ++ (Own.o 79 (jv (wrs (ps.take i))) o1 ++ (Own.o 36 (jv (wrs (ps.take i))) o2 ++ []))) : List (Nat × Obj))) (show _ = (bv (bk2 (ps.getD i putz).2)) from spl_all (((bv_size _).trans (bk2_len _)).trans zsz512.symm))) ?_
   refine CfgL.done rfl ?_
   refine Cg (Γ' := [(8,[],.pointer (some ⟨kb,0,none⟩)),(7,[],.pointer (some ⟨pb,0,none⟩)),(11,[],.int .i64 (i : Int)),(10,[],.int .i64 (ps.length : Int)),(9,[],.slice (some ⟨sb,off,none⟩) ps.length cap),(5,[],.slice (Own.a o2) i (Own.c o2)),(4,[],.slice (Own.a o1) i (Own.c o1))]) ?_
   refine Cfg.begA rfl kr [(kb,.cells (bv (bk2 (ps.getD i putz).2)) 25 (0,0)),(pb,.cells #[.int .i64 (ps.getD i putz).1,.int .u8 ((ps.getD i putz).2.toNat : Int)] 82 (0,0))] ?_
   refine Ap [0,1,2,3,4,7,8,9,10,11] [dZ,dZ,(0,false,some (.int .i64 ((ps.getD i putz).1))),(0,false,some (.agg (bv (bk2 (ps.getD i putz).2)))),(0,false,some (.agg (jc ((ps.getD i putz).1,bk2 (ps.getD i putz).2)).toArray)),dZ,dZ,(0,false,some (.int .i64 ((ps.getD i putz).1))),(0,false,some (.agg (bv (bk2 (ps.getD i putz).2)))),(0,false,some (.agg (jc ((ps.getD i putz).1,bk2 (ps.getD i putz).2)).toArray))] (some [4,5,9,10,11,18,22,25,29]) #[true,true,true,true,true,false,false,true,true,true,true,true,false,false,false,false] (.cons_cons _ (.cons_cons _ (List.nil_sublist _))) 6 (fun S => [(∀ w1,S w1 → w1.cell? ⟨pb,0,none⟩ = some (.int .i64 ((ps.getD i putz).1))),(∀ w1,S w1 → (loadVar 25 ⟨kb,0,none⟩).run Tryz.prog w1 = .ok (.agg (bv (bk2 (ps.getD i putz).2))) w1),(∀ w1,S w1 → (Instr.build 79 #[(0,.int .i64 ((ps.getD i putz).1)),(1,.agg (bv (bk2 (ps.getD i putz).2)))]).run Tryz.prog w1 = .ok (.agg (jc ((ps.getD i putz).1,bk2 (ps.getD i putz).2)).toArray) w1),(∀ w1,S w1 → w1.cell? ⟨pb,0,none⟩ = some (.int .i64 ((ps.getD i putz).1))),(∀ w1,S w1 → (loadVar 25 ⟨kb,0,none⟩).run Tryz.prog w1 = .ok (.agg (bv (bk2 (ps.getD i putz).2))) w1),(∀ w1,S w1 → (Instr.build 36 #[(0,.int .i64 ((ps.getD i putz).1)),(1,.agg (bv (bk2 (ps.getD i putz).2)))]).run Tryz.prog w1 = .ok (.agg (jc ((ps.getD i putz).1,bk2 (ps.getD i putz).2)).toArray) w1)]) ⟨(fun w1 h => h.ocell 1 rfl rfl),(fun w1 h => h.oload 0 rfl Tryz.underlying25 rfl (n := 512) kr ((bv_size _).trans (bk2_len _))),(fun w1 _ => build_wr (ps.getD i putz).1 (bk2_len _) w1),(fun w1 h => h.ocell 1 rfl rfl),(fun w1 h => h.oload 0 rfl Tryz.underlying25 rfl (n := 512) kr ((bv_size _).trans (bk2_len _))),(fun w1 _ => build_rw (ps.getD i putz).1 (bk2_len _) w1),trivial⟩ ?_
   refine CfgA.two 5 12 kr (fuel' := 5) rfl ?_ ?_
   ·
    refine Ie rfl  (Eff.buildAgg (vs := (jc ((ps.getD i putz).1,bk2 (ps.getD i putz).2)).toArray) (n := 513) rfl kr Tryz.underlying28 kr (z := (.agg (jc wz).toArray)) kr (by rw [List.size_toArray]; exact jc_len (bk2_len _)) (by decide) (by decide)) (fun _ _ => (.cons _ (.cons_cons _ (.cons_cons _ (List.nil_sublist _))))) ?_
    rintro x3 ⟨hx3,nx3⟩
    refine CfgA.two 6 12 kr (fuel' := 4) rfl ?_ ?_
    ·
     refine Ie rfl  (Eff.appendF rfl 513 520 Tryz.underlying28 kr (z := (.agg (jc wz).toArray)) kr kr o1 (xs := (jv (wrs (ps.take i)))) hok1 kr (b2 := x3) (off2 := 0) (m := 1) (c2 := 1) kr (jc ((ps.getD i putz).1,bk2 (ps.getD i putz).2)) (jc_len (bk2_len _)) (jc_all _) [(x3,.cells ((jc ((ps.getD i putz).1,bk2 (ps.getD i putz).2)).toArray) 79 (0,0)),(kb,.cells (bv (bk2 (ps.getD i putz).2)) 25 (0,0)),(pb,.cells #[.int .i64 (ps.getD i putz).1,.int .u8 ((ps.getD i putz).2.toNat : Int)] 82 (0,0))] ([] ++ (Own.o 36 (jv (wrs (ps.take i))) o2 ++ [])) (by rfl) (fun w1 h j v hj => wr_src h 0 rfl hj) om om) (fun _ _ => (.cons _ (.cons_cons _ (.cons_cons _ (List.nil_sublist _))))) ?_
     rintro o1 ko1
     refine Ae 12 rfl 3  (Eff.buildAgg (vs := (jc ((ps.getD i putz).1,bk2 (ps.getD i putz).2)).toArray) (n := 513) rfl kr Tryz.underlying29 kr (z := (.agg (jc wz).toArray)) kr (by rw [List.size_toArray]; exact jc_len (bk2_len _)) (by decide) (by decide)) (fun _ _ => (.cons _ (.cons _ (.cons_cons _ (.cons_cons _ (List.nil_sublist _)))))) ?_
     rintro x4 ⟨hx4,nx4⟩
     refine Ae 13 rfl 2  (Eff.appendF rfl 513 520 Tryz.underlying29 kr (z := (.agg (jc wz).toArray)) kr kr o2 (xs := (jv (wrs (ps.take i)))) hok2 kr (b2 := x4) (off2 := 0) (m := 1) (c2 := 1) kr (jc ((ps.getD i putz).1,bk2 (ps.getD i putz).2)) (jc_len (bk2_len _)) (jc_all _) ([(x4,.cells ((jc ((ps.getD i putz).1,bk2 (ps.getD i putz).2)).toArray) 36 (0,0)),(x3,.cells ((jc ((ps.getD i putz).1,bk2 (ps.getD i putz).2)).toArray) 79 (0,0)),(kb,.cells (bv (bk2 (ps.getD i putz).2)) 25 (0,0)),(pb,.cells #[.int .i64 (ps.getD i putz).1,.int .u8 ((ps.getD i putz).2.toNat : Int)] 82 (0,0))] ++ Own.o 79 ((jv (wrs (ps.take i))) ++ (jc ((ps.getD i putz).1,bk2 (ps.getD i putz).2))) o1) [] (by rfl) (fun w1 h j v hj => wr_src h 0 rfl hj) om om) (fun _ _ => (.cons _ (.cons _ (.cons_cons _ (.cons_cons _ (List.nil_sublist _)))))) ?_
     rintro o2 ko2
     refine Ap [14,15] [] (some [4,5,9,10,11]) #[true,true,true,true,true,true,true,true,true,true,true,true,true,true,true,true] (.cons _ (.cons _ (.cons_cons _ (.cons_cons _ (List.nil_sublist _))))) 0 n0 trivial ?_
     refine CfgA.done kr ?_
     refine Rg [4,5,9,10,11] [] (fun _ => [((-9223372036854775808 : Int) ≤ ((i : Int) + 1) ∧ ((i : Int) + 1) ≤ 9223372036854775807)]) ⟨om,trivial⟩ ?_
     have hrv := wrs_succ (ps := ps) (i := i) om
     refine Cfg.setO (congrArg (fun (xq : List Value) => (([(x4,.cells ((jc ((ps.getD i putz).1,bk2 (ps.getD i putz).2)).toArray) 36 (0,0)),(x3,.cells ((jc ((ps.getD i putz).1,bk2 (ps.getD i putz).2)).toArray) 79 (0,0)),(kb,.cells (bv (bk2 (ps.getD i putz).2)) 25 (0,0)),(pb,.cells #[.int .i64 (ps.getD i putz).1,.int .u8 ((ps.getD i putz).2.toNat : Int)] 82 (0,0))] ++ (Own.o 79 xq o1 ++ (Own.o 36 ((jv (wrs (ps.take i))) ++ (jc ((ps.getD i putz).1,bk2 (ps.getD i putz).2))) o2 ++ []))) : List (Nat × Obj))) (show _ = (jv (wrs (ps.take (i + 1)))) from hrv)) ?_
     refine Cfg.setO (congrArg (fun (xq : List Value) => (([(x4,.cells ((jc ((ps.getD i putz).1,bk2 (ps.getD i putz).2)).toArray) 36 (0,0)),(x3,.cells ((jc ((ps.getD i putz).1,bk2 (ps.getD i putz).2)).toArray) 79 (0,0)),(kb,.cells (bv (bk2 (ps.getD i putz).2)) 25 (0,0)),(pb,.cells #[.int .i64 (ps.getD i putz).1,.int .u8 ((ps.getD i putz).2.toNat : Int)] 82 (0,0))] ++ (Own.o 79 (jv (wrs (ps.take (i + 1)))) o1 ++ (Own.o 36 xq o2 ++ []))) : List (Nat × Obj))) (show _ = (jv (wrs (ps.take (i + 1)))) from hrv)) ?_
     refine Cfg.again rfl (i + 1,o1,o2) ⟨by omega,hrv ▸ ko1,hrv ▸ ko2⟩ (by show ps.length - (i + 1) < ps.length - i; omega) (Conv.mk kr) (.cons _ (.cons _ (.cons _ (.cons _ (List.Sublist.refl _)))))
    ·
     refine Ie rfl  (Eff.buildAgg (vs := (jc ((ps.getD i putz).1,bk2 (ps.getD i putz).2)).toArray) (n := 513) rfl kr Tryz.underlying29 kr (z := (.agg (jc wz).toArray)) kr (by rw [List.size_toArray]; exact jc_len (bk2_len _)) (by decide) (by decide)) (fun _ _ => (.cons _ (.cons _ (.cons_cons _ (.cons_cons _ (List.nil_sublist _)))))) ?_
     rintro x5 ⟨hx5,nx5⟩
     refine Ae 6 rfl 3  (Eff.appendF rfl 513 520 Tryz.underlying28 kr (z := (.agg (jc wz).toArray)) kr kr o1 (xs := (jv (wrs (ps.take i)))) hok1 kr (b2 := x3) (off2 := 0) (m := 1) (c2 := 1) kr (jc ((ps.getD i putz).1,bk2 (ps.getD i putz).2)) (jc_len (bk2_len _)) (jc_all _) [(x5,.cells ((jc ((ps.getD i putz).1,bk2 (ps.getD i putz).2)).toArray) 36 (0,0)),(x3,.cells ((jc ((ps.getD i putz).1,bk2 (ps.getD i putz).2)).toArray) 79 (0,0)),(kb,.cells (bv (bk2 (ps.getD i putz).2)) 25 (0,0)),(pb,.cells #[.int .i64 (ps.getD i putz).1,.int .u8 ((ps.getD i putz).2.toNat : Int)] 82 (0,0))] ([] ++ (Own.o 36 (jv (wrs (ps.take i))) o2 ++ [])) (by rfl) (fun w1 h j v hj => wr_src h 1 rfl hj) om om) (fun _ _ => (.cons _ (.cons _ (.cons_cons _ (.cons_cons _ (List.nil_sublist _)))))) ?_
     rintro o3 ko3
     refine Ae 13 rfl 2  (Eff.appendF rfl 513 520 Tryz.underlying29 kr (z := (.agg (jc wz).toArray)) kr kr o2 (xs := (jv (wrs (ps.take i)))) hok2 kr (b2 := x5) (off2 := 0) (m := 1) (c2 := 1) kr (jc ((ps.getD i putz).1,bk2 (ps.getD i putz).2)) (jc_len (bk2_len _)) (jc_all _) ([(x5,.cells ((jc ((ps.getD i putz).1,bk2 (ps.getD i putz).2)).toArray) 36 (0,0)),(x3,.cells ((jc ((ps.getD i putz).1,bk2 (ps.getD i putz).2)).toArray) 79 (0,0)),(kb,.cells (bv (bk2 (ps.getD i putz).2)) 25 (0,0)),(pb,.cells #[.int .i64 (ps.getD i putz).1,.int .u8 ((ps.getD i putz).2.toNat : Int)] 82 (0,0))] ++ Own.o 79 ((jv (wrs (ps.take i))) ++ (jc ((ps.getD i putz).1,bk2 (ps.getD i putz).2))) o3) [] (by rfl) (fun w1 h j v hj => wr_src h 0 rfl hj) om om) (fun _ _ => (.cons _ (.cons _ (.cons_cons _ (.cons_cons _ (List.nil_sublist _)))))) ?_
     rintro o4 ko4
     refine Ap [14,15] [] (some [4,5,9,10,11]) #[true,true,true,true,true,true,true,true,true,true,true,true,true,true,true,true] (.cons _ (.cons _ (.cons_cons _ (.cons_cons _ (List.nil_sublist _))))) 0 n0 trivial ?_
     refine CfgA.done kr ?_
     refine Rg [4,5,9,10,11] [] (fun _ => [((-9223372036854775808 : Int) ≤ ((i : Int) + 1) ∧ ((i : Int) + 1) ≤ 9223372036854775807)]) ⟨om,trivial⟩ ?_
     have hrv := wrs_succ (ps := ps) (i := i) om
     refine Cfg.setO (congrArg (fun (xq : List Value) => (([(x5,.cells ((jc ((ps.getD i putz).1,bk2 (ps.getD i putz).2)).toArray) 36 (0,0)),(x3,.cells ((jc ((ps.getD i putz).1,bk2 (ps.getD i putz).2)).toArray) 79 (0,0)),(kb,.cells (bv (bk2 (ps.getD i putz).2)) 25 (0,0)),(pb,.cells #[.int .i64 (ps.getD i putz).1,.int .u8 ((ps.getD i putz).2.toNat : Int)] 82 (0,0))] ++ (Own.o 79 xq o3 ++ (Own.o 36 ((jv (wrs (ps.take i))) ++ (jc ((ps.getD i putz).1,bk2 (ps.getD i putz).2))) o4 ++ []))) : List (Nat × Obj))) (show _ = (jv (wrs (ps.take (i + 1)))) from hrv)) ?_
     refine Cfg.setO (congrArg (fun (xq : List Value) => (([(x5,.cells ((jc ((ps.getD i putz).1,bk2 (ps.getD i putz).2)).toArray) 36 (0,0)),(x3,.cells ((jc ((ps.getD i putz).1,bk2 (ps.getD i putz).2)).toArray) 79 (0,0)),(kb,.cells (bv (bk2 (ps.getD i putz).2)) 25 (0,0)),(pb,.cells #[.int .i64 (ps.getD i putz).1,.int .u8 ((ps.getD i putz).2.toNat : Int)] 82 (0,0))] ++ (Own.o 79 (jv (wrs (ps.take (i + 1)))) o3 ++ (Own.o 36 xq o4 ++ []))) : List (Nat × Obj))) (show _ = (jv (wrs (ps.take (i + 1)))) from hrv)) ?_
     refine Cfg.again rfl (i + 1,o3,o4) ⟨by omega,hrv ▸ ko3,hrv ▸ ko4⟩ (by show ps.length - (i + 1) < ps.length - i; omega) (Conv.mk kr) (.cons _ (.cons _ (.cons _ (.cons _ (List.Sublist.refl _)))))
   ·
    refine Ie rfl  (Eff.buildAgg (vs := (jc ((ps.getD i putz).1,bk2 (ps.getD i putz).2)).toArray) (n := 513) rfl kr Tryz.underlying29 kr (z := (.agg (jc wz).toArray)) kr (by rw [List.size_toArray]; exact jc_len (bk2_len _)) (by decide) (by decide)) (fun _ _ => (.cons _ (.cons_cons _ (.cons_cons _ (List.nil_sublist _))))) ?_
    rintro x6 ⟨hx6,nx6⟩
    refine Ae 5 rfl 4  (Eff.buildAgg (vs := (jc ((ps.getD i putz).1,bk2 (ps.getD i putz).2)).toArray) (n := 513) rfl kr Tryz.underlying28 kr (z := (.agg (jc wz).toArray)) kr (by rw [List.size_toArray]; exact jc_len (bk2_len _)) (by decide) (by decide)) (fun _ _ => (.cons _ (.cons _ (.cons_cons _ (.cons_cons _ (List.nil_sublist _)))))) ?_
    rintro x7 ⟨hx7,nx7⟩
    refine Ae 6 rfl 3  (Eff.appendF rfl 513 520 Tryz.underlying28 kr (z := (.agg (jc wz).toArray)) kr kr o1 (xs := (jv (wrs (ps.take i)))) hok1 kr (b2 := x7) (off2 := 0) (m := 1) (c2 := 1) kr (jc ((ps.getD i putz).1,bk2 (ps.getD i putz).2)) (jc_len (bk2_len _)) (jc_all _) [(x7,.cells ((jc ((ps.getD i putz).1,bk2 (ps.getD i putz).2)).toArray) 79 (0,0)),(x6,.cells ((jc ((ps.getD i putz).1,bk2 (ps.getD i putz).2)).toArray) 36 (0,0)),(kb,.cells (bv (bk2 (ps.getD i putz).2)) 25 (0,0)),(pb,.cells #[.int .i64 (ps.getD i putz).1,.int .u8 ((ps.getD i putz).2.toNat : Int)] 82 (0,0))] ([] ++ (Own.o 36 (jv (wrs (ps.take i))) o2 ++ [])) (by rfl) (fun w1 h j v hj => wr_src h 0 rfl hj) om om) (fun _ _ => (.cons _ (.cons _ (.cons_cons _ (.cons_cons _ (List.nil_sublist _)))))) ?_
    rintro o5 ko5
    refine Ae 13 rfl 2  (Eff.appendF rfl 513 520 Tryz.underlying29 kr (z := (.agg (jc wz).toArray)) kr kr o2 (xs := (jv (wrs (ps.take i)))) hok2 kr (b2 := x6) (off2 := 0) (m := 1) (c2 := 1) kr (jc ((ps.getD i putz).1,bk2 (ps.getD i putz).2)) (jc_len (bk2_len _)) (jc_all _) ([(x7,.cells ((jc ((ps.getD i putz).1,bk2 (ps.getD i putz).2)).toArray) 79 (0,0)),(x6,.cells ((jc ((ps.getD i putz).1,bk2 (ps.getD i putz).2)).toArray) 36 (0,0)),(kb,.cells (bv (bk2 (ps.getD i putz).2)) 25 (0,0)),(pb,.cells #[.int .i64 (ps.getD i putz).1,.int .u8 ((ps.getD i putz).2.toNat : Int)] 82 (0,0))] ++ Own.o 79 ((jv (wrs (ps.take i))) ++ (jc ((ps.getD i putz).1,bk2 (ps.getD i putz).2))) o5) [] (by rfl) (fun w1 h j v hj => wr_src h 1 rfl hj) om om) (fun _ _ => (.cons _ (.cons _ (.cons_cons _ (.cons_cons _ (List.nil_sublist _)))))) ?_
    rintro o6 ko6
    refine Ap [14,15] [] (some [4,5,9,10,11]) #[true,true,true,true,true,true,true,true,true,true,true,true,true,true,true,true] (.cons _ (.cons _ (.cons_cons _ (.cons_cons _ (List.nil_sublist _))))) 0 n0 trivial ?_
    refine CfgA.done kr ?_
    refine Rg [4,5,9,10,11] [] (fun _ => [((-9223372036854775808 : Int) ≤ ((i : Int) + 1) ∧ ((i : Int) + 1) ≤ 9223372036854775807)]) ⟨om,trivial⟩ ?_
    have hrv := wrs_succ (ps := ps) (i := i) om
    refine Cfg.setO (congrArg (fun (xq : List Value) => (([(x7,.cells ((jc ((ps.getD i putz).1,bk2 (ps.getD i putz).2)).toArray) 79 (0,0)),(x6,.cells ((jc ((ps.getD i putz).1,bk2 (ps.getD i putz).2)).toArray) 36 (0,0)),(kb,.cells (bv (bk2 (ps.getD i putz).2)) 25 (0,0)),(pb,.cells #[.int .i64 (ps.getD i putz).1,.int .u8 ((ps.getD i putz).2.toNat : Int)] 82 (0,0))] ++ (Own.o 79 xq o5 ++ (Own.o 36 ((jv (wrs (ps.take i))) ++ (jc ((ps.getD i putz).1,bk2 (ps.getD i putz).2))) o6 ++ []))) : List (Nat × Obj))) (show _ = (jv (wrs (ps.take (i + 1)))) from hrv)) ?_
    refine Cfg.setO (congrArg (fun (xq : List Value) => (([(x7,.cells ((jc ((ps.getD i putz).1,bk2 (ps.getD i putz).2)).toArray) 79 (0,0)),(x6,.cells ((jc ((ps.getD i putz).1,bk2 (ps.getD i putz).2)).toArray) 36 (0,0)),(kb,.cells (bv (bk2 (ps.getD i putz).2)) 25 (0,0)),(pb,.cells #[.int .i64 (ps.getD i putz).1,.int .u8 ((ps.getD i putz).2.toNat : Int)] 82 (0,0))] ++ (Own.o 79 (jv (wrs (ps.take (i + 1)))) o5 ++ (Own.o 36 xq o6 ++ []))) : List (Nat × Obj))) (show _ = (jv (wrs (ps.take (i + 1)))) from hrv)) ?_
    refine Cfg.again rfl (i + 1,o5,o6) ⟨by omega,hrv ▸ ko5,hrv ▸ ko6⟩ (by show ps.length - (i + 1) < ps.length - i; omega) (Conv.mk kr) (.cons _ (.cons _ (.cons _ (.cons _ (List.Sublist.refl _)))))
  ·have c1 := (of_decide_eq_false c1r)
   refine Cfg.reg rfl [2,3] [] (Γ' := [(3,[],.slice (Own.a o2) i (Own.c o2)),(2,[],.slice (Own.a o1) i (Own.c o1))]) (nd := (fun _ => [])) (fun _ => kr) trivial ?_
   refine Cfg.ret rfl (rs := [.tmp 2,.tmp 3]) rfl [.slice (Own.a o1) i (Own.c o1),.slice (Own.a o2) i (Own.c o2)] ⟨kr,by kernel_rfl,trivial⟩ (fun w1 hp => ?_)
   obtain rfl : i = ps.length := by omega
   rw [List.take_length] at hok1 hok2
   have h9 : HP w [] Rl (Own.o 79 (jv (wrs ps)) o1 ++ (Own.o 36 (jv (wrs ps)) o2 ++ [])) w1 := by
    have h8 := hp.sub (List.sublist_append_right _ _)
    have e := List.take_length (l := ps)
    rw [← e]; exact h8
   exact ⟨(o1,o2),⟨hok1,hok2⟩,rfl,_,h9⟩
end Go.Proofs.YtohjpggjgomgoaaGreatDoor
namespace Go.Proofs.YtohjpggjgomgoaaGreatDoor
open K
set_option linter.unusedVariables false
open Go.ChangeShapes Go.WideShapes
def putC (p : Pt) : List Value := [.int .i64 p.1,.int .u8 (p.2.toNat : Int)]
theorem putL2 {cs : List Value} (h : cs.length = 2) : cs = (cs.drop 0).take 1 ++ (cs.drop 1).take 1 := by
 match cs,h with
 | [a,b],_ => rfl
theorem put_open {H : Type} {enc : TypeId × Value → H} {w : World} {base : Nat} {held : Bool} (cs : List Value) (fuel : Nat) (y : DataW H × List MemPlace) (hl : cs.length = 2) (h : DataW.trod enc Tryz.prog w base (fun _ => true) held fuel 82 cs = some y) :
  ∃ a : Pt,True ∧ cs = putC a := by
 obtain ⟨xs,m,_,_,_,hlen,hf⟩ := DataW.trod_struct Tryz.underlying82 h
 have c1 : Tryz.prog.cellsOf 3 = 1 := by kernel_rfl
 have c2 : Tryz.prog.cellsOf 5 = 1 := by kernel_rfl
 match xs,hlen with
 | [y0,y1],_ =>
  have h0 : DataW.trod enc Tryz.prog w base (fun _ => true) held m 3 ((cs.drop 0).take 1) = some y0 := by have q := hf 0 ⟨ "At",3,0,false,"","",0⟩ rfl; simp only [c1] at q; exact q
  have h1 : DataW.trod enc Tryz.prog w base (fun _ => true) held m 5 ((cs.drop 1).take 1) = some y1 := by have q := hf 1 ⟨ "B",5,1,false,"","",8⟩ rfl; simp only [c2] at q; exact q
  obtain ⟨d,hd,_⟩ := DataW.trod_int Tryz.underlying3 h0
  obtain ⟨b,hb,_⟩ := DataW.trod_int Tryz.underlying5 h1
  rw [hb] at h1
  have hb2 := trod_u8 Tryz.underlying5 h1
  refine ⟨(d,toB (.int .u8 b)),trivial,?_⟩
  have h9 := putL2 hl
  rw [hd,hb] at h9
  unfold putC
  rw [← hb2]
  exact h9
theorem putC_cell : ∀ (ps : List Pt) (j : Nat),j < ps.length * 2 → (ps.flatMap putC).getD j undef = pCell ps j
 | [],j,h => absurd h (by simp)
 | p :: ps,j,h => by
  rw [List.flatMap_cons]
  rcases j with _ | _ | j
  ·rfl
  ·rfl
  ·have ih := putC_cell ps j (by rw [List.length_cons] at h; omega)
   show (ps.flatMap putC).getD j undef = _
   rw [ih]; unfold pCell
   rw [show (j + 1 + 1) % 2 = j % 2 by omega,show (j + 1 + 1) / 2 = j / 2 + 1 by omega]
   rfl
theorem putC_in {Rl : List (Nat × Obj)} {la : Option Addr} {ps : List Pt} (h : InS Rl la (ps.length * 2) (fun j => (ps.flatMap putC).getD j undef)) : InS Rl la (ps.length * 2) (pCell ps) :=
 InS.more h (fun _ hx => hx) fun j hj => putC_cell ps j hj
end Go.Proofs.YtohjpggjgomgoaaGreatDoor
namespace Go.Proofs.YtohjpggjgomgoaaGreatDoor
open K
set_option linter.unusedVariables false
set_option maxRecDepth 100000 in
set_option maxHeartbeats 4000000 in
theorem jParse (H : List UInt8) (la : Option Addr) (cap : Nat) (bs : List (List UInt8)) (Rl : List (Nat × Obj)) {kt : Array Value} {t0 : TypeId} {fr0 : Nat × Nat} (w : World) (hH : H.length = 512) (hI : InB Rl la bs) (hB : W5 bs) (hn : bs.length ≤ maxLen) (hR : Has w ((0,.cells kt t0 fr0) :: Rl)) (hK : KT kt := by assumption) :
  Calls Tryz.prog 9 #[.agg (bv H),.slice la bs.length cap] w fun e w' => ∃ o : K.Own,OwnOk o 513 (parL H bs).length (jv (parL H bs)) ∧ e = .returned (.tuple #[.int .u64 (parN H bs : Int),.slice (Own.a o) (parL H bs).length (Own.c o),.bool (parG H bs)]) ∧ ∃ R1,HP w [] R1 (Own.o 79 (jv (parL H bs)) o) w' := by
 unfold maxLen at hn
 obtain ⟨m,hm⟩ : ∃ m,m = min 96 bs.length := ⟨_,rfl⟩
 have hmm : (if (bs.length : Int) < (96 : Int) then (bs.length : Int) else (96 : Int)) = (m : Int) := by split <;> omega
 have hIq : InB ((0,.cells kt t0 fr0) :: Rl) la bs := hI.mono (fun e he => List.mem_cons_of_mem _ he)
 have hnl := numP_lt H
 have hcl := cnt_lt H
 refine enter (vs := [.agg (bv H),.slice la bs.length cap]) [] ((0,.cells kt t0 fr0) :: Rl) [] Tryz.func9 rfl kr (HP.ofHas hR) ?_
 refine Cfg.begL rfl ?_
 refine Le (Eff.box (v := .agg (bv H)) rfl kr) ?_
 rintro hx ⟨hhx,nhx⟩
 refine Lp 3 [] (some [1,2]) n0 trivial ?_
 refine CfgL.done rfl ?_
 refine Cfg.begL rfl ?_
 refine Lp 2 [dZ,(0,false,some (.string (tx H)))] (some [1,2,14]) (fun S => [(512 ≤ 512),(∀ w1,S w1 → (Conv.bytesToString (.slice (some ⟨hx,0,none⟩) 512 512)).run Tryz.prog w1 = .ok (.string (tx H)) w1)]) ⟨om,(fun w1 h => bytes_str hH (fun j hj => by rw [Nat.zero_add]; exact h.ocell 0 rfl (bv_get hH hj))),trivial⟩ ?_
 refine Le (Eff.callN (vs := [.string (tx H)]) (fun b : Nat => .pointer (some ⟨b,0,none⟩)) (fun b => b) (fun _ => .cells (inC (aD H 0)) 162 (0,0)) (fun _ => True) rfl Tryz.func41 rfl rfl kr (fun w1 _ => wOf H w1)) ?_
 rintro ib ⟨-,hib,nib⟩
 refine Lp 1 [] (some [1,2,7]) n0 trivial ?_
 refine CfgL.done rfl ?_
 refine Cfg.begL rfl ?_
 refine Lp 1 [] none n0 trivial ?_
 refine Le (Eff.callM (vs := [.pointer (some ⟨ib,0,none⟩),.int .i64 4]) (.string (tx (H.take 4))) 0 (b := ib) (ob := Obj.cells (inC (aD H 0)) 162 (0,0)) (Obj.cells (inC (aD H 4)) 162 (0,0)) rfl Tryz.func42 rfl rfl kr kr (fun w1 h => jRaw ib H w1 hH (h.own (ib,Obj.cells (inC (aD H 0)) 162 (0,0)) (show (ib,Obj.cells (inC (aD H 0)) 162 (0,0)) ∈ [(ib,Obj.cells (inC (aD H 0)) 162 (0,0)),(hx,Obj.cells (bv H) 25 (0,0))] from (List.mem_of_getElem? (i := 0) rfl))))) ?_
 rintro ⟨⟩ -
 refine Lp 1 [] (some [1,2,7,18]) n0 trivial ?_
 refine CfgL.done rfl ?_
 refine Cfg.cond rfl (b := (!((tx (H.take 4)).toList == (⟨#[80,82,84,82]⟩ : ByteArray).toList))) kr (fun c1r => ?_) (fun c1r => ?_)
 ·have c1 : (((tx (H.take 4)).toList == (⟨#[80,82,84,82]⟩ : ByteArray).toList) = false) := (notT c1r)
  have hmk : ¬ H.take 4 = mkL := by have h0 := c1r; rw [mark_eq] at h0; simpa using h0
  refine Rg [4,5,6] [] n0 trivial ?_
  refine Cfg.ret rfl (rs := [.tmp 4,.tmp 5,.tmp 6]) rfl [.int .u64 0,.slice none 0 0,.bool false] ⟨kr,by kernel_rfl,by kernel_rfl,trivial⟩ (fun w1 hp => ?_)
  exact par_ret0 (par_no1 hmk) hp
 ·have c1 : (((tx (H.take 4)).toList == (⟨#[80,82,84,82]⟩ : ByteArray).toList) = true) := (notF c1r)
  have hmk : H.take 4 = mkL := by have h0 := c1r; rw [mark_eq] at h0; simpa using h0
  refine Cfg.begL rfl ?_
  refine Lp 1 [] (some [1,2,7,19]) n0 trivial ?_
  refine Le (Eff.callM (vs := [.pointer (some ⟨ib,0,none⟩)]) (.int .u64 ((numP H) : Int)) 0 (b := ib) (ob := Obj.cells (inC (aD H 4)) 162 (0,0)) (Obj.cells (inC (aD H 12)) 162 (0,0)) rfl Tryz.func43 rfl rfl kr kr (fun w1 h => jEight ib H w1 hH (h.own (ib,Obj.cells (inC (aD H 4)) 162 (0,0)) (show (ib,Obj.cells (inC (aD H 4)) 162 (0,0)) ∈ [(ib,Obj.cells (inC (aD H 4)) 162 (0,0)),(hx,Obj.cells (bv H) 25 (0,0))] from (List.mem_of_getElem? (i := 0) rfl))))) ?_
  rintro ⟨⟩ -
  refine CfgL.pure 1 [] (some [1,2,7,8]) (Γ' := [(8,[],.int .u64 ((numP H) : Int)),(7,[],.pointer (some ⟨ib,0,none⟩)),(2,[],.pointer (some ⟨hx,0,none⟩)),(1,[],.slice la bs.length cap)]) (nd := (fun _ => [])) kr (fun _ => kr) trivial ?_
  refine CfgL.done rfl ?_
  refine Cfg.begL rfl ?_
  refine Lp 3 [] (some [1,2,7,8,21,23]) n0 trivial ?_
  refine Le (Eff.minI2 (k := .i64) (a := (96 : Int)) (b := (bs.length : Int)) (m : Int) hmm rfl kr kr) ?_
  rintro ⟨⟩ -
  refine Le (Eff.callM (vs := [.pointer (some ⟨ib,0,none⟩),.int .i64 (m : Int)]) (.int .i64 ((boundF (aD H 12) (m : Int) 6).1 : Int)) 0 (b := ib) (ob := Obj.cells (inC (aD H 12)) 162 (0,0)) (Obj.cells (inC (boundF (aD H 12) (m : Int) 6).2) 162 (0,0)) rfl Tryz.func44 rfl rfl kr kr (fun w1 h => wCount ib (aD H 12) (m : Int) w1 (h.own (ib,Obj.cells (inC (aD H 12)) 162 (0,0)) (show (ib,Obj.cells (inC (aD H 12)) 162 (0,0)) ∈ [(ib,Obj.cells (inC (aD H 12)) 162 (0,0)),(hx,Obj.cells (bv H) 25 (0,0))] from (List.mem_of_getElem? (i := 0) rfl))) om)) ?_
  rintro ⟨⟩ -
  refine Lp 1 [] (some [1,2,7,8,9]) n0 trivial ?_
  refine CfgL.done rfl ?_
  refine Cfg.begL rfl ?_
  refine Lp 1 [] none n0 trivial ?_
  refine Le (Eff.callA (vs := [.pointer (some ⟨ib,0,none⟩)]) (.int .i64 ((boundF (aD H 12) (m : Int) 6).2.er)) rfl Tryz.func45 rfl rfl kr (fun w1 h => wErr ib (boundF (aD H 12) (m : Int) 6).2 w1 (h.own (ib,_) (List.mem_of_getElem? (i := 0) rfl)))) ?_
  rintro ⟨⟩ -
  refine Lp 1 [] (some [1,2,7,8,9,28]) n0 trivial ?_
  refine CfgL.done rfl ?_
  refine Cfg.cond rfl (b := (((boundF (aD H 12) (m : Int) 6).2.er) != (0 : Int))) kr (fun c2r => ?_) (fun c2r => ?_)
  ·have c2 := (bne_iff_ne.1 c2r)
   refine Rg [4,5,6] [] n0 trivial ?_
   refine Cfg.ret rfl (rs := [.tmp 4,.tmp 5,.tmp 6]) rfl [.int .u64 0,.slice none 0 0,.bool false] ⟨kr,by kernel_rfl,by kernel_rfl,trivial⟩ (fun w1 hp => ?_)
   exact par_ret0 (par_no2 (by have := cnt_no hH (m := m) om; omega)) hp
  ·have c2 := (bne_eq_false_iff_eq.1 c2r)
   obtain ⟨hb1,hb2⟩ := cnt_ok hH (m := m) om
   refine Cg (Γ' := [(28,[],.bool (((boundF (aD H 12) (m : Int) 6).2.er) != (0 : Int))),(9,[],.int .i64 ((boundF (aD H 12) (m : Int) 6).1 : Int)),(8,[],.int .u64 ((numP H) : Int)),(7,[],.pointer (some ⟨ib,0,none⟩)),(2,[],.pointer (some ⟨hx,0,none⟩)),(1,[],.slice la bs.length cap)]) ?_
   refine Cfg.setG (congrArg (fun (xq : Int) => ([(28,[],.bool (((boundF (aD H 12) (m : Int) 6).2.er) != (0 : Int))),(9,[],.int .i64 xq),(8,[],.int .u64 ((numP H) : Int)),(7,[],.pointer (some ⟨ib,0,none⟩)),(2,[],.pointer (some ⟨hx,0,none⟩)),(1,[],.slice la bs.length cap)] : Env)) (show _ = ((cntP H) : Int) from by rw [hb1])) ?_
   refine Cfg.setO (congrArg (fun (xq : Array Value) => ([(ib,.cells xq 162 (0,0)),(hx,.cells (bv H) 25 (0,0))] : List (Nat × Obj))) (show _ = (inC (aD H 16)) from by rw [hb1])) ?_
   refine Rg [1,2,7,8,9,10] [] n0 trivial ?_
   refine Rg [1,2,7,8,10,29,30] [] n0 trivial ?_
   refine Cfg.setO (congrArg (fun (xq : Array Value) => ([(ib,.cells xq 162 (0,0)),(hx,.cells (bv H) 25 (0,0))] : List (Nat × Obj))) (show _ = (inC (aD H (16 + 2 * 0))) from rfl)) ?_
   refine Cfg.loop rfl (ι := Nat × K.Own) (fun (xz : Nat × K.Own) => match xz with | (k,own) => [(30,[],.int .i64 (k : Int)),(29,[],.int .i64 ((cntP H) : Int)),(10,[],.slice (Own.a own) k (Own.c own)),(8,[],.int .u64 ((numP H) : Int)),(7,[],.pointer (some ⟨ib,0,none⟩)),(2,[],.pointer (some ⟨hx,0,none⟩)),(1,[],.slice la bs.length cap)]) (fun (xz : Nat × K.Own) => match xz with | (k,own) => ([(ib,.cells (inC (aD H (16 + 2 * k))) 162 (0,0)),(hx,.cells (bv H) 25 (0,0))] ++ (Own.o 79 (jv (rowP H bs k)) own ++ []))) (fun (xz : Nat × K.Own) => match xz with | (k,own) => (k ≤ cntP H) ∧ (OwnOk own 513 k (jv (rowP H bs k)))) (fun (xz : Nat × K.Own) => match xz with | (k,own) => cntP H - k) (0,none) ?_ (Conv.mk kr) (.cons_cons _ (.cons_cons _ (List.Sublist.refl _))) ?_
   ·exact ⟨Nat.zero_le _,OwnOk.none _⟩
   ·rintro ⟨k,own⟩ ⟨hk,hok⟩
    refine Rg [1,2,7,8,10,29,30,31] [] n0 trivial ?_
    refine Cfg.cond rfl (b := (decide ((k : Int) < ((cntP H) : Int)))) kr (fun c3r => ?_) (fun c3r => ?_)
    ·have c3 := (of_decide_eq_true c3r)
     refine Rg [1,2,7,8,10,11,29,30] [] n0 trivial ?_
     refine Cfg.begL rfl ?_
     refine Lp 1 [] none n0 trivial ?_
     refine Le (Eff.callM (vs := [.pointer (some ⟨ib,0,none⟩)]) (.int .u8 ((gb H (16 + 2 * k)).toNat : Int)) 0 (b := ib) (ob := Obj.cells (inC (aD H (16 + 2 * k))) 162 (0,0)) (Obj.cells (inC (aD H (16 + 2 * k + 1))) 162 (0,0)) rfl Tryz.func46 rfl rfl kr kr (fun w1 h => jByte ib H (16 + 2 * k) w1 om (h.own (ib,Obj.cells (inC (aD H (16 + 2 * k))) 162 (0,0)) (show (ib,Obj.cells (inC (aD H (16 + 2 * k))) 162 (0,0)) ∈ ([(ib,Obj.cells (inC (aD H (16 + 2 * k))) 162 (0,0)),(hx,Obj.cells (bv H) 25 (0,0))] ++ (Own.o 79 (jv (rowP H bs k)) own ++ [])) from (List.mem_append_left _ (List.mem_of_getElem? (i := 0) rfl)))))) ?_
     rintro ⟨⟩ -
     refine Lp 2 [] (some [1,2,7,8,10,11,12,29,30]) (fun _ => [((-9223372036854775808 : Int) ≤ ((gb H (16 + 2 * k)).toNat : Int) ∧ ((gb H (16 + 2 * k)).toNat : Int) ≤ 9223372036854775807)]) ⟨(by have hq1 := byteLt (gb H (16 + 2 * k)); have hq2 := byteLt (gb H (16 + 2 * k + 1)); omega),trivial⟩ ?_
     refine CfgL.done rfl ?_
     obtain ⟨sb,off,cs,te,fre,rfl,hmem,hcs⟩ := hIq om
     refine Conv.cfg (Γ' := [(12,[],.int .i64 ((gb H (16 + 2 * k)).toNat : Int)),(11,[],.int .i64 (k : Int)),(30,[],.int .i64 (k : Int)),(29,[],.int .i64 ((cntP H) : Int)),(10,[],.slice (Own.a own) k (Own.c own)),(8,[],.int .u64 ((numP H) : Int)),(7,[],.pointer (some ⟨ib,0,none⟩)),(2,[],.pointer (some ⟨hx,0,none⟩)),(1,[],.slice (some ⟨sb,off,none⟩) bs.length cap)]) (Conv.mk kr) ?_
     refine Cfg.begA rfl kr [(hx,.cells (bv H) 25 (0,0))] ?_
     refine Ap [0,1,2,3,7,8,9] [] (some [1,2,7,8,10,29,30,36,38,39,45]) #[true,true,true,true,false,false,false,true,true,true,false,false,false,false,false] (.cons _ (.cons_cons _ (List.nil_sublist _))) 8 (fun _ => [(0 ≤ (8 : Int) ∧ 8 ≤ 64),((-9223372036854775808 : Int) ≤ (((gb H (16 + 2 * k)).toNat : Int) * 256) ∧ (((gb H (16 + 2 * k)).toNat : Int) * 256) ≤ 9223372036854775807),(0 ≤ (k : Int) ∧ (k : Int) < (bs.length : Int))]) ⟨om,(by have hq1 := byteLt (gb H (16 + 2 * k)); have hq2 := byteLt (gb H (16 + 2 * k + 1)); omega),om,trivial⟩ ?_
     refine CfgA.two 4 10 kr (fuel' := 7) rfl ?_ ?_
     ·
      refine Ie rfl  (Eff.callM (vs := [.pointer (some ⟨ib,0,none⟩)]) (.int .u8 ((gb H (16 + 2 * k + 1)).toNat : Int)) 0 (b := ib) (ob := Obj.cells (inC (aD H (16 + 2 * k + 1))) 162 (0,0)) (Obj.cells (inC (aD H (16 + 2 * k + 1 + 1))) 162 (0,0)) rfl Tryz.func46 rfl rfl kr kr (fun w1 h => jByte ib H (16 + 2 * k + 1) w1 om (h.own (ib,Obj.cells (inC (aD H (16 + 2 * k + 1))) 162 (0,0)) (show (ib,Obj.cells (inC (aD H (16 + 2 * k + 1))) 162 (0,0)) ∈ ([(ib,Obj.cells (inC (aD H (16 + 2 * k + 1))) 162 (0,0)),(hx,Obj.cells (bv H) 25 (0,0))] ++ (Own.o 79 (jv (rowP H bs k)) own ++ [])) from (List.mem_append_left _ (List.mem_of_getElem? (i := 0) rfl)))))) (fun _ _ => (.cons _ (.cons_cons _ (List.nil_sublist _)))) ?_
      rintro ⟨⟩ -
      refine CfgA.pure [5,6] [] (some [1,2,7,8,10,29,30,36,42,45]) (l' := tF 10 5) kr kr (.cons _ (.cons_cons _ (List.nil_sublist _))) 5 rfl (Γ' := [(42,[],.int .i64 (((((gb H (16 + 2 * k)).toNat) * 256) ||| ((gb H (16 + 2 * k + 1)).toNat) : Nat) : Int)),(45,[],.pointer (some ⟨sb,(addO off (k * 512)),none⟩)),(36,[],.slice (Own.a own) k (Own.c own)),(30,[],.int .i64 (k : Int)),(29,[],.int .i64 ((cntP H) : Int)),(10,[],.slice (Own.a own) k (Own.c own)),(8,[],.int .u64 ((numP H) : Int)),(7,[],.pointer (some ⟨ib,0,none⟩)),(2,[],.pointer (some ⟨hx,0,none⟩)),(1,[],.slice (some ⟨sb,off,none⟩) bs.length cap)]) (nd := (fun _ => [((-9223372036854775808 : Int) ≤ ((gb H (16 + 2 * k + 1)).toNat : Int) ∧ ((gb H (16 + 2 * k + 1)).toNat : Int) ≤ 9223372036854775807),((0 ≤ (((gb H (16 + 2 * k)).toNat : Int) * 256) ∧ (((gb H (16 + 2 * k)).toNat : Int) * 256) ≤ 9223372036854775807) ∧ 0 ≤ ((gb H (16 + 2 * k + 1)).toNat : Int) ∧ ((gb H (16 + 2 * k + 1)).toNat : Int) ≤ 9223372036854775807)])) (fun _ => kr) ⟨(by have hq1 := byteLt (gb H (16 + 2 * k)); have hq2 := byteLt (gb H (16 + 2 * k + 1)); omega),(by have hq1 := byteLt (gb H (16 + 2 * k)); have hq2 := byteLt (gb H (16 + 2 * k + 1)); omega),trivial⟩ ?_
      refine Ae 10 rfl 4  (Eff.quiet (raw := false) (orc := some (.agg (bv (bs.getD k zb)))) (v := .agg (bv (bs.getD k zb))) (nd := (fun S => [(∀ w1,S w1 → (loadVar 25 ⟨sb,(addO off (k * 512)),none⟩).run Tryz.prog w1 = .ok (.agg (bv (bs.getD k zb))) w1)])) (fun _ => kr) ⟨(fun w1 h => load_bytes Tryz.underlying25 rfl kr (hB.at' k) (fun j hj => by rw [addO_eq]; exact (cell_cells (h.ro _ hmem)).trans (blk_cell hB hcs om hj))),trivial⟩ kr) (fun _ _ => (.cons _ (.cons_cons _ (List.nil_sublist _)))) ?_
      rintro ⟨⟩ -
      refine Ap [11] [(0,false,some (.agg (jc ((((((gb H (16 + 2 * k)).toNat) * 256) ||| ((gb H (16 + 2 * k + 1)).toNat) : Nat) : Int),bs.getD k zb)).toArray))] (some [1,2,7,8,10,29,30,36,47]) #[true,true,true,true,true,true,true,true,true,true,true,true,false,false,false] (.cons _ (.cons_cons _ (List.nil_sublist _))) 3 (fun S => [(∀ w1,S w1 → (Instr.build 79 #[(0,.int .i64 (((((gb H (16 + 2 * k)).toNat) * 256) ||| ((gb H (16 + 2 * k + 1)).toNat) : Nat) : Int)),(1,.agg (bv (bs.getD k zb)))]).run Tryz.prog w1 = .ok (.agg (jc ((((((gb H (16 + 2 * k)).toNat) * 256) ||| ((gb H (16 + 2 * k + 1)).toNat) : Nat) : Int),bs.getD k zb)).toArray) w1)]) ⟨(fun w1 _ => build_wr (((((gb H (16 + 2 * k)).toNat) * 256) ||| ((gb H (16 + 2 * k + 1)).toNat) : Nat) : Int) (hB.at' k) w1),trivial⟩ ?_
      refine Ae 12 rfl 2  (Eff.buildAgg (vs := (jc ((((((gb H (16 + 2 * k)).toNat) * 256) ||| ((gb H (16 + 2 * k + 1)).toNat) : Nat) : Int),bs.getD k zb)).toArray) (n := 513) rfl kr Tryz.underlying28 kr (z := (.agg (jc wz).toArray)) kr (by rw [List.size_toArray]; exact jc_len (hB.at' k)) (by decide) (by decide)) (fun _ _ => (.cons _ (.cons _ (.cons_cons _ (List.nil_sublist _))))) ?_
      rintro x2 ⟨hx2,nx2⟩
      refine Ae 13 rfl 1  (Eff.appendF rfl 513 520 Tryz.underlying28 kr (z := (.agg (jc wz).toArray)) kr kr own (xs := (jv (rowP H bs k))) hok kr (b2 := x2) (off2 := 0) (m := 1) (c2 := 1) kr (jc ((((((gb H (16 + 2 * k)).toNat) * 256) ||| ((gb H (16 + 2 * k + 1)).toNat) : Nat) : Int),bs.getD k zb)) (jc_len (hB.at' k)) (jc_all _) [(x2,.cells ((jc ((((((gb H (16 + 2 * k)).toNat) * 256) ||| ((gb H (16 + 2 * k + 1)).toNat) : Nat) : Int),bs.getD k zb)).toArray) 79 (0,0)),(ib,.cells (inC (aD H (16 + 2 * k + 1 + 1))) 162 (0,0)),(hx,.cells (bv H) 25 (0,0))] [] (by rfl) (fun w1 h j v hj => wr_src h 0 rfl hj) om om) (fun _ _ => (.cons _ (.cons _ (.cons_cons _ (List.nil_sublist _))))) ?_
      rintro o9 ko9
      refine Ap [14] [] (some [1,2,7,8,10,29,30]) #[true,true,true,true,true,true,true,true,true,true,true,true,true,true,true] (.cons _ (.cons _ (.cons_cons _ (List.nil_sublist _)))) 0 n0 trivial ?_
      refine CfgA.done kr ?_
      refine Rg [1,2,7,8,10,29,30] [] (fun _ => [((-9223372036854775808 : Int) ≤ ((k : Int) + 1) ∧ ((k : Int) + 1) ≤ 9223372036854775807)]) ⟨om,trivial⟩ ?_
      have hrv : ((jv (rowP H bs k)) ++ (jc ((((((gb H (16 + 2 * k)).toNat) * 256) ||| ((gb H (16 + 2 * k + 1)).toNat) : Nat) : Int),bs.getD k zb))) = jv (rowP H bs (k + 1)) := by rw [rowP_succ,jv_app,jv_one,show (atP H k : Int) = _ from at_or H k]
      refine Cfg.setO (congrArg (fun (xq : Array Value) => (([(x2,.cells ((jc ((((((gb H (16 + 2 * k)).toNat) * 256) ||| ((gb H (16 + 2 * k + 1)).toNat) : Nat) : Int),bs.getD k zb)).toArray) 79 (0,0)),(ib,.cells xq 162 (0,0)),(hx,.cells (bv H) 25 (0,0))] ++ (Own.o 79 ((jv (rowP H bs k)) ++ (jc ((((((gb H (16 + 2 * k)).toNat) * 256) ||| ((gb H (16 + 2 * k + 1)).toNat) : Nat) : Int),bs.getD k zb))) o9 ++ [])) : List (Nat × Obj))) (show _ = (inC (aD H (16 + 2 * (k + 1)))) from rfl)) ?_
      refine Cfg.setO (congrArg (fun (xq : List Value) => (([(x2,.cells ((jc ((((((gb H (16 + 2 * k)).toNat) * 256) ||| ((gb H (16 + 2 * k + 1)).toNat) : Nat) : Int),bs.getD k zb)).toArray) 79 (0,0)),(ib,.cells (inC (aD H (16 + 2 * (k + 1)))) 162 (0,0)),(hx,.cells (bv H) 25 (0,0))] ++ (Own.o 79 xq o9 ++ [])) : List (Nat × Obj))) (show _ = (jv (rowP H bs (k + 1))) from hrv)) ?_
      refine Cfg.again rfl (k + 1,o9) ⟨by omega,hrv ▸ ko9⟩ (by show cntP H - (k + 1) < cntP H - k; omega) (Conv.mk kr) (.cons _ (.cons_cons _ (.cons_cons _ (List.Sublist.refl _))))
     ·
      refine Ie rfl  (Eff.quiet (raw := false) (orc := some (.agg (bv (bs.getD k zb)))) (v := .agg (bv (bs.getD k zb))) (nd := (fun S => [(∀ w1,S w1 → (loadVar 25 ⟨sb,(addO off (k * 512)),none⟩).run Tryz.prog w1 = .ok (.agg (bv (bs.getD k zb))) w1)])) (fun _ => kr) ⟨(fun w1 h => load_bytes Tryz.underlying25 rfl kr (hB.at' k) (fun j hj => by rw [addO_eq]; exact (cell_cells (h.ro _ hmem)).trans (blk_cell hB hcs om hj))),trivial⟩ kr) (fun _ _ => (.cons _ (.cons_cons _ (List.nil_sublist _)))) ?_
      rintro ⟨⟩ -
      refine Ae 4 rfl 6  (Eff.callM (vs := [.pointer (some ⟨ib,0,none⟩)]) (.int .u8 ((gb H (16 + 2 * k + 1)).toNat : Int)) 0 (b := ib) (ob := Obj.cells (inC (aD H (16 + 2 * k + 1))) 162 (0,0)) (Obj.cells (inC (aD H (16 + 2 * k + 1 + 1))) 162 (0,0)) rfl Tryz.func46 rfl rfl kr kr (fun w1 h => jByte ib H (16 + 2 * k + 1) w1 om (h.own (ib,Obj.cells (inC (aD H (16 + 2 * k + 1))) 162 (0,0)) (show (ib,Obj.cells (inC (aD H (16 + 2 * k + 1))) 162 (0,0)) ∈ ([(ib,Obj.cells (inC (aD H (16 + 2 * k + 1))) 162 (0,0)),(hx,Obj.cells (bv H) 25 (0,0))] ++ (Own.o 79 (jv (rowP H bs k)) own ++ [])) from (List.mem_append_left _ (List.mem_of_getElem? (i := 0) rfl)))))) (fun _ _ => (.cons _ (.cons_cons _ (List.nil_sublist _)))) ?_
      rintro ⟨⟩ -
      refine Ap [5,6,11] [dZ,dZ,(0,false,some (.agg (jc ((((((gb H (16 + 2 * k)).toNat) * 256) ||| ((gb H (16 + 2 * k + 1)).toNat) : Nat) : Int),bs.getD k zb)).toArray))] (some [1,2,7,8,10,29,30,36,47]) #[true,true,true,true,true,true,true,true,true,true,true,true,false,false,false] (.cons _ (.cons_cons _ (List.nil_sublist _))) 3 (fun S => [((-9223372036854775808 : Int) ≤ ((gb H (16 + 2 * k + 1)).toNat : Int) ∧ ((gb H (16 + 2 * k + 1)).toNat : Int) ≤ 9223372036854775807),((0 ≤ (((gb H (16 + 2 * k)).toNat : Int) * 256) ∧ (((gb H (16 + 2 * k)).toNat : Int) * 256) ≤ 9223372036854775807) ∧ 0 ≤ ((gb H (16 + 2 * k + 1)).toNat : Int) ∧ ((gb H (16 + 2 * k + 1)).toNat : Int) ≤ 9223372036854775807),(∀ w1,S w1 → (Instr.build 79 #[(0,.int .i64 (((((gb H (16 + 2 * k)).toNat) * 256) ||| ((gb H (16 + 2 * k + 1)).toNat) : Nat) : Int)),(1,.agg (bv (bs.getD k zb)))]).run Tryz.prog w1 = .ok (.agg (jc ((((((gb H (16 + 2 * k)).toNat) * 256) ||| ((gb H (16 + 2 * k + 1)).toNat) : Nat) : Int),bs.getD k zb)).toArray) w1)]) ⟨(by have hq1 := byteLt (gb H (16 + 2 * k)); have hq2 := byteLt (gb H (16 + 2 * k + 1)); omega),(by have hq1 := byteLt (gb H (16 + 2 * k)); have hq2 := byteLt (gb H (16 + 2 * k + 1)); omega),(fun w1 _ => build_wr (((((gb H (16 + 2 * k)).toNat) * 256) ||| ((gb H (16 + 2 * k + 1)).toNat) : Nat) : Int) (hB.at' k) w1),trivial⟩ ?_
      refine Ae 12 rfl 2  (Eff.buildAgg (vs := (jc ((((((gb H (16 + 2 * k)).toNat) * 256) ||| ((gb H (16 + 2 * k + 1)).toNat) : Nat) : Int),bs.getD k zb)).toArray) (n := 513) rfl kr Tryz.underlying28 kr (z := (.agg (jc wz).toArray)) kr (by rw [List.size_toArray]; exact jc_len (hB.at' k)) (by decide) (by decide)) (fun _ _ => (.cons _ (.cons _ (.cons_cons _ (List.nil_sublist _))))) ?_
      rintro x3 ⟨hx3,nx3⟩
      refine Ae 13 rfl 1  (Eff.appendF rfl 513 520 Tryz.underlying28 kr (z := (.agg (jc wz).toArray)) kr kr own (xs := (jv (rowP H bs k))) hok kr (b2 := x3) (off2 := 0) (m := 1) (c2 := 1) kr (jc ((((((gb H (16 + 2 * k)).toNat) * 256) ||| ((gb H (16 + 2 * k + 1)).toNat) : Nat) : Int),bs.getD k zb)) (jc_len (hB.at' k)) (jc_all _) [(x3,.cells ((jc ((((((gb H (16 + 2 * k)).toNat) * 256) ||| ((gb H (16 + 2 * k + 1)).toNat) : Nat) : Int),bs.getD k zb)).toArray) 79 (0,0)),(ib,.cells (inC (aD H (16 + 2 * k + 1 + 1))) 162 (0,0)),(hx,.cells (bv H) 25 (0,0))] [] (by rfl) (fun w1 h j v hj => wr_src h 0 rfl hj) om om) (fun _ _ => (.cons _ (.cons _ (.cons_cons _ (List.nil_sublist _))))) ?_
      rintro o11 ko11
      refine Ap [14] [] (some [1,2,7,8,10,29,30]) #[true,true,true,true,true,true,true,true,true,true,true,true,true,true,true] (.cons _ (.cons _ (.cons_cons _ (List.nil_sublist _)))) 0 n0 trivial ?_
      refine CfgA.done kr ?_
      refine Rg [1,2,7,8,10,29,30] [] (fun _ => [((-9223372036854775808 : Int) ≤ ((k : Int) + 1) ∧ ((k : Int) + 1) ≤ 9223372036854775807)]) ⟨om,trivial⟩ ?_
      have hrv : ((jv (rowP H bs k)) ++ (jc ((((((gb H (16 + 2 * k)).toNat) * 256) ||| ((gb H (16 + 2 * k + 1)).toNat) : Nat) : Int),bs.getD k zb))) = jv (rowP H bs (k + 1)) := by rw [rowP_succ,jv_app,jv_one,show (atP H k : Int) = _ from at_or H k]
      refine Cfg.setO (congrArg (fun (xq : Array Value) => (([(x3,.cells ((jc ((((((gb H (16 + 2 * k)).toNat) * 256) ||| ((gb H (16 + 2 * k + 1)).toNat) : Nat) : Int),bs.getD k zb)).toArray) 79 (0,0)),(ib,.cells xq 162 (0,0)),(hx,.cells (bv H) 25 (0,0))] ++ (Own.o 79 ((jv (rowP H bs k)) ++ (jc ((((((gb H (16 + 2 * k)).toNat) * 256) ||| ((gb H (16 + 2 * k + 1)).toNat) : Nat) : Int),bs.getD k zb))) o11 ++ [])) : List (Nat × Obj))) (show _ = (inC (aD H (16 + 2 * (k + 1)))) from rfl)) ?_
      refine Cfg.setO (congrArg (fun (xq : List Value) => (([(x3,.cells ((jc ((((((gb H (16 + 2 * k)).toNat) * 256) ||| ((gb H (16 + 2 * k + 1)).toNat) : Nat) : Int),bs.getD k zb)).toArray) 79 (0,0)),(ib,.cells (inC (aD H (16 + 2 * (k + 1)))) 162 (0,0)),(hx,.cells (bv H) 25 (0,0))] ++ (Own.o 79 xq o11 ++ [])) : List (Nat × Obj))) (show _ = (jv (rowP H bs (k + 1))) from hrv)) ?_
      refine Cfg.again rfl (k + 1,o11) ⟨by omega,hrv ▸ ko11⟩ (by show cntP H - (k + 1) < cntP H - k; omega) (Conv.mk kr) (.cons _ (.cons_cons _ (.cons_cons _ (List.Sublist.refl _))))
    ·have c3 := (of_decide_eq_false c3r)
     obtain rfl : k = cntP H := by omega
     have hokc : OwnOk own 513 (rowP H bs (cntP H)).length (jv (rowP H bs (cntP H))) := by rw [rowP_len]; exact hok
     refine Conv.cfg (Γ' := [(10,[],.slice (Own.a own) ((cntP H)) (Own.c own)),(8,[],.int .u64 ((numP H) : Int)),(2,[],.pointer (some ⟨hx,0,none⟩))]) (Conv.mk kr) ?_
     refine Cfg.begA rfl kr [(hx,.cells (bv H) 25 (0,0))] ?_
     refine Ap [0,1,3] [dZ,dZ,(0,false,some (.agg (bv H)))] (some [8,10,51,52,54]) #[true,true,false,true,false] (.cons _ (.cons_cons _ (List.nil_sublist _))) 2 (fun S => [(∀ w1,S w1 → (loadVar 25 ⟨hx,0,none⟩).run Tryz.prog w1 = .ok (.agg (bv H)) w1)]) ⟨(fun w1 h => h.oload 0 rfl Tryz.underlying25 rfl (n := 512) kr ((bv_size _).trans hH)),trivial⟩ ?_
     refine Ae 2 rfl 1  (Eff.callA (vs := [.int .u64 ((numP H) : Int),.slice (Own.a own) ((cntP H)) (Own.c own)]) (.agg (bv (headF (numP H) (rowP H bs (cntP H))))) rfl Tryz.func7 rfl rfl kr (fun w1 h => by have h9 := jHead (numP H) (Own.a own) (Own.c own) (rowP H bs (cntP H)) (Own.o 79 (jv (rowP H bs (cntP H))) own) w1 hnl (inW_own hokc) (rowP_w hB H _) (by rw [rowP_len]; unfold maxLen; omega) (own_le hokc) (fun e he => (List.mem_cons.1 he).elim (fun h1 => h1 ▸ h.ro _ (List.mem_cons_self ..)) (fun h1 => h.own e (show e ∈ ([(ib,Obj.cells (inC (aD H (16 + 2 * cntP H))) 162 (0,0)),(hx,Obj.cells (bv H) 25 (0,0))] ++ (Own.o 79 (jv (rowP H bs (cntP H))) own ++ [])) from (List.mem_append_right _ (List.mem_append_left _ h1))))) hK; rw [rowP_len] at h9; exact h9)) (fun _ _ => (.cons _ (.cons_cons _ (List.nil_sublist _)))) ?_
     rintro ⟨⟩ -
     refine CfgA.pure [4] [(0,false,some (.bool ((headF (numP H) (rowP H bs (cntP H))) == H)))] (some [8,10,55]) (l' := #[true,true,true,true,true]) kr kr (.cons _ (.cons_cons _ (List.nil_sublist _))) 0 rfl (Γ' := [(55,[],.bool (!((headF (numP H) (rowP H bs (cntP H))) == H))),(10,[],.slice (Own.a own) ((cntP H)) (Own.c own)),(8,[],.int .u64 ((numP H) : Int))]) (nd := (fun S => [(∀ w1,S w1 → (Op.equal 25 (.agg (bv (headF (numP H) (rowP H bs (cntP H))))) (.agg (bv H))).run Tryz.prog w1 = .ok ((headF (numP H) (rowP H bs (cntP H))) == H) w1)])) (fun _ => kr) ⟨(fun _ _ => equal_bv Tryz.underlying25 Tryz.underlying5 kr (headF_len _ _) hH),trivial⟩ ?_
     refine CfgA.done kr ?_
     refine Cfg.cond rfl (b := (!((headF (numP H) (rowP H bs (cntP H))) == H))) kr (fun c4r => ?_) (fun c4r => ?_)
     ·have c4 : (((headF (numP H) (rowP H bs (cntP H))) == H) = false) := (notT c4r)
      refine Rg [4,5,6] [] n0 trivial ?_
      refine Cfg.ret rfl (rs := [.tmp 4,.tmp 5,.tmp 6]) rfl [.int .u64 0,.slice none 0 0,.bool false] ⟨kr,by kernel_rfl,by kernel_rfl,trivial⟩ (fun w1 hp => ?_)
      exact par_ret0 (par_no3 (by simpa using c4r)) hp
     ·have c4 : (((headF (numP H) (rowP H bs (cntP H))) == H) = true) := (notF c4r)
      refine Rg [4,5,6] [] n0 trivial ?_
      refine Cfg.ret rfl (rs := [.tmp 4,.tmp 5,.tmp 6]) rfl [.int .u64 ((numP H) : Int),.slice (Own.a own) ((cntP H)) (Own.c own),.bool true] ⟨kr,by kernel_rfl,by kernel_rfl,trivial⟩ (fun w1 hp => ?_)
      have hG : parG H bs = true := par_ok hmk om (by simpa using c4r)
      exact par_ret own hG hokc hp rfl
end Go.Proofs.YtohjpggjgomgoaaGreatDoor
